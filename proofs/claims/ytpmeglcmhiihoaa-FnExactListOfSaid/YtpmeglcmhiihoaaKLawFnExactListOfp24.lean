/- Texts of this claim, merged by a program of this session. -/
import Derived.Test.YtpmeglcmhiihoaaKLawFnExactListOfp22
section
namespace Go.Proofs.Ytpmeglcmhiihoaa.Q
open Go.RowKit Go.Proofs.YtpmeglcmhiihoaaW.PrintWords Go.Proofs.YtpmeglcmhiihoaaW.PrintLast Go.Proofs.YtpmeglcmhiihoaaW.PrintMore
attribute [local go_sem] max2_int min2_int max_two min_two max_three min_three max_four min_four max2_str min2_str str_geq str_gtr str_leq   -- for this text's walks alone
set_option linter.unusedVariables false
set_option linter.unusedSimpArgs false

def impl_inRange.f (a0 : Int) (a1 : Int) (a2 : Int) : Option (Bool):=if a1≤a0 then (some (decide (a0≤a2))) else (some false)
set_option maxHeartbeats 8000000 in
set_option maxRecDepth 100000 in
theorem impl_inRange.calls (a0 : Int) (a1 : Int) (a2 : Int) (r : Bool) (w : World) (h : impl_inRange.f a0 a1 a2=some r) :
  Calls Try.prog 85 #[.int .i64 a0,.int .i64 a1,.int .i64 a2] w fun e w' => e = .returned (.bool r)∧Drawn0 w w':=by
 have H : (if a1≤a0 then (some (decide (a0≤a2))) else (some false))=some r:=h;clear h
 by_cases c4 : a1≤a0
 ·
  rw [if_pos c4] at H
  have c4b0 : decide (a1≤a0)=true:=decide_eq_true c4;clear c4;obtain rfl:=zU H
  go_enter Try.func85,Try.ntmps85
  go_wp2
  go_ret
  exact ⟨by first|rfl|(simp;done)|(simp [*];done),by repeat (first|exact yp _|apply yq)⟩
 rw [if_neg c4] at H;have c4b0 : decide (a1≤a0)=false:=decide_eq_false c4;clear c4;obtain rfl:=zU H
 go_enter Try.func85,Try.ntmps85
 go_wp2
 go_ret
 exact ⟨by first|rfl|(simp;done)|(simp [*];done),by repeat (first|exact yp _|apply yq)⟩

end Go.Proofs.Ytpmeglcmhiihoaa.Q
end
section
namespace Go.Proofs.Ytpmeglcmhiihoaa.Q
open Go.RowKit Go.Proofs.YtpmeglcmhiihoaaW.PrintWords Go.Proofs.YtpmeglcmhiihoaaW.PrintLast Go.Proofs.YtpmeglcmhiihoaaW.PrintMore
attribute [local go_sem] max2_int min2_int max_two min_two max_three min_three max_four min_four max2_str min2_str str_geq str_gtr str_leq   -- for this text's walks alone
set_option linter.unusedVariables false
set_option linter.unusedSimpArgs false

def impl_isNumber.f (a0 : Int) : Option (Bool):=(impl_inRange.f a0 (-1000000000000) 1000000000000).bind fun t170 => (some t170)
set_option maxHeartbeats 8000000 in
set_option maxRecDepth 100000 in
theorem impl_isNumber.calls (a0 : Int) (r : Bool) (w : World) (h : impl_isNumber.f a0=some r) :
  Calls Try.prog 86 #[.int .i64 a0] w fun e w' => e = .returned (.bool r)∧Drawn0 w w':=by
 have H : ((impl_inRange.f a0 (-1000000000000) 1000000000000).bind fun t170 => (some t170))=some r:=h;clear h;replace H:=zT.mp H;obtain ⟨t170,A20,H⟩:=H;replace H : (some t170)=some r:=H;have A2:=zh A20;clear A20;obtain rfl:=zU H
 go_enter Try.func86,Try.ntmps86
 go_wp2_with (first|((with_reducible refine zJ (f:=85) rfl ?_);refine yj (some 4) rfl rfl Try.func85 (by kernel_rfl) rfl #[.int .i64 a0,.int .i64 (-1000000000000),.int .i64 1000000000000] rfl (by (try simp only [zt,zu,zv]);first|done|rfl|(simp only [zw,zx];rfl)|(simp only [yr,ys,zV,zW];rfl)) ?_;(with_reducible refine (impl_inRange.calls  a0 (-1000000000000) 1000000000000 t170 _ A2.out).mono ?_);rintro e w' ⟨rfl,⟨nd,rfl⟩⟩;refine ⟨_,rfl,?_⟩))
 go_ret
 exact ⟨by first|rfl|(simp;done)|(simp [*];done),by repeat (first|exact yp _|apply yq)⟩

end Go.Proofs.Ytpmeglcmhiihoaa.Q
end
section
namespace Go.Proofs.Ytpmeglcmhiihoaa.Q
open Go.RowKit Go.Proofs.YtpmeglcmhiihoaaW.PrintWords Go.Proofs.YtpmeglcmhiihoaaW.PrintLast Go.Proofs.YtpmeglcmhiihoaaW.PrintMore
attribute [local go_sem] max2_int min2_int max_two min_two max_three min_three max_four min_four max2_str min2_str str_geq str_gtr str_leq   -- for this text's walks alone
set_option linter.unusedVariables false
set_option linter.unusedSimpArgs false

def impl_big.l0 : Nat→Int→List Int→Int→Int→Option (Int)
 | 0,_,_,_,_ => none
 | k + 1,x3,x6,x7,x8 => if x8<x7 then (if 0≤x8 then (if x8<(x6.length : Int) then (impl_big.l0 k (Go.bits .or .i64 (wrap64 (x3 * 256)) (wrap64 (rd x6 x8))) x6 x7 (wrap64 (x8 + 1))) else (none)) else (none)) else (some x3)
def impl_big.f (k : Nat) (l0 : List Int) : Option (Int):=impl_big.l0 k 0 l0 (l0.length : Int) 0
theorem impl_big.mono_l : ∀ k,(∀ y0 y1 y2 y3,LeO (impl_big.l0 k y0 y1 y2 y3) (impl_big.l0 (k + 1) y0 y1 y2 y3))
 | 0 => fun _ _ _ _ r h => by simp [impl_big.l0] at h
 | k + 1 => by
  have ih0:=impl_big.mono_l k;intro y0 y1 y2 y3;unfold impl_big.l0
  repeat' first|(with_reducible exact ih0 _ _ _ _)|(with_reducible exact zQ _)|(with_reducible exact zN _)|(with_reducible refine zP ?_ ?_)|(with_reducible refine zO ?_ (fun _ => ?_))|refine zP ?_ ?_|refine zO ?_ (fun _ => ?_)
theorem impl_big.mono : ∀ a0 k,LeO (impl_big.f k a0) (impl_big.f (k + 1) a0):=by
 intro a0 k;have ih0:=impl_big.mono_l k;unfold impl_big.f
 repeat' first|(with_reducible exact ih0 _ _ _ _)|(with_reducible exact zQ _)|(with_reducible exact zN _)|(with_reducible refine zP ?_ ?_)|(with_reducible refine zO ?_ (fun _ => ?_))|refine zP ?_ ?_|refine zO ?_ (fun _ => ?_)
set_option maxHeartbeats 8000000 in
set_option maxRecDepth 100000 in
theorem impl_big.calls (k : Nat) (A0 : Option Addr) (c0 : Nat) (l0 : List Int) (r : Int) (w : World) (hr0 : Kd.C (Kd.int .u8) w A0 l0.length l0) (hc0 : l0.length≤c0) (h : impl_big.f k l0=some r) :
  Calls Try.prog 114 #[.slice A0 l0.length c0] w fun e w' => e = .returned (.int .i64 r)∧Drawn0 w w':=by
 have HR0:=zh hr0;have HC0:=zh hc0;clear hr0 hc0;have H : (impl_big.l0 k 0 l0 (l0.length : Int) 0)=some r:=h;clear h;have H':=zh H;clear H
 go_enter Try.func114,Try.ntmps114
 go_wp2
 go_loopg [3,8] k (fun kq v3 v8 w' => ∃ (x3_1 : Int) (x8_1 : Int),v3 = .int .i64 x3_1∧v8 = .int .i64 x8_1∧Aside0 (impl_big.l0 kq x3_1 l0 (l0.length : Int) x8_1=some r)∧Aside0 (kq≤k)∧Drawn0 w w')
 case atStart => exact ⟨(0),(0),(by first|rfl|(simp;done)|(simp [*];done)),(by first|rfl|(simp;done)|(simp [*];done)),H',⟨ye _⟩,by repeat (first|exact yp _|apply yq)⟩
 case round =>
  clear H'
  try clear c1
  obtain ⟨x3_1,x8_1,rfl,rfl,HA,HK1,⟨m1,rfl⟩⟩:=hrel
  cases gk with
  | zero => exact absurd HA.out (by simp [impl_big.l0])
  | succ k1 =>
   have H:=HA.out;clear HA;simp only [impl_big.l0] at H
   by_cases c2 : x8_1<(l0.length : Int)
   ·
    rw [if_pos c2] at H
    have c2b0 : decide (x8_1<(l0.length : Int))=true:=decide_eq_true c2;clear c2
    by_cases c3 : 0≤x8_1
    ·
     rw [if_pos c3] at H
     have c3b0 : decide (0≤x8_1)=true:=decide_eq_true c3;clear c3
     by_cases c4 : x8_1<(l0.length : Int)
     ·
      rw [if_pos c4] at H
      have c4b0 : decide (x8_1<(l0.length : Int))=true:=decide_eq_true c4;clear c4;have H':=zh H;clear H;have p175 : 0≤(x8_1 : Int):=zy (by first|(with_reducible assumption)|assumption);have q175 : x8_1<(l0.length : Int):=zy (by first|(with_reducible assumption)|assumption);obtain ⟨ad175,e175,hx175_0⟩:=Kd.at_int HR0.out x8_1 p175 q175
      cases e175
      replace p175:=eq_true p175;replace q175:=eq_true q175
      go_wp2
      go_roundg k1
      case measure => have:=HK1.out;omega
      case rel => exact ⟨(Go.bits .or .i64 (wrap64 (x3_1 * 256)) (wrap64 (rd l0 x8_1))),(wrap64 (x8_1 + 1)),(by first|rfl|(simp;done)|(simp [*];done)),(by first|rfl|(simp;done)|(simp [*];done)),H',⟨by have:=HK1.out;omega⟩,by repeat (first|exact yp _|apply yq)⟩
     rw [if_neg c4] at H;exact absurd H (by simp)
    rw [if_neg c3] at H;exact absurd H (by simp)
   rw [if_neg c2] at H;have c2b0 : decide (x8_1<(l0.length : Int))=false:=decide_eq_false c2;clear c2;obtain rfl:=zU H
   go_wp2
   go_ret
   exact ⟨by first|rfl|(simp;done)|(simp [*];done),by repeat (first|exact yp _|apply yq)⟩

end Go.Proofs.Ytpmeglcmhiihoaa.Q
end
section
namespace Go.Proofs.Ytpmeglcmhiihoaa.Q
open Go.RowKit Go.Proofs.YtpmeglcmhiihoaaW.PrintWords Go.Proofs.YtpmeglcmhiihoaaW.PrintLast Go.Proofs.YtpmeglcmhiihoaaW.PrintMore
attribute [local go_sem] max2_int min2_int max_two min_two max_three min_three max_four min_four max2_str min2_str str_geq str_gtr str_leq
set_option linter.unusedVariables false
set_option linter.unusedSimpArgs false

def strings_Repeat.f (a0 : ByteArray) (a1 : Int) : Option (ByteArray):=if 0≤a1 then (if a0.size * a1.toNat≤140737488355328 then (if a1≤9223372036854775807 then (some ⟨(Lib.repeatL a0.data.toList a1.toNat).toArray⟩) else (none)) else (none)) else (none)
theorem strings_Repeat.calls (a0 : ByteArray) (a1 : Int) (r : ByteArray) (w : World) (h : strings_Repeat.f a0 a1=some r) :
  Calls Try.prog 115 #[.string a0,.int .i64 a1] w fun e w' => e = .returned (.string r)∧Below w.heap.size w w':=by
 unfold strings_Repeat.f at h
 by_cases h0 : 0≤a1
 ·
  rw [if_pos h0] at h
  by_cases h1 : a0.size * a1.toNat≤140737488355328
  ·
   rw [if_pos h1] at h
   by_cases h2 : a1≤9223372036854775807
   ·
    rw [if_pos h2] at h
    obtain rfl:=zU h;have:=Try.strings_Repeat a0 a1.toNat w (by omega) h1;rw [Int.toNat_of_nonneg h0] at this;exact this
   rw [if_neg h2] at h;exact absurd h (by simp)
  rw [if_neg h1] at h;exact absurd h (by simp)
 rw [if_neg h0] at h;exact absurd h (by simp)

end Go.Proofs.Ytpmeglcmhiihoaa.Q
end
section
namespace Go.Proofs.Ytpmeglcmhiihoaa.Q
open Go.RowKit Go.Proofs.YtpmeglcmhiihoaaW.PrintWords Go.Proofs.YtpmeglcmhiihoaaW.PrintLast Go.Proofs.YtpmeglcmhiihoaaW.PrintMore
attribute [local go_sem] max2_int min2_int max_two min_two max_three min_three max_four min_four max2_str min2_str str_geq str_gtr str_leq   -- for this text's walks alone
set_option linter.unusedVariables false
set_option linter.unusedSimpArgs false

def IsS74 (w0 W : World) (g : Nat) (f0 : ByteArray) (f1 : Bool) : Prop:=W.heap[g]? = some (.cells #[.string f0,.bool f1] 74 (0,0))∧w0.heap.size≤g
theorem IsS74.grown {w0 W : World} {g : Nat} {f0 : ByteArray} {f1 : Bool} {W1 : World} {row : Option Nat} (h : IsS74 w0 W g f0 f1) (hw : W.grownBy W1 row) (hne : some g≠row) : IsS74 w0 W1 g f0 f1:=by
 obtain ⟨hb,hg⟩:=h;exact ⟨yw hb hw hne,hg⟩
theorem IsS74.fresh {w0 W : World} {g : Nat} {f0 : ByteArray} {f1 : Bool} (h : IsS74 w0 W g f0 f1) : ∀ k,W.heap.size≤k→k≠g:=by
 obtain ⟨hb,hg⟩:=h;exact Kd.freshB hb
theorem IsS74.kept {w0 W : World} {g : Nat} {f0 : ByteArray} {f1 : Bool} {W1 : World} {S : Nat→Prop} (h : IsS74 w0 W g f0 f1) (hk : Kept W W1 S) (hne : ¬ S g) : IsS74 w0 W1 g f0 f1:=by
 obtain ⟨hb,hg⟩:=h;exact ⟨blk_kept hb hk hne,hg⟩
theorem IsS74.below {w0 W : World} {g : Nat} {f0 : ByteArray} {f1 : Bool} {W1 : World} (h : IsS74 w0 W g f0 f1) (hw : Below W.heap.size W W1) : IsS74 w0 W1 g f0 f1:=h.grown (grown_of_below hw none) (by simp)
theorem IsS74.alloc {w0 W : World} {g : Nat} {f0 : ByteArray} {f1 : Bool} (h : IsS74 w0 W g f0 f1) (o : Obj) : IsS74 w0 (W.alloc o) g f0 f1:=h.below (za (Below.refl _ _) o)
theorem IsS74.drewN {w0 W : World} {g : Nat} {f0 : ByteArray} {f1 : Bool} (h : IsS74 w0 W g f0 f1) (m : Nat) : IsS74 w0 (W.drewN m) g f0 f1:=h
theorem IsS74.drew {w0 W : World} {g : Nat} {f0 : ByteArray} {f1 : Bool} (h : IsS74 w0 W g f0 f1) : IsS74 w0 W.drew g f0 f1:=h
theorem IsS74.at_ {w0 W : World} {g : Nat} {f0 : ByteArray} {f1 : Bool} {w' : World} {m : Nat} (hq : W.drewN m=w') (h : IsS74 w0 W g f0 f1) : IsS74 w0 w' g f0 f1:=by subst hq;exact IsS74.drewN h m
theorem IsS74.apart {w0 W : World} {g : Nat} {f0 : ByteArray} {f1 : Bool} {α : Type} {d : Kd α} {e : Nat} {base : Nat} {ok : Nat→Prop} {v : Value} {xs : List α} (h : IsS74 w0 W g f0 f1) (ho : d.R e W base ok v xs) (ht : ∀ q,q ∈ e :: d.E→q≠74) : d.R e W base (fun k => ok k∧k≠g) v xs:=by
 obtain ⟨hb,hg⟩:=h;exact yf ho hb ht
theorem IsS74.own_ne {w0 W : World} {g : Nat} {f0 : ByteArray} {f1 : Bool} {α : Type} {d : Kd α} {e : Nat} {base : Nat} {ok : Nat→Prop} {v : Value} {xs : List α} (h : IsS74 w0 W g f0 f1) (ho : d.R e W base ok v xs) (ht : e≠74) : some g≠v.ownBlock:=by
 obtain ⟨hb,hg⟩:=h;exact Kd.R_ne ho hb ht
theorem IsS74.lt {w0 W : World} {g : Nat} {f0 : ByteArray} {f1 : Bool} (h : IsS74 w0 W g f0 f1) : g<W.heap.size:=by
 obtain ⟨hb,hg⟩:=h;exact yi hb
theorem IsS74.ge {w0 W : World} {g : Nat} {f0 : ByteArray} {f1 : Bool} (h : IsS74 w0 W g f0 f1) : w0.heap.size≤g:=by
 obtain ⟨hb,hg⟩:=h;exact hg
theorem IsS74.far {w0 W : World} {g : Nat} {f0 : ByteArray} {f1 : Bool} {p : Addr} (h : IsS74 w0 W g f0 f1) (hne : g≠p.block) (u : Value) : IsS74 w0 (W.setCell p u) g f0 f1:=by
 obtain ⟨hb,hg⟩:=h;exact ⟨zS hb hne u,hg⟩
theorem cellS74_0 {W : World} {g : Nat} {f0 : ByteArray} {f1 : Bool} (h : W.heap[g]? = some (.cells #[.string f0,.bool f1] 74 (0,0))) : W.cell? ⟨g,0,none⟩=some (.string f0):=(zz h 0).trans rfl
theorem IsS74.set_0 {w0 W : World} {g : Nat} {f0 : ByteArray} {f1 : Bool} (h : IsS74 w0 W g f0 f1) (x : ByteArray) : IsS74 w0 (W.setCell ⟨g,0,none⟩ (.string x)) g x f1:=by
 obtain ⟨hb,hg⟩:=h;exact ⟨by simpa using blk_set hb 0 (.string x),hg⟩
theorem cellS74_1 {W : World} {g : Nat} {f0 : ByteArray} {f1 : Bool} (h : W.heap[g]? = some (.cells #[.string f0,.bool f1] 74 (0,0))) : W.cell? ⟨g,1,none⟩=some (.bool f1):=(zz h 1).trans rfl
theorem IsS74.set_1 {w0 W : World} {g : Nat} {f0 : ByteArray} {f1 : Bool} (h : IsS74 w0 W g f0 f1) (x : Bool) : IsS74 w0 (W.setCell ⟨g,1,none⟩ (.bool x)) g f0 x:=by
 obtain ⟨hb,hg⟩:=h;exact ⟨by simpa using blk_set hb 1 (.bool x),hg⟩
theorem IsS74.new (w0 W : World) (f0 : ByteArray) (f1 : Bool) (hB : Below w0.heap.size w0 W) : IsS74 w0 (W.alloc (.cells #[.string f0,.bool f1] 74)) W.heap.size f0 f1:=⟨by simpa using heap_alloc_new W _,hB.size⟩

def impl_byteReader_take.f (s0_0 : ByteArray) (s0_1 : Bool) (a1 : Int) : Option (ByteArray×ByteArray×Bool):=if a1 > (s0_0.size : Int) then ((strings_Repeat.f (⟨#[0]⟩ : ByteArray) a1).bind fun t174 => (some (t174,s0_0,true))) else (if 0≤a1 then (if a1≤(s0_0.size : Int) then (some (s0_0.extract 0 (a1 : Int).toNat,s0_0.extract (a1 : Int).toNat s0_0.size,s0_1)) else (none)) else (none))
set_option maxHeartbeats 8000000 in
set_option maxRecDepth 100000 in
theorem impl_byteReader_take.calls (g : Nat) (s0_0 : ByteArray) (s0_1 : Bool) (a1 : Int) (r1 : ByteArray) (r2 : ByteArray) (r3 : Bool) (w0 w : World) (hI : IsS74 w0 w g s0_0 s0_1) (hB : Below w0.heap.size w0 w) (h : impl_byteReader_take.f s0_0 s0_1 a1=some (r1,r2,r3)) :
  Calls Try.prog 92 #[.pointer (some ⟨g,0,none⟩),.int .i64 a1] w fun e w' => e = .returned (.string r1)∧IsS74 w0 w' g r2 r3∧Below w0.heap.size w0 w' ∧ KeepBut w w' g none:=by
 have HI0:=zh hI;have HK:=zh (KeepBut.refl w g none);have HL:=zh hB.size;clear hI;have HW0:=zh hB.size;have HB:=zh hB;clear hB;have H : (if a1 > (s0_0.size : Int) then ((strings_Repeat.f (⟨#[0]⟩ : ByteArray) a1).bind fun t174 => (some (t174,s0_0,true))) else (if 0≤a1 then (if a1≤(s0_0.size : Int) then (some (s0_0.extract 0 (a1 : Int).toNat,s0_0.extract (a1 : Int).toNat s0_0.size,s0_1)) else (none)) else (none)))=some (r1,r2,r3):=h;clear h
 by_cases c3 : a1 > (s0_0.size : Int)
 ·
  rw [if_pos c3] at H
  have c3b0 : decide ((s0_0.size : Int)<a1)=true:=decide_eq_true c3;clear c3;replace H:=zT.mp H;obtain ⟨t174,A40,H⟩:=H;replace H : (some (t174,s0_0,true))=some (r1,r2,r3):=H;have A4:=zh A40;clear A40;simp only [Option.some.injEq,Prod.mk.injEq] at H;obtain ⟨rfl,rfl,rfl⟩:=H;obtain ⟨HGz5,hgz5⟩:=HI0.out;have hcz5_0:=cellS74_0 HGz5;have hcz5_1:=cellS74_1 HGz5;have hfz5_0:=zA HGz5 0;have hfz5_1:=zA HGz5 1;clear HGz5 hgz5
  go_enter Try.func92,Try.ntmps92
  go_wp2_with (first|((with_reducible refine zJ (f:=115) rfl ?_);refine yj (some 17) rfl rfl Try.func115 (by kernel_rfl) rfl #[.string (⟨#[0]⟩ : ByteArray),.int .i64 a1] rfl (by (try simp only [zt,zu,zv]);first|done|rfl|(simp only [zw,zx];rfl)|(simp only [yr,ys,zV,zW];rfl)) ?_;(with_reducible refine (strings_Repeat.calls  (⟨#[0]⟩ : ByteArray) a1 t174 _ A4.out).mono ?_);rintro e w6 ⟨rfl,hb⟩;refine ⟨_,rfl,?_⟩;replace HK:=zh (KeepBut.trans (by repeat (with_reducible first|exact HK.out|apply yl|apply ym|apply yx|apply yn)) (KeepBut.of_below hb g none) (.inl rfl));replace HB:=zh (zC (by repeat (with_reducible first|exact HB.out|apply za|apply zb|apply zc|refine zd ?_ (IsS74.ge HI0.out))) hb);replace HI0:=zh (IsS74.below (show IsS74 w0 (w.setCell ⟨g,1,none⟩ (.bool true)) g s0_0 true from by repeat (with_reducible first|exact HI0.out|apply IsS74.alloc|apply IsS74.drewN|apply IsS74.drew|apply IsS74.set_0|apply IsS74.set_1)) hb);(try clear hb);(try clear hb2);(try clear hk);(try clear hi)))
  go_ret
  exact ⟨by first|rfl|(simp [yt,yu] <;> rfl)|(simp [*,yt,yu] <;> rfl),by repeat (with_reducible first|exact HI0.out|apply IsS74.alloc|apply IsS74.drewN|apply IsS74.drew|apply IsS74.set_0|apply IsS74.set_1),by repeat (with_reducible first|exact HB.out|apply za|apply zb|apply zc|refine zd ?_ (IsS74.ge HI0.out)),by repeat (with_reducible first|exact HK.out|apply yl|apply ym|apply yx|apply yn)⟩
 rw [if_neg c3] at H;have c3b0 : decide ((s0_0.size : Int)<a1)=false:=decide_eq_false c3;clear c3
 by_cases c7 : 0≤a1
 ·
  rw [if_pos c7] at H
  have c7b0:=eq_true c7;have c7b1 : decide (0≤a1)=true:=decide_eq_true c7;clear c7
  by_cases c8 : a1≤(s0_0.size : Int)
  ·
   rw [if_pos c8] at H
   have c8b0:=eq_true c8;have c8b1 : decide (a1≤(s0_0.size : Int))=true:=decide_eq_true c8;clear c8;have c9b0:=eq_true (zy (by first|(with_reducible assumption)|assumption) : 0≤a1);have c10b0:=eq_true (zy (by first|(with_reducible assumption)|assumption) : a1≤(s0_0.size : Int));simp only [Option.some.injEq,Prod.mk.injEq] at H;obtain ⟨rfl,rfl,rfl⟩:=H;obtain ⟨HGz11,hgz11⟩:=HI0.out;have hcz11_0:=cellS74_0 HGz11;have hcz11_1:=cellS74_1 HGz11;have hfz11_0:=zA HGz11 0;have hfz11_1:=zA HGz11 1;clear HGz11 hgz11
   go_enter Try.func92,Try.ntmps92
   go_wp2
   go_ret
   exact ⟨by first|rfl|(simp [yt,yu] <;> rfl)|(simp [*,yt,yu] <;> rfl),by repeat (with_reducible first|exact HI0.out|apply IsS74.alloc|apply IsS74.drewN|apply IsS74.drew|apply IsS74.set_0|apply IsS74.set_1),by repeat (with_reducible first|exact HB.out|apply za|apply zb|apply zc|refine zd ?_ (IsS74.ge HI0.out)),by repeat (with_reducible first|exact HK.out|apply yl|apply ym|apply yx|apply yn)⟩
  rw [if_neg c8] at H;exact absurd H (by simp)
 rw [if_neg c7] at H;exact absurd H (by simp)

end Go.Proofs.Ytpmeglcmhiihoaa.Q
end
section
namespace Go.Proofs.Ytpmeglcmhiihoaa.Q
open Go.RowKit Go.Proofs.YtpmeglcmhiihoaaW.PrintWords Go.Proofs.YtpmeglcmhiihoaaW.PrintLast Go.Proofs.YtpmeglcmhiihoaaW.PrintMore
attribute [local go_sem] max2_int min2_int max_two min_two max_three min_three max_four min_four max2_str min2_str str_geq str_gtr str_leq   -- for this text's walks alone
set_option linter.unusedVariables false
set_option linter.unusedSimpArgs false

def impl_byteReader_num.f (k : Nat) (s0_0 : ByteArray) (s0_1 : Bool) (a1 : Int) : Option (Int×ByteArray×Bool):=(impl_byteReader_take.f s0_0 s0_1 a1).bind fun bt176 => (if bt176.1.size≤9223372036854775807 then ((impl_big.f k (bytesOf bt176.1)).bind fun t182 => (some (t182,bt176.2.1,bt176.2.2))) else (none))
theorem impl_byteReader_num.mono : ∀ a0 a1 a2 k,LeO (impl_byteReader_num.f k a0 a1 a2) (impl_byteReader_num.f (k + 1) a0 a1 a2):=by
 intro a0 a1 a2 k;unfold impl_byteReader_num.f
 repeat' first|(with_reducible exact impl_big.mono _ _)|(with_reducible exact zQ _)|(with_reducible exact zN _)|(with_reducible refine zP ?_ ?_)|(with_reducible refine zO ?_ (fun _ => ?_))|refine zP ?_ ?_|refine zO ?_ (fun _ => ?_)
set_option maxHeartbeats 8000000 in
set_option maxRecDepth 100000 in
theorem impl_byteReader_num.calls (k : Nat) (g : Nat) (s0_0 : ByteArray) (s0_1 : Bool) (a1 : Int) (r1 : Int) (r2 : ByteArray) (r3 : Bool) (w0 w : World) (hI : IsS74 w0 w g s0_0 s0_1) (hB : Below w0.heap.size w0 w) (h : impl_byteReader_num.f k s0_0 s0_1 a1=some (r1,r2,r3)) :
  Calls Try.prog 91 #[.pointer (some ⟨g,0,none⟩),.int .i64 a1] w fun e w' => e = .returned (.int .i64 r1)∧IsS74 w0 w' g r2 r3∧Below w0.heap.size w0 w' ∧ KeepBut w w' g none:=by
 have HI0:=zh hI;have HK:=zh (KeepBut.refl w g none);have HL:=zh hB.size;clear hI;have HW0:=zh hB.size;have HB:=zh hB;clear hB;have H : ((impl_byteReader_take.f s0_0 s0_1 a1).bind fun bt176 => (if bt176.1.size≤9223372036854775807 then ((impl_big.f k (bytesOf bt176.1)).bind fun t182 => (some (t182,bt176.2.1,bt176.2.2))) else (none)))=some (r1,r2,r3):=h;clear h;replace H:=zT.mp H;obtain ⟨⟨t176,t177,t178⟩,A30,H⟩:=H;replace H : (if t176.size≤9223372036854775807 then ((impl_big.f k (bytesOf t176)).bind fun t182 => (some (t182,t177,t178))) else (none))=some (r1,r2,r3):=H;have A3:=zh A30;clear A30
 by_cases c4 : t176.size≤9223372036854775807
 ·
  rw [if_pos c4] at H
  have c4b0:=eq_true c4;have c4b1 : decide (t176.size≤9223372036854775807)=true:=decide_eq_true c4
  try have c4b2 : (9223372036854775807<t176.size)=False:=eq_false (Nat.not_lt.2 c4)
  clear c4;obtain ⟨y179,hy179⟩ : ∃ y_ : List Int,y_=(bytesOf t176):=⟨_,rfl⟩;replace H : ((impl_big.f k y179).bind fun t182 => (some (t182,t177,t178)))=some (r1,r2,r3):=by first|(rw [hy179];with_reducible exact H)|(have H2_:=(Option.bind_some _ _).symm.trans H;rw [hy179];with_reducible exact H2_)|(have H2_:=(Option.bind_some _ _).symm.trans H;with_reducible exact H2_)|with_reducible exact H|(rw [hy179];exact H)|exact H
  have Ny179:=zh hy179;clear hy179;replace H:=zT.mp H;obtain ⟨t182,A50,H⟩:=H;replace H : (some (t182,t177,t178))=some (r1,r2,r3):=H;have A5:=zh A50;clear A50;simp only [Option.some.injEq,Prod.mk.injEq] at H;obtain ⟨rfl,rfl,rfl⟩:=H
  go_enter Try.func91,Try.ntmps91
  go_wp2_with (first|((with_reducible refine zJ (f:=92) rfl ?_);refine yj (some 7) rfl rfl Try.func92 (by kernel_rfl) rfl #[.pointer (some ⟨g,0,none⟩),.int .i64 a1] rfl (by (try simp only [zt,zu,zv]);first|done|rfl|(simp only [zw,zx];rfl)|(simp only [yr,ys,zV,zW];rfl)) ?_;(with_reducible refine (impl_byteReader_take.calls  g s0_0 s0_1 a1 t176 t177 t178 w0 _ ?side1 ?side2 A3.out).mono ?_);(case side1 => repeat (with_reducible first|exact HI0.out|apply IsS74.alloc|apply IsS74.drewN|apply IsS74.drew|apply IsS74.set_0|apply IsS74.set_1));(case side2 => repeat (with_reducible first|exact HB.out|apply za|apply zb|apply zc|refine zd ?_ (IsS74.ge HI0.out)));rintro e w6 ⟨rfl,hi,hb,hk⟩;refine ⟨_,rfl,?_⟩;replace HK:=zh (KeepBut.trans (by repeat (with_reducible first|exact HK.out|apply yl|apply ym|apply yx|apply yn)) hk (.inl rfl));replace HB:=zh (hb);replace HI0:=zh (hi);(try clear hb);(try clear hb2);(try clear hk);(try clear hi))|((with_reducible refine zK (N:=8) rfl ?_);refine conv_event (base:=w6.heap.size) ?hg (N:=8) ?hd 9 29 5 t176 rfl ?hx Try.underlying9 Try.underlying29 Try.underlying5 (zy (by first|(with_reducible assumption)|assumption)) ?_;(case hd => rfl);(case hg => rfl);(case hx => first|(go_simp;done)|(go_simp;rfl)|rfl);intro v180 w7 ho8 hb;(first|rw [← Ny179.out] at ho8|(simp only [Int.reduceToNat] at ho8;rw [← Ny179.out] at ho8));have HO181:=zh (Kd.V_lower (Kd.V_mono (ok':=fun k_ => k_≠g) ho8 (fun k_ hk_ => (IsS74.fresh (by repeat (with_reducible first|exact HI0.out|apply IsS74.alloc|apply IsS74.drewN|apply IsS74.drew|apply IsS74.set_0|apply IsS74.set_1)) k_ hk_))) (keep_size (w:=w) (g:=g) (row:=none) (by repeat (with_reducible first|exact HK.out|apply yl|apply ym|apply yx|apply yn))));replace HK:=zh (KeepBut.trans (by repeat (with_reducible first|exact HK.out|apply yl|apply ym|apply yx|apply yn)) (KeepBut.of_below hb g none) (.inl rfl));replace HB:=zh (zC (by repeat (with_reducible first|exact HB.out|apply za|apply zb|apply zc|refine zd ?_ (IsS74.ge HI0.out))) hb);replace HI0:=zh (IsS74.below (by repeat (with_reducible first|exact HI0.out|apply IsS74.alloc|apply IsS74.drewN|apply IsS74.drew|apply IsS74.set_0|apply IsS74.set_1)) hb);clear hb ho8;obtain ⟨Ao9,co9,eo9⟩:=Kd.V_slice HO181.out;subst eo9)|((with_reducible refine zJ (f:=114) rfl ?_);refine yj (some 9) rfl rfl Try.func114 (by kernel_rfl) rfl #[.slice Ao9 y179.length co9] rfl (by (try simp only [zt,zu,zv]);first|done|rfl|(simp only [zw,zx];rfl)|(simp only [yr,ys,zV,zW];rfl)) ?_;(with_reducible refine (impl_big.calls k  _ _ y179 t182 _ ?side1 ?side2 A5.out).mono ?_);(case side1 => repeat (first|exact (Kd.V_reads' HO181.out).2.2|(with_reducible refine Kd.C_alloc ?_ _)|(with_reducible refine Kd.C_drewN ?_ _)|(with_reducible refine Kd.C_drew ?_)));(case side2 => exact (Kd.V_reads' HO181.out).2.1);rintro e w' ⟨rfl,⟨nd,rfl⟩⟩;refine ⟨_,rfl,?_⟩))
  go_ret
  exact ⟨by first|rfl|(simp [yt,yu] <;> rfl)|(simp [*,yt,yu] <;> rfl),by repeat (with_reducible first|exact HI0.out|apply IsS74.alloc|apply IsS74.drewN|apply IsS74.drew|apply IsS74.set_0|apply IsS74.set_1),by repeat (with_reducible first|exact HB.out|apply za|apply zb|apply zc|refine zd ?_ (IsS74.ge HI0.out)),by repeat (with_reducible first|exact HK.out|apply yl|apply ym|apply yx|apply yn)⟩
 rw [if_neg c4] at H;exact absurd H (by simp)

end Go.Proofs.Ytpmeglcmhiihoaa.Q
end
section
namespace Go.Proofs.Ytpmeglcmhiihoaa.Q
open Go.RowKit Go.Proofs.YtpmeglcmhiihoaaW.PrintWords Go.Proofs.YtpmeglcmhiihoaaW.PrintLast Go.Proofs.YtpmeglcmhiihoaaW.PrintMore
attribute [local go_sem] max2_int min2_int max_two min_two max_three min_three max_four min_four max2_str min2_str str_geq str_gtr str_leq   -- for this text's walks alone
set_option linter.unusedVariables false
set_option linter.unusedSimpArgs false

def impl_byteReader_value.j0 : Nat→Bool→ByteArray→Bool→Int→Int→ByteArray→Option (Int×Int×ByteArray×ByteArray×Bool)
 | 0,_,_,_,_,_,_ => none
 | k + 1,x20,x1000,x1001,x188000,x188001,x188002 => if x20=true then ((impl_byteReader_num.f k x1000 x1001 2).bind fun bt194 => ((impl_byteReader_take.f bt194.2.1 bt194.2.2 bt194.1).bind fun bt197 => (some (x188000,x188001,bt197.1,bt197.2.1,bt197.2.2)))) else (some (x188000,x188001,x188002,x1000,x1001))
def impl_byteReader_value.f (k : Nat) (s0_0 : ByteArray) (s0_1 : Bool) : Option (Int×Int×ByteArray×ByteArray×Bool):=(impl_byteReader_num.f k s0_0 s0_1 1).bind fun bt184 => (if bt184.1=1 then ((impl_byteReader_num.f k bt184.2.1 bt184.2.2 1).bind fun bt188 => (some (bt184.1,bt188.1,(⟨#[]⟩ : ByteArray),bt188.2.1,bt188.2.2))) else (if bt184.1=2 then ((impl_byteReader_num.f k bt184.2.1 bt184.2.2 8).bind fun bt191 => (some (bt184.1,wrap64 (bt191.1 - 4611686018427387904),(⟨#[]⟩ : ByteArray),bt191.2.1,bt191.2.2))) else (if bt184.1=3 then (impl_byteReader_value.j0 k (bt184.1 == 3) bt184.2.1 bt184.2.2 bt184.1 0 (⟨#[]⟩ : ByteArray)) else (if bt184.1=4 then (impl_byteReader_value.j0 k (bt184.1 == 4) bt184.2.1 bt184.2.2 bt184.1 0 (⟨#[]⟩ : ByteArray)) else (impl_byteReader_value.j0 k (bt184.1 == 5) bt184.2.1 bt184.2.2 bt184.1 0 (⟨#[]⟩ : ByteArray))))))
theorem impl_byteReader_value.mono_l : ∀ k,(∀ y0 y1 y2 y3 y4 y5,LeO (impl_byteReader_value.j0 k y0 y1 y2 y3 y4 y5) (impl_byteReader_value.j0 (k + 1) y0 y1 y2 y3 y4 y5))
 | 0 => fun _ _ _ _ _ _ r h => by simp [impl_byteReader_value.j0] at h
 | k + 1 => by
  have ih0:=impl_byteReader_value.mono_l k;intro y0 y1 y2 y3 y4 y5;unfold impl_byteReader_value.j0
  repeat' first|(with_reducible exact ih0 _ _ _ _ _ _)|(with_reducible exact impl_byteReader_num.mono _ _ _ _)|(with_reducible exact zQ _)|(with_reducible exact zN _)|(with_reducible refine zP ?_ ?_)|(with_reducible refine zO ?_ (fun _ => ?_))|refine zP ?_ ?_|refine zO ?_ (fun _ => ?_)
theorem impl_byteReader_value.mono : ∀ a0 a1 k,LeO (impl_byteReader_value.f k a0 a1) (impl_byteReader_value.f (k + 1) a0 a1):=by
 intro a0 a1 k;have ih0:=impl_byteReader_value.mono_l k;unfold impl_byteReader_value.f
 repeat' first|(with_reducible exact ih0 _ _ _ _ _ _)|(with_reducible exact impl_byteReader_num.mono _ _ _ _)|(with_reducible exact zQ _)|(with_reducible exact zN _)|(with_reducible refine zP ?_ ?_)|(with_reducible refine zO ?_ (fun _ => ?_))|refine zP ?_ ?_|refine zO ?_ (fun _ => ?_)
set_option maxHeartbeats 8000000 in
set_option maxRecDepth 100000 in
theorem impl_byteReader_value.calls (k : Nat) (g : Nat) (s0_0 : ByteArray) (s0_1 : Bool) (r1 : Int) (r2 : Int) (r3 : ByteArray) (r4 : ByteArray) (r5 : Bool) (w0 w : World) (hI : IsS74 w0 w g s0_0 s0_1) (hB : Below w0.heap.size w0 w) (h : impl_byteReader_value.f k s0_0 s0_1=some (r1,r2,r3,r4,r5)) :
  Calls Try.prog 56 #[.pointer (some ⟨g,0,none⟩)] w fun e w' => e = .returned (.agg #[.int .i64 r1,.int .i64 r2,.string r3])∧IsS74 w0 w' g r4 r5∧Below w0.heap.size w0 w' ∧ KeepBut w w' g none:=by
 have hu26:=Try.underlying26;have HI0:=zh hI;have HK:=zh (KeepBut.refl w g none);have HL:=zh hB.size;clear hI;have HW0:=zh hB.size;have HB:=zh hB;clear hB;have H : ((impl_byteReader_num.f k s0_0 s0_1 1).bind fun bt184 => (if bt184.1=1 then ((impl_byteReader_num.f k bt184.2.1 bt184.2.2 1).bind fun bt188 => (some (bt184.1,bt188.1,(⟨#[]⟩ : ByteArray),bt188.2.1,bt188.2.2))) else (if bt184.1=2 then ((impl_byteReader_num.f k bt184.2.1 bt184.2.2 8).bind fun bt191 => (some (bt184.1,wrap64 (bt191.1 - 4611686018427387904),(⟨#[]⟩ : ByteArray),bt191.2.1,bt191.2.2))) else (if bt184.1=3 then (impl_byteReader_value.j0 k (bt184.1 == 3) bt184.2.1 bt184.2.2 bt184.1 0 (⟨#[]⟩ : ByteArray)) else (if bt184.1=4 then (impl_byteReader_value.j0 k (bt184.1 == 4) bt184.2.1 bt184.2.2 bt184.1 0 (⟨#[]⟩ : ByteArray)) else (impl_byteReader_value.j0 k (bt184.1 == 5) bt184.2.1 bt184.2.2 bt184.1 0 (⟨#[]⟩ : ByteArray)))))))=some (r1,r2,r3,r4,r5):=h;clear h;replace H:=zT.mp H;obtain ⟨⟨t184,t185,t186⟩,A20,H⟩:=H;replace H : (if t184=1 then ((impl_byteReader_num.f k t185 t186 1).bind fun bt188 => (some (t184,bt188.1,(⟨#[]⟩ : ByteArray),bt188.2.1,bt188.2.2))) else (if t184=2 then ((impl_byteReader_num.f k t185 t186 8).bind fun bt191 => (some (t184,wrap64 (bt191.1 - 4611686018427387904),(⟨#[]⟩ : ByteArray),bt191.2.1,bt191.2.2))) else (if t184=3 then (impl_byteReader_value.j0 k (t184 == 3) t185 t186 t184 0 (⟨#[]⟩ : ByteArray)) else (if t184=4 then (impl_byteReader_value.j0 k (t184 == 4) t185 t186 t184 0 (⟨#[]⟩ : ByteArray)) else (impl_byteReader_value.j0 k (t184 == 5) t185 t186 t184 0 (⟨#[]⟩ : ByteArray))))))=some (r1,r2,r3,r4,r5):=H;have A2:=zh A20;clear A20
 by_cases c3 : t184=1
 ·
  rw [if_pos c3] at H
  have c3b0 : (t184 == 1)=true:=ya.mpr c3;have c3b1 : (t184 != 1)=false:=zX.mpr c3;clear c3;replace H:=zT.mp H;obtain ⟨⟨t188,t189,t190⟩,A40,H⟩:=H;replace H : (some (t184,t188,(⟨#[]⟩ : ByteArray),t189,t190))=some (r1,r2,r3,r4,r5):=H;have A4:=zh A40;clear A40;simp only [Option.some.injEq,Prod.mk.injEq] at H;obtain ⟨rfl,rfl,rfl,rfl,rfl⟩:=H
  go_enter Try.func56,Try.ntmps56
  go_wp2_with (first|((with_reducible refine zK (N:=2) rfl ?_);refine zI ?hg (N:=2) ?hd (cs:=#[.int .i64 0,.int .i64 0,.string (⟨#[]⟩ : ByteArray)]) (t:=26) ?hr ?_;(case hd => rfl);(case hg => rfl);(case hr => first|(go_simp;done)|(go_simp;rfl));intro gb183 hg w5 hbox hb;replace HB:=zh (zC (by repeat (with_reducible first|exact HB.out|apply za|apply zb|apply zc|refine zd ?_ (IsS74.ge HI0.out))) hb);have BK183:=zh (hbox);have GW183:=zh ((by rw [hg];exact (keep_size (w:=w) (g:=g) (row:=none) (by repeat (with_reducible first|exact HK.out|apply yl|apply ym|apply yx|apply yn))) : w.heap.size≤gb183));have GE183:=zh ((Nat.le_trans HW0.out (by rw [hg];exact (keep_size (w:=w) (g:=g) (row:=none) (by repeat (with_reducible first|exact HK.out|apply yl|apply ym|apply yx|apply yn))) : w.heap.size≤gb183) : w0.heap.size≤gb183));replace HK:=zh (KeepBut.trans (by repeat (with_reducible first|exact HK.out|apply yl|apply ym|apply yx|apply yn)) (KeepBut.of_below hb g none) (.inl rfl));have NB0_183:=zh ((by rw [hg];exact yc (IsS74.lt (show IsS74 w0 _ g s0_0 s0_1 from by repeat (with_reducible first|exact HI0.out|apply IsS74.alloc|apply IsS74.drewN|apply IsS74.drew|apply IsS74.set_0|apply IsS74.set_1))) : g≠gb183));have NB183_0:=zh ((by rw [hg];exact yd (IsS74.lt (show IsS74 w0 _ g s0_0 s0_1 from by repeat (with_reducible first|exact HI0.out|apply IsS74.alloc|apply IsS74.drewN|apply IsS74.drew|apply IsS74.set_0|apply IsS74.set_1))) : gb183≠g));replace HI0:=zh (IsS74.below (by repeat (with_reducible first|exact HI0.out|apply IsS74.alloc|apply IsS74.drewN|apply IsS74.drew|apply IsS74.set_0|apply IsS74.set_1)) hb);clear hb hbox hg)|((with_reducible refine zJ (f:=91) rfl ?_);refine yj (some 5) rfl rfl Try.func91 (by kernel_rfl) rfl #[.pointer (some ⟨g,0,none⟩),.int .i64 1] rfl (by (try simp only [zt,zu,zv]);first|done|rfl|(simp only [zw,zx];rfl)|(simp only [yr,ys,zV,zW];rfl)) ?_;(with_reducible refine (impl_byteReader_num.calls k  g s0_0 s0_1 1 t184 t185 t186 w0 _ ?side1 ?side2 A2.out).mono ?_);(case side1 => repeat (with_reducible first|exact HI0.out|apply IsS74.alloc|apply IsS74.drewN|apply IsS74.drew|apply IsS74.set_0|apply IsS74.set_1|refine IsS74.far ?_ NB0_183.out _));(case side2 => repeat (with_reducible first|exact HB.out|apply za|apply zb|apply zc|refine zd ?_ (IsS74.ge HI0.out)|refine zd ?_ GE183.out));rintro e w6 ⟨rfl,hi,hb,hk⟩;refine ⟨_,rfl,?_⟩;replace BK183:=zh (KeepBut.blk hk (g':=gb183) (o:=.cells #[.int .i64 0,.int .i64 0,.string (⟨#[]⟩ : ByteArray)] 26 (0,0)) (by (with_reducible repeat (first|refine ze ?_ _|refine zf ?_|refine zg ?_ _));exact BK183.out) NB183_0.out (by simp));replace HK:=zh (KeepBut.trans (by repeat (with_reducible first|exact HK.out|apply yl|apply ym|apply yx|apply yn|refine keep_far ?_ GW183.out _)) hk (.inl rfl));replace HB:=zh (hb);replace HI0:=zh (hi);(try clear hb);(try clear hb2);(try clear hk);(try clear hi))|((with_reducible refine zK (N:=3) rfl ?_);refine zI ?hg (N:=3) ?hd (cs:=#[.int .i64 0,.int .i64 0,.string (⟨#[]⟩ : ByteArray)]) (t:=26) ?hr ?_;(case hd => rfl);(case hg => rfl);(case hr => first|(go_simp;done)|(go_simp;rfl));intro gb187 hg w7 hbox hb;replace HB:=zh (zC (by repeat (with_reducible first|exact HB.out|apply za|apply zb|apply zc|refine zd ?_ (IsS74.ge HI0.out)|refine zd ?_ GE183.out)) hb);have BK187:=zh (hbox);have GW187:=zh ((by rw [hg];exact (keep_size (w:=w) (g:=g) (row:=none) (by repeat (with_reducible first|exact HK.out|apply yl|apply ym|apply yx|apply yn|refine keep_far ?_ GW183.out _))) : w.heap.size≤gb187));have GE187:=zh ((Nat.le_trans HW0.out (by rw [hg];exact (keep_size (w:=w) (g:=g) (row:=none) (by repeat (with_reducible first|exact HK.out|apply yl|apply ym|apply yx|apply yn|refine keep_far ?_ GW183.out _))) : w.heap.size≤gb187) : w0.heap.size≤gb187));replace HK:=zh (KeepBut.trans (by repeat (with_reducible first|exact HK.out|apply yl|apply ym|apply yx|apply yn|refine keep_far ?_ GW183.out _)) (KeepBut.of_below hb g none) (.inl rfl));have NB183_187:=zh ((by rw [hg];exact yc (yi (g:=gb183) (o:=.cells #[.int .i64 0,.int .i64 0,.string (⟨#[]⟩ : ByteArray)] 26 (0,0)) (by (with_reducible repeat (first|refine ze ?_ _|refine zf ?_|refine zg ?_ _));exact BK183.out)) : gb183≠gb187));have NB187_183:=zh ((by rw [hg];exact yd (yi (g:=gb183) (o:=.cells #[.int .i64 0,.int .i64 0,.string (⟨#[]⟩ : ByteArray)] 26 (0,0)) (by (with_reducible repeat (first|refine ze ?_ _|refine zf ?_|refine zg ?_ _));exact BK183.out)) : gb187≠gb183));replace BK183:=zh (zD (g:=gb183) (o:=.cells #[.int .i64 0,.int .i64 0,.string (⟨#[]⟩ : ByteArray)] 26 (0,0)) (by (with_reducible repeat (first|refine ze ?_ _|refine zf ?_|refine zg ?_ _));exact BK183.out) hb);have NB0_187:=zh ((by rw [hg];exact yc (IsS74.lt (show IsS74 w0 _ g t185 t186 from by repeat (with_reducible first|exact HI0.out|apply IsS74.alloc|apply IsS74.drewN|apply IsS74.drew|apply IsS74.set_0|apply IsS74.set_1|refine IsS74.far ?_ NB0_183.out _))) : g≠gb187));have NB187_0:=zh ((by rw [hg];exact yd (IsS74.lt (show IsS74 w0 _ g t185 t186 from by repeat (with_reducible first|exact HI0.out|apply IsS74.alloc|apply IsS74.drewN|apply IsS74.drew|apply IsS74.set_0|apply IsS74.set_1|refine IsS74.far ?_ NB0_183.out _))) : gb187≠g));replace HI0:=zh (IsS74.below (by repeat (with_reducible first|exact HI0.out|apply IsS74.alloc|apply IsS74.drewN|apply IsS74.drew|apply IsS74.set_0|apply IsS74.set_1|refine IsS74.far ?_ NB0_183.out _)) hb);clear hb hbox hg;have hnb8:=NB187_183.out;have hnc8:=NB183_187.out;have hnb9:=NB187_0.out;have hnc9:=NB0_187.out;have hcz10_0 : w7.cell? ⟨gb187,0,none⟩=some (.int .i64 0):=(zz BK187.out 0).trans rfl;have hcz10_1 : w7.cell? ⟨gb187,1,none⟩=some (.int .i64 0):=(zz BK187.out 1).trans rfl;have hcz10_2 : w7.cell? ⟨gb187,2,none⟩=some (.string (⟨#[]⟩ : ByteArray)):=(zz BK187.out 2).trans rfl;have hfz10_0:=zA BK187.out 0;have hfz10_1:=zA BK187.out 1;have hfz10_2:=zA BK187.out 2)|((with_reducible refine zJ (f:=91) rfl ?_);refine yj (some 12) rfl rfl Try.func91 (by kernel_rfl) rfl #[.pointer (some ⟨g,0,none⟩),.int .i64 1] rfl (by (try simp only [zt,zu,zv]);first|done|rfl|(simp only [zw,zx];rfl)|(simp only [yr,ys,zV,zW];rfl)) ?_;(with_reducible refine (impl_byteReader_num.calls k  g t185 t186 1 t188 t189 t190 w0 _ ?side1 ?side2 A4.out).mono ?_);(case side1 => repeat (with_reducible first|exact HI0.out|apply IsS74.alloc|apply IsS74.drewN|apply IsS74.drew|apply IsS74.set_0|apply IsS74.set_1|refine IsS74.far ?_ NB0_183.out _|refine IsS74.far ?_ NB0_187.out _));(case side2 => repeat (with_reducible first|exact HB.out|apply za|apply zb|apply zc|refine zd ?_ (IsS74.ge HI0.out)|refine zd ?_ GE183.out|refine zd ?_ GE187.out));rintro e w11 ⟨rfl,hi,hb,hk⟩;refine ⟨_,rfl,?_⟩;replace BK183:=zh (KeepBut.blk hk (g':=gb183) (o:=.cells #[.int .i64 0,.int .i64 0,.string (⟨#[]⟩ : ByteArray)] 26 (0,0)) (by (with_reducible repeat (first|refine ze ?_ _|refine zf ?_|refine zg ?_ _));refine zS ?_ NB183_187.out _;(with_reducible repeat (first|refine ze ?_ _|refine zf ?_|refine zg ?_ _));refine zS ?_ NB183_187.out _;(with_reducible repeat (first|refine ze ?_ _|refine zf ?_|refine zg ?_ _));refine zS ?_ NB183_187.out _;(with_reducible repeat (first|refine ze ?_ _|refine zf ?_|refine zg ?_ _));exact BK183.out) NB183_0.out (by simp));replace BK187:=zh (KeepBut.blk hk (g':=gb187) (o:=.cells #[.int .i64 t184,.int .i64 0,.string (⟨#[]⟩ : ByteArray)] 26 (0,0)) (by (with_reducible repeat (first|refine ze ?_ _|refine zf ?_|refine zg ?_ _));refine zL (cs:=#[.int .i64 t184,.int .i64 0,.string (⟨#[]⟩ : ByteArray)]) ?_ 2 _ rfl;(with_reducible repeat (first|refine ze ?_ _|refine zf ?_|refine zg ?_ _));refine zL (cs:=#[.int .i64 t184,.int .i64 0,.string (⟨#[]⟩ : ByteArray)]) ?_ 1 _ rfl;(with_reducible repeat (first|refine ze ?_ _|refine zf ?_|refine zg ?_ _));refine zL (cs:=#[.int .i64 0,.int .i64 0,.string (⟨#[]⟩ : ByteArray)]) ?_ 0 _ rfl;(with_reducible repeat (first|refine ze ?_ _|refine zf ?_|refine zg ?_ _));exact BK187.out) NB187_0.out (by simp));replace HK:=zh (KeepBut.trans (by repeat (with_reducible first|exact HK.out|apply yl|apply ym|apply yx|apply yn|refine keep_far ?_ GW183.out _|refine keep_far ?_ GW187.out _)) hk (.inl rfl));replace HB:=zh (hb);replace HI0:=zh (hi);(try clear hb);(try clear hb2);(try clear hk);(try clear hi);have hcz12_0 : w11.cell? ⟨gb187,0,none⟩=some (.int .i64 t184):=(zz BK187.out 0).trans rfl;have hcz12_1 : w11.cell? ⟨gb187,1,none⟩=some (.int .i64 0):=(zz BK187.out 1).trans rfl;have hcz12_2 : w11.cell? ⟨gb187,2,none⟩=some (.string (⟨#[]⟩ : ByteArray)):=(zz BK187.out 2).trans rfl;have hfz12_0:=zA BK187.out 0;have hfz12_1:=zA BK187.out 1;have hfz12_2:=zA BK187.out 2;have hnb13:=NB183_0.out;have hnc13:=NB0_183.out;have hcz14_0 : w11.cell? ⟨gb183,0,none⟩=some (.int .i64 0):=(zz BK183.out 0).trans rfl;have hcz14_1 : w11.cell? ⟨gb183,1,none⟩=some (.int .i64 0):=(zz BK183.out 1).trans rfl;have hcz14_2 : w11.cell? ⟨gb183,2,none⟩=some (.string (⟨#[]⟩ : ByteArray)):=(zz BK183.out 2).trans rfl;have hfz14_0:=zA BK183.out 0;have hfz14_1:=zA BK183.out 1;have hfz14_2:=zA BK183.out 2))
  refine bodyPost_ret (results_cell_row rfl _ _ gb183 26 #[.int .i64 t184,.int .i64 t188,.string (⟨#[]⟩ : ByteArray)] (0,0) _ rfl (by (with_reducible repeat (first|refine ze ?_ _|refine zf ?_|refine zg ?_ _));refine zL (cs:=#[.int .i64 t184,.int .i64 t188,.string (⟨#[]⟩ : ByteArray)]) ?_ 2 _ rfl;(with_reducible repeat (first|refine ze ?_ _|refine zf ?_|refine zg ?_ _));refine zL (cs:=#[.int .i64 t184,.int .i64 0,.string (⟨#[]⟩ : ByteArray)]) ?_ 1 _ rfl;(with_reducible repeat (first|refine ze ?_ _|refine zf ?_|refine zg ?_ _));refine zL (cs:=#[.int .i64 0,.int .i64 0,.string (⟨#[]⟩ : ByteArray)]) ?_ 0 _ rfl;(with_reducible repeat (first|refine ze ?_ _|refine zf ?_|refine zg ?_ _));refine zS ?_ NB183_187.out _;(with_reducible repeat (first|refine ze ?_ _|refine zf ?_|refine zg ?_ _));exact BK183.out) Try.underlying26 rfl (by kernel_rfl)) rfl ?_;exact ⟨by first|rfl|(simp [yt,yu] <;> rfl)|(simp [*,yt,yu] <;> rfl),by repeat (with_reducible first|exact HI0.out|apply IsS74.alloc|apply IsS74.drewN|apply IsS74.drew|apply IsS74.set_0|apply IsS74.set_1|refine IsS74.far ?_ NB0_183.out _|refine IsS74.far ?_ NB0_187.out _),by repeat (with_reducible first|exact HB.out|apply za|apply zb|apply zc|refine zd ?_ (IsS74.ge HI0.out)|refine zd ?_ GE183.out|refine zd ?_ GE187.out),by repeat (with_reducible first|exact HK.out|apply yl|apply ym|apply yx|apply yn|refine keep_far ?_ GW183.out _|refine keep_far ?_ GW187.out _)⟩
 rw [if_neg c3] at H;have c3b0 : (t184 == 1)=false:=zY.mpr c3;have c3b1 : (t184 != 1)=true:=zZ.mpr c3
 by_cases c15 : t184=2
 ·
  rw [if_pos c15] at H
  have c15b0 : (t184 == 2)=true:=ya.mpr c15;have c15b1 : (t184 != 2)=false:=zX.mpr c15;clear c15;replace H:=zT.mp H;obtain ⟨⟨t191,t192,t193⟩,A160,H⟩:=H;replace H : (some (t184,wrap64 (t191 - 4611686018427387904),(⟨#[]⟩ : ByteArray),t192,t193))=some (r1,r2,r3,r4,r5):=H;have A16:=zh A160;clear A160;simp only [Option.some.injEq,Prod.mk.injEq] at H;obtain ⟨rfl,rfl,rfl,rfl,rfl⟩:=H
  go_enter Try.func56,Try.ntmps56
  go_wp2_with (first|((with_reducible refine zK (N:=2) rfl ?_);refine zI ?hg (N:=2) ?hd (cs:=#[.int .i64 0,.int .i64 0,.string (⟨#[]⟩ : ByteArray)]) (t:=26) ?hr ?_;(case hd => rfl);(case hg => rfl);(case hr => first|(go_simp;done)|(go_simp;rfl));intro gb183 hg w17 hbox hb;replace HB:=zh (zC (by repeat (with_reducible first|exact HB.out|apply za|apply zb|apply zc|refine zd ?_ (IsS74.ge HI0.out))) hb);have BK183:=zh (hbox);have GW183:=zh ((by rw [hg];exact (keep_size (w:=w) (g:=g) (row:=none) (by repeat (with_reducible first|exact HK.out|apply yl|apply ym|apply yx|apply yn))) : w.heap.size≤gb183));have GE183:=zh ((Nat.le_trans HW0.out (by rw [hg];exact (keep_size (w:=w) (g:=g) (row:=none) (by repeat (with_reducible first|exact HK.out|apply yl|apply ym|apply yx|apply yn))) : w.heap.size≤gb183) : w0.heap.size≤gb183));replace HK:=zh (KeepBut.trans (by repeat (with_reducible first|exact HK.out|apply yl|apply ym|apply yx|apply yn)) (KeepBut.of_below hb g none) (.inl rfl));have NB0_183:=zh ((by rw [hg];exact yc (IsS74.lt (show IsS74 w0 _ g s0_0 s0_1 from by repeat (with_reducible first|exact HI0.out|apply IsS74.alloc|apply IsS74.drewN|apply IsS74.drew|apply IsS74.set_0|apply IsS74.set_1))) : g≠gb183));have NB183_0:=zh ((by rw [hg];exact yd (IsS74.lt (show IsS74 w0 _ g s0_0 s0_1 from by repeat (with_reducible first|exact HI0.out|apply IsS74.alloc|apply IsS74.drewN|apply IsS74.drew|apply IsS74.set_0|apply IsS74.set_1))) : gb183≠g));replace HI0:=zh (IsS74.below (by repeat (with_reducible first|exact HI0.out|apply IsS74.alloc|apply IsS74.drewN|apply IsS74.drew|apply IsS74.set_0|apply IsS74.set_1)) hb);clear hb hbox hg)|((with_reducible refine zJ (f:=91) rfl ?_);refine yj (some 5) rfl rfl Try.func91 (by kernel_rfl) rfl #[.pointer (some ⟨g,0,none⟩),.int .i64 1] rfl (by (try simp only [zt,zu,zv]);first|done|rfl|(simp only [zw,zx];rfl)|(simp only [yr,ys,zV,zW];rfl)) ?_;(with_reducible refine (impl_byteReader_num.calls k  g s0_0 s0_1 1 t184 t185 t186 w0 _ ?side1 ?side2 A2.out).mono ?_);(case side1 => repeat (with_reducible first|exact HI0.out|apply IsS74.alloc|apply IsS74.drewN|apply IsS74.drew|apply IsS74.set_0|apply IsS74.set_1|refine IsS74.far ?_ NB0_183.out _));(case side2 => repeat (with_reducible first|exact HB.out|apply za|apply zb|apply zc|refine zd ?_ (IsS74.ge HI0.out)|refine zd ?_ GE183.out));rintro e w18 ⟨rfl,hi,hb,hk⟩;refine ⟨_,rfl,?_⟩;replace BK183:=zh (KeepBut.blk hk (g':=gb183) (o:=.cells #[.int .i64 0,.int .i64 0,.string (⟨#[]⟩ : ByteArray)] 26 (0,0)) (by (with_reducible repeat (first|refine ze ?_ _|refine zf ?_|refine zg ?_ _));exact BK183.out) NB183_0.out (by simp));replace HK:=zh (KeepBut.trans (by repeat (with_reducible first|exact HK.out|apply yl|apply ym|apply yx|apply yn|refine keep_far ?_ GW183.out _)) hk (.inl rfl));replace HB:=zh (hb);replace HI0:=zh (hi);(try clear hb);(try clear hb2);(try clear hk);(try clear hi))|((with_reducible refine zK (N:=3) rfl ?_);refine zI ?hg (N:=3) ?hd (cs:=#[.int .i64 0,.int .i64 0,.string (⟨#[]⟩ : ByteArray)]) (t:=26) ?hr ?_;(case hd => rfl);(case hg => rfl);(case hr => first|(go_simp;done)|(go_simp;rfl));intro gb187 hg w19 hbox hb;replace HB:=zh (zC (by repeat (with_reducible first|exact HB.out|apply za|apply zb|apply zc|refine zd ?_ (IsS74.ge HI0.out)|refine zd ?_ GE183.out)) hb);have BK187:=zh (hbox);have GW187:=zh ((by rw [hg];exact (keep_size (w:=w) (g:=g) (row:=none) (by repeat (with_reducible first|exact HK.out|apply yl|apply ym|apply yx|apply yn|refine keep_far ?_ GW183.out _))) : w.heap.size≤gb187));have GE187:=zh ((Nat.le_trans HW0.out (by rw [hg];exact (keep_size (w:=w) (g:=g) (row:=none) (by repeat (with_reducible first|exact HK.out|apply yl|apply ym|apply yx|apply yn|refine keep_far ?_ GW183.out _))) : w.heap.size≤gb187) : w0.heap.size≤gb187));replace HK:=zh (KeepBut.trans (by repeat (with_reducible first|exact HK.out|apply yl|apply ym|apply yx|apply yn|refine keep_far ?_ GW183.out _)) (KeepBut.of_below hb g none) (.inl rfl));have NB183_187:=zh ((by rw [hg];exact yc (yi (g:=gb183) (o:=.cells #[.int .i64 0,.int .i64 0,.string (⟨#[]⟩ : ByteArray)] 26 (0,0)) (by (with_reducible repeat (first|refine ze ?_ _|refine zf ?_|refine zg ?_ _));exact BK183.out)) : gb183≠gb187));have NB187_183:=zh ((by rw [hg];exact yd (yi (g:=gb183) (o:=.cells #[.int .i64 0,.int .i64 0,.string (⟨#[]⟩ : ByteArray)] 26 (0,0)) (by (with_reducible repeat (first|refine ze ?_ _|refine zf ?_|refine zg ?_ _));exact BK183.out)) : gb187≠gb183));replace BK183:=zh (zD (g:=gb183) (o:=.cells #[.int .i64 0,.int .i64 0,.string (⟨#[]⟩ : ByteArray)] 26 (0,0)) (by (with_reducible repeat (first|refine ze ?_ _|refine zf ?_|refine zg ?_ _));exact BK183.out) hb);have NB0_187:=zh ((by rw [hg];exact yc (IsS74.lt (show IsS74 w0 _ g t185 t186 from by repeat (with_reducible first|exact HI0.out|apply IsS74.alloc|apply IsS74.drewN|apply IsS74.drew|apply IsS74.set_0|apply IsS74.set_1|refine IsS74.far ?_ NB0_183.out _))) : g≠gb187));have NB187_0:=zh ((by rw [hg];exact yd (IsS74.lt (show IsS74 w0 _ g t185 t186 from by repeat (with_reducible first|exact HI0.out|apply IsS74.alloc|apply IsS74.drewN|apply IsS74.drew|apply IsS74.set_0|apply IsS74.set_1|refine IsS74.far ?_ NB0_183.out _))) : gb187≠g));replace HI0:=zh (IsS74.below (by repeat (with_reducible first|exact HI0.out|apply IsS74.alloc|apply IsS74.drewN|apply IsS74.drew|apply IsS74.set_0|apply IsS74.set_1|refine IsS74.far ?_ NB0_183.out _)) hb);clear hb hbox hg;have hnb20:=NB187_183.out;have hnc20:=NB183_187.out;have hnb21:=NB187_0.out;have hnc21:=NB0_187.out;have hcz22_0 : w19.cell? ⟨gb187,0,none⟩=some (.int .i64 0):=(zz BK187.out 0).trans rfl;have hcz22_1 : w19.cell? ⟨gb187,1,none⟩=some (.int .i64 0):=(zz BK187.out 1).trans rfl;have hcz22_2 : w19.cell? ⟨gb187,2,none⟩=some (.string (⟨#[]⟩ : ByteArray)):=(zz BK187.out 2).trans rfl;have hfz22_0:=zA BK187.out 0;have hfz22_1:=zA BK187.out 1;have hfz22_2:=zA BK187.out 2)|((with_reducible refine zJ (f:=91) rfl ?_);refine yj (some 17) rfl rfl Try.func91 (by kernel_rfl) rfl #[.pointer (some ⟨g,0,none⟩),.int .i64 8] rfl (by (try simp only [zt,zu,zv]);first|done|rfl|(simp only [zw,zx];rfl)|(simp only [yr,ys,zV,zW];rfl)) ?_;(with_reducible refine (impl_byteReader_num.calls k  g t185 t186 8 t191 t192 t193 w0 _ ?side1 ?side2 A16.out).mono ?_);(case side1 => repeat (with_reducible first|exact HI0.out|apply IsS74.alloc|apply IsS74.drewN|apply IsS74.drew|apply IsS74.set_0|apply IsS74.set_1|refine IsS74.far ?_ NB0_183.out _|refine IsS74.far ?_ NB0_187.out _));(case side2 => repeat (with_reducible first|exact HB.out|apply za|apply zb|apply zc|refine zd ?_ (IsS74.ge HI0.out)|refine zd ?_ GE183.out|refine zd ?_ GE187.out));rintro e w23 ⟨rfl,hi,hb,hk⟩;refine ⟨_,rfl,?_⟩;replace BK183:=zh (KeepBut.blk hk (g':=gb183) (o:=.cells #[.int .i64 0,.int .i64 0,.string (⟨#[]⟩ : ByteArray)] 26 (0,0)) (by (with_reducible repeat (first|refine ze ?_ _|refine zf ?_|refine zg ?_ _));refine zS ?_ NB183_187.out _;(with_reducible repeat (first|refine ze ?_ _|refine zf ?_|refine zg ?_ _));refine zS ?_ NB183_187.out _;(with_reducible repeat (first|refine ze ?_ _|refine zf ?_|refine zg ?_ _));refine zS ?_ NB183_187.out _;(with_reducible repeat (first|refine ze ?_ _|refine zf ?_|refine zg ?_ _));exact BK183.out) NB183_0.out (by simp));replace BK187:=zh (KeepBut.blk hk (g':=gb187) (o:=.cells #[.int .i64 t184,.int .i64 0,.string (⟨#[]⟩ : ByteArray)] 26 (0,0)) (by (with_reducible repeat (first|refine ze ?_ _|refine zf ?_|refine zg ?_ _));refine zL (cs:=#[.int .i64 t184,.int .i64 0,.string (⟨#[]⟩ : ByteArray)]) ?_ 2 _ rfl;(with_reducible repeat (first|refine ze ?_ _|refine zf ?_|refine zg ?_ _));refine zL (cs:=#[.int .i64 t184,.int .i64 0,.string (⟨#[]⟩ : ByteArray)]) ?_ 1 _ rfl;(with_reducible repeat (first|refine ze ?_ _|refine zf ?_|refine zg ?_ _));refine zL (cs:=#[.int .i64 0,.int .i64 0,.string (⟨#[]⟩ : ByteArray)]) ?_ 0 _ rfl;(with_reducible repeat (first|refine ze ?_ _|refine zf ?_|refine zg ?_ _));exact BK187.out) NB187_0.out (by simp));replace HK:=zh (KeepBut.trans (by repeat (with_reducible first|exact HK.out|apply yl|apply ym|apply yx|apply yn|refine keep_far ?_ GW183.out _|refine keep_far ?_ GW187.out _)) hk (.inl rfl));replace HB:=zh (hb);replace HI0:=zh (hi);(try clear hb);(try clear hb2);(try clear hk);(try clear hi);have hcz24_0 : w23.cell? ⟨gb187,0,none⟩=some (.int .i64 t184):=(zz BK187.out 0).trans rfl;have hcz24_1 : w23.cell? ⟨gb187,1,none⟩=some (.int .i64 0):=(zz BK187.out 1).trans rfl;have hcz24_2 : w23.cell? ⟨gb187,2,none⟩=some (.string (⟨#[]⟩ : ByteArray)):=(zz BK187.out 2).trans rfl;have hfz24_0:=zA BK187.out 0;have hfz24_1:=zA BK187.out 1;have hfz24_2:=zA BK187.out 2;have hnb25:=NB183_0.out;have hnc25:=NB0_183.out;have hcz26_0 : w23.cell? ⟨gb183,0,none⟩=some (.int .i64 0):=(zz BK183.out 0).trans rfl;have hcz26_1 : w23.cell? ⟨gb183,1,none⟩=some (.int .i64 0):=(zz BK183.out 1).trans rfl;have hcz26_2 : w23.cell? ⟨gb183,2,none⟩=some (.string (⟨#[]⟩ : ByteArray)):=(zz BK183.out 2).trans rfl;have hfz26_0:=zA BK183.out 0;have hfz26_1:=zA BK183.out 1;have hfz26_2:=zA BK183.out 2))
  refine bodyPost_ret (results_cell_row rfl _ _ gb183 26 #[.int .i64 t184,.int .i64 (wrap64 (t191 - 4611686018427387904)),.string (⟨#[]⟩ : ByteArray)] (0,0) _ rfl (by (with_reducible repeat (first|refine ze ?_ _|refine zf ?_|refine zg ?_ _));refine zL (cs:=#[.int .i64 t184,.int .i64 (wrap64 (t191 - 4611686018427387904)),.string (⟨#[]⟩ : ByteArray)]) ?_ 2 _ rfl;(with_reducible repeat (first|refine ze ?_ _|refine zf ?_|refine zg ?_ _));refine zL (cs:=#[.int .i64 t184,.int .i64 0,.string (⟨#[]⟩ : ByteArray)]) ?_ 1 _ rfl;(with_reducible repeat (first|refine ze ?_ _|refine zf ?_|refine zg ?_ _));refine zL (cs:=#[.int .i64 0,.int .i64 0,.string (⟨#[]⟩ : ByteArray)]) ?_ 0 _ rfl;(with_reducible repeat (first|refine ze ?_ _|refine zf ?_|refine zg ?_ _));refine zS ?_ NB183_187.out _;(with_reducible repeat (first|refine ze ?_ _|refine zf ?_|refine zg ?_ _));exact BK183.out) Try.underlying26 rfl (by kernel_rfl)) rfl ?_;exact ⟨by first|rfl|(simp [yt,yu] <;> rfl)|(simp [*,yt,yu] <;> rfl),by repeat (with_reducible first|exact HI0.out|apply IsS74.alloc|apply IsS74.drewN|apply IsS74.drew|apply IsS74.set_0|apply IsS74.set_1|refine IsS74.far ?_ NB0_183.out _|refine IsS74.far ?_ NB0_187.out _),by repeat (with_reducible first|exact HB.out|apply za|apply zb|apply zc|refine zd ?_ (IsS74.ge HI0.out)|refine zd ?_ GE183.out|refine zd ?_ GE187.out),by repeat (with_reducible first|exact HK.out|apply yl|apply ym|apply yx|apply yn|refine keep_far ?_ GW183.out _|refine keep_far ?_ GW187.out _)⟩
 rw [if_neg c15] at H;have c15b0 : (t184 == 2)=false:=zY.mpr c15;have c15b1 : (t184 != 2)=true:=zZ.mpr c15;have HC27:=zh H;clear H
 go_enter Try.func56,Try.ntmps56
 go_upto_if 20 with (first|((with_reducible refine zK (N:=2) rfl ?_);refine zI ?hg (N:=2) ?hd (cs:=#[.int .i64 0,.int .i64 0,.string (⟨#[]⟩ : ByteArray)]) (t:=26) ?hr ?_;(case hd => rfl);(case hg => rfl);(case hr => first|(go_simp;done)|(go_simp;rfl));intro gb183 hg w28 hbox hb;replace HB:=zh (zC (by repeat (with_reducible first|exact HB.out|apply za|apply zb|apply zc|refine zd ?_ (IsS74.ge HI0.out))) hb);have BK183:=zh (hbox);have GW183:=zh ((by rw [hg];exact (keep_size (w:=w) (g:=g) (row:=none) (by repeat (with_reducible first|exact HK.out|apply yl|apply ym|apply yx|apply yn))) : w.heap.size≤gb183));have GE183:=zh ((Nat.le_trans HW0.out (by rw [hg];exact (keep_size (w:=w) (g:=g) (row:=none) (by repeat (with_reducible first|exact HK.out|apply yl|apply ym|apply yx|apply yn))) : w.heap.size≤gb183) : w0.heap.size≤gb183));replace HK:=zh (KeepBut.trans (by repeat (with_reducible first|exact HK.out|apply yl|apply ym|apply yx|apply yn)) (KeepBut.of_below hb g none) (.inl rfl));have NB0_183:=zh ((by rw [hg];exact yc (IsS74.lt (show IsS74 w0 _ g s0_0 s0_1 from by repeat (with_reducible first|exact HI0.out|apply IsS74.alloc|apply IsS74.drewN|apply IsS74.drew|apply IsS74.set_0|apply IsS74.set_1))) : g≠gb183));have NB183_0:=zh ((by rw [hg];exact yd (IsS74.lt (show IsS74 w0 _ g s0_0 s0_1 from by repeat (with_reducible first|exact HI0.out|apply IsS74.alloc|apply IsS74.drewN|apply IsS74.drew|apply IsS74.set_0|apply IsS74.set_1))) : gb183≠g));replace HI0:=zh (IsS74.below (by repeat (with_reducible first|exact HI0.out|apply IsS74.alloc|apply IsS74.drewN|apply IsS74.drew|apply IsS74.set_0|apply IsS74.set_1)) hb);clear hb hbox hg)|((with_reducible refine zJ (f:=91) rfl ?_);refine yj (some 5) rfl rfl Try.func91 (by kernel_rfl) rfl #[.pointer (some ⟨g,0,none⟩),.int .i64 1] rfl (by (try simp only [zt,zu,zv]);first|done|rfl|(simp only [zw,zx];rfl)|(simp only [yr,ys,zV,zW];rfl)) ?_;(with_reducible refine (impl_byteReader_num.calls k  g s0_0 s0_1 1 t184 t185 t186 w0 _ ?side1 ?side2 A2.out).mono ?_);(case side1 => repeat (with_reducible first|exact HI0.out|apply IsS74.alloc|apply IsS74.drewN|apply IsS74.drew|apply IsS74.set_0|apply IsS74.set_1|refine IsS74.far ?_ NB0_183.out _));(case side2 => repeat (with_reducible first|exact HB.out|apply za|apply zb|apply zc|refine zd ?_ (IsS74.ge HI0.out)|refine zd ?_ GE183.out));rintro e w29 ⟨rfl,hi,hb,hk⟩;refine ⟨_,rfl,?_⟩;replace BK183:=zh (KeepBut.blk hk (g':=gb183) (o:=.cells #[.int .i64 0,.int .i64 0,.string (⟨#[]⟩ : ByteArray)] 26 (0,0)) (by (with_reducible repeat (first|refine ze ?_ _|refine zf ?_|refine zg ?_ _));exact BK183.out) NB183_0.out (by simp));replace HK:=zh (KeepBut.trans (by repeat (with_reducible first|exact HK.out|apply yl|apply ym|apply yx|apply yn|refine keep_far ?_ GW183.out _)) hk (.inl rfl));replace HB:=zh (hb);replace HI0:=zh (hi);(try clear hb);(try clear hb2);(try clear hk);(try clear hi))|((with_reducible refine zK (N:=3) rfl ?_);refine zI ?hg (N:=3) ?hd (cs:=#[.int .i64 0,.int .i64 0,.string (⟨#[]⟩ : ByteArray)]) (t:=26) ?hr ?_;(case hd => rfl);(case hg => rfl);(case hr => first|(go_simp;done)|(go_simp;rfl));intro gb187 hg w30 hbox hb;replace HB:=zh (zC (by repeat (with_reducible first|exact HB.out|apply za|apply zb|apply zc|refine zd ?_ (IsS74.ge HI0.out)|refine zd ?_ GE183.out)) hb);have BK187:=zh (hbox);have GW187:=zh ((by rw [hg];exact (keep_size (w:=w) (g:=g) (row:=none) (by repeat (with_reducible first|exact HK.out|apply yl|apply ym|apply yx|apply yn|refine keep_far ?_ GW183.out _))) : w.heap.size≤gb187));have GE187:=zh ((Nat.le_trans HW0.out (by rw [hg];exact (keep_size (w:=w) (g:=g) (row:=none) (by repeat (with_reducible first|exact HK.out|apply yl|apply ym|apply yx|apply yn|refine keep_far ?_ GW183.out _))) : w.heap.size≤gb187) : w0.heap.size≤gb187));replace HK:=zh (KeepBut.trans (by repeat (with_reducible first|exact HK.out|apply yl|apply ym|apply yx|apply yn|refine keep_far ?_ GW183.out _)) (KeepBut.of_below hb g none) (.inl rfl));have NB183_187:=zh ((by rw [hg];exact yc (yi (g:=gb183) (o:=.cells #[.int .i64 0,.int .i64 0,.string (⟨#[]⟩ : ByteArray)] 26 (0,0)) (by (with_reducible repeat (first|refine ze ?_ _|refine zf ?_|refine zg ?_ _));exact BK183.out)) : gb183≠gb187));have NB187_183:=zh ((by rw [hg];exact yd (yi (g:=gb183) (o:=.cells #[.int .i64 0,.int .i64 0,.string (⟨#[]⟩ : ByteArray)] 26 (0,0)) (by (with_reducible repeat (first|refine ze ?_ _|refine zf ?_|refine zg ?_ _));exact BK183.out)) : gb187≠gb183));replace BK183:=zh (zD (g:=gb183) (o:=.cells #[.int .i64 0,.int .i64 0,.string (⟨#[]⟩ : ByteArray)] 26 (0,0)) (by (with_reducible repeat (first|refine ze ?_ _|refine zf ?_|refine zg ?_ _));exact BK183.out) hb);have NB0_187:=zh ((by rw [hg];exact yc (IsS74.lt (show IsS74 w0 _ g t185 t186 from by repeat (with_reducible first|exact HI0.out|apply IsS74.alloc|apply IsS74.drewN|apply IsS74.drew|apply IsS74.set_0|apply IsS74.set_1|refine IsS74.far ?_ NB0_183.out _))) : g≠gb187));have NB187_0:=zh ((by rw [hg];exact yd (IsS74.lt (show IsS74 w0 _ g t185 t186 from by repeat (with_reducible first|exact HI0.out|apply IsS74.alloc|apply IsS74.drewN|apply IsS74.drew|apply IsS74.set_0|apply IsS74.set_1|refine IsS74.far ?_ NB0_183.out _))) : gb187≠g));replace HI0:=zh (IsS74.below (by repeat (with_reducible first|exact HI0.out|apply IsS74.alloc|apply IsS74.drewN|apply IsS74.drew|apply IsS74.set_0|apply IsS74.set_1|refine IsS74.far ?_ NB0_183.out _)) hb);clear hb hbox hg;have hnb31:=NB187_183.out;have hnc31:=NB183_187.out;have hnb32:=NB187_0.out;have hnc32:=NB0_187.out;have hcz33_0 : w30.cell? ⟨gb187,0,none⟩=some (.int .i64 0):=(zz BK187.out 0).trans rfl;have hcz33_1 : w30.cell? ⟨gb187,1,none⟩=some (.int .i64 0):=(zz BK187.out 1).trans rfl;have hcz33_2 : w30.cell? ⟨gb187,2,none⟩=some (.string (⟨#[]⟩ : ByteArray)):=(zz BK187.out 2).trans rfl;have hfz33_0:=zA BK187.out 0;have hfz33_1:=zA BK187.out 1;have hfz33_2:=zA BK187.out 2))
 (try simp only [Act.put,zi,zj,zk])
 go_cut [20] (fun v20 wc => ∃ (kq : Nat) (x20_26 : Bool),v20 = .bool x20_26∧Aside0 (impl_byteReader_value.j0 kq x20_26 t185 t186 t184 0 (⟨#[]⟩ : ByteArray)=some (r1,r2,r3,r4,r5))∧Aside0 (kq≤k)∧Aside0 (wc.heap[gb183]? = some (.cells #[.int .i64 0,.int .i64 0,.string (⟨#[]⟩ : ByteArray)] 26 (0,0)))∧Aside0 (wc.heap[gb187]? = some (.cells #[.int .i64 t184,.int .i64 0,.string (⟨#[]⟩ : ByteArray)] 26 (0,0)))∧Aside0 (IsS74 w0 wc g t185 t186)∧Aside0 (KeepBut w wc g none)∧Aside0 (Below w0.heap.size w0 wc))
 case first =>
  have H:=HC27.out;clear HC27
  by_cases c34 : t184=3
  ·
   rw [if_pos c34] at H
   have c34b0 : (t184 == 3)=true:=ya.mpr c34;have c34b1 : (t184 != 3)=false:=zX.mpr c34;clear c34;(first|rw [c34b0]|(simp only [zG,zH];rw [c34b0])|skip);have H':=zh H;clear H
   go_wp2
   go_meet
   case rel => exact ⟨_,((t184 == 3)),(by first|rfl|(simp;done)|(simp [*];done)),H',⟨by first|omega|exact ye _⟩,⟨by (with_reducible repeat (first|refine ze ?_ _|refine zf ?_|refine zg ?_ _));refine zS ?_ NB183_187.out _;(with_reducible repeat (first|refine ze ?_ _|refine zf ?_|refine zg ?_ _));refine zS ?_ NB183_187.out _;(with_reducible repeat (first|refine ze ?_ _|refine zf ?_|refine zg ?_ _));refine zS ?_ NB183_187.out _;(with_reducible repeat (first|refine ze ?_ _|refine zf ?_|refine zg ?_ _));exact BK183.out⟩,⟨by (with_reducible repeat (first|refine ze ?_ _|refine zf ?_|refine zg ?_ _));refine zL (cs:=#[.int .i64 t184,.int .i64 0,.string (⟨#[]⟩ : ByteArray)]) ?_ 2 _ rfl;(with_reducible repeat (first|refine ze ?_ _|refine zf ?_|refine zg ?_ _));refine zL (cs:=#[.int .i64 t184,.int .i64 0,.string (⟨#[]⟩ : ByteArray)]) ?_ 1 _ rfl;(with_reducible repeat (first|refine ze ?_ _|refine zf ?_|refine zg ?_ _));refine zL (cs:=#[.int .i64 0,.int .i64 0,.string (⟨#[]⟩ : ByteArray)]) ?_ 0 _ rfl;(with_reducible repeat (first|refine ze ?_ _|refine zf ?_|refine zg ?_ _));exact BK187.out⟩,⟨by repeat (with_reducible first|exact HI0.out|apply IsS74.alloc|apply IsS74.drewN|apply IsS74.drew|apply IsS74.set_0|apply IsS74.set_1|refine IsS74.far ?_ NB0_183.out _|refine IsS74.far ?_ NB0_187.out _)⟩,⟨by repeat (with_reducible first|exact HK.out|apply yl|apply ym|apply yx|apply yn|refine keep_far ?_ GW183.out _|refine keep_far ?_ GW187.out _)⟩,⟨by repeat (with_reducible first|exact HB.out|apply za|apply zb|apply zc|refine zd ?_ (IsS74.ge HI0.out)|refine zd ?_ GE183.out|refine zd ?_ GE187.out)⟩⟩
  rw [if_neg c34] at H;have c34b0 : (t184 == 3)=false:=zY.mpr c34;have c34b1 : (t184 != 3)=true:=zZ.mpr c34;(first|rw [c34b0]|(simp only [zG,zH];rw [c34b0])|skip)
  by_cases c35 : t184=4
  ·
   rw [if_pos c35] at H
   have c35b0 : (t184 == 4)=true:=ya.mpr c35;have c35b1 : (t184 != 4)=false:=zX.mpr c35;clear c35;have H':=zh H;clear H
   go_wp2
   go_meet
   case rel => exact ⟨_,((t184 == 4)),(by first|rfl|(simp;done)|(simp [*];done)),H',⟨by first|omega|exact ye _⟩,⟨by (with_reducible repeat (first|refine ze ?_ _|refine zf ?_|refine zg ?_ _));refine zS ?_ NB183_187.out _;(with_reducible repeat (first|refine ze ?_ _|refine zf ?_|refine zg ?_ _));refine zS ?_ NB183_187.out _;(with_reducible repeat (first|refine ze ?_ _|refine zf ?_|refine zg ?_ _));refine zS ?_ NB183_187.out _;(with_reducible repeat (first|refine ze ?_ _|refine zf ?_|refine zg ?_ _));exact BK183.out⟩,⟨by (with_reducible repeat (first|refine ze ?_ _|refine zf ?_|refine zg ?_ _));refine zL (cs:=#[.int .i64 t184,.int .i64 0,.string (⟨#[]⟩ : ByteArray)]) ?_ 2 _ rfl;(with_reducible repeat (first|refine ze ?_ _|refine zf ?_|refine zg ?_ _));refine zL (cs:=#[.int .i64 t184,.int .i64 0,.string (⟨#[]⟩ : ByteArray)]) ?_ 1 _ rfl;(with_reducible repeat (first|refine ze ?_ _|refine zf ?_|refine zg ?_ _));refine zL (cs:=#[.int .i64 0,.int .i64 0,.string (⟨#[]⟩ : ByteArray)]) ?_ 0 _ rfl;(with_reducible repeat (first|refine ze ?_ _|refine zf ?_|refine zg ?_ _));exact BK187.out⟩,⟨by repeat (with_reducible first|exact HI0.out|apply IsS74.alloc|apply IsS74.drewN|apply IsS74.drew|apply IsS74.set_0|apply IsS74.set_1|refine IsS74.far ?_ NB0_183.out _|refine IsS74.far ?_ NB0_187.out _)⟩,⟨by repeat (with_reducible first|exact HK.out|apply yl|apply ym|apply yx|apply yn|refine keep_far ?_ GW183.out _|refine keep_far ?_ GW187.out _)⟩,⟨by repeat (with_reducible first|exact HB.out|apply za|apply zb|apply zc|refine zd ?_ (IsS74.ge HI0.out)|refine zd ?_ GE183.out|refine zd ?_ GE187.out)⟩⟩
  rw [if_neg c35] at H;have c35b0 : (t184 == 4)=false:=zY.mpr c35;have c35b1 : (t184 != 4)=true:=zZ.mpr c35;have H':=zh H;clear H
  go_wp2
  go_meet
  case rel => exact ⟨_,((t184 == 5)),(by first|rfl|(simp;done)|(simp [*];done)),H',⟨by first|omega|exact ye _⟩,⟨by (with_reducible repeat (first|refine ze ?_ _|refine zf ?_|refine zg ?_ _));refine zS ?_ NB183_187.out _;(with_reducible repeat (first|refine ze ?_ _|refine zf ?_|refine zg ?_ _));refine zS ?_ NB183_187.out _;(with_reducible repeat (first|refine ze ?_ _|refine zf ?_|refine zg ?_ _));refine zS ?_ NB183_187.out _;(with_reducible repeat (first|refine ze ?_ _|refine zf ?_|refine zg ?_ _));exact BK183.out⟩,⟨by (with_reducible repeat (first|refine ze ?_ _|refine zf ?_|refine zg ?_ _));refine zL (cs:=#[.int .i64 t184,.int .i64 0,.string (⟨#[]⟩ : ByteArray)]) ?_ 2 _ rfl;(with_reducible repeat (first|refine ze ?_ _|refine zf ?_|refine zg ?_ _));refine zL (cs:=#[.int .i64 t184,.int .i64 0,.string (⟨#[]⟩ : ByteArray)]) ?_ 1 _ rfl;(with_reducible repeat (first|refine ze ?_ _|refine zf ?_|refine zg ?_ _));refine zL (cs:=#[.int .i64 0,.int .i64 0,.string (⟨#[]⟩ : ByteArray)]) ?_ 0 _ rfl;(with_reducible repeat (first|refine ze ?_ _|refine zf ?_|refine zg ?_ _));exact BK187.out⟩,⟨by repeat (with_reducible first|exact HI0.out|apply IsS74.alloc|apply IsS74.drewN|apply IsS74.drew|apply IsS74.set_0|apply IsS74.set_1|refine IsS74.far ?_ NB0_183.out _|refine IsS74.far ?_ NB0_187.out _)⟩,⟨by repeat (with_reducible first|exact HK.out|apply yl|apply ym|apply yx|apply yn|refine keep_far ?_ GW183.out _|refine keep_far ?_ GW187.out _)⟩,⟨by repeat (with_reducible first|exact HB.out|apply za|apply zb|apply zc|refine zd ?_ (IsS74.ge HI0.out)|refine zd ?_ GE183.out|refine zd ?_ GE187.out)⟩⟩
 case rest =>
  clear HC27
  try clear c1
  try clear c2
  try clear p2
  try clear c3
  try clear c3b0
  try clear c3b1
  try clear c5
  try clear p6
  try clear c8
  try clear c9
  try clear c13
  try clear c15
  try clear c15b0
  try clear c15b1
  try clear c20
  try clear c21
  try clear c25
  try clear c31
  try clear c32
  try clear c34
  try clear c34b0
  try clear c34b1
  try clear c35
  try clear c35b0
  try clear c35b1
  try clear hcz10_0
  try clear hcz10_1
  try clear hcz10_2
  try clear hcz12_0
  try clear hcz12_1
  try clear hcz12_2
  try clear hcz14_0
  try clear hcz14_1
  try clear hcz14_2
  try clear hcz22_0
  try clear hcz22_1
  try clear hcz22_2
  try clear hcz24_0
  try clear hcz24_1
  try clear hcz24_2
  try clear hcz26_0
  try clear hcz26_1
  try clear hcz26_2
  try clear hcz33_0
  try clear hcz33_1
  try clear hcz33_2
  try clear hfz10_0
  try clear hfz10_1
  try clear hfz10_2
  try clear hfz12_0
  try clear hfz12_1
  try clear hfz12_2
  try clear hfz14_0
  try clear hfz14_1
  try clear hfz14_2
  try clear hfz22_0
  try clear hfz22_1
  try clear hfz22_2
  try clear hfz24_0
  try clear hfz24_1
  try clear hfz24_2
  try clear hfz26_0
  try clear hfz26_1
  try clear hfz26_2
  try clear hfz33_0
  try clear hfz33_1
  try clear hfz33_2
  obtain ⟨kq,x20_26,rfl,HA,HJ26,BK183,BK187,HI0,HK,HB⟩:=hcut
  cases kq with
  | zero => exact absurd HA.out (by simp [impl_byteReader_value.j0])
  | succ kj26 =>
   have H:=HA.out;clear HA;simp only [impl_byteReader_value.j0] at H
   by_cases c36 : x20_26=true
   ·
    subst c36
    have H1 : ((impl_byteReader_num.f kj26 t185 t186 2).bind fun bt194 => ((impl_byteReader_take.f bt194.2.1 bt194.2.2 bt194.1).bind fun bt197 => (some (t184,0,bt197.1,bt197.2.1,bt197.2.2))))=some (r1,r2,r3,r4,r5):=by rw [if_pos rfl] at H;exact H
    clear H;have H:=H1;clear H1;replace H:=zT.mp H;obtain ⟨⟨t194,t195,t196⟩,A370,H⟩:=H;replace H : ((impl_byteReader_take.f t195 t196 t194).bind fun bt197 => (some (t184,0,bt197.1,bt197.2.1,bt197.2.2)))=some (r1,r2,r3,r4,r5):=H;have A37:=zh A370;clear A370;replace H:=zT.mp H;obtain ⟨⟨t197,t198,t199⟩,A380,H⟩:=H;replace H : (some (t184,0,t197,t198,t199))=some (r1,r2,r3,r4,r5):=H;have A38:=zh A380;clear A380;simp only [Option.some.injEq,Prod.mk.injEq] at H;obtain ⟨rfl,rfl,rfl,rfl,rfl⟩:=H
    go_wp2_with (first|((with_reducible refine zJ (f:=91) rfl ?_);refine yj (some 26) rfl rfl Try.func91 (by kernel_rfl) rfl #[.pointer (some ⟨g,0,none⟩),.int .i64 2] rfl (by (try simp only [zt,zu,zv]);first|done|rfl|(simp only [zw,zx];rfl)|(simp only [yr,ys,zV,zW];rfl)) ?_;(with_reducible refine (impl_byteReader_num.calls kj26  g t185 t186 2 t194 t195 t196 w0 _ ?side1 ?side2 A37.out).mono ?_);(case side1 => repeat (with_reducible first|exact HI0.out|apply IsS74.alloc|apply IsS74.drewN|apply IsS74.drew|apply IsS74.set_0|apply IsS74.set_1|refine IsS74.far ?_ NB0_183.out _|refine IsS74.far ?_ NB0_187.out _));(case side2 => repeat (with_reducible first|exact HB.out|apply za|apply zb|apply zc|refine zd ?_ (IsS74.ge HI0.out)|refine zd ?_ GE183.out|refine zd ?_ GE187.out));rintro e w39 ⟨rfl,hi,hb,hk⟩;refine ⟨_,rfl,?_⟩;replace BK183:=zh (KeepBut.blk hk (g':=gb183) (o:=.cells #[.int .i64 0,.int .i64 0,.string (⟨#[]⟩ : ByteArray)] 26 (0,0)) (by (with_reducible repeat (first|refine ze ?_ _|refine zf ?_|refine zg ?_ _));exact BK183.out) NB183_0.out (by simp));replace BK187:=zh (KeepBut.blk hk (g':=gb187) (o:=.cells #[.int .i64 t184,.int .i64 0,.string (⟨#[]⟩ : ByteArray)] 26 (0,0)) (by (with_reducible repeat (first|refine ze ?_ _|refine zf ?_|refine zg ?_ _));exact BK187.out) NB187_0.out (by simp));replace HK:=zh (KeepBut.trans (by repeat (with_reducible first|exact HK.out|apply yl|apply ym|apply yx|apply yn|refine keep_far ?_ GW183.out _|refine keep_far ?_ GW187.out _)) hk (.inl rfl));replace HB:=zh (hb);replace HI0:=zh (hi);(try clear hb);(try clear hb2);(try clear hk);(try clear hi))|((with_reducible refine zJ (f:=92) rfl ?_);refine yj (some 27) rfl rfl Try.func92 (by kernel_rfl) rfl #[.pointer (some ⟨g,0,none⟩),.int .i64 t194] rfl (by (try simp only [zt,zu,zv]);first|done|rfl|(simp only [zw,zx];rfl)|(simp only [yr,ys,zV,zW];rfl)) ?_;(with_reducible refine (impl_byteReader_take.calls  g t195 t196 t194 t197 t198 t199 w0 _ ?side1 ?side2 A38.out).mono ?_);(case side1 => repeat (with_reducible first|exact HI0.out|apply IsS74.alloc|apply IsS74.drewN|apply IsS74.drew|apply IsS74.set_0|apply IsS74.set_1|refine IsS74.far ?_ NB0_183.out _|refine IsS74.far ?_ NB0_187.out _));(case side2 => repeat (with_reducible first|exact HB.out|apply za|apply zb|apply zc|refine zd ?_ (IsS74.ge HI0.out)|refine zd ?_ GE183.out|refine zd ?_ GE187.out));rintro e w40 ⟨rfl,hi,hb,hk⟩;refine ⟨_,rfl,?_⟩;replace BK183:=zh (KeepBut.blk hk (g':=gb183) (o:=.cells #[.int .i64 0,.int .i64 0,.string (⟨#[]⟩ : ByteArray)] 26 (0,0)) (by (with_reducible repeat (first|refine ze ?_ _|refine zf ?_|refine zg ?_ _));exact BK183.out) NB183_0.out (by simp));replace BK187:=zh (KeepBut.blk hk (g':=gb187) (o:=.cells #[.int .i64 t184,.int .i64 0,.string (⟨#[]⟩ : ByteArray)] 26 (0,0)) (by (with_reducible repeat (first|refine ze ?_ _|refine zf ?_|refine zg ?_ _));exact BK187.out) NB187_0.out (by simp));replace HK:=zh (KeepBut.trans (by repeat (with_reducible first|exact HK.out|apply yl|apply ym|apply yx|apply yn|refine keep_far ?_ GW183.out _|refine keep_far ?_ GW187.out _)) hk (.inl rfl));replace HB:=zh (hb);replace HI0:=zh (hi);(try clear hb);(try clear hb2);(try clear hk);(try clear hi);have hnb41:=NB187_183.out;have hnc41:=NB183_187.out;have hnb42:=NB187_0.out;have hnc42:=NB0_187.out;have hcz43_0 : w40.cell? ⟨gb187,0,none⟩=some (.int .i64 t184):=(zz BK187.out 0).trans rfl;have hcz43_1 : w40.cell? ⟨gb187,1,none⟩=some (.int .i64 0):=(zz BK187.out 1).trans rfl;have hcz43_2 : w40.cell? ⟨gb187,2,none⟩=some (.string (⟨#[]⟩ : ByteArray)):=(zz BK187.out 2).trans rfl;have hfz43_0:=zA BK187.out 0;have hfz43_1:=zA BK187.out 1;have hfz43_2:=zA BK187.out 2;have hnb44:=NB183_0.out;have hnc44:=NB0_183.out;have hcz45_0 : w40.cell? ⟨gb183,0,none⟩=some (.int .i64 0):=(zz BK183.out 0).trans rfl;have hcz45_1 : w40.cell? ⟨gb183,1,none⟩=some (.int .i64 0):=(zz BK183.out 1).trans rfl;have hcz45_2 : w40.cell? ⟨gb183,2,none⟩=some (.string (⟨#[]⟩ : ByteArray)):=(zz BK183.out 2).trans rfl;have hfz45_0:=zA BK183.out 0;have hfz45_1:=zA BK183.out 1;have hfz45_2:=zA BK183.out 2))
    refine bodyPost_ret (results_cell_row rfl _ _ gb183 26 #[.int .i64 t184,.int .i64 0,.string t197] (0,0) _ rfl (by (with_reducible repeat (first|refine ze ?_ _|refine zf ?_|refine zg ?_ _));refine zL (cs:=#[.int .i64 t184,.int .i64 0,.string (⟨#[]⟩ : ByteArray)]) ?_ 2 _ rfl;(with_reducible repeat (first|refine ze ?_ _|refine zf ?_|refine zg ?_ _));refine zL (cs:=#[.int .i64 t184,.int .i64 0,.string (⟨#[]⟩ : ByteArray)]) ?_ 1 _ rfl;(with_reducible repeat (first|refine ze ?_ _|refine zf ?_|refine zg ?_ _));refine zL (cs:=#[.int .i64 0,.int .i64 0,.string (⟨#[]⟩ : ByteArray)]) ?_ 0 _ rfl;(with_reducible repeat (first|refine ze ?_ _|refine zf ?_|refine zg ?_ _));refine zS ?_ NB183_187.out _;(with_reducible repeat (first|refine ze ?_ _|refine zf ?_|refine zg ?_ _));exact BK183.out) Try.underlying26 rfl (by kernel_rfl)) rfl ?_;exact ⟨by first|rfl|(simp [yt,yu] <;> rfl)|(simp [*,yt,yu] <;> rfl),by repeat (with_reducible first|exact HI0.out|apply IsS74.alloc|apply IsS74.drewN|apply IsS74.drew|apply IsS74.set_0|apply IsS74.set_1|refine IsS74.far ?_ NB0_183.out _|refine IsS74.far ?_ NB0_187.out _),by repeat (with_reducible first|exact HB.out|apply za|apply zb|apply zc|refine zd ?_ (IsS74.ge HI0.out)|refine zd ?_ GE183.out|refine zd ?_ GE187.out),by repeat (with_reducible first|exact HK.out|apply yl|apply ym|apply yx|apply yn|refine keep_far ?_ GW183.out _|refine keep_far ?_ GW187.out _)⟩
   replace c36:=yb.mpr c36;subst c36;have H1 : (some (t184,0,(⟨#[]⟩ : ByteArray),t185,t186))=some (r1,r2,r3,r4,r5):=by rw [if_neg (show ¬ (false=true) by decide)] at H;exact H
   clear H;have H:=H1;clear H1;simp only [Option.some.injEq,Prod.mk.injEq] at H;obtain ⟨rfl,rfl,rfl,rfl,rfl⟩:=H;have hnb46:=NB187_183.out;have hnc46:=NB183_187.out;have hnb47:=NB187_0.out;have hnc47:=NB0_187.out;have hcz48_0 : wc.cell? ⟨gb187,0,none⟩=some (.int .i64 t184):=(zz BK187.out 0).trans rfl;have hcz48_1 : wc.cell? ⟨gb187,1,none⟩=some (.int .i64 0):=(zz BK187.out 1).trans rfl;have hcz48_2 : wc.cell? ⟨gb187,2,none⟩=some (.string (⟨#[]⟩ : ByteArray)):=(zz BK187.out 2).trans rfl;have hfz48_0:=zA BK187.out 0;have hfz48_1:=zA BK187.out 1;have hfz48_2:=zA BK187.out 2;have hnb49:=NB183_0.out;have hnc49:=NB0_183.out;have hcz50_0 : wc.cell? ⟨gb183,0,none⟩=some (.int .i64 0):=(zz BK183.out 0).trans rfl;have hcz50_1 : wc.cell? ⟨gb183,1,none⟩=some (.int .i64 0):=(zz BK183.out 1).trans rfl;have hcz50_2 : wc.cell? ⟨gb183,2,none⟩=some (.string (⟨#[]⟩ : ByteArray)):=(zz BK183.out 2).trans rfl;have hfz50_0:=zA BK183.out 0;have hfz50_1:=zA BK183.out 1;have hfz50_2:=zA BK183.out 2
   go_wp2
   refine bodyPost_ret (results_cell_row rfl _ _ gb183 26 #[.int .i64 t184,.int .i64 0,.string (⟨#[]⟩ : ByteArray)] (0,0) _ rfl (by (with_reducible repeat (first|refine ze ?_ _|refine zf ?_|refine zg ?_ _));refine zL (cs:=#[.int .i64 t184,.int .i64 0,.string (⟨#[]⟩ : ByteArray)]) ?_ 2 _ rfl;(with_reducible repeat (first|refine ze ?_ _|refine zf ?_|refine zg ?_ _));refine zL (cs:=#[.int .i64 t184,.int .i64 0,.string (⟨#[]⟩ : ByteArray)]) ?_ 1 _ rfl;(with_reducible repeat (first|refine ze ?_ _|refine zf ?_|refine zg ?_ _));refine zL (cs:=#[.int .i64 0,.int .i64 0,.string (⟨#[]⟩ : ByteArray)]) ?_ 0 _ rfl;(with_reducible repeat (first|refine ze ?_ _|refine zf ?_|refine zg ?_ _));exact BK183.out) Try.underlying26 rfl (by kernel_rfl)) rfl ?_;exact ⟨by first|rfl|(simp [yt,yu] <;> rfl)|(simp [*,yt,yu] <;> rfl),by repeat (with_reducible first|exact HI0.out|apply IsS74.alloc|apply IsS74.drewN|apply IsS74.drew|apply IsS74.set_0|apply IsS74.set_1|refine IsS74.far ?_ NB0_183.out _|refine IsS74.far ?_ NB0_187.out _),by repeat (with_reducible first|exact HB.out|apply za|apply zb|apply zc|refine zd ?_ (IsS74.ge HI0.out)|refine zd ?_ GE183.out|refine zd ?_ GE187.out),by repeat (with_reducible first|exact HK.out|apply yl|apply ym|apply yx|apply yn|refine keep_far ?_ GW183.out _|refine keep_far ?_ GW187.out _)⟩

end Go.Proofs.Ytpmeglcmhiihoaa.Q
end
section
namespace Go.Proofs.Ytpmeglcmhiihoaa.Q
open Go.RowKit Go.Proofs.YtpmeglcmhiihoaaW.PrintWords Go.Proofs.YtpmeglcmhiihoaaW.PrintLast Go.Proofs.YtpmeglcmhiihoaaW.PrintMore
attribute [local go_sem] max2_int min2_int max_two min_two max_three min_three max_four min_four max2_str min2_str str_geq str_gtr str_leq   -- for this text's walks alone
set_option linter.unusedVariables false
set_option linter.unusedSimpArgs false

def impl_items.l0 : Nat→List (S26)→ByteArray→Bool→Option ((List (S26))×Bool)
 | 0,_,_,_ => none
 | k + 1,x5,x202000,x202001 => if x202000.toList=([] : List UInt8) then (some (x5,!x202001)) else (if x202001=true then (some (x5,!x202001)) else ((impl_byteReader_value.f k x202000 x202001).bind fun bt205 => (if x5.length<4398046511104 then (impl_items.l0 k (x5 ++ [(⟨bt205.1,bt205.2.1,bt205.2.2.1⟩ : S26)]) bt205.2.2.2.1 bt205.2.2.2.2) else (none))))
def impl_items.f (k : Nat) (a0_0 : Int) (a0_1 : Int) (a0_2 : ByteArray) : Option ((List (S26))×Bool):=impl_items.l0 k (([] : List (S26))) a0_2 false
theorem impl_items.mono_l : ∀ k,(∀ y0 y1 y2,LeO (impl_items.l0 k y0 y1 y2) (impl_items.l0 (k + 1) y0 y1 y2))
 | 0 => fun _ _ _ r h => by simp [impl_items.l0] at h
 | k + 1 => by
  have ih0:=impl_items.mono_l k;intro y0 y1 y2;unfold impl_items.l0
  repeat' first|(with_reducible exact ih0 _ _ _)|(with_reducible exact impl_byteReader_value.mono _ _ _)|(with_reducible exact zQ _)|(with_reducible exact zN _)|(with_reducible refine zP ?_ ?_)|(with_reducible refine zO ?_ (fun _ => ?_))|refine zP ?_ ?_|refine zO ?_ (fun _ => ?_)
theorem impl_items.mono : ∀ a0 a1 a2 k,LeO (impl_items.f k a0 a1 a2) (impl_items.f (k + 1) a0 a1 a2):=by
 intro a0 a1 a2 k;have ih0:=impl_items.mono_l k;unfold impl_items.f
 repeat' first|(with_reducible exact ih0 _ _ _)|(with_reducible exact impl_byteReader_value.mono _ _ _)|(with_reducible exact zQ _)|(with_reducible exact zN _)|(with_reducible refine zP ?_ ?_)|(with_reducible refine zO ?_ (fun _ => ?_))|refine zP ?_ ?_|refine zO ?_ (fun _ => ?_)
set_option maxHeartbeats 8000000 in
set_option maxRecDepth 100000 in
theorem impl_items.calls (k : Nat) (a0_0 : Int) (a0_1 : Int) (a0_2 : ByteArray) (r1 : List (S26)) (r2 : Bool) (w : World) (h : impl_items.f k a0_0 a0_1 a0_2=some (r1,r2)) :
  Calls Try.prog 62 #[.agg #[.int .i64 a0_0,.int .i64 a0_1,.string a0_2]] w fun e w' => ∃ v0_ : Value,e = .returned (.tuple #[v0_,.bool r2])∧Kd.R k26 26 w' w.heap.size (fun _ => True) v0_ r1∧Below w.heap.size w w':=by
 have hu26:=Try.underlying26;have hu74:=Try.underlying74;have HB:=zh (Below.refl w.heap.size w);have H : (impl_items.l0 k (([] : List (S26))) a0_2 false)=some (r1,r2):=h;clear h;obtain ⟨y202,hy202⟩ : ∃ y_ : List (S26),y_=(([] : List (S26))):=⟨_,rfl⟩;replace H : (impl_items.l0 k y202 a0_2 false)=some (r1,r2):=by first|(rw [hy202];with_reducible exact H)|(have H2_:=(Option.bind_some _ _).symm.trans H;rw [hy202];with_reducible exact H2_)|(have H2_:=(Option.bind_some _ _).symm.trans H;with_reducible exact H2_)|with_reducible exact H|(rw [hy202];exact H)|exact H
 have Ny202:=zh hy202;clear hy202;have H':=zh H;clear H
 go_enter Try.func62,Try.ntmps62
 go_wp2_with (first|((with_reducible refine zK (N:=1) rfl ?_);refine zI ?hg (N:=1) ?hd (cs:=#[.int .i64 a0_0,.int .i64 a0_1,.string a0_2]) (t:=26) ?hr ?_;(case hd => rfl);(case hg => rfl);(case hr => first|(go_simp;done)|(go_simp;rfl));intro gb200 hg w2 hbox hb;have BK200:=zh (hbox);have GW200:=zh ((by rw [hg];exact (zB (by repeat (with_reducible first|exact HB.out|apply za|apply zb|apply zc))) : w.heap.size≤gb200));have GE200:=zh ((by rw [hg];exact (zB (by repeat (with_reducible first|exact HB.out|apply za|apply zb|apply zc))) : w.heap.size≤gb200));replace HB:=zh (zC (by repeat (with_reducible first|exact HB.out|apply za|apply zb|apply zc)) hb);clear hb hbox hg;have hcz3_0 : w2.cell? ⟨gb200,0,none⟩=some (.int .i64 a0_0):=(zz BK200.out 0).trans rfl;have hcz3_1 : w2.cell? ⟨gb200,1,none⟩=some (.int .i64 a0_1):=(zz BK200.out 1).trans rfl;have hcz3_2 : w2.cell? ⟨gb200,2,none⟩=some (.string a0_2):=(zz BK200.out 2).trans rfl;have hfz3_0:=zA BK200.out 0;have hfz3_1:=zA BK200.out 1;have hfz3_2:=zA BK200.out 2)|((with_reducible refine zK (N:=9) rfl ?_);refine zI ?hg (N:=9) ?hd (cs:=#[.string a0_2,.bool false]) (t:=74) ?hr ?_;(case hd => rfl);(case hg => rfl);(case hr => first|(go_simp;done)|(go_simp;rfl));intro gb201 hg w4 hbox hb;have BK201:=zh (hbox);have GW201:=zh ((by rw [hg];exact (zB (by repeat (with_reducible first|exact HB.out|apply za|apply zb|apply zc|refine zd ?_ GE200.out))) : w.heap.size≤gb201));have GE201:=zh ((by rw [hg];exact (zB (by repeat (with_reducible first|exact HB.out|apply za|apply zb|apply zc|refine zd ?_ GE200.out))) : w.heap.size≤gb201));replace HB:=zh (zC (by repeat (with_reducible first|exact HB.out|apply za|apply zb|apply zc|refine zd ?_ GE200.out)) hb);have NB200_201:=zh ((by rw [hg];exact yc (yi (g:=gb200) (o:=.cells #[.int .i64 a0_0,.int .i64 a0_1,.string a0_2] 26 (0,0)) (by (with_reducible repeat (first|refine ze ?_ _|refine zf ?_|refine zg ?_ _));exact BK200.out)) : gb200≠gb201));have NB201_200:=zh ((by rw [hg];exact yd (yi (g:=gb200) (o:=.cells #[.int .i64 a0_0,.int .i64 a0_1,.string a0_2] 26 (0,0)) (by (with_reducible repeat (first|refine ze ?_ _|refine zf ?_|refine zg ?_ _));exact BK200.out)) : gb201≠gb200));replace BK200:=zh (zD (g:=gb200) (o:=.cells #[.int .i64 a0_0,.int .i64 a0_1,.string a0_2] 26 (0,0)) (by (with_reducible repeat (first|refine ze ?_ _|refine zf ?_|refine zg ?_ _));exact BK200.out) hb);clear hb hbox hg)|((with_reducible refine zK (N:=10) rfl ?_);refine Kd.R_lit k26 _ 26 ?hg (N:=10) ?hd (xs:=([] : List (S26))) (inner:=[]) (ok:=fun _ => True) (okp:=fun _ => True) ?hr ?hp (fun _ hk => hk) trivial (Below.refl _ _) (ye _) (by simp) ?_;(case hd => rfl);(case hg => rfl);(case hr => first|(go_simp;done)|(go_simp;rfl));(case hp => exact (Reps.none _ _));intro v203 w5 ho6 hb hg_ hnew_;clear hg_ hnew_;(first|rw [← Ny202.out] at ho6|(simp only [Int.reduceToNat] at ho6;rw [← Ny202.out] at ho6));have HO204:=zh (yy (Kd.R_newB ho6 (g:=gb200) (o:=.cells #[.int .i64 a0_0,.int .i64 a0_1,.string a0_2] 26 (0,0)) (by (with_reducible repeat (first|refine ze ?_ _|refine zf ?_|refine zg ?_ _));exact BK200.out)) (zB (by repeat (with_reducible first|exact HB.out|apply za|apply zb|apply zc|refine zd ?_ GE200.out|refine zd ?_ GE201.out))));replace BK200:=zh (zD (g:=gb200) (o:=.cells #[.int .i64 a0_0,.int .i64 a0_1,.string a0_2] 26 (0,0)) (by (with_reducible repeat (first|refine ze ?_ _|refine zf ?_|refine zg ?_ _));exact BK200.out) hb);replace BK201:=zh (zD (g:=gb201) (o:=.cells #[.string a0_2,.bool false] 74 (0,0)) (by (with_reducible repeat (first|refine ze ?_ _|refine zf ?_|refine zg ?_ _));exact BK201.out) hb);replace HB:=zh (zC (by repeat (with_reducible first|exact HB.out|apply za|apply zb|apply zc|refine zd ?_ GE200.out|refine zd ?_ GE201.out)) hb);clear hb ho6))
 repeat (go_quiet (first|((with_reducible refine zK (N:=1) rfl ?_);refine zI ?hg (N:=1) ?hd (cs:=#[.int .i64 a0_0,.int .i64 a0_1,.string a0_2]) (t:=26) ?hr ?_;(case hd => rfl);(case hg => rfl);(case hr => first|(go_simp;done)|(go_simp;rfl));intro gb200 hg w2 hbox hb;have BK200:=zh (hbox);have GW200:=zh ((by rw [hg];exact (zB (by repeat (with_reducible first|exact HB.out|apply za|apply zb|apply zc))) : w.heap.size≤gb200));have GE200:=zh ((by rw [hg];exact (zB (by repeat (with_reducible first|exact HB.out|apply za|apply zb|apply zc))) : w.heap.size≤gb200));replace HB:=zh (zC (by repeat (with_reducible first|exact HB.out|apply za|apply zb|apply zc)) hb);clear hb hbox hg;have hcz3_0 : w2.cell? ⟨gb200,0,none⟩=some (.int .i64 a0_0):=(zz BK200.out 0).trans rfl;have hcz3_1 : w2.cell? ⟨gb200,1,none⟩=some (.int .i64 a0_1):=(zz BK200.out 1).trans rfl;have hcz3_2 : w2.cell? ⟨gb200,2,none⟩=some (.string a0_2):=(zz BK200.out 2).trans rfl;have hfz3_0:=zA BK200.out 0;have hfz3_1:=zA BK200.out 1;have hfz3_2:=zA BK200.out 2)|((with_reducible refine zK (N:=9) rfl ?_);refine zI ?hg (N:=9) ?hd (cs:=#[.string a0_2,.bool false]) (t:=74) ?hr ?_;(case hd => rfl);(case hg => rfl);(case hr => first|(go_simp;done)|(go_simp;rfl));intro gb201 hg w4 hbox hb;have BK201:=zh (hbox);have GW201:=zh ((by rw [hg];exact (zB (by repeat (with_reducible first|exact HB.out|apply za|apply zb|apply zc|refine zd ?_ GE200.out))) : w.heap.size≤gb201));have GE201:=zh ((by rw [hg];exact (zB (by repeat (with_reducible first|exact HB.out|apply za|apply zb|apply zc|refine zd ?_ GE200.out))) : w.heap.size≤gb201));replace HB:=zh (zC (by repeat (with_reducible first|exact HB.out|apply za|apply zb|apply zc|refine zd ?_ GE200.out)) hb);have NB200_201:=zh ((by rw [hg];exact yc (yi (g:=gb200) (o:=.cells #[.int .i64 a0_0,.int .i64 a0_1,.string a0_2] 26 (0,0)) (by (with_reducible repeat (first|refine ze ?_ _|refine zf ?_|refine zg ?_ _));exact BK200.out)) : gb200≠gb201));have NB201_200:=zh ((by rw [hg];exact yd (yi (g:=gb200) (o:=.cells #[.int .i64 a0_0,.int .i64 a0_1,.string a0_2] 26 (0,0)) (by (with_reducible repeat (first|refine ze ?_ _|refine zf ?_|refine zg ?_ _));exact BK200.out)) : gb201≠gb200));replace BK200:=zh (zD (g:=gb200) (o:=.cells #[.int .i64 a0_0,.int .i64 a0_1,.string a0_2] 26 (0,0)) (by (with_reducible repeat (first|refine ze ?_ _|refine zf ?_|refine zg ?_ _));exact BK200.out) hb);clear hb hbox hg)|((with_reducible refine zK (N:=10) rfl ?_);refine Kd.R_lit k26 _ 26 ?hg (N:=10) ?hd (xs:=([] : List (S26))) (inner:=[]) (ok:=fun _ => True) (okp:=fun _ => True) ?hr ?hp (fun _ hk => hk) trivial (Below.refl _ _) (ye _) (by simp) ?_;(case hd => rfl);(case hg => rfl);(case hr => first|(go_simp;done)|(go_simp;rfl));(case hp => exact (Reps.none _ _));intro v203 w5 ho6 hb hg_ hnew_;clear hg_ hnew_;(first|rw [← Ny202.out] at ho6|(simp only [Int.reduceToNat] at ho6;rw [← Ny202.out] at ho6));have HO204:=zh (yy (Kd.R_newB ho6 (g:=gb200) (o:=.cells #[.int .i64 a0_0,.int .i64 a0_1,.string a0_2] 26 (0,0)) (by (with_reducible repeat (first|refine ze ?_ _|refine zf ?_|refine zg ?_ _));exact BK200.out)) (zB (by repeat (with_reducible first|exact HB.out|apply za|apply zb|apply zc|refine zd ?_ GE200.out|refine zd ?_ GE201.out))));replace BK200:=zh (zD (g:=gb200) (o:=.cells #[.int .i64 a0_0,.int .i64 a0_1,.string a0_2] 26 (0,0)) (by (with_reducible repeat (first|refine ze ?_ _|refine zf ?_|refine zg ?_ _));exact BK200.out) hb);replace BK201:=zh (zD (g:=gb201) (o:=.cells #[.string a0_2,.bool false] 74 (0,0)) (by (with_reducible repeat (first|refine ze ?_ _|refine zf ?_|refine zg ?_ _));exact BK201.out) hb);replace HB:=zh (zC (by repeat (with_reducible first|exact HB.out|apply za|apply zb|apply zc|refine zd ?_ GE200.out|refine zd ?_ GE201.out)) hb);clear hb ho6));try go_wp2_with (first|((with_reducible refine zK (N:=1) rfl ?_);refine zI ?hg (N:=1) ?hd (cs:=#[.int .i64 a0_0,.int .i64 a0_1,.string a0_2]) (t:=26) ?hr ?_;(case hd => rfl);(case hg => rfl);(case hr => first|(go_simp;done)|(go_simp;rfl));intro gb200 hg w2 hbox hb;have BK200:=zh (hbox);have GW200:=zh ((by rw [hg];exact (zB (by repeat (with_reducible first|exact HB.out|apply za|apply zb|apply zc))) : w.heap.size≤gb200));have GE200:=zh ((by rw [hg];exact (zB (by repeat (with_reducible first|exact HB.out|apply za|apply zb|apply zc))) : w.heap.size≤gb200));replace HB:=zh (zC (by repeat (with_reducible first|exact HB.out|apply za|apply zb|apply zc)) hb);clear hb hbox hg;have hcz3_0 : w2.cell? ⟨gb200,0,none⟩=some (.int .i64 a0_0):=(zz BK200.out 0).trans rfl;have hcz3_1 : w2.cell? ⟨gb200,1,none⟩=some (.int .i64 a0_1):=(zz BK200.out 1).trans rfl;have hcz3_2 : w2.cell? ⟨gb200,2,none⟩=some (.string a0_2):=(zz BK200.out 2).trans rfl;have hfz3_0:=zA BK200.out 0;have hfz3_1:=zA BK200.out 1;have hfz3_2:=zA BK200.out 2)|((with_reducible refine zK (N:=9) rfl ?_);refine zI ?hg (N:=9) ?hd (cs:=#[.string a0_2,.bool false]) (t:=74) ?hr ?_;(case hd => rfl);(case hg => rfl);(case hr => first|(go_simp;done)|(go_simp;rfl));intro gb201 hg w4 hbox hb;have BK201:=zh (hbox);have GW201:=zh ((by rw [hg];exact (zB (by repeat (with_reducible first|exact HB.out|apply za|apply zb|apply zc|refine zd ?_ GE200.out))) : w.heap.size≤gb201));have GE201:=zh ((by rw [hg];exact (zB (by repeat (with_reducible first|exact HB.out|apply za|apply zb|apply zc|refine zd ?_ GE200.out))) : w.heap.size≤gb201));replace HB:=zh (zC (by repeat (with_reducible first|exact HB.out|apply za|apply zb|apply zc|refine zd ?_ GE200.out)) hb);have NB200_201:=zh ((by rw [hg];exact yc (yi (g:=gb200) (o:=.cells #[.int .i64 a0_0,.int .i64 a0_1,.string a0_2] 26 (0,0)) (by (with_reducible repeat (first|refine ze ?_ _|refine zf ?_|refine zg ?_ _));exact BK200.out)) : gb200≠gb201));have NB201_200:=zh ((by rw [hg];exact yd (yi (g:=gb200) (o:=.cells #[.int .i64 a0_0,.int .i64 a0_1,.string a0_2] 26 (0,0)) (by (with_reducible repeat (first|refine ze ?_ _|refine zf ?_|refine zg ?_ _));exact BK200.out)) : gb201≠gb200));replace BK200:=zh (zD (g:=gb200) (o:=.cells #[.int .i64 a0_0,.int .i64 a0_1,.string a0_2] 26 (0,0)) (by (with_reducible repeat (first|refine ze ?_ _|refine zf ?_|refine zg ?_ _));exact BK200.out) hb);clear hb hbox hg)|((with_reducible refine zK (N:=10) rfl ?_);refine Kd.R_lit k26 _ 26 ?hg (N:=10) ?hd (xs:=([] : List (S26))) (inner:=[]) (ok:=fun _ => True) (okp:=fun _ => True) ?hr ?hp (fun _ hk => hk) trivial (Below.refl _ _) (ye _) (by simp) ?_;(case hd => rfl);(case hg => rfl);(case hr => first|(go_simp;done)|(go_simp;rfl));(case hp => exact (Reps.none _ _));intro v203 w5 ho6 hb hg_ hnew_;clear hg_ hnew_;(first|rw [← Ny202.out] at ho6|(simp only [Int.reduceToNat] at ho6;rw [← Ny202.out] at ho6));have HO204:=zh (yy (Kd.R_newB ho6 (g:=gb200) (o:=.cells #[.int .i64 a0_0,.int .i64 a0_1,.string a0_2] 26 (0,0)) (by (with_reducible repeat (first|refine ze ?_ _|refine zf ?_|refine zg ?_ _));exact BK200.out)) (zB (by repeat (with_reducible first|exact HB.out|apply za|apply zb|apply zc|refine zd ?_ GE200.out|refine zd ?_ GE201.out))));replace BK200:=zh (zD (g:=gb200) (o:=.cells #[.int .i64 a0_0,.int .i64 a0_1,.string a0_2] 26 (0,0)) (by (with_reducible repeat (first|refine ze ?_ _|refine zf ?_|refine zg ?_ _));exact BK200.out) hb);replace BK201:=zh (zD (g:=gb201) (o:=.cells #[.string a0_2,.bool false] 74 (0,0)) (by (with_reducible repeat (first|refine ze ?_ _|refine zf ?_|refine zg ?_ _));exact BK201.out) hb);replace HB:=zh (zC (by repeat (with_reducible first|exact HB.out|apply za|apply zb|apply zc|refine zd ?_ GE200.out|refine zd ?_ GE201.out)) hb);clear hb ho6)))
 go_loopg [5] k (fun kq v5 w' => ∃ (x5_1 : List (S26)) (x202000_1 : ByteArray) (x202001_1 : Bool),Aside0 (impl_items.l0 kq x5_1 x202000_1 x202001_1=some (r1,r2))∧Aside0 (kq≤k)∧Aside0 (Kd.R k26 26 w' w.heap.size (fun k_ => k_≠gb200) v5 x5_1)∧Aside0 (w'.heap[gb200]? = some (.cells #[.int .i64 a0_0,.int .i64 a0_1,.string a0_2] 26 (0,0)))∧Aside0 (w'.heap[gb201]? = some (.cells #[.string x202000_1,.bool x202001_1] 74 (0,0)))∧Aside0 (Below w.heap.size w w'))
 case atStart => exact ⟨(y202),(a0_2),(false),H',⟨ye _⟩,⟨by (with_reducible repeat (first|apply zm|apply zn|apply zo));exact zM HO204.out (fun _ hk => hk.2)⟩,⟨by (with_reducible repeat (first|refine ze ?_ _|refine zf ?_|refine zg ?_ _));exact BK200.out⟩,⟨by (with_reducible repeat (first|refine ze ?_ _|refine zf ?_|refine zg ?_ _));exact BK201.out⟩,⟨by repeat (with_reducible first|exact HB.out|apply za|apply zb|apply zc|refine zd ?_ GE200.out|refine zd ?_ GE201.out)⟩⟩
 case round =>
  clear H'
  try clear p2
  try clear c6
  try clear hcz3_0
  try clear hcz3_1
  try clear hcz3_2
  try clear hfz3_0
  try clear hfz3_1
  try clear hfz3_2
  obtain ⟨x5_1,x202000_1,x202001_1,HA,HK1,HO_5,BK200,BK201,HB⟩:=hrel
  cases gk with
  | zero => exact absurd HA.out (by simp [impl_items.l0])
  | succ k1 =>
   have H:=HA.out;clear HA;simp only [impl_items.l0] at H
   by_cases c7 : x202000_1.toList=([] : List UInt8)
   ·
    rw [if_pos c7] at H
    have c7b0 : (x202000_1.toList == ([] : List UInt8))=true:=ya.mpr c7;have c7b1 : (x202000_1.toList != ([] : List UInt8))=false:=zX.mpr c7;clear c7;simp only [Option.some.injEq,Prod.mk.injEq] at H;obtain ⟨rfl,rfl⟩:=H;have hnb8:=NB201_200.out;have hnc8:=NB200_201.out;have hcz9_0 : wr.cell? ⟨gb201,0,none⟩=some (.string x202000_1):=(zz BK201.out 0).trans rfl;have hcz9_1 : wr.cell? ⟨gb201,1,none⟩=some (.bool x202001_1):=(zz BK201.out 1).trans rfl;have hfz9_0:=zA BK201.out 0;have hfz9_1:=zA BK201.out 1
    go_wp2
    repeat (go_quiet (fail);try go_wp2)
    go_ret2
    exact ⟨_,by first|rfl|(simp [yt,yu] <;> rfl)|(simp [*,yt,yu] <;> rfl),by (with_reducible repeat (first|apply zm|apply zn|apply zo));exact zM HO_5.out (fun _ hk => trivial),by repeat (with_reducible first|exact HB.out|apply za|apply zb|apply zc|refine zd ?_ GE200.out|refine zd ?_ GE201.out)⟩
   rw [if_neg c7] at H;have c7b0 : (x202000_1.toList == ([] : List UInt8))=false:=zY.mpr c7;have c7b1 : (x202000_1.toList != ([] : List UInt8))=true:=zZ.mpr c7
   by_cases c10 : x202001_1=true
   ·
    subst c10
    have H1 : (some (x5_1,!true))=some (r1,r2):=by rw [if_pos rfl] at H;exact H
    clear H;have H:=H1;clear H1;simp only [Option.some.injEq,Prod.mk.injEq] at H;obtain ⟨rfl,rfl⟩:=H;have hnb11:=NB201_200.out;have hnc11:=NB200_201.out;have hcz12_0 : wr.cell? ⟨gb201,0,none⟩=some (.string x202000_1):=(zz BK201.out 0).trans rfl;have hcz12_1 : wr.cell? ⟨gb201,1,none⟩=some (.bool true):=(zz BK201.out 1).trans rfl;have hfz12_0:=zA BK201.out 0;have hfz12_1:=zA BK201.out 1
    go_wp2
    repeat (go_quiet (fail);try go_wp2)
    go_ret2
    exact ⟨_,by first|rfl|(simp [yt,yu] <;> rfl)|(simp [*,yt,yu] <;> rfl),by (with_reducible repeat (first|apply zm|apply zn|apply zo));exact zM HO_5.out (fun _ hk => trivial),by repeat (with_reducible first|exact HB.out|apply za|apply zb|apply zc|refine zd ?_ GE200.out|refine zd ?_ GE201.out)⟩
   replace c10:=yb.mpr c10;subst c10;have H1 : ((impl_byteReader_value.f k1 x202000_1 false).bind fun bt205 => (if x5_1.length<4398046511104 then (impl_items.l0 k1 (x5_1 ++ [(⟨bt205.1,bt205.2.1,bt205.2.2.1⟩ : S26)]) bt205.2.2.2.1 bt205.2.2.2.2) else (none)))=some (r1,r2):=by rw [if_neg (show ¬ (false=true) by decide)] at H;exact H
   clear H;have H:=H1;clear H1;replace H:=zT.mp H;obtain ⟨⟨t205,t206,t207,t208,t209⟩,A130,H⟩:=H;replace H : (if x5_1.length<4398046511104 then (impl_items.l0 k1 (x5_1 ++ [(⟨t205,t206,t207⟩ : S26)]) t208 t209) else (none))=some (r1,r2):=H;have A13:=zh A130;clear A130
   by_cases c14 : x5_1.length<4398046511104
   ·
    rw [if_pos c14] at H
    have LMc14:=zh c14;clear c14;obtain ⟨y210,hy210⟩ : ∃ y_ : List (S26),y_=(x5_1 ++ [(⟨t205,t206,t207⟩ : S26)]):=⟨_,rfl⟩;replace H : (impl_items.l0 k1 y210 t208 t209)=some (r1,r2):=by first|(rw [hy210];with_reducible exact H)|(have H2_:=(Option.bind_some _ _).symm.trans H;rw [hy210];with_reducible exact H2_)|(have H2_:=(Option.bind_some _ _).symm.trans H;with_reducible exact H2_)|with_reducible exact H|(rw [hy210];exact H)|exact H
    have Ny210:=zh hy210;clear hy210;have H':=zh H;clear H;have hnb15:=NB201_200.out;have hnc15:=NB200_201.out;have hcz16_0 : wr.cell? ⟨gb201,0,none⟩=some (.string x202000_1):=(zz BK201.out 0).trans rfl;have hcz16_1 : wr.cell? ⟨gb201,1,none⟩=some (.bool false):=(zz BK201.out 1).trans rfl;have hfz16_0:=zA BK201.out 0;have hfz16_1:=zA BK201.out 1;have HI201:=zh (show IsS74 w wr gb201 x202000_1 false from ⟨BK201.out,GE201.out⟩)
    go_wp2_with (first|(go_at_call 56;(with_reducible refine (impl_byteReader_value.calls k1  gb201 x202000_1 false t205 t206 t207 t208 t209 w _ ?side1 ?side2 A13.out).mono ?_);(case side1 => repeat (with_reducible first|exact HI201.out|apply IsS74.alloc|apply IsS74.drewN|apply IsS74.drew|apply IsS74.set_0|apply IsS74.set_1|refine IsS74.far ?_ NB201_200.out _));(case side2 => repeat (with_reducible first|exact HB.out|apply za|apply zb|apply zc|refine zd ?_ (IsS74.ge HI201.out)|refine zd ?_ GE200.out));rintro e w17 ⟨rfl,hi,hb,hk⟩;replace HO_5:=zh (zM (Kd.R_keep (IsS74.apart (show IsS74 w _ gb201 x202000_1 false from by repeat (with_reducible first|exact HI201.out|apply IsS74.alloc|apply IsS74.drewN|apply IsS74.drew|apply IsS74.set_0|apply IsS74.set_1|refine IsS74.far ?_ NB201_200.out _)) (by (with_reducible repeat (first|apply zm|apply zn|apply zo));exact HO_5.out) (by decide)) hk (fun _ h => h.2)) (fun _ h => h.1));replace BK200:=zh (KeepBut.blk hk (g':=gb200) (o:=.cells #[.int .i64 a0_0,.int .i64 a0_1,.string a0_2] 26 (0,0)) (by (with_reducible repeat (first|refine ze ?_ _|refine zf ?_|refine zg ?_ _));exact BK200.out) NB200_201.out (by simp));replace HB:=zh (hb);replace BK201:=zh ((show _∧_ from hi).1);clear HI201;(try clear hb);(try clear hb2);(try clear hk);(try clear hi))|((with_reducible refine yB (b:=.append) (xs:=#[.tmp 23,.tmp 26]) rfl ?_);at_builtin;refine Kd.R_append k26 (w0:=w) w.heap.size rfl (.tmp 23) (.tmp 26) 41 26 (.agg #[(.int .i64 0),(.int .i64 0),(.string ⟨#[]⟩)]) 32 rfl Try.underlying41 info26 rfl (by decide) (by omega) u5 x5_1 (⟨t205,t206,t207⟩ : S26) [.int .i64 t205,.int .i64 t206,.string t207] (fun k_ => k_≠gb200) (fun _ => False) rfl rfl ?aP (fun _ hk => hk.elim) ?aF ?aO ?aB ?aS ?aL ?_;(case aP => exact k26_mkM _ _ _ (⟨t205,t206,t207⟩ : S26));(case aB => exact (by repeat (with_reducible first|exact HB.out|apply za|apply zb|apply zc|refine zd ?_ GE200.out|refine zd ?_ GE201.out)));(case aF => exact (fun k_ hk => Kd.freshB (g:=gb200) (o:=.cells #[.int .i64 a0_0,.int .i64 a0_1,.string a0_2] 26 (0,0)) (by (with_reducible repeat (first|refine ze ?_ _|refine zf ?_|refine zg ?_ _));exact BK200.out) k_ hk));(case aO => exact (by (with_reducible repeat (first|apply zm|apply zn|apply zo));exact HO_5.out));(case aS => exact (zB (by repeat (with_reducible first|exact HB.out|apply za|apply zb|apply zc|refine zd ?_ GE200.out|refine zd ?_ GE201.out))));(case aL => have:=LMc14.out;omega);intro v211 w18 ho hb hg hat;rw [← Ny210.out] at ho;replace BK200:=zh (yw (g:=gb200) (o:=.cells #[.int .i64 a0_0,.int .i64 a0_1,.string a0_2] 26 (0,0)) (by (with_reducible repeat (first|refine ze ?_ _|refine zf ?_|refine zg ?_ _));exact BK200.out) hg (yv HO_5.out (fun _ hk => hk)));replace BK201:=zh (yw (g:=gb201) (o:=.cells #[.string t208,.bool t209] 74 (0,0)) (by (with_reducible repeat (first|refine ze ?_ _|refine zf ?_|refine zg ?_ _));exact BK201.out) hg (Kd.R_ne HO_5.out BK201.out (by decide)));replace HB:=zh (hb);have HO212:=zh (ho);clear HO_5 ho hb hg hat))
    repeat (go_quiet (first|(go_at_call 56;(with_reducible refine (impl_byteReader_value.calls k1  gb201 x202000_1 false t205 t206 t207 t208 t209 w _ ?side1 ?side2 A13.out).mono ?_);(case side1 => repeat (with_reducible first|exact HI201.out|apply IsS74.alloc|apply IsS74.drewN|apply IsS74.drew|apply IsS74.set_0|apply IsS74.set_1|refine IsS74.far ?_ NB201_200.out _));(case side2 => repeat (with_reducible first|exact HB.out|apply za|apply zb|apply zc|refine zd ?_ (IsS74.ge HI201.out)|refine zd ?_ GE200.out));rintro e w17 ⟨rfl,hi,hb,hk⟩;replace HO_5:=zh (zM (Kd.R_keep (IsS74.apart (show IsS74 w _ gb201 x202000_1 false from by repeat (with_reducible first|exact HI201.out|apply IsS74.alloc|apply IsS74.drewN|apply IsS74.drew|apply IsS74.set_0|apply IsS74.set_1|refine IsS74.far ?_ NB201_200.out _)) (by (with_reducible repeat (first|apply zm|apply zn|apply zo));exact HO_5.out) (by decide)) hk (fun _ h => h.2)) (fun _ h => h.1));replace BK200:=zh (KeepBut.blk hk (g':=gb200) (o:=.cells #[.int .i64 a0_0,.int .i64 a0_1,.string a0_2] 26 (0,0)) (by (with_reducible repeat (first|refine ze ?_ _|refine zf ?_|refine zg ?_ _));exact BK200.out) NB200_201.out (by simp));replace HB:=zh (hb);replace BK201:=zh ((show _∧_ from hi).1);clear HI201;(try clear hb);(try clear hb2);(try clear hk);(try clear hi))|((with_reducible refine yB (b:=.append) (xs:=#[.tmp 23,.tmp 26]) rfl ?_);at_builtin;refine Kd.R_append k26 (w0:=w) w.heap.size rfl (.tmp 23) (.tmp 26) 41 26 (.agg #[(.int .i64 0),(.int .i64 0),(.string ⟨#[]⟩)]) 32 rfl Try.underlying41 info26 rfl (by decide) (by omega) u5 x5_1 (⟨t205,t206,t207⟩ : S26) [.int .i64 t205,.int .i64 t206,.string t207] (fun k_ => k_≠gb200) (fun _ => False) rfl rfl ?aP (fun _ hk => hk.elim) ?aF ?aO ?aB ?aS ?aL ?_;(case aP => exact k26_mkM _ _ _ (⟨t205,t206,t207⟩ : S26));(case aB => exact (by repeat (with_reducible first|exact HB.out|apply za|apply zb|apply zc|refine zd ?_ GE200.out|refine zd ?_ GE201.out)));(case aF => exact (fun k_ hk => Kd.freshB (g:=gb200) (o:=.cells #[.int .i64 a0_0,.int .i64 a0_1,.string a0_2] 26 (0,0)) (by (with_reducible repeat (first|refine ze ?_ _|refine zf ?_|refine zg ?_ _));exact BK200.out) k_ hk));(case aO => exact (by (with_reducible repeat (first|apply zm|apply zn|apply zo));exact HO_5.out));(case aS => exact (zB (by repeat (with_reducible first|exact HB.out|apply za|apply zb|apply zc|refine zd ?_ GE200.out|refine zd ?_ GE201.out))));(case aL => have:=LMc14.out;omega);intro v211 w18 ho hb hg hat;rw [← Ny210.out] at ho;replace BK200:=zh (yw (g:=gb200) (o:=.cells #[.int .i64 a0_0,.int .i64 a0_1,.string a0_2] 26 (0,0)) (by (with_reducible repeat (first|refine ze ?_ _|refine zf ?_|refine zg ?_ _));exact BK200.out) hg (yv HO_5.out (fun _ hk => hk)));replace BK201:=zh (yw (g:=gb201) (o:=.cells #[.string t208,.bool t209] 74 (0,0)) (by (with_reducible repeat (first|refine ze ?_ _|refine zf ?_|refine zg ?_ _));exact BK201.out) hg (Kd.R_ne HO_5.out BK201.out (by decide)));replace HB:=zh (hb);have HO212:=zh (ho);clear HO_5 ho hb hg hat));try go_wp2_with (first|(go_at_call 56;(with_reducible refine (impl_byteReader_value.calls k1  gb201 x202000_1 false t205 t206 t207 t208 t209 w _ ?side1 ?side2 A13.out).mono ?_);(case side1 => repeat (with_reducible first|exact HI201.out|apply IsS74.alloc|apply IsS74.drewN|apply IsS74.drew|apply IsS74.set_0|apply IsS74.set_1|refine IsS74.far ?_ NB201_200.out _));(case side2 => repeat (with_reducible first|exact HB.out|apply za|apply zb|apply zc|refine zd ?_ (IsS74.ge HI201.out)|refine zd ?_ GE200.out));rintro e w17 ⟨rfl,hi,hb,hk⟩;replace HO_5:=zh (zM (Kd.R_keep (IsS74.apart (show IsS74 w _ gb201 x202000_1 false from by repeat (with_reducible first|exact HI201.out|apply IsS74.alloc|apply IsS74.drewN|apply IsS74.drew|apply IsS74.set_0|apply IsS74.set_1|refine IsS74.far ?_ NB201_200.out _)) (by (with_reducible repeat (first|apply zm|apply zn|apply zo));exact HO_5.out) (by decide)) hk (fun _ h => h.2)) (fun _ h => h.1));replace BK200:=zh (KeepBut.blk hk (g':=gb200) (o:=.cells #[.int .i64 a0_0,.int .i64 a0_1,.string a0_2] 26 (0,0)) (by (with_reducible repeat (first|refine ze ?_ _|refine zf ?_|refine zg ?_ _));exact BK200.out) NB200_201.out (by simp));replace HB:=zh (hb);replace BK201:=zh ((show _∧_ from hi).1);clear HI201;(try clear hb);(try clear hb2);(try clear hk);(try clear hi))|((with_reducible refine yB (b:=.append) (xs:=#[.tmp 23,.tmp 26]) rfl ?_);at_builtin;refine Kd.R_append k26 (w0:=w) w.heap.size rfl (.tmp 23) (.tmp 26) 41 26 (.agg #[(.int .i64 0),(.int .i64 0),(.string ⟨#[]⟩)]) 32 rfl Try.underlying41 info26 rfl (by decide) (by omega) u5 x5_1 (⟨t205,t206,t207⟩ : S26) [.int .i64 t205,.int .i64 t206,.string t207] (fun k_ => k_≠gb200) (fun _ => False) rfl rfl ?aP (fun _ hk => hk.elim) ?aF ?aO ?aB ?aS ?aL ?_;(case aP => exact k26_mkM _ _ _ (⟨t205,t206,t207⟩ : S26));(case aB => exact (by repeat (with_reducible first|exact HB.out|apply za|apply zb|apply zc|refine zd ?_ GE200.out|refine zd ?_ GE201.out)));(case aF => exact (fun k_ hk => Kd.freshB (g:=gb200) (o:=.cells #[.int .i64 a0_0,.int .i64 a0_1,.string a0_2] 26 (0,0)) (by (with_reducible repeat (first|refine ze ?_ _|refine zf ?_|refine zg ?_ _));exact BK200.out) k_ hk));(case aO => exact (by (with_reducible repeat (first|apply zm|apply zn|apply zo));exact HO_5.out));(case aS => exact (zB (by repeat (with_reducible first|exact HB.out|apply za|apply zb|apply zc|refine zd ?_ GE200.out|refine zd ?_ GE201.out))));(case aL => have:=LMc14.out;omega);intro v211 w18 ho hb hg hat;rw [← Ny210.out] at ho;replace BK200:=zh (yw (g:=gb200) (o:=.cells #[.int .i64 a0_0,.int .i64 a0_1,.string a0_2] 26 (0,0)) (by (with_reducible repeat (first|refine ze ?_ _|refine zf ?_|refine zg ?_ _));exact BK200.out) hg (yv HO_5.out (fun _ hk => hk)));replace BK201:=zh (yw (g:=gb201) (o:=.cells #[.string t208,.bool t209] 74 (0,0)) (by (with_reducible repeat (first|refine ze ?_ _|refine zf ?_|refine zg ?_ _));exact BK201.out) hg (Kd.R_ne HO_5.out BK201.out (by decide)));replace HB:=zh (hb);have HO212:=zh (ho);clear HO_5 ho hb hg hat)))
    go_roundg k1
    case measure => have:=HK1.out;omega
    case rel => exact ⟨(y210),(t208),(t209),H',⟨by have:=HK1.out;omega⟩,⟨by (with_reducible repeat (first|apply zm|apply zn|apply zo));exact HO212.out⟩,⟨by (with_reducible repeat (first|refine ze ?_ _|refine zf ?_|refine zg ?_ _));exact BK200.out⟩,⟨by (with_reducible repeat (first|refine ze ?_ _|refine zf ?_|refine zg ?_ _));exact BK201.out⟩,⟨by repeat (with_reducible first|exact HB.out|apply za|apply zb|apply zc|refine zd ?_ GE200.out|refine zd ?_ GE201.out)⟩⟩
   rw [if_neg c14] at H;exact absurd H (by simp)

end Go.Proofs.Ytpmeglcmhiihoaa.Q
end
section
namespace Go.Proofs.Ytpmeglcmhiihoaa.Q
open Go.RowKit Go.Proofs.YtpmeglcmhiihoaaW.PrintWords Go.Proofs.YtpmeglcmhiihoaaW.PrintLast Go.Proofs.YtpmeglcmhiihoaaW.PrintMore
attribute [local go_sem] max2_int min2_int max_two min_two max_three min_three max_four min_four max2_str min2_str str_geq str_gtr str_leq   -- for this text's walks alone
set_option linter.unusedVariables false
set_option linter.unusedSimpArgs false

mutual
def impl_fields.l0 : Nat→List (S68)→ByteArray→Bool→Option ((List (S68))×Bool)
 | 0,_,_,_ => none
 | k + 1,x5,x215000,x215001 => if x215000.toList=([] : List UInt8) then (impl_fields.j1 k x5 false x215000 x215001) else (impl_fields.j1 k x5 (!x215001) x215000 x215001)
def impl_fields.j1 : Nat→List (S68)→Bool→ByteArray→Bool→Option ((List (S68))×Bool)
 | 0,_,_,_,_ => none
 | k + 1,x5,x22,x215000,x215001 => if x22=true then ((impl_byteReader_num.f k x215000 x215001 1).bind fun bt218 => ((impl_byteReader_take.f bt218.2.1 bt218.2.2 bt218.1).bind fun bt221 => ((impl_byteReader_value.f k bt221.2.1 bt221.2.2).bind fun bt224 => (if x5.length<2932031007402 then (impl_fields.l0 k (x5 ++ [(⟨bt221.1,(⟨bt224.1,bt224.2.1,bt224.2.2.1⟩ : S26)⟩ : S68)]) bt224.2.2.2.1 bt224.2.2.2.2) else (none))))) else (some (x5,!x215001))
end
def impl_fields.f (k : Nat) (a0_0 : Int) (a0_1 : Int) (a0_2 : ByteArray) : Option ((List (S68))×Bool):=impl_fields.l0 k (([] : List (S68))) a0_2 false
theorem impl_fields.mono_l : ∀ k,(∀ y0 y1 y2,LeO (impl_fields.l0 k y0 y1 y2) (impl_fields.l0 (k + 1) y0 y1 y2))∧(∀ y0 y1 y2 y3,LeO (impl_fields.j1 k y0 y1 y2 y3) (impl_fields.j1 (k + 1) y0 y1 y2 y3))
 | 0 => ⟨fun _ _ _ r h => by simp [impl_fields.l0] at h,fun _ _ _ _ r h => by simp [impl_fields.j1] at h⟩
 | k + 1 => by
  obtain ⟨ih0,ih1⟩:=impl_fields.mono_l k;refine ⟨?_,?_⟩
  ·
   intro y0 y1 y2
   unfold impl_fields.l0
   repeat' first|(with_reducible exact ih0 _ _ _)|(with_reducible exact ih1 _ _ _ _)|(with_reducible exact impl_byteReader_value.mono _ _ _)|(with_reducible exact impl_byteReader_num.mono _ _ _ _)|(with_reducible exact zQ _)|(with_reducible exact zN _)|(with_reducible refine zP ?_ ?_)|(with_reducible refine zO ?_ (fun _ => ?_))|refine zP ?_ ?_|refine zO ?_ (fun _ => ?_)
  intro y0 y1 y2 y3;unfold impl_fields.j1
  repeat' first|(with_reducible exact ih0 _ _ _)|(with_reducible exact ih1 _ _ _ _)|(with_reducible exact impl_byteReader_value.mono _ _ _)|(with_reducible exact impl_byteReader_num.mono _ _ _ _)|(with_reducible exact zQ _)|(with_reducible exact zN _)|(with_reducible refine zP ?_ ?_)|(with_reducible refine zO ?_ (fun _ => ?_))|refine zP ?_ ?_|refine zO ?_ (fun _ => ?_)
theorem impl_fields.mono : ∀ a0 a1 a2 k,LeO (impl_fields.f k a0 a1 a2) (impl_fields.f (k + 1) a0 a1 a2):=by
 intro a0 a1 a2 k;obtain ⟨ih0,ih1⟩:=impl_fields.mono_l k;unfold impl_fields.f
 repeat' first|(with_reducible exact ih0 _ _ _)|(with_reducible exact ih1 _ _ _ _)|(with_reducible exact impl_byteReader_value.mono _ _ _)|(with_reducible exact impl_byteReader_num.mono _ _ _ _)|(with_reducible exact zQ _)|(with_reducible exact zN _)|(with_reducible refine zP ?_ ?_)|(with_reducible refine zO ?_ (fun _ => ?_))|refine zP ?_ ?_|refine zO ?_ (fun _ => ?_)
set_option maxHeartbeats 8000000 in
set_option maxRecDepth 100000 in
theorem impl_fields.calls (k : Nat) (a0_0 : Int) (a0_1 : Int) (a0_2 : ByteArray) (r1 : List (S68)) (r2 : Bool) (w : World) (h : impl_fields.f k a0_0 a0_1 a0_2=some (r1,r2)) :
  Calls Try.prog 65 #[.agg #[.int .i64 a0_0,.int .i64 a0_1,.string a0_2]] w fun e w' => ∃ v0_ : Value,e = .returned (.tuple #[v0_,.bool r2])∧Kd.R k68 68 w' w.heap.size (fun _ => True) v0_ r1∧Below w.heap.size w w':=by
 have hu26:=Try.underlying26;have hu74:=Try.underlying74;have hu68:=Try.underlying68;have HB:=zh (Below.refl w.heap.size w);have H : (impl_fields.l0 k (([] : List (S68))) a0_2 false)=some (r1,r2):=h;clear h;obtain ⟨y215,hy215⟩ : ∃ y_ : List (S68),y_=(([] : List (S68))):=⟨_,rfl⟩;replace H : (impl_fields.l0 k y215 a0_2 false)=some (r1,r2):=by first|(rw [hy215];with_reducible exact H)|(have H2_:=(Option.bind_some _ _).symm.trans H;rw [hy215];with_reducible exact H2_)|(have H2_:=(Option.bind_some _ _).symm.trans H;with_reducible exact H2_)|with_reducible exact H|(rw [hy215];exact H)|exact H
 have Ny215:=zh hy215;clear hy215;have H':=zh H;clear H
 go_enter Try.func65,Try.ntmps65
 go_wp2_with (first|((with_reducible refine zK (N:=1) rfl ?_);refine zI ?hg (N:=1) ?hd (cs:=#[.int .i64 a0_0,.int .i64 a0_1,.string a0_2]) (t:=26) ?hr ?_;(case hd => rfl);(case hg => rfl);(case hr => first|(go_simp;done)|(go_simp;rfl));intro gb213 hg w2 hbox hb;have BK213:=zh (hbox);have GW213:=zh ((by rw [hg];exact (zB (by repeat (with_reducible first|exact HB.out|apply za|apply zb|apply zc))) : w.heap.size≤gb213));have GE213:=zh ((by rw [hg];exact (zB (by repeat (with_reducible first|exact HB.out|apply za|apply zb|apply zc))) : w.heap.size≤gb213));replace HB:=zh (zC (by repeat (with_reducible first|exact HB.out|apply za|apply zb|apply zc)) hb);clear hb hbox hg;have hcz3_0 : w2.cell? ⟨gb213,0,none⟩=some (.int .i64 a0_0):=(zz BK213.out 0).trans rfl;have hcz3_1 : w2.cell? ⟨gb213,1,none⟩=some (.int .i64 a0_1):=(zz BK213.out 1).trans rfl;have hcz3_2 : w2.cell? ⟨gb213,2,none⟩=some (.string a0_2):=(zz BK213.out 2).trans rfl;have hfz3_0:=zA BK213.out 0;have hfz3_1:=zA BK213.out 1;have hfz3_2:=zA BK213.out 2)|((with_reducible refine zK (N:=9) rfl ?_);refine zI ?hg (N:=9) ?hd (cs:=#[.string a0_2,.bool false]) (t:=74) ?hr ?_;(case hd => rfl);(case hg => rfl);(case hr => first|(go_simp;done)|(go_simp;rfl));intro gb214 hg w4 hbox hb;have BK214:=zh (hbox);have GW214:=zh ((by rw [hg];exact (zB (by repeat (with_reducible first|exact HB.out|apply za|apply zb|apply zc|refine zd ?_ GE213.out))) : w.heap.size≤gb214));have GE214:=zh ((by rw [hg];exact (zB (by repeat (with_reducible first|exact HB.out|apply za|apply zb|apply zc|refine zd ?_ GE213.out))) : w.heap.size≤gb214));replace HB:=zh (zC (by repeat (with_reducible first|exact HB.out|apply za|apply zb|apply zc|refine zd ?_ GE213.out)) hb);have NB213_214:=zh ((by rw [hg];exact yc (yi (g:=gb213) (o:=.cells #[.int .i64 a0_0,.int .i64 a0_1,.string a0_2] 26 (0,0)) (by (with_reducible repeat (first|refine ze ?_ _|refine zf ?_|refine zg ?_ _));exact BK213.out)) : gb213≠gb214));have NB214_213:=zh ((by rw [hg];exact yd (yi (g:=gb213) (o:=.cells #[.int .i64 a0_0,.int .i64 a0_1,.string a0_2] 26 (0,0)) (by (with_reducible repeat (first|refine ze ?_ _|refine zf ?_|refine zg ?_ _));exact BK213.out)) : gb214≠gb213));replace BK213:=zh (zD (g:=gb213) (o:=.cells #[.int .i64 a0_0,.int .i64 a0_1,.string a0_2] 26 (0,0)) (by (with_reducible repeat (first|refine ze ?_ _|refine zf ?_|refine zg ?_ _));exact BK213.out) hb);clear hb hbox hg)|((with_reducible refine zK (N:=10) rfl ?_);refine Kd.R_lit k68 _ 68 ?hg (N:=10) ?hd (xs:=([] : List (S68))) (inner:=[]) (ok:=fun _ => True) (okp:=fun _ => True) ?hr ?hp (fun _ hk => hk) trivial (Below.refl _ _) (ye _) (by simp) ?_;(case hd => rfl);(case hg => rfl);(case hr => first|(go_simp;done)|(go_simp;rfl));(case hp => exact (Reps.none _ _));intro v216 w5 ho6 hb hg_ hnew_;clear hg_ hnew_;(first|rw [← Ny215.out] at ho6|(simp only [Int.reduceToNat] at ho6;rw [← Ny215.out] at ho6));have HO217:=zh (yy ho6 (zB (by repeat (with_reducible first|exact HB.out|apply za|apply zb|apply zc|refine zd ?_ GE213.out|refine zd ?_ GE214.out))));replace BK213:=zh (zD (g:=gb213) (o:=.cells #[.int .i64 a0_0,.int .i64 a0_1,.string a0_2] 26 (0,0)) (by (with_reducible repeat (first|refine ze ?_ _|refine zf ?_|refine zg ?_ _));exact BK213.out) hb);replace BK214:=zh (zD (g:=gb214) (o:=.cells #[.string a0_2,.bool false] 74 (0,0)) (by (with_reducible repeat (first|refine ze ?_ _|refine zf ?_|refine zg ?_ _));exact BK214.out) hb);replace HB:=zh (zC (by repeat (with_reducible first|exact HB.out|apply za|apply zb|apply zc|refine zd ?_ GE213.out|refine zd ?_ GE214.out)) hb);clear hb ho6))
 repeat (go_quiet (first|((with_reducible refine zK (N:=1) rfl ?_);refine zI ?hg (N:=1) ?hd (cs:=#[.int .i64 a0_0,.int .i64 a0_1,.string a0_2]) (t:=26) ?hr ?_;(case hd => rfl);(case hg => rfl);(case hr => first|(go_simp;done)|(go_simp;rfl));intro gb213 hg w2 hbox hb;have BK213:=zh (hbox);have GW213:=zh ((by rw [hg];exact (zB (by repeat (with_reducible first|exact HB.out|apply za|apply zb|apply zc))) : w.heap.size≤gb213));have GE213:=zh ((by rw [hg];exact (zB (by repeat (with_reducible first|exact HB.out|apply za|apply zb|apply zc))) : w.heap.size≤gb213));replace HB:=zh (zC (by repeat (with_reducible first|exact HB.out|apply za|apply zb|apply zc)) hb);clear hb hbox hg;have hcz3_0 : w2.cell? ⟨gb213,0,none⟩=some (.int .i64 a0_0):=(zz BK213.out 0).trans rfl;have hcz3_1 : w2.cell? ⟨gb213,1,none⟩=some (.int .i64 a0_1):=(zz BK213.out 1).trans rfl;have hcz3_2 : w2.cell? ⟨gb213,2,none⟩=some (.string a0_2):=(zz BK213.out 2).trans rfl;have hfz3_0:=zA BK213.out 0;have hfz3_1:=zA BK213.out 1;have hfz3_2:=zA BK213.out 2)|((with_reducible refine zK (N:=9) rfl ?_);refine zI ?hg (N:=9) ?hd (cs:=#[.string a0_2,.bool false]) (t:=74) ?hr ?_;(case hd => rfl);(case hg => rfl);(case hr => first|(go_simp;done)|(go_simp;rfl));intro gb214 hg w4 hbox hb;have BK214:=zh (hbox);have GW214:=zh ((by rw [hg];exact (zB (by repeat (with_reducible first|exact HB.out|apply za|apply zb|apply zc|refine zd ?_ GE213.out))) : w.heap.size≤gb214));have GE214:=zh ((by rw [hg];exact (zB (by repeat (with_reducible first|exact HB.out|apply za|apply zb|apply zc|refine zd ?_ GE213.out))) : w.heap.size≤gb214));replace HB:=zh (zC (by repeat (with_reducible first|exact HB.out|apply za|apply zb|apply zc|refine zd ?_ GE213.out)) hb);have NB213_214:=zh ((by rw [hg];exact yc (yi (g:=gb213) (o:=.cells #[.int .i64 a0_0,.int .i64 a0_1,.string a0_2] 26 (0,0)) (by (with_reducible repeat (first|refine ze ?_ _|refine zf ?_|refine zg ?_ _));exact BK213.out)) : gb213≠gb214));have NB214_213:=zh ((by rw [hg];exact yd (yi (g:=gb213) (o:=.cells #[.int .i64 a0_0,.int .i64 a0_1,.string a0_2] 26 (0,0)) (by (with_reducible repeat (first|refine ze ?_ _|refine zf ?_|refine zg ?_ _));exact BK213.out)) : gb214≠gb213));replace BK213:=zh (zD (g:=gb213) (o:=.cells #[.int .i64 a0_0,.int .i64 a0_1,.string a0_2] 26 (0,0)) (by (with_reducible repeat (first|refine ze ?_ _|refine zf ?_|refine zg ?_ _));exact BK213.out) hb);clear hb hbox hg)|((with_reducible refine zK (N:=10) rfl ?_);refine Kd.R_lit k68 _ 68 ?hg (N:=10) ?hd (xs:=([] : List (S68))) (inner:=[]) (ok:=fun _ => True) (okp:=fun _ => True) ?hr ?hp (fun _ hk => hk) trivial (Below.refl _ _) (ye _) (by simp) ?_;(case hd => rfl);(case hg => rfl);(case hr => first|(go_simp;done)|(go_simp;rfl));(case hp => exact (Reps.none _ _));intro v216 w5 ho6 hb hg_ hnew_;clear hg_ hnew_;(first|rw [← Ny215.out] at ho6|(simp only [Int.reduceToNat] at ho6;rw [← Ny215.out] at ho6));have HO217:=zh (yy ho6 (zB (by repeat (with_reducible first|exact HB.out|apply za|apply zb|apply zc|refine zd ?_ GE213.out|refine zd ?_ GE214.out))));replace BK213:=zh (zD (g:=gb213) (o:=.cells #[.int .i64 a0_0,.int .i64 a0_1,.string a0_2] 26 (0,0)) (by (with_reducible repeat (first|refine ze ?_ _|refine zf ?_|refine zg ?_ _));exact BK213.out) hb);replace BK214:=zh (zD (g:=gb214) (o:=.cells #[.string a0_2,.bool false] 74 (0,0)) (by (with_reducible repeat (first|refine ze ?_ _|refine zf ?_|refine zg ?_ _));exact BK214.out) hb);replace HB:=zh (zC (by repeat (with_reducible first|exact HB.out|apply za|apply zb|apply zc|refine zd ?_ GE213.out|refine zd ?_ GE214.out)) hb);clear hb ho6));try go_wp2_with (first|((with_reducible refine zK (N:=1) rfl ?_);refine zI ?hg (N:=1) ?hd (cs:=#[.int .i64 a0_0,.int .i64 a0_1,.string a0_2]) (t:=26) ?hr ?_;(case hd => rfl);(case hg => rfl);(case hr => first|(go_simp;done)|(go_simp;rfl));intro gb213 hg w2 hbox hb;have BK213:=zh (hbox);have GW213:=zh ((by rw [hg];exact (zB (by repeat (with_reducible first|exact HB.out|apply za|apply zb|apply zc))) : w.heap.size≤gb213));have GE213:=zh ((by rw [hg];exact (zB (by repeat (with_reducible first|exact HB.out|apply za|apply zb|apply zc))) : w.heap.size≤gb213));replace HB:=zh (zC (by repeat (with_reducible first|exact HB.out|apply za|apply zb|apply zc)) hb);clear hb hbox hg;have hcz3_0 : w2.cell? ⟨gb213,0,none⟩=some (.int .i64 a0_0):=(zz BK213.out 0).trans rfl;have hcz3_1 : w2.cell? ⟨gb213,1,none⟩=some (.int .i64 a0_1):=(zz BK213.out 1).trans rfl;have hcz3_2 : w2.cell? ⟨gb213,2,none⟩=some (.string a0_2):=(zz BK213.out 2).trans rfl;have hfz3_0:=zA BK213.out 0;have hfz3_1:=zA BK213.out 1;have hfz3_2:=zA BK213.out 2)|((with_reducible refine zK (N:=9) rfl ?_);refine zI ?hg (N:=9) ?hd (cs:=#[.string a0_2,.bool false]) (t:=74) ?hr ?_;(case hd => rfl);(case hg => rfl);(case hr => first|(go_simp;done)|(go_simp;rfl));intro gb214 hg w4 hbox hb;have BK214:=zh (hbox);have GW214:=zh ((by rw [hg];exact (zB (by repeat (with_reducible first|exact HB.out|apply za|apply zb|apply zc|refine zd ?_ GE213.out))) : w.heap.size≤gb214));have GE214:=zh ((by rw [hg];exact (zB (by repeat (with_reducible first|exact HB.out|apply za|apply zb|apply zc|refine zd ?_ GE213.out))) : w.heap.size≤gb214));replace HB:=zh (zC (by repeat (with_reducible first|exact HB.out|apply za|apply zb|apply zc|refine zd ?_ GE213.out)) hb);have NB213_214:=zh ((by rw [hg];exact yc (yi (g:=gb213) (o:=.cells #[.int .i64 a0_0,.int .i64 a0_1,.string a0_2] 26 (0,0)) (by (with_reducible repeat (first|refine ze ?_ _|refine zf ?_|refine zg ?_ _));exact BK213.out)) : gb213≠gb214));have NB214_213:=zh ((by rw [hg];exact yd (yi (g:=gb213) (o:=.cells #[.int .i64 a0_0,.int .i64 a0_1,.string a0_2] 26 (0,0)) (by (with_reducible repeat (first|refine ze ?_ _|refine zf ?_|refine zg ?_ _));exact BK213.out)) : gb214≠gb213));replace BK213:=zh (zD (g:=gb213) (o:=.cells #[.int .i64 a0_0,.int .i64 a0_1,.string a0_2] 26 (0,0)) (by (with_reducible repeat (first|refine ze ?_ _|refine zf ?_|refine zg ?_ _));exact BK213.out) hb);clear hb hbox hg)|((with_reducible refine zK (N:=10) rfl ?_);refine Kd.R_lit k68 _ 68 ?hg (N:=10) ?hd (xs:=([] : List (S68))) (inner:=[]) (ok:=fun _ => True) (okp:=fun _ => True) ?hr ?hp (fun _ hk => hk) trivial (Below.refl _ _) (ye _) (by simp) ?_;(case hd => rfl);(case hg => rfl);(case hr => first|(go_simp;done)|(go_simp;rfl));(case hp => exact (Reps.none _ _));intro v216 w5 ho6 hb hg_ hnew_;clear hg_ hnew_;(first|rw [← Ny215.out] at ho6|(simp only [Int.reduceToNat] at ho6;rw [← Ny215.out] at ho6));have HO217:=zh (yy ho6 (zB (by repeat (with_reducible first|exact HB.out|apply za|apply zb|apply zc|refine zd ?_ GE213.out|refine zd ?_ GE214.out))));replace BK213:=zh (zD (g:=gb213) (o:=.cells #[.int .i64 a0_0,.int .i64 a0_1,.string a0_2] 26 (0,0)) (by (with_reducible repeat (first|refine ze ?_ _|refine zf ?_|refine zg ?_ _));exact BK213.out) hb);replace BK214:=zh (zD (g:=gb214) (o:=.cells #[.string a0_2,.bool false] 74 (0,0)) (by (with_reducible repeat (first|refine ze ?_ _|refine zf ?_|refine zg ?_ _));exact BK214.out) hb);replace HB:=zh (zC (by repeat (with_reducible first|exact HB.out|apply za|apply zb|apply zc|refine zd ?_ GE213.out|refine zd ?_ GE214.out)) hb);clear hb ho6)))
 go_loopg [5] k (fun kq v5 w' => ∃ (x5_1 : List (S68)) (x215000_1 : ByteArray) (x215001_1 : Bool),Aside0 (impl_fields.l0 kq x5_1 x215000_1 x215001_1=some (r1,r2))∧Aside0 (kq≤k)∧Aside0 (Kd.R k68 68 w' w.heap.size (fun _ => True) v5 x5_1)∧Aside0 (w'.heap[gb213]? = some (.cells #[.int .i64 a0_0,.int .i64 a0_1,.string a0_2] 26 (0,0)))∧Aside0 (w'.heap[gb214]? = some (.cells #[.string x215000_1,.bool x215001_1] 74 (0,0)))∧Aside0 (Below w.heap.size w w'))
 case atStart => exact ⟨(y215),(a0_2),(false),H',⟨ye _⟩,⟨by (with_reducible repeat (first|apply zm|apply zn|apply zo));exact HO217.out⟩,⟨by (with_reducible repeat (first|refine ze ?_ _|refine zf ?_|refine zg ?_ _));exact BK213.out⟩,⟨by (with_reducible repeat (first|refine ze ?_ _|refine zf ?_|refine zg ?_ _));exact BK214.out⟩,⟨by repeat (with_reducible first|exact HB.out|apply za|apply zb|apply zc|refine zd ?_ GE213.out|refine zd ?_ GE214.out)⟩⟩
 case round =>
  clear H'
  try clear p2
  try clear c6
  try clear hcz3_0
  try clear hcz3_1
  try clear hcz3_2
  try clear hfz3_0
  try clear hfz3_1
  try clear hfz3_2
  obtain ⟨x5_1,x215000_1,x215001_1,HA,HK1,HO_5,BK213,BK214,HB⟩:=hrel
  cases gk with
  | zero => exact absurd HA.out (by simp [impl_fields.l0])
  | succ k1 =>
   have H:=HA.out;clear HA;simp only [impl_fields.l0] at H;have HC7:=zh H;clear H
   go_upto_region 2 with (fail)
   repeat (go_quiet (fail);go_upto_region 2 with (fail))
   go_cut [22] (fun v22 wc => ∃ (kq : Nat) (x22_6 : Bool),v22 = .bool x22_6∧Aside0 (impl_fields.j1 kq x5_1 x22_6 x215000_1 x215001_1=some (r1,r2))∧Aside0 (kq≤k1)∧Aside0 (Kd.R k68 68 wc w.heap.size (fun _ => True) u5 x5_1)∧Aside0 (wc.heap[gb213]? = some (.cells #[.int .i64 a0_0,.int .i64 a0_1,.string a0_2] 26 (0,0)))∧Aside0 (wc.heap[gb214]? = some (.cells #[.string x215000_1,.bool x215001_1] 74 (0,0)))∧Aside0 (Below w.heap.size w wc))
   case first =>
    have H:=HC7.out;clear HC7
    by_cases c8 : x215000_1.toList=([] : List UInt8)
    ·
     rw [if_pos c8] at H
     have c8b0 : (x215000_1.toList == ([] : List UInt8))=true:=ya.mpr c8;have c8b1 : (x215000_1.toList != ([] : List UInt8))=false:=zX.mpr c8;clear c8;(first|rw [c8b0]|(simp only [zG,zH];rw [c8b0])|skip);have H':=zh H;clear H;have hnb9:=NB214_213.out;have hnc9:=NB213_214.out;have hcz10_0 : wr.cell? ⟨gb214,0,none⟩=some (.string x215000_1):=(zz BK214.out 0).trans rfl;have hcz10_1 : wr.cell? ⟨gb214,1,none⟩=some (.bool x215001_1):=(zz BK214.out 1).trans rfl;have hfz10_0:=zA BK214.out 0;have hfz10_1:=zA BK214.out 1
     go_wp2
     repeat (go_quiet (fail);try go_wp2)
     go_meet
     case rel => exact ⟨_,(false),(by first|rfl|(simp;done)|(simp [*];done)),H',⟨by have:=HK1.out;first|omega|exact ye _⟩,⟨by (with_reducible repeat (first|apply zm|apply zn|apply zo));exact HO_5.out⟩,⟨by (with_reducible repeat (first|refine ze ?_ _|refine zf ?_|refine zg ?_ _));exact BK213.out⟩,⟨by (with_reducible repeat (first|refine ze ?_ _|refine zf ?_|refine zg ?_ _));exact BK214.out⟩,⟨by repeat (with_reducible first|exact HB.out|apply za|apply zb|apply zc|refine zd ?_ GE213.out|refine zd ?_ GE214.out)⟩⟩
    rw [if_neg c8] at H;have c8b0 : (x215000_1.toList == ([] : List UInt8))=false:=zY.mpr c8;have c8b1 : (x215000_1.toList != ([] : List UInt8))=true:=zZ.mpr c8;(first|rw [c8b0]|(simp only [zG,zH];rw [c8b0])|skip);have H':=zh H;clear H;have hnb11:=NB214_213.out;have hnc11:=NB213_214.out;have hcz12_0 : wr.cell? ⟨gb214,0,none⟩=some (.string x215000_1):=(zz BK214.out 0).trans rfl;have hcz12_1 : wr.cell? ⟨gb214,1,none⟩=some (.bool x215001_1):=(zz BK214.out 1).trans rfl;have hfz12_0:=zA BK214.out 0;have hfz12_1:=zA BK214.out 1
    go_wp2
    repeat (go_quiet (fail);try go_wp2)
    go_meet
    case rel => exact ⟨_,(!x215001_1),(by first|rfl|(simp;done)|(simp [*];done)),H',⟨by have:=HK1.out;first|omega|exact ye _⟩,⟨by (with_reducible repeat (first|apply zm|apply zn|apply zo));exact HO_5.out⟩,⟨by (with_reducible repeat (first|refine ze ?_ _|refine zf ?_|refine zg ?_ _));exact BK213.out⟩,⟨by (with_reducible repeat (first|refine ze ?_ _|refine zf ?_|refine zg ?_ _));exact BK214.out⟩,⟨by repeat (with_reducible first|exact HB.out|apply za|apply zb|apply zc|refine zd ?_ GE213.out|refine zd ?_ GE214.out)⟩⟩
   case rest =>
    clear HC7
    try clear c1
    try clear p2
    try clear c6
    try clear c8
    try clear c8b0
    try clear c8b1
    try clear c9
    try clear c11
    try clear hcz10_0
    try clear hcz10_1
    try clear hcz12_0
    try clear hcz12_1
    try clear hcz3_0
    try clear hcz3_1
    try clear hcz3_2
    try clear hfz10_0
    try clear hfz10_1
    try clear hfz12_0
    try clear hfz12_1
    try clear hfz3_0
    try clear hfz3_1
    try clear hfz3_2
    try clear p2
    obtain ⟨kq,x22_6,rfl,HA,HJ6,HO_5,BK213,BK214,HB⟩:=hcut
    cases kq with
    | zero => exact absurd HA.out (by simp [impl_fields.j1])
    | succ kj6 =>
     have H:=HA.out;clear HA;simp only [impl_fields.j1] at H
     by_cases c13 : x22_6=true
     ·
      subst c13
      have H1 : ((impl_byteReader_num.f kj6 x215000_1 x215001_1 1).bind fun bt218 => ((impl_byteReader_take.f bt218.2.1 bt218.2.2 bt218.1).bind fun bt221 => ((impl_byteReader_value.f kj6 bt221.2.1 bt221.2.2).bind fun bt224 => (if x5_1.length<2932031007402 then (impl_fields.l0 kj6 (x5_1 ++ [(⟨bt221.1,(⟨bt224.1,bt224.2.1,bt224.2.2.1⟩ : S26)⟩ : S68)]) bt224.2.2.2.1 bt224.2.2.2.2) else (none)))))=some (r1,r2):=by rw [if_pos rfl] at H;exact H
      clear H;have H:=H1;clear H1;replace H:=zT.mp H;obtain ⟨⟨t218,t219,t220⟩,A140,H⟩:=H;replace H : ((impl_byteReader_take.f t219 t220 t218).bind fun bt221 => ((impl_byteReader_value.f kj6 bt221.2.1 bt221.2.2).bind fun bt224 => (if x5_1.length<2932031007402 then (impl_fields.l0 kj6 (x5_1 ++ [(⟨bt221.1,(⟨bt224.1,bt224.2.1,bt224.2.2.1⟩ : S26)⟩ : S68)]) bt224.2.2.2.1 bt224.2.2.2.2) else (none))))=some (r1,r2):=H;have A14:=zh A140;clear A140;replace H:=zT.mp H;obtain ⟨⟨t221,t222,t223⟩,A150,H⟩:=H;replace H : ((impl_byteReader_value.f kj6 t222 t223).bind fun bt224 => (if x5_1.length<2932031007402 then (impl_fields.l0 kj6 (x5_1 ++ [(⟨t221,(⟨bt224.1,bt224.2.1,bt224.2.2.1⟩ : S26)⟩ : S68)]) bt224.2.2.2.1 bt224.2.2.2.2) else (none)))=some (r1,r2):=H;have A15:=zh A150;clear A150;replace H:=zT.mp H;obtain ⟨⟨t224,t225,t226,t227,t228⟩,A160,H⟩:=H;replace H : (if x5_1.length<2932031007402 then (impl_fields.l0 kj6 (x5_1 ++ [(⟨t221,(⟨t224,t225,t226⟩ : S26)⟩ : S68)]) t227 t228) else (none))=some (r1,r2):=H;have A16:=zh A160;clear A160
      by_cases c17 : x5_1.length<2932031007402
      ·
       rw [if_pos c17] at H
       have LMc17:=zh c17;clear c17;obtain ⟨y229,hy229⟩ : ∃ y_ : List (S68),y_=(x5_1 ++ [(⟨t221,(⟨t224,t225,t226⟩ : S26)⟩ : S68)]):=⟨_,rfl⟩;replace H : (impl_fields.l0 kj6 y229 t227 t228)=some (r1,r2):=by first|(rw [hy229];with_reducible exact H)|(have H2_:=(Option.bind_some _ _).symm.trans H;rw [hy229];with_reducible exact H2_)|(have H2_:=(Option.bind_some _ _).symm.trans H;with_reducible exact H2_)|with_reducible exact H|(rw [hy229];exact H)|exact H
       have Ny229:=zh hy229;clear hy229;have H':=zh H;clear H;have HI214:=zh (show IsS74 w wc gb214 x215000_1 x215001_1 from ⟨BK214.out,GE214.out⟩)
       go_wp2_with (first|(go_at_call 91;(with_reducible refine (impl_byteReader_num.calls kj6  gb214 x215000_1 x215001_1 1 t218 t219 t220 w _ ?side1 ?side2 A14.out).mono ?_);(case side1 => repeat (with_reducible first|exact HI214.out|apply IsS74.alloc|apply IsS74.drewN|apply IsS74.drew|apply IsS74.set_0|apply IsS74.set_1|refine IsS74.far ?_ NB214_213.out _));(case side2 => repeat (with_reducible first|exact HB.out|apply za|apply zb|apply zc|refine zd ?_ (IsS74.ge HI214.out)|refine zd ?_ GE213.out));rintro e w18 ⟨rfl,hi,hb,hk⟩;replace HO_5:=zh (zM (Kd.R_keep (IsS74.apart (show IsS74 w _ gb214 x215000_1 x215001_1 from by repeat (with_reducible first|exact HI214.out|apply IsS74.alloc|apply IsS74.drewN|apply IsS74.drew|apply IsS74.set_0|apply IsS74.set_1|refine IsS74.far ?_ NB214_213.out _)) (by (with_reducible repeat (first|apply zm|apply zn|apply zo));exact HO_5.out) (by decide)) hk (fun _ h => h.2)) (fun _ h => h.1));replace BK213:=zh (KeepBut.blk hk (g':=gb213) (o:=.cells #[.int .i64 a0_0,.int .i64 a0_1,.string a0_2] 26 (0,0)) (by (with_reducible repeat (first|refine ze ?_ _|refine zf ?_|refine zg ?_ _));exact BK213.out) NB213_214.out (by simp));replace HB:=zh (hb);replace BK214:=zh ((show _∧_ from hi).1);clear HI214;(try clear hb);(try clear hb2);(try clear hk);(try clear hi);have HI214:=zh (show IsS74 w w18 gb214 t219 t220 from ⟨BK214.out,GE214.out⟩))|(go_at_call 92;(with_reducible refine (impl_byteReader_take.calls  gb214 t219 t220 t218 t221 t222 t223 w _ ?side1 ?side2 A15.out).mono ?_);(case side1 => repeat (with_reducible first|exact HI214.out|apply IsS74.alloc|apply IsS74.drewN|apply IsS74.drew|apply IsS74.set_0|apply IsS74.set_1|refine IsS74.far ?_ NB214_213.out _));(case side2 => repeat (with_reducible first|exact HB.out|apply za|apply zb|apply zc|refine zd ?_ (IsS74.ge HI214.out)|refine zd ?_ GE213.out));rintro e w19 ⟨rfl,hi,hb,hk⟩;replace HO_5:=zh (zM (Kd.R_keep (IsS74.apart (show IsS74 w _ gb214 t219 t220 from by repeat (with_reducible first|exact HI214.out|apply IsS74.alloc|apply IsS74.drewN|apply IsS74.drew|apply IsS74.set_0|apply IsS74.set_1|refine IsS74.far ?_ NB214_213.out _)) (by (with_reducible repeat (first|apply zm|apply zn|apply zo));exact HO_5.out) (by decide)) hk (fun _ h => h.2)) (fun _ h => h.1));replace BK213:=zh (KeepBut.blk hk (g':=gb213) (o:=.cells #[.int .i64 a0_0,.int .i64 a0_1,.string a0_2] 26 (0,0)) (by (with_reducible repeat (first|refine ze ?_ _|refine zf ?_|refine zg ?_ _));exact BK213.out) NB213_214.out (by simp));replace HB:=zh (hb);replace BK214:=zh ((show _∧_ from hi).1);clear HI214;(try clear hb);(try clear hb2);(try clear hk);(try clear hi);have HI214:=zh (show IsS74 w w19 gb214 t222 t223 from ⟨BK214.out,GE214.out⟩))|(go_at_call 56;(with_reducible refine (impl_byteReader_value.calls kj6  gb214 t222 t223 t224 t225 t226 t227 t228 w _ ?side1 ?side2 A16.out).mono ?_);(case side1 => repeat (with_reducible first|exact HI214.out|apply IsS74.alloc|apply IsS74.drewN|apply IsS74.drew|apply IsS74.set_0|apply IsS74.set_1|refine IsS74.far ?_ NB214_213.out _));(case side2 => repeat (with_reducible first|exact HB.out|apply za|apply zb|apply zc|refine zd ?_ (IsS74.ge HI214.out)|refine zd ?_ GE213.out));rintro e w20 ⟨rfl,hi,hb,hk⟩;replace HO_5:=zh (zM (Kd.R_keep (IsS74.apart (show IsS74 w _ gb214 t222 t223 from by repeat (with_reducible first|exact HI214.out|apply IsS74.alloc|apply IsS74.drewN|apply IsS74.drew|apply IsS74.set_0|apply IsS74.set_1|refine IsS74.far ?_ NB214_213.out _)) (by (with_reducible repeat (first|apply zm|apply zn|apply zo));exact HO_5.out) (by decide)) hk (fun _ h => h.2)) (fun _ h => h.1));replace BK213:=zh (KeepBut.blk hk (g':=gb213) (o:=.cells #[.int .i64 a0_0,.int .i64 a0_1,.string a0_2] 26 (0,0)) (by (with_reducible repeat (first|refine ze ?_ _|refine zf ?_|refine zg ?_ _));exact BK213.out) NB213_214.out (by simp));replace HB:=zh (hb);replace BK214:=zh ((show _∧_ from hi).1);clear HI214;(try clear hb);(try clear hb2);(try clear hk);(try clear hi))|((with_reducible refine yB (b:=.append) (xs:=#[.tmp 23,.tmp 31]) rfl ?_);at_builtin;refine Kd.R_append k68 (w0:=w) w.heap.size rfl (.tmp 23) (.tmp 31) 46 68 (.agg #[(.string ⟨#[]⟩),(.int .i64 0),(.int .i64 0),(.string ⟨#[]⟩)]) 48 rfl Try.underlying46 info68 rfl (by decide) (by omega) u5 x5_1 (⟨t221,(⟨t224,t225,t226⟩ : S26)⟩ : S68) [.string t221,.int .i64 t224,.int .i64 t225,.string t226] (fun _ => True) (fun _ => False) rfl rfl ?aP (fun _ hk => hk.elim) ?aF ?aO ?aB ?aS ?aL ?_;(case aP => exact k68_mkM _ _ _ (⟨t221,(⟨t224,t225,t226⟩ : S26)⟩ : S68));(case aB => exact (by repeat (with_reducible first|exact HB.out|apply za|apply zb|apply zc|refine zd ?_ GE213.out|refine zd ?_ GE214.out)));(case aF => exact (fun _ _ => trivial));(case aO => exact (by (with_reducible repeat (first|apply zm|apply zn|apply zo));exact HO_5.out));(case aS => exact (zB (by repeat (with_reducible first|exact HB.out|apply za|apply zb|apply zc|refine zd ?_ GE213.out|refine zd ?_ GE214.out))));(case aL => have:=LMc17.out;omega);intro v230 w21 ho hb hg hat;rw [← Ny229.out] at ho;replace BK213:=zh (yw (g:=gb213) (o:=.cells #[.int .i64 a0_0,.int .i64 a0_1,.string a0_2] 26 (0,0)) (by (with_reducible repeat (first|refine ze ?_ _|refine zf ?_|refine zg ?_ _));exact BK213.out) hg (Kd.R_ne HO_5.out BK213.out (by decide)));replace BK214:=zh (yw (g:=gb214) (o:=.cells #[.string t227,.bool t228] 74 (0,0)) (by (with_reducible repeat (first|refine ze ?_ _|refine zf ?_|refine zg ?_ _));exact BK214.out) hg (Kd.R_ne HO_5.out BK214.out (by decide)));replace HB:=zh (hb);have HO231:=zh (ho);clear HO_5 ho hb hg hat))
       repeat (go_quiet (first|(go_at_call 91;(with_reducible refine (impl_byteReader_num.calls kj6  gb214 x215000_1 x215001_1 1 t218 t219 t220 w _ ?side1 ?side2 A14.out).mono ?_);(case side1 => repeat (with_reducible first|exact HI214.out|apply IsS74.alloc|apply IsS74.drewN|apply IsS74.drew|apply IsS74.set_0|apply IsS74.set_1|refine IsS74.far ?_ NB214_213.out _));(case side2 => repeat (with_reducible first|exact HB.out|apply za|apply zb|apply zc|refine zd ?_ (IsS74.ge HI214.out)|refine zd ?_ GE213.out));rintro e w18 ⟨rfl,hi,hb,hk⟩;replace HO_5:=zh (zM (Kd.R_keep (IsS74.apart (show IsS74 w _ gb214 x215000_1 x215001_1 from by repeat (with_reducible first|exact HI214.out|apply IsS74.alloc|apply IsS74.drewN|apply IsS74.drew|apply IsS74.set_0|apply IsS74.set_1|refine IsS74.far ?_ NB214_213.out _)) (by (with_reducible repeat (first|apply zm|apply zn|apply zo));exact HO_5.out) (by decide)) hk (fun _ h => h.2)) (fun _ h => h.1));replace BK213:=zh (KeepBut.blk hk (g':=gb213) (o:=.cells #[.int .i64 a0_0,.int .i64 a0_1,.string a0_2] 26 (0,0)) (by (with_reducible repeat (first|refine ze ?_ _|refine zf ?_|refine zg ?_ _));exact BK213.out) NB213_214.out (by simp));replace HB:=zh (hb);replace BK214:=zh ((show _∧_ from hi).1);clear HI214;(try clear hb);(try clear hb2);(try clear hk);(try clear hi);have HI214:=zh (show IsS74 w w18 gb214 t219 t220 from ⟨BK214.out,GE214.out⟩))|(go_at_call 92;(with_reducible refine (impl_byteReader_take.calls  gb214 t219 t220 t218 t221 t222 t223 w _ ?side1 ?side2 A15.out).mono ?_);(case side1 => repeat (with_reducible first|exact HI214.out|apply IsS74.alloc|apply IsS74.drewN|apply IsS74.drew|apply IsS74.set_0|apply IsS74.set_1|refine IsS74.far ?_ NB214_213.out _));(case side2 => repeat (with_reducible first|exact HB.out|apply za|apply zb|apply zc|refine zd ?_ (IsS74.ge HI214.out)|refine zd ?_ GE213.out));rintro e w19 ⟨rfl,hi,hb,hk⟩;replace HO_5:=zh (zM (Kd.R_keep (IsS74.apart (show IsS74 w _ gb214 t219 t220 from by repeat (with_reducible first|exact HI214.out|apply IsS74.alloc|apply IsS74.drewN|apply IsS74.drew|apply IsS74.set_0|apply IsS74.set_1|refine IsS74.far ?_ NB214_213.out _)) (by (with_reducible repeat (first|apply zm|apply zn|apply zo));exact HO_5.out) (by decide)) hk (fun _ h => h.2)) (fun _ h => h.1));replace BK213:=zh (KeepBut.blk hk (g':=gb213) (o:=.cells #[.int .i64 a0_0,.int .i64 a0_1,.string a0_2] 26 (0,0)) (by (with_reducible repeat (first|refine ze ?_ _|refine zf ?_|refine zg ?_ _));exact BK213.out) NB213_214.out (by simp));replace HB:=zh (hb);replace BK214:=zh ((show _∧_ from hi).1);clear HI214;(try clear hb);(try clear hb2);(try clear hk);(try clear hi);have HI214:=zh (show IsS74 w w19 gb214 t222 t223 from ⟨BK214.out,GE214.out⟩))|(go_at_call 56;(with_reducible refine (impl_byteReader_value.calls kj6  gb214 t222 t223 t224 t225 t226 t227 t228 w _ ?side1 ?side2 A16.out).mono ?_);(case side1 => repeat (with_reducible first|exact HI214.out|apply IsS74.alloc|apply IsS74.drewN|apply IsS74.drew|apply IsS74.set_0|apply IsS74.set_1|refine IsS74.far ?_ NB214_213.out _));(case side2 => repeat (with_reducible first|exact HB.out|apply za|apply zb|apply zc|refine zd ?_ (IsS74.ge HI214.out)|refine zd ?_ GE213.out));rintro e w20 ⟨rfl,hi,hb,hk⟩;replace HO_5:=zh (zM (Kd.R_keep (IsS74.apart (show IsS74 w _ gb214 t222 t223 from by repeat (with_reducible first|exact HI214.out|apply IsS74.alloc|apply IsS74.drewN|apply IsS74.drew|apply IsS74.set_0|apply IsS74.set_1|refine IsS74.far ?_ NB214_213.out _)) (by (with_reducible repeat (first|apply zm|apply zn|apply zo));exact HO_5.out) (by decide)) hk (fun _ h => h.2)) (fun _ h => h.1));replace BK213:=zh (KeepBut.blk hk (g':=gb213) (o:=.cells #[.int .i64 a0_0,.int .i64 a0_1,.string a0_2] 26 (0,0)) (by (with_reducible repeat (first|refine ze ?_ _|refine zf ?_|refine zg ?_ _));exact BK213.out) NB213_214.out (by simp));replace HB:=zh (hb);replace BK214:=zh ((show _∧_ from hi).1);clear HI214;(try clear hb);(try clear hb2);(try clear hk);(try clear hi))|((with_reducible refine yB (b:=.append) (xs:=#[.tmp 23,.tmp 31]) rfl ?_);at_builtin;refine Kd.R_append k68 (w0:=w) w.heap.size rfl (.tmp 23) (.tmp 31) 46 68 (.agg #[(.string ⟨#[]⟩),(.int .i64 0),(.int .i64 0),(.string ⟨#[]⟩)]) 48 rfl Try.underlying46 info68 rfl (by decide) (by omega) u5 x5_1 (⟨t221,(⟨t224,t225,t226⟩ : S26)⟩ : S68) [.string t221,.int .i64 t224,.int .i64 t225,.string t226] (fun _ => True) (fun _ => False) rfl rfl ?aP (fun _ hk => hk.elim) ?aF ?aO ?aB ?aS ?aL ?_;(case aP => exact k68_mkM _ _ _ (⟨t221,(⟨t224,t225,t226⟩ : S26)⟩ : S68));(case aB => exact (by repeat (with_reducible first|exact HB.out|apply za|apply zb|apply zc|refine zd ?_ GE213.out|refine zd ?_ GE214.out)));(case aF => exact (fun _ _ => trivial));(case aO => exact (by (with_reducible repeat (first|apply zm|apply zn|apply zo));exact HO_5.out));(case aS => exact (zB (by repeat (with_reducible first|exact HB.out|apply za|apply zb|apply zc|refine zd ?_ GE213.out|refine zd ?_ GE214.out))));(case aL => have:=LMc17.out;omega);intro v230 w21 ho hb hg hat;rw [← Ny229.out] at ho;replace BK213:=zh (yw (g:=gb213) (o:=.cells #[.int .i64 a0_0,.int .i64 a0_1,.string a0_2] 26 (0,0)) (by (with_reducible repeat (first|refine ze ?_ _|refine zf ?_|refine zg ?_ _));exact BK213.out) hg (Kd.R_ne HO_5.out BK213.out (by decide)));replace BK214:=zh (yw (g:=gb214) (o:=.cells #[.string t227,.bool t228] 74 (0,0)) (by (with_reducible repeat (first|refine ze ?_ _|refine zf ?_|refine zg ?_ _));exact BK214.out) hg (Kd.R_ne HO_5.out BK214.out (by decide)));replace HB:=zh (hb);have HO231:=zh (ho);clear HO_5 ho hb hg hat));try go_wp2_with (first|(go_at_call 91;(with_reducible refine (impl_byteReader_num.calls kj6  gb214 x215000_1 x215001_1 1 t218 t219 t220 w _ ?side1 ?side2 A14.out).mono ?_);(case side1 => repeat (with_reducible first|exact HI214.out|apply IsS74.alloc|apply IsS74.drewN|apply IsS74.drew|apply IsS74.set_0|apply IsS74.set_1|refine IsS74.far ?_ NB214_213.out _));(case side2 => repeat (with_reducible first|exact HB.out|apply za|apply zb|apply zc|refine zd ?_ (IsS74.ge HI214.out)|refine zd ?_ GE213.out));rintro e w18 ⟨rfl,hi,hb,hk⟩;replace HO_5:=zh (zM (Kd.R_keep (IsS74.apart (show IsS74 w _ gb214 x215000_1 x215001_1 from by repeat (with_reducible first|exact HI214.out|apply IsS74.alloc|apply IsS74.drewN|apply IsS74.drew|apply IsS74.set_0|apply IsS74.set_1|refine IsS74.far ?_ NB214_213.out _)) (by (with_reducible repeat (first|apply zm|apply zn|apply zo));exact HO_5.out) (by decide)) hk (fun _ h => h.2)) (fun _ h => h.1));replace BK213:=zh (KeepBut.blk hk (g':=gb213) (o:=.cells #[.int .i64 a0_0,.int .i64 a0_1,.string a0_2] 26 (0,0)) (by (with_reducible repeat (first|refine ze ?_ _|refine zf ?_|refine zg ?_ _));exact BK213.out) NB213_214.out (by simp));replace HB:=zh (hb);replace BK214:=zh ((show _∧_ from hi).1);clear HI214;(try clear hb);(try clear hb2);(try clear hk);(try clear hi);have HI214:=zh (show IsS74 w w18 gb214 t219 t220 from ⟨BK214.out,GE214.out⟩))|(go_at_call 92;(with_reducible refine (impl_byteReader_take.calls  gb214 t219 t220 t218 t221 t222 t223 w _ ?side1 ?side2 A15.out).mono ?_);(case side1 => repeat (with_reducible first|exact HI214.out|apply IsS74.alloc|apply IsS74.drewN|apply IsS74.drew|apply IsS74.set_0|apply IsS74.set_1|refine IsS74.far ?_ NB214_213.out _));(case side2 => repeat (with_reducible first|exact HB.out|apply za|apply zb|apply zc|refine zd ?_ (IsS74.ge HI214.out)|refine zd ?_ GE213.out));rintro e w19 ⟨rfl,hi,hb,hk⟩;replace HO_5:=zh (zM (Kd.R_keep (IsS74.apart (show IsS74 w _ gb214 t219 t220 from by repeat (with_reducible first|exact HI214.out|apply IsS74.alloc|apply IsS74.drewN|apply IsS74.drew|apply IsS74.set_0|apply IsS74.set_1|refine IsS74.far ?_ NB214_213.out _)) (by (with_reducible repeat (first|apply zm|apply zn|apply zo));exact HO_5.out) (by decide)) hk (fun _ h => h.2)) (fun _ h => h.1));replace BK213:=zh (KeepBut.blk hk (g':=gb213) (o:=.cells #[.int .i64 a0_0,.int .i64 a0_1,.string a0_2] 26 (0,0)) (by (with_reducible repeat (first|refine ze ?_ _|refine zf ?_|refine zg ?_ _));exact BK213.out) NB213_214.out (by simp));replace HB:=zh (hb);replace BK214:=zh ((show _∧_ from hi).1);clear HI214;(try clear hb);(try clear hb2);(try clear hk);(try clear hi);have HI214:=zh (show IsS74 w w19 gb214 t222 t223 from ⟨BK214.out,GE214.out⟩))|(go_at_call 56;(with_reducible refine (impl_byteReader_value.calls kj6  gb214 t222 t223 t224 t225 t226 t227 t228 w _ ?side1 ?side2 A16.out).mono ?_);(case side1 => repeat (with_reducible first|exact HI214.out|apply IsS74.alloc|apply IsS74.drewN|apply IsS74.drew|apply IsS74.set_0|apply IsS74.set_1|refine IsS74.far ?_ NB214_213.out _));(case side2 => repeat (with_reducible first|exact HB.out|apply za|apply zb|apply zc|refine zd ?_ (IsS74.ge HI214.out)|refine zd ?_ GE213.out));rintro e w20 ⟨rfl,hi,hb,hk⟩;replace HO_5:=zh (zM (Kd.R_keep (IsS74.apart (show IsS74 w _ gb214 t222 t223 from by repeat (with_reducible first|exact HI214.out|apply IsS74.alloc|apply IsS74.drewN|apply IsS74.drew|apply IsS74.set_0|apply IsS74.set_1|refine IsS74.far ?_ NB214_213.out _)) (by (with_reducible repeat (first|apply zm|apply zn|apply zo));exact HO_5.out) (by decide)) hk (fun _ h => h.2)) (fun _ h => h.1));replace BK213:=zh (KeepBut.blk hk (g':=gb213) (o:=.cells #[.int .i64 a0_0,.int .i64 a0_1,.string a0_2] 26 (0,0)) (by (with_reducible repeat (first|refine ze ?_ _|refine zf ?_|refine zg ?_ _));exact BK213.out) NB213_214.out (by simp));replace HB:=zh (hb);replace BK214:=zh ((show _∧_ from hi).1);clear HI214;(try clear hb);(try clear hb2);(try clear hk);(try clear hi))|((with_reducible refine yB (b:=.append) (xs:=#[.tmp 23,.tmp 31]) rfl ?_);at_builtin;refine Kd.R_append k68 (w0:=w) w.heap.size rfl (.tmp 23) (.tmp 31) 46 68 (.agg #[(.string ⟨#[]⟩),(.int .i64 0),(.int .i64 0),(.string ⟨#[]⟩)]) 48 rfl Try.underlying46 info68 rfl (by decide) (by omega) u5 x5_1 (⟨t221,(⟨t224,t225,t226⟩ : S26)⟩ : S68) [.string t221,.int .i64 t224,.int .i64 t225,.string t226] (fun _ => True) (fun _ => False) rfl rfl ?aP (fun _ hk => hk.elim) ?aF ?aO ?aB ?aS ?aL ?_;(case aP => exact k68_mkM _ _ _ (⟨t221,(⟨t224,t225,t226⟩ : S26)⟩ : S68));(case aB => exact (by repeat (with_reducible first|exact HB.out|apply za|apply zb|apply zc|refine zd ?_ GE213.out|refine zd ?_ GE214.out)));(case aF => exact (fun _ _ => trivial));(case aO => exact (by (with_reducible repeat (first|apply zm|apply zn|apply zo));exact HO_5.out));(case aS => exact (zB (by repeat (with_reducible first|exact HB.out|apply za|apply zb|apply zc|refine zd ?_ GE213.out|refine zd ?_ GE214.out))));(case aL => have:=LMc17.out;omega);intro v230 w21 ho hb hg hat;rw [← Ny229.out] at ho;replace BK213:=zh (yw (g:=gb213) (o:=.cells #[.int .i64 a0_0,.int .i64 a0_1,.string a0_2] 26 (0,0)) (by (with_reducible repeat (first|refine ze ?_ _|refine zf ?_|refine zg ?_ _));exact BK213.out) hg (Kd.R_ne HO_5.out BK213.out (by decide)));replace BK214:=zh (yw (g:=gb214) (o:=.cells #[.string t227,.bool t228] 74 (0,0)) (by (with_reducible repeat (first|refine ze ?_ _|refine zf ?_|refine zg ?_ _));exact BK214.out) hg (Kd.R_ne HO_5.out BK214.out (by decide)));replace HB:=zh (hb);have HO231:=zh (ho);clear HO_5 ho hb hg hat)))
       go_roundg kj6
       case measure => have:=HK1.out;have:=HJ6.out;omega
       case rel => exact ⟨(y229),(t227),(t228),H',⟨by have:=HK1.out;have:=HJ6.out;omega⟩,⟨by (with_reducible repeat (first|apply zm|apply zn|apply zo));exact HO231.out⟩,⟨by (with_reducible repeat (first|refine ze ?_ _|refine zf ?_|refine zg ?_ _));exact BK213.out⟩,⟨by (with_reducible repeat (first|refine ze ?_ _|refine zf ?_|refine zg ?_ _));exact BK214.out⟩,⟨by repeat (with_reducible first|exact HB.out|apply za|apply zb|apply zc|refine zd ?_ GE213.out|refine zd ?_ GE214.out)⟩⟩
      rw [if_neg c17] at H;exact absurd H (by simp)
     replace c13:=yb.mpr c13;subst c13;have H1 : (some (x5_1,!x215001_1))=some (r1,r2):=by rw [if_neg (show ¬ (false=true) by decide)] at H;exact H
     clear H;have H:=H1;clear H1;simp only [Option.some.injEq,Prod.mk.injEq] at H;obtain ⟨rfl,rfl⟩:=H;have hnb22:=NB214_213.out;have hnc22:=NB213_214.out;have hcz23_0 : wc.cell? ⟨gb214,0,none⟩=some (.string x215000_1):=(zz BK214.out 0).trans rfl;have hcz23_1 : wc.cell? ⟨gb214,1,none⟩=some (.bool x215001_1):=(zz BK214.out 1).trans rfl;have hfz23_0:=zA BK214.out 0;have hfz23_1:=zA BK214.out 1
     go_wp2
     repeat (go_quiet (fail);try go_wp2)
     go_ret2
     exact ⟨_,by first|rfl|(simp [yt,yu] <;> rfl)|(simp [*,yt,yu] <;> rfl),by (with_reducible repeat (first|apply zm|apply zn|apply zo));exact HO_5.out,by repeat (with_reducible first|exact HB.out|apply za|apply zb|apply zc|refine zd ?_ GE213.out|refine zd ?_ GE214.out)⟩

end Go.Proofs.Ytpmeglcmhiihoaa.Q
end
section
namespace Go.Proofs.Ytpmeglcmhiihoaa.Q
open Go.RowKit Go.Proofs.YtpmeglcmhiihoaaW.PrintWords Go.Proofs.YtpmeglcmhiihoaaW.PrintLast Go.Proofs.YtpmeglcmhiihoaaW.PrintMore
attribute [local go_sem] max2_int min2_int max_two min_two max_three min_three max_four min_four max2_str min2_str str_geq str_gtr str_leq   -- for this text's walks alone
set_option linter.unusedVariables false
set_option linter.unusedSimpArgs false

def impl_isLetter.f (a0 : Int) : Option (Bool):=if a0 ≥ 97 then (if a0≤122 then (some true) else (if a0 ≥ 65 then (if a0≤90 then (some true) else (some (a0 == 95))) else (some (a0 == 95)))) else (if a0 ≥ 65 then (if a0≤90 then (some true) else (some (a0 == 95))) else (some (a0 == 95)))
set_option maxHeartbeats 8000000 in
set_option maxRecDepth 100000 in
theorem impl_isLetter.calls (a0 : Int) (r : Bool) (w : World) (h : impl_isLetter.f a0=some r) :
  Calls Try.prog 121 #[.int .u8 a0] w fun e w' => e = .returned (.bool r)∧Drawn0 w w':=by
 have H : (if a0 ≥ 97 then (if a0≤122 then (some true) else (if a0 ≥ 65 then (if a0≤90 then (some true) else (some (a0 == 95))) else (some (a0 == 95)))) else (if a0 ≥ 65 then (if a0≤90 then (some true) else (some (a0 == 95))) else (some (a0 == 95))))=some r:=h;clear h
 by_cases c2 : a0 ≥ 97
 ·
  rw [if_pos c2] at H
  have c2b0 : decide (97≤a0)=true:=decide_eq_true c2;clear c2
  by_cases c3 : a0≤122
  ·
   rw [if_pos c3] at H
   have c3b0 : decide (a0≤122)=true:=decide_eq_true c3;clear c3;obtain rfl:=zU H
   go_enter Try.func121,Try.ntmps121
   go_wp2
   go_ret
   exact ⟨by first|rfl|(simp;done)|(simp [*];done),by repeat (first|exact yp _|apply yq)⟩
  rw [if_neg c3] at H;have c3b0 : decide (a0≤122)=false:=decide_eq_false c3;clear c3
  by_cases c4 : a0 ≥ 65
  ·
   rw [if_pos c4] at H
   have c4b0 : decide (65≤a0)=true:=decide_eq_true c4;clear c4
   by_cases c5 : a0≤90
   ·
    rw [if_pos c5] at H
    have c5b0 : decide (a0≤90)=true:=decide_eq_true c5;clear c5;obtain rfl:=zU H
    go_enter Try.func121,Try.ntmps121
    go_wp2
    go_ret
    exact ⟨by first|rfl|(simp;done)|(simp [*];done),by repeat (first|exact yp _|apply yq)⟩
   rw [if_neg c5] at H;have c5b0 : decide (a0≤90)=false:=decide_eq_false c5;clear c5;obtain rfl:=zU H
   go_enter Try.func121,Try.ntmps121
   go_wp2
   go_ret
   exact ⟨by first|rfl|(simp;done)|(simp [*];done),by repeat (first|exact yp _|apply yq)⟩
  rw [if_neg c4] at H;have c4b0 : decide (65≤a0)=false:=decide_eq_false c4;clear c4;obtain rfl:=zU H
  go_enter Try.func121,Try.ntmps121
  go_wp2
  go_ret
  exact ⟨by first|rfl|(simp;done)|(simp [*];done),by repeat (first|exact yp _|apply yq)⟩
 rw [if_neg c2] at H;have c2b0 : decide (97≤a0)=false:=decide_eq_false c2;clear c2
 by_cases c6 : a0 ≥ 65
 ·
  rw [if_pos c6] at H
  have c6b0 : decide (65≤a0)=true:=decide_eq_true c6;clear c6
  by_cases c7 : a0≤90
  ·
   rw [if_pos c7] at H
   have c7b0 : decide (a0≤90)=true:=decide_eq_true c7;clear c7;obtain rfl:=zU H
   go_enter Try.func121,Try.ntmps121
   go_wp2
   go_ret
   exact ⟨by first|rfl|(simp;done)|(simp [*];done),by repeat (first|exact yp _|apply yq)⟩
  rw [if_neg c7] at H;have c7b0 : decide (a0≤90)=false:=decide_eq_false c7;clear c7;obtain rfl:=zU H
  go_enter Try.func121,Try.ntmps121
  go_wp2
  go_ret
  exact ⟨by first|rfl|(simp;done)|(simp [*];done),by repeat (first|exact yp _|apply yq)⟩
 rw [if_neg c6] at H;have c6b0 : decide (65≤a0)=false:=decide_eq_false c6;clear c6;obtain rfl:=zU H
 go_enter Try.func121,Try.ntmps121
 go_wp2
 go_ret
 exact ⟨by first|rfl|(simp;done)|(simp [*];done),by repeat (first|exact yp _|apply yq)⟩

end Go.Proofs.Ytpmeglcmhiihoaa.Q
end
section
namespace Go.Proofs.Ytpmeglcmhiihoaa.Q
open Go.RowKit Go.Proofs.YtpmeglcmhiihoaaW.PrintWords Go.Proofs.YtpmeglcmhiihoaaW.PrintLast Go.Proofs.YtpmeglcmhiihoaaW.PrintMore
attribute [local go_sem] max2_int min2_int max_two min_two max_three min_three max_four min_four max2_str min2_str str_geq str_gtr str_leq   -- for this text's walks alone
set_option linter.unusedVariables false
set_option linter.unusedSimpArgs false

def impl_isDigit.f (a0 : Int) : Option (Bool):=if a0 ≥ 48 then (some (decide (a0≤57))) else (some false)
set_option maxHeartbeats 8000000 in
set_option maxRecDepth 100000 in
theorem impl_isDigit.calls (a0 : Int) (r : Bool) (w : World) (h : impl_isDigit.f a0=some r) :
  Calls Try.prog 122 #[.int .u8 a0] w fun e w' => e = .returned (.bool r)∧Drawn0 w w':=by
 have H : (if a0 ≥ 48 then (some (decide (a0≤57))) else (some false))=some r:=h;clear h
 by_cases c2 : a0 ≥ 48
 ·
  rw [if_pos c2] at H
  have c2b0 : decide (48≤a0)=true:=decide_eq_true c2;clear c2;obtain rfl:=zU H
  go_enter Try.func122,Try.ntmps122
  go_wp2
  go_ret
  exact ⟨by first|rfl|(simp;done)|(simp [*];done),by repeat (first|exact yp _|apply yq)⟩
 rw [if_neg c2] at H;have c2b0 : decide (48≤a0)=false:=decide_eq_false c2;clear c2;obtain rfl:=zU H
 go_enter Try.func122,Try.ntmps122
 go_wp2
 go_ret
 exact ⟨by first|rfl|(simp;done)|(simp [*];done),by repeat (first|exact yp _|apply yq)⟩

end Go.Proofs.Ytpmeglcmhiihoaa.Q
end
section
namespace Go.Proofs.Ytpmeglcmhiihoaa.Q
open Go.RowKit Go.Proofs.YtpmeglcmhiihoaaW.PrintWords Go.Proofs.YtpmeglcmhiihoaaW.PrintLast Go.Proofs.YtpmeglcmhiihoaaW.PrintMore
attribute [local go_sem] max2_int min2_int max_two min_two max_three min_three max_four min_four max2_str min2_str str_geq str_gtr str_leq   -- for this text's walks alone
set_option linter.unusedVariables false
set_option linter.unusedSimpArgs false

def impl_NameOK.l0 : Nat→ByteArray→Int→Int→Option (Bool)
 | 0,_,_,_ => none
 | k + 1,x0,x5,x6 => if x6<x5 then (if 0≤x6 then (if x6<(x0.size : Int) then ((impl_isLetter.f (bt x0 x6)).bind fun t233 => (if t233=true then (impl_NameOK.l0 k x0 x5 (wrap64 (x6 + 1))) else ((impl_isDigit.f (bt x0 x6)).bind fun t234 => (if t234=true then (if x6=0 then (some false) else (impl_NameOK.l0 k x0 x5 (wrap64 (x6 + 1)))) else (some false))))) else (none)) else (none)) else ((impl_inRange.f (x0.size : Int) 1 40).bind fun t232 => (some t232))
def impl_NameOK.f (k : Nat) (a0 : ByteArray) : Option (Bool):=impl_NameOK.l0 k a0 (a0.size : Int) 0
theorem impl_NameOK.mono_l : ∀ k,(∀ y0 y1 y2,LeO (impl_NameOK.l0 k y0 y1 y2) (impl_NameOK.l0 (k + 1) y0 y1 y2))
 | 0 => fun _ _ _ r h => by simp [impl_NameOK.l0] at h
 | k + 1 => by
  have ih0:=impl_NameOK.mono_l k;intro y0 y1 y2;unfold impl_NameOK.l0
  repeat' first|(with_reducible exact ih0 _ _ _)|(with_reducible exact zQ _)|(with_reducible exact zN _)|(with_reducible refine zP ?_ ?_)|(with_reducible refine zO ?_ (fun _ => ?_))|refine zP ?_ ?_|refine zO ?_ (fun _ => ?_)
theorem impl_NameOK.mono : ∀ a0 k,LeO (impl_NameOK.f k a0) (impl_NameOK.f (k + 1) a0):=by
 intro a0 k;have ih0:=impl_NameOK.mono_l k;unfold impl_NameOK.f
 repeat' first|(with_reducible exact ih0 _ _ _)|(with_reducible exact zQ _)|(with_reducible exact zN _)|(with_reducible refine zP ?_ ?_)|(with_reducible refine zO ?_ (fun _ => ?_))|refine zP ?_ ?_|refine zO ?_ (fun _ => ?_)
set_option maxHeartbeats 8000000 in
set_option maxRecDepth 100000 in
theorem impl_NameOK.calls (k : Nat) (a0 : ByteArray) (r : Bool) (w : World) (h : impl_NameOK.f k a0=some r) :
  Calls Try.prog 111 #[.string a0] w fun e w' => e = .returned (.bool r)∧Drawn0 w w':=by
 have H : (impl_NameOK.l0 k a0 (a0.size : Int) 0)=some r:=h;clear h;have H':=zh H;clear H
 go_enter Try.func111,Try.ntmps111
 go_wp2
 go_loopg [6] k (fun kq v6 w' => ∃ (x6_1 : Int),v6 = .int .i64 x6_1∧Aside0 (impl_NameOK.l0 kq a0 (a0.size : Int) x6_1=some r)∧Aside0 (kq≤k)∧Drawn0 w w')
 case atStart => exact ⟨(0),(by first|rfl|(simp;done)|(simp [*];done)),H',⟨ye _⟩,by repeat (first|exact yp _|apply yq)⟩
 case round =>
  clear H'
  try clear c1
  obtain ⟨x6_1,rfl,HA,HK1,⟨m1,rfl⟩⟩:=hrel
  cases gk with
  | zero => exact absurd HA.out (by simp [impl_NameOK.l0])
  | succ k1 =>
   have H:=HA.out;clear HA;simp only [impl_NameOK.l0] at H
   by_cases c2 : x6_1<(a0.size : Int)
   ·
    rw [if_pos c2] at H
    have c2b0 : decide (x6_1<(a0.size : Int))=true:=decide_eq_true c2;clear c2
    by_cases c3 : 0≤x6_1
    ·
     rw [if_pos c3] at H
     have c3b0 : decide (0≤x6_1)=true:=decide_eq_true c3;clear c3
     by_cases c4 : x6_1<(a0.size : Int)
     ·
      rw [if_pos c4] at H
      have c4b0 : decide (x6_1<(a0.size : Int))=true:=decide_eq_true c4;clear c4;replace H:=zT.mp H;obtain ⟨t233,A60,H⟩:=H;replace H : (if t233=true then (impl_NameOK.l0 k1 a0 (a0.size : Int) (wrap64 (x6_1 + 1))) else ((impl_isDigit.f (bt a0 x6_1)).bind fun t234 => (if t234=true then (if x6_1=0 then (some false) else (impl_NameOK.l0 k1 a0 (a0.size : Int) (wrap64 (x6_1 + 1)))) else (some false))))=some r:=H;have A6:=zh A60;clear A60
      by_cases c7 : t233=true
      ·
       subst c7
       have H1 : (impl_NameOK.l0 k1 a0 (a0.size : Int) (wrap64 (x6_1 + 1)))=some r:=by rw [if_pos rfl] at H;exact H
       clear H;have H:=H1;clear H1;have H':=zh H;clear H;have p5 : 0≤(x6_1 : Int):=zy (by first|(with_reducible assumption)|assumption);have q5 : x6_1<(a0.size : Int):=zy (by first|(with_reducible assumption)|assumption);have hx5:=bt_at a0 x6_1;replace p5:=eq_true p5;replace q5:=eq_true q5
       go_wp2_with (first|((with_reducible refine zJ (f:=121) rfl ?_);refine yj (some 12) rfl rfl Try.func121 (by kernel_rfl) rfl #[.int .u8 (bt a0 x6_1)] rfl (by (try simp only [zt,zu,zv]);first|done|rfl|(simp only [zw,zx];rfl)|(simp only [yr,ys,zV,zW];rfl)) ?_;(with_reducible refine (impl_isLetter.calls  (bt a0 x6_1) true _ A6.out).mono ?_);rintro e w' ⟨rfl,⟨nd,rfl⟩⟩;refine ⟨_,rfl,?_⟩))
       go_roundg k1
       case measure => have:=HK1.out;omega
       case rel => exact ⟨(wrap64 (x6_1 + 1)),(by first|rfl|(simp;done)|(simp [*];done)),H',⟨by have:=HK1.out;omega⟩,by repeat (first|exact yp _|apply yq)⟩
      replace c7:=yb.mpr c7;subst c7;have H1 : ((impl_isDigit.f (bt a0 x6_1)).bind fun t234 => (if t234=true then (if x6_1=0 then (some false) else (impl_NameOK.l0 k1 a0 (a0.size : Int) (wrap64 (x6_1 + 1)))) else (some false)))=some r:=by rw [if_neg (show ¬ (false=true) by decide)] at H;exact H
      clear H;have H:=H1;clear H1;replace H:=zT.mp H;obtain ⟨t234,A90,H⟩:=H;replace H : (if t234=true then (if x6_1=0 then (some false) else (impl_NameOK.l0 k1 a0 (a0.size : Int) (wrap64 (x6_1 + 1)))) else (some false))=some r:=H;have A9:=zh A90;clear A90
      by_cases c10 : t234=true
      ·
       subst c10
       have H1 : (if x6_1=0 then (some false) else (impl_NameOK.l0 k1 a0 (a0.size : Int) (wrap64 (x6_1 + 1))))=some r:=by rw [if_pos rfl] at H;exact H
       clear H;have H:=H1;clear H1
       by_cases c11 : x6_1=0
       ·
        rw [if_pos c11] at H
        have c11b0 : (x6_1 == 0)=true:=ya.mpr c11;have c11b1 : (x6_1 != 0)=false:=zX.mpr c11;clear c11;obtain rfl:=zU H;have p5 : 0≤(x6_1 : Int):=zy (by first|(with_reducible assumption)|assumption);have q5 : x6_1<(a0.size : Int):=zy (by first|(with_reducible assumption)|assumption);have hx5:=bt_at a0 x6_1;replace p5:=eq_true p5;replace q5:=eq_true q5
        go_wp2_with (first|((with_reducible refine zJ (f:=121) rfl ?_);refine yj (some 12) rfl rfl Try.func121 (by kernel_rfl) rfl #[.int .u8 (bt a0 x6_1)] rfl (by (try simp only [zt,zu,zv]);first|done|rfl|(simp only [zw,zx];rfl)|(simp only [yr,ys,zV,zW];rfl)) ?_;(with_reducible refine (impl_isLetter.calls  (bt a0 x6_1) false _ A6.out).mono ?_);rintro e w' ⟨rfl,⟨nd,rfl⟩⟩;refine ⟨_,rfl,?_⟩;have p8 : 0≤(x6_1 : Int):=zy (by first|(with_reducible assumption)|assumption);have q8 : x6_1<(a0.size : Int):=zy (by first|(with_reducible assumption)|assumption);have hx8:=bt_at a0 x6_1;replace p8:=eq_true p8;replace q8:=eq_true q8)|(go_at_call 122;(with_reducible refine (impl_isDigit.calls  (bt a0 x6_1) true _ A9.out).mono ?_);rintro e w' ⟨rfl,⟨nd,rfl⟩⟩))
        go_ret
        exact ⟨by first|rfl|(simp;done)|(simp [*];done),by repeat (first|exact yp _|apply yq)⟩
       rw [if_neg c11] at H;have c11b0 : (x6_1 == 0)=false:=zY.mpr c11;have c11b1 : (x6_1 != 0)=true:=zZ.mpr c11;have H':=zh H;clear H;have p5 : 0≤(x6_1 : Int):=zy (by first|(with_reducible assumption)|assumption);have q5 : x6_1<(a0.size : Int):=zy (by first|(with_reducible assumption)|assumption);have hx5:=bt_at a0 x6_1;replace p5:=eq_true p5;replace q5:=eq_true q5
       go_wp2_with (first|((with_reducible refine zJ (f:=121) rfl ?_);refine yj (some 12) rfl rfl Try.func121 (by kernel_rfl) rfl #[.int .u8 (bt a0 x6_1)] rfl (by (try simp only [zt,zu,zv]);first|done|rfl|(simp only [zw,zx];rfl)|(simp only [yr,ys,zV,zW];rfl)) ?_;(with_reducible refine (impl_isLetter.calls  (bt a0 x6_1) false _ A6.out).mono ?_);rintro e w' ⟨rfl,⟨nd,rfl⟩⟩;refine ⟨_,rfl,?_⟩;have p8 : 0≤(x6_1 : Int):=zy (by first|(with_reducible assumption)|assumption);have q8 : x6_1<(a0.size : Int):=zy (by first|(with_reducible assumption)|assumption);have hx8:=bt_at a0 x6_1;replace p8:=eq_true p8;replace q8:=eq_true q8)|(go_at_call 122;(with_reducible refine (impl_isDigit.calls  (bt a0 x6_1) true _ A9.out).mono ?_);rintro e w' ⟨rfl,⟨nd,rfl⟩⟩))
       go_roundg k1
       case measure => have:=HK1.out;omega
       case rel => exact ⟨(wrap64 (x6_1 + 1)),(by first|rfl|(simp;done)|(simp [*];done)),H',⟨by have:=HK1.out;omega⟩,by repeat (first|exact yp _|apply yq)⟩
      replace c10:=yb.mpr c10;subst c10;have H1 : (some false)=some r:=by rw [if_neg (show ¬ (false=true) by decide)] at H;exact H
      clear H;have H:=H1;clear H1;obtain rfl:=zU H;have p5 : 0≤(x6_1 : Int):=zy (by first|(with_reducible assumption)|assumption);have q5 : x6_1<(a0.size : Int):=zy (by first|(with_reducible assumption)|assumption);have hx5:=bt_at a0 x6_1;replace p5:=eq_true p5;replace q5:=eq_true q5
      go_wp2_with (first|((with_reducible refine zJ (f:=121) rfl ?_);refine yj (some 12) rfl rfl Try.func121 (by kernel_rfl) rfl #[.int .u8 (bt a0 x6_1)] rfl (by (try simp only [zt,zu,zv]);first|done|rfl|(simp only [zw,zx];rfl)|(simp only [yr,ys,zV,zW];rfl)) ?_;(with_reducible refine (impl_isLetter.calls  (bt a0 x6_1) false _ A6.out).mono ?_);rintro e w' ⟨rfl,⟨nd,rfl⟩⟩;refine ⟨_,rfl,?_⟩;have p8 : 0≤(x6_1 : Int):=zy (by first|(with_reducible assumption)|assumption);have q8 : x6_1<(a0.size : Int):=zy (by first|(with_reducible assumption)|assumption);have hx8:=bt_at a0 x6_1;replace p8:=eq_true p8;replace q8:=eq_true q8)|(go_at_call 122;(with_reducible refine (impl_isDigit.calls  (bt a0 x6_1) false _ A9.out).mono ?_);rintro e w' ⟨rfl,⟨nd,rfl⟩⟩))
      go_ret
      exact ⟨by first|rfl|(simp;done)|(simp [*];done),by repeat (first|exact yp _|apply yq)⟩
     rw [if_neg c4] at H;exact absurd H (by simp)
    rw [if_neg c3] at H;exact absurd H (by simp)
   rw [if_neg c2] at H;have c2b0 : decide (x6_1<(a0.size : Int))=false:=decide_eq_false c2;clear c2;replace H:=zT.mp H;obtain ⟨t232,A120,H⟩:=H;replace H : (some t232)=some r:=H;have A12:=zh A120;clear A120;obtain rfl:=zU H
   go_wp2_with (first|((with_reducible refine zJ (f:=85) rfl ?_);refine yj (some 28) rfl rfl Try.func85 (by kernel_rfl) rfl #[.int .i64 (a0.size : Int),.int .i64 1,.int .i64 40] rfl (by (try simp only [zt,zu,zv]);first|done|rfl|(simp only [zw,zx];rfl)|(simp only [yr,ys,zV,zW];rfl)) ?_;(with_reducible refine (impl_inRange.calls  (a0.size : Int) 1 40 t232 _ A12.out).mono ?_);rintro e w' ⟨rfl,⟨nd,rfl⟩⟩;refine ⟨_,rfl,?_⟩))
   go_ret
   exact ⟨by first|rfl|(simp;done)|(simp [*];done),by repeat (first|exact yp _|apply yq)⟩

end Go.Proofs.Ytpmeglcmhiihoaa.Q
end
section
namespace Go.Proofs.Ytpmeglcmhiihoaa.Q
open Go.RowKit Go.Proofs.YtpmeglcmhiihoaaW.PrintWords Go.Proofs.YtpmeglcmhiihoaaW.PrintLast Go.Proofs.YtpmeglcmhiihoaaW.PrintMore
attribute [local go_sem] max2_int min2_int max_two min_two max_three min_three max_four min_four max2_str min2_str str_geq str_gtr str_leq   -- for this text's walks alone
set_option linter.unusedVariables false
set_option linter.unusedSimpArgs false

def impl_isShort.f (k : Nat) (a0 : ByteArray) : Option (Bool):=if (a0.size : Int)≤12 then ((impl_NameOK.f k a0).bind fun t235 => (some t235)) else (some false)
theorem impl_isShort.mono : ∀ a0 k,LeO (impl_isShort.f k a0) (impl_isShort.f (k + 1) a0):=by
 intro a0 k;unfold impl_isShort.f
 repeat' first|(with_reducible exact impl_NameOK.mono _ _)|(with_reducible exact zQ _)|(with_reducible exact zN _)|(with_reducible refine zP ?_ ?_)|(with_reducible refine zO ?_ (fun _ => ?_))|refine zP ?_ ?_|refine zO ?_ (fun _ => ?_)
set_option maxHeartbeats 8000000 in
set_option maxRecDepth 100000 in
theorem impl_isShort.calls (k : Nat) (a0 : ByteArray) (r : Bool) (w : World) (h : impl_isShort.f k a0=some r) :
  Calls Try.prog 81 #[.string a0] w fun e w' => e = .returned (.bool r)∧Drawn0 w w':=by
 have H : (if (a0.size : Int)≤12 then ((impl_NameOK.f k a0).bind fun t235 => (some t235)) else (some false))=some r:=h;clear h
 by_cases c2 : (a0.size : Int)≤12
 ·
  rw [if_pos c2] at H
  have c2b0 : decide ((a0.size : Int)≤12)=true:=decide_eq_true c2;have c2b1 : decide (a0.size≤12)=true:=decide_eq_true (by omega);clear c2;replace H:=zT.mp H;obtain ⟨t235,A30,H⟩:=H;replace H : (some t235)=some r:=H;have A3:=zh A30;clear A30;obtain rfl:=zU H
  go_enter Try.func81,Try.ntmps81
  go_wp2_with (first|(go_at_call 111;(with_reducible refine (impl_NameOK.calls k  a0 t235 _ A3.out).mono ?_);rintro e w' ⟨rfl,⟨nd,rfl⟩⟩))
  go_ret
  exact ⟨by first|rfl|(simp;done)|(simp [*];done),by repeat (first|exact yp _|apply yq)⟩
 rw [if_neg c2] at H;have c2b0 : decide ((a0.size : Int)≤12)=false:=decide_eq_false c2;have c2b1 : decide (a0.size≤12)=false:=decide_eq_false (by omega);clear c2;obtain rfl:=zU H
 go_enter Try.func81,Try.ntmps81
 go_wp2
 go_ret
 exact ⟨by first|rfl|(simp;done)|(simp [*];done),by repeat (first|exact yp _|apply yq)⟩

end Go.Proofs.Ytpmeglcmhiihoaa.Q
end
