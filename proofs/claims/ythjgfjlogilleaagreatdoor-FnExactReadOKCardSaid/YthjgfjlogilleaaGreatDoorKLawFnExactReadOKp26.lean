/- Texts of this claim, merged by a program of this session. -/
import Derived.Test.YthjgfjlogilleaaGreatDoorKLawFnExactReadOKp25
import Derived.ProofKit
import Derived.OpenShut
import Derived.ShutString
import Derived.ChangeOld
import Derived.SizedLaws
import Derived.Deep.Slices
import Derived.Lib.SmallJoins
import Derived.Laws.Entries
section
namespace Go.Proofs.YthjgfjlogilleaaGreatDoor.Q
open Go.RowKit Go.Proofs.YthjgfjlogilleaaGreatDoorW.PrintWords Go.Proofs.YthjgfjlogilleaaGreatDoorW.PrintLast Go.Proofs.YthjgfjlogilleaaGreatDoorW.PrintMore
attribute [local go_sem] max2_int min2_int max_two min_two max_three min_three max_four min_four max2_str min2_str str_geq str_gtr str_leq
set_option linter.unusedVariables false
set_option linter.unusedSimpArgs false

def Fj.f (k : Nat) (l0_0 : List (S46)) : Option (Bool):=(F08.f (l0_0.length : Int) 1 3).bind fun t375 => (if t375=true then ((Fd.f k l0_0).bind fun t376 => (some (!t376))) else (some false))
theorem Fj.mono : ∀ a0 k,LeO (Fj.f k a0) (Fj.f (k + 1) a0):=by
 intro a0 k;unfold Fj.f
 repeat' first|(with_reducible first|exact Fd.mono _ _|exact zQ _|exact zN _|refine zP ?_ ?_|refine zO ?_ (fun _ => ?_))|refine zP ?_ ?_|refine zO ?_ (fun _ => ?_)
set_option maxHeartbeats 8000000 in
set_option maxRecDepth 100000 in
theorem Fj.calls (k : Nat) (A0_0 : Option Addr) (c0_0 : Nat) (l0_0 : List (S46)) (r : Bool) (w : World) (hr0_0 : Kd.C k46 w A0_0 l0_0.length l0_0) (hc0_0 : l0_0.length≤c0_0) (h : Fj.f k l0_0=some r) :
  Calls Tryz.prog 8 #[.agg #[.slice A0_0 l0_0.length c0_0]] w fun e w' => e = .returned (.bool r)∧Below w.heap.size w w':=by
 have hu29:=Tryz.underlying29;have HR0_0:=zh hr0_0;have HC0_0:=zh hc0_0;clear hr0_0 hc0_0;have HB:=zh (Below.refl w.heap.size w);have H : ((F08.f (l0_0.length : Int) 1 3).bind fun t375 => (if t375=true then ((Fd.f k l0_0).bind fun t376 => (some (!t376))) else (some false)))=some r:=h;clear h;replace H:=zT.mp H;obtain ⟨t375,A20,H⟩:=H;replace H : (if t375=true then ((Fd.f k l0_0).bind fun t376 => (some (!t376))) else (some false))=some r:=H;have A2:=zh A20;clear A20
 by_cases c3 : t375=true
 ·
  subst c3
  have H1 : ((Fd.f k l0_0).bind fun t376 => (some (!t376)))=some r:=by rw [if_pos rfl] at H;exact H
  clear H;have H:=H1;clear H1;replace H:=zT.mp H;obtain ⟨t376,A40,H⟩:=H;replace H : (some (!t376))=some r:=H;have A4:=zh A40;clear A40;obtain rfl:=zU H
  go_enter Tryz.func8,Tryz.ntmps8
  go_wp2_with (first|((with_reducible refine zK (N:=1) rfl ?_);refine zI ?hg (N:=1) ?hd (cs:=#[.slice A0_0 l0_0.length c0_0]) (t:=29) ?hr ?_;(case hd => rfl);(case hg => rfl);(case hr => first|(go_simp;done)|(go_simp;rfl));intro gb374 hg w5 hbox hb;have BK374:=zh (hbox);have GW374:=zh ((by rw [hg];exact (zB (by repeat (with_reducible first|exact HB.out|apply za|apply zb|apply zc))) : w.heap.size≤gb374));have GE374:=zh ((by rw [hg];exact (zB (by repeat (with_reducible first|exact HB.out|apply za|apply zb|apply zc))) : w.heap.size≤gb374));replace HB:=zh (zC (by repeat (with_reducible first|exact HB.out|apply za|apply zb|apply zc)) hb);clear hb hbox hg;have hcz6_0 : w5.cell? ⟨gb374,0,none⟩=some (.slice A0_0 l0_0.length c0_0):=(zz BK374.out 0).trans rfl;have hfz6_0:=zA BK374.out 0)|((with_reducible refine zJ (f:=19) rfl ?_);refine yj (some 6) rfl rfl Tryz.func19 (by kernel_rfl) rfl #[.int .i64 (l0_0.length : Int),.int .i64 1,.int .i64 3] rfl (by (try simp only [zt,zu,zv]);first|done|rfl|(simp only [zw,zx];rfl)|(simp only [yr,ys,zV,zW];rfl)) ?_;(with_reducible refine (F08.calls  (l0_0.length : Int) 1 3 true _ A2.out).mono ?_);rintro e w' ⟨rfl,⟨nd,rfl⟩⟩;refine ⟨_,rfl,?_⟩)|(go_at_call 20;(with_reducible refine (Fd.calls k  _ _ l0_0  t376 _ ?side1 ?side2 A4.out).mono ?_);(case side1 => repeat (first|exact (Kd.C_below HR0_0.out (by repeat (with_reducible first|exact HB.out|apply za|apply zb|apply zc|refine zd ?_ GE374.out)))|(with_reducible refine Kd.C_alloc ?_ _)|(with_reducible refine Kd.C_drewN ?_ _)|(with_reducible refine Kd.C_drew ?_)));(case side2 => exact HC0_0.out);rintro e w7 ⟨rfl,hb⟩;replace BK374:=zh (zD (g:=gb374) (o:=.cells #[.slice A0_0 l0_0.length c0_0] 29 (0,0)) (by (with_reducible repeat (first|refine ze ?_ _|refine zf ?_|refine zg ?_ _));exact BK374.out) hb);replace HB:=zh (zC (by repeat (with_reducible first|exact HB.out|apply za|apply zb|apply zc|refine zd ?_ GE374.out)) hb);(try clear hb);(try clear hb2);(try clear hk);(try clear hi)))
  go_ret
  exact ⟨by first|rfl|(simp [yt,yu] <;> rfl)|(simp [*,yt,yu] <;> rfl),by repeat (with_reducible first|exact HB.out|apply za|apply zb|apply zc|refine zd ?_ GE374.out)⟩
 replace c3:=yb.mpr c3;subst c3;have H1 : (some false)=some r:=by rw [if_neg (show ¬ (false=true) by decide)] at H;exact H
 clear H;have H:=H1;clear H1;obtain rfl:=zU H
 go_enter Tryz.func8,Tryz.ntmps8
 go_wp2_with (first|((with_reducible refine zK (N:=1) rfl ?_);refine zI ?hg (N:=1) ?hd (cs:=#[.slice A0_0 l0_0.length c0_0]) (t:=29) ?hr ?_;(case hd => rfl);(case hg => rfl);(case hr => first|(go_simp;done)|(go_simp;rfl));intro gb374 hg w8 hbox hb;have BK374:=zh (hbox);have GW374:=zh ((by rw [hg];exact (zB (by repeat (with_reducible first|exact HB.out|apply za|apply zb|apply zc))) : w.heap.size≤gb374));have GE374:=zh ((by rw [hg];exact (zB (by repeat (with_reducible first|exact HB.out|apply za|apply zb|apply zc))) : w.heap.size≤gb374));replace HB:=zh (zC (by repeat (with_reducible first|exact HB.out|apply za|apply zb|apply zc)) hb);clear hb hbox hg;have hcz9_0 : w8.cell? ⟨gb374,0,none⟩=some (.slice A0_0 l0_0.length c0_0):=(zz BK374.out 0).trans rfl;have hfz9_0:=zA BK374.out 0)|((with_reducible refine zJ (f:=19) rfl ?_);refine yj (some 6) rfl rfl Tryz.func19 (by kernel_rfl) rfl #[.int .i64 (l0_0.length : Int),.int .i64 1,.int .i64 3] rfl (by (try simp only [zt,zu,zv]);first|done|rfl|(simp only [zw,zx];rfl)|(simp only [yr,ys,zV,zW];rfl)) ?_;(with_reducible refine (F08.calls  (l0_0.length : Int) 1 3 false _ A2.out).mono ?_);rintro e w' ⟨rfl,⟨nd,rfl⟩⟩;refine ⟨_,rfl,?_⟩))
 go_ret
 exact ⟨by first|rfl|(simp [yt,yu] <;> rfl)|(simp [*,yt,yu] <;> rfl),by repeat (with_reducible first|exact HB.out|apply za|apply zb|apply zc|refine zd ?_ GE374.out)⟩


def F0a.f (k : Nat) (a0_0 : ByteArray) (l0_1 : List (S46)) : Option (Bool):=(F04.f k a0_0).bind fun t421 => (if t421=true then ((Fj.f k l0_1).bind fun t422 => (some t422)) else (some false))
theorem F0a.mono : ∀ a0 a1 k,LeO (F0a.f k a0 a1) (F0a.f (k + 1) a0 a1):=by
 intro a0 a1 k;unfold F0a.f
 repeat' first|(with_reducible first|exact Fj.mono _ _|exact F04.mono _ _|exact zQ _|exact zN _|refine zP ?_ ?_|refine zO ?_ (fun _ => ?_))|refine zP ?_ ?_|refine zO ?_ (fun _ => ?_)
set_option maxHeartbeats 8000000 in
set_option maxRecDepth 100000 in
theorem F0a.calls (k : Nat) (a0_0 : ByteArray) (A0_1 : Option Addr) (c0_1 : Nat) (l0_1 : List (S46)) (r : Bool) (w : World) (hr0_1 : Kd.C k46 w A0_1 l0_1.length l0_1) (hc0_1 : l0_1.length≤c0_1) (h : F0a.f k a0_0 l0_1=some r) :
  Calls Tryz.prog 13 #[.agg #[.string a0_0,.slice A0_1 l0_1.length c0_1]] w fun e w' => e = .returned (.bool r)∧Below w.heap.size w w':=by
 have hu38:=Tryz.underlying38;have hu29:=Tryz.underlying29;have HR0_1:=zh hr0_1;have HC0_1:=zh hc0_1;clear hr0_1 hc0_1;have HB:=zh (Below.refl w.heap.size w);have H : ((F04.f k a0_0).bind fun t421 => (if t421=true then ((Fj.f k l0_1).bind fun t422 => (some t422)) else (some false)))=some r:=h;clear h;replace H:=zT.mp H;obtain ⟨t421,A20,H⟩:=H;replace H : (if t421=true then ((Fj.f k l0_1).bind fun t422 => (some t422)) else (some false))=some r:=H;have A2:=zh A20;clear A20
 by_cases c3 : t421=true
 ·
  subst c3
  have H1 : ((Fj.f k l0_1).bind fun t422 => (some t422))=some r:=by rw [if_pos rfl] at H;exact H
  clear H;have H:=H1;clear H1;replace H:=zT.mp H;obtain ⟨t422,A40,H⟩:=H;replace H : (some t422)=some r:=H;have A4:=zh A40;clear A40;obtain rfl:=zU H
  go_enter Tryz.func13,Tryz.ntmps13
  go_wp2_with (first|((with_reducible refine zK (N:=1) rfl ?_);refine zI ?hg (N:=1) ?hd (cs:=#[.string a0_0,.slice A0_1 l0_1.length c0_1]) (t:=38) ?hr ?_;(case hd => rfl);(case hg => rfl);(case hr => first|(go_simp;done)|(go_simp;rfl));intro gb420 hg w5 hbox hb;have BK420:=zh (hbox);have GW420:=zh ((by rw [hg];exact (zB (by repeat (with_reducible first|exact HB.out|apply za|apply zb|apply zc))) : w.heap.size≤gb420));have GE420:=zh ((by rw [hg];exact (zB (by repeat (with_reducible first|exact HB.out|apply za|apply zb|apply zc))) : w.heap.size≤gb420));replace HB:=zh (zC (by repeat (with_reducible first|exact HB.out|apply za|apply zb|apply zc)) hb);clear hb hbox hg;have hcz6_0 : w5.cell? ⟨gb420,0,none⟩=some (.string a0_0):=(zz BK420.out 0).trans rfl;have hcz6_1 : w5.cell? ⟨gb420,1,none⟩=some (.slice A0_1 l0_1.length c0_1):=(zz BK420.out 1).trans rfl;have hfz6_0:=zA BK420.out 0;have hfz6_1:=zA BK420.out 1)|((with_reducible refine zJ (f:=27) rfl ?_);refine yj (some 5) rfl rfl Tryz.func27 (by kernel_rfl) rfl #[.string a0_0] rfl (by (try simp only [zt,zu,zv]);first|done|rfl|(simp only [zw,zx];rfl)|(simp only [yr,ys,zV,zW];rfl)) ?_;(with_reducible refine (F04.calls k  a0_0 true _ A2.out).mono ?_);rintro e w' ⟨rfl,⟨nd,rfl⟩⟩;refine ⟨_,rfl,?_⟩)|(go_at_call 8;(with_reducible refine (Fj.calls k  _ _ l0_1 t422 _ ?side1 ?side2 A4.out).mono ?_);(case side1 => repeat (first|exact (Kd.C_below HR0_1.out (by repeat (with_reducible first|exact HB.out|apply za|apply zb|apply zc|refine zd ?_ GE420.out)))|(with_reducible refine Kd.C_alloc ?_ _)|(with_reducible refine Kd.C_drewN ?_ _)|(with_reducible refine Kd.C_drew ?_)));(case side2 => exact HC0_1.out);rintro e w7 ⟨rfl,hb⟩;replace BK420:=zh (zD (g:=gb420) (o:=.cells #[.string a0_0,.slice A0_1 l0_1.length c0_1] 38 (0,0)) (by (with_reducible repeat (first|refine ze ?_ _|refine zf ?_|refine zg ?_ _));exact BK420.out) hb);replace HB:=zh (zC (by repeat (with_reducible first|exact HB.out|apply za|apply zb|apply zc|refine zd ?_ GE420.out)) hb);(try clear hb);(try clear hb2);(try clear hk);(try clear hi)))
  go_ret
  exact ⟨by first|rfl|(simp [yt,yu] <;> rfl)|(simp [*,yt,yu] <;> rfl),by repeat (with_reducible first|exact HB.out|apply za|apply zb|apply zc|refine zd ?_ GE420.out)⟩
 replace c3:=yb.mpr c3;subst c3;have H1 : (some false)=some r:=by rw [if_neg (show ¬ (false=true) by decide)] at H;exact H
 clear H;have H:=H1;clear H1;obtain rfl:=zU H
 go_enter Tryz.func13,Tryz.ntmps13
 go_wp2_with (first|((with_reducible refine zK (N:=1) rfl ?_);refine zI ?hg (N:=1) ?hd (cs:=#[.string a0_0,.slice A0_1 l0_1.length c0_1]) (t:=38) ?hr ?_;(case hd => rfl);(case hg => rfl);(case hr => first|(go_simp;done)|(go_simp;rfl));intro gb420 hg w8 hbox hb;have BK420:=zh (hbox);have GW420:=zh ((by rw [hg];exact (zB (by repeat (with_reducible first|exact HB.out|apply za|apply zb|apply zc))) : w.heap.size≤gb420));have GE420:=zh ((by rw [hg];exact (zB (by repeat (with_reducible first|exact HB.out|apply za|apply zb|apply zc))) : w.heap.size≤gb420));replace HB:=zh (zC (by repeat (with_reducible first|exact HB.out|apply za|apply zb|apply zc)) hb);clear hb hbox hg;have hcz9_0 : w8.cell? ⟨gb420,0,none⟩=some (.string a0_0):=(zz BK420.out 0).trans rfl;have hcz9_1 : w8.cell? ⟨gb420,1,none⟩=some (.slice A0_1 l0_1.length c0_1):=(zz BK420.out 1).trans rfl;have hfz9_0:=zA BK420.out 0;have hfz9_1:=zA BK420.out 1)|((with_reducible refine zJ (f:=27) rfl ?_);refine yj (some 5) rfl rfl Tryz.func27 (by kernel_rfl) rfl #[.string a0_0] rfl (by (try simp only [zt,zu,zv]);first|done|rfl|(simp only [zw,zx];rfl)|(simp only [yr,ys,zV,zW];rfl)) ?_;(with_reducible refine (F04.calls k  a0_0 false _ A2.out).mono ?_);rintro e w' ⟨rfl,⟨nd,rfl⟩⟩;refine ⟨_,rfl,?_⟩))
 go_ret
 exact ⟨by first|rfl|(simp [yt,yu] <;> rfl)|(simp [*,yt,yu] <;> rfl),by repeat (with_reducible first|exact HB.out|apply za|apply zb|apply zc|refine zd ?_ GE420.out)⟩


def F0u.f (a0_0 : Int) (a0_1 : Int) (a0_2 : ByteArray) (a1_0 : Int) (a1_1 : Int) (a1_2 : ByteArray) : Option (Bool):=if a0_0=a1_0 then (if a0_1=a1_1 then (if a0_2.toList=a1_2.toList then (some true) else (some false)) else (some false)) else (some false)
set_option maxHeartbeats 8000000 in
set_option maxRecDepth 100000 in
theorem F0u.calls (a0_0 : Int) (a0_1 : Int) (a0_2 : ByteArray) (a1_0 : Int) (a1_1 : Int) (a1_2 : ByteArray) (r : Bool) (w : World) (h : F0u.f a0_0 a0_1 a0_2 a1_0 a1_1 a1_2=some r) :
  Calls Tryz.prog 73 #[.agg #[.int .i64 a0_0,.int .i64 a0_1,.string a0_2],.agg #[.int .i64 a1_0,.int .i64 a1_1,.string a1_2]] w fun e w' => e = .returned (.bool r)∧Below w.heap.size w w':=by
 have hu49:=Tryz.underlying49;have HB:=zh (Below.refl w.heap.size w);have H : (if a0_0=a1_0 then (if a0_1=a1_1 then (if a0_2.toList=a1_2.toList then (some true) else (some false)) else (some false)) else (some false))=some r:=h;clear h
 by_cases c3 : a0_0=a1_0
 ·
  rw [if_pos c3] at H
  have c3b0 : (a0_0 == a1_0)=true:=ya.mpr c3;have c3b1 : (a0_0 != a1_0)=false:=zX.mpr c3;clear c3
  by_cases c4 : a0_1=a1_1
  ·
   rw [if_pos c4] at H
   have c4b0 : (a0_1 == a1_1)=true:=ya.mpr c4;have c4b1 : (a0_1 != a1_1)=false:=zX.mpr c4;clear c4
   by_cases c5 : a0_2.toList=a1_2.toList
   ·
    rw [if_pos c5] at H
    have c5b0 : (a0_2.toList == a1_2.toList)=true:=ya.mpr c5;have c5b1 : (a0_2.toList != a1_2.toList)=false:=zX.mpr c5;clear c5;obtain rfl:=zU H
    go_enter Tryz.func73,Tryz.ntmps73
    go_wp2_with (first|((with_reducible refine zK (N:=2) rfl ?_);refine zI ?hg (N:=2) ?hd (cs:=#[.int .i64 a0_0,.int .i64 a0_1,.string a0_2]) (t:=49) ?hr ?_;(case hd => rfl);(case hg => rfl);(case hr => first|(go_simp;done)|(go_simp;rfl));intro gb377 hg w6 hbox hb;have BK377:=zh (hbox);have GW377:=zh ((by rw [hg];exact (zB (by repeat (with_reducible first|exact HB.out|apply za|apply zb|apply zc))) : w.heap.size≤gb377));have GE377:=zh ((by rw [hg];exact (zB (by repeat (with_reducible first|exact HB.out|apply za|apply zb|apply zc))) : w.heap.size≤gb377));replace HB:=zh (zC (by repeat (with_reducible first|exact HB.out|apply za|apply zb|apply zc)) hb);clear hb hbox hg)|((with_reducible refine zK (N:=3) rfl ?_);refine zI ?hg (N:=3) ?hd (cs:=#[.int .i64 a1_0,.int .i64 a1_1,.string a1_2]) (t:=49) ?hr ?_;(case hd => rfl);(case hg => rfl);(case hr => first|(go_simp;done)|(go_simp;rfl));intro gb378 hg w7 hbox hb;have BK378:=zh (hbox);have GW378:=zh ((by rw [hg];exact (zB (by repeat (with_reducible first|exact HB.out|apply za|apply zb|apply zc|refine zd ?_ GE377.out))) : w.heap.size≤gb378));have GE378:=zh ((by rw [hg];exact (zB (by repeat (with_reducible first|exact HB.out|apply za|apply zb|apply zc|refine zd ?_ GE377.out))) : w.heap.size≤gb378));replace HB:=zh (zC (by repeat (with_reducible first|exact HB.out|apply za|apply zb|apply zc|refine zd ?_ GE377.out)) hb);have NB377_378:=zh ((by rw [hg];exact yc (yi (g:=gb377) (o:=.cells #[.int .i64 a0_0,.int .i64 a0_1,.string a0_2] 49 (0,0)) (by (with_reducible repeat (first|refine ze ?_ _|refine zf ?_|refine zg ?_ _));exact BK377.out)) : gb377≠gb378));have NB378_377:=zh ((by rw [hg];exact yd (yi (g:=gb377) (o:=.cells #[.int .i64 a0_0,.int .i64 a0_1,.string a0_2] 49 (0,0)) (by (with_reducible repeat (first|refine ze ?_ _|refine zf ?_|refine zg ?_ _));exact BK377.out)) : gb378≠gb377));replace BK377:=zh (zD (g:=gb377) (o:=.cells #[.int .i64 a0_0,.int .i64 a0_1,.string a0_2] 49 (0,0)) (by (with_reducible repeat (first|refine ze ?_ _|refine zf ?_|refine zg ?_ _));exact BK377.out) hb);clear hb hbox hg;have hnb8:=NB377_378.out;have hnc8:=NB378_377.out;have hcz9_0 : w7.cell? ⟨gb377,0,none⟩=some (.int .i64 a0_0):=(zz BK377.out 0).trans rfl;have hcz9_1 : w7.cell? ⟨gb377,1,none⟩=some (.int .i64 a0_1):=(zz BK377.out 1).trans rfl;have hcz9_2 : w7.cell? ⟨gb377,2,none⟩=some (.string a0_2):=(zz BK377.out 2).trans rfl;have hfz9_0:=zA BK377.out 0;have hfz9_1:=zA BK377.out 1;have hfz9_2:=zA BK377.out 2;have hcz10_0 : w7.cell? ⟨gb378,0,none⟩=some (.int .i64 a1_0):=(zz BK378.out 0).trans rfl;have hcz10_1 : w7.cell? ⟨gb378,1,none⟩=some (.int .i64 a1_1):=(zz BK378.out 1).trans rfl;have hcz10_2 : w7.cell? ⟨gb378,2,none⟩=some (.string a1_2):=(zz BK378.out 2).trans rfl;have hfz10_0:=zA BK378.out 0;have hfz10_1:=zA BK378.out 1;have hfz10_2:=zA BK378.out 2))
    go_ret
    exact ⟨by first|rfl|(simp [yt,yu] <;> rfl)|(simp [*,yt,yu] <;> rfl),by repeat (with_reducible first|exact HB.out|apply za|apply zb|apply zc|refine zd ?_ GE377.out|refine zd ?_ GE378.out)⟩
   rw [if_neg c5] at H;have c5b0 : (a0_2.toList == a1_2.toList)=false:=zY.mpr c5;have c5b1 : (a0_2.toList != a1_2.toList)=true:=zZ.mpr c5;obtain rfl:=zU H
   go_enter Tryz.func73,Tryz.ntmps73
   go_wp2_with (first|((with_reducible refine zK (N:=2) rfl ?_);refine zI ?hg (N:=2) ?hd (cs:=#[.int .i64 a0_0,.int .i64 a0_1,.string a0_2]) (t:=49) ?hr ?_;(case hd => rfl);(case hg => rfl);(case hr => first|(go_simp;done)|(go_simp;rfl));intro gb377 hg w11 hbox hb;have BK377:=zh (hbox);have GW377:=zh ((by rw [hg];exact (zB (by repeat (with_reducible first|exact HB.out|apply za|apply zb|apply zc))) : w.heap.size≤gb377));have GE377:=zh ((by rw [hg];exact (zB (by repeat (with_reducible first|exact HB.out|apply za|apply zb|apply zc))) : w.heap.size≤gb377));replace HB:=zh (zC (by repeat (with_reducible first|exact HB.out|apply za|apply zb|apply zc)) hb);clear hb hbox hg)|((with_reducible refine zK (N:=3) rfl ?_);refine zI ?hg (N:=3) ?hd (cs:=#[.int .i64 a1_0,.int .i64 a1_1,.string a1_2]) (t:=49) ?hr ?_;(case hd => rfl);(case hg => rfl);(case hr => first|(go_simp;done)|(go_simp;rfl));intro gb378 hg w12 hbox hb;have BK378:=zh (hbox);have GW378:=zh ((by rw [hg];exact (zB (by repeat (with_reducible first|exact HB.out|apply za|apply zb|apply zc|refine zd ?_ GE377.out))) : w.heap.size≤gb378));have GE378:=zh ((by rw [hg];exact (zB (by repeat (with_reducible first|exact HB.out|apply za|apply zb|apply zc|refine zd ?_ GE377.out))) : w.heap.size≤gb378));replace HB:=zh (zC (by repeat (with_reducible first|exact HB.out|apply za|apply zb|apply zc|refine zd ?_ GE377.out)) hb);have NB377_378:=zh ((by rw [hg];exact yc (yi (g:=gb377) (o:=.cells #[.int .i64 a0_0,.int .i64 a0_1,.string a0_2] 49 (0,0)) (by (with_reducible repeat (first|refine ze ?_ _|refine zf ?_|refine zg ?_ _));exact BK377.out)) : gb377≠gb378));have NB378_377:=zh ((by rw [hg];exact yd (yi (g:=gb377) (o:=.cells #[.int .i64 a0_0,.int .i64 a0_1,.string a0_2] 49 (0,0)) (by (with_reducible repeat (first|refine ze ?_ _|refine zf ?_|refine zg ?_ _));exact BK377.out)) : gb378≠gb377));replace BK377:=zh (zD (g:=gb377) (o:=.cells #[.int .i64 a0_0,.int .i64 a0_1,.string a0_2] 49 (0,0)) (by (with_reducible repeat (first|refine ze ?_ _|refine zf ?_|refine zg ?_ _));exact BK377.out) hb);clear hb hbox hg;have hnb13:=NB377_378.out;have hnc13:=NB378_377.out;have hcz14_0 : w12.cell? ⟨gb377,0,none⟩=some (.int .i64 a0_0):=(zz BK377.out 0).trans rfl;have hcz14_1 : w12.cell? ⟨gb377,1,none⟩=some (.int .i64 a0_1):=(zz BK377.out 1).trans rfl;have hcz14_2 : w12.cell? ⟨gb377,2,none⟩=some (.string a0_2):=(zz BK377.out 2).trans rfl;have hfz14_0:=zA BK377.out 0;have hfz14_1:=zA BK377.out 1;have hfz14_2:=zA BK377.out 2;have hcz15_0 : w12.cell? ⟨gb378,0,none⟩=some (.int .i64 a1_0):=(zz BK378.out 0).trans rfl;have hcz15_1 : w12.cell? ⟨gb378,1,none⟩=some (.int .i64 a1_1):=(zz BK378.out 1).trans rfl;have hcz15_2 : w12.cell? ⟨gb378,2,none⟩=some (.string a1_2):=(zz BK378.out 2).trans rfl;have hfz15_0:=zA BK378.out 0;have hfz15_1:=zA BK378.out 1;have hfz15_2:=zA BK378.out 2))
   go_ret
   exact ⟨by first|rfl|(simp [yt,yu] <;> rfl)|(simp [*,yt,yu] <;> rfl),by repeat (with_reducible first|exact HB.out|apply za|apply zb|apply zc|refine zd ?_ GE377.out|refine zd ?_ GE378.out)⟩
  rw [if_neg c4] at H;have c4b0 : (a0_1 == a1_1)=false:=zY.mpr c4;have c4b1 : (a0_1 != a1_1)=true:=zZ.mpr c4;obtain rfl:=zU H
  go_enter Tryz.func73,Tryz.ntmps73
  go_wp2_with (first|((with_reducible refine zK (N:=2) rfl ?_);refine zI ?hg (N:=2) ?hd (cs:=#[.int .i64 a0_0,.int .i64 a0_1,.string a0_2]) (t:=49) ?hr ?_;(case hd => rfl);(case hg => rfl);(case hr => first|(go_simp;done)|(go_simp;rfl));intro gb377 hg w16 hbox hb;have BK377:=zh (hbox);have GW377:=zh ((by rw [hg];exact (zB (by repeat (with_reducible first|exact HB.out|apply za|apply zb|apply zc))) : w.heap.size≤gb377));have GE377:=zh ((by rw [hg];exact (zB (by repeat (with_reducible first|exact HB.out|apply za|apply zb|apply zc))) : w.heap.size≤gb377));replace HB:=zh (zC (by repeat (with_reducible first|exact HB.out|apply za|apply zb|apply zc)) hb);clear hb hbox hg)|((with_reducible refine zK (N:=3) rfl ?_);refine zI ?hg (N:=3) ?hd (cs:=#[.int .i64 a1_0,.int .i64 a1_1,.string a1_2]) (t:=49) ?hr ?_;(case hd => rfl);(case hg => rfl);(case hr => first|(go_simp;done)|(go_simp;rfl));intro gb378 hg w17 hbox hb;have BK378:=zh (hbox);have GW378:=zh ((by rw [hg];exact (zB (by repeat (with_reducible first|exact HB.out|apply za|apply zb|apply zc|refine zd ?_ GE377.out))) : w.heap.size≤gb378));have GE378:=zh ((by rw [hg];exact (zB (by repeat (with_reducible first|exact HB.out|apply za|apply zb|apply zc|refine zd ?_ GE377.out))) : w.heap.size≤gb378));replace HB:=zh (zC (by repeat (with_reducible first|exact HB.out|apply za|apply zb|apply zc|refine zd ?_ GE377.out)) hb);have NB377_378:=zh ((by rw [hg];exact yc (yi (g:=gb377) (o:=.cells #[.int .i64 a0_0,.int .i64 a0_1,.string a0_2] 49 (0,0)) (by (with_reducible repeat (first|refine ze ?_ _|refine zf ?_|refine zg ?_ _));exact BK377.out)) : gb377≠gb378));have NB378_377:=zh ((by rw [hg];exact yd (yi (g:=gb377) (o:=.cells #[.int .i64 a0_0,.int .i64 a0_1,.string a0_2] 49 (0,0)) (by (with_reducible repeat (first|refine ze ?_ _|refine zf ?_|refine zg ?_ _));exact BK377.out)) : gb378≠gb377));replace BK377:=zh (zD (g:=gb377) (o:=.cells #[.int .i64 a0_0,.int .i64 a0_1,.string a0_2] 49 (0,0)) (by (with_reducible repeat (first|refine ze ?_ _|refine zf ?_|refine zg ?_ _));exact BK377.out) hb);clear hb hbox hg;have hnb18:=NB377_378.out;have hnc18:=NB378_377.out;have hcz19_0 : w17.cell? ⟨gb377,0,none⟩=some (.int .i64 a0_0):=(zz BK377.out 0).trans rfl;have hcz19_1 : w17.cell? ⟨gb377,1,none⟩=some (.int .i64 a0_1):=(zz BK377.out 1).trans rfl;have hcz19_2 : w17.cell? ⟨gb377,2,none⟩=some (.string a0_2):=(zz BK377.out 2).trans rfl;have hfz19_0:=zA BK377.out 0;have hfz19_1:=zA BK377.out 1;have hfz19_2:=zA BK377.out 2;have hcz20_0 : w17.cell? ⟨gb378,0,none⟩=some (.int .i64 a1_0):=(zz BK378.out 0).trans rfl;have hcz20_1 : w17.cell? ⟨gb378,1,none⟩=some (.int .i64 a1_1):=(zz BK378.out 1).trans rfl;have hcz20_2 : w17.cell? ⟨gb378,2,none⟩=some (.string a1_2):=(zz BK378.out 2).trans rfl;have hfz20_0:=zA BK378.out 0;have hfz20_1:=zA BK378.out 1;have hfz20_2:=zA BK378.out 2))
  go_ret
  exact ⟨by first|rfl|(simp [yt,yu] <;> rfl)|(simp [*,yt,yu] <;> rfl),by repeat (with_reducible first|exact HB.out|apply za|apply zb|apply zc|refine zd ?_ GE377.out|refine zd ?_ GE378.out)⟩
 rw [if_neg c3] at H;have c3b0 : (a0_0 == a1_0)=false:=zY.mpr c3;have c3b1 : (a0_0 != a1_0)=true:=zZ.mpr c3;obtain rfl:=zU H
 go_enter Tryz.func73,Tryz.ntmps73
 go_wp2_with (first|((with_reducible refine zK (N:=2) rfl ?_);refine zI ?hg (N:=2) ?hd (cs:=#[.int .i64 a0_0,.int .i64 a0_1,.string a0_2]) (t:=49) ?hr ?_;(case hd => rfl);(case hg => rfl);(case hr => first|(go_simp;done)|(go_simp;rfl));intro gb377 hg w21 hbox hb;have BK377:=zh (hbox);have GW377:=zh ((by rw [hg];exact (zB (by repeat (with_reducible first|exact HB.out|apply za|apply zb|apply zc))) : w.heap.size≤gb377));have GE377:=zh ((by rw [hg];exact (zB (by repeat (with_reducible first|exact HB.out|apply za|apply zb|apply zc))) : w.heap.size≤gb377));replace HB:=zh (zC (by repeat (with_reducible first|exact HB.out|apply za|apply zb|apply zc)) hb);clear hb hbox hg)|((with_reducible refine zK (N:=3) rfl ?_);refine zI ?hg (N:=3) ?hd (cs:=#[.int .i64 a1_0,.int .i64 a1_1,.string a1_2]) (t:=49) ?hr ?_;(case hd => rfl);(case hg => rfl);(case hr => first|(go_simp;done)|(go_simp;rfl));intro gb378 hg w22 hbox hb;have BK378:=zh (hbox);have GW378:=zh ((by rw [hg];exact (zB (by repeat (with_reducible first|exact HB.out|apply za|apply zb|apply zc|refine zd ?_ GE377.out))) : w.heap.size≤gb378));have GE378:=zh ((by rw [hg];exact (zB (by repeat (with_reducible first|exact HB.out|apply za|apply zb|apply zc|refine zd ?_ GE377.out))) : w.heap.size≤gb378));replace HB:=zh (zC (by repeat (with_reducible first|exact HB.out|apply za|apply zb|apply zc|refine zd ?_ GE377.out)) hb);have NB377_378:=zh ((by rw [hg];exact yc (yi (g:=gb377) (o:=.cells #[.int .i64 a0_0,.int .i64 a0_1,.string a0_2] 49 (0,0)) (by (with_reducible repeat (first|refine ze ?_ _|refine zf ?_|refine zg ?_ _));exact BK377.out)) : gb377≠gb378));have NB378_377:=zh ((by rw [hg];exact yd (yi (g:=gb377) (o:=.cells #[.int .i64 a0_0,.int .i64 a0_1,.string a0_2] 49 (0,0)) (by (with_reducible repeat (first|refine ze ?_ _|refine zf ?_|refine zg ?_ _));exact BK377.out)) : gb378≠gb377));replace BK377:=zh (zD (g:=gb377) (o:=.cells #[.int .i64 a0_0,.int .i64 a0_1,.string a0_2] 49 (0,0)) (by (with_reducible repeat (first|refine ze ?_ _|refine zf ?_|refine zg ?_ _));exact BK377.out) hb);clear hb hbox hg;have hnb23:=NB377_378.out;have hnc23:=NB378_377.out;have hcz24_0 : w22.cell? ⟨gb377,0,none⟩=some (.int .i64 a0_0):=(zz BK377.out 0).trans rfl;have hcz24_1 : w22.cell? ⟨gb377,1,none⟩=some (.int .i64 a0_1):=(zz BK377.out 1).trans rfl;have hcz24_2 : w22.cell? ⟨gb377,2,none⟩=some (.string a0_2):=(zz BK377.out 2).trans rfl;have hfz24_0:=zA BK377.out 0;have hfz24_1:=zA BK377.out 1;have hfz24_2:=zA BK377.out 2;have hcz25_0 : w22.cell? ⟨gb378,0,none⟩=some (.int .i64 a1_0):=(zz BK378.out 0).trans rfl;have hcz25_1 : w22.cell? ⟨gb378,1,none⟩=some (.int .i64 a1_1):=(zz BK378.out 1).trans rfl;have hcz25_2 : w22.cell? ⟨gb378,2,none⟩=some (.string a1_2):=(zz BK378.out 2).trans rfl;have hfz25_0:=zA BK378.out 0;have hfz25_1:=zA BK378.out 1;have hfz25_2:=zA BK378.out 2))
 go_ret
 exact ⟨by first|rfl|(simp [yt,yu] <;> rfl)|(simp [*,yt,yu] <;> rfl),by repeat (with_reducible first|exact HB.out|apply za|apply zb|apply zc|refine zd ?_ GE377.out|refine zd ?_ GE378.out)⟩


def F8.f (a0_0 : Int) (a0_1 : ByteArray) (a0_2 : Int) (a0_3 : Int) (a0_4 : ByteArray) (a1_0 : Int) (a1_1 : ByteArray) (a1_2 : Int) (a1_3 : Int) (a1_4 : ByteArray) : Option (Bool):=if a0_0=a1_0 then (if a0_1.toList=a1_1.toList then ((F0u.f a0_2 a0_3 a0_4 a1_2 a1_3 a1_4).bind fun t381 => (if t381=true then (some true) else (some false))) else (some false)) else (some false)
set_option maxHeartbeats 8000000 in
set_option maxRecDepth 100000 in
theorem F8.calls (a0_0 : Int) (a0_1 : ByteArray) (a0_2 : Int) (a0_3 : Int) (a0_4 : ByteArray) (a1_0 : Int) (a1_1 : ByteArray) (a1_2 : Int) (a1_3 : Int) (a1_4 : ByteArray) (r : Bool) (w : World) (h : F8.f a0_0 a0_1 a0_2 a0_3 a0_4 a1_0 a1_1 a1_2 a1_3 a1_4=some r) :
  Calls Tryz.prog 61 #[.agg #[.int .i64 a0_0,.string a0_1,.int .i64 a0_2,.int .i64 a0_3,.string a0_4],.agg #[.int .i64 a1_0,.string a1_1,.int .i64 a1_2,.int .i64 a1_3,.string a1_4]] w fun e w' => e = .returned (.bool r)∧Below w.heap.size w w':=by
 have hu51:=Tryz.underlying51;have hu49:=Tryz.underlying49;have HB:=zh (Below.refl w.heap.size w);have H : (if a0_0=a1_0 then (if a0_1.toList=a1_1.toList then ((F0u.f a0_2 a0_3 a0_4 a1_2 a1_3 a1_4).bind fun t381 => (if t381=true then (some true) else (some false))) else (some false)) else (some false))=some r:=h;clear h
 by_cases c3 : a0_0=a1_0
 ·
  rw [if_pos c3] at H
  have c3b0 : (a0_0 == a1_0)=true:=ya.mpr c3;have c3b1 : (a0_0 != a1_0)=false:=zX.mpr c3;clear c3
  by_cases c4 : a0_1.toList=a1_1.toList
  ·
   rw [if_pos c4] at H
   have c4b0 : (a0_1.toList == a1_1.toList)=true:=ya.mpr c4;have c4b1 : (a0_1.toList != a1_1.toList)=false:=zX.mpr c4;clear c4;replace H:=zT.mp H;obtain ⟨t381,A50,H⟩:=H;replace H : (if t381=true then (some true) else (some false))=some r:=H;have A5:=zh A50;clear A50
   by_cases c6 : t381=true
   ·
    subst c6
    have H1 : (some true)=some r:=by rw [if_pos rfl] at H;exact H
    clear H;have H:=H1;clear H1;obtain rfl:=zU H
    go_enter Tryz.func61,Tryz.ntmps61
    go_wp2_with (first|((with_reducible refine zK (N:=2) rfl ?_);refine zI ?hg (N:=2) ?hd (cs:=#[.int .i64 a0_0,.string a0_1,.int .i64 a0_2,.int .i64 a0_3,.string a0_4]) (t:=51) ?hr ?_;(case hd => rfl);(case hg => rfl);(case hr => first|(go_simp;done)|(go_simp;rfl));intro gb379 hg w7 hbox hb;have BK379:=zh (hbox);have GW379:=zh ((by rw [hg];exact (zB (by repeat (with_reducible first|exact HB.out|apply za|apply zb|apply zc))) : w.heap.size≤gb379));have GE379:=zh ((by rw [hg];exact (zB (by repeat (with_reducible first|exact HB.out|apply za|apply zb|apply zc))) : w.heap.size≤gb379));replace HB:=zh (zC (by repeat (with_reducible first|exact HB.out|apply za|apply zb|apply zc)) hb);clear hb hbox hg)|((with_reducible refine zK (N:=3) rfl ?_);refine zI ?hg (N:=3) ?hd (cs:=#[.int .i64 a1_0,.string a1_1,.int .i64 a1_2,.int .i64 a1_3,.string a1_4]) (t:=51) ?hr ?_;(case hd => rfl);(case hg => rfl);(case hr => first|(go_simp;done)|(go_simp;rfl));intro gb380 hg w8 hbox hb;have BK380:=zh (hbox);have GW380:=zh ((by rw [hg];exact (zB (by repeat (with_reducible first|exact HB.out|apply za|apply zb|apply zc|refine zd ?_ GE379.out))) : w.heap.size≤gb380));have GE380:=zh ((by rw [hg];exact (zB (by repeat (with_reducible first|exact HB.out|apply za|apply zb|apply zc|refine zd ?_ GE379.out))) : w.heap.size≤gb380));replace HB:=zh (zC (by repeat (with_reducible first|exact HB.out|apply za|apply zb|apply zc|refine zd ?_ GE379.out)) hb);have NB379_380:=zh ((by rw [hg];exact yc (yi (g:=gb379) (o:=.cells #[.int .i64 a0_0,.string a0_1,.int .i64 a0_2,.int .i64 a0_3,.string a0_4] 51 (0,0)) (by (with_reducible repeat (first|refine ze ?_ _|refine zf ?_|refine zg ?_ _));exact BK379.out)) : gb379≠gb380));have NB380_379:=zh ((by rw [hg];exact yd (yi (g:=gb379) (o:=.cells #[.int .i64 a0_0,.string a0_1,.int .i64 a0_2,.int .i64 a0_3,.string a0_4] 51 (0,0)) (by (with_reducible repeat (first|refine ze ?_ _|refine zf ?_|refine zg ?_ _));exact BK379.out)) : gb380≠gb379));replace BK379:=zh (zD (g:=gb379) (o:=.cells #[.int .i64 a0_0,.string a0_1,.int .i64 a0_2,.int .i64 a0_3,.string a0_4] 51 (0,0)) (by (with_reducible repeat (first|refine ze ?_ _|refine zf ?_|refine zg ?_ _));exact BK379.out) hb);clear hb hbox hg;have hnb9:=NB379_380.out;have hnc9:=NB380_379.out;have hcz10_0 : w8.cell? ⟨gb379,0,none⟩=some (.int .i64 a0_0):=(zz BK379.out 0).trans rfl;have hcz10_1 : w8.cell? ⟨gb379,1,none⟩=some (.string a0_1):=(zz BK379.out 1).trans rfl;have hcz10_2 : w8.cell? ⟨gb379,2,none⟩=some (.int .i64 a0_2):=(zz BK379.out 2).trans rfl;have hcz10_3 : w8.cell? ⟨gb379,3,none⟩=some (.int .i64 a0_3):=(zz BK379.out 3).trans rfl;have hcz10_4 : w8.cell? ⟨gb379,4,none⟩=some (.string a0_4):=(zz BK379.out 4).trans rfl;have hfz10_0:=zA BK379.out 0;have hfz10_1:=zA BK379.out 1;have hfz10_2:=zA BK379.out 2;have hfz10_3:=zA BK379.out 3;have hfz10_4:=zA BK379.out 4;have hcz11_0 : w8.cell? ⟨gb380,0,none⟩=some (.int .i64 a1_0):=(zz BK380.out 0).trans rfl;have hcz11_1 : w8.cell? ⟨gb380,1,none⟩=some (.string a1_1):=(zz BK380.out 1).trans rfl;have hcz11_2 : w8.cell? ⟨gb380,2,none⟩=some (.int .i64 a1_2):=(zz BK380.out 2).trans rfl;have hcz11_3 : w8.cell? ⟨gb380,3,none⟩=some (.int .i64 a1_3):=(zz BK380.out 3).trans rfl;have hcz11_4 : w8.cell? ⟨gb380,4,none⟩=some (.string a1_4):=(zz BK380.out 4).trans rfl;have hfz11_0:=zA BK380.out 0;have hfz11_1:=zA BK380.out 1;have hfz11_2:=zA BK380.out 2;have hfz11_3:=zA BK380.out 3;have hfz11_4:=zA BK380.out 4)|((with_reducible refine zJ (f:=73) rfl ?_);refine yj (some 19) rfl rfl Tryz.func73 (by kernel_rfl) rfl #[.agg #[.int .i64 a0_2,.int .i64 a0_3,.string a0_4],.agg #[.int .i64 a1_2,.int .i64 a1_3,.string a1_4]] rfl (by (try simp only [zt,zu,zv]);first|done|rfl|(simp only [zw,zx];rfl)|(simp only [yr,ys,zV,zW];rfl)) ?_;(with_reducible refine (F0u.calls  a0_2 a0_3 a0_4 a1_2 a1_3 a1_4 true _ A5.out).mono ?_);rintro e w12 ⟨rfl,hb⟩;refine ⟨_,rfl,?_⟩;replace BK379:=zh (zD (g:=gb379) (o:=.cells #[.int .i64 a0_0,.string a0_1,.int .i64 a0_2,.int .i64 a0_3,.string a0_4] 51 (0,0)) (by (with_reducible repeat (first|refine ze ?_ _|refine zf ?_|refine zg ?_ _));exact BK379.out) hb);replace BK380:=zh (zD (g:=gb380) (o:=.cells #[.int .i64 a1_0,.string a1_1,.int .i64 a1_2,.int .i64 a1_3,.string a1_4] 51 (0,0)) (by (with_reducible repeat (first|refine ze ?_ _|refine zf ?_|refine zg ?_ _));exact BK380.out) hb);replace HB:=zh (zC (by repeat (with_reducible first|exact HB.out|apply za|apply zb|apply zc|refine zd ?_ GE379.out|refine zd ?_ GE380.out)) hb);(try clear hb);(try clear hb2);(try clear hk);(try clear hi)))
    go_ret
    exact ⟨by first|rfl|(simp [yt,yu] <;> rfl)|(simp [*,yt,yu] <;> rfl),by repeat (with_reducible first|exact HB.out|apply za|apply zb|apply zc|refine zd ?_ GE379.out|refine zd ?_ GE380.out)⟩
   replace c6:=yb.mpr c6;subst c6;have H1 : (some false)=some r:=by rw [if_neg (show ¬ (false=true) by decide)] at H;exact H
   clear H;have H:=H1;clear H1;obtain rfl:=zU H
   go_enter Tryz.func61,Tryz.ntmps61
   go_wp2_with (first|((with_reducible refine zK (N:=2) rfl ?_);refine zI ?hg (N:=2) ?hd (cs:=#[.int .i64 a0_0,.string a0_1,.int .i64 a0_2,.int .i64 a0_3,.string a0_4]) (t:=51) ?hr ?_;(case hd => rfl);(case hg => rfl);(case hr => first|(go_simp;done)|(go_simp;rfl));intro gb379 hg w13 hbox hb;have BK379:=zh (hbox);have GW379:=zh ((by rw [hg];exact (zB (by repeat (with_reducible first|exact HB.out|apply za|apply zb|apply zc))) : w.heap.size≤gb379));have GE379:=zh ((by rw [hg];exact (zB (by repeat (with_reducible first|exact HB.out|apply za|apply zb|apply zc))) : w.heap.size≤gb379));replace HB:=zh (zC (by repeat (with_reducible first|exact HB.out|apply za|apply zb|apply zc)) hb);clear hb hbox hg)|((with_reducible refine zK (N:=3) rfl ?_);refine zI ?hg (N:=3) ?hd (cs:=#[.int .i64 a1_0,.string a1_1,.int .i64 a1_2,.int .i64 a1_3,.string a1_4]) (t:=51) ?hr ?_;(case hd => rfl);(case hg => rfl);(case hr => first|(go_simp;done)|(go_simp;rfl));intro gb380 hg w14 hbox hb;have BK380:=zh (hbox);have GW380:=zh ((by rw [hg];exact (zB (by repeat (with_reducible first|exact HB.out|apply za|apply zb|apply zc|refine zd ?_ GE379.out))) : w.heap.size≤gb380));have GE380:=zh ((by rw [hg];exact (zB (by repeat (with_reducible first|exact HB.out|apply za|apply zb|apply zc|refine zd ?_ GE379.out))) : w.heap.size≤gb380));replace HB:=zh (zC (by repeat (with_reducible first|exact HB.out|apply za|apply zb|apply zc|refine zd ?_ GE379.out)) hb);have NB379_380:=zh ((by rw [hg];exact yc (yi (g:=gb379) (o:=.cells #[.int .i64 a0_0,.string a0_1,.int .i64 a0_2,.int .i64 a0_3,.string a0_4] 51 (0,0)) (by (with_reducible repeat (first|refine ze ?_ _|refine zf ?_|refine zg ?_ _));exact BK379.out)) : gb379≠gb380));have NB380_379:=zh ((by rw [hg];exact yd (yi (g:=gb379) (o:=.cells #[.int .i64 a0_0,.string a0_1,.int .i64 a0_2,.int .i64 a0_3,.string a0_4] 51 (0,0)) (by (with_reducible repeat (first|refine ze ?_ _|refine zf ?_|refine zg ?_ _));exact BK379.out)) : gb380≠gb379));replace BK379:=zh (zD (g:=gb379) (o:=.cells #[.int .i64 a0_0,.string a0_1,.int .i64 a0_2,.int .i64 a0_3,.string a0_4] 51 (0,0)) (by (with_reducible repeat (first|refine ze ?_ _|refine zf ?_|refine zg ?_ _));exact BK379.out) hb);clear hb hbox hg;have hnb15:=NB379_380.out;have hnc15:=NB380_379.out;have hcz16_0 : w14.cell? ⟨gb379,0,none⟩=some (.int .i64 a0_0):=(zz BK379.out 0).trans rfl;have hcz16_1 : w14.cell? ⟨gb379,1,none⟩=some (.string a0_1):=(zz BK379.out 1).trans rfl;have hcz16_2 : w14.cell? ⟨gb379,2,none⟩=some (.int .i64 a0_2):=(zz BK379.out 2).trans rfl;have hcz16_3 : w14.cell? ⟨gb379,3,none⟩=some (.int .i64 a0_3):=(zz BK379.out 3).trans rfl;have hcz16_4 : w14.cell? ⟨gb379,4,none⟩=some (.string a0_4):=(zz BK379.out 4).trans rfl;have hfz16_0:=zA BK379.out 0;have hfz16_1:=zA BK379.out 1;have hfz16_2:=zA BK379.out 2;have hfz16_3:=zA BK379.out 3;have hfz16_4:=zA BK379.out 4;have hcz17_0 : w14.cell? ⟨gb380,0,none⟩=some (.int .i64 a1_0):=(zz BK380.out 0).trans rfl;have hcz17_1 : w14.cell? ⟨gb380,1,none⟩=some (.string a1_1):=(zz BK380.out 1).trans rfl;have hcz17_2 : w14.cell? ⟨gb380,2,none⟩=some (.int .i64 a1_2):=(zz BK380.out 2).trans rfl;have hcz17_3 : w14.cell? ⟨gb380,3,none⟩=some (.int .i64 a1_3):=(zz BK380.out 3).trans rfl;have hcz17_4 : w14.cell? ⟨gb380,4,none⟩=some (.string a1_4):=(zz BK380.out 4).trans rfl;have hfz17_0:=zA BK380.out 0;have hfz17_1:=zA BK380.out 1;have hfz17_2:=zA BK380.out 2;have hfz17_3:=zA BK380.out 3;have hfz17_4:=zA BK380.out 4)|((with_reducible refine zJ (f:=73) rfl ?_);refine yj (some 19) rfl rfl Tryz.func73 (by kernel_rfl) rfl #[.agg #[.int .i64 a0_2,.int .i64 a0_3,.string a0_4],.agg #[.int .i64 a1_2,.int .i64 a1_3,.string a1_4]] rfl (by (try simp only [zt,zu,zv]);first|done|rfl|(simp only [zw,zx];rfl)|(simp only [yr,ys,zV,zW];rfl)) ?_;(with_reducible refine (F0u.calls  a0_2 a0_3 a0_4 a1_2 a1_3 a1_4 false _ A5.out).mono ?_);rintro e w18 ⟨rfl,hb⟩;refine ⟨_,rfl,?_⟩;replace BK379:=zh (zD (g:=gb379) (o:=.cells #[.int .i64 a0_0,.string a0_1,.int .i64 a0_2,.int .i64 a0_3,.string a0_4] 51 (0,0)) (by (with_reducible repeat (first|refine ze ?_ _|refine zf ?_|refine zg ?_ _));exact BK379.out) hb);replace BK380:=zh (zD (g:=gb380) (o:=.cells #[.int .i64 a1_0,.string a1_1,.int .i64 a1_2,.int .i64 a1_3,.string a1_4] 51 (0,0)) (by (with_reducible repeat (first|refine ze ?_ _|refine zf ?_|refine zg ?_ _));exact BK380.out) hb);replace HB:=zh (zC (by repeat (with_reducible first|exact HB.out|apply za|apply zb|apply zc|refine zd ?_ GE379.out|refine zd ?_ GE380.out)) hb);(try clear hb);(try clear hb2);(try clear hk);(try clear hi)))
   go_ret
   exact ⟨by first|rfl|(simp [yt,yu] <;> rfl)|(simp [*,yt,yu] <;> rfl),by repeat (with_reducible first|exact HB.out|apply za|apply zb|apply zc|refine zd ?_ GE379.out|refine zd ?_ GE380.out)⟩
  rw [if_neg c4] at H;have c4b0 : (a0_1.toList == a1_1.toList)=false:=zY.mpr c4;have c4b1 : (a0_1.toList != a1_1.toList)=true:=zZ.mpr c4;obtain rfl:=zU H
  go_enter Tryz.func61,Tryz.ntmps61
  go_wp2_with (first|((with_reducible refine zK (N:=2) rfl ?_);refine zI ?hg (N:=2) ?hd (cs:=#[.int .i64 a0_0,.string a0_1,.int .i64 a0_2,.int .i64 a0_3,.string a0_4]) (t:=51) ?hr ?_;(case hd => rfl);(case hg => rfl);(case hr => first|(go_simp;done)|(go_simp;rfl));intro gb379 hg w19 hbox hb;have BK379:=zh (hbox);have GW379:=zh ((by rw [hg];exact (zB (by repeat (with_reducible first|exact HB.out|apply za|apply zb|apply zc))) : w.heap.size≤gb379));have GE379:=zh ((by rw [hg];exact (zB (by repeat (with_reducible first|exact HB.out|apply za|apply zb|apply zc))) : w.heap.size≤gb379));replace HB:=zh (zC (by repeat (with_reducible first|exact HB.out|apply za|apply zb|apply zc)) hb);clear hb hbox hg)|((with_reducible refine zK (N:=3) rfl ?_);refine zI ?hg (N:=3) ?hd (cs:=#[.int .i64 a1_0,.string a1_1,.int .i64 a1_2,.int .i64 a1_3,.string a1_4]) (t:=51) ?hr ?_;(case hd => rfl);(case hg => rfl);(case hr => first|(go_simp;done)|(go_simp;rfl));intro gb380 hg w20 hbox hb;have BK380:=zh (hbox);have GW380:=zh ((by rw [hg];exact (zB (by repeat (with_reducible first|exact HB.out|apply za|apply zb|apply zc|refine zd ?_ GE379.out))) : w.heap.size≤gb380));have GE380:=zh ((by rw [hg];exact (zB (by repeat (with_reducible first|exact HB.out|apply za|apply zb|apply zc|refine zd ?_ GE379.out))) : w.heap.size≤gb380));replace HB:=zh (zC (by repeat (with_reducible first|exact HB.out|apply za|apply zb|apply zc|refine zd ?_ GE379.out)) hb);have NB379_380:=zh ((by rw [hg];exact yc (yi (g:=gb379) (o:=.cells #[.int .i64 a0_0,.string a0_1,.int .i64 a0_2,.int .i64 a0_3,.string a0_4] 51 (0,0)) (by (with_reducible repeat (first|refine ze ?_ _|refine zf ?_|refine zg ?_ _));exact BK379.out)) : gb379≠gb380));have NB380_379:=zh ((by rw [hg];exact yd (yi (g:=gb379) (o:=.cells #[.int .i64 a0_0,.string a0_1,.int .i64 a0_2,.int .i64 a0_3,.string a0_4] 51 (0,0)) (by (with_reducible repeat (first|refine ze ?_ _|refine zf ?_|refine zg ?_ _));exact BK379.out)) : gb380≠gb379));replace BK379:=zh (zD (g:=gb379) (o:=.cells #[.int .i64 a0_0,.string a0_1,.int .i64 a0_2,.int .i64 a0_3,.string a0_4] 51 (0,0)) (by (with_reducible repeat (first|refine ze ?_ _|refine zf ?_|refine zg ?_ _));exact BK379.out) hb);clear hb hbox hg;have hnb21:=NB379_380.out;have hnc21:=NB380_379.out;have hcz22_0 : w20.cell? ⟨gb379,0,none⟩=some (.int .i64 a0_0):=(zz BK379.out 0).trans rfl;have hcz22_1 : w20.cell? ⟨gb379,1,none⟩=some (.string a0_1):=(zz BK379.out 1).trans rfl;have hcz22_2 : w20.cell? ⟨gb379,2,none⟩=some (.int .i64 a0_2):=(zz BK379.out 2).trans rfl;have hcz22_3 : w20.cell? ⟨gb379,3,none⟩=some (.int .i64 a0_3):=(zz BK379.out 3).trans rfl;have hcz22_4 : w20.cell? ⟨gb379,4,none⟩=some (.string a0_4):=(zz BK379.out 4).trans rfl;have hfz22_0:=zA BK379.out 0;have hfz22_1:=zA BK379.out 1;have hfz22_2:=zA BK379.out 2;have hfz22_3:=zA BK379.out 3;have hfz22_4:=zA BK379.out 4;have hcz23_0 : w20.cell? ⟨gb380,0,none⟩=some (.int .i64 a1_0):=(zz BK380.out 0).trans rfl;have hcz23_1 : w20.cell? ⟨gb380,1,none⟩=some (.string a1_1):=(zz BK380.out 1).trans rfl;have hcz23_2 : w20.cell? ⟨gb380,2,none⟩=some (.int .i64 a1_2):=(zz BK380.out 2).trans rfl;have hcz23_3 : w20.cell? ⟨gb380,3,none⟩=some (.int .i64 a1_3):=(zz BK380.out 3).trans rfl;have hcz23_4 : w20.cell? ⟨gb380,4,none⟩=some (.string a1_4):=(zz BK380.out 4).trans rfl;have hfz23_0:=zA BK380.out 0;have hfz23_1:=zA BK380.out 1;have hfz23_2:=zA BK380.out 2;have hfz23_3:=zA BK380.out 3;have hfz23_4:=zA BK380.out 4))
  go_ret
  exact ⟨by first|rfl|(simp [yt,yu] <;> rfl)|(simp [*,yt,yu] <;> rfl),by repeat (with_reducible first|exact HB.out|apply za|apply zb|apply zc|refine zd ?_ GE379.out|refine zd ?_ GE380.out)⟩
 rw [if_neg c3] at H;have c3b0 : (a0_0 == a1_0)=false:=zY.mpr c3;have c3b1 : (a0_0 != a1_0)=true:=zZ.mpr c3;obtain rfl:=zU H
 go_enter Tryz.func61,Tryz.ntmps61
 go_wp2_with (first|((with_reducible refine zK (N:=2) rfl ?_);refine zI ?hg (N:=2) ?hd (cs:=#[.int .i64 a0_0,.string a0_1,.int .i64 a0_2,.int .i64 a0_3,.string a0_4]) (t:=51) ?hr ?_;(case hd => rfl);(case hg => rfl);(case hr => first|(go_simp;done)|(go_simp;rfl));intro gb379 hg w24 hbox hb;have BK379:=zh (hbox);have GW379:=zh ((by rw [hg];exact (zB (by repeat (with_reducible first|exact HB.out|apply za|apply zb|apply zc))) : w.heap.size≤gb379));have GE379:=zh ((by rw [hg];exact (zB (by repeat (with_reducible first|exact HB.out|apply za|apply zb|apply zc))) : w.heap.size≤gb379));replace HB:=zh (zC (by repeat (with_reducible first|exact HB.out|apply za|apply zb|apply zc)) hb);clear hb hbox hg)|((with_reducible refine zK (N:=3) rfl ?_);refine zI ?hg (N:=3) ?hd (cs:=#[.int .i64 a1_0,.string a1_1,.int .i64 a1_2,.int .i64 a1_3,.string a1_4]) (t:=51) ?hr ?_;(case hd => rfl);(case hg => rfl);(case hr => first|(go_simp;done)|(go_simp;rfl));intro gb380 hg w25 hbox hb;have BK380:=zh (hbox);have GW380:=zh ((by rw [hg];exact (zB (by repeat (with_reducible first|exact HB.out|apply za|apply zb|apply zc|refine zd ?_ GE379.out))) : w.heap.size≤gb380));have GE380:=zh ((by rw [hg];exact (zB (by repeat (with_reducible first|exact HB.out|apply za|apply zb|apply zc|refine zd ?_ GE379.out))) : w.heap.size≤gb380));replace HB:=zh (zC (by repeat (with_reducible first|exact HB.out|apply za|apply zb|apply zc|refine zd ?_ GE379.out)) hb);have NB379_380:=zh ((by rw [hg];exact yc (yi (g:=gb379) (o:=.cells #[.int .i64 a0_0,.string a0_1,.int .i64 a0_2,.int .i64 a0_3,.string a0_4] 51 (0,0)) (by (with_reducible repeat (first|refine ze ?_ _|refine zf ?_|refine zg ?_ _));exact BK379.out)) : gb379≠gb380));have NB380_379:=zh ((by rw [hg];exact yd (yi (g:=gb379) (o:=.cells #[.int .i64 a0_0,.string a0_1,.int .i64 a0_2,.int .i64 a0_3,.string a0_4] 51 (0,0)) (by (with_reducible repeat (first|refine ze ?_ _|refine zf ?_|refine zg ?_ _));exact BK379.out)) : gb380≠gb379));replace BK379:=zh (zD (g:=gb379) (o:=.cells #[.int .i64 a0_0,.string a0_1,.int .i64 a0_2,.int .i64 a0_3,.string a0_4] 51 (0,0)) (by (with_reducible repeat (first|refine ze ?_ _|refine zf ?_|refine zg ?_ _));exact BK379.out) hb);clear hb hbox hg;have hnb26:=NB379_380.out;have hnc26:=NB380_379.out;have hcz27_0 : w25.cell? ⟨gb379,0,none⟩=some (.int .i64 a0_0):=(zz BK379.out 0).trans rfl;have hcz27_1 : w25.cell? ⟨gb379,1,none⟩=some (.string a0_1):=(zz BK379.out 1).trans rfl;have hcz27_2 : w25.cell? ⟨gb379,2,none⟩=some (.int .i64 a0_2):=(zz BK379.out 2).trans rfl;have hcz27_3 : w25.cell? ⟨gb379,3,none⟩=some (.int .i64 a0_3):=(zz BK379.out 3).trans rfl;have hcz27_4 : w25.cell? ⟨gb379,4,none⟩=some (.string a0_4):=(zz BK379.out 4).trans rfl;have hfz27_0:=zA BK379.out 0;have hfz27_1:=zA BK379.out 1;have hfz27_2:=zA BK379.out 2;have hfz27_3:=zA BK379.out 3;have hfz27_4:=zA BK379.out 4;have hcz28_0 : w25.cell? ⟨gb380,0,none⟩=some (.int .i64 a1_0):=(zz BK380.out 0).trans rfl;have hcz28_1 : w25.cell? ⟨gb380,1,none⟩=some (.string a1_1):=(zz BK380.out 1).trans rfl;have hcz28_2 : w25.cell? ⟨gb380,2,none⟩=some (.int .i64 a1_2):=(zz BK380.out 2).trans rfl;have hcz28_3 : w25.cell? ⟨gb380,3,none⟩=some (.int .i64 a1_3):=(zz BK380.out 3).trans rfl;have hcz28_4 : w25.cell? ⟨gb380,4,none⟩=some (.string a1_4):=(zz BK380.out 4).trans rfl;have hfz28_0:=zA BK380.out 0;have hfz28_1:=zA BK380.out 1;have hfz28_2:=zA BK380.out 2;have hfz28_3:=zA BK380.out 3;have hfz28_4:=zA BK380.out 4))
 go_ret
 exact ⟨by first|rfl|(simp [yt,yu] <;> rfl)|(simp [*,yt,yu] <;> rfl),by repeat (with_reducible first|exact HB.out|apply za|apply zb|apply zc|refine zd ?_ GE379.out|refine zd ?_ GE380.out)⟩


def Fi.l0 : Nat→List (S51)→List (S51)→Int→Option (Bool)
 | 0,_,_,_ => none
 | k + 1,x0,x1,x5 => if x5<(x0.length : Int) then (if 0≤x5 then (if x5<(x1.length : Int) then ((F8.f ((rd_T51 x0 x5).f0) ((rd_T51 x0 x5).f1) ((rd_T51 x0 x5).f2.f0) ((rd_T51 x0 x5).f2.f1) ((rd_T51 x0 x5).f2.f2) ((rd_T51 x1 x5).f0) ((rd_T51 x1 x5).f1) ((rd_T51 x1 x5).f2.f0) ((rd_T51 x1 x5).f2.f1) ((rd_T51 x1 x5).f2.f2)).bind fun t384 => (if t384=true then (Fi.l0 k x0 x1 (wrap64 (x5 + 1))) else (some false))) else (none)) else (none)) else (some true)
def Fi.f (k : Nat) (l0 : List (S51)) (l1 : List (S51)) : Option (Bool):=if (l0.length : Int)=(l1.length : Int) then (Fi.l0 k l0 l1 0) else (some false)
theorem Fi.mono_l : ∀ k,(∀ y0 y1 y2,LeO (Fi.l0 k y0 y1 y2) (Fi.l0 (k + 1) y0 y1 y2))
 | 0 => fun _ _ _ r h => by simp [Fi.l0] at h
 | k + 1 => by
  have ih0:=Fi.mono_l k;intro y0 y1 y2;unfold Fi.l0
  repeat' first|(with_reducible first|exact ih0 _ _ _|exact zQ _|exact zN _|refine zP ?_ ?_|refine zO ?_ (fun _ => ?_))|refine zP ?_ ?_|refine zO ?_ (fun _ => ?_)
theorem Fi.mono : ∀ a0 a1 k,LeO (Fi.f k a0 a1) (Fi.f (k + 1) a0 a1):=by
 intro a0 a1 k;have ih0:=Fi.mono_l k;unfold Fi.f
 repeat' first|(with_reducible first|exact ih0 _ _ _|exact zQ _|exact zN _|refine zP ?_ ?_|refine zO ?_ (fun _ => ?_))|refine zP ?_ ?_|refine zO ?_ (fun _ => ?_)
def Fi.T6 : Bool×List (List Nat×List Nat):=(true,[([],[]),([],[]),([0,1],[0,1]),([2],[2]),([],[]),([],[]),([4,5],[4,5]),([6],[6]),([3,7],[3,7]),([8],[8])])
def Fi.B6 : List Nat:=[0,0,3,7,0,0,48,112,255,511]
theorem Fi.tab6 : rtab .any (opsOf Tryz.f47 6)=Fi.T6:=by kernel_rfl
theorem Fi.bits6 : waitsOk Fi.T6.2 Fi.B6=true:=by kernel_rfl
set_option maxHeartbeats 8000000 in
set_option maxRecDepth 100000 in
theorem Fi.calls (k : Nat) (A0 : Option Addr) (c0 : Nat) (l0 : List (S51)) (A1 : Option Addr) (c1 : Nat) (l1 : List (S51)) (r : Bool) (w : World) (hr0 : Kd.C k51 w A0 l0.length l0) (hc0 : l0.length≤c0) (hr1 : Kd.C k51 w A1 l1.length l1) (hc1 : l1.length≤c1) (h : Fi.f k l0 l1=some r) :
  Calls Tryz.prog 47 #[.slice A0 l0.length c0,.slice A1 l1.length c1] w fun e w' => e = .returned (.bool r)∧Below w.heap.size w w':=by
 have hu51:=Tryz.underlying51;have HR0:=zh hr0;have HC0:=zh hc0;clear hr0 hc0;have HR1:=zh hr1;have HC1:=zh hc1;clear hr1 hc1;have HB:=zh (Below.refl w.heap.size w);have H : (if (l0.length : Int)=(l1.length : Int) then (Fi.l0 k l0 l1 0) else (some false))=some r:=h;clear h
 by_cases c3 : (l0.length : Int)=(l1.length : Int)
 ·
  rw [if_pos c3] at H
  have c3b0 : ((l0.length : Int) == (l1.length : Int))=true:=ya.mpr c3;have c3b1 : ((l0.length : Int) != (l1.length : Int))=false:=zX.mpr c3;have c3b2 : (l0.length == l1.length)=true:=by first|simpa using c3|(simp at c3 ⊢;omega)
  clear c3;have H':=zh H;clear H
  go_enter Tryz.func47,Tryz.ntmps47
  go_wp2
  go_loopg [5] k (fun kq v5 w' => ∃ (x5_1 : Int),v5 = .int .i64 x5_1∧Aside0 (Fi.l0 kq l0 l1 x5_1=some r)∧Aside0 (kq≤k)∧Aside0 (Below w.heap.size w w'))
  case atStart => exact ⟨(0),(by first|rfl|(simp;done)|(simp [*];done)),H',⟨ye _⟩,⟨by repeat (with_reducible first|exact HB.out|apply za|apply zb|apply zc)⟩⟩
  case round =>
   clear H'
   try clear c1
   try clear p2
   try clear c3
   try clear c3b0
   try clear c3b1
   try clear c3b2
   obtain ⟨x5_1,rfl,HA,HK1,HB⟩:=hrel
   cases gk with
   | zero => exact absurd HA.out (by simp [Fi.l0])
   | succ k1 =>
    have H:=HA.out;clear HA;simp only [Fi.l0] at H
    by_cases c4 : x5_1<(l0.length : Int)
    ·
     rw [if_pos c4] at H
     have c4b0 : decide (x5_1<(l0.length : Int))=true:=decide_eq_true c4;clear c4
     by_cases c5 : 0≤x5_1
     ·
      rw [if_pos c5] at H
      have c5b0 : decide (0≤x5_1)=true:=decide_eq_true c5;clear c5
      by_cases c6 : x5_1<(l1.length : Int)
      ·
       rw [if_pos c6] at H
       have c6b0 : decide (x5_1<(l1.length : Int))=true:=decide_eq_true c6;clear c6;replace H:=zT.mp H;obtain ⟨t384,A70,H⟩:=H;replace H : (if t384=true then (Fi.l0 k1 l0 l1 (wrap64 (x5_1 + 1))) else (some false))=some r:=H;have A7:=zh A70;clear A70
       by_cases c8 : t384=true
       ·
        subst c8
        have H1 : (Fi.l0 k1 l0 l1 (wrap64 (x5_1 + 1)))=some r:=by rw [if_pos rfl] at H;exact H
        clear H;have H:=H1;clear H1;have H':=zh H;clear H
        try go_wp2
        replace HB:=zh (zc HB.out);have p382 : 0≤(x5_1 : Int):=zy (by first|(with_reducible assumption)|assumption);have q382 : x5_1<(l0.length : Int):=zy (by first|(with_reducible assumption)|assumption);obtain ⟨ad382,e382,hx382_0,hx382_1,hx382_2,hx382_3,hx382_4⟩:=at_T51 HR0.out x5_1 p382 q382;have hw382_4:=hx382_4;have hw382_3:=hx382_3;have hw382_2:=hx382_2;have hw382_1:=hx382_1;have hw382_0:=hx382_0
        cases e382
        replace hx382_0:=(HB.out.cell (zl w _ hx382_0)).trans hx382_0;replace hx382_1:=(HB.out.cell (zl w _ hx382_1)).trans hx382_1;replace hx382_2:=(HB.out.cell (zl w _ hx382_2)).trans hx382_2;replace hx382_3:=(HB.out.cell (zl w _ hx382_3)).trans hx382_3;replace hx382_4:=(HB.out.cell (zl w _ hx382_4)).trans hx382_4;replace p382:=eq_true p382;replace q382:=eq_true q382;have p383 : 0≤(x5_1 : Int):=zy (by first|(with_reducible assumption)|assumption);have q383 : x5_1<(l1.length : Int):=zy (by first|(with_reducible assumption)|assumption);obtain ⟨ad383,e383,hx383_0,hx383_1,hx383_2,hx383_3,hx383_4⟩:=at_T51 HR1.out x5_1 p383 q383;have hw383_4:=hx383_4;have hw383_3:=hx383_3;have hw383_2:=hx383_2;have hw383_1:=hx383_1;have hw383_0:=hx383_0
        cases e383
        replace hx383_0:=(HB.out.cell (zl w _ hx383_0)).trans hx383_0;replace hx383_1:=(HB.out.cell (zl w _ hx383_1)).trans hx383_1;replace hx383_2:=(HB.out.cell (zl w _ hx383_2)).trans hx383_2;replace hx383_3:=(HB.out.cell (zl w _ hx383_3)).trans hx383_3;replace hx383_4:=(HB.out.cell (zl w _ hx383_4)).trans hx383_4;replace p383:=eq_true p383;replace q383:=eq_true q383;refine start_ (n:=10) (S:=fun w' => w'.cell? (ad382.add ((x5_1).toNat * 5))=some (.int .i64 ((rd_T51 l0 x5_1).f0))∧w'.cell? ⟨(ad382.add ((x5_1).toNat * 5)).block,(ad382.add ((x5_1).toNat * 5)).off + 1,none⟩=some (.string ((rd_T51 l0 x5_1).f1))∧w'.cell? ⟨(ad382.add ((x5_1).toNat * 5)).block,(ad382.add ((x5_1).toNat * 5)).off + 2,none⟩=some (.int .i64 ((rd_T51 l0 x5_1).f2.f0))∧w'.cell? ⟨(ad382.add ((x5_1).toNat * 5)).block,(ad382.add ((x5_1).toNat * 5)).off + 3,none⟩=some (.int .i64 ((rd_T51 l0 x5_1).f2.f1))∧w'.cell? ⟨(ad382.add ((x5_1).toNat * 5)).block,(ad382.add ((x5_1).toNat * 5)).off + 4,none⟩=some (.string ((rd_T51 l0 x5_1).f2.f2))∧w'.cell? (ad383.add ((x5_1).toNat * 5))=some (.int .i64 ((rd_T51 l1 x5_1).f0))∧w'.cell? ⟨(ad383.add ((x5_1).toNat * 5)).block,(ad383.add ((x5_1).toNat * 5)).off + 1,none⟩=some (.string ((rd_T51 l1 x5_1).f1))∧w'.cell? ⟨(ad383.add ((x5_1).toNat * 5)).block,(ad383.add ((x5_1).toNat * 5)).off + 2,none⟩=some (.int .i64 ((rd_T51 l1 x5_1).f2.f0))∧w'.cell? ⟨(ad383.add ((x5_1).toNat * 5)).block,(ad383.add ((x5_1).toNat * 5)).off + 3,none⟩=some (.int .i64 ((rd_T51 l1 x5_1).f2.f1))∧w'.cell? ⟨(ad383.add ((x5_1).toNat * 5)).block,(ad383.add ((x5_1).toNat * 5)).off + 4,none⟩=some (.string ((rd_T51 l1 x5_1).f2.f2))) (ds:=[]) (bm_ 0 10) (by kernel_rfl) rfl rfl ⟨((HB.out.cell (zl w _ hw382_0)).trans hw382_0),((HB.out.cell (zl w _ hw382_1)).trans hw382_1),((HB.out.cell (zl w _ hw382_2)).trans hw382_2),((HB.out.cell (zl w _ hw382_3)).trans hw382_3),((HB.out.cell (zl w _ hw382_4)).trans hw382_4),((HB.out.cell (zl w _ hw383_0)).trans hw383_0),((HB.out.cell (zl w _ hw383_1)).trans hw383_1),((HB.out.cell (zl w _ hw383_2)).trans hw383_2),((HB.out.cell (zl w _ hw383_3)).trans hw383_3),((HB.out.cell (zl w _ hw383_4)).trans hw383_4)⟩ (fun hHeld => ?_);refine with_tabW Fi.tab6 Fi.bits6 (fun HT_ HW_ => ?_);generalize wr.drew=w9 at HB hx382_0 hx382_1 hx382_2 hx382_3 hx382_4 hx383_0 hx383_1 hx383_2 hx383_3 hx383_4 hHeld ⊢;refine pure_ (i:=0) (N:=some 17) (v:=?_) (a':=?_) (bm_ 1 10) rfl rfl (any_of HT_.out (by kernel_rfl)) (fun _ _ _ h => h) (Or.inl ⟨by rfl,?_⟩) ?_ ?_;rotate_left
        ·
         intro w'
         go_simp
         with_reducible rfl
        rotate_left
        ·
         simp only [Act.put,zi,zj,zk,zG,zH]
         rfl
        refine pure_ (i:=1) (N:=some 18) (v:=?_) (a':=?_) (bm_ 2 10) rfl rfl (any_of HT_.out (by kernel_rfl)) (fun _ _ _ h => h) (Or.inl ⟨by rfl,?_⟩) ?_ ?_;rotate_left
        ·
         intro w'
         go_simp
         with_reducible rfl
        rotate_left
        ·
         simp only [Act.put,zi,zj,zk,zG,zH]
         rfl
        refine pure_ (i:=2) (N:=some 19) (v:=?_) (a':=?_) (bm_ 3 10) rfl rfl (any_of HT_.out (by kernel_rfl)) (fun _ _ _ h => h) (Or.inl ⟨by rfl,?_⟩) ?_ ?_;rotate_left
        ·
         intro w'
         go_simp
         with_reducible rfl
        rotate_left
        ·
         simp only [Act.put,zi,zj,zk,zG,zH]
         rfl
        refine pure_ (i:=4) (N:=some 21) (v:=?_) (a':=?_) #[true,true,true,false,true,false,false,false,false,false] rfl rfl (any_of HT_.out (by kernel_rfl)) (fun _ _ _ h => h) (Or.inl ⟨by rfl,?_⟩) ?_ ?_;rotate_left
        ·
         intro w'
         go_simp
         with_reducible rfl
        rotate_left
        ·
         simp only [Act.put,zi,zj,zk,zG,zH]
         rfl
        refine pure_ (i:=5) (N:=some 22) (v:=?_) (a':=?_) #[true,true,true,false,true,true,false,false,false,false] rfl rfl (any_of HT_.out (by kernel_rfl)) (fun _ _ _ h => h) (Or.inl ⟨by rfl,?_⟩) ?_ ?_;rotate_left
        ·
         intro w'
         go_simp
         with_reducible rfl
        rotate_left
        ·
         simp only [Act.put,zi,zj,zk,zG,zH]
         rfl
        refine pure_ (i:=6) (N:=some 23) (v:=?_) (a':=?_) #[true,true,true,false,true,true,true,false,false,false] rfl rfl (any_of HT_.out (by kernel_rfl)) (fun _ _ _ h => h) (Or.inl ⟨by rfl,?_⟩) ?_ ?_;rotate_left
        ·
         intro w'
         go_simp
         with_reducible rfl
        rotate_left
        ·
         simp only [Act.put,zi,zj,zk,zG,zH]
         rfl
        refine take_ (i:=3) (N:=some 20) (v:=?_) (a':=?_) (bm_ 7 10) rfl rfl (yo HT_.out HW_.out (by kernel_rfl)) (fun _ _ _ h => h) (Or.inl ⟨by rfl,?_⟩) hHeld ?_ ?_;rotate_left
        ·
         rintro w' ⟨s0,s1,s2,s3,s4,s5,s6,s7,s8,s9⟩
         go_simp
         with_reducible rfl
        rotate_left
        ·
         simp only [Act.put,zi,zj,zk,zG,zH]
         rfl
        refine take_ (i:=7) (N:=some 24) (v:=?_) (a':=?_) (bm_ 8 10) rfl rfl (yo HT_.out HW_.out (by kernel_rfl)) (fun _ _ _ h => h) (Or.inl ⟨by rfl,?_⟩) hHeld ?_ ?_;rotate_left
        ·
         rintro w' ⟨s0,s1,s2,s3,s4,s5,s6,s7,s8,s9⟩
         go_simp
         with_reducible rfl
        rotate_left
        ·
         simp only [Act.put,zi,zj,zk,zG,zH]
         rfl
        refine one_ (i:=8) (N:=some 25) (bm_ 9 10) rfl rfl (one_of HT_.out (by kernel_rfl)) (by decide) (fun K hK => ?_);refine goes_ Tryz.func61 (by kernel_rfl) rfl #[.agg #[.int .i64 ((rd_T51 l0 x5_1).f0),.string ((rd_T51 l0 x5_1).f1),.int .i64 ((rd_T51 l0 x5_1).f2.f0),.int .i64 ((rd_T51 l0 x5_1).f2.f1),.string ((rd_T51 l0 x5_1).f2.f2)],.agg #[.int .i64 ((rd_T51 l1 x5_1).f0),.string ((rd_T51 l1 x5_1).f1),.int .i64 ((rd_T51 l1 x5_1).f2.f0),.int .i64 ((rd_T51 l1 x5_1).f2.f1),.string ((rd_T51 l1 x5_1).f2.f2)]] (by rfl) rfl rfl (by (try simp only [zt,zu,zv]);first|done|rfl|(simp only [zw,zx];rfl)|(simp only [yr,ys,zV,zW];rfl)) ?_
        with_reducible refine (F8.calls  ((rd_T51 l0 x5_1).f0) ((rd_T51 l0 x5_1).f1) ((rd_T51 l0 x5_1).f2.f0) ((rd_T51 l0 x5_1).f2.f1) ((rd_T51 l0 x5_1).f2.f2) ((rd_T51 l1 x5_1).f0) ((rd_T51 l1 x5_1).f1) ((rd_T51 l1 x5_1).f2.f0) ((rd_T51 l1 x5_1).f2.f1) ((rd_T51 l1 x5_1).f2.f2) true _ A7.out).mono ?_
        rintro e w10 ⟨rfl,hb⟩;refine ⟨_,rfl,?_⟩;replace HB:=zh (zC (by repeat (with_reducible first|exact HB.out|apply za|apply zb|apply zc)) hb);(try clear hb);(try clear hb2);(try clear hk);(try clear hi);refine hK.out _ _ ⟨((HB.out.cell (zl w _ hw382_0)).trans hw382_0),((HB.out.cell (zl w _ hw382_1)).trans hw382_1),((HB.out.cell (zl w _ hw382_2)).trans hw382_2),((HB.out.cell (zl w _ hw382_3)).trans hw382_3),((HB.out.cell (zl w _ hw382_4)).trans hw382_4),((HB.out.cell (zl w _ hw383_0)).trans hw383_0),((HB.out.cell (zl w _ hw383_1)).trans hw383_1),((HB.out.cell (zl w _ hw383_2)).trans hw383_2),((HB.out.cell (zl w _ hw383_3)).trans hw383_3),((HB.out.cell (zl w _ hw383_4)).trans hw383_4)⟩ (fun hHeld => ?_);clear hK K;refine norm_ (a':=?_) ?_ ?_;rotate_left
        ·
         show Act.put _ (some 25) _=_
         simp only [Act.put,zi,zj,zk,zG,zH]
         rfl
        refine pure_ (i:=9) (N:=some 26) (v:=?_) (a':=?_) (bm_ 10 10) rfl rfl (any_of HT_.out (by kernel_rfl)) (fun _ _ _ h => h) (Or.inl ⟨by rfl,?_⟩) ?_ ?_;rotate_left
        ·
         intro w'
         go_simp
         with_reducible rfl
        rotate_left
        ·
         simp only [Act.put,zi,zj,zk,zG,zH]
         rfl
        refine done_ (done_of HT_.out (by kernel_rfl)) ?_
        try go_wp2
        go_roundg k1
        case measure => have:=HK1.out;omega
        case rel => exact ⟨(wrap64 (x5_1 + 1)),(by first|rfl|(simp;done)|(simp [*];done)),H',⟨by have:=HK1.out;omega⟩,⟨by repeat (with_reducible first|exact HB.out|apply za|apply zb|apply zc)⟩⟩
       replace c8:=yb.mpr c8;subst c8;have H1 : (some false)=some r:=by rw [if_neg (show ¬ (false=true) by decide)] at H;exact H
       clear H;have H:=H1;clear H1;obtain rfl:=zU H
       try go_wp2
       replace HB:=zh (zc HB.out);have p382 : 0≤(x5_1 : Int):=zy (by first|(with_reducible assumption)|assumption);have q382 : x5_1<(l0.length : Int):=zy (by first|(with_reducible assumption)|assumption);obtain ⟨ad382,e382,hx382_0,hx382_1,hx382_2,hx382_3,hx382_4⟩:=at_T51 HR0.out x5_1 p382 q382;have hw382_4:=hx382_4;have hw382_3:=hx382_3;have hw382_2:=hx382_2;have hw382_1:=hx382_1;have hw382_0:=hx382_0
       cases e382
       replace hx382_0:=(HB.out.cell (zl w _ hx382_0)).trans hx382_0;replace hx382_1:=(HB.out.cell (zl w _ hx382_1)).trans hx382_1;replace hx382_2:=(HB.out.cell (zl w _ hx382_2)).trans hx382_2;replace hx382_3:=(HB.out.cell (zl w _ hx382_3)).trans hx382_3;replace hx382_4:=(HB.out.cell (zl w _ hx382_4)).trans hx382_4;replace p382:=eq_true p382;replace q382:=eq_true q382;have p383 : 0≤(x5_1 : Int):=zy (by first|(with_reducible assumption)|assumption);have q383 : x5_1<(l1.length : Int):=zy (by first|(with_reducible assumption)|assumption);obtain ⟨ad383,e383,hx383_0,hx383_1,hx383_2,hx383_3,hx383_4⟩:=at_T51 HR1.out x5_1 p383 q383;have hw383_4:=hx383_4;have hw383_3:=hx383_3;have hw383_2:=hx383_2;have hw383_1:=hx383_1;have hw383_0:=hx383_0
       cases e383
       replace hx383_0:=(HB.out.cell (zl w _ hx383_0)).trans hx383_0;replace hx383_1:=(HB.out.cell (zl w _ hx383_1)).trans hx383_1;replace hx383_2:=(HB.out.cell (zl w _ hx383_2)).trans hx383_2;replace hx383_3:=(HB.out.cell (zl w _ hx383_3)).trans hx383_3;replace hx383_4:=(HB.out.cell (zl w _ hx383_4)).trans hx383_4;replace p383:=eq_true p383;replace q383:=eq_true q383;refine start_ (n:=10) (S:=fun w' => w'.cell? (ad382.add ((x5_1).toNat * 5))=some (.int .i64 ((rd_T51 l0 x5_1).f0))∧w'.cell? ⟨(ad382.add ((x5_1).toNat * 5)).block,(ad382.add ((x5_1).toNat * 5)).off + 1,none⟩=some (.string ((rd_T51 l0 x5_1).f1))∧w'.cell? ⟨(ad382.add ((x5_1).toNat * 5)).block,(ad382.add ((x5_1).toNat * 5)).off + 2,none⟩=some (.int .i64 ((rd_T51 l0 x5_1).f2.f0))∧w'.cell? ⟨(ad382.add ((x5_1).toNat * 5)).block,(ad382.add ((x5_1).toNat * 5)).off + 3,none⟩=some (.int .i64 ((rd_T51 l0 x5_1).f2.f1))∧w'.cell? ⟨(ad382.add ((x5_1).toNat * 5)).block,(ad382.add ((x5_1).toNat * 5)).off + 4,none⟩=some (.string ((rd_T51 l0 x5_1).f2.f2))∧w'.cell? (ad383.add ((x5_1).toNat * 5))=some (.int .i64 ((rd_T51 l1 x5_1).f0))∧w'.cell? ⟨(ad383.add ((x5_1).toNat * 5)).block,(ad383.add ((x5_1).toNat * 5)).off + 1,none⟩=some (.string ((rd_T51 l1 x5_1).f1))∧w'.cell? ⟨(ad383.add ((x5_1).toNat * 5)).block,(ad383.add ((x5_1).toNat * 5)).off + 2,none⟩=some (.int .i64 ((rd_T51 l1 x5_1).f2.f0))∧w'.cell? ⟨(ad383.add ((x5_1).toNat * 5)).block,(ad383.add ((x5_1).toNat * 5)).off + 3,none⟩=some (.int .i64 ((rd_T51 l1 x5_1).f2.f1))∧w'.cell? ⟨(ad383.add ((x5_1).toNat * 5)).block,(ad383.add ((x5_1).toNat * 5)).off + 4,none⟩=some (.string ((rd_T51 l1 x5_1).f2.f2))) (ds:=[]) (bm_ 0 10) (by kernel_rfl) rfl rfl ⟨((HB.out.cell (zl w _ hw382_0)).trans hw382_0),((HB.out.cell (zl w _ hw382_1)).trans hw382_1),((HB.out.cell (zl w _ hw382_2)).trans hw382_2),((HB.out.cell (zl w _ hw382_3)).trans hw382_3),((HB.out.cell (zl w _ hw382_4)).trans hw382_4),((HB.out.cell (zl w _ hw383_0)).trans hw383_0),((HB.out.cell (zl w _ hw383_1)).trans hw383_1),((HB.out.cell (zl w _ hw383_2)).trans hw383_2),((HB.out.cell (zl w _ hw383_3)).trans hw383_3),((HB.out.cell (zl w _ hw383_4)).trans hw383_4)⟩ (fun hHeld => ?_);refine with_tabW Fi.tab6 Fi.bits6 (fun HT_ HW_ => ?_);generalize wr.drew=w11 at HB hx382_0 hx382_1 hx382_2 hx382_3 hx382_4 hx383_0 hx383_1 hx383_2 hx383_3 hx383_4 hHeld ⊢;refine pure_ (i:=0) (N:=some 17) (v:=?_) (a':=?_) (bm_ 1 10) rfl rfl (any_of HT_.out (by kernel_rfl)) (fun _ _ _ h => h) (Or.inl ⟨by rfl,?_⟩) ?_ ?_;rotate_left
       ·
        intro w'
        go_simp
        with_reducible rfl
       rotate_left
       ·
        simp only [Act.put,zi,zj,zk,zG,zH]
        rfl
       refine pure_ (i:=1) (N:=some 18) (v:=?_) (a':=?_) (bm_ 2 10) rfl rfl (any_of HT_.out (by kernel_rfl)) (fun _ _ _ h => h) (Or.inl ⟨by rfl,?_⟩) ?_ ?_;rotate_left
       ·
        intro w'
        go_simp
        with_reducible rfl
       rotate_left
       ·
        simp only [Act.put,zi,zj,zk,zG,zH]
        rfl
       refine pure_ (i:=2) (N:=some 19) (v:=?_) (a':=?_) (bm_ 3 10) rfl rfl (any_of HT_.out (by kernel_rfl)) (fun _ _ _ h => h) (Or.inl ⟨by rfl,?_⟩) ?_ ?_;rotate_left
       ·
        intro w'
        go_simp
        with_reducible rfl
       rotate_left
       ·
        simp only [Act.put,zi,zj,zk,zG,zH]
        rfl
       refine pure_ (i:=4) (N:=some 21) (v:=?_) (a':=?_) #[true,true,true,false,true,false,false,false,false,false] rfl rfl (any_of HT_.out (by kernel_rfl)) (fun _ _ _ h => h) (Or.inl ⟨by rfl,?_⟩) ?_ ?_;rotate_left
       ·
        intro w'
        go_simp
        with_reducible rfl
       rotate_left
       ·
        simp only [Act.put,zi,zj,zk,zG,zH]
        rfl
       refine pure_ (i:=5) (N:=some 22) (v:=?_) (a':=?_) #[true,true,true,false,true,true,false,false,false,false] rfl rfl (any_of HT_.out (by kernel_rfl)) (fun _ _ _ h => h) (Or.inl ⟨by rfl,?_⟩) ?_ ?_;rotate_left
       ·
        intro w'
        go_simp
        with_reducible rfl
       rotate_left
       ·
        simp only [Act.put,zi,zj,zk,zG,zH]
        rfl
       refine pure_ (i:=6) (N:=some 23) (v:=?_) (a':=?_) #[true,true,true,false,true,true,true,false,false,false] rfl rfl (any_of HT_.out (by kernel_rfl)) (fun _ _ _ h => h) (Or.inl ⟨by rfl,?_⟩) ?_ ?_;rotate_left
       ·
        intro w'
        go_simp
        with_reducible rfl
       rotate_left
       ·
        simp only [Act.put,zi,zj,zk,zG,zH]
        rfl
       refine take_ (i:=3) (N:=some 20) (v:=?_) (a':=?_) (bm_ 7 10) rfl rfl (yo HT_.out HW_.out (by kernel_rfl)) (fun _ _ _ h => h) (Or.inl ⟨by rfl,?_⟩) hHeld ?_ ?_;rotate_left
       ·
        rintro w' ⟨s0,s1,s2,s3,s4,s5,s6,s7,s8,s9⟩
        go_simp
        with_reducible rfl
       rotate_left
       ·
        simp only [Act.put,zi,zj,zk,zG,zH]
        rfl
       refine take_ (i:=7) (N:=some 24) (v:=?_) (a':=?_) (bm_ 8 10) rfl rfl (yo HT_.out HW_.out (by kernel_rfl)) (fun _ _ _ h => h) (Or.inl ⟨by rfl,?_⟩) hHeld ?_ ?_;rotate_left
       ·
        rintro w' ⟨s0,s1,s2,s3,s4,s5,s6,s7,s8,s9⟩
        go_simp
        with_reducible rfl
       rotate_left
       ·
        simp only [Act.put,zi,zj,zk,zG,zH]
        rfl
       refine one_ (i:=8) (N:=some 25) (bm_ 9 10) rfl rfl (one_of HT_.out (by kernel_rfl)) (by decide) (fun K hK => ?_);refine goes_ Tryz.func61 (by kernel_rfl) rfl #[.agg #[.int .i64 ((rd_T51 l0 x5_1).f0),.string ((rd_T51 l0 x5_1).f1),.int .i64 ((rd_T51 l0 x5_1).f2.f0),.int .i64 ((rd_T51 l0 x5_1).f2.f1),.string ((rd_T51 l0 x5_1).f2.f2)],.agg #[.int .i64 ((rd_T51 l1 x5_1).f0),.string ((rd_T51 l1 x5_1).f1),.int .i64 ((rd_T51 l1 x5_1).f2.f0),.int .i64 ((rd_T51 l1 x5_1).f2.f1),.string ((rd_T51 l1 x5_1).f2.f2)]] (by rfl) rfl rfl (by (try simp only [zt,zu,zv]);first|done|rfl|(simp only [zw,zx];rfl)|(simp only [yr,ys,zV,zW];rfl)) ?_
       with_reducible refine (F8.calls  ((rd_T51 l0 x5_1).f0) ((rd_T51 l0 x5_1).f1) ((rd_T51 l0 x5_1).f2.f0) ((rd_T51 l0 x5_1).f2.f1) ((rd_T51 l0 x5_1).f2.f2) ((rd_T51 l1 x5_1).f0) ((rd_T51 l1 x5_1).f1) ((rd_T51 l1 x5_1).f2.f0) ((rd_T51 l1 x5_1).f2.f1) ((rd_T51 l1 x5_1).f2.f2) false _ A7.out).mono ?_
       rintro e w12 ⟨rfl,hb⟩;refine ⟨_,rfl,?_⟩;replace HB:=zh (zC (by repeat (with_reducible first|exact HB.out|apply za|apply zb|apply zc)) hb);(try clear hb);(try clear hb2);(try clear hk);(try clear hi);refine hK.out _ _ ⟨((HB.out.cell (zl w _ hw382_0)).trans hw382_0),((HB.out.cell (zl w _ hw382_1)).trans hw382_1),((HB.out.cell (zl w _ hw382_2)).trans hw382_2),((HB.out.cell (zl w _ hw382_3)).trans hw382_3),((HB.out.cell (zl w _ hw382_4)).trans hw382_4),((HB.out.cell (zl w _ hw383_0)).trans hw383_0),((HB.out.cell (zl w _ hw383_1)).trans hw383_1),((HB.out.cell (zl w _ hw383_2)).trans hw383_2),((HB.out.cell (zl w _ hw383_3)).trans hw383_3),((HB.out.cell (zl w _ hw383_4)).trans hw383_4)⟩ (fun hHeld => ?_);clear hK K;refine norm_ (a':=?_) ?_ ?_;rotate_left
       ·
        show Act.put _ (some 25) _=_
        simp only [Act.put,zi,zj,zk,zG,zH]
        rfl
       refine pure_ (i:=9) (N:=some 26) (v:=?_) (a':=?_) (bm_ 10 10) rfl rfl (any_of HT_.out (by kernel_rfl)) (fun _ _ _ h => h) (Or.inl ⟨by rfl,?_⟩) ?_ ?_;rotate_left
       ·
        intro w'
        go_simp
        with_reducible rfl
       rotate_left
       ·
        simp only [Act.put,zi,zj,zk,zG,zH]
        rfl
       refine done_ (done_of HT_.out (by kernel_rfl)) ?_
       try go_wp2
       go_ret
       exact ⟨by first|rfl|(simp [yt,yu] <;> rfl)|(simp [*,yt,yu] <;> rfl),by repeat (with_reducible first|exact HB.out|apply za|apply zb|apply zc)⟩
      rw [if_neg c6] at H;exact absurd H (by simp)
     rw [if_neg c5] at H;exact absurd H (by simp)
    rw [if_neg c4] at H;have c4b0 : decide (x5_1<(l0.length : Int))=false:=decide_eq_false c4;clear c4;obtain rfl:=zU H
    go_wp2
    go_ret
    exact ⟨by first|rfl|(simp [yt,yu] <;> rfl)|(simp [*,yt,yu] <;> rfl),by repeat (with_reducible first|exact HB.out|apply za|apply zb|apply zc)⟩
 rw [if_neg c3] at H;have c3b0 : ((l0.length : Int) == (l1.length : Int))=false:=zY.mpr c3;have c3b1 : ((l0.length : Int) != (l1.length : Int))=true:=zZ.mpr c3;have c3b2 : (l0.length == l1.length)=false:=by first|simpa using c3|(simp at c3 ⊢;omega)
 obtain rfl:=zU H
 go_enter Tryz.func47,Tryz.ntmps47
 go_wp2
 go_ret
 exact ⟨by first|rfl|(simp [yt,yu] <;> rfl)|(simp [*,yt,yu] <;> rfl),by repeat (with_reducible first|exact HB.out|apply za|apply zb|apply zc)⟩


def F6.f (k : Nat) (l0_0 : List (S51)) (l1_0 : List (S51)) : Option (Bool):=(Fi.f k l0_0 l1_0).bind fun t387 => (if t387=true then (some true) else (some false))
theorem F6.mono : ∀ a0 a1 k,LeO (F6.f k a0 a1) (F6.f (k + 1) a0 a1):=by
 intro a0 a1 k;unfold F6.f
 repeat' first|(with_reducible first|exact Fi.mono _ _ _|exact zQ _|exact zN _|refine zP ?_ ?_|refine zO ?_ (fun _ => ?_))|refine zP ?_ ?_|refine zO ?_ (fun _ => ?_)
set_option maxHeartbeats 8000000 in
set_option maxRecDepth 100000 in
theorem F6.calls (k : Nat) (A0_0 : Option Addr) (c0_0 : Nat) (l0_0 : List (S51)) (A1_0 : Option Addr) (c1_0 : Nat) (l1_0 : List (S51)) (r : Bool) (w : World) (hr0_0 : Kd.C k51 w A0_0 l0_0.length l0_0) (hc0_0 : l0_0.length≤c0_0) (hr1_0 : Kd.C k51 w A1_0 l1_0.length l1_0) (hc1_0 : l1_0.length≤c1_0) (h : F6.f k l0_0 l1_0=some r) :
  Calls Tryz.prog 36 #[.agg #[.slice A0_0 l0_0.length c0_0],.agg #[.slice A1_0 l1_0.length c1_0]] w fun e w' => e = .returned (.bool r)∧Below w.heap.size w w':=by
 have hu46:=Tryz.underlying46;have HR0_0:=zh hr0_0;have HC0_0:=zh hc0_0;clear hr0_0 hc0_0;have HR1_0:=zh hr1_0;have HC1_0:=zh hc1_0;clear hr1_0 hc1_0;have HB:=zh (Below.refl w.heap.size w);have H : ((Fi.f k l0_0 l1_0).bind fun t387 => (if t387=true then (some true) else (some false)))=some r:=h;clear h;replace H:=zT.mp H;obtain ⟨t387,A30,H⟩:=H;replace H : (if t387=true then (some true) else (some false))=some r:=H;have A3:=zh A30;clear A30
 by_cases c4 : t387=true
 ·
  subst c4
  have H1 : (some true)=some r:=by rw [if_pos rfl] at H;exact H
  clear H;have H:=H1;clear H1;obtain rfl:=zU H
  go_enter Tryz.func36,Tryz.ntmps36
  go_wp2_with (first|((with_reducible refine zK (N:=2) rfl ?_);refine zI ?hg (N:=2) ?hd (cs:=#[.slice A0_0 l0_0.length c0_0]) (t:=46) ?hr ?_;(case hd => rfl);(case hg => rfl);(case hr => first|(go_simp;done)|(go_simp;rfl));intro gb385 hg w5 hbox hb;have BK385:=zh (hbox);have GW385:=zh ((by rw [hg];exact (zB (by repeat (with_reducible first|exact HB.out|apply za|apply zb|apply zc))) : w.heap.size≤gb385));have GE385:=zh ((by rw [hg];exact (zB (by repeat (with_reducible first|exact HB.out|apply za|apply zb|apply zc))) : w.heap.size≤gb385));replace HB:=zh (zC (by repeat (with_reducible first|exact HB.out|apply za|apply zb|apply zc)) hb);clear hb hbox hg)|((with_reducible refine zK (N:=3) rfl ?_);refine zI ?hg (N:=3) ?hd (cs:=#[.slice A1_0 l1_0.length c1_0]) (t:=46) ?hr ?_;(case hd => rfl);(case hg => rfl);(case hr => first|(go_simp;done)|(go_simp;rfl));intro gb386 hg w6 hbox hb;have BK386:=zh (hbox);have GW386:=zh ((by rw [hg];exact (zB (by repeat (with_reducible first|exact HB.out|apply za|apply zb|apply zc|refine zd ?_ GE385.out))) : w.heap.size≤gb386));have GE386:=zh ((by rw [hg];exact (zB (by repeat (with_reducible first|exact HB.out|apply za|apply zb|apply zc|refine zd ?_ GE385.out))) : w.heap.size≤gb386));replace HB:=zh (zC (by repeat (with_reducible first|exact HB.out|apply za|apply zb|apply zc|refine zd ?_ GE385.out)) hb);have NB385_386:=zh ((by rw [hg];exact yc (yi (g:=gb385) (o:=.cells #[.slice A0_0 l0_0.length c0_0] 46 (0,0)) (by (with_reducible repeat (first|refine ze ?_ _|refine zf ?_|refine zg ?_ _));exact BK385.out)) : gb385≠gb386));have NB386_385:=zh ((by rw [hg];exact yd (yi (g:=gb385) (o:=.cells #[.slice A0_0 l0_0.length c0_0] 46 (0,0)) (by (with_reducible repeat (first|refine ze ?_ _|refine zf ?_|refine zg ?_ _));exact BK385.out)) : gb386≠gb385));replace BK385:=zh (zD (g:=gb385) (o:=.cells #[.slice A0_0 l0_0.length c0_0] 46 (0,0)) (by (with_reducible repeat (first|refine ze ?_ _|refine zf ?_|refine zg ?_ _));exact BK385.out) hb);clear hb hbox hg;have hnb7:=NB385_386.out;have hnc7:=NB386_385.out;have hcz8_0 : w6.cell? ⟨gb385,0,none⟩=some (.slice A0_0 l0_0.length c0_0):=(zz BK385.out 0).trans rfl;have hfz8_0:=zA BK385.out 0;have hcz9_0 : w6.cell? ⟨gb386,0,none⟩=some (.slice A1_0 l1_0.length c1_0):=(zz BK386.out 0).trans rfl;have hfz9_0:=zA BK386.out 0)|((with_reducible refine zJ (f:=47) rfl ?_);refine yj (some 9) rfl rfl Tryz.func47 (by kernel_rfl) rfl #[.slice A0_0 l0_0.length c0_0,.slice A1_0 l1_0.length c1_0] rfl (by (try simp only [zt,zu,zv]);first|done|rfl|(simp only [zw,zx];rfl)|(simp only [yr,ys,zV,zW];rfl)) ?_;(with_reducible refine (Fi.calls k  _ _ l0_0 _ _ l1_0 true _ ?side1 ?side2 ?side3 ?side4 A3.out).mono ?_);(case side1 => repeat (first|exact (Kd.C_below HR0_0.out HB.out)|(with_reducible refine Kd.C_alloc ?_ _)|(with_reducible refine Kd.C_drewN ?_ _)|(with_reducible refine Kd.C_drew ?_)));(case side2 => exact HC0_0.out);(case side3 => repeat (first|exact (Kd.C_below HR1_0.out HB.out)|(with_reducible refine Kd.C_alloc ?_ _)|(with_reducible refine Kd.C_drewN ?_ _)|(with_reducible refine Kd.C_drew ?_)));(case side4 => exact HC1_0.out);rintro e w10 ⟨rfl,hb⟩;refine ⟨_,rfl,?_⟩;replace BK385:=zh (zD (g:=gb385) (o:=.cells #[.slice A0_0 l0_0.length c0_0] 46 (0,0)) (by (with_reducible repeat (first|refine ze ?_ _|refine zf ?_|refine zg ?_ _));exact BK385.out) hb);replace BK386:=zh (zD (g:=gb386) (o:=.cells #[.slice A1_0 l1_0.length c1_0] 46 (0,0)) (by (with_reducible repeat (first|refine ze ?_ _|refine zf ?_|refine zg ?_ _));exact BK386.out) hb);replace HB:=zh (zC (by repeat (with_reducible first|exact HB.out|apply za|apply zb|apply zc|refine zd ?_ GE385.out|refine zd ?_ GE386.out)) hb);(try clear hb);(try clear hb2);(try clear hk);(try clear hi)))
  go_ret
  exact ⟨by first|rfl|(simp [yt,yu] <;> rfl)|(simp [*,yt,yu] <;> rfl),by repeat (with_reducible first|exact HB.out|apply za|apply zb|apply zc|refine zd ?_ GE385.out|refine zd ?_ GE386.out)⟩
 replace c4:=yb.mpr c4;subst c4;have H1 : (some false)=some r:=by rw [if_neg (show ¬ (false=true) by decide)] at H;exact H
 clear H;have H:=H1;clear H1;obtain rfl:=zU H
 go_enter Tryz.func36,Tryz.ntmps36
 go_wp2_with (first|((with_reducible refine zK (N:=2) rfl ?_);refine zI ?hg (N:=2) ?hd (cs:=#[.slice A0_0 l0_0.length c0_0]) (t:=46) ?hr ?_;(case hd => rfl);(case hg => rfl);(case hr => first|(go_simp;done)|(go_simp;rfl));intro gb385 hg w11 hbox hb;have BK385:=zh (hbox);have GW385:=zh ((by rw [hg];exact (zB (by repeat (with_reducible first|exact HB.out|apply za|apply zb|apply zc))) : w.heap.size≤gb385));have GE385:=zh ((by rw [hg];exact (zB (by repeat (with_reducible first|exact HB.out|apply za|apply zb|apply zc))) : w.heap.size≤gb385));replace HB:=zh (zC (by repeat (with_reducible first|exact HB.out|apply za|apply zb|apply zc)) hb);clear hb hbox hg)|((with_reducible refine zK (N:=3) rfl ?_);refine zI ?hg (N:=3) ?hd (cs:=#[.slice A1_0 l1_0.length c1_0]) (t:=46) ?hr ?_;(case hd => rfl);(case hg => rfl);(case hr => first|(go_simp;done)|(go_simp;rfl));intro gb386 hg w12 hbox hb;have BK386:=zh (hbox);have GW386:=zh ((by rw [hg];exact (zB (by repeat (with_reducible first|exact HB.out|apply za|apply zb|apply zc|refine zd ?_ GE385.out))) : w.heap.size≤gb386));have GE386:=zh ((by rw [hg];exact (zB (by repeat (with_reducible first|exact HB.out|apply za|apply zb|apply zc|refine zd ?_ GE385.out))) : w.heap.size≤gb386));replace HB:=zh (zC (by repeat (with_reducible first|exact HB.out|apply za|apply zb|apply zc|refine zd ?_ GE385.out)) hb);have NB385_386:=zh ((by rw [hg];exact yc (yi (g:=gb385) (o:=.cells #[.slice A0_0 l0_0.length c0_0] 46 (0,0)) (by (with_reducible repeat (first|refine ze ?_ _|refine zf ?_|refine zg ?_ _));exact BK385.out)) : gb385≠gb386));have NB386_385:=zh ((by rw [hg];exact yd (yi (g:=gb385) (o:=.cells #[.slice A0_0 l0_0.length c0_0] 46 (0,0)) (by (with_reducible repeat (first|refine ze ?_ _|refine zf ?_|refine zg ?_ _));exact BK385.out)) : gb386≠gb385));replace BK385:=zh (zD (g:=gb385) (o:=.cells #[.slice A0_0 l0_0.length c0_0] 46 (0,0)) (by (with_reducible repeat (first|refine ze ?_ _|refine zf ?_|refine zg ?_ _));exact BK385.out) hb);clear hb hbox hg;have hnb13:=NB385_386.out;have hnc13:=NB386_385.out;have hcz14_0 : w12.cell? ⟨gb385,0,none⟩=some (.slice A0_0 l0_0.length c0_0):=(zz BK385.out 0).trans rfl;have hfz14_0:=zA BK385.out 0;have hcz15_0 : w12.cell? ⟨gb386,0,none⟩=some (.slice A1_0 l1_0.length c1_0):=(zz BK386.out 0).trans rfl;have hfz15_0:=zA BK386.out 0)|((with_reducible refine zJ (f:=47) rfl ?_);refine yj (some 9) rfl rfl Tryz.func47 (by kernel_rfl) rfl #[.slice A0_0 l0_0.length c0_0,.slice A1_0 l1_0.length c1_0] rfl (by (try simp only [zt,zu,zv]);first|done|rfl|(simp only [zw,zx];rfl)|(simp only [yr,ys,zV,zW];rfl)) ?_;(with_reducible refine (Fi.calls k  _ _ l0_0 _ _ l1_0 false _ ?side1 ?side2 ?side3 ?side4 A3.out).mono ?_);(case side1 => repeat (first|exact (Kd.C_below HR0_0.out HB.out)|(with_reducible refine Kd.C_alloc ?_ _)|(with_reducible refine Kd.C_drewN ?_ _)|(with_reducible refine Kd.C_drew ?_)));(case side2 => exact HC0_0.out);(case side3 => repeat (first|exact (Kd.C_below HR1_0.out HB.out)|(with_reducible refine Kd.C_alloc ?_ _)|(with_reducible refine Kd.C_drewN ?_ _)|(with_reducible refine Kd.C_drew ?_)));(case side4 => exact HC1_0.out);rintro e w16 ⟨rfl,hb⟩;refine ⟨_,rfl,?_⟩;replace BK385:=zh (zD (g:=gb385) (o:=.cells #[.slice A0_0 l0_0.length c0_0] 46 (0,0)) (by (with_reducible repeat (first|refine ze ?_ _|refine zf ?_|refine zg ?_ _));exact BK385.out) hb);replace BK386:=zh (zD (g:=gb386) (o:=.cells #[.slice A1_0 l1_0.length c1_0] 46 (0,0)) (by (with_reducible repeat (first|refine ze ?_ _|refine zf ?_|refine zg ?_ _));exact BK386.out) hb);replace HB:=zh (zC (by repeat (with_reducible first|exact HB.out|apply za|apply zb|apply zc|refine zd ?_ GE385.out|refine zd ?_ GE386.out)) hb);(try clear hb);(try clear hb2);(try clear hk);(try clear hi)))
 go_ret
 exact ⟨by first|rfl|(simp [yt,yu] <;> rfl)|(simp [*,yt,yu] <;> rfl),by repeat (with_reducible first|exact HB.out|apply za|apply zb|apply zc|refine zd ?_ GE385.out|refine zd ?_ GE386.out)⟩


def Fh.l0 : Nat→List (S46)→List (S46)→Int→Option (Bool)
 | 0,_,_,_ => none
 | k + 1,x0,x1,x5 => if x5<(x0.length : Int) then (if 0≤x5 then (if x5<(x1.length : Int) then ((F6.f k ((rd_T46 x0 x5).f0) ((rd_T46 x1 x5).f0)).bind fun t390 => (if t390=true then (Fh.l0 k x0 x1 (wrap64 (x5 + 1))) else (some false))) else (none)) else (none)) else (some true)
def Fh.f (k : Nat) (l0 : List (S46)) (l1 : List (S46)) : Option (Bool):=if (l0.length : Int)=(l1.length : Int) then (Fh.l0 k l0 l1 0) else (some false)
theorem Fh.mono_l : ∀ k,(∀ y0 y1 y2,LeO (Fh.l0 k y0 y1 y2) (Fh.l0 (k + 1) y0 y1 y2))
 | 0 => fun _ _ _ r h => by simp [Fh.l0] at h
 | k + 1 => by
  have ih0:=Fh.mono_l k;intro y0 y1 y2;unfold Fh.l0
  repeat' first|(with_reducible first|exact ih0 _ _ _|exact F6.mono _ _ _|exact zQ _|exact zN _|refine zP ?_ ?_|refine zO ?_ (fun _ => ?_))|refine zP ?_ ?_|refine zO ?_ (fun _ => ?_)
theorem Fh.mono : ∀ a0 a1 k,LeO (Fh.f k a0 a1) (Fh.f (k + 1) a0 a1):=by
 intro a0 a1 k;have ih0:=Fh.mono_l k;unfold Fh.f
 repeat' first|(with_reducible first|exact ih0 _ _ _|exact F6.mono _ _ _|exact zQ _|exact zN _|refine zP ?_ ?_|refine zO ?_ (fun _ => ?_))|refine zP ?_ ?_|refine zO ?_ (fun _ => ?_)
def Fh.T6 : Bool×List (List Nat×List Nat):=(true,[([],[]),([],[]),([0,1],[0,1]),([2],[2]),([],[]),([],[]),([4,5],[4,5]),([6],[6]),([3,7],[3,7]),([8],[8])])
def Fh.B6 : List Nat:=[0,0,3,7,0,0,48,112,255,511]
theorem Fh.tab6 : rtab .any (opsOf Tryz.f25 6)=Fh.T6:=by kernel_rfl
theorem Fh.bits6 : waitsOk Fh.T6.2 Fh.B6=true:=by kernel_rfl
set_option maxHeartbeats 8000000 in
set_option maxRecDepth 100000 in
theorem Fh.calls (k : Nat) (A0 : Option Addr) (c0 : Nat) (l0 : List (S46)) (A1 : Option Addr) (c1 : Nat) (l1 : List (S46)) (r : Bool) (w : World) (hr0 : Kd.C k46 w A0 l0.length l0) (hc0 : l0.length≤c0) (hr1 : Kd.C k46 w A1 l1.length l1) (hc1 : l1.length≤c1) (h : Fh.f k l0 l1=some r) :
  Calls Tryz.prog 25 #[.slice A0 l0.length c0,.slice A1 l1.length c1] w fun e w' => e = .returned (.bool r)∧Below w.heap.size w w':=by
 have hu46:=Tryz.underlying46;have HR0:=zh hr0;have HC0:=zh hc0;clear hr0 hc0;have HR1:=zh hr1;have HC1:=zh hc1;clear hr1 hc1;have HB:=zh (Below.refl w.heap.size w);have H : (if (l0.length : Int)=(l1.length : Int) then (Fh.l0 k l0 l1 0) else (some false))=some r:=h;clear h
 by_cases c3 : (l0.length : Int)=(l1.length : Int)
 ·
  rw [if_pos c3] at H
  have c3b0 : ((l0.length : Int) == (l1.length : Int))=true:=ya.mpr c3;have c3b1 : ((l0.length : Int) != (l1.length : Int))=false:=zX.mpr c3;have c3b2 : (l0.length == l1.length)=true:=by first|simpa using c3|(simp at c3 ⊢;omega)
  clear c3;have H':=zh H;clear H
  go_enter Tryz.func25,Tryz.ntmps25
  go_wp2
  go_loopg [5] k (fun kq v5 w' => ∃ (x5_1 : Int),v5 = .int .i64 x5_1∧Aside0 (Fh.l0 kq l0 l1 x5_1=some r)∧Aside0 (kq≤k)∧Aside0 (Below w.heap.size w w'))
  case atStart => exact ⟨(0),(by first|rfl|(simp;done)|(simp [*];done)),H',⟨ye _⟩,⟨by repeat (with_reducible first|exact HB.out|apply za|apply zb|apply zc)⟩⟩
  case round =>
   clear H'
   try clear c1
   try clear c2
   try clear p2
   try clear c3
   try clear c3b0
   try clear c3b1
   try clear c3b2
   obtain ⟨x5_1,rfl,HA,HK1,HB⟩:=hrel
   cases gk with
   | zero => exact absurd HA.out (by simp [Fh.l0])
   | succ k1 =>
    have H:=HA.out;clear HA;simp only [Fh.l0] at H
    by_cases c4 : x5_1<(l0.length : Int)
    ·
     rw [if_pos c4] at H
     have c4b0 : decide (x5_1<(l0.length : Int))=true:=decide_eq_true c4;clear c4
     by_cases c5 : 0≤x5_1
     ·
      rw [if_pos c5] at H
      have c5b0 : decide (0≤x5_1)=true:=decide_eq_true c5;clear c5
      by_cases c6 : x5_1<(l1.length : Int)
      ·
       rw [if_pos c6] at H
       have c6b0 : decide (x5_1<(l1.length : Int))=true:=decide_eq_true c6;clear c6;replace H:=zT.mp H;obtain ⟨t390,A70,H⟩:=H;replace H : (if t390=true then (Fh.l0 k1 l0 l1 (wrap64 (x5_1 + 1))) else (some false))=some r:=H;have A7:=zh A70;clear A70
       by_cases c8 : t390=true
       ·
        subst c8
        have H1 : (Fh.l0 k1 l0 l1 (wrap64 (x5_1 + 1)))=some r:=by rw [if_pos rfl] at H;exact H
        clear H;have H:=H1;clear H1;have H':=zh H;clear H
        try go_wp2
        replace HB:=zh (zc HB.out);have p388 : 0≤(x5_1 : Int):=zy (by first|(with_reducible assumption)|assumption);have q388 : x5_1<(l0.length : Int):=zy (by first|(with_reducible assumption)|assumption);obtain ⟨ad388,A388_0,c388_0,e388,hx388_0,hl388_0,hi388_0⟩:=at_T46 HR0.out x5_1 p388 q388;have hw388_0:=hx388_0
        cases e388
        replace hx388_0:=(HB.out.cell (zl w _ hx388_0)).trans hx388_0;have HR388_0:=zh hi388_0;have HC388_0:=zh hl388_0;clear hi388_0 hl388_0;replace p388:=eq_true p388;replace q388:=eq_true q388;have p389 : 0≤(x5_1 : Int):=zy (by first|(with_reducible assumption)|assumption);have q389 : x5_1<(l1.length : Int):=zy (by first|(with_reducible assumption)|assumption);obtain ⟨ad389,A389_0,c389_0,e389,hx389_0,hl389_0,hi389_0⟩:=at_T46 HR1.out x5_1 p389 q389;have hw389_0:=hx389_0
        cases e389
        replace hx389_0:=(HB.out.cell (zl w _ hx389_0)).trans hx389_0;have HR389_0:=zh hi389_0;have HC389_0:=zh hl389_0;clear hi389_0 hl389_0;replace p389:=eq_true p389;replace q389:=eq_true q389;refine start_ (n:=10) (S:=fun w' => w'.cell? (ad388.add (x5_1).toNat)=some (.slice A388_0 ((rd_T46 l0 x5_1).f0).length c388_0)∧w'.cell? (ad389.add (x5_1).toNat)=some (.slice A389_0 ((rd_T46 l1 x5_1).f0).length c389_0)) (ds:=[]) (bm_ 0 10) (by kernel_rfl) rfl rfl ⟨((HB.out.cell (zl w _ hw388_0)).trans hw388_0),((HB.out.cell (zl w _ hw389_0)).trans hw389_0)⟩ (fun hHeld => ?_);refine with_tabW Fh.tab6 Fh.bits6 (fun HT_ HW_ => ?_);generalize wr.drew=w9 at HB HR388_0 HR389_0 hx388_0 hx389_0 hHeld ⊢;refine pure_ (i:=0) (N:=some 17) (v:=?_) (a':=?_) (bm_ 1 10) rfl rfl (any_of HT_.out (by kernel_rfl)) (fun _ _ _ h => h) (Or.inl ⟨by rfl,?_⟩) ?_ ?_;rotate_left
        ·
         intro w'
         go_simp
         with_reducible rfl
        rotate_left
        ·
         simp only [Act.put,zi,zj,zk,zG,zH]
         rfl
        refine pure_ (i:=1) (N:=some 18) (v:=?_) (a':=?_) (bm_ 2 10) rfl rfl (any_of HT_.out (by kernel_rfl)) (fun _ _ _ h => h) (Or.inl ⟨by rfl,?_⟩) ?_ ?_;rotate_left
        ·
         intro w'
         go_simp
         with_reducible rfl
        rotate_left
        ·
         simp only [Act.put,zi,zj,zk,zG,zH]
         rfl
        refine pure_ (i:=2) (N:=some 19) (v:=?_) (a':=?_) (bm_ 3 10) rfl rfl (any_of HT_.out (by kernel_rfl)) (fun _ _ _ h => h) (Or.inl ⟨by rfl,?_⟩) ?_ ?_;rotate_left
        ·
         intro w'
         go_simp
         with_reducible rfl
        rotate_left
        ·
         simp only [Act.put,zi,zj,zk,zG,zH]
         rfl
        refine pure_ (i:=4) (N:=some 21) (v:=?_) (a':=?_) #[true,true,true,false,true,false,false,false,false,false] rfl rfl (any_of HT_.out (by kernel_rfl)) (fun _ _ _ h => h) (Or.inl ⟨by rfl,?_⟩) ?_ ?_;rotate_left
        ·
         intro w'
         go_simp
         with_reducible rfl
        rotate_left
        ·
         simp only [Act.put,zi,zj,zk,zG,zH]
         rfl
        refine pure_ (i:=5) (N:=some 22) (v:=?_) (a':=?_) #[true,true,true,false,true,true,false,false,false,false] rfl rfl (any_of HT_.out (by kernel_rfl)) (fun _ _ _ h => h) (Or.inl ⟨by rfl,?_⟩) ?_ ?_;rotate_left
        ·
         intro w'
         go_simp
         with_reducible rfl
        rotate_left
        ·
         simp only [Act.put,zi,zj,zk,zG,zH]
         rfl
        refine pure_ (i:=6) (N:=some 23) (v:=?_) (a':=?_) #[true,true,true,false,true,true,true,false,false,false] rfl rfl (any_of HT_.out (by kernel_rfl)) (fun _ _ _ h => h) (Or.inl ⟨by rfl,?_⟩) ?_ ?_;rotate_left
        ·
         intro w'
         go_simp
         with_reducible rfl
        rotate_left
        ·
         simp only [Act.put,zi,zj,zk,zG,zH]
         rfl
        refine take_ (i:=3) (N:=some 20) (v:=?_) (a':=?_) (bm_ 7 10) rfl rfl (yo HT_.out HW_.out (by kernel_rfl)) (fun _ _ _ h => h) (Or.inl ⟨by rfl,?_⟩) hHeld ?_ ?_;rotate_left
        ·
         rintro w' ⟨s0,s1⟩
         go_simp
         with_reducible rfl
        rotate_left
        ·
         simp only [Act.put,zi,zj,zk,zG,zH]
         rfl
        refine take_ (i:=7) (N:=some 24) (v:=?_) (a':=?_) (bm_ 8 10) rfl rfl (yo HT_.out HW_.out (by kernel_rfl)) (fun _ _ _ h => h) (Or.inl ⟨by rfl,?_⟩) hHeld ?_ ?_;rotate_left
        ·
         rintro w' ⟨s0,s1⟩
         go_simp
         with_reducible rfl
        rotate_left
        ·
         simp only [Act.put,zi,zj,zk,zG,zH]
         rfl
        refine one_ (i:=8) (N:=some 25) (bm_ 9 10) rfl rfl (one_of HT_.out (by kernel_rfl)) (by decide) (fun K hK => ?_);refine goes_ Tryz.func36 (by kernel_rfl) rfl #[.agg #[.slice A388_0 ((rd_T46 l0 x5_1).f0).length c388_0],.agg #[.slice A389_0 ((rd_T46 l1 x5_1).f0).length c389_0]] (by rfl) rfl rfl (by (try simp only [zt,zu,zv]);first|done|rfl|(simp only [zw,zx];rfl)|(simp only [yr,ys,zV,zW];rfl)) ?_
        with_reducible refine (F6.calls k1  _ _ ((rd_T46 l0 x5_1).f0) _ _ ((rd_T46 l1 x5_1).f0) true _ ?side1 ?side2 ?side3 ?side4 A7.out).mono ?_
        (case side1 => repeat (first|exact (Kd.C_below HR388_0.out HB.out)|(with_reducible refine Kd.C_alloc ?_ _)|(with_reducible refine Kd.C_drewN ?_ _)|(with_reducible refine Kd.C_drew ?_)))
        (case side2 => exact HC388_0.out)
        (case side3 => repeat (first|exact (Kd.C_below HR389_0.out HB.out)|(with_reducible refine Kd.C_alloc ?_ _)|(with_reducible refine Kd.C_drewN ?_ _)|(with_reducible refine Kd.C_drew ?_)))
        (case side4 => exact HC389_0.out)
        rintro e w10 ⟨rfl,hb⟩;refine ⟨_,rfl,?_⟩;replace HB:=zh (zC (by repeat (with_reducible first|exact HB.out|apply za|apply zb|apply zc)) hb);(try clear hb);(try clear hb2);(try clear hk);(try clear hi);refine hK.out _ _ ⟨((HB.out.cell (zl w _ hw388_0)).trans hw388_0),((HB.out.cell (zl w _ hw389_0)).trans hw389_0)⟩ (fun hHeld => ?_);clear hK K;refine norm_ (a':=?_) ?_ ?_;rotate_left
        ·
         show Act.put _ (some 25) _=_
         simp only [Act.put,zi,zj,zk,zG,zH]
         rfl
        refine pure_ (i:=9) (N:=some 26) (v:=?_) (a':=?_) (bm_ 10 10) rfl rfl (any_of HT_.out (by kernel_rfl)) (fun _ _ _ h => h) (Or.inl ⟨by rfl,?_⟩) ?_ ?_;rotate_left
        ·
         intro w'
         go_simp
         with_reducible rfl
        rotate_left
        ·
         simp only [Act.put,zi,zj,zk,zG,zH]
         rfl
        refine done_ (done_of HT_.out (by kernel_rfl)) ?_
        try go_wp2
        go_roundg k1
        case measure => have:=HK1.out;omega
        case rel => exact ⟨(wrap64 (x5_1 + 1)),(by first|rfl|(simp;done)|(simp [*];done)),H',⟨by have:=HK1.out;omega⟩,⟨by repeat (with_reducible first|exact HB.out|apply za|apply zb|apply zc)⟩⟩
       replace c8:=yb.mpr c8;subst c8;have H1 : (some false)=some r:=by rw [if_neg (show ¬ (false=true) by decide)] at H;exact H
       clear H;have H:=H1;clear H1;obtain rfl:=zU H
       try go_wp2
       replace HB:=zh (zc HB.out);have p388 : 0≤(x5_1 : Int):=zy (by first|(with_reducible assumption)|assumption);have q388 : x5_1<(l0.length : Int):=zy (by first|(with_reducible assumption)|assumption);obtain ⟨ad388,A388_0,c388_0,e388,hx388_0,hl388_0,hi388_0⟩:=at_T46 HR0.out x5_1 p388 q388;have hw388_0:=hx388_0
       cases e388
       replace hx388_0:=(HB.out.cell (zl w _ hx388_0)).trans hx388_0;have HR388_0:=zh hi388_0;have HC388_0:=zh hl388_0;clear hi388_0 hl388_0;replace p388:=eq_true p388;replace q388:=eq_true q388;have p389 : 0≤(x5_1 : Int):=zy (by first|(with_reducible assumption)|assumption);have q389 : x5_1<(l1.length : Int):=zy (by first|(with_reducible assumption)|assumption);obtain ⟨ad389,A389_0,c389_0,e389,hx389_0,hl389_0,hi389_0⟩:=at_T46 HR1.out x5_1 p389 q389;have hw389_0:=hx389_0
       cases e389
       replace hx389_0:=(HB.out.cell (zl w _ hx389_0)).trans hx389_0;have HR389_0:=zh hi389_0;have HC389_0:=zh hl389_0;clear hi389_0 hl389_0;replace p389:=eq_true p389;replace q389:=eq_true q389;refine start_ (n:=10) (S:=fun w' => w'.cell? (ad388.add (x5_1).toNat)=some (.slice A388_0 ((rd_T46 l0 x5_1).f0).length c388_0)∧w'.cell? (ad389.add (x5_1).toNat)=some (.slice A389_0 ((rd_T46 l1 x5_1).f0).length c389_0)) (ds:=[]) (bm_ 0 10) (by kernel_rfl) rfl rfl ⟨((HB.out.cell (zl w _ hw388_0)).trans hw388_0),((HB.out.cell (zl w _ hw389_0)).trans hw389_0)⟩ (fun hHeld => ?_);refine with_tabW Fh.tab6 Fh.bits6 (fun HT_ HW_ => ?_);generalize wr.drew=w11 at HB HR388_0 HR389_0 hx388_0 hx389_0 hHeld ⊢;refine pure_ (i:=0) (N:=some 17) (v:=?_) (a':=?_) (bm_ 1 10) rfl rfl (any_of HT_.out (by kernel_rfl)) (fun _ _ _ h => h) (Or.inl ⟨by rfl,?_⟩) ?_ ?_;rotate_left
       ·
        intro w'
        go_simp
        with_reducible rfl
       rotate_left
       ·
        simp only [Act.put,zi,zj,zk,zG,zH]
        rfl
       refine pure_ (i:=1) (N:=some 18) (v:=?_) (a':=?_) (bm_ 2 10) rfl rfl (any_of HT_.out (by kernel_rfl)) (fun _ _ _ h => h) (Or.inl ⟨by rfl,?_⟩) ?_ ?_;rotate_left
       ·
        intro w'
        go_simp
        with_reducible rfl
       rotate_left
       ·
        simp only [Act.put,zi,zj,zk,zG,zH]
        rfl
       refine pure_ (i:=2) (N:=some 19) (v:=?_) (a':=?_) (bm_ 3 10) rfl rfl (any_of HT_.out (by kernel_rfl)) (fun _ _ _ h => h) (Or.inl ⟨by rfl,?_⟩) ?_ ?_;rotate_left
       ·
        intro w'
        go_simp
        with_reducible rfl
       rotate_left
       ·
        simp only [Act.put,zi,zj,zk,zG,zH]
        rfl
       refine pure_ (i:=4) (N:=some 21) (v:=?_) (a':=?_) #[true,true,true,false,true,false,false,false,false,false] rfl rfl (any_of HT_.out (by kernel_rfl)) (fun _ _ _ h => h) (Or.inl ⟨by rfl,?_⟩) ?_ ?_;rotate_left
       ·
        intro w'
        go_simp
        with_reducible rfl
       rotate_left
       ·
        simp only [Act.put,zi,zj,zk,zG,zH]
        rfl
       refine pure_ (i:=5) (N:=some 22) (v:=?_) (a':=?_) #[true,true,true,false,true,true,false,false,false,false] rfl rfl (any_of HT_.out (by kernel_rfl)) (fun _ _ _ h => h) (Or.inl ⟨by rfl,?_⟩) ?_ ?_;rotate_left
       ·
        intro w'
        go_simp
        with_reducible rfl
       rotate_left
       ·
        simp only [Act.put,zi,zj,zk,zG,zH]
        rfl
       refine pure_ (i:=6) (N:=some 23) (v:=?_) (a':=?_) #[true,true,true,false,true,true,true,false,false,false] rfl rfl (any_of HT_.out (by kernel_rfl)) (fun _ _ _ h => h) (Or.inl ⟨by rfl,?_⟩) ?_ ?_;rotate_left
       ·
        intro w'
        go_simp
        with_reducible rfl
       rotate_left
       ·
        simp only [Act.put,zi,zj,zk,zG,zH]
        rfl
       refine take_ (i:=3) (N:=some 20) (v:=?_) (a':=?_) (bm_ 7 10) rfl rfl (yo HT_.out HW_.out (by kernel_rfl)) (fun _ _ _ h => h) (Or.inl ⟨by rfl,?_⟩) hHeld ?_ ?_;rotate_left
       ·
        rintro w' ⟨s0,s1⟩
        go_simp
        with_reducible rfl
       rotate_left
       ·
        simp only [Act.put,zi,zj,zk,zG,zH]
        rfl
       refine take_ (i:=7) (N:=some 24) (v:=?_) (a':=?_) (bm_ 8 10) rfl rfl (yo HT_.out HW_.out (by kernel_rfl)) (fun _ _ _ h => h) (Or.inl ⟨by rfl,?_⟩) hHeld ?_ ?_;rotate_left
       ·
        rintro w' ⟨s0,s1⟩
        go_simp
        with_reducible rfl
       rotate_left
       ·
        simp only [Act.put,zi,zj,zk,zG,zH]
        rfl
       refine one_ (i:=8) (N:=some 25) (bm_ 9 10) rfl rfl (one_of HT_.out (by kernel_rfl)) (by decide) (fun K hK => ?_);refine goes_ Tryz.func36 (by kernel_rfl) rfl #[.agg #[.slice A388_0 ((rd_T46 l0 x5_1).f0).length c388_0],.agg #[.slice A389_0 ((rd_T46 l1 x5_1).f0).length c389_0]] (by rfl) rfl rfl (by (try simp only [zt,zu,zv]);first|done|rfl|(simp only [zw,zx];rfl)|(simp only [yr,ys,zV,zW];rfl)) ?_
       with_reducible refine (F6.calls k1  _ _ ((rd_T46 l0 x5_1).f0) _ _ ((rd_T46 l1 x5_1).f0) false _ ?side1 ?side2 ?side3 ?side4 A7.out).mono ?_
       (case side1 => repeat (first|exact (Kd.C_below HR388_0.out HB.out)|(with_reducible refine Kd.C_alloc ?_ _)|(with_reducible refine Kd.C_drewN ?_ _)|(with_reducible refine Kd.C_drew ?_)))
       (case side2 => exact HC388_0.out)
       (case side3 => repeat (first|exact (Kd.C_below HR389_0.out HB.out)|(with_reducible refine Kd.C_alloc ?_ _)|(with_reducible refine Kd.C_drewN ?_ _)|(with_reducible refine Kd.C_drew ?_)))
       (case side4 => exact HC389_0.out)
       rintro e w12 ⟨rfl,hb⟩;refine ⟨_,rfl,?_⟩;replace HB:=zh (zC (by repeat (with_reducible first|exact HB.out|apply za|apply zb|apply zc)) hb);(try clear hb);(try clear hb2);(try clear hk);(try clear hi);refine hK.out _ _ ⟨((HB.out.cell (zl w _ hw388_0)).trans hw388_0),((HB.out.cell (zl w _ hw389_0)).trans hw389_0)⟩ (fun hHeld => ?_);clear hK K;refine norm_ (a':=?_) ?_ ?_;rotate_left
       ·
        show Act.put _ (some 25) _=_
        simp only [Act.put,zi,zj,zk,zG,zH]
        rfl
       refine pure_ (i:=9) (N:=some 26) (v:=?_) (a':=?_) (bm_ 10 10) rfl rfl (any_of HT_.out (by kernel_rfl)) (fun _ _ _ h => h) (Or.inl ⟨by rfl,?_⟩) ?_ ?_;rotate_left
       ·
        intro w'
        go_simp
        with_reducible rfl
       rotate_left
       ·
        simp only [Act.put,zi,zj,zk,zG,zH]
        rfl
       refine done_ (done_of HT_.out (by kernel_rfl)) ?_
       try go_wp2
       go_ret
       exact ⟨by first|rfl|(simp [yt,yu] <;> rfl)|(simp [*,yt,yu] <;> rfl),by repeat (with_reducible first|exact HB.out|apply za|apply zb|apply zc)⟩
      rw [if_neg c6] at H;exact absurd H (by simp)
     rw [if_neg c5] at H;exact absurd H (by simp)
    rw [if_neg c4] at H;have c4b0 : decide (x5_1<(l0.length : Int))=false:=decide_eq_false c4;clear c4;obtain rfl:=zU H
    go_wp2
    go_ret
    exact ⟨by first|rfl|(simp [yt,yu] <;> rfl)|(simp [*,yt,yu] <;> rfl),by repeat (with_reducible first|exact HB.out|apply za|apply zb|apply zc)⟩
 rw [if_neg c3] at H;have c3b0 : ((l0.length : Int) == (l1.length : Int))=false:=zY.mpr c3;have c3b1 : ((l0.length : Int) != (l1.length : Int))=true:=zZ.mpr c3;have c3b2 : (l0.length == l1.length)=false:=by first|simpa using c3|(simp at c3 ⊢;omega)
 obtain rfl:=zU H
 go_enter Tryz.func25,Tryz.ntmps25
 go_wp2
 go_ret
 exact ⟨by first|rfl|(simp [yt,yu] <;> rfl)|(simp [*,yt,yu] <;> rfl),by repeat (with_reducible first|exact HB.out|apply za|apply zb|apply zc)⟩


def F0h.f (k : Nat) (l0_0 : List (S46)) (l1_0 : List (S46)) : Option (Bool):=(Fh.f k l0_0 l1_0).bind fun t393 => (if t393=true then (some true) else (some false))
theorem F0h.mono : ∀ a0 a1 k,LeO (F0h.f k a0 a1) (F0h.f (k + 1) a0 a1):=by
 intro a0 a1 k;unfold F0h.f
 repeat' first|(with_reducible first|exact Fh.mono _ _ _|exact zQ _|exact zN _|refine zP ?_ ?_|refine zO ?_ (fun _ => ?_))|refine zP ?_ ?_|refine zO ?_ (fun _ => ?_)
set_option maxHeartbeats 8000000 in
set_option maxRecDepth 100000 in
theorem F0h.calls (k : Nat) (A0_0 : Option Addr) (c0_0 : Nat) (l0_0 : List (S46)) (A1_0 : Option Addr) (c1_0 : Nat) (l1_0 : List (S46)) (r : Bool) (w : World) (hr0_0 : Kd.C k46 w A0_0 l0_0.length l0_0) (hc0_0 : l0_0.length≤c0_0) (hr1_0 : Kd.C k46 w A1_0 l1_0.length l1_0) (hc1_0 : l1_0.length≤c1_0) (h : F0h.f k l0_0 l1_0=some r) :
  Calls Tryz.prog 9 #[.agg #[.slice A0_0 l0_0.length c0_0],.agg #[.slice A1_0 l1_0.length c1_0]] w fun e w' => e = .returned (.bool r)∧Below w.heap.size w w':=by
 have hu29:=Tryz.underlying29;have HR0_0:=zh hr0_0;have HC0_0:=zh hc0_0;clear hr0_0 hc0_0;have HR1_0:=zh hr1_0;have HC1_0:=zh hc1_0;clear hr1_0 hc1_0;have HB:=zh (Below.refl w.heap.size w);have H : ((Fh.f k l0_0 l1_0).bind fun t393 => (if t393=true then (some true) else (some false)))=some r:=h;clear h;replace H:=zT.mp H;obtain ⟨t393,A30,H⟩:=H;replace H : (if t393=true then (some true) else (some false))=some r:=H;have A3:=zh A30;clear A30
 by_cases c4 : t393=true
 ·
  subst c4
  have H1 : (some true)=some r:=by rw [if_pos rfl] at H;exact H
  clear H;have H:=H1;clear H1;obtain rfl:=zU H
  go_enter Tryz.func9,Tryz.ntmps9
  go_wp2_with (first|((with_reducible refine zK (N:=2) rfl ?_);refine zI ?hg (N:=2) ?hd (cs:=#[.slice A0_0 l0_0.length c0_0]) (t:=29) ?hr ?_;(case hd => rfl);(case hg => rfl);(case hr => first|(go_simp;done)|(go_simp;rfl));intro gb391 hg w5 hbox hb;have BK391:=zh (hbox);have GW391:=zh ((by rw [hg];exact (zB (by repeat (with_reducible first|exact HB.out|apply za|apply zb|apply zc))) : w.heap.size≤gb391));have GE391:=zh ((by rw [hg];exact (zB (by repeat (with_reducible first|exact HB.out|apply za|apply zb|apply zc))) : w.heap.size≤gb391));replace HB:=zh (zC (by repeat (with_reducible first|exact HB.out|apply za|apply zb|apply zc)) hb);clear hb hbox hg)|((with_reducible refine zK (N:=3) rfl ?_);refine zI ?hg (N:=3) ?hd (cs:=#[.slice A1_0 l1_0.length c1_0]) (t:=29) ?hr ?_;(case hd => rfl);(case hg => rfl);(case hr => first|(go_simp;done)|(go_simp;rfl));intro gb392 hg w6 hbox hb;have BK392:=zh (hbox);have GW392:=zh ((by rw [hg];exact (zB (by repeat (with_reducible first|exact HB.out|apply za|apply zb|apply zc|refine zd ?_ GE391.out))) : w.heap.size≤gb392));have GE392:=zh ((by rw [hg];exact (zB (by repeat (with_reducible first|exact HB.out|apply za|apply zb|apply zc|refine zd ?_ GE391.out))) : w.heap.size≤gb392));replace HB:=zh (zC (by repeat (with_reducible first|exact HB.out|apply za|apply zb|apply zc|refine zd ?_ GE391.out)) hb);have NB391_392:=zh ((by rw [hg];exact yc (yi (g:=gb391) (o:=.cells #[.slice A0_0 l0_0.length c0_0] 29 (0,0)) (by (with_reducible repeat (first|refine ze ?_ _|refine zf ?_|refine zg ?_ _));exact BK391.out)) : gb391≠gb392));have NB392_391:=zh ((by rw [hg];exact yd (yi (g:=gb391) (o:=.cells #[.slice A0_0 l0_0.length c0_0] 29 (0,0)) (by (with_reducible repeat (first|refine ze ?_ _|refine zf ?_|refine zg ?_ _));exact BK391.out)) : gb392≠gb391));replace BK391:=zh (zD (g:=gb391) (o:=.cells #[.slice A0_0 l0_0.length c0_0] 29 (0,0)) (by (with_reducible repeat (first|refine ze ?_ _|refine zf ?_|refine zg ?_ _));exact BK391.out) hb);clear hb hbox hg;have hnb7:=NB391_392.out;have hnc7:=NB392_391.out;have hcz8_0 : w6.cell? ⟨gb391,0,none⟩=some (.slice A0_0 l0_0.length c0_0):=(zz BK391.out 0).trans rfl;have hfz8_0:=zA BK391.out 0;have hcz9_0 : w6.cell? ⟨gb392,0,none⟩=some (.slice A1_0 l1_0.length c1_0):=(zz BK392.out 0).trans rfl;have hfz9_0:=zA BK392.out 0)|((with_reducible refine zJ (f:=25) rfl ?_);refine yj (some 9) rfl rfl Tryz.func25 (by kernel_rfl) rfl #[.slice A0_0 l0_0.length c0_0,.slice A1_0 l1_0.length c1_0] rfl (by (try simp only [zt,zu,zv]);first|done|rfl|(simp only [zw,zx];rfl)|(simp only [yr,ys,zV,zW];rfl)) ?_;(with_reducible refine (Fh.calls k  _ _ l0_0 _ _ l1_0 true _ ?side1 ?side2 ?side3 ?side4 A3.out).mono ?_);(case side1 => repeat (first|exact (Kd.C_below HR0_0.out HB.out)|(with_reducible refine Kd.C_alloc ?_ _)|(with_reducible refine Kd.C_drewN ?_ _)|(with_reducible refine Kd.C_drew ?_)));(case side2 => exact HC0_0.out);(case side3 => repeat (first|exact (Kd.C_below HR1_0.out HB.out)|(with_reducible refine Kd.C_alloc ?_ _)|(with_reducible refine Kd.C_drewN ?_ _)|(with_reducible refine Kd.C_drew ?_)));(case side4 => exact HC1_0.out);rintro e w10 ⟨rfl,hb⟩;refine ⟨_,rfl,?_⟩;replace BK391:=zh (zD (g:=gb391) (o:=.cells #[.slice A0_0 l0_0.length c0_0] 29 (0,0)) (by (with_reducible repeat (first|refine ze ?_ _|refine zf ?_|refine zg ?_ _));exact BK391.out) hb);replace BK392:=zh (zD (g:=gb392) (o:=.cells #[.slice A1_0 l1_0.length c1_0] 29 (0,0)) (by (with_reducible repeat (first|refine ze ?_ _|refine zf ?_|refine zg ?_ _));exact BK392.out) hb);replace HB:=zh (zC (by repeat (with_reducible first|exact HB.out|apply za|apply zb|apply zc|refine zd ?_ GE391.out|refine zd ?_ GE392.out)) hb);(try clear hb);(try clear hb2);(try clear hk);(try clear hi)))
  go_ret
  exact ⟨by first|rfl|(simp [yt,yu] <;> rfl)|(simp [*,yt,yu] <;> rfl),by repeat (with_reducible first|exact HB.out|apply za|apply zb|apply zc|refine zd ?_ GE391.out|refine zd ?_ GE392.out)⟩
 replace c4:=yb.mpr c4;subst c4;have H1 : (some false)=some r:=by rw [if_neg (show ¬ (false=true) by decide)] at H;exact H
 clear H;have H:=H1;clear H1;obtain rfl:=zU H
 go_enter Tryz.func9,Tryz.ntmps9
 go_wp2_with (first|((with_reducible refine zK (N:=2) rfl ?_);refine zI ?hg (N:=2) ?hd (cs:=#[.slice A0_0 l0_0.length c0_0]) (t:=29) ?hr ?_;(case hd => rfl);(case hg => rfl);(case hr => first|(go_simp;done)|(go_simp;rfl));intro gb391 hg w11 hbox hb;have BK391:=zh (hbox);have GW391:=zh ((by rw [hg];exact (zB (by repeat (with_reducible first|exact HB.out|apply za|apply zb|apply zc))) : w.heap.size≤gb391));have GE391:=zh ((by rw [hg];exact (zB (by repeat (with_reducible first|exact HB.out|apply za|apply zb|apply zc))) : w.heap.size≤gb391));replace HB:=zh (zC (by repeat (with_reducible first|exact HB.out|apply za|apply zb|apply zc)) hb);clear hb hbox hg)|((with_reducible refine zK (N:=3) rfl ?_);refine zI ?hg (N:=3) ?hd (cs:=#[.slice A1_0 l1_0.length c1_0]) (t:=29) ?hr ?_;(case hd => rfl);(case hg => rfl);(case hr => first|(go_simp;done)|(go_simp;rfl));intro gb392 hg w12 hbox hb;have BK392:=zh (hbox);have GW392:=zh ((by rw [hg];exact (zB (by repeat (with_reducible first|exact HB.out|apply za|apply zb|apply zc|refine zd ?_ GE391.out))) : w.heap.size≤gb392));have GE392:=zh ((by rw [hg];exact (zB (by repeat (with_reducible first|exact HB.out|apply za|apply zb|apply zc|refine zd ?_ GE391.out))) : w.heap.size≤gb392));replace HB:=zh (zC (by repeat (with_reducible first|exact HB.out|apply za|apply zb|apply zc|refine zd ?_ GE391.out)) hb);have NB391_392:=zh ((by rw [hg];exact yc (yi (g:=gb391) (o:=.cells #[.slice A0_0 l0_0.length c0_0] 29 (0,0)) (by (with_reducible repeat (first|refine ze ?_ _|refine zf ?_|refine zg ?_ _));exact BK391.out)) : gb391≠gb392));have NB392_391:=zh ((by rw [hg];exact yd (yi (g:=gb391) (o:=.cells #[.slice A0_0 l0_0.length c0_0] 29 (0,0)) (by (with_reducible repeat (first|refine ze ?_ _|refine zf ?_|refine zg ?_ _));exact BK391.out)) : gb392≠gb391));replace BK391:=zh (zD (g:=gb391) (o:=.cells #[.slice A0_0 l0_0.length c0_0] 29 (0,0)) (by (with_reducible repeat (first|refine ze ?_ _|refine zf ?_|refine zg ?_ _));exact BK391.out) hb);clear hb hbox hg;have hnb13:=NB391_392.out;have hnc13:=NB392_391.out;have hcz14_0 : w12.cell? ⟨gb391,0,none⟩=some (.slice A0_0 l0_0.length c0_0):=(zz BK391.out 0).trans rfl;have hfz14_0:=zA BK391.out 0;have hcz15_0 : w12.cell? ⟨gb392,0,none⟩=some (.slice A1_0 l1_0.length c1_0):=(zz BK392.out 0).trans rfl;have hfz15_0:=zA BK392.out 0)|((with_reducible refine zJ (f:=25) rfl ?_);refine yj (some 9) rfl rfl Tryz.func25 (by kernel_rfl) rfl #[.slice A0_0 l0_0.length c0_0,.slice A1_0 l1_0.length c1_0] rfl (by (try simp only [zt,zu,zv]);first|done|rfl|(simp only [zw,zx];rfl)|(simp only [yr,ys,zV,zW];rfl)) ?_;(with_reducible refine (Fh.calls k  _ _ l0_0 _ _ l1_0 false _ ?side1 ?side2 ?side3 ?side4 A3.out).mono ?_);(case side1 => repeat (first|exact (Kd.C_below HR0_0.out HB.out)|(with_reducible refine Kd.C_alloc ?_ _)|(with_reducible refine Kd.C_drewN ?_ _)|(with_reducible refine Kd.C_drew ?_)));(case side2 => exact HC0_0.out);(case side3 => repeat (first|exact (Kd.C_below HR1_0.out HB.out)|(with_reducible refine Kd.C_alloc ?_ _)|(with_reducible refine Kd.C_drewN ?_ _)|(with_reducible refine Kd.C_drew ?_)));(case side4 => exact HC1_0.out);rintro e w16 ⟨rfl,hb⟩;refine ⟨_,rfl,?_⟩;replace BK391:=zh (zD (g:=gb391) (o:=.cells #[.slice A0_0 l0_0.length c0_0] 29 (0,0)) (by (with_reducible repeat (first|refine ze ?_ _|refine zf ?_|refine zg ?_ _));exact BK391.out) hb);replace BK392:=zh (zD (g:=gb392) (o:=.cells #[.slice A1_0 l1_0.length c1_0] 29 (0,0)) (by (with_reducible repeat (first|refine ze ?_ _|refine zf ?_|refine zg ?_ _));exact BK392.out) hb);replace HB:=zh (zC (by repeat (with_reducible first|exact HB.out|apply za|apply zb|apply zc|refine zd ?_ GE391.out|refine zd ?_ GE392.out)) hb);(try clear hb);(try clear hb2);(try clear hk);(try clear hi)))
 go_ret
 exact ⟨by first|rfl|(simp [yt,yu] <;> rfl)|(simp [*,yt,yu] <;> rfl),by repeat (with_reducible first|exact HB.out|apply za|apply zb|apply zc|refine zd ?_ GE391.out|refine zd ?_ GE392.out)⟩


def F0b.f (k : Nat) (a0_0 : ByteArray) (l0_1 : List (S46)) (a1_0 : ByteArray) (l1_1 : List (S46)) : Option (Bool):=if a0_0.toList=a1_0.toList then ((F0h.f k l0_1 l1_1).bind fun t425 => (if t425=true then (some true) else (some false))) else (some false)
theorem F0b.mono : ∀ a0 a1 a2 a3 k,LeO (F0b.f k a0 a1 a2 a3) (F0b.f (k + 1) a0 a1 a2 a3):=by
 intro a0 a1 a2 a3 k;unfold F0b.f
 repeat' first|(with_reducible first|exact F0h.mono _ _ _|exact zQ _|exact zN _|refine zP ?_ ?_|refine zO ?_ (fun _ => ?_))|refine zP ?_ ?_|refine zO ?_ (fun _ => ?_)
set_option maxHeartbeats 8000000 in
set_option maxRecDepth 100000 in
theorem F0b.calls (k : Nat) (a0_0 : ByteArray) (A0_1 : Option Addr) (c0_1 : Nat) (l0_1 : List (S46)) (a1_0 : ByteArray) (A1_1 : Option Addr) (c1_1 : Nat) (l1_1 : List (S46)) (r : Bool) (w : World) (hr0_1 : Kd.C k46 w A0_1 l0_1.length l0_1) (hc0_1 : l0_1.length≤c0_1) (hr1_1 : Kd.C k46 w A1_1 l1_1.length l1_1) (hc1_1 : l1_1.length≤c1_1) (h : F0b.f k a0_0 l0_1 a1_0 l1_1=some r) :
  Calls Tryz.prog 14 #[.agg #[.string a0_0,.slice A0_1 l0_1.length c0_1],.agg #[.string a1_0,.slice A1_1 l1_1.length c1_1]] w fun e w' => e = .returned (.bool r)∧Below w.heap.size w w':=by
 have hu38:=Tryz.underlying38;have hu29:=Tryz.underlying29;have HR0_1:=zh hr0_1;have HC0_1:=zh hc0_1;clear hr0_1 hc0_1;have HR1_1:=zh hr1_1;have HC1_1:=zh hc1_1;clear hr1_1 hc1_1;have HB:=zh (Below.refl w.heap.size w);have H : (if a0_0.toList=a1_0.toList then ((F0h.f k l0_1 l1_1).bind fun t425 => (if t425=true then (some true) else (some false))) else (some false))=some r:=h;clear h
 by_cases c3 : a0_0.toList=a1_0.toList
 ·
  rw [if_pos c3] at H
  have c3b0 : (a0_0.toList == a1_0.toList)=true:=ya.mpr c3;have c3b1 : (a0_0.toList != a1_0.toList)=false:=zX.mpr c3;clear c3;replace H:=zT.mp H;obtain ⟨t425,A40,H⟩:=H;replace H : (if t425=true then (some true) else (some false))=some r:=H;have A4:=zh A40;clear A40
  by_cases c5 : t425=true
  ·
   subst c5
   have H1 : (some true)=some r:=by rw [if_pos rfl] at H;exact H
   clear H;have H:=H1;clear H1;obtain rfl:=zU H
   go_enter Tryz.func14,Tryz.ntmps14
   go_wp2_with (first|((with_reducible refine zK (N:=2) rfl ?_);refine zI ?hg (N:=2) ?hd (cs:=#[.string a0_0,.slice A0_1 l0_1.length c0_1]) (t:=38) ?hr ?_;(case hd => rfl);(case hg => rfl);(case hr => first|(go_simp;done)|(go_simp;rfl));intro gb423 hg w6 hbox hb;have BK423:=zh (hbox);have GW423:=zh ((by rw [hg];exact (zB (by repeat (with_reducible first|exact HB.out|apply za|apply zb|apply zc))) : w.heap.size≤gb423));have GE423:=zh ((by rw [hg];exact (zB (by repeat (with_reducible first|exact HB.out|apply za|apply zb|apply zc))) : w.heap.size≤gb423));replace HB:=zh (zC (by repeat (with_reducible first|exact HB.out|apply za|apply zb|apply zc)) hb);clear hb hbox hg)|((with_reducible refine zK (N:=3) rfl ?_);refine zI ?hg (N:=3) ?hd (cs:=#[.string a1_0,.slice A1_1 l1_1.length c1_1]) (t:=38) ?hr ?_;(case hd => rfl);(case hg => rfl);(case hr => first|(go_simp;done)|(go_simp;rfl));intro gb424 hg w7 hbox hb;have BK424:=zh (hbox);have GW424:=zh ((by rw [hg];exact (zB (by repeat (with_reducible first|exact HB.out|apply za|apply zb|apply zc|refine zd ?_ GE423.out))) : w.heap.size≤gb424));have GE424:=zh ((by rw [hg];exact (zB (by repeat (with_reducible first|exact HB.out|apply za|apply zb|apply zc|refine zd ?_ GE423.out))) : w.heap.size≤gb424));replace HB:=zh (zC (by repeat (with_reducible first|exact HB.out|apply za|apply zb|apply zc|refine zd ?_ GE423.out)) hb);have NB423_424:=zh ((by rw [hg];exact yc (yi (g:=gb423) (o:=.cells #[.string a0_0,.slice A0_1 l0_1.length c0_1] 38 (0,0)) (by (with_reducible repeat (first|refine ze ?_ _|refine zf ?_|refine zg ?_ _));exact BK423.out)) : gb423≠gb424));have NB424_423:=zh ((by rw [hg];exact yd (yi (g:=gb423) (o:=.cells #[.string a0_0,.slice A0_1 l0_1.length c0_1] 38 (0,0)) (by (with_reducible repeat (first|refine ze ?_ _|refine zf ?_|refine zg ?_ _));exact BK423.out)) : gb424≠gb423));replace BK423:=zh (zD (g:=gb423) (o:=.cells #[.string a0_0,.slice A0_1 l0_1.length c0_1] 38 (0,0)) (by (with_reducible repeat (first|refine ze ?_ _|refine zf ?_|refine zg ?_ _));exact BK423.out) hb);clear hb hbox hg;have hnb8:=NB423_424.out;have hnc8:=NB424_423.out;have hcz9_0 : w7.cell? ⟨gb423,0,none⟩=some (.string a0_0):=(zz BK423.out 0).trans rfl;have hcz9_1 : w7.cell? ⟨gb423,1,none⟩=some (.slice A0_1 l0_1.length c0_1):=(zz BK423.out 1).trans rfl;have hfz9_0:=zA BK423.out 0;have hfz9_1:=zA BK423.out 1;have hcz10_0 : w7.cell? ⟨gb424,0,none⟩=some (.string a1_0):=(zz BK424.out 0).trans rfl;have hcz10_1 : w7.cell? ⟨gb424,1,none⟩=some (.slice A1_1 l1_1.length c1_1):=(zz BK424.out 1).trans rfl;have hfz10_0:=zA BK424.out 0;have hfz10_1:=zA BK424.out 1)|((with_reducible refine zJ (f:=9) rfl ?_);refine yj (some 14) rfl rfl Tryz.func9 (by kernel_rfl) rfl #[.agg #[.slice A0_1 l0_1.length c0_1],.agg #[.slice A1_1 l1_1.length c1_1]] rfl (by (try simp only [zt,zu,zv]);first|done|rfl|(simp only [zw,zx];rfl)|(simp only [yr,ys,zV,zW];rfl)) ?_;(with_reducible refine (F0h.calls k  _ _ l0_1 _ _ l1_1 true _ ?side1 ?side2 ?side3 ?side4 A4.out).mono ?_);(case side1 => repeat (first|exact (Kd.C_below HR0_1.out HB.out)|(with_reducible refine Kd.C_alloc ?_ _)|(with_reducible refine Kd.C_drewN ?_ _)|(with_reducible refine Kd.C_drew ?_)));(case side2 => exact HC0_1.out);(case side3 => repeat (first|exact (Kd.C_below HR1_1.out HB.out)|(with_reducible refine Kd.C_alloc ?_ _)|(with_reducible refine Kd.C_drewN ?_ _)|(with_reducible refine Kd.C_drew ?_)));(case side4 => exact HC1_1.out);rintro e w11 ⟨rfl,hb⟩;refine ⟨_,rfl,?_⟩;replace BK423:=zh (zD (g:=gb423) (o:=.cells #[.string a0_0,.slice A0_1 l0_1.length c0_1] 38 (0,0)) (by (with_reducible repeat (first|refine ze ?_ _|refine zf ?_|refine zg ?_ _));exact BK423.out) hb);replace BK424:=zh (zD (g:=gb424) (o:=.cells #[.string a1_0,.slice A1_1 l1_1.length c1_1] 38 (0,0)) (by (with_reducible repeat (first|refine ze ?_ _|refine zf ?_|refine zg ?_ _));exact BK424.out) hb);replace HB:=zh (zC (by repeat (with_reducible first|exact HB.out|apply za|apply zb|apply zc|refine zd ?_ GE423.out|refine zd ?_ GE424.out)) hb);(try clear hb);(try clear hb2);(try clear hk);(try clear hi)))
   go_ret
   exact ⟨by first|rfl|(simp [yt,yu] <;> rfl)|(simp [*,yt,yu] <;> rfl),by repeat (with_reducible first|exact HB.out|apply za|apply zb|apply zc|refine zd ?_ GE423.out|refine zd ?_ GE424.out)⟩
  replace c5:=yb.mpr c5;subst c5;have H1 : (some false)=some r:=by rw [if_neg (show ¬ (false=true) by decide)] at H;exact H
  clear H;have H:=H1;clear H1;obtain rfl:=zU H
  go_enter Tryz.func14,Tryz.ntmps14
  go_wp2_with (first|((with_reducible refine zK (N:=2) rfl ?_);refine zI ?hg (N:=2) ?hd (cs:=#[.string a0_0,.slice A0_1 l0_1.length c0_1]) (t:=38) ?hr ?_;(case hd => rfl);(case hg => rfl);(case hr => first|(go_simp;done)|(go_simp;rfl));intro gb423 hg w12 hbox hb;have BK423:=zh (hbox);have GW423:=zh ((by rw [hg];exact (zB (by repeat (with_reducible first|exact HB.out|apply za|apply zb|apply zc))) : w.heap.size≤gb423));have GE423:=zh ((by rw [hg];exact (zB (by repeat (with_reducible first|exact HB.out|apply za|apply zb|apply zc))) : w.heap.size≤gb423));replace HB:=zh (zC (by repeat (with_reducible first|exact HB.out|apply za|apply zb|apply zc)) hb);clear hb hbox hg)|((with_reducible refine zK (N:=3) rfl ?_);refine zI ?hg (N:=3) ?hd (cs:=#[.string a1_0,.slice A1_1 l1_1.length c1_1]) (t:=38) ?hr ?_;(case hd => rfl);(case hg => rfl);(case hr => first|(go_simp;done)|(go_simp;rfl));intro gb424 hg w13 hbox hb;have BK424:=zh (hbox);have GW424:=zh ((by rw [hg];exact (zB (by repeat (with_reducible first|exact HB.out|apply za|apply zb|apply zc|refine zd ?_ GE423.out))) : w.heap.size≤gb424));have GE424:=zh ((by rw [hg];exact (zB (by repeat (with_reducible first|exact HB.out|apply za|apply zb|apply zc|refine zd ?_ GE423.out))) : w.heap.size≤gb424));replace HB:=zh (zC (by repeat (with_reducible first|exact HB.out|apply za|apply zb|apply zc|refine zd ?_ GE423.out)) hb);have NB423_424:=zh ((by rw [hg];exact yc (yi (g:=gb423) (o:=.cells #[.string a0_0,.slice A0_1 l0_1.length c0_1] 38 (0,0)) (by (with_reducible repeat (first|refine ze ?_ _|refine zf ?_|refine zg ?_ _));exact BK423.out)) : gb423≠gb424));have NB424_423:=zh ((by rw [hg];exact yd (yi (g:=gb423) (o:=.cells #[.string a0_0,.slice A0_1 l0_1.length c0_1] 38 (0,0)) (by (with_reducible repeat (first|refine ze ?_ _|refine zf ?_|refine zg ?_ _));exact BK423.out)) : gb424≠gb423));replace BK423:=zh (zD (g:=gb423) (o:=.cells #[.string a0_0,.slice A0_1 l0_1.length c0_1] 38 (0,0)) (by (with_reducible repeat (first|refine ze ?_ _|refine zf ?_|refine zg ?_ _));exact BK423.out) hb);clear hb hbox hg;have hnb14:=NB423_424.out;have hnc14:=NB424_423.out;have hcz15_0 : w13.cell? ⟨gb423,0,none⟩=some (.string a0_0):=(zz BK423.out 0).trans rfl;have hcz15_1 : w13.cell? ⟨gb423,1,none⟩=some (.slice A0_1 l0_1.length c0_1):=(zz BK423.out 1).trans rfl;have hfz15_0:=zA BK423.out 0;have hfz15_1:=zA BK423.out 1;have hcz16_0 : w13.cell? ⟨gb424,0,none⟩=some (.string a1_0):=(zz BK424.out 0).trans rfl;have hcz16_1 : w13.cell? ⟨gb424,1,none⟩=some (.slice A1_1 l1_1.length c1_1):=(zz BK424.out 1).trans rfl;have hfz16_0:=zA BK424.out 0;have hfz16_1:=zA BK424.out 1)|((with_reducible refine zJ (f:=9) rfl ?_);refine yj (some 14) rfl rfl Tryz.func9 (by kernel_rfl) rfl #[.agg #[.slice A0_1 l0_1.length c0_1],.agg #[.slice A1_1 l1_1.length c1_1]] rfl (by (try simp only [zt,zu,zv]);first|done|rfl|(simp only [zw,zx];rfl)|(simp only [yr,ys,zV,zW];rfl)) ?_;(with_reducible refine (F0h.calls k  _ _ l0_1 _ _ l1_1 false _ ?side1 ?side2 ?side3 ?side4 A4.out).mono ?_);(case side1 => repeat (first|exact (Kd.C_below HR0_1.out HB.out)|(with_reducible refine Kd.C_alloc ?_ _)|(with_reducible refine Kd.C_drewN ?_ _)|(with_reducible refine Kd.C_drew ?_)));(case side2 => exact HC0_1.out);(case side3 => repeat (first|exact (Kd.C_below HR1_1.out HB.out)|(with_reducible refine Kd.C_alloc ?_ _)|(with_reducible refine Kd.C_drewN ?_ _)|(with_reducible refine Kd.C_drew ?_)));(case side4 => exact HC1_1.out);rintro e w17 ⟨rfl,hb⟩;refine ⟨_,rfl,?_⟩;replace BK423:=zh (zD (g:=gb423) (o:=.cells #[.string a0_0,.slice A0_1 l0_1.length c0_1] 38 (0,0)) (by (with_reducible repeat (first|refine ze ?_ _|refine zf ?_|refine zg ?_ _));exact BK423.out) hb);replace BK424:=zh (zD (g:=gb424) (o:=.cells #[.string a1_0,.slice A1_1 l1_1.length c1_1] 38 (0,0)) (by (with_reducible repeat (first|refine ze ?_ _|refine zf ?_|refine zg ?_ _));exact BK424.out) hb);replace HB:=zh (zC (by repeat (with_reducible first|exact HB.out|apply za|apply zb|apply zc|refine zd ?_ GE423.out|refine zd ?_ GE424.out)) hb);(try clear hb);(try clear hb2);(try clear hk);(try clear hi)))
  go_ret
  exact ⟨by first|rfl|(simp [yt,yu] <;> rfl)|(simp [*,yt,yu] <;> rfl),by repeat (with_reducible first|exact HB.out|apply za|apply zb|apply zc|refine zd ?_ GE423.out|refine zd ?_ GE424.out)⟩
 rw [if_neg c3] at H;have c3b0 : (a0_0.toList == a1_0.toList)=false:=zY.mpr c3;have c3b1 : (a0_0.toList != a1_0.toList)=true:=zZ.mpr c3;obtain rfl:=zU H
 go_enter Tryz.func14,Tryz.ntmps14
 go_wp2_with (first|((with_reducible refine zK (N:=2) rfl ?_);refine zI ?hg (N:=2) ?hd (cs:=#[.string a0_0,.slice A0_1 l0_1.length c0_1]) (t:=38) ?hr ?_;(case hd => rfl);(case hg => rfl);(case hr => first|(go_simp;done)|(go_simp;rfl));intro gb423 hg w18 hbox hb;have BK423:=zh (hbox);have GW423:=zh ((by rw [hg];exact (zB (by repeat (with_reducible first|exact HB.out|apply za|apply zb|apply zc))) : w.heap.size≤gb423));have GE423:=zh ((by rw [hg];exact (zB (by repeat (with_reducible first|exact HB.out|apply za|apply zb|apply zc))) : w.heap.size≤gb423));replace HB:=zh (zC (by repeat (with_reducible first|exact HB.out|apply za|apply zb|apply zc)) hb);clear hb hbox hg)|((with_reducible refine zK (N:=3) rfl ?_);refine zI ?hg (N:=3) ?hd (cs:=#[.string a1_0,.slice A1_1 l1_1.length c1_1]) (t:=38) ?hr ?_;(case hd => rfl);(case hg => rfl);(case hr => first|(go_simp;done)|(go_simp;rfl));intro gb424 hg w19 hbox hb;have BK424:=zh (hbox);have GW424:=zh ((by rw [hg];exact (zB (by repeat (with_reducible first|exact HB.out|apply za|apply zb|apply zc|refine zd ?_ GE423.out))) : w.heap.size≤gb424));have GE424:=zh ((by rw [hg];exact (zB (by repeat (with_reducible first|exact HB.out|apply za|apply zb|apply zc|refine zd ?_ GE423.out))) : w.heap.size≤gb424));replace HB:=zh (zC (by repeat (with_reducible first|exact HB.out|apply za|apply zb|apply zc|refine zd ?_ GE423.out)) hb);have NB423_424:=zh ((by rw [hg];exact yc (yi (g:=gb423) (o:=.cells #[.string a0_0,.slice A0_1 l0_1.length c0_1] 38 (0,0)) (by (with_reducible repeat (first|refine ze ?_ _|refine zf ?_|refine zg ?_ _));exact BK423.out)) : gb423≠gb424));have NB424_423:=zh ((by rw [hg];exact yd (yi (g:=gb423) (o:=.cells #[.string a0_0,.slice A0_1 l0_1.length c0_1] 38 (0,0)) (by (with_reducible repeat (first|refine ze ?_ _|refine zf ?_|refine zg ?_ _));exact BK423.out)) : gb424≠gb423));replace BK423:=zh (zD (g:=gb423) (o:=.cells #[.string a0_0,.slice A0_1 l0_1.length c0_1] 38 (0,0)) (by (with_reducible repeat (first|refine ze ?_ _|refine zf ?_|refine zg ?_ _));exact BK423.out) hb);clear hb hbox hg;have hnb20:=NB423_424.out;have hnc20:=NB424_423.out;have hcz21_0 : w19.cell? ⟨gb423,0,none⟩=some (.string a0_0):=(zz BK423.out 0).trans rfl;have hcz21_1 : w19.cell? ⟨gb423,1,none⟩=some (.slice A0_1 l0_1.length c0_1):=(zz BK423.out 1).trans rfl;have hfz21_0:=zA BK423.out 0;have hfz21_1:=zA BK423.out 1;have hcz22_0 : w19.cell? ⟨gb424,0,none⟩=some (.string a1_0):=(zz BK424.out 0).trans rfl;have hcz22_1 : w19.cell? ⟨gb424,1,none⟩=some (.slice A1_1 l1_1.length c1_1):=(zz BK424.out 1).trans rfl;have hfz22_0:=zA BK424.out 0;have hfz22_1:=zA BK424.out 1))
 go_ret
 exact ⟨by first|rfl|(simp [yt,yu] <;> rfl)|(simp [*,yt,yu] <;> rfl),by repeat (with_reducible first|exact HB.out|apply za|apply zb|apply zc|refine zd ?_ GE423.out|refine zd ?_ GE424.out)⟩


def F0n.f (k : Nat) (a0_0 : ByteArray) (l0_1 : List (S61)) : Option (Bool):=(F0g.f k a0_0 l0_1 1048576).bind fun t427 => (if t427<0 then (some true) else ((Fv.f k a0_0 l0_1).bind fun bt428 => ((F0d.f k bt428.1 bt428.2).bind fun t432 => ((Fv.f k a0_0 l0_1).bind fun bt433 => ((F0a.f k bt433.1 bt433.2).bind fun t438 => (if (t438 != t432)=true then (some false) else ((Fv.f k a0_0 l0_1).bind fun bt439 => ((F0b.f k bt433.1 bt433.2 bt439.1 bt439.2).bind fun t443 => (if t443=true then (some true) else (some false))))))))))
theorem F0n.mono : ∀ a0 a1 k,LeO (F0n.f k a0 a1) (F0n.f (k + 1) a0 a1):=by
 intro a0 a1 k;unfold F0n.f
 repeat' first|(with_reducible first|exact F0g.mono _ _ _ _|exact F0d.mono _ _ _|exact Fv.mono _ _ _|exact F0a.mono _ _ _|exact F0b.mono _ _ _ _ _|exact zQ _|exact zN _|refine zP ?_ ?_|refine zO ?_ (fun _ => ?_))|refine zP ?_ ?_|refine zO ?_ (fun _ => ?_)
set_option maxHeartbeats 8000000 in
set_option maxRecDepth 100000 in
theorem F0n.calls (k : Nat) (a0_0 : ByteArray) (A0_1 : Option Addr) (c0_1 : Nat) (l0_1 : List (S61)) (r : Bool) (w : World) (hr0_1 : Kd.C k61 w A0_1 l0_1.length l0_1) (hc0_1 : l0_1.length≤c0_1) (h : F0n.f k a0_0 l0_1=some r) :
  Calls Tryz.prog 4 #[.agg #[.string a0_0,.slice A0_1 l0_1.length c0_1]] w fun e w' => e = .returned (.bool r)∧Below w.heap.size w w':=by
 have hu34:=Tryz.underlying34;have hu38:=Tryz.underlying38;have HR0_1:=zh hr0_1;have HC0_1:=zh hc0_1;clear hr0_1 hc0_1;have HB:=zh (Below.refl w.heap.size w);have H : ((F0g.f k a0_0 l0_1 1048576).bind fun t427 => (if t427<0 then (some true) else ((Fv.f k a0_0 l0_1).bind fun bt428 => ((F0d.f k bt428.1 bt428.2).bind fun t432 => ((Fv.f k a0_0 l0_1).bind fun bt433 => ((F0a.f k bt433.1 bt433.2).bind fun t438 => (if (t438 != t432)=true then (some false) else ((Fv.f k a0_0 l0_1).bind fun bt439 => ((F0b.f k bt433.1 bt433.2 bt439.1 bt439.2).bind fun t443 => (if t443=true then (some true) else (some false)))))))))))=some r:=h;clear h;replace H:=zT.mp H;obtain ⟨t427,A20,H⟩:=H;replace H : (if t427<0 then (some true) else ((Fv.f k a0_0 l0_1).bind fun bt428 => ((F0d.f k bt428.1 bt428.2).bind fun t432 => ((Fv.f k a0_0 l0_1).bind fun bt433 => ((F0a.f k bt433.1 bt433.2).bind fun t438 => (if (t438 != t432)=true then (some false) else ((Fv.f k a0_0 l0_1).bind fun bt439 => ((F0b.f k bt433.1 bt433.2 bt439.1 bt439.2).bind fun t443 => (if t443=true then (some true) else (some false))))))))))=some r:=H;have A2:=zh A20;clear A20
 by_cases c3 : t427<0
 ·
  rw [if_pos c3] at H
  have c3b0 : decide (t427<0)=true:=decide_eq_true c3;clear c3;obtain rfl:=zU H
  go_enter Tryz.func4,Tryz.ntmps4
  go_wp2_with (first|((with_reducible refine zK (N:=1) rfl ?_);refine zI ?hg (N:=1) ?hd (cs:=#[.string a0_0,.slice A0_1 l0_1.length c0_1]) (t:=34) ?hr ?_;(case hd => rfl);(case hg => rfl);(case hr => first|(go_simp;done)|(go_simp;rfl));intro gb426 hg w4 hbox hb;have BK426:=zh (hbox);have GW426:=zh ((by rw [hg];exact (zB (by repeat (with_reducible first|exact HB.out|apply za|apply zb|apply zc))) : w.heap.size≤gb426));have GE426:=zh ((by rw [hg];exact (zB (by repeat (with_reducible first|exact HB.out|apply za|apply zb|apply zc))) : w.heap.size≤gb426));replace HB:=zh (zC (by repeat (with_reducible first|exact HB.out|apply za|apply zb|apply zc)) hb);clear hb hbox hg;have hcz5_0 : w4.cell? ⟨gb426,0,none⟩=some (.string a0_0):=(zz BK426.out 0).trans rfl;have hcz5_1 : w4.cell? ⟨gb426,1,none⟩=some (.slice A0_1 l0_1.length c0_1):=(zz BK426.out 1).trans rfl;have hfz5_0:=zA BK426.out 0;have hfz5_1:=zA BK426.out 1)|((with_reducible refine zJ (f:=10) rfl ?_);refine yj (some 9) rfl rfl Tryz.func10 (by kernel_rfl) rfl #[.agg #[.string a0_0,.slice A0_1 l0_1.length c0_1],.int .i64 1048576] rfl (by (try simp only [zt,zu,zv]);first|done|rfl|(simp only [zw,zx];rfl)|(simp only [yr,ys,zV,zW];rfl)) ?_;(with_reducible refine (F0g.calls k  a0_0 _ _ l0_1 1048576 t427 _ ?side1 ?side2 A2.out).mono ?_);(case side1 => repeat (first|exact (Kd.C_below HR0_1.out HB.out)|(with_reducible refine Kd.C_alloc ?_ _)|(with_reducible refine Kd.C_drewN ?_ _)|(with_reducible refine Kd.C_drew ?_)));(case side2 => exact HC0_1.out);rintro e w6 ⟨rfl,hb⟩;refine ⟨_,rfl,?_⟩;replace BK426:=zh (zD (g:=gb426) (o:=.cells #[.string a0_0,.slice A0_1 l0_1.length c0_1] 34 (0,0)) (by (with_reducible repeat (first|refine ze ?_ _|refine zf ?_|refine zg ?_ _));exact BK426.out) hb);replace HB:=zh (zC (by repeat (with_reducible first|exact HB.out|apply za|apply zb|apply zc|refine zd ?_ GE426.out)) hb);(try clear hb);(try clear hb2);(try clear hk);(try clear hi)))
  go_ret
  exact ⟨by first|rfl|(simp [yt,yu] <;> rfl)|(simp [*,yt,yu] <;> rfl),by repeat (with_reducible first|exact HB.out|apply za|apply zb|apply zc|refine zd ?_ GE426.out)⟩
 rw [if_neg c3] at H;have c3b0 : decide (t427<0)=false:=decide_eq_false c3;clear c3;replace H:=zT.mp H;obtain ⟨⟨t428,t429⟩,A70,H⟩:=H;replace H : ((F0d.f k t428 t429).bind fun t432 => ((Fv.f k a0_0 l0_1).bind fun bt433 => ((F0a.f k bt433.1 bt433.2).bind fun t438 => (if (t438 != t432)=true then (some false) else ((Fv.f k a0_0 l0_1).bind fun bt439 => ((F0b.f k bt433.1 bt433.2 bt439.1 bt439.2).bind fun t443 => (if t443=true then (some true) else (some false))))))))=some r:=H;have A7:=zh A70;clear A70;replace H:=zT.mp H;obtain ⟨t432,A80,H⟩:=H;replace H : ((Fv.f k a0_0 l0_1).bind fun bt433 => ((F0a.f k bt433.1 bt433.2).bind fun t438 => (if (t438 != t432)=true then (some false) else ((Fv.f k a0_0 l0_1).bind fun bt439 => ((F0b.f k bt433.1 bt433.2 bt439.1 bt439.2).bind fun t443 => (if t443=true then (some true) else (some false)))))))=some r:=H;have A8:=zh A80;clear A80;replace H:=zT.mp H;obtain ⟨⟨t433,t434⟩,A90,H⟩:=H;replace H : ((F0a.f k t433 t434).bind fun t438 => (if (t438 != t432)=true then (some false) else ((Fv.f k a0_0 l0_1).bind fun bt439 => ((F0b.f k t433 t434 bt439.1 bt439.2).bind fun t443 => (if t443=true then (some true) else (some false))))))=some r:=H;have A9:=zh A90;clear A90;replace H:=zT.mp H;obtain ⟨t438,A100,H⟩:=H;replace H : (if (t438 != t432)=true then (some false) else ((Fv.f k a0_0 l0_1).bind fun bt439 => ((F0b.f k t433 t434 bt439.1 bt439.2).bind fun t443 => (if t443=true then (some true) else (some false)))))=some r:=H;have A10:=zh A100;clear A100
 by_cases c11 : (t438 != t432)=true
 ·
  rw [if_pos c11] at H
  have c11b0 : (t438 != t432)=true:=c11;(try (have c11b1 : decide (t438=t432)=false:=by simpa using c11));(try (have c11b2 : (t438 == t432)=false:=by simpa using c11));(try (have c11b3 : ¬ (t438=t432):=by simpa using c11));clear c11;obtain rfl:=zU H
  go_enter Tryz.func4,Tryz.ntmps4
  go_wp2_with (first|((with_reducible refine zK (N:=1) rfl ?_);refine zI ?hg (N:=1) ?hd (cs:=#[.string a0_0,.slice A0_1 l0_1.length c0_1]) (t:=34) ?hr ?_;(case hd => rfl);(case hg => rfl);(case hr => first|(go_simp;done)|(go_simp;rfl));intro gb426 hg w12 hbox hb;have BK426:=zh (hbox);have GW426:=zh ((by rw [hg];exact (zB (by repeat (with_reducible first|exact HB.out|apply za|apply zb|apply zc))) : w.heap.size≤gb426));have GE426:=zh ((by rw [hg];exact (zB (by repeat (with_reducible first|exact HB.out|apply za|apply zb|apply zc))) : w.heap.size≤gb426));replace HB:=zh (zC (by repeat (with_reducible first|exact HB.out|apply za|apply zb|apply zc)) hb);clear hb hbox hg;have hcz13_0 : w12.cell? ⟨gb426,0,none⟩=some (.string a0_0):=(zz BK426.out 0).trans rfl;have hcz13_1 : w12.cell? ⟨gb426,1,none⟩=some (.slice A0_1 l0_1.length c0_1):=(zz BK426.out 1).trans rfl;have hfz13_0:=zA BK426.out 0;have hfz13_1:=zA BK426.out 1)|((with_reducible refine zJ (f:=10) rfl ?_);refine yj (some 9) rfl rfl Tryz.func10 (by kernel_rfl) rfl #[.agg #[.string a0_0,.slice A0_1 l0_1.length c0_1],.int .i64 1048576] rfl (by (try simp only [zt,zu,zv]);first|done|rfl|(simp only [zw,zx];rfl)|(simp only [yr,ys,zV,zW];rfl)) ?_;(with_reducible refine (F0g.calls k  a0_0 _ _ l0_1 1048576 t427 _ ?side1 ?side2 A2.out).mono ?_);(case side1 => repeat (first|exact (Kd.C_below HR0_1.out HB.out)|(with_reducible refine Kd.C_alloc ?_ _)|(with_reducible refine Kd.C_drewN ?_ _)|(with_reducible refine Kd.C_drew ?_)));(case side2 => exact HC0_1.out);rintro e w14 ⟨rfl,hb⟩;refine ⟨_,rfl,?_⟩;replace BK426:=zh (zD (g:=gb426) (o:=.cells #[.string a0_0,.slice A0_1 l0_1.length c0_1] 34 (0,0)) (by (with_reducible repeat (first|refine ze ?_ _|refine zf ?_|refine zg ?_ _));exact BK426.out) hb);replace HB:=zh (zC (by repeat (with_reducible first|exact HB.out|apply za|apply zb|apply zc|refine zd ?_ GE426.out)) hb);(try clear hb);(try clear hb2);(try clear hk);(try clear hi);have hcz15_0 : w14.cell? ⟨gb426,0,none⟩=some (.string a0_0):=(zz BK426.out 0).trans rfl;have hcz15_1 : w14.cell? ⟨gb426,1,none⟩=some (.slice A0_1 l0_1.length c0_1):=(zz BK426.out 1).trans rfl;have hfz15_0:=zA BK426.out 0;have hfz15_1:=zA BK426.out 1)|((with_reducible refine zJ (f:=12) rfl ?_);refine yj (some 13) rfl rfl Tryz.func12 (by kernel_rfl) rfl #[.agg #[.string a0_0,.slice A0_1 l0_1.length c0_1]] rfl (by (try simp only [zt,zu,zv]);first|done|rfl|(simp only [zw,zx];rfl)|(simp only [yr,ys,zV,zW];rfl)) ?_;(with_reducible refine (Fv.calls k  a0_0 _ _ l0_1 t428 t429 _ ?side1 ?side2 A7.out).mono ?_);(case side1 => repeat (first|exact (Kd.C_below HR0_1.out HB.out)|(with_reducible refine Kd.C_alloc ?_ _)|(with_reducible refine Kd.C_drewN ?_ _)|(with_reducible refine Kd.C_drew ?_)));(case side2 => exact HC0_1.out);rintro e w16 ⟨v430,rfl,ho0,hb⟩;refine ⟨_,rfl,?_⟩;have HO431:=zh (Kd.S_lower ho0 (zB (by repeat (with_reducible first|exact HB.out|apply za|apply zb|apply zc|refine zd ?_ GE426.out))));replace BK426:=zh (zD (g:=gb426) (o:=.cells #[.string a0_0,.slice A0_1 l0_1.length c0_1] 34 (0,0)) (by (with_reducible repeat (first|refine ze ?_ _|refine zf ?_|refine zg ?_ _));exact BK426.out) hb);replace HB:=zh (zC (by repeat (with_reducible first|exact HB.out|apply za|apply zb|apply zc|refine zd ?_ GE426.out)) hb);(try clear hb);(try clear hb2);(try clear hk);(try clear hi);(try clear ho0);obtain ⟨Ao17,co17,eo17⟩:=Kd.S_slice HO431.out;subst eo17)|((with_reducible refine zJ (f:=11) rfl ?_);refine yj (some 14) rfl rfl Tryz.func11 (by kernel_rfl) rfl #[.agg #[.string t428,.slice Ao17 t429.length co17]] rfl (by (try simp only [zt,zu,zv]);first|done|rfl|(simp only [zw,zx];rfl)|(simp only [yr,ys,zV,zW];rfl)) ?_;(with_reducible refine (F0d.calls k  t428 _ _ t429 t432 _ ?side1 ?side2 A8.out).mono ?_);(case side1 => repeat (first|exact (Kd.S_reads' HO431.out).2.2|(with_reducible refine Kd.C_alloc ?_ _)|(with_reducible refine Kd.C_drewN ?_ _)|(with_reducible refine Kd.C_drew ?_)));(case side2 => exact (Kd.S_reads' HO431.out).2.1);rintro e w18 ⟨rfl,hb⟩;refine ⟨_,rfl,?_⟩;replace HO431:=zh (Kd.S_below (by (with_reducible repeat (first|apply Kd.S_alloc|apply Kd.S_drewN|apply Kd.S_drew));exact HO431.out) hb);replace BK426:=zh (zD (g:=gb426) (o:=.cells #[.string a0_0,.slice A0_1 l0_1.length c0_1] 34 (0,0)) (by (with_reducible repeat (first|refine ze ?_ _|refine zf ?_|refine zg ?_ _));exact BK426.out) hb);replace HB:=zh (zC (by repeat (with_reducible first|exact HB.out|apply za|apply zb|apply zc|refine zd ?_ GE426.out)) hb);(try clear hb);(try clear hb2);(try clear hk);(try clear hi);have hcz19_0 : w18.cell? ⟨gb426,0,none⟩=some (.string a0_0):=(zz BK426.out 0).trans rfl;have hcz19_1 : w18.cell? ⟨gb426,1,none⟩=some (.slice A0_1 l0_1.length c0_1):=(zz BK426.out 1).trans rfl;have hfz19_0:=zA BK426.out 0;have hfz19_1:=zA BK426.out 1)|((with_reducible refine zJ (f:=12) rfl ?_);refine yj (some 16) rfl rfl Tryz.func12 (by kernel_rfl) rfl #[.agg #[.string a0_0,.slice A0_1 l0_1.length c0_1]] rfl (by (try simp only [zt,zu,zv]);first|done|rfl|(simp only [zw,zx];rfl)|(simp only [yr,ys,zV,zW];rfl)) ?_;(with_reducible refine (Fv.calls k  a0_0 _ _ l0_1 t433 t434 _ ?side1 ?side2 A9.out).mono ?_);(case side1 => repeat (first|exact (Kd.C_below HR0_1.out HB.out)|(with_reducible refine Kd.C_alloc ?_ _)|(with_reducible refine Kd.C_drewN ?_ _)|(with_reducible refine Kd.C_drew ?_)));(case side2 => exact HC0_1.out);rintro e w20 ⟨v435,rfl,ho0,hb⟩;refine ⟨_,rfl,?_⟩;have HO436:=zh (Kd.S_lower (Kd.S_new' ho0 (Kd.S_lt (by (with_reducible repeat (first|apply Kd.S_alloc|apply Kd.S_drewN|apply Kd.S_drew));exact HO431.out))) (zB (by repeat (with_reducible first|exact HB.out|apply za|apply zb|apply zc|refine zd ?_ GE426.out))));replace HO431:=zh (Kd.S_elder' (by (with_reducible repeat (first|apply Kd.S_alloc|apply Kd.S_drewN|apply Kd.S_drew));exact HO431.out) (Kd.S_base ho0) hb);replace BK426:=zh (zD (g:=gb426) (o:=.cells #[.string a0_0,.slice A0_1 l0_1.length c0_1] 34 (0,0)) (by (with_reducible repeat (first|refine ze ?_ _|refine zf ?_|refine zg ?_ _));exact BK426.out) hb);replace HB:=zh (zC (by repeat (with_reducible first|exact HB.out|apply za|apply zb|apply zc|refine zd ?_ GE426.out)) hb);(try clear hb);(try clear hb2);(try clear hk);(try clear hi);(try clear ho0))|((with_reducible refine zK (N:=5) rfl ?_);refine zI ?hg (N:=5) ?hd (cs:=#[.string (⟨#[]⟩ : ByteArray),.slice none 0 0]) (t:=38) ?hr ?_;(case hd => rfl);(case hg => rfl);(case hr => first|(go_simp;done)|(go_simp;rfl));intro gb437 hg w21 hbox hb;replace HO431:=zh (Kd.S_below (by (with_reducible repeat (first|apply Kd.S_alloc|apply Kd.S_drewN|apply Kd.S_drew));exact HO431.out) hb);replace HO436:=zh (Kd.S_below (by (with_reducible repeat (first|apply Kd.S_alloc|apply Kd.S_drewN|apply Kd.S_drew));exact HO436.out) hb);have BK437:=zh (hbox);have GW437:=zh ((by rw [hg];exact (zB (by repeat (with_reducible first|exact HB.out|apply za|apply zb|apply zc|refine zd ?_ GE426.out))) : w.heap.size≤gb437));have GE437:=zh ((by rw [hg];exact (zB (by repeat (with_reducible first|exact HB.out|apply za|apply zb|apply zc|refine zd ?_ GE426.out))) : w.heap.size≤gb437));replace HB:=zh (zC (by repeat (with_reducible first|exact HB.out|apply za|apply zb|apply zc|refine zd ?_ GE426.out)) hb);have NB426_437:=zh ((by rw [hg];exact yc (yi (g:=gb426) (o:=.cells #[.string a0_0,.slice A0_1 l0_1.length c0_1] 34 (0,0)) (by (with_reducible repeat (first|refine ze ?_ _|refine zf ?_|refine zg ?_ _));exact BK426.out)) : gb426≠gb437));have NB437_426:=zh ((by rw [hg];exact yd (yi (g:=gb426) (o:=.cells #[.string a0_0,.slice A0_1 l0_1.length c0_1] 34 (0,0)) (by (with_reducible repeat (first|refine ze ?_ _|refine zf ?_|refine zg ?_ _));exact BK426.out)) : gb437≠gb426));replace BK426:=zh (zD (g:=gb426) (o:=.cells #[.string a0_0,.slice A0_1 l0_1.length c0_1] 34 (0,0)) (by (with_reducible repeat (first|refine ze ?_ _|refine zf ?_|refine zg ?_ _));exact BK426.out) hb);clear hb hbox hg;have hnb22:=NB437_426.out;have hnc22:=NB426_437.out;have hcz23_0 : w21.cell? ⟨gb437,0,none⟩=some (.string (⟨#[]⟩ : ByteArray)):=(zz BK437.out 0).trans rfl;have hcz23_1 : w21.cell? ⟨gb437,1,none⟩=some (.slice none 0 0):=(zz BK437.out 1).trans rfl;have hfz23_0:=zA BK437.out 0;have hfz23_1:=zA BK437.out 1;obtain ⟨Ao24,co24,eo24⟩:=Kd.S_slice HO436.out;subst eo24)|((with_reducible refine zJ (f:=13) rfl ?_);refine yj (some 18) rfl rfl Tryz.func13 (by kernel_rfl) rfl #[.agg #[.string t433,.slice Ao24 t434.length co24]] rfl (by (try simp only [zt,zu,zv]);first|done|rfl|(simp only [zw,zx];rfl)|(simp only [yr,ys,zV,zW];rfl)) ?_;(with_reducible refine (F0a.calls k  t433 _ _ t434 t438 _ ?side1 ?side2 A10.out).mono ?_);(case side1 => refine (Kd.S_reads' (e:=46) (base:=w.heap.size) (ok:=fun k_ => (True∧some k_≠(.slice Ao17 t429.length co17 : Value).ownBlock)) (n:=t434.length) (c:=co24) ?_).2.2;exact (by (with_reducible repeat (first|apply Kd.S_alloc|apply Kd.S_drewN|apply Kd.S_drew));exact (Kd.S_mono (Kd.S_far (p:=⟨gb437,1,none⟩) (Kd.S_far (p:=⟨gb437,0,none⟩) (Kd.S_types HO436.out BK437.out (by decide)) (fun _ hk => hk.2) (.string t433)) (fun _ hk => hk.2) (.slice Ao24 t434.length co24)) (fun _ h_ => h_.1))));(case side2 => exact (Kd.S_reads' HO436.out).2.1);rintro e w25 ⟨rfl,hb⟩;refine ⟨_,rfl,?_⟩;replace HO431:=zh (Kd.S_below (by (with_reducible repeat (first|apply Kd.S_alloc|apply Kd.S_drewN|apply Kd.S_drew));exact (Kd.S_mono (Kd.S_far (p:=⟨gb437,1,none⟩) (Kd.S_far (p:=⟨gb437,0,none⟩) (Kd.S_types HO431.out BK437.out (by decide)) (fun _ hk => hk.2) (.string t433)) (fun _ hk => hk.2) (.slice Ao24 t434.length co24)) (fun _ h_ => h_.1))) hb);replace HO436:=zh (Kd.S_below (by (with_reducible repeat (first|apply Kd.S_alloc|apply Kd.S_drewN|apply Kd.S_drew));exact (Kd.S_mono (Kd.S_far (p:=⟨gb437,1,none⟩) (Kd.S_far (p:=⟨gb437,0,none⟩) (Kd.S_types HO436.out BK437.out (by decide)) (fun _ hk => hk.2) (.string t433)) (fun _ hk => hk.2) (.slice Ao24 t434.length co24)) (fun _ h_ => h_.1))) hb);replace BK426:=zh (zD (g:=gb426) (o:=.cells #[.string a0_0,.slice A0_1 l0_1.length c0_1] 34 (0,0)) (by (with_reducible repeat (first|refine ze ?_ _|refine zf ?_|refine zg ?_ _));refine zS ?_ NB426_437.out _;(with_reducible repeat (first|refine ze ?_ _|refine zf ?_|refine zg ?_ _));refine zS ?_ NB426_437.out _;(with_reducible repeat (first|refine ze ?_ _|refine zf ?_|refine zg ?_ _));exact BK426.out) hb);replace BK437:=zh (zD (g:=gb437) (o:=.cells #[.string t433,.slice Ao24 t434.length co24] 38 (0,0)) (by (with_reducible repeat (first|refine ze ?_ _|refine zf ?_|refine zg ?_ _));refine zL (cs:=#[.string t433,.slice none 0 0]) ?_ 1 _ rfl;(with_reducible repeat (first|refine ze ?_ _|refine zf ?_|refine zg ?_ _));refine zL (cs:=#[.string (⟨#[]⟩ : ByteArray),.slice none 0 0]) ?_ 0 _ rfl;(with_reducible repeat (first|refine ze ?_ _|refine zf ?_|refine zg ?_ _));exact BK437.out) hb);replace HB:=zh (zC (by repeat (with_reducible first|exact HB.out|apply za|apply zb|apply zc|refine zd ?_ GE426.out|refine zd ?_ GE437.out)) hb);(try clear hb);(try clear hb2);(try clear hk);(try clear hi)))
  go_ret
  exact ⟨by first|rfl|(simp [yt,yu] <;> rfl)|(simp [*,yt,yu] <;> rfl),by repeat (with_reducible first|exact HB.out|apply za|apply zb|apply zc|refine zd ?_ GE426.out|refine zd ?_ GE437.out)⟩
 rw [if_neg c11] at H;have c11b0 : (t438 != t432)=false:=by simpa using c11
 (try (have c11b1 : decide (t438=t432)=true:=by simpa using c11));(try (have c11b2 : (t438 == t432)=true:=by simpa using c11));clear c11;replace H:=zT.mp H;obtain ⟨⟨t439,t440⟩,A260,H⟩:=H;replace H : ((F0b.f k t433 t434 t439 t440).bind fun t443 => (if t443=true then (some true) else (some false)))=some r:=H;have A26:=zh A260;clear A260;replace H:=zT.mp H;obtain ⟨t443,A270,H⟩:=H;replace H : (if t443=true then (some true) else (some false))=some r:=H;have A27:=zh A270;clear A270
 by_cases c28 : t443=true
 ·
  subst c28
  have H1 : (some true)=some r:=by rw [if_pos rfl] at H;exact H
  clear H;have H:=H1;clear H1;obtain rfl:=zU H
  go_enter Tryz.func4,Tryz.ntmps4
  try go_wp2_with (first|((with_reducible refine zK (N:=1) rfl ?_);refine zI ?hg (N:=1) ?hd (cs:=#[.string a0_0,.slice A0_1 l0_1.length c0_1]) (t:=34) ?hr ?_;(case hd => rfl);(case hg => rfl);(case hr => first|(go_simp;done)|(go_simp;rfl));intro gb426 hg w29 hbox hb;have BK426:=zh (hbox);have GW426:=zh ((by rw [hg];exact (zB (by repeat (with_reducible first|exact HB.out|apply za|apply zb|apply zc))) : w.heap.size≤gb426));have GE426:=zh ((by rw [hg];exact (zB (by repeat (with_reducible first|exact HB.out|apply za|apply zb|apply zc))) : w.heap.size≤gb426));replace HB:=zh (zC (by repeat (with_reducible first|exact HB.out|apply za|apply zb|apply zc)) hb);clear hb hbox hg;have hcz30_0 : w29.cell? ⟨gb426,0,none⟩=some (.string a0_0):=(zz BK426.out 0).trans rfl;have hcz30_1 : w29.cell? ⟨gb426,1,none⟩=some (.slice A0_1 l0_1.length c0_1):=(zz BK426.out 1).trans rfl;have hfz30_0:=zA BK426.out 0;have hfz30_1:=zA BK426.out 1)|((with_reducible refine zJ (f:=10) rfl ?_);refine yj (some 9) rfl rfl Tryz.func10 (by kernel_rfl) rfl #[.agg #[.string a0_0,.slice A0_1 l0_1.length c0_1],.int .i64 1048576] rfl (by (try simp only [zt,zu,zv]);first|done|rfl|(simp only [zw,zx];rfl)|(simp only [yr,ys,zV,zW];rfl)) ?_;(with_reducible refine (F0g.calls k  a0_0 _ _ l0_1 1048576 t427 _ ?side1 ?side2 A2.out).mono ?_);(case side1 => repeat (first|exact (Kd.C_below HR0_1.out HB.out)|(with_reducible refine Kd.C_alloc ?_ _)|(with_reducible refine Kd.C_drewN ?_ _)|(with_reducible refine Kd.C_drew ?_)));(case side2 => exact HC0_1.out);rintro e w31 ⟨rfl,hb⟩;refine ⟨_,rfl,?_⟩;replace BK426:=zh (zD (g:=gb426) (o:=.cells #[.string a0_0,.slice A0_1 l0_1.length c0_1] 34 (0,0)) (by (with_reducible repeat (first|refine ze ?_ _|refine zf ?_|refine zg ?_ _));exact BK426.out) hb);replace HB:=zh (zC (by repeat (with_reducible first|exact HB.out|apply za|apply zb|apply zc|refine zd ?_ GE426.out)) hb);(try clear hb);(try clear hb2);(try clear hk);(try clear hi);have hcz32_0 : w31.cell? ⟨gb426,0,none⟩=some (.string a0_0):=(zz BK426.out 0).trans rfl;have hcz32_1 : w31.cell? ⟨gb426,1,none⟩=some (.slice A0_1 l0_1.length c0_1):=(zz BK426.out 1).trans rfl;have hfz32_0:=zA BK426.out 0;have hfz32_1:=zA BK426.out 1)|((with_reducible refine zJ (f:=12) rfl ?_);refine yj (some 13) rfl rfl Tryz.func12 (by kernel_rfl) rfl #[.agg #[.string a0_0,.slice A0_1 l0_1.length c0_1]] rfl (by (try simp only [zt,zu,zv]);first|done|rfl|(simp only [zw,zx];rfl)|(simp only [yr,ys,zV,zW];rfl)) ?_;(with_reducible refine (Fv.calls k  a0_0 _ _ l0_1 t428 t429 _ ?side1 ?side2 A7.out).mono ?_);(case side1 => repeat (first|exact (Kd.C_below HR0_1.out HB.out)|(with_reducible refine Kd.C_alloc ?_ _)|(with_reducible refine Kd.C_drewN ?_ _)|(with_reducible refine Kd.C_drew ?_)));(case side2 => exact HC0_1.out);rintro e w33 ⟨v430,rfl,ho0,hb⟩;refine ⟨_,rfl,?_⟩;have HO431:=zh (Kd.S_lower ho0 (zB (by repeat (with_reducible first|exact HB.out|apply za|apply zb|apply zc|refine zd ?_ GE426.out))));replace BK426:=zh (zD (g:=gb426) (o:=.cells #[.string a0_0,.slice A0_1 l0_1.length c0_1] 34 (0,0)) (by (with_reducible repeat (first|refine ze ?_ _|refine zf ?_|refine zg ?_ _));exact BK426.out) hb);replace HB:=zh (zC (by repeat (with_reducible first|exact HB.out|apply za|apply zb|apply zc|refine zd ?_ GE426.out)) hb);(try clear hb);(try clear hb2);(try clear hk);(try clear hi);(try clear ho0);obtain ⟨Ao34,co34,eo34⟩:=Kd.S_slice HO431.out;subst eo34)|((with_reducible refine zJ (f:=11) rfl ?_);refine yj (some 14) rfl rfl Tryz.func11 (by kernel_rfl) rfl #[.agg #[.string t428,.slice Ao34 t429.length co34]] rfl (by (try simp only [zt,zu,zv]);first|done|rfl|(simp only [zw,zx];rfl)|(simp only [yr,ys,zV,zW];rfl)) ?_;(with_reducible refine (F0d.calls k  t428 _ _ t429 t432 _ ?side1 ?side2 A8.out).mono ?_);(case side1 => repeat (first|exact (Kd.S_reads' HO431.out).2.2|(with_reducible refine Kd.C_alloc ?_ _)|(with_reducible refine Kd.C_drewN ?_ _)|(with_reducible refine Kd.C_drew ?_)));(case side2 => exact (Kd.S_reads' HO431.out).2.1);rintro e w35 ⟨rfl,hb⟩;refine ⟨_,rfl,?_⟩;replace HO431:=zh (Kd.S_below (by (with_reducible repeat (first|apply Kd.S_alloc|apply Kd.S_drewN|apply Kd.S_drew));exact HO431.out) hb);replace BK426:=zh (zD (g:=gb426) (o:=.cells #[.string a0_0,.slice A0_1 l0_1.length c0_1] 34 (0,0)) (by (with_reducible repeat (first|refine ze ?_ _|refine zf ?_|refine zg ?_ _));exact BK426.out) hb);replace HB:=zh (zC (by repeat (with_reducible first|exact HB.out|apply za|apply zb|apply zc|refine zd ?_ GE426.out)) hb);(try clear hb);(try clear hb2);(try clear hk);(try clear hi);have hcz36_0 : w35.cell? ⟨gb426,0,none⟩=some (.string a0_0):=(zz BK426.out 0).trans rfl;have hcz36_1 : w35.cell? ⟨gb426,1,none⟩=some (.slice A0_1 l0_1.length c0_1):=(zz BK426.out 1).trans rfl;have hfz36_0:=zA BK426.out 0;have hfz36_1:=zA BK426.out 1)|((with_reducible refine zJ (f:=12) rfl ?_);refine yj (some 16) rfl rfl Tryz.func12 (by kernel_rfl) rfl #[.agg #[.string a0_0,.slice A0_1 l0_1.length c0_1]] rfl (by (try simp only [zt,zu,zv]);first|done|rfl|(simp only [zw,zx];rfl)|(simp only [yr,ys,zV,zW];rfl)) ?_;(with_reducible refine (Fv.calls k  a0_0 _ _ l0_1 t433 t434 _ ?side1 ?side2 A9.out).mono ?_);(case side1 => repeat (first|exact (Kd.C_below HR0_1.out HB.out)|(with_reducible refine Kd.C_alloc ?_ _)|(with_reducible refine Kd.C_drewN ?_ _)|(with_reducible refine Kd.C_drew ?_)));(case side2 => exact HC0_1.out);rintro e w37 ⟨v435,rfl,ho0,hb⟩;refine ⟨_,rfl,?_⟩;have HO436:=zh (Kd.S_lower (Kd.S_new' ho0 (Kd.S_lt (by (with_reducible repeat (first|apply Kd.S_alloc|apply Kd.S_drewN|apply Kd.S_drew));exact HO431.out))) (zB (by repeat (with_reducible first|exact HB.out|apply za|apply zb|apply zc|refine zd ?_ GE426.out))));replace HO431:=zh (Kd.S_elder' (by (with_reducible repeat (first|apply Kd.S_alloc|apply Kd.S_drewN|apply Kd.S_drew));exact HO431.out) (Kd.S_base ho0) hb);replace BK426:=zh (zD (g:=gb426) (o:=.cells #[.string a0_0,.slice A0_1 l0_1.length c0_1] 34 (0,0)) (by (with_reducible repeat (first|refine ze ?_ _|refine zf ?_|refine zg ?_ _));exact BK426.out) hb);replace HB:=zh (zC (by repeat (with_reducible first|exact HB.out|apply za|apply zb|apply zc|refine zd ?_ GE426.out)) hb);(try clear hb);(try clear hb2);(try clear hk);(try clear hi);(try clear ho0))|((with_reducible refine zK (N:=5) rfl ?_);refine zI ?hg (N:=5) ?hd (cs:=#[.string (⟨#[]⟩ : ByteArray),.slice none 0 0]) (t:=38) ?hr ?_;(case hd => rfl);(case hg => rfl);(case hr => first|(go_simp;done)|(go_simp;rfl));intro gb437 hg w38 hbox hb;replace HO431:=zh (Kd.S_below (by (with_reducible repeat (first|apply Kd.S_alloc|apply Kd.S_drewN|apply Kd.S_drew));exact HO431.out) hb);replace HO436:=zh (Kd.S_below (by (with_reducible repeat (first|apply Kd.S_alloc|apply Kd.S_drewN|apply Kd.S_drew));exact HO436.out) hb);have BK437:=zh (hbox);have GW437:=zh ((by rw [hg];exact (zB (by repeat (with_reducible first|exact HB.out|apply za|apply zb|apply zc|refine zd ?_ GE426.out))) : w.heap.size≤gb437));have GE437:=zh ((by rw [hg];exact (zB (by repeat (with_reducible first|exact HB.out|apply za|apply zb|apply zc|refine zd ?_ GE426.out))) : w.heap.size≤gb437));replace HB:=zh (zC (by repeat (with_reducible first|exact HB.out|apply za|apply zb|apply zc|refine zd ?_ GE426.out)) hb);have NB426_437:=zh ((by rw [hg];exact yc (yi (g:=gb426) (o:=.cells #[.string a0_0,.slice A0_1 l0_1.length c0_1] 34 (0,0)) (by (with_reducible repeat (first|refine ze ?_ _|refine zf ?_|refine zg ?_ _));exact BK426.out)) : gb426≠gb437));have NB437_426:=zh ((by rw [hg];exact yd (yi (g:=gb426) (o:=.cells #[.string a0_0,.slice A0_1 l0_1.length c0_1] 34 (0,0)) (by (with_reducible repeat (first|refine ze ?_ _|refine zf ?_|refine zg ?_ _));exact BK426.out)) : gb437≠gb426));replace BK426:=zh (zD (g:=gb426) (o:=.cells #[.string a0_0,.slice A0_1 l0_1.length c0_1] 34 (0,0)) (by (with_reducible repeat (first|refine ze ?_ _|refine zf ?_|refine zg ?_ _));exact BK426.out) hb);clear hb hbox hg;have hnb39:=NB437_426.out;have hnc39:=NB426_437.out;have hcz40_0 : w38.cell? ⟨gb437,0,none⟩=some (.string (⟨#[]⟩ : ByteArray)):=(zz BK437.out 0).trans rfl;have hcz40_1 : w38.cell? ⟨gb437,1,none⟩=some (.slice none 0 0):=(zz BK437.out 1).trans rfl;have hfz40_0:=zA BK437.out 0;have hfz40_1:=zA BK437.out 1;obtain ⟨Ao41,co41,eo41⟩:=Kd.S_slice HO436.out;subst eo41)|((with_reducible refine zJ (f:=13) rfl ?_);refine yj (some 18) rfl rfl Tryz.func13 (by kernel_rfl) rfl #[.agg #[.string t433,.slice Ao41 t434.length co41]] rfl (by (try simp only [zt,zu,zv]);first|done|rfl|(simp only [zw,zx];rfl)|(simp only [yr,ys,zV,zW];rfl)) ?_;(with_reducible refine (F0a.calls k  t433 _ _ t434 t438 _ ?side1 ?side2 A10.out).mono ?_);(case side1 => refine (Kd.S_reads' (e:=46) (base:=w.heap.size) (ok:=fun k_ => (True∧some k_≠(.slice Ao34 t429.length co34 : Value).ownBlock)) (n:=t434.length) (c:=co41) ?_).2.2;exact (by (with_reducible repeat (first|apply Kd.S_alloc|apply Kd.S_drewN|apply Kd.S_drew));exact (Kd.S_mono (Kd.S_far (p:=⟨gb437,1,none⟩) (Kd.S_far (p:=⟨gb437,0,none⟩) (Kd.S_types HO436.out BK437.out (by decide)) (fun _ hk => hk.2) (.string t433)) (fun _ hk => hk.2) (.slice Ao41 t434.length co41)) (fun _ h_ => h_.1))));(case side2 => exact (Kd.S_reads' HO436.out).2.1);rintro e w42 ⟨rfl,hb⟩;refine ⟨_,rfl,?_⟩;replace HO431:=zh (Kd.S_below (by (with_reducible repeat (first|apply Kd.S_alloc|apply Kd.S_drewN|apply Kd.S_drew));exact (Kd.S_mono (Kd.S_far (p:=⟨gb437,1,none⟩) (Kd.S_far (p:=⟨gb437,0,none⟩) (Kd.S_types HO431.out BK437.out (by decide)) (fun _ hk => hk.2) (.string t433)) (fun _ hk => hk.2) (.slice Ao41 t434.length co41)) (fun _ h_ => h_.1))) hb);replace HO436:=zh (Kd.S_below (by (with_reducible repeat (first|apply Kd.S_alloc|apply Kd.S_drewN|apply Kd.S_drew));exact (Kd.S_mono (Kd.S_far (p:=⟨gb437,1,none⟩) (Kd.S_far (p:=⟨gb437,0,none⟩) (Kd.S_types HO436.out BK437.out (by decide)) (fun _ hk => hk.2) (.string t433)) (fun _ hk => hk.2) (.slice Ao41 t434.length co41)) (fun _ h_ => h_.1))) hb);replace BK426:=zh (zD (g:=gb426) (o:=.cells #[.string a0_0,.slice A0_1 l0_1.length c0_1] 34 (0,0)) (by (with_reducible repeat (first|refine ze ?_ _|refine zf ?_|refine zg ?_ _));refine zS ?_ NB426_437.out _;(with_reducible repeat (first|refine ze ?_ _|refine zf ?_|refine zg ?_ _));refine zS ?_ NB426_437.out _;(with_reducible repeat (first|refine ze ?_ _|refine zf ?_|refine zg ?_ _));exact BK426.out) hb);replace BK437:=zh (zD (g:=gb437) (o:=.cells #[.string t433,.slice Ao41 t434.length co41] 38 (0,0)) (by (with_reducible repeat (first|refine ze ?_ _|refine zf ?_|refine zg ?_ _));refine zL (cs:=#[.string t433,.slice none 0 0]) ?_ 1 _ rfl;(with_reducible repeat (first|refine ze ?_ _|refine zf ?_|refine zg ?_ _));refine zL (cs:=#[.string (⟨#[]⟩ : ByteArray),.slice none 0 0]) ?_ 0 _ rfl;(with_reducible repeat (first|refine ze ?_ _|refine zf ?_|refine zg ?_ _));exact BK437.out) hb);replace HB:=zh (zC (by repeat (with_reducible first|exact HB.out|apply za|apply zb|apply zc|refine zd ?_ GE426.out|refine zd ?_ GE437.out)) hb);(try clear hb);(try clear hb2);(try clear hk);(try clear hi)))
  replace HO431:=zh (Kd.S_drew HO431.out);replace HO436:=zh (Kd.S_drew HO436.out);replace BK426:=zh (zf BK426.out);replace BK437:=zh (zf BK437.out);replace HB:=zh (zc HB.out);refine start_ (n:=5) (S:=fun w' => w'.cell? ⟨gb437,0,none⟩=some (.string t433)∧w'.cell? ⟨gb437,1,none⟩=some (.slice Ao41 t434.length co41)∧w'.cell? ⟨gb426,0,none⟩=some (.string a0_0)∧w'.cell? ⟨gb426,1,none⟩=some (.slice A0_1 l0_1.length c0_1)) (ds:=[]) #[false,false,false,false,false] (by kernel_rfl) rfl rfl ⟨(zz BK437.out 0).trans rfl,(zz BK437.out 1).trans rfl,(zz BK426.out 0).trans rfl,(zz BK426.out 1).trans rfl⟩ (fun hHeld => ?_);generalize w42.drew=w43 at HO431 HO436 BK426 BK437 HB hHeld ⊢;refine take_ (i:=0) (N:=some 22) (v:=?_) (a':=?_) #[true,false,false,false,false] rfl rfl (by kernel_rfl) (fun _ _ _ h => h) (Or.inl ⟨by rfl,?_⟩) hHeld ?_ ?_;rotate_left
  ·
   rintro w' ⟨s0,s1,s2,s3⟩
   go_simp
   with_reducible rfl
  rotate_left
  ·
   simp only [Act.put,zi,zj,zk,zG,zH]
   rfl
  refine take_ (i:=1) (N:=some 23) (v:=?_) (a':=?_) #[true,true,false,false,false] rfl rfl (by kernel_rfl) (fun _ _ _ h => h) (Or.inl ⟨by rfl,?_⟩) hHeld ?_ ?_;rotate_left
  ·
   rintro w' ⟨s0,s1,s2,s3⟩
   go_simp
   with_reducible rfl
  rotate_left
  ·
   simp only [Act.put,zi,zj,zk,zG,zH]
   rfl
  refine one_ (i:=2) (N:=some 24) #[true,true,true,false,false] rfl rfl (by kernel_rfl) (by decide) (fun K hK => ?_);refine goes_ Tryz.func12 (by kernel_rfl) rfl #[.agg #[.string a0_0,.slice A0_1 l0_1.length c0_1]] (by rfl) rfl rfl (by (try simp only [zt,zu,zv]);first|done|rfl|(simp only [zw,zx];rfl)|(simp only [yr,ys,zV,zW];rfl)) ?_
  with_reducible refine (Fv.calls k  a0_0 _ _ l0_1 t439 t440 _ ?side1 ?side2 A26.out).mono ?_
  (case side1 => repeat (first|exact (Kd.C_below HR0_1.out HB.out)|(with_reducible refine Kd.C_alloc ?_ _)|(with_reducible refine Kd.C_drewN ?_ _)|(with_reducible refine Kd.C_drew ?_)))
  (case side2 => exact HC0_1.out)
  rintro e w44 ⟨v441,rfl,ho0,hb⟩;refine ⟨_,rfl,?_⟩;have HO442:=zh (Kd.S_lower (Kd.S_new' (Kd.S_new' ho0 (Kd.S_lt (by (with_reducible repeat (first|apply Kd.S_alloc|apply Kd.S_drewN|apply Kd.S_drew));exact HO431.out))) (Kd.S_lt (by (with_reducible repeat (first|apply Kd.S_alloc|apply Kd.S_drewN|apply Kd.S_drew));exact HO436.out))) (zB (by repeat (with_reducible first|exact HB.out|apply za|apply zb|apply zc|refine zd ?_ GE426.out|refine zd ?_ GE437.out))));replace HO431:=zh (Kd.S_elder' (by (with_reducible repeat (first|apply Kd.S_alloc|apply Kd.S_drewN|apply Kd.S_drew));exact HO431.out) (Kd.S_base ho0) hb);replace HO436:=zh (Kd.S_elder' (by (with_reducible repeat (first|apply Kd.S_alloc|apply Kd.S_drewN|apply Kd.S_drew));exact HO436.out) (Kd.S_base ho0) hb);replace BK426:=zh (zD (g:=gb426) (o:=.cells #[.string a0_0,.slice A0_1 l0_1.length c0_1] 34 (0,0)) (by (with_reducible repeat (first|refine ze ?_ _|refine zf ?_|refine zg ?_ _));exact BK426.out) hb);replace BK437:=zh (zD (g:=gb437) (o:=.cells #[.string t433,.slice Ao41 t434.length co41] 38 (0,0)) (by (with_reducible repeat (first|refine ze ?_ _|refine zf ?_|refine zg ?_ _));exact BK437.out) hb);replace HB:=zh (zC (by repeat (with_reducible first|exact HB.out|apply za|apply zb|apply zc|refine zd ?_ GE426.out|refine zd ?_ GE437.out)) hb);(try clear hb);(try clear hb2);(try clear hk);(try clear hi);(try clear ho0);obtain ⟨Ao45,co45,eo45⟩:=Kd.S_slice HO442.out;(first|subst eo45|(injection eo45 with f1_ f2_ f3_;have f4_:=f1_.symm;have f5_:=f3_.symm;clear f1_ f2_ f3_;subst f4_;subst f5_));refine hK.out _ _ ⟨(zz BK437.out 0).trans rfl,(zz BK437.out 1).trans rfl,(zz BK426.out 0).trans rfl,(zz BK426.out 1).trans rfl⟩ (fun hHeld => ?_);clear hK K;refine norm_ (a':=?_) ?_ ?_;rotate_left
  ·
   show Act.put _ (some 24) _=_
   simp only [Act.put,zi,zj,zk,zG,zH]
   rfl
  refine one_ (i:=3) (N:=some 25) #[true,true,true,true,false] rfl rfl (by kernel_rfl) (by decide) (fun K hK => ?_);refine goes_ Tryz.func14 (by kernel_rfl) rfl #[.agg #[.string t433,.slice Ao41 t434.length co41],.agg #[.string t439,.slice Ao45 t440.length co45]] (by rfl) rfl rfl (by (try simp only [zt,zu,zv]);first|done|rfl|(simp only [zw,zx];rfl)|(simp only [yr,ys,zV,zW];rfl)) ?_
  with_reducible refine (F0b.calls k  t433 _ _ t434 t439 _ _ t440 true _ ?side1 ?side2 ?side3 ?side4 A27.out).mono ?_
  (case side1 => repeat (first|exact (Kd.S_reads' HO436.out).2.2|(with_reducible refine Kd.C_alloc ?_ _)|(with_reducible refine Kd.C_drewN ?_ _)|(with_reducible refine Kd.C_drew ?_)))
  (case side2 => exact (Kd.S_reads' HO436.out).2.1)
  (case side3 => repeat (first|exact (Kd.S_reads' HO442.out).2.2|(with_reducible refine Kd.C_alloc ?_ _)|(with_reducible refine Kd.C_drewN ?_ _)|(with_reducible refine Kd.C_drew ?_)))
  (case side4 => exact (Kd.S_reads' HO442.out).2.1)
  rintro e w46 ⟨rfl,hb⟩;refine ⟨_,rfl,?_⟩;replace HO431:=zh (Kd.S_below (by (with_reducible repeat (first|apply Kd.S_alloc|apply Kd.S_drewN|apply Kd.S_drew));exact HO431.out) hb);replace HO436:=zh (Kd.S_below (by (with_reducible repeat (first|apply Kd.S_alloc|apply Kd.S_drewN|apply Kd.S_drew));exact HO436.out) hb);replace HO442:=zh (Kd.S_below (by (with_reducible repeat (first|apply Kd.S_alloc|apply Kd.S_drewN|apply Kd.S_drew));exact HO442.out) hb);replace BK426:=zh (zD (g:=gb426) (o:=.cells #[.string a0_0,.slice A0_1 l0_1.length c0_1] 34 (0,0)) (by (with_reducible repeat (first|refine ze ?_ _|refine zf ?_|refine zg ?_ _));exact BK426.out) hb);replace BK437:=zh (zD (g:=gb437) (o:=.cells #[.string t433,.slice Ao41 t434.length co41] 38 (0,0)) (by (with_reducible repeat (first|refine ze ?_ _|refine zf ?_|refine zg ?_ _));exact BK437.out) hb);replace HB:=zh (zC (by repeat (with_reducible first|exact HB.out|apply za|apply zb|apply zc|refine zd ?_ GE426.out|refine zd ?_ GE437.out)) hb);(try clear hb);(try clear hb2);(try clear hk);(try clear hi);refine hK.out _ _ ⟨(zz BK437.out 0).trans rfl,(zz BK437.out 1).trans rfl,(zz BK426.out 0).trans rfl,(zz BK426.out 1).trans rfl⟩ (fun hHeld => ?_);clear hK K;refine norm_ (a':=?_) ?_ ?_;rotate_left
  ·
   show Act.put _ (some 25) _=_
   simp only [Act.put,zi,zj,zk,zG,zH]
   rfl
  refine pure_ (i:=4) (N:=some 26) (v:=?_) (a':=?_) #[true,true,true,true,true] rfl rfl (by kernel_rfl) (fun _ _ _ h => h) (Or.inl ⟨by rfl,?_⟩) ?_ ?_;rotate_left
  ·
   intro w'
   go_simp
   with_reducible rfl
  rotate_left
  ·
   simp only [Act.put,zi,zj,zk,zG,zH]
   rfl
  refine done_ (by kernel_rfl) ?_
  try go_wp2
  go_ret
  exact ⟨by first|rfl|(simp [yt,yu] <;> rfl)|(simp [*,yt,yu] <;> rfl),by repeat (with_reducible first|exact HB.out|apply za|apply zb|apply zc|refine zd ?_ GE426.out|refine zd ?_ GE437.out)⟩
 replace c28:=yb.mpr c28;subst c28;have H1 : (some false)=some r:=by rw [if_neg (show ¬ (false=true) by decide)] at H;exact H
 clear H;have H:=H1;clear H1;obtain rfl:=zU H
 go_enter Tryz.func4,Tryz.ntmps4
 try go_wp2_with (first|((with_reducible refine zK (N:=1) rfl ?_);refine zI ?hg (N:=1) ?hd (cs:=#[.string a0_0,.slice A0_1 l0_1.length c0_1]) (t:=34) ?hr ?_;(case hd => rfl);(case hg => rfl);(case hr => first|(go_simp;done)|(go_simp;rfl));intro gb426 hg w47 hbox hb;have BK426:=zh (hbox);have GW426:=zh ((by rw [hg];exact (zB (by repeat (with_reducible first|exact HB.out|apply za|apply zb|apply zc))) : w.heap.size≤gb426));have GE426:=zh ((by rw [hg];exact (zB (by repeat (with_reducible first|exact HB.out|apply za|apply zb|apply zc))) : w.heap.size≤gb426));replace HB:=zh (zC (by repeat (with_reducible first|exact HB.out|apply za|apply zb|apply zc)) hb);clear hb hbox hg;have hcz48_0 : w47.cell? ⟨gb426,0,none⟩=some (.string a0_0):=(zz BK426.out 0).trans rfl;have hcz48_1 : w47.cell? ⟨gb426,1,none⟩=some (.slice A0_1 l0_1.length c0_1):=(zz BK426.out 1).trans rfl;have hfz48_0:=zA BK426.out 0;have hfz48_1:=zA BK426.out 1)|((with_reducible refine zJ (f:=10) rfl ?_);refine yj (some 9) rfl rfl Tryz.func10 (by kernel_rfl) rfl #[.agg #[.string a0_0,.slice A0_1 l0_1.length c0_1],.int .i64 1048576] rfl (by (try simp only [zt,zu,zv]);first|done|rfl|(simp only [zw,zx];rfl)|(simp only [yr,ys,zV,zW];rfl)) ?_;(with_reducible refine (F0g.calls k  a0_0 _ _ l0_1 1048576 t427 _ ?side1 ?side2 A2.out).mono ?_);(case side1 => repeat (first|exact (Kd.C_below HR0_1.out HB.out)|(with_reducible refine Kd.C_alloc ?_ _)|(with_reducible refine Kd.C_drewN ?_ _)|(with_reducible refine Kd.C_drew ?_)));(case side2 => exact HC0_1.out);rintro e w49 ⟨rfl,hb⟩;refine ⟨_,rfl,?_⟩;replace BK426:=zh (zD (g:=gb426) (o:=.cells #[.string a0_0,.slice A0_1 l0_1.length c0_1] 34 (0,0)) (by (with_reducible repeat (first|refine ze ?_ _|refine zf ?_|refine zg ?_ _));exact BK426.out) hb);replace HB:=zh (zC (by repeat (with_reducible first|exact HB.out|apply za|apply zb|apply zc|refine zd ?_ GE426.out)) hb);(try clear hb);(try clear hb2);(try clear hk);(try clear hi);have hcz50_0 : w49.cell? ⟨gb426,0,none⟩=some (.string a0_0):=(zz BK426.out 0).trans rfl;have hcz50_1 : w49.cell? ⟨gb426,1,none⟩=some (.slice A0_1 l0_1.length c0_1):=(zz BK426.out 1).trans rfl;have hfz50_0:=zA BK426.out 0;have hfz50_1:=zA BK426.out 1)|((with_reducible refine zJ (f:=12) rfl ?_);refine yj (some 13) rfl rfl Tryz.func12 (by kernel_rfl) rfl #[.agg #[.string a0_0,.slice A0_1 l0_1.length c0_1]] rfl (by (try simp only [zt,zu,zv]);first|done|rfl|(simp only [zw,zx];rfl)|(simp only [yr,ys,zV,zW];rfl)) ?_;(with_reducible refine (Fv.calls k  a0_0 _ _ l0_1 t428 t429 _ ?side1 ?side2 A7.out).mono ?_);(case side1 => repeat (first|exact (Kd.C_below HR0_1.out HB.out)|(with_reducible refine Kd.C_alloc ?_ _)|(with_reducible refine Kd.C_drewN ?_ _)|(with_reducible refine Kd.C_drew ?_)));(case side2 => exact HC0_1.out);rintro e w51 ⟨v430,rfl,ho0,hb⟩;refine ⟨_,rfl,?_⟩;have HO431:=zh (Kd.S_lower ho0 (zB (by repeat (with_reducible first|exact HB.out|apply za|apply zb|apply zc|refine zd ?_ GE426.out))));replace BK426:=zh (zD (g:=gb426) (o:=.cells #[.string a0_0,.slice A0_1 l0_1.length c0_1] 34 (0,0)) (by (with_reducible repeat (first|refine ze ?_ _|refine zf ?_|refine zg ?_ _));exact BK426.out) hb);replace HB:=zh (zC (by repeat (with_reducible first|exact HB.out|apply za|apply zb|apply zc|refine zd ?_ GE426.out)) hb);(try clear hb);(try clear hb2);(try clear hk);(try clear hi);(try clear ho0);obtain ⟨Ao52,co52,eo52⟩:=Kd.S_slice HO431.out;subst eo52)|((with_reducible refine zJ (f:=11) rfl ?_);refine yj (some 14) rfl rfl Tryz.func11 (by kernel_rfl) rfl #[.agg #[.string t428,.slice Ao52 t429.length co52]] rfl (by (try simp only [zt,zu,zv]);first|done|rfl|(simp only [zw,zx];rfl)|(simp only [yr,ys,zV,zW];rfl)) ?_;(with_reducible refine (F0d.calls k  t428 _ _ t429 t432 _ ?side1 ?side2 A8.out).mono ?_);(case side1 => repeat (first|exact (Kd.S_reads' HO431.out).2.2|(with_reducible refine Kd.C_alloc ?_ _)|(with_reducible refine Kd.C_drewN ?_ _)|(with_reducible refine Kd.C_drew ?_)));(case side2 => exact (Kd.S_reads' HO431.out).2.1);rintro e w53 ⟨rfl,hb⟩;refine ⟨_,rfl,?_⟩;replace HO431:=zh (Kd.S_below (by (with_reducible repeat (first|apply Kd.S_alloc|apply Kd.S_drewN|apply Kd.S_drew));exact HO431.out) hb);replace BK426:=zh (zD (g:=gb426) (o:=.cells #[.string a0_0,.slice A0_1 l0_1.length c0_1] 34 (0,0)) (by (with_reducible repeat (first|refine ze ?_ _|refine zf ?_|refine zg ?_ _));exact BK426.out) hb);replace HB:=zh (zC (by repeat (with_reducible first|exact HB.out|apply za|apply zb|apply zc|refine zd ?_ GE426.out)) hb);(try clear hb);(try clear hb2);(try clear hk);(try clear hi);have hcz54_0 : w53.cell? ⟨gb426,0,none⟩=some (.string a0_0):=(zz BK426.out 0).trans rfl;have hcz54_1 : w53.cell? ⟨gb426,1,none⟩=some (.slice A0_1 l0_1.length c0_1):=(zz BK426.out 1).trans rfl;have hfz54_0:=zA BK426.out 0;have hfz54_1:=zA BK426.out 1)|((with_reducible refine zJ (f:=12) rfl ?_);refine yj (some 16) rfl rfl Tryz.func12 (by kernel_rfl) rfl #[.agg #[.string a0_0,.slice A0_1 l0_1.length c0_1]] rfl (by (try simp only [zt,zu,zv]);first|done|rfl|(simp only [zw,zx];rfl)|(simp only [yr,ys,zV,zW];rfl)) ?_;(with_reducible refine (Fv.calls k  a0_0 _ _ l0_1 t433 t434 _ ?side1 ?side2 A9.out).mono ?_);(case side1 => repeat (first|exact (Kd.C_below HR0_1.out HB.out)|(with_reducible refine Kd.C_alloc ?_ _)|(with_reducible refine Kd.C_drewN ?_ _)|(with_reducible refine Kd.C_drew ?_)));(case side2 => exact HC0_1.out);rintro e w55 ⟨v435,rfl,ho0,hb⟩;refine ⟨_,rfl,?_⟩;have HO436:=zh (Kd.S_lower (Kd.S_new' ho0 (Kd.S_lt (by (with_reducible repeat (first|apply Kd.S_alloc|apply Kd.S_drewN|apply Kd.S_drew));exact HO431.out))) (zB (by repeat (with_reducible first|exact HB.out|apply za|apply zb|apply zc|refine zd ?_ GE426.out))));replace HO431:=zh (Kd.S_elder' (by (with_reducible repeat (first|apply Kd.S_alloc|apply Kd.S_drewN|apply Kd.S_drew));exact HO431.out) (Kd.S_base ho0) hb);replace BK426:=zh (zD (g:=gb426) (o:=.cells #[.string a0_0,.slice A0_1 l0_1.length c0_1] 34 (0,0)) (by (with_reducible repeat (first|refine ze ?_ _|refine zf ?_|refine zg ?_ _));exact BK426.out) hb);replace HB:=zh (zC (by repeat (with_reducible first|exact HB.out|apply za|apply zb|apply zc|refine zd ?_ GE426.out)) hb);(try clear hb);(try clear hb2);(try clear hk);(try clear hi);(try clear ho0))|((with_reducible refine zK (N:=5) rfl ?_);refine zI ?hg (N:=5) ?hd (cs:=#[.string (⟨#[]⟩ : ByteArray),.slice none 0 0]) (t:=38) ?hr ?_;(case hd => rfl);(case hg => rfl);(case hr => first|(go_simp;done)|(go_simp;rfl));intro gb437 hg w56 hbox hb;replace HO431:=zh (Kd.S_below (by (with_reducible repeat (first|apply Kd.S_alloc|apply Kd.S_drewN|apply Kd.S_drew));exact HO431.out) hb);replace HO436:=zh (Kd.S_below (by (with_reducible repeat (first|apply Kd.S_alloc|apply Kd.S_drewN|apply Kd.S_drew));exact HO436.out) hb);have BK437:=zh (hbox);have GW437:=zh ((by rw [hg];exact (zB (by repeat (with_reducible first|exact HB.out|apply za|apply zb|apply zc|refine zd ?_ GE426.out))) : w.heap.size≤gb437));have GE437:=zh ((by rw [hg];exact (zB (by repeat (with_reducible first|exact HB.out|apply za|apply zb|apply zc|refine zd ?_ GE426.out))) : w.heap.size≤gb437));replace HB:=zh (zC (by repeat (with_reducible first|exact HB.out|apply za|apply zb|apply zc|refine zd ?_ GE426.out)) hb);have NB426_437:=zh ((by rw [hg];exact yc (yi (g:=gb426) (o:=.cells #[.string a0_0,.slice A0_1 l0_1.length c0_1] 34 (0,0)) (by (with_reducible repeat (first|refine ze ?_ _|refine zf ?_|refine zg ?_ _));exact BK426.out)) : gb426≠gb437));have NB437_426:=zh ((by rw [hg];exact yd (yi (g:=gb426) (o:=.cells #[.string a0_0,.slice A0_1 l0_1.length c0_1] 34 (0,0)) (by (with_reducible repeat (first|refine ze ?_ _|refine zf ?_|refine zg ?_ _));exact BK426.out)) : gb437≠gb426));replace BK426:=zh (zD (g:=gb426) (o:=.cells #[.string a0_0,.slice A0_1 l0_1.length c0_1] 34 (0,0)) (by (with_reducible repeat (first|refine ze ?_ _|refine zf ?_|refine zg ?_ _));exact BK426.out) hb);clear hb hbox hg;have hnb57:=NB437_426.out;have hnc57:=NB426_437.out;have hcz58_0 : w56.cell? ⟨gb437,0,none⟩=some (.string (⟨#[]⟩ : ByteArray)):=(zz BK437.out 0).trans rfl;have hcz58_1 : w56.cell? ⟨gb437,1,none⟩=some (.slice none 0 0):=(zz BK437.out 1).trans rfl;have hfz58_0:=zA BK437.out 0;have hfz58_1:=zA BK437.out 1;obtain ⟨Ao59,co59,eo59⟩:=Kd.S_slice HO436.out;subst eo59)|((with_reducible refine zJ (f:=13) rfl ?_);refine yj (some 18) rfl rfl Tryz.func13 (by kernel_rfl) rfl #[.agg #[.string t433,.slice Ao59 t434.length co59]] rfl (by (try simp only [zt,zu,zv]);first|done|rfl|(simp only [zw,zx];rfl)|(simp only [yr,ys,zV,zW];rfl)) ?_;(with_reducible refine (F0a.calls k  t433 _ _ t434 t438 _ ?side1 ?side2 A10.out).mono ?_);(case side1 => refine (Kd.S_reads' (e:=46) (base:=w.heap.size) (ok:=fun k_ => (True∧some k_≠(.slice Ao52 t429.length co52 : Value).ownBlock)) (n:=t434.length) (c:=co59) ?_).2.2;exact (by (with_reducible repeat (first|apply Kd.S_alloc|apply Kd.S_drewN|apply Kd.S_drew));exact (Kd.S_mono (Kd.S_far (p:=⟨gb437,1,none⟩) (Kd.S_far (p:=⟨gb437,0,none⟩) (Kd.S_types HO436.out BK437.out (by decide)) (fun _ hk => hk.2) (.string t433)) (fun _ hk => hk.2) (.slice Ao59 t434.length co59)) (fun _ h_ => h_.1))));(case side2 => exact (Kd.S_reads' HO436.out).2.1);rintro e w60 ⟨rfl,hb⟩;refine ⟨_,rfl,?_⟩;replace HO431:=zh (Kd.S_below (by (with_reducible repeat (first|apply Kd.S_alloc|apply Kd.S_drewN|apply Kd.S_drew));exact (Kd.S_mono (Kd.S_far (p:=⟨gb437,1,none⟩) (Kd.S_far (p:=⟨gb437,0,none⟩) (Kd.S_types HO431.out BK437.out (by decide)) (fun _ hk => hk.2) (.string t433)) (fun _ hk => hk.2) (.slice Ao59 t434.length co59)) (fun _ h_ => h_.1))) hb);replace HO436:=zh (Kd.S_below (by (with_reducible repeat (first|apply Kd.S_alloc|apply Kd.S_drewN|apply Kd.S_drew));exact (Kd.S_mono (Kd.S_far (p:=⟨gb437,1,none⟩) (Kd.S_far (p:=⟨gb437,0,none⟩) (Kd.S_types HO436.out BK437.out (by decide)) (fun _ hk => hk.2) (.string t433)) (fun _ hk => hk.2) (.slice Ao59 t434.length co59)) (fun _ h_ => h_.1))) hb);replace BK426:=zh (zD (g:=gb426) (o:=.cells #[.string a0_0,.slice A0_1 l0_1.length c0_1] 34 (0,0)) (by (with_reducible repeat (first|refine ze ?_ _|refine zf ?_|refine zg ?_ _));refine zS ?_ NB426_437.out _;(with_reducible repeat (first|refine ze ?_ _|refine zf ?_|refine zg ?_ _));refine zS ?_ NB426_437.out _;(with_reducible repeat (first|refine ze ?_ _|refine zf ?_|refine zg ?_ _));exact BK426.out) hb);replace BK437:=zh (zD (g:=gb437) (o:=.cells #[.string t433,.slice Ao59 t434.length co59] 38 (0,0)) (by (with_reducible repeat (first|refine ze ?_ _|refine zf ?_|refine zg ?_ _));refine zL (cs:=#[.string t433,.slice none 0 0]) ?_ 1 _ rfl;(with_reducible repeat (first|refine ze ?_ _|refine zf ?_|refine zg ?_ _));refine zL (cs:=#[.string (⟨#[]⟩ : ByteArray),.slice none 0 0]) ?_ 0 _ rfl;(with_reducible repeat (first|refine ze ?_ _|refine zf ?_|refine zg ?_ _));exact BK437.out) hb);replace HB:=zh (zC (by repeat (with_reducible first|exact HB.out|apply za|apply zb|apply zc|refine zd ?_ GE426.out|refine zd ?_ GE437.out)) hb);(try clear hb);(try clear hb2);(try clear hk);(try clear hi)))
 replace HO431:=zh (Kd.S_drew HO431.out);replace HO436:=zh (Kd.S_drew HO436.out);replace BK426:=zh (zf BK426.out);replace BK437:=zh (zf BK437.out);replace HB:=zh (zc HB.out);refine start_ (n:=5) (S:=fun w' => w'.cell? ⟨gb437,0,none⟩=some (.string t433)∧w'.cell? ⟨gb437,1,none⟩=some (.slice Ao59 t434.length co59)∧w'.cell? ⟨gb426,0,none⟩=some (.string a0_0)∧w'.cell? ⟨gb426,1,none⟩=some (.slice A0_1 l0_1.length c0_1)) (ds:=[]) #[false,false,false,false,false] (by kernel_rfl) rfl rfl ⟨(zz BK437.out 0).trans rfl,(zz BK437.out 1).trans rfl,(zz BK426.out 0).trans rfl,(zz BK426.out 1).trans rfl⟩ (fun hHeld => ?_);generalize w60.drew=w61 at HO431 HO436 BK426 BK437 HB hHeld ⊢;refine take_ (i:=0) (N:=some 22) (v:=?_) (a':=?_) #[true,false,false,false,false] rfl rfl (by kernel_rfl) (fun _ _ _ h => h) (Or.inl ⟨by rfl,?_⟩) hHeld ?_ ?_;rotate_left
 ·
  rintro w' ⟨s0,s1,s2,s3⟩
  go_simp
  with_reducible rfl
 rotate_left
 ·
  simp only [Act.put,zi,zj,zk,zG,zH]
  rfl
 refine take_ (i:=1) (N:=some 23) (v:=?_) (a':=?_) #[true,true,false,false,false] rfl rfl (by kernel_rfl) (fun _ _ _ h => h) (Or.inl ⟨by rfl,?_⟩) hHeld ?_ ?_;rotate_left
 ·
  rintro w' ⟨s0,s1,s2,s3⟩
  go_simp
  with_reducible rfl
 rotate_left
 ·
  simp only [Act.put,zi,zj,zk,zG,zH]
  rfl
 refine one_ (i:=2) (N:=some 24) #[true,true,true,false,false] rfl rfl (by kernel_rfl) (by decide) (fun K hK => ?_);refine goes_ Tryz.func12 (by kernel_rfl) rfl #[.agg #[.string a0_0,.slice A0_1 l0_1.length c0_1]] (by rfl) rfl rfl (by (try simp only [zt,zu,zv]);first|done|rfl|(simp only [zw,zx];rfl)|(simp only [yr,ys,zV,zW];rfl)) ?_
 with_reducible refine (Fv.calls k  a0_0 _ _ l0_1 t439 t440 _ ?side1 ?side2 A26.out).mono ?_
 (case side1 => repeat (first|exact (Kd.C_below HR0_1.out HB.out)|(with_reducible refine Kd.C_alloc ?_ _)|(with_reducible refine Kd.C_drewN ?_ _)|(with_reducible refine Kd.C_drew ?_)))
 (case side2 => exact HC0_1.out)
 rintro e w62 ⟨v441,rfl,ho0,hb⟩;refine ⟨_,rfl,?_⟩;have HO442:=zh (Kd.S_lower (Kd.S_new' (Kd.S_new' ho0 (Kd.S_lt (by (with_reducible repeat (first|apply Kd.S_alloc|apply Kd.S_drewN|apply Kd.S_drew));exact HO431.out))) (Kd.S_lt (by (with_reducible repeat (first|apply Kd.S_alloc|apply Kd.S_drewN|apply Kd.S_drew));exact HO436.out))) (zB (by repeat (with_reducible first|exact HB.out|apply za|apply zb|apply zc|refine zd ?_ GE426.out|refine zd ?_ GE437.out))));replace HO431:=zh (Kd.S_elder' (by (with_reducible repeat (first|apply Kd.S_alloc|apply Kd.S_drewN|apply Kd.S_drew));exact HO431.out) (Kd.S_base ho0) hb);replace HO436:=zh (Kd.S_elder' (by (with_reducible repeat (first|apply Kd.S_alloc|apply Kd.S_drewN|apply Kd.S_drew));exact HO436.out) (Kd.S_base ho0) hb);replace BK426:=zh (zD (g:=gb426) (o:=.cells #[.string a0_0,.slice A0_1 l0_1.length c0_1] 34 (0,0)) (by (with_reducible repeat (first|refine ze ?_ _|refine zf ?_|refine zg ?_ _));exact BK426.out) hb);replace BK437:=zh (zD (g:=gb437) (o:=.cells #[.string t433,.slice Ao59 t434.length co59] 38 (0,0)) (by (with_reducible repeat (first|refine ze ?_ _|refine zf ?_|refine zg ?_ _));exact BK437.out) hb);replace HB:=zh (zC (by repeat (with_reducible first|exact HB.out|apply za|apply zb|apply zc|refine zd ?_ GE426.out|refine zd ?_ GE437.out)) hb);(try clear hb);(try clear hb2);(try clear hk);(try clear hi);(try clear ho0);obtain ⟨Ao63,co63,eo63⟩:=Kd.S_slice HO442.out;(first|subst eo63|(injection eo63 with f1_ f2_ f3_;have f4_:=f1_.symm;have f5_:=f3_.symm;clear f1_ f2_ f3_;subst f4_;subst f5_));refine hK.out _ _ ⟨(zz BK437.out 0).trans rfl,(zz BK437.out 1).trans rfl,(zz BK426.out 0).trans rfl,(zz BK426.out 1).trans rfl⟩ (fun hHeld => ?_);clear hK K;refine norm_ (a':=?_) ?_ ?_;rotate_left
 ·
  show Act.put _ (some 24) _=_
  simp only [Act.put,zi,zj,zk,zG,zH]
  rfl
 refine one_ (i:=3) (N:=some 25) #[true,true,true,true,false] rfl rfl (by kernel_rfl) (by decide) (fun K hK => ?_);refine goes_ Tryz.func14 (by kernel_rfl) rfl #[.agg #[.string t433,.slice Ao59 t434.length co59],.agg #[.string t439,.slice Ao63 t440.length co63]] (by rfl) rfl rfl (by (try simp only [zt,zu,zv]);first|done|rfl|(simp only [zw,zx];rfl)|(simp only [yr,ys,zV,zW];rfl)) ?_
 with_reducible refine (F0b.calls k  t433 _ _ t434 t439 _ _ t440 false _ ?side1 ?side2 ?side3 ?side4 A27.out).mono ?_
 (case side1 => repeat (first|exact (Kd.S_reads' HO436.out).2.2|(with_reducible refine Kd.C_alloc ?_ _)|(with_reducible refine Kd.C_drewN ?_ _)|(with_reducible refine Kd.C_drew ?_)))
 (case side2 => exact (Kd.S_reads' HO436.out).2.1)
 (case side3 => repeat (first|exact (Kd.S_reads' HO442.out).2.2|(with_reducible refine Kd.C_alloc ?_ _)|(with_reducible refine Kd.C_drewN ?_ _)|(with_reducible refine Kd.C_drew ?_)))
 (case side4 => exact (Kd.S_reads' HO442.out).2.1)
 rintro e w64 ⟨rfl,hb⟩;refine ⟨_,rfl,?_⟩;replace HO431:=zh (Kd.S_below (by (with_reducible repeat (first|apply Kd.S_alloc|apply Kd.S_drewN|apply Kd.S_drew));exact HO431.out) hb);replace HO436:=zh (Kd.S_below (by (with_reducible repeat (first|apply Kd.S_alloc|apply Kd.S_drewN|apply Kd.S_drew));exact HO436.out) hb);replace HO442:=zh (Kd.S_below (by (with_reducible repeat (first|apply Kd.S_alloc|apply Kd.S_drewN|apply Kd.S_drew));exact HO442.out) hb);replace BK426:=zh (zD (g:=gb426) (o:=.cells #[.string a0_0,.slice A0_1 l0_1.length c0_1] 34 (0,0)) (by (with_reducible repeat (first|refine ze ?_ _|refine zf ?_|refine zg ?_ _));exact BK426.out) hb);replace BK437:=zh (zD (g:=gb437) (o:=.cells #[.string t433,.slice Ao59 t434.length co59] 38 (0,0)) (by (with_reducible repeat (first|refine ze ?_ _|refine zf ?_|refine zg ?_ _));exact BK437.out) hb);replace HB:=zh (zC (by repeat (with_reducible first|exact HB.out|apply za|apply zb|apply zc|refine zd ?_ GE426.out|refine zd ?_ GE437.out)) hb);(try clear hb);(try clear hb2);(try clear hk);(try clear hi);refine hK.out _ _ ⟨(zz BK437.out 0).trans rfl,(zz BK437.out 1).trans rfl,(zz BK426.out 0).trans rfl,(zz BK426.out 1).trans rfl⟩ (fun hHeld => ?_);clear hK K;refine norm_ (a':=?_) ?_ ?_;rotate_left
 ·
  show Act.put _ (some 25) _=_
  simp only [Act.put,zi,zj,zk,zG,zH]
  rfl
 refine pure_ (i:=4) (N:=some 26) (v:=?_) (a':=?_) #[true,true,true,true,true] rfl rfl (by kernel_rfl) (fun _ _ _ h => h) (Or.inl ⟨by rfl,?_⟩) ?_ ?_;rotate_left
 ·
  intro w'
  go_simp
  with_reducible rfl
 rotate_left
 ·
  simp only [Act.put,zi,zj,zk,zG,zH]
  rfl
 refine done_ (by kernel_rfl) ?_
 try go_wp2
 go_ret
 exact ⟨by first|rfl|(simp [yt,yu] <;> rfl)|(simp [*,yt,yu] <;> rfl),by repeat (with_reducible first|exact HB.out|apply za|apply zb|apply zc|refine zd ?_ GE426.out|refine zd ?_ GE437.out)⟩

end Go.Proofs.YthjgfjlogilleaaGreatDoor.Q
end
section
namespace Go.Proofs.YthjgfjlogilleaaGreatDoorW.PrintOpen
open Go.RowKit Go.ChangeShapes Go.WideShapes Go.ChangeAt Go.Proofs.YthjgfjlogilleaaGreatDoorW.PrintWords
def Opens {α : Type} (P : Program) (d : Kd α) (t : TypeId) (good : α→Prop) : Prop :=
 ∀ (H : Type) (enc : TypeId×Value→H) (w : World) (base : Nat) (spare : Nat→Bool) (held : Bool) (fuel : Nat) (cs : List Value) (x : DataW H×List MemPlace),
  DataW.trod enc P w base spare held fuel t cs=some x → ∃ a,d.K w a cs∧good a
variable {P : Program}
theorem opens_int {t : TypeId} {k : IntKind} (ht : P.underlying t=some (.int k)) : Opens P (Kd.int k) t (fun n => (Lit.int k n).wf=true):=by
 intro H enc w base spare held fuel cs x h;obtain ⟨n,hcs,_,hw⟩:=DataW.trod_int ht h;exact ⟨n,hcs,hw⟩
theorem opens_string {t : TypeId} (ht : P.underlying t=some .string) : Opens P Kd.string t (fun s => s.size≤9223372036854775807):=by
 intro H enc w base spare held fuel cs x h;obtain ⟨s,hcs,_,hs⟩:=DataW.trod_string ht h;exact ⟨s,hcs,by unfold maxLen at hs;exact hs⟩
theorem opens_slice {α : Type} {t e : TypeId} {d : Kd α} {g : α→Prop} (ht : P.underlying t=some (.slice e)) (hc : P.cellsOf e=d.sz) (he : Opens P d e g) :
  Opens P (Kd.slice e d) t (fun l => l.length≤9223372036854775807 ∧ ∀ x ∈ l,g x):=by
 intro H enc w base spare held fuel cs x h;rcases Deep.open_slice ht h with ⟨rfl,_⟩|⟨a,len,cap,m,n,D,Pl,rfl,_,hl,hm,hmm,_,hx⟩
 ·
  exact ⟨[],⟨none,0,rfl,Nat.le_refl _,rfl,by simp,fun h0 => absurd h0 (by simp)⟩,by simp,by simp⟩
 have hlm : len≤m:=by rw [hmm];split <;> omega
 have hall : ∀ i : Fin len,∃ v : α×List Value,w.cells? base (a.add (i.1 * P.cellsOf e)) (P.cellsOf e)=some v.2∧d.K w v.1 v.2∧g v.1:=fun i => by
  obtain ⟨cs',h1,h2⟩:=hx i.1 (by have:=i.2;omega);obtain ⟨a',hk,hg⟩:=he H enc w base spare held n cs' _ h2;exact ⟨(a',cs'),h1,hk,hg⟩
 obtain ⟨V,hV⟩:=Classical.axiomOfChoice hall;have hmax : len≤9223372036854775807:=by unfold maxLen at hm;omega
 have hlen : (List.ofFn fun i => (V i).1).length=len:=List.length_ofFn;refine ⟨List.ofFn fun i => (V i).1,⟨some a,cap,by rw [hlen],by rw [hlen];exact hl,rfl,by rw [hlen];exact hmax,fun _ => ⟨a,rfl,?_⟩⟩,by rw [hlen];exact hmax,?_⟩
 ·
  intro j p hj
  have hjl : j<len:=by
   have:=(List.getElem?_eq_some_iff.1 hj).1
   omega
  rw [List.getElem?_ofFn,dif_pos hjl] at hj;obtain rfl:=Option.some.inj hj;obtain ⟨h1,h2,_⟩:=hV ⟨j,hjl⟩;obtain ⟨_,hlen2,hcell⟩:=World.cells?_some h1;refine ⟨(V ⟨j,hjl⟩).2,by rw [← hc];exact hlen2,h2,fun q u hu => ?_⟩
  have hq : q<P.cellsOf e:=by
   have:=(List.getElem?_eq_some_iff.1 hu).1
   omega
  have h3:=hcell q hq;rw [Deep.add_add,hu,hc] at h3;exact h3
 intro x hx;obtain ⟨i,rfl⟩:=List.mem_ofFn.1 hx;exact (hV i).2.2
def OpensF {α : Type} (P : Program) (d : Kd α) (fs : List Field) (off : Nat) (good : α→Prop) : Prop :=
 ∀ (H : Type) (enc : TypeId×Value→H) (w : World) (base : Nat) (spare : Nat→Bool) (held : Bool) (fuel : Nat) (cs : List Value),off + d.sz≤cs.length →
  (∀ f ∈ fs,∃ x,DataW.trod enc P w base spare held fuel f.type ((cs.drop f.offset).take (P.cellsOf f.type))=some x) → ∃ a,d.K w a ((cs.drop off).take d.sz)∧good a
theorem opensF_one {α : Type} {d : Kd α} {f : Field} {off : Nat} {g : α→Prop} (ho : f.offset=off) (hc : P.cellsOf f.type=d.sz) (h : Opens P d f.type g) : OpensF P d [f] off g:=by
 intro H enc w base spare held fuel cs _ hf;obtain ⟨x,hx⟩:=hf f (by simp);obtain ⟨a,hk,hg⟩:=h H enc w base spare held fuel _ x hx;rw [ho,hc] at hk;exact ⟨a,hk,hg⟩
theorem opensF_cons {α β : Type} {d : Kd α} {d' : Kd β} {f : Field} {fs : List Field} {off : Nat} {g : α→Prop} {g' : β→Prop} (ho : f.offset=off) (hc : P.cellsOf f.type=d.sz) (h : Opens P d f.type g) (h' : OpensF P d' fs (off + d.sz) g') :
  OpensF P (Kd.pair d d') (f :: fs) off (fun x => g x.1∧g' x.2):=by
 intro H enc w base spare held fuel cs hl hf;obtain ⟨x,hx⟩:=hf f (by simp);obtain ⟨a,hk,hg⟩:=h H enc w base spare held fuel _ x hx;have hl2 : off + (d.sz + d'.sz)≤cs.length:=hl;obtain ⟨b,hk',hg'⟩:=h' H enc w base spare held fuel cs (by omega) (fun f' hf' => hf f' (by simp [hf']));rw [ho,hc] at hk;refine ⟨(a,b),⟨_,_,?_,hk,hk'⟩,hg,hg'⟩;show (cs.drop off).take (d.sz + d'.sz)=_;rw [List.take_add,List.drop_drop]
theorem opens_struct {α β : Type} {t : TypeId} {fs : Array Field} {d : Kd α} {g : α→Prop} {f : β→α} (f' : α→β) (hf : ∀ a,f (f' a)=a) (ht : P.underlying t=some (.struct fs)) (hc : P.cellsOf t=d.sz) (h : OpensF P d fs.toList 0 g) :
  Opens P (Kd.iso d f) t (fun b => g (f b)):=by
 intro H enc w base spare held fuel cs x hx;obtain ⟨xs,n,_,_,hl,hlen,hxs⟩:=DataW.trod_struct ht hx
 obtain ⟨a,hk,hg⟩:=h H enc w base spare held n cs (by omega) (fun y hy => by
  obtain ⟨i,hi⟩:=List.mem_iff_getElem?.1 hy;have:=hxs i y (by simpa using hi)
  have hlt : i<xs.length:=by
   have:=(List.getElem?_eq_some_iff.1 hi).1;rw [hlen]
   simpa using this
  rw [List.getElem?_eq_getElem hlt] at this
  exact ⟨_,this⟩)
 rw [List.drop_zero,show d.sz=cs.length by omega,List.take_length] at hk;exact ⟨f' a,by show d.K w (f (f' a)) cs;rw [hf];exact hk,by show g (f (f' a));rw [hf];exact hg⟩
theorem arg_struct {α : Type} {d : Kd α} {t : TypeId} {fs : Array Field} {g : α→Prop} {H : Type} {enc : TypeId×Value→H} {w : World} {base b0 : Nat} {spare : Nat→Bool} {held : Bool} {r : Reach} {v : Value} {dd : DataW H} {p : List MemPlace}
  (ht : P.underlying t=some (.struct fs)) (h : Opens P d t g) (hv : Value.okWide P w r b0 t v) (hd : DataW.Trod enc P w base spare held t v dd p) : ∃ (a : α) (cs : List Value),v = .agg ⟨cs⟩∧d.K w a cs∧g a:=by
 obtain ⟨cs,rfl,_⟩:=okWide_struct ht hv;obtain ⟨fuel,hf⟩:=hd;obtain ⟨a,hk,hg⟩:=h H enc w base spare held fuel _ _ hf;exact ⟨a,cs.toList,rfl,hk,hg⟩
end Go.Proofs.YthjgfjlogilleaaGreatDoorW.PrintOpen
end
section
namespace Go.Proofs.YthjgfjlogilleaaGreatDoor.Q
open Go.RowKit Go.Proofs.YthjgfjlogilleaaGreatDoorW.PrintWords Go.Proofs.YthjgfjlogilleaaGreatDoorW.PrintLast Go.Proofs.YthjgfjlogilleaaGreatDoorW.PrintMore Go.Proofs.YthjgfjlogilleaaGreatDoorW.PrintOpen
def good77 (x_ : S77) : Prop:=((Lit.int .i64 x_.f0).wf=true)∧(((Lit.int .i64 x_.f1).wf=true)∧((x_.f2.size≤9223372036854775807)))
theorem opens77 : Opens Tryz.prog k77 77 good77 :=
 opens_struct (f:=(fun x : S77 => (x.f0,x.f1,x.f2))) (fun ⟨x0,x1,x2⟩ => ⟨x0,x1,x2⟩) (fun _ => rfl) Tryz.underlying77 (by kernel_rfl) (opensF_cons rfl (by kernel_rfl) (opens_int Tryz.underlying3) (opensF_cons rfl (by kernel_rfl) (opens_int Tryz.underlying3) (opensF_one rfl (by kernel_rfl) (opens_string Tryz.underlying9))))
def good79 (x_ : S79) : Prop:=((Lit.int .i64 x_.f0).wf=true)∧((x_.f1.size≤9223372036854775807)∧((good77 x_.f2)))
theorem opens79 : Opens Tryz.prog k79 79 good79 :=
 opens_struct (f:=(fun x : S79 => (x.f0,x.f1,x.f2))) (fun ⟨x0,x1,x2⟩ => ⟨x0,x1,x2⟩) (fun _ => rfl) Tryz.underlying79 (by kernel_rfl) (opensF_cons rfl (by kernel_rfl) (opens_int Tryz.underlying3) (opensF_cons rfl (by kernel_rfl) (opens_string Tryz.underlying9) (opensF_one rfl (by kernel_rfl) opens77)))
def good61 (x_ : S61) : Prop:=((x_.f0.length≤9223372036854775807 ∧ ∀ y0_ ∈ x_.f0,good79 y0_))
theorem opens61 : Opens Tryz.prog k61 61 good61 :=
 opens_struct (f:=(fun x : S61 => x.f0)) (fun x => ⟨x⟩) (fun _ => rfl) Tryz.underlying61 (by kernel_rfl) (opensF_one rfl (by kernel_rfl) (opens_slice Tryz.underlying59 (by kernel_rfl) opens79))
def good24 (x_ : S24) : Prop:=((x_.f0.length≤9223372036854775807 ∧ ∀ y0_ ∈ x_.f0,good61 y0_))
theorem opens24 : Opens Tryz.prog k24 24 good24 :=
 opens_struct (f:=(fun x : S24 => x.f0)) (fun x => ⟨x⟩) (fun _ => rfl) Tryz.underlying24 (by kernel_rfl) (opensF_one rfl (by kernel_rfl) (opens_slice Tryz.underlying22 (by kernel_rfl) opens61))
def good34 (x_ : S34) : Prop:=(x_.f0.size≤9223372036854775807)∧((good24 x_.f1))
theorem opens34 : Opens Tryz.prog k34 34 good34 :=
 opens_struct (f:=(fun x : S34 => (x.f0,x.f1))) (fun ⟨x0,x1⟩ => ⟨x0,x1⟩) (fun _ => rfl) Tryz.underlying34 (by kernel_rfl) (opensF_cons rfl (by kernel_rfl) (opens_string Tryz.underlying9) (opensF_one rfl (by kernel_rfl) opens24))
end Go.Proofs.YthjgfjlogilleaaGreatDoor.Q
end
section
namespace Go.Proofs.YthjgfjlogilleaaGreatDoor.Q
def F0n.Pure : Prop:=∀ (x0 : S34),(good34 x0) → ∃ k,F0n.f k x0.f0 x0.f1.f0=some true
end Go.Proofs.YthjgfjlogilleaaGreatDoor.Q
end
section
namespace Go.Proofs.YthjgfjlogilleaaGreatDoorW.Pl
open Go Go.RowKit Go.Proofs.YthjgfjlogilleaaGreatDoorW.PrintWords Go.Proofs.YthjgfjlogilleaaGreatDoorW.PrintMore
theorem w64 {i : Int} (h0 : -9223372036854775808≤i) (h1 : i≤9223372036854775807) : wrap64 i=i:=by unfold wrap64;omega
theorem fuel {k d : Nat} (h : d<k) : ∃ m,k=m + 1∧d≤m:=⟨k - 1,by omega,by omega⟩
theorem rdOf_at {α : Type} (d : α) (xs : List α) (i : Nat) (h : i<xs.length) : rdOf d xs (i : Int)=xs[i]:=by
 unfold rdOf;simp [List.getD,h]
theorem rd_at (xs : List Int) (i : Nat) (h : i<xs.length) : rd xs (i : Int)=xs[i]:=by
 unfold rd;simp [List.getD,h]
theorem getD_at {α : Type} (d : α) (xs : List α) (i : Nat) (h : i<xs.length) : xs.getD (i : Int).toNat d=xs[i]:=by
 simp [List.getD,h]
theorem drop_at {α : Type} (xs : List α) (i : Nat) (h : i<xs.length) : xs.drop i=xs[i] :: xs.drop (i + 1):=List.drop_eq_getElem_cons h
theorem ba_toList (a : ByteArray) : a.toList=a.data.toList:=ByteArray.toList_eq a
def all2 {α β : Type} (e : α→β→Bool) : List α→List β→Bool
 | [],_ => true
 | _ :: _,[] => true
 | x :: xs,y :: ys => e x y && all2 e xs ys
def first {α : Type} (p : α→Bool) : List α→Nat→Int
 | [],_ => -1
 | x :: xs,i => if p x=true then i else first p xs (i + 1)
theorem first_any {α : Type} (p : α→Bool) : ∀ (xs : List α) (i : Nat),decide (first p xs i ≥ 0)=xs.any p
 | [],i => rfl
 | x :: xs,i => by
  by_cases h : p x=true
  ·
   simp [first,h]
  simp only [first,if_neg h,List.any_cons,first_any p xs (i + 1)];simp [h]
theorem first_loop {α : Type} (g : Nat→Int→Option Int) (xs : List α) (p : α→Bool)
  (hstep : ∀ (k i : Nat) (h : i<xs.length),g (k + 1) (i : Int)=if p xs[i]=true then some (i : Int) else g k ((i + 1 : Nat) : Int))
  (hend : ∀ k,g (k + 1) (xs.length : Int)=some (-1)) : ∀ (d k i : Nat),i + d=xs.length→d<k→g k (i : Int)=some (first p (xs.drop i) i):=by
 intro d
 induction d with
 | zero =>
  intro k i hi hk;obtain ⟨k,rfl,_⟩:=fuel hk;obtain rfl : i=xs.length:=by omega
  rw [hend,List.drop_length];rfl
 | succ d ih =>
  intro k i hi hk;obtain ⟨k,rfl,_⟩:=fuel hk;have hlt : i<xs.length:=by omega
  rw [hstep k i hlt,drop_at xs i hlt]
  by_cases h : p xs[i]=true
  ·
   rw [if_pos h]
   simp [first,h]
  rw [if_neg h,ih k (i + 1) (by omega) (by omega)];simp [first,h]
def total {α : Type} (s : α→Nat) : List α→Nat
 | [] => 0
 | x :: xs => s x + total s xs
theorem total_le {α : Type} (s : α→Nat) : ∀ (xs : List α) (x : α),x ∈ xs→s x≤total s xs
 | _ :: xs,x,h => by
  rcases List.mem_cons.1 h with rfl|h
  ·
   simp [total]
  have:=total_le s xs x h;simp [total];omega
def less {α : Type} (s : α→Nat) : List α→Int→Int
 | [],l => l
 | x :: xs,l => if l - s x<0 then -1 else less s xs (l - s x)
theorem less_is {α : Type} (s : α→Nat) : ∀ (xs : List α) (l : Int),0≤l→less s xs l=if l<total s xs then -1 else l - total s xs
 | [],l,h => by simp [less,total];omega
 | x :: xs,l,h => by
  have ht : ((total s (x :: xs) : Nat) : Int)=s x + total s xs:=by simp [total]
  rw [ht];simp only [less]
  by_cases h1 : l - s x<0
  ·
   rw [if_pos h1,if_pos (by omega)]
  rw [if_neg h1,less_is s xs _ (by omega)]
  by_cases h2 : l<s x + total s xs
  ·
   rw [if_pos (by omega),if_pos (by omega)]
  rw [if_neg (by omega),if_neg (by omega)];omega
def Eve {α : Type} (g : Nat→Option α) (v : α) : Prop:=∃ K,∀ k,K≤k→g k=some v
theorem Eve.one {α : Type} {v : α} : Eve (fun _ => some v) v:=⟨0,fun _ _ => rfl⟩
theorem Eve.all {α : Type} {g : Nat→Option α} {v : α} (h : ∀ k,g k=some v) : Eve g v:=⟨0,fun k _ => h k⟩
theorem Eve.of {α : Type} {g : Nat→Option α} {v : α} {n : Nat} (h : ∀ k,n<k→g k=some v) : Eve g v:=⟨n + 1,fun k hk => h k (by omega)⟩
theorem Eve.succ {α : Type} {g : Nat→Option α} {v : α} (h : Eve (fun k => g (k + 1)) v) : Eve g v:=by
 obtain ⟨K,h⟩:=h;refine ⟨K + 1,fun k hk => ?_⟩;obtain ⟨k,rfl⟩ : ∃ m,k=m + 1:=⟨k - 1,by omega⟩;exact h k (by omega)
theorem Eve.bind {α β : Type} {g : Nat→Option α} {f : Nat→α→Option β} {v : α} {u : β} (h : Eve g v) (h2 : Eve (fun k => f k v) u) : Eve (fun k => (g k).bind (f k)) u:=by
 obtain ⟨K,h⟩:=h;obtain ⟨K2,h2⟩:=h2;refine ⟨max K K2,fun k hk => ?_⟩;show (g k).bind (f k)=some u;rw [h k (by omega),Option.bind_some];exact h2 k (by omega)
theorem Eve.ite {α : Type} {c : Prop} [Decidable c] {a b : Nat→Option α} {v : α} (h1 : c→Eve a v) (h2 : ¬ c→Eve b v) : Eve (fun k => if c then a k else b k) v:=by
 by_cases h : c
 ·
  simp only [if_pos h];exact h1 h
 simp only [if_neg h];exact h2 h
theorem Eve.get {α : Type} {g : Nat→Option α} {v : α} (h : Eve g v) : ∃ k,g k=some v:=by
 obtain ⟨K,h⟩:=h;exact ⟨K,h K (by omega)⟩
theorem Eve.eq {α : Type} {g : Nat→Option α} {v u : α} (h : Eve g v) (e : v=u) : Eve g u:=e ▸ h
theorem Eve.congr {α : Type} {g f : Nat→Option α} {v : α} (h : Eve g v) (e : ∀ k,f k=g k) : Eve f v:=by
 obtain ⟨K,h⟩:=h;exact ⟨K,fun k hk => by rw [e,h k hk]⟩
theorem ev_loop {σ α β : Type} (xs : List α) (g : Nat→σ→Int→Option β) (R : Nat→σ→List α→β) (I : Nat→σ→Prop)
  (hend : ∀ s,I xs.length s→Eve (fun k => g (k + 1) s (xs.length : Int)) (R xs.length s []))
  (hstep : ∀ (i : Nat) (h : i<xs.length) (s : σ),I i s→(∀ s',I (i + 1) s' → Eve (fun k => g k s' ((i + 1 : Nat) : Int)) (R (i + 1) s' (xs.drop (i + 1)))) →
   Eve (fun k => g (k + 1) s (i : Int)) (R i s (xs[i] :: xs.drop (i + 1)))) :
  ∀ (d i : Nat) (s : σ),i + d=xs.length→I i s→Eve (fun k => g k s (i : Int)) (R i s (xs.drop i)):=by
 intro d
 induction d with
 | zero =>
  intro i s hi hI;obtain rfl : i=xs.length:=by omega
  rw [List.drop_length];exact Eve.succ (hend s hI)
 | succ d ih =>
  intro i s hi hI;have hlt : i<xs.length:=by omega
  rw [drop_at xs i hlt];exact Eve.succ (hstep i hlt s hI (fun s' h' => ih (i + 1) s' (by omega) h'))
theorem ev_loop0 {σ α β : Type} (xs : List α) (g : Nat→σ→Int→Option β) (R : Nat→σ→List α→β) (I : Nat→σ→Prop)
  (hend : ∀ s,I xs.length s→Eve (fun k => g (k + 1) s (xs.length : Int)) (R xs.length s []))
  (hstep : ∀ (i : Nat) (h : i<xs.length) (s : σ),I i s→(∀ s',I (i + 1) s' → Eve (fun k => g k s' ((i + 1 : Nat) : Int)) (R (i + 1) s' (xs.drop (i + 1)))) →
   Eve (fun k => g (k + 1) s (i : Int)) (R i s (xs[i] :: xs.drop (i + 1)))) (s : σ) (h0 : I 0 s) : Eve (fun k => g k s 0) (R 0 s xs):=by
 have:=ev_loop xs g R I hend hstep xs.length 0 s (by omega) h0
 simpa using this
theorem ev_map {α β : Type} (xs : List α) (g : Nat→List β→Int→Option (List β)) (c : α→β) (z : β)
  (hend : ∀ ys,ys.length=xs.length→Eve (fun k => g (k + 1) ys (xs.length : Int)) ys)
  (hstep : ∀ (i : Nat) (h : i<xs.length) (ys : List β) (v : List β),ys.length=xs.length→Eve (fun k => g k (ys.set i (c xs[i])) ((i + 1 : Nat) : Int)) v→Eve (fun k => g (k + 1) ys (i : Int)) v) :
  Eve (fun k => g k (List.replicate xs.length z) 0) (xs.map c):=by
 have:=ev_loop0 xs g (fun i ys rest => ys.take i ++ rest.map c) (fun _ ys => ys.length=xs.length) (fun ys hy => by
  rw [List.take_of_length_le (by omega)];simpa using hend ys hy) (fun i hi ys hy ih => by
  refine hstep i hi ys _ hy ((ih _ (by simp [hy])).eq ?_);show (ys.set i (c xs[i])).take (i + 1) ++ (xs.drop (i + 1)).map c=ys.take i ++ (xs[i] :: xs.drop (i + 1)).map c;rw [List.take_succ_eq_append_getElem (by simp;omega),List.getElem_set_self,List.take_set_of_le (Nat.le_refl _),List.map_cons,List.append_assoc]
  rfl) (List.replicate xs.length z) (by simp)
 simpa using this
theorem ev_all {α : Type} (xs : List α) (g : Nat→Int→Option Bool) (q : α→Bool)
  (hend : Eve (fun k => g (k + 1) (xs.length : Int)) true)
  (hstep : ∀ (i : Nat) (h : i<xs.length) (v : Bool),Eve (fun k => g k ((i + 1 : Nat) : Int)) v→Eve (fun k => g (k + 1) (i : Int)) (q xs[i] && v)) : Eve (fun k => g k 0) (xs.all q) :=
 ev_loop0 xs (fun k (_ : Unit) i => g k i) (fun _ _ r => r.all q) (fun _ _ => True) (fun _ _ => hend) (fun i hi s _ ih => by
  rw [List.all_cons];exact hstep i hi _ (ih () trivial)) () trivial
theorem ev_less {α : Type} (xs : List α) (g : Nat→Int→Int→Option Int) (s : α→Nat)
  (hend : ∀ l,Eve (fun k => g (k + 1) l (xs.length : Int)) l)
  (hstep : ∀ (i : Nat) (h : i<xs.length) (l v : Int),0≤l→l≤1048576→(0≤l - s xs[i]→Eve (fun k => g k (l - s xs[i]) ((i + 1 : Nat) : Int)) v)→Eve (fun k => g (k + 1) l (i : Int)) (if l - s xs[i]<0 then -1 else v))
  {l : Int} (h0 : 0≤l) (h1 : l≤1048576) : Eve (fun k => g k l 0) (if l - total s xs<0 then -1 else l - total s xs):=by
 have:=ev_loop0 xs g (fun _ l r => less s r l) (fun _ l => 0≤l∧l≤1048576) (fun l _ => hend l) (fun i hi l hI ih => by
  refine (hstep i hi l _ hI.1 hI.2 (fun h => ih (l - s xs[i]) ⟨h,by omega⟩)).eq ?_
  rfl) l ⟨h0,h1⟩
 rw [less_is s xs l h0] at this
 by_cases h : l<total s xs
 ·
  rw [if_pos h] at this;rw [if_pos (by omega)];exact this
 rw [if_neg h] at this;rw [if_neg (by omega)];exact this
end Go.Proofs.YthjgfjlogilleaaGreatDoorW.Pl
end
section
namespace Go.Proofs.YthjgfjlogilleaaGreatDoor.Pure
open Go Go.RowKit Go.Proofs.YthjgfjlogilleaaGreatDoor.Q Go.Proofs.YthjgfjlogilleaaGreatDoorW.PrintWords Go.Proofs.YthjgfjlogilleaaGreatDoorW.PrintLast Go.Proofs.YthjgfjlogilleaaGreatDoorW.PrintMore Go.Proofs.YthjgfjlogilleaaGreatDoorW.Pl
def cutA (c : UInt8) : List UInt8→List UInt8→List (List UInt8)
 | acc,[] => [acc]
 | acc,b :: l => if b=c then acc :: cutA c [] l else cutA c (acc ++ [b]) l
def mkB (l : List UInt8) : ByteArray:=⟨l.toArray⟩
theorem mkB_of (s : ByteArray) : mkB s.data.toList=s:=by obtain ⟨⟨l⟩⟩:=s;rfl
theorem cutA_miss (c : UInt8) : ∀ (l acc : List UInt8),Lib.indexByte l c = -1→cutA c acc l=[acc ++ l]
 | [],acc,_ => by simp [cutA]
 | b :: l,acc,h => by
  unfold Lib.indexByte at h
  by_cases hb : b=c
  ·
   subst hb;simp at h
  have h1 : Lib.indexByte l c = -1:=by
   by_cases h2 : Lib.indexByte l c = -1
   ·
    exact h2
   have:=Lib.indexByte_ge l c;simp [hb,h2] at h
   omega
  rw [cutA,if_neg hb,cutA_miss c l _ h1];simp
theorem cutA_hit (c : UInt8) : ∀ (l acc : List UInt8) (i : Nat),Lib.indexByte l c=i→cutA c acc l=(acc ++ l.take i) :: cutA c [] (l.drop (i + 1))
 | [],acc,i,h => by simp [Lib.indexByte] at h
 | b :: l,acc,i,h => by
  unfold Lib.indexByte at h
  by_cases hb : b=c
  ·
   subst hb
   simp at h;obtain rfl : i=0:=by omega
   rw [cutA,if_pos rfl];simp
  by_cases h2 : Lib.indexByte l c = -1
  ·
   simp [hb,h2] at h
  have hge:=Lib.indexByte_ge l c;simp [hb,h2] at h;obtain ⟨j,rfl⟩ : ∃ j,i=j + 1:=⟨i - 1,by omega⟩;rw [cutA,if_neg hb,cutA_hit c l _ j (by omega)];simp
theorem splitK_cutA (c : UInt8) : ∀ (k : Nat) (l : List UInt8),Lib.count l [c]=k→Lib.splitK [c] 0 k l=cutA c [] l
 | 0,l,h => by
  have hm : Lib.indexByte l c = -1:=by
   by_cases h2 : Lib.indexByte l c = -1
   ·
    exact h2
   have hge:=Lib.indexByte_ge l c;have:=Lib.count_hit (sub:=[c]) (s:=l) (by simp) (i:=(Lib.indexByte l c).toNat) (by rw [Lib.index_one];omega)
   omega
  rw [cutA_miss c l [] hm];rfl
 | k + 1,l,h => by
  have hh : ¬ Lib.indexByte l c = -1:=fun e => by
   have:=Lib.count_miss (s:=l) (sub:=[c]) (by rw [Lib.index_one];exact e)
   omega
  have hge:=Lib.indexByte_ge l c;obtain ⟨i,hi⟩ : ∃ i : Nat,Lib.indexByte l c=i:=⟨(Lib.indexByte l c).toNat,by omega⟩;have hc:=Lib.count_hit (sub:=[c]) (s:=l) (by simp) (i:=i) (by rw [Lib.index_one];exact hi);have hlen : ([c] : List UInt8).length=1:=rfl;rw [cutA_hit c l [] i hi,Lib.splitK,if_neg (by rw [Lib.index_one];simpa using hh),Lib.index_one,hi,Int.toNat_natCast,Nat.add_zero,hlen,List.nil_append];rw [splitK_cutA c k (l.drop (i + 1)) (by rw [hlen] at hc;omega)]
theorem pieces_cutA (s : ByteArray) (c : UInt8) : pieces s ⟨#[c]⟩=(cutA c [] s.data.toList).map mkB:=by
 have h:=Lib.splitB_data ⟨#[c]⟩ 0 (Lib.countB s ⟨#[c]⟩) s;have h2 : Lib.splitK [c] 0 (Lib.countB s ⟨#[c]⟩) s.data.toList=cutA c [] s.data.toList:=splitK_cutA c _ _ rfl;have h3 : (pieces s ⟨#[c]⟩).map (·.data.toList)=cutA c [] s.data.toList:=h.trans h2;rw [← h3,List.map_map];have : (mkB ∘ fun x : ByteArray => x.data.toList)=id:=by funext x;exact mkB_of x
 rw [this,List.map_id]
theorem cutA_le (c : UInt8) : ∀ (l acc x : List UInt8),x ∈ cutA c acc l→x.length≤acc.length + l.length
 | [],acc,x,h => by simp [cutA] at h;subst h;simp
 | b :: l,acc,x,h => by
  unfold cutA at h
  split at h
  ·
   rcases List.mem_cons.1 h with rfl|h
   ·
    simp
   have:=cutA_le c l [] x h;simp at this ⊢;omega
  have:=cutA_le c l _ x h;simp at this ⊢;omega
theorem bt_data (s : ByteArray) (i : Nat) (h : i<s.data.toList.length) : bt s (i : Int)=((s.data.toList[i]).toNat : Int):=by
 have hs : i<s.size:=by simpa using h
 rw [← bt_at s (i : Int) (by simpa using hs)]
 rfl
theorem cut_spec (s : ByteArray) (hs : s.size≤1048576) : Eve (fun k => Fs.f k s 46) ((cutA 46 [] s.data.toList).map mkB):=by
 simp only [Fs.f];have hlen : s.data.toList.length=s.size:=by rw [Array.length_toList];rfl
 have hz : ((s.data.toList.length : Nat) : Int)=(s.size : Int):=by rw [hlen]
 have ext : ∀ a b : Nat,s.extract a b=mkB ((s.data.toList.take b).drop a):=fun a b => by
  have : (s.extract a b).data.toList=(s.data.toList.take b).drop a:=by
   rw [Lib.extract_data];simp [List.drop_take]
  rw [← mkB_of (s.extract a b),this]
 have key:=ev_loop0 s.data.toList (fun k (σ : List ByteArray×Int) i => Fs.l0 k s 46 σ.1 σ.2 i)
  (fun i σ rest => σ.1 ++ (cutA 46 ((s.data.toList.take i).drop σ.2.toNat) rest).map mkB)
  (fun i σ => 0≤σ.2∧σ.2≤i∧σ.1.length≤i) ?_ ?_ ([],0) ⟨by simp,by simp,by simp⟩
 ·
  simpa using key
 ·
  rintro ⟨out,from_⟩ ⟨h0,h1,h2⟩
  simp only at h0 h1 h2;simp only [Fs.l0];refine Eve.ite (fun h => absurd h (by omega)) (fun _ => ?_);refine Eve.ite (fun _ => ?_) (fun h => absurd h0 h);refine Eve.ite (fun _ => ?_) (fun h => absurd (by omega) h);refine Eve.ite (fun _ => Eve.one.eq ?_) (fun h => absurd (by omega) h);simp only [cutA,List.map_cons,List.map_nil];rw [ext,hlen]
 rintro i hi ⟨out,from_⟩ ⟨h0,h1,h2⟩ ih;simp only at h0 h1 h2;simp only [Fs.l0,bt_data s i hi];have hw : wrap64 ((i : Int) + 1)=((i + 1 : Nat) : Int):=by rw [w64] <;> omega
 have htk : s.data.toList.take (i + 1)=s.data.toList.take i ++ [s.data.toList[i]]:=by rw [List.take_succ_eq_append_getElem hi]
 refine Eve.ite (fun _ => ?_) (fun h => absurd (by omega) h);refine Eve.ite (fun _ => ?_) (fun h => absurd (by omega) h);refine Eve.ite (fun h => ?_) (fun h => ?_)
 ·
  have hc : s.data.toList[i]=46:=by
   have : (s.data.toList[i]).toNat=(46 : UInt8).toNat:=by
    have e : (46 : UInt8).toNat=46:=rfl
    omega
   exact UInt8.toNat_inj.mp this
  refine Eve.ite (fun _ => ?_) (fun h => absurd h0 h);refine Eve.ite (fun _ => ?_) (fun h => absurd h1 h);refine Eve.ite (fun _ => ?_) (fun h => absurd (by omega) h);refine Eve.ite (fun _ => ?_) (fun h => absurd (by omega) h);rw [hw];refine (ih (out ++ [s.extract from_.toNat (i : Int).toNat],((i + 1 : Nat) : Int)) ⟨by simp;omega,by simp,by simp;omega⟩).eq ?_;simp only [Int.toNat_natCast];have e1 : (s.data.toList.take (i + 1)).drop (i + 1)=[]:=List.drop_of_length_le (by simp;omega);rw [e1,cutA,if_pos hc,ext,List.map_cons,List.append_assoc]
  rfl
 have hc : ¬ s.data.toList[i]=46:=fun e => h (by rw [e];rfl);rw [hw];refine (ih (out,from_) ⟨h0,by show from_≤((i + 1 : Nat) : Int);omega,by show out.length≤i + 1;omega⟩).eq ?_;show out ++ _=out ++ (cutA 46 _ (s.data.toList[i] :: _)).map mkB;rw [cutA,if_neg hc,htk,List.drop_append_of_le_length (by simp;omega)]
theorem split_impl (s : ByteArray) (hs : s.size≤1048576) : strings_Split.f s (⟨#[46]⟩ : ByteArray)=some ((cutA 46 [] s.data.toList).map mkB):=by
 unfold strings_Split.f;rw [if_pos (show (⟨#[46]⟩ : ByteArray).size=1 from rfl),if_pos (by omega),pieces_cutA]
theorem wi {i : Nat} (h : i≤9223372036854775806) : wrap64 ((i : Int) + 1)=((i + 1 : Nat) : Int):=w64 (by omega) (by omega)
theorem w64m (y : Int) : wrap64 y=(y + 9223372036854775808) % 18446744073709551616 - 9223372036854775808:=by unfold wrap64;omega
def stp (x b : Int) : Int:=wrap64 (wrap64 (x * 256) + wrap64 b)
theorem or_byte (x b : Int) (h0 : 0≤b) (h1 : b≤255) : Go.bits .or .i64 (wrap64 (x * 256)) (wrap64 b)=stp x b:=by
 have e1 : (BitVec.ofInt 64 (wrap64 (x * 256))).toNat=2 ^ 8 * (x % 72057594037927936).toNat:=by
  rw [BitVec.toNat_ofInt,w64m];omega
 have e2 : (BitVec.ofInt 64 (wrap64 b)).toNat=b.toNat:=by
  rw [BitVec.toNat_ofInt,w64m];omega
 have e3 : (BitVec.ofInt 64 (wrap64 (x * 256)) ||| BitVec.ofInt 64 (wrap64 b)).toNat=2 ^ 8 * (x % 72057594037927936).toNat + b.toNat:=by
  rw [BitVec.toNat_or,e1,e2,Nat.two_pow_add_eq_or_of_lt (by omega)]
 show IntKind.wrap .i64 ((BitVec.ofInt 64 (wrap64 (x * 256)) ||| BitVec.ofInt 64 (wrap64 b)).toNat : Int)=_;rw [e3,i64_w];unfold stp;rw [w64m,w64m,w64m,w64m]
 omega
def bigV (l : List Int) : Int:=l.foldl stp 0
theorem bytes_in (a : ByteArray) : ∀ b ∈ bytesOf a,0≤b∧b≤255:=by
 intro b hb;obtain ⟨c,_,rfl⟩:=List.mem_map.1 hb;have:=c.toNat_lt
 omega
theorem bt_get (a : ByteArray) (i : Nat) (h : i<(bytesOf a).length) : bt a (i : Int)=(bytesOf a)[i]:=by
 rw [← rd_bytesOf,rd_at _ _ h]
theorem big_tells (l : List Int) (hl : l.length≤1048576) (hb : ∀ b ∈ l,0≤b∧b≤255) : Eve (fun k => Fx.f k l) (bigV l):=by
 simp only [Fx.f];refine ev_loop0 l (fun k (s : Int) i => Fx.l0 k s l (l.length : Int) i) (fun _ s r => r.foldl stp s) (fun _ _ => True) (fun s _ => ?_) (fun i hi s _ ih => ?_) 0 trivial
 ·
  simp only [Fx.l0]
  exact Eve.ite (fun h => absurd h (by omega)) (fun _ => Eve.one)
 have hx:=hb l[i] (List.getElem_mem hi);simp only [Fx.l0];refine Eve.ite (fun _ => ?_) (fun h => absurd (by omega) h);refine Eve.ite (fun _ => ?_) (fun h => absurd (by omega) h);refine Eve.ite (fun _ => ?_) (fun h => absurd (by omega) h);simp only [rd_at _ _ hi,or_byte _ _ hx.1 hx.2,wi (show i≤9223372036854775806 by omega)];exact ih _ trivial
theorem of_tells (a : ByteArray) (hl : a.size≤1048576) : Eve (fun k => Ft.f k a) (bigV (bytesOf a)):=by
 have hn : (bytesOf a).length=a.size:=bytesOf_length a;simp only [Ft.f];refine ev_loop0 (bytesOf a) (fun k (s : Int) i => Ft.l0 k a s i) (fun _ s r => r.foldl stp s) (fun _ _ => True) (fun s _ => ?_) (fun i hi s _ ih => ?_) 0 trivial
 ·
  simp only [Ft.l0]
  exact Eve.ite (fun h => absurd h (by omega)) (fun _ => Eve.one)
 simp only [Ft.l0];refine Eve.ite (fun _ => ?_) (fun h => absurd (by omega) h);refine Eve.ite (fun _ => ?_) (fun h => absurd (by omega) h);simp only [bt_get a i hi,wi (show i≤9223372036854775806 by omega)];exact ih _ trivial
def zer (n : Nat) : ByteArray:=⟨(Lib.repeatL [0] n).toArray⟩
def takV (a : ByteArray) (f : Bool) (n : Nat) : ByteArray×ByteArray×Bool:=if a.size<n then (zer n,a,true) else (a.extract 0 n,a.extract n a.size,f)
def numV (a : ByteArray) (f : Bool) (n : Nat) : Int×ByteArray×Bool:=if a.size<n then (0,a,true) else (bigV (bytesOf (a.extract 0 n)),a.extract n a.size,f)
theorem take_tells (a : ByteArray) (f : Bool) (n : Nat) (hn : n≤65535) : F0c.f a f (n : Int)=some (takV a f n):=by
 unfold F0c.f takV
 by_cases h : a.size<n
 ·
  rw [if_pos (by omega),if_pos h]
  unfold strings_Repeat.f;rw [if_pos (by omega),if_pos (by rw [show (⟨#[0]⟩ : ByteArray).size=1 from rfl];omega),if_pos (by omega)]
  rfl
 rw [if_neg (by omega),if_pos (by omega),if_pos (by omega),if_neg h]
 rfl
theorem zer_size (n : Nat) : (zer n).size=n:=by
 show (Lib.repeatL [0] n).toArray.size=n;rw [List.size_toArray,Lib.repeatL_length];simp
theorem fold_zero : ∀ n : Nat,((Lib.repeatL [0] n).map fun b : UInt8 => (b.toNat : Int)).foldl stp 0=0
 | 0 => rfl
 | n + 1 => by
  have e : stp 0 0=0:=by unfold stp;rw [w64m,w64m,w64m];omega
  simp only [Lib.repeatL,List.cons_append,List.nil_append,List.map_cons,List.foldl_cons];rw [show ((0 : UInt8).toNat : Int)=0 from rfl,e];exact fold_zero n
theorem big_zer (n : Nat) : bigV (bytesOf (zer n))=0:=by
 unfold bigV bytesOf zer;exact fold_zero n
theorem num_tells (a : ByteArray) (f : Bool) (n : Nat) (hn : n≤65535) : Eve (fun k => Fr.f k a f (n : Int)) (numV a f n):=by
 simp only [Fr.f,take_tells a f n hn,Option.bind_some];unfold takV numV
 by_cases h : a.size<n
 ·
  simp only [if_pos h]
  have hz:=zer_size n;refine Eve.ite (fun _ => ?_) (fun h => absurd (by omega) h);refine Eve.bind (big_tells _ (by rw [bytesOf_length,hz];omega) (bytes_in _)) ?_;rw [big_zer];exact Eve.one
 simp only [if_neg h];have hz : (a.extract 0 n).size≤n:=by rw [ByteArray.size_extract];omega
 refine Eve.ite (fun _ => ?_) (fun h => absurd (by omega) h);exact Eve.bind (big_tells _ (by rw [bytesOf_length];omega) (bytes_in _)) Eve.one
theorem big1 (x : Int) (h : 0≤x∧x≤255) : bigV [x]=x:=by
 simp only [bigV,List.foldl_cons,List.foldl_nil,stp];rw [w64m,w64m,w64m];omega
theorem big2 (x y : Int) (h : 0≤x∧x≤255) (h2 : 0≤y∧y≤255) : 0≤bigV [x,y]∧bigV [x,y]≤65535:=by
 simp only [bigV,List.foldl_cons,List.foldl_nil,stp];simp only [w64m];omega
theorem len1 {l : List Int} (h : l.length=1) : ∃ x,l=[x]:=by
 match l,h with
 | [x],_ => exact ⟨x,rfl⟩
theorem len2 {l : List Int} (h : l.length=2) : ∃ x y,l=[x,y]:=by
 match l,h with
 | [x,y],_ => exact ⟨x,y,rfl⟩
theorem bytes_ext1 (a : ByteArray) (i : Nat) (h : i<a.size) : bigV (bytesOf (a.extract i (i + 1)))=bt a (i : Int):=by
 have hl : (bytesOf (a.extract i (i + 1))).length=1:=by rw [bytesOf_length,ByteArray.size_extract];omega
 obtain ⟨x,hx⟩:=len1 hl;have h2:=bytes_in (a.extract i (i + 1)) x (by rw [hx];simp);have h3:=bt_get (a.extract i (i + 1)) 0 (by omega);rw [hx,big1 x h2];simp only [hx,List.getElem_cons_zero] at h3;rw [← h3];unfold bt;have e0 : (((0 : Nat) : Int)).toNat=0:=rfl;have e1 : ((i : Int)).toNat=i:=Int.toNat_natCast i;simp only [e0,e1];rw [dif_pos (by rw [ByteArray.size_extract];omega),dif_pos h]
 congr 2
 rw [ByteArray.getElem_extract];simp
theorem bytes_ext2 (a : ByteArray) (i : Nat) (h : i + 2≤a.size) : 0≤bigV (bytesOf (a.extract i (i + 2)))∧bigV (bytesOf (a.extract i (i + 2)))≤65535:=by
 have hl : (bytesOf (a.extract i (i + 2))).length=2:=by rw [bytesOf_length,ByteArray.size_extract];omega
 obtain ⟨x,y,hx⟩:=len2 hl;have hb:=bytes_in (a.extract i (i + 2));rw [hx] at hb ⊢;exact big2 x y (hb x (by simp)) (hb y (by simp))
abbrev IVal:=S49
abbrev eB : ByteArray:=⟨#[]⟩
abbrev Rd:=Int×Int×ByteArray×ByteArray×Bool
def valV (a : ByteArray) (f : Bool) : Rd :=
  let q:=numV a f 1
  if q.1=1 then (q.1,(numV q.2.1 q.2.2 1).1,eB,(numV q.2.1 q.2.2 1).2.1,(numV q.2.1 q.2.2 1).2.2)
  else if q.1=2 then (q.1,wrap64 ((numV q.2.1 q.2.2 8).1 - 4611686018427387904),eB,(numV q.2.1 q.2.2 8).2.1,(numV q.2.1 q.2.2 8).2.2)
  else if q.1=3∨q.1=4∨q.1=5 then
    let r:=numV q.2.1 q.2.2 2
    (q.1,0,(takV r.2.1 r.2.2 r.1.toNat).1,(takV r.2.1 r.2.2 r.1.toNat).2.1,(takV r.2.1 r.2.2 r.1.toNat).2.2)
  else (q.1,0,eB,q.2.1,q.2.2)
theorem num2_in (a : ByteArray) (f : Bool) : 0≤(numV a f 2).1∧(numV a f 2).1≤65535:=by
  unfold numV
  by_cases h : a.size<2
  · rw [if_pos h];simp
  rw [if_neg h];exact bytes_ext2 a 0 (by omega)
theorem j0_tells (q x1 : Int) (t : ByteArray) (a : ByteArray) (f : Bool) : Eve (fun k => Fb.j0 k true a f q x1 t) (q,x1,(takV (numV a f 2).2.1 (numV a f 2).2.2 (numV a f 2).1.toNat).1,(takV (numV a f 2).2.1 (numV a f 2).2.2 (numV a f 2).1.toNat).2.1,(takV (numV a f 2).2.1 (numV a f 2).2.2 (numV a f 2).1.toNat).2.2):=by
  refine Eve.succ ?_;simp only [Fb.j0,if_true];refine Eve.bind (num_tells a f 2 (by omega)) ?_;have hb:=num2_in a f;have ht:=take_tells (numV a f 2).2.1 (numV a f 2).2.2 (numV a f 2).1.toNat (by omega);rw [show (((numV a f 2).1.toNat : Nat) : Int)=(numV a f 2).1 from Int.toNat_of_nonneg hb.1] at ht;simp only [ht,Option.bind_some];exact Eve.one
theorem value_tells (a : ByteArray) (f : Bool) : Eve (fun k => Fb.f k a f) (valV a f):=by
  simp only [Fb.f];refine Eve.bind (num_tells a f 1 (by omega)) ?_;unfold valV;generalize numV a f 1=q;simp only;refine Eve.ite (fun h => ?_) (fun h => ?_)
  · rw [if_pos h]
    exact Eve.bind (num_tells q.2.1 q.2.2 1 (by omega)) Eve.one
  rw [if_neg h];refine Eve.ite (fun h2 => ?_) (fun h2 => ?_)
  · rw [if_pos h2]
    exact Eve.bind (num_tells q.2.1 q.2.2 8 (by omega)) Eve.one
  rw [if_neg h2];refine Eve.ite (fun h3 => ?_) (fun h3 => ?_)
  · rw [if_pos (.inl h3)]
    simp only [h3,beq_self_eq_true];exact j0_tells _ _ _ _ _
  refine Eve.ite (fun h4 => ?_) (fun h4 => ?_)
  · rw [if_pos (.inr (.inl h4))]
    simp only [h4,beq_self_eq_true];exact j0_tells _ _ _ _ _
  by_cases h5 : q.1=5
  · rw [if_pos (.inr (.inr h5))]
    simp only [h5,beq_self_eq_true];exact j0_tells _ _ _ _ _
  rw [if_neg (by omega)];have : (q.1 == 5)=false:=by simpa using h5
  simp only [this];refine Eve.succ ?_;simp only [Fb.j0,Bool.false_eq_true,if_false];exact Eve.one
def nxtV (a : ByteArray) : Option (IVal×ByteArray) :=
  if a.size=0 then none
  else if bt a 0=0 then some (⟨0,0,eB⟩,a.extract 1 a.size)
  else if bt a 0=1 then (if a.size<2 then none else some (⟨1,bt a 1,eB⟩,a.extract 2 a.size))
  else if bt a 0=2 then (if a.size<9 then none else if bt a 1 > 127 then none else some (⟨2,wrap64 (bigV (bytesOf (a.extract 1 9)) - 4611686018427387904),eB⟩,a.extract 9 a.size))
  else if bt a 0=3∨bt a 0=4∨bt a 0=5 then
    (if a.size<3 then none else if (a.size : Int)<3 + bigV (bytesOf (a.extract 1 3)) then none
     else some (⟨bt a 0,0,a.extract 3 (3 + bigV (bytesOf (a.extract 1 3))).toNat⟩,a.extract (3 + bigV (bytesOf (a.extract 1 3))).toNat a.size))
  else none
def told (o : Option (IVal×ByteArray)) : Rd:=match o with|some (v,r) => (v.f0,v.f1,v.f2,r,true)|none => (0,0,eB,eB,false)
theorem wbt (a : ByteArray) (i : Int) : wrap64 (bt a i)=bt a i:=w64 (by have:=bt_range a i;omega) (by have:=bt_range a i;omega)
theorem n0_tells (a : ByteArray) (q : Int) (hs : a.size≤1048576) : Eve (fun k => F1.j0 k a true q 0 eB)
    (told (if a.size<3 then none else if (a.size : Int)<3 + bigV (bytesOf (a.extract 1 3)) then none
     else some (⟨q,0,a.extract 3 (3 + bigV (bytesOf (a.extract 1 3))).toNat⟩,a.extract (3 + bigV (bytesOf (a.extract 1 3))).toNat a.size))):=by
  refine Eve.succ ?_;simp only [F1.j0,if_true];refine Eve.ite (fun h => ?_) (fun h => ?_)
  · rw [if_pos (by omega)];exact Eve.one
  rw [if_neg (by omega)];refine Eve.ite (fun _ => ?_) (fun h => absurd (by omega) h);refine Eve.ite (fun _ => ?_) (fun h => absurd (by omega) h);refine Eve.bind (of_tells (a.extract 1 3) (by rw [ByteArray.size_extract];omega)) ?_;have hb:=bytes_ext2 a 1 (by omega);simp only [show 1 + 2=3 from rfl] at hb;have hw : wrap64 (3 + bigV (bytesOf (a.extract 1 3)))=3 + bigV (bytesOf (a.extract 1 3)):=w64 (by omega) (by omega);simp only [hw];refine Eve.ite (fun h2 => ?_) (fun h2 => ?_)
  · rw [if_pos h2];exact Eve.one
  rw [if_neg h2];refine Eve.ite (fun _ => ?_) (fun h => absurd (by omega) h);refine Eve.ite (fun _ => ?_) (fun h => absurd (by omega) h);exact Eve.ite (fun _ => Eve.one) (fun h => absurd (by omega) h)
theorem next_tells (a : ByteArray) (hs : a.size≤1048576) : Eve (fun k => F1.f k a) (told (nxtV a)):=by
  unfold nxtV;simp only [F1.f,wbt];refine Eve.ite (fun h => ?_) (fun h => ?_)
  · have hz : a.size=0:=by omega
    rw [if_pos hz];exact Eve.one
  have hz : ¬ a.size=0:=by omega
  rw [if_neg hz];refine Eve.ite (fun _ => ?_) (fun h => absurd (by omega) h);refine Eve.ite (fun h0 => ?_) (fun h0 => ?_)
  · rw [if_pos h0]
    refine Eve.ite (fun _ => ?_) (fun h => absurd (by omega) h);exact Eve.one.eq (by rw [h0];rfl)
  rw [if_neg h0];refine Eve.ite (fun h1 => ?_) (fun h1 => ?_)
  · rw [if_pos h1]
    refine Eve.succ ?_;simp only [F1.j1,wbt,h1];have hw : wrap64 (1 + 1)=2:=w64 (by omega) (by omega);simp only [hw,if_true];refine Eve.ite (fun h => ?_) (fun h => ?_)
    · have hy : a.size<2:=by omega
      rw [if_pos hy];exact Eve.one
    have hy : ¬ a.size<2:=by omega
    rw [if_neg hy];refine Eve.ite (fun _ => ?_) (fun h => absurd (by omega) h);refine Eve.ite (fun _ => ?_) (fun h => absurd (by omega) h);exact Eve.ite (fun _ => Eve.one) (fun h => absurd (by omega) h)
  rw [if_neg h1];refine Eve.ite (fun h2 => ?_) (fun h2 => ?_)
  · rw [if_pos h2]
    refine Eve.succ ?_;simp only [F1.j1,h2];have hw : wrap64 (1 + 8)=9:=w64 (by omega) (by omega);simp only [hw];refine Eve.ite (fun h => ?_) (fun h => ?_)
    · have hy : a.size<9:=by omega
      rw [if_pos hy];exact Eve.one
    have hy : ¬ a.size<9:=by omega
    rw [if_neg hy];refine Eve.ite (fun h => absurd h (by omega)) (fun _ => ?_);refine Eve.ite (fun _ => ?_) (fun h => absurd (by omega) h);refine Eve.ite (fun h => ?_) (fun h => ?_)
    · rw [if_pos h];exact Eve.one
    rw [if_neg h];refine Eve.ite (fun _ => ?_) (fun h => absurd (by omega) h);refine Eve.ite (fun _ => ?_) (fun h => absurd (by omega) h);refine Eve.bind (of_tells (a.extract 1 9) (by rw [ByteArray.size_extract];omega)) ?_;refine Eve.ite (fun _ => ?_) (fun h => absurd (by omega) h);exact Eve.ite (fun _ => Eve.one) (fun h => absurd (by omega) h)
  rw [if_neg h2];refine Eve.ite (fun h3 => ?_) (fun h3 => ?_)
  · rw [if_pos (show bt a 0=3∨bt a 0=4∨bt a 0=5 from .inl h3)]
    simp only [h3,beq_self_eq_true];exact n0_tells a 3 hs
  refine Eve.ite (fun h4 => ?_) (fun h4 => ?_)
  · rw [if_pos (show bt a 0=3∨bt a 0=4∨bt a 0=5 from .inr (.inl h4))]
    simp only [h4,beq_self_eq_true];exact n0_tells a 4 hs
  by_cases h5 : bt a 0=5
  · rw [if_pos (show bt a 0=3∨bt a 0=4∨bt a 0=5 from .inr (.inr h5))]
    simp only [h5,beq_self_eq_true];exact n0_tells a 5 hs
  have hy : ¬ (bt a 0=3∨bt a 0=4∨bt a 0=5):=by omega
  rw [if_neg hy];have : (bt a 0 == 5)=false:=by simpa using h5
  simp only [this];refine Eve.succ ?_;simp only [F1.j0,Bool.false_eq_true,if_false];exact Eve.one
def Bad (v : IVal) : Prop:=v.f0<0∨v.f0 > 5∨(v.f0=2∧(v.f1 < -1000000000000∨v.f1 > 1000000000000))
def rdv (r : Rd) : IVal:=⟨r.1,r.2.1,r.2.2.1⟩
theorem num_one (a : ByteArray) (f : Bool) (h : 0<a.size) : numV a f 1=(bt a 0,a.extract 1 a.size,f):=by
  unfold numV;rw [if_neg (by omega)];have:=bytes_ext1 a 0 h;simp only [Nat.zero_add] at this;rw [this];rfl
theorem num_none (a : ByteArray) (f : Bool) (n : Nat) (h : a.size<n) : numV a f n=(0,a,true):=by unfold numV;rw [if_pos h]
theorem num_some (a : ByteArray) (f : Bool) (n : Nat) (h : n≤a.size) : numV a f n=(bigV (bytesOf (a.extract 0 n)),a.extract n a.size,f):=by unfold numV;rw [if_neg (by omega)]
theorem tail_size (a : ByteArray) (n : Nat) : (a.extract n a.size).size=a.size - n:=by rw [ByteArray.size_extract];omega
theorem ext_ext (a : ByteArray) (n i j : Nat) (h : n + j≤a.size) : (a.extract n a.size).extract i j=a.extract (n + i) (n + j):=by
  rw [ByteArray.extract_extract,Nat.min_eq_left h]
theorem ext_tail (a : ByteArray) (n i : Nat) (h : n≤a.size) : (a.extract n a.size).extract i (a.extract n a.size).size=a.extract (n + i) a.size:=by
  rw [tail_size,ByteArray.extract_extract]
  congr 1
  omega
theorem big8 (l : List Int) (x : Int) (r : List Int) (hl : l=x :: r) (hr : r.length=7) (hb : ∀ b ∈ l,0≤b∧b≤255) (hx : x > 127) : wrap64 (bigV l - 4611686018427387904) < -1000000000000∨wrap64 (bigV l - 4611686018427387904) > 1000000000000:=by
  subst hl
  match r,hr with
  | [b1,b2,b3,b4,b5,b6,b7],_ =>
    have h0:=hb x (by simp);have h1:=hb b1 (by simp);have h2:=hb b2 (by simp);have h3:=hb b3 (by simp);have h4:=hb b4 (by simp);have h5:=hb b5 (by simp);have h6:=hb b6 (by simp);have h7:=hb b7 (by simp)
    have e : bigV [x,b1,b2,b3,b4,b5,b6,b7]=x * 72057594037927936 + b1 * 281474976710656 + b2 * 1099511627776 + b3 * 4294967296 + b4 * 16777216 + b5 * 65536 + b6 * 256 + b7 - 18446744073709551616:=by
      simp only [bigV,List.foldl_cons,List.foldl_nil];have s0 : stp 0 x=x:=by unfold stp;simp only [w64m];omega
      have s1 : stp x b1=x * 256 + b1:=by unfold stp;simp only [w64m];omega
      have s2 : stp (x * 256 + b1) b2=x * 65536 + b1 * 256 + b2:=by unfold stp;simp only [w64m];omega
      have s3 : stp (x * 65536 + b1 * 256 + b2) b3=x * 16777216 + b1 * 65536 + b2 * 256 + b3:=by unfold stp;simp only [w64m];omega
      have s4 : stp (x * 16777216 + b1 * 65536 + b2 * 256 + b3) b4=x * 4294967296 + b1 * 16777216 + b2 * 65536 + b3 * 256 + b4:=by unfold stp;simp only [w64m];omega
      have s5 : stp (x * 4294967296 + b1 * 16777216 + b2 * 65536 + b3 * 256 + b4) b5=x * 1099511627776 + b1 * 4294967296 + b2 * 16777216 + b3 * 65536 + b4 * 256 + b5:=by unfold stp;simp only [w64m];omega
      have s6 : stp (x * 1099511627776 + b1 * 4294967296 + b2 * 16777216 + b3 * 65536 + b4 * 256 + b5) b6=x * 281474976710656 + b1 * 1099511627776 + b2 * 4294967296 + b3 * 16777216 + b4 * 65536 + b5 * 256 + b6:=by unfold stp;simp only [w64m];omega
      rw [s0,s1,s2,s3,s4,s5,s6];unfold stp;simp only [w64m];omega
    rw [e,w64m]
    omega
theorem nxt_some (a : ByteArray) (v : IVal) (r : ByteArray) (h : nxtV a=some (v,r)) : valV a false=(v.f0,v.f1,v.f2,r,false)∧r.size<a.size:=by
  unfold nxtV at h
  by_cases hz : a.size=0
  · rw [if_pos hz] at h;simp at h
  rw [if_neg hz] at h;unfold valV;rw [num_one a false (by omega)];simp only;have ht:=tail_size a 1
  by_cases h0 : bt a 0=0
  · rw [if_pos h0] at h
    obtain ⟨rfl,rfl⟩ : _∧_:=by simpa using h
    rw [if_neg (by omega),if_neg (by omega),if_neg (by omega),h0];exact ⟨rfl,by omega⟩
  rw [if_neg h0] at h
  by_cases h1 : bt a 0=1
  · rw [if_pos h1] at h
    by_cases h2 : a.size<2
    · rw [if_pos h2] at h;simp at h
    rw [if_neg h2] at h;obtain ⟨rfl,rfl⟩ : _∧_:=by simpa using h
    rw [if_pos h1,num_some _ _ _ (by omega),ext_ext _ _ _ _ (by omega),ext_tail _ _ _ (by omega),h1];have:=bytes_ext1 a 1 (by omega);refine ⟨?_,by rw [tail_size];omega⟩;show (1,bigV (bytesOf (a.extract 1 (1 + 1))),eB,a.extract 2 a.size,false)=_;rw [this];rfl
  rw [if_neg h1] at h
  by_cases h2 : bt a 0=2
  · rw [if_pos h2] at h
    by_cases h3 : a.size<9
    · rw [if_pos h3] at h;simp at h
    rw [if_neg h3] at h
    by_cases h4 : bt a 1 > 127
    · rw [if_pos h4] at h;simp at h
    rw [if_neg h4] at h;obtain ⟨rfl,rfl⟩ : _∧_:=by simpa using h
    rw [if_neg h1,if_pos h2,num_some _ _ _ (by omega),ext_ext _ _ _ _ (by omega),ext_tail _ _ _ (by omega),h2];exact ⟨rfl,by rw [tail_size];omega⟩
  rw [if_neg h2] at h
  by_cases h3 : bt a 0=3∨bt a 0=4∨bt a 0=5
  · rw [if_pos h3] at h
    by_cases h4 : a.size<3
    · rw [if_pos h4] at h;simp at h
    rw [if_neg h4] at h;have hb:=bytes_ext2 a 1 (by omega);simp only [show 1 + 2=3 from rfl] at hb
    by_cases h5 : (a.size : Int)<3 + bigV (bytesOf (a.extract 1 3))
    · rw [if_pos h5] at h;simp at h
    rw [if_neg h5] at h;obtain ⟨rfl,rfl⟩ : _∧_:=by simpa using h
    rw [if_neg h1,if_neg h2,if_pos h3,num_some _ _ _ (by omega),ext_ext _ _ _ _ (by omega),ext_tail _ _ _ (by omega)];simp only [show 1 + 0=1 from rfl,show 1 + 2=3 from rfl];generalize bigV (bytesOf (a.extract 1 3))=n at hb h5 ⊢;obtain ⟨n,rfl⟩ : ∃ m : Nat,n=(m : Int):=⟨n.toNat,by omega⟩;have e1 : ((n : Int)).toNat=n:=Int.toNat_natCast n;have e2 : (3 + (n : Int)).toNat=3 + n:=by omega
    have ht3:=tail_size a 3;unfold takV;simp only [e1,e2];rw [if_neg (by omega),ext_ext _ _ _ _ (by omega),ext_tail _ _ _ (by omega)];exact ⟨rfl,by rw [tail_size];omega⟩
  rw [if_neg h3] at h;simp at h
theorem nxt_none (a : ByteArray) (h : nxtV a=none) : (valV a false).2.2.2.2=true∨Bad (rdv (valV a false)):=by
  by_cases hz : a.size=0
  · left
    unfold valV;rw [num_none a false 1 (by omega)];simp
  unfold nxtV at h;rw [if_neg hz] at h;unfold valV;rw [num_one a false (by omega)];simp only;have ht:=tail_size a 1
  by_cases h0 : bt a 0=0
  · rw [if_pos h0] at h;simp at h
  rw [if_neg h0] at h
  by_cases h1 : bt a 0=1
  · rw [if_pos h1] at h ⊢
    by_cases h2 : a.size<2
    · left;rw [num_none _ _ _ (by omega)]
    rw [if_neg h2] at h;simp at h
  rw [if_neg h1] at h ⊢
  by_cases h2 : bt a 0=2
  · rw [if_pos h2] at h ⊢
    by_cases h3 : a.size<9
    · left;rw [num_none _ _ _ (by omega)]
    rw [if_neg h3] at h
    by_cases h4 : bt a 1 > 127
    · right;right;right
      refine ⟨h2,?_⟩;rw [num_some _ _ _ (by omega),ext_ext _ _ _ _ (by omega)];simp only [show 1 + 0=1 from rfl,show 1 + 8=9 from rfl,rdv];have hl : (bytesOf (a.extract 1 9)).length=8:=by rw [bytesOf_length,ByteArray.size_extract];omega
      have hg:=bt_get (a.extract 1 9) 0 (by omega)
      have he : bt (a.extract 1 9) ((0 : Nat) : Int)=bt a 1:=by
        unfold bt;have e0 : (((0 : Nat) : Int)).toNat=0:=rfl;have e1 : ((1 : Int)).toNat=1:=rfl;simp only [e0,e1];rw [dif_pos (by rw [ByteArray.size_extract];omega),dif_pos (by omega)]
        congr 2
        rw [ByteArray.getElem_extract]
      cases hc : bytesOf (a.extract 1 9) with
      | nil => rw [hc] at hl;simp at hl
      | cons x r =>
        have hb:=bytes_in (a.extract 1 9);rw [he] at hg;simp only [hc,List.getElem_cons_zero] at hg;rw [hc] at hl hb;exact big8 _ x r rfl (by simpa using hl) hb (by omega)
    rw [if_neg h4] at h;simp at h
  rw [if_neg h2] at h ⊢
  by_cases h3 : bt a 0=3∨bt a 0=4∨bt a 0=5
  · rw [if_pos h3] at h ⊢
    left
    by_cases h4 : a.size<3
    · rw [num_none _ _ 2 (by omega)]
      unfold takV;simp
    rw [if_neg h4] at h;have hb:=bytes_ext2 a 1 (by omega);simp only [show 1 + 2=3 from rfl] at hb
    by_cases h5 : (a.size : Int)<3 + bigV (bytesOf (a.extract 1 3))
    · rw [num_some _ _ 2 (by omega),ext_ext _ _ _ _ (by omega),ext_tail _ _ _ (by omega)]
      simp only [show 1 + 0=1 from rfl,show 1 + 2=3 from rfl];unfold takV;rw [if_pos (by rw [tail_size];omega)]
    rw [if_neg h5] at h;simp at h
  rw [if_neg h3]
  right
  have:=bt_range a 0
  right;left
  show bt a 0 > 5
  omega
theorem num_mono (a : ByteArray) (f : Bool) (n : Nat) : (numV a f n).2.1.size≤a.size∧(f=true→(numV a f n).2.2=true):=by
  unfold numV
  by_cases h : a.size<n
  · rw [if_pos h];exact ⟨Nat.le_refl _,fun _ => rfl⟩
  rw [if_neg h];exact ⟨by simp only [tail_size];omega,fun h => h⟩
theorem tak_mono (a : ByteArray) (f : Bool) (n : Nat) : (takV a f n).2.1.size≤a.size∧(f=true→(takV a f n).2.2=true):=by
  unfold takV
  by_cases h : a.size<n
  · rw [if_pos h];exact ⟨Nat.le_refl _,fun _ => rfl⟩
  rw [if_neg h];exact ⟨by simp only [tail_size];omega,fun h => h⟩
theorem val_mono (a : ByteArray) (f : Bool) : (valV a f).2.2.2.1.size≤(numV a f 1).2.1.size∧(f=true→(valV a f).2.2.2.2=true):=by
  have hq:=num_mono a f 1;unfold valV;generalize numV a f 1=q at hq;simp only
  by_cases h1 : q.1=1
  · rw [if_pos h1]
    have:=num_mono q.2.1 q.2.2 1;exact ⟨this.1,fun h => this.2 (hq.2 h)⟩
  rw [if_neg h1]
  by_cases h2 : q.1=2
  · rw [if_pos h2]
    have:=num_mono q.2.1 q.2.2 8;exact ⟨this.1,fun h => this.2 (hq.2 h)⟩
  rw [if_neg h2]
  by_cases h3 : q.1=3∨q.1=4∨q.1=5
  · rw [if_pos h3]
    have hr:=num_mono q.2.1 q.2.2 2;have ht:=tak_mono (numV q.2.1 q.2.2 2).2.1 (numV q.2.1 q.2.2 2).2.2 (numV q.2.1 q.2.2 2).1.toNat;exact ⟨Nat.le_trans ht.1 hr.1,fun h => ht.2 (hr.2 (hq.2 h))⟩
  rw [if_neg h3];exact ⟨Nat.le_refl _,hq.2⟩
theorem val_less (a : ByteArray) (f : Bool) (h : 0<a.size) : (valV a f).2.2.2.1.size<a.size:=by
  have h1:=(val_mono a f).1;rw [num_one a f h] at h1;have:=tail_size a 1;simp only at h1
  omega
abbrev IFld:=S87
theorem emp (a : ByteArray) : a.toList=([] : List UInt8)↔a.size=0:=by
 rw [ba_toList,← data_length,List.length_eq_zero_iff]
def itS : Nat→ByteArray→Option (List IVal)
 | 0,a => if a.size=0 then some [] else none
 | m + 1,a => if a.size=0 then some [] else match nxtV a with
  | none => none
  | some (v,r) => (itS m r).map (v :: ·)
def toldL (acc : List IVal) (o : Option (List IVal)) : List IVal×Bool:=match o with|some l => (acc ++ l,true)|none => ([],false)
theorem items_spec : ∀ (m : Nat) (a : ByteArray) (acc : List IVal),a.size≤m→a.size≤1048576→acc.length + a.size≤1048576→Eve (fun k => Fo.l0 k a acc) (toldL acc (itS m a)):=by
 intro m
 induction m with
 | zero =>
  intro a acc h1 h2 h3;refine Eve.succ ?_;simp only [Fo.l0,itS];have hz : a.size=0:=by omega
  rw [if_pos hz];exact Eve.ite (fun h => absurd h (by omega)) (fun _ => Eve.one.eq (by simp [toldL]))
 | succ m ih =>
  intro a acc h1 h2 h3;refine Eve.succ ?_;simp only [Fo.l0,itS]
  by_cases hz : a.size=0
  ·
   rw [if_pos hz]
   exact Eve.ite (fun h => absurd h (by omega)) (fun _ => Eve.one.eq (by simp [toldL]))
  rw [if_neg hz];refine Eve.ite (fun _ => ?_) (fun h => absurd (by omega) h);refine Eve.bind (next_tells a h2) ?_
  cases hn : nxtV a with
  | none => simp only [told,Bool.false_eq_true,if_false];exact Eve.one
  | some p =>
   obtain ⟨v,r⟩:=p;have hs:=nxt_some a v r hn;simp only [told,if_true];refine Eve.ite (fun _ => ?_) (fun h => absurd (by omega) h);refine (ih r (acc ++ [⟨v.f0,v.f1,v.f2⟩]) (by omega) (by omega) (by simp;omega)).eq ?_
   cases itS m r with
   | none => rfl
   | some l => simp [toldL]
theorem tak_size (a : ByteArray) (f : Bool) (n : Nat) (_h : a.size≤1048576) (hn : n≤65535) : (takV a f n).1.size≤1048576:=by
 unfold takV
 by_cases h2 : a.size<n
 ·
  rw [if_pos h2];simp only [zer_size];omega
 rw [if_neg h2];simp only [ByteArray.size_extract];omega
theorem val_size (a : ByteArray) (f : Bool) (h : a.size≤1048576) : (rdv (valV a f)).f2.size≤1048576:=by
 have hq:=num_mono a f 1;unfold valV;generalize numV a f 1=q at hq;simp only [rdv]
 by_cases h1 : q.1=1
 ·
  rw [if_pos h1];exact Nat.zero_le _
 rw [if_neg h1]
 by_cases h2 : q.1=2
 ·
  rw [if_pos h2];exact Nat.zero_le _
 rw [if_neg h2]
 by_cases h3 : q.1=3∨q.1=4∨q.1=5
 ·
  rw [if_pos h3]
  have hr:=num_mono q.2.1 q.2.2 2;have hn:=num2_in q.2.1 q.2.2;exact tak_size _ _ _ (by omega) (by omega)
 rw [if_neg h3];exact Nat.zero_le _
theorem items_stop (acc : List IVal) (a : ByteArray) : Eve (fun k => Fk.l0 k acc a true) (acc,false):=by
 refine Eve.succ ?_;simp only [Fk.l0,if_true,Bool.not_true];exact Eve.ite (fun _ => Eve.one) (fun _ => Eve.one)
theorem items_end (acc : List IVal) (a : ByteArray) (h : a.size=0) : Eve (fun k => Fk.l0 k acc a false) (acc,true):=by
 refine Eve.succ ?_;simp only [Fk.l0,Bool.not_false];exact Eve.ite (fun _ => Eve.one) (fun h2 => absurd ((emp a).2 h) h2)
theorem items_step (acc : List IVal) (a : ByteArray) (h : 0<a.size) (hl : acc.length≤1048576) {x : List IVal×Bool}
  (hx : Eve (fun k => Fk.l0 k (acc ++ [rdv (valV a false)]) (valV a false).2.2.2.1 (valV a false).2.2.2.2) x) : Eve (fun k => Fk.l0 k acc a false) x:=by
 refine Eve.succ ?_;simp only [Fk.l0,Bool.false_eq_true,if_false];refine Eve.ite (fun h2 => absurd ((emp a).1 h2) (by omega)) (fun _ => ?_);refine Eve.bind (value_tells a false) ?_;exact Eve.ite (fun _ => hx) (fun h2 => absurd (by omega) h2)
theorem items_some : ∀ (m : Nat) (a : ByteArray) (acc l : List IVal),itS m a=some l→acc.length + a.size≤1048576→Eve (fun k => Fk.l0 k acc a false) (acc ++ l,true):=by
 intro m
 induction m with
 | zero =>
  intro a acc l h h2;simp only [itS] at h
  by_cases hz : a.size=0
  ·
   rw [if_pos hz] at h
   obtain rfl : []=l:=by simpa using h
   exact (items_end acc a hz).eq (by simp)
  rw [if_neg hz] at h;simp at h
 | succ m ih =>
  intro a acc l h h2;simp only [itS] at h
  by_cases hz : a.size=0
  ·
   rw [if_pos hz] at h
   obtain rfl : []=l:=by simpa using h
   exact (items_end acc a hz).eq (by simp)
  rw [if_neg hz] at h
  cases hn : nxtV a with
  | none => rw [hn] at h;simp at h
  | some p =>
   obtain ⟨v,r⟩:=p;rw [hn] at h;simp only [Option.map_eq_some_iff] at h;obtain ⟨l',h',rfl⟩:=h;obtain ⟨hs,hlt⟩:=nxt_some a v r hn;refine items_step acc a (by omega) (by omega) ?_;rw [hs];refine (ih r (acc ++ [rdv (v.f0,v.f1,v.f2,r,false)]) l' h' (by simp;omega)).eq ?_;simp [rdv]
theorem items_some_end : ∀ (m : Nat) (a : ByteArray) (acc : List IVal),a.size≤m→acc.length + a.size≤1048576 → ∃ l ok,Eve (fun k => Fk.l0 k acc a false) (acc ++ l,ok)∧(l.length≤a.size ∧ ∀ x ∈ l,x.f2.size≤1048576):=by
 intro m
 induction m with
 | zero => intro a acc h1 h2;exact ⟨[],true,(items_end acc a (by omega)).eq (by simp),by simp,by simp⟩
 | succ m ih =>
  intro a acc h1 h2
  by_cases hz : a.size=0
  ·
   exact ⟨[],true,(items_end acc a hz).eq (by simp),by simp,by simp⟩
  have hlt:=val_less a false (by omega);have hvs:=val_size a false (by omega)
  cases hf : (valV a false).2.2.2.2 with
  | true =>
   refine ⟨[rdv (valV a false)],false,items_step acc a (by omega) (by omega) ?_,by simp;omega,by simpa using hvs⟩;rw [hf];exact items_stop _ _
  | false =>
   obtain ⟨l,ok,hl,hl1,hl2⟩:=ih (valV a false).2.2.2.1 (acc ++ [rdv (valV a false)]) (by omega) (by simp;omega);refine ⟨rdv (valV a false) :: l,ok,items_step acc a (by omega) (by omega) ?_,by simp;omega,by simpa using ⟨hvs,hl2⟩⟩;rw [hf];exact hl.eq (by simp)
theorem items_none : ∀ (m : Nat) (a : ByteArray) (acc : List IVal),a.size≤m→itS m a=none→acc.length + a.size≤1048576 → ∃ l ok,Eve (fun k => Fk.l0 k acc a false) (acc ++ l,ok)∧(ok=false ∨ ∃ v ∈ l,Bad v)∧(l.length≤a.size ∧ ∀ x ∈ l,x.f2.size≤1048576):=by
 intro m
 induction m with
 | zero =>
  intro a acc h1 h h2;simp only [itS] at h;rw [if_pos (show a.size=0 by omega)] at h;simp at h
 | succ m ih =>
  intro a acc h1 h h2;simp only [itS] at h
  by_cases hz : a.size=0
  ·
   rw [if_pos hz] at h;simp at h
  rw [if_neg hz] at h;have hlt:=val_less a false (by omega);have hvs:=val_size a false (by omega)
  cases hn : nxtV a with
  | some p =>
   obtain ⟨v,r⟩:=p;rw [hn] at h;simp only [Option.map_eq_none_iff] at h;obtain ⟨hs,hlt⟩:=nxt_some a v r hn;rw [hs] at hvs;obtain ⟨l,ok,hl,hb,hl1,hl2⟩:=ih r (acc ++ [rdv (v.f0,v.f1,v.f2,r,false)]) (by omega) h (by simp;omega);refine ⟨rdv (v.f0,v.f1,v.f2,r,false) :: l,ok,?_,?_,by simp;omega,by simpa using ⟨hvs,hl2⟩⟩
   ·
    refine items_step acc a (by omega) (by omega) ?_
    rw [hs];exact hl.eq (by simp)
   rcases hb with hb|⟨x,hx,hb⟩
   ·
    exact .inl hb
   exact .inr ⟨x,by simp [hx],hb⟩
  | none =>
   have hv:=nxt_none a hn
   cases hf : (valV a false).2.2.2.2 with
   | true =>
    refine ⟨[rdv (valV a false)],false,items_step acc a (by omega) (by omega) ?_,.inl rfl,by simp;omega,by simpa using hvs⟩;rw [hf];exact items_stop _ _
   | false =>
    rw [hf] at hv;obtain ⟨l,ok,hl,hl1,hl2⟩:=items_some_end m (valV a false).2.2.2.1 (acc ++ [rdv (valV a false)]) (by omega) (by simp;omega);refine ⟨rdv (valV a false) :: l,ok,items_step acc a (by omega) (by omega) ?_,.inr ⟨_,by simp,hv.resolve_left (by simp)⟩,by simp;omega,by simpa using ⟨hvs,hl2⟩⟩;rw [hf];exact hl.eq (by simp)
def fdS : Nat→ByteArray→Option (List IFld)
 | 0,a => if a.size=0 then some [] else none
 | m + 1,a => if a.size=0 then some [] else if (a.size : Int)<1 + bt a 0 then none else match nxtV (a.extract (1 + bt a 0).toNat a.size) with
  | none => none
  | some (v,r) => (fdS m r).map ((⟨a.extract 1 (1 + bt a 0).toNat,v⟩ : IFld) :: ·)
def toldF (acc : List IFld) (o : Option (List IFld)) : List IFld×Bool:=match o with|some l => (acc ++ l,true)|none => ([],false)
theorem wb1 (a : ByteArray) : wrap64 (1 + bt a 0)=1 + bt a 0:=w64 (by have:=bt_range a 0;omega) (by have:=bt_range a 0;omega)
theorem fields_spec : ∀ (m : Nat) (a : ByteArray) (acc : List IFld),a.size≤m→a.size≤1048576→acc.length + a.size≤1048576→Eve (fun k => Fn.l0 k a acc) (toldF acc (fdS m a)):=by
 intro m
 induction m with
 | zero =>
  intro a acc h1 h2 h3;refine Eve.succ ?_;simp only [Fn.l0,fdS];have hz : a.size=0:=by omega
  rw [if_pos hz];exact Eve.ite (fun h => absurd h (by omega)) (fun _ => Eve.one.eq (by simp [toldF]))
 | succ m ih =>
  intro a acc h1 h2 h3;refine Eve.succ ?_;simp only [Fn.l0,fdS,wbt,wb1]
  by_cases hz : a.size=0
  ·
   rw [if_pos hz]
   exact Eve.ite (fun h => absurd h (by omega)) (fun _ => Eve.one.eq (by simp [toldF]))
  rw [if_neg hz];have hb:=bt_range a 0;refine Eve.ite (fun _ => ?_) (fun h => absurd (by omega) h);refine Eve.ite (fun _ => ?_) (fun h => absurd (by omega) h);refine Eve.ite (fun h => ?_) (fun h => ?_)
  ·
   rw [if_pos h];exact Eve.one
  rw [if_neg h];refine Eve.ite (fun _ => ?_) (fun h => absurd (by omega) h);refine Eve.ite (fun _ => ?_) (fun h => absurd (by omega) h);refine Eve.ite (fun _ => ?_) (fun h => absurd (by omega) h);have ht:=tail_size a (1 + bt a 0).toNat;refine Eve.bind (next_tells _ (by omega)) ?_
  cases hn : nxtV (a.extract (1 + bt a 0).toNat a.size) with
  | none => simp only [told,Bool.false_eq_true,if_false];exact Eve.one
  | some p =>
   obtain ⟨v,r⟩:=p;have hs:=nxt_some _ v r hn;simp only [told,if_true];refine Eve.ite (fun _ => ?_) (fun h => absurd (by omega) h);refine (ih r (acc ++ [⟨a.extract 1 (1 + bt a 0).toNat,⟨v.f0,v.f1,v.f2⟩⟩]) (by omega) (by omega) (by simp;omega)).eq ?_
   cases fdS m r with
   | none => rfl
   | some l => simp [toldF]
def fdV (a : ByteArray) : ByteArray×Rd :=
 let q:=numV a false 1
 let t:=takV q.2.1 q.2.2 q.1.toNat
 (t.1,valV t.2.1 t.2.2)
def fdv (x : ByteArray×Rd) : IFld:=⟨x.1,rdv x.2⟩
theorem fields_stop (acc : List IFld) (a : ByteArray) : Eve (fun k => F5.l0 k acc a true) (acc,false):=by
 have hj : Eve (fun k => F5.j1 k acc false a true) (acc,false):=Eve.succ (by simp only [F5.j1,Bool.false_eq_true,if_false,Bool.not_true];exact Eve.one);refine Eve.succ ?_;simp only [F5.l0,Bool.not_true];exact Eve.ite (fun _ => hj) (fun _ => hj)
theorem fields_end (acc : List IFld) (a : ByteArray) (h : a.size=0) : Eve (fun k => F5.l0 k acc a false) (acc,true):=by
 refine Eve.succ ?_;simp only [F5.l0];refine Eve.ite (fun _ => Eve.succ ?_) (fun h2 => absurd ((emp a).2 h) h2);simp only [F5.j1,Bool.false_eq_true,if_false,Bool.not_false];exact Eve.one
theorem fields_step (acc : List IFld) (a : ByteArray) (h : 0<a.size) (hl : acc.length≤1048576) {x : List IFld×Bool}
  (hx : Eve (fun k => F5.l0 k (acc ++ [fdv (fdV a)]) (fdV a).2.2.2.2.1 (fdV a).2.2.2.2.2) x) : Eve (fun k => F5.l0 k acc a false) x:=by
 refine Eve.succ ?_;simp only [F5.l0,Bool.not_false];refine Eve.ite (fun h2 => absurd ((emp a).1 h2) (by omega)) (fun _ => Eve.succ ?_);simp only [F5.j1,if_true];refine Eve.bind (num_tells a false 1 (by omega)) ?_
 have hb : 0≤(numV a false 1).1∧(numV a false 1).1≤65535:=by
  rw [num_one a false h];have:=bt_range a 0;simp only;omega
 have ht:=take_tells (numV a false 1).2.1 (numV a false 1).2.2 (numV a false 1).1.toNat (by omega);rw [show (((numV a false 1).1.toNat : Nat) : Int)=(numV a false 1).1 from Int.toNat_of_nonneg hb.1] at ht;simp only [ht,Option.bind_some];refine Eve.bind (value_tells _ _) ?_;exact Eve.ite (fun _ => hx) (fun h2 => absurd (by omega) h2)
theorem fdV_less (a : ByteArray) (h : 0<a.size) : (fdV a).2.2.2.2.1.size<a.size:=by
 unfold fdV;rw [num_one a false h];simp only;have h1:=tail_size a 1;have h2:=(tak_mono (a.extract 1 a.size) false (bt a 0).toNat).1;have h3:=(val_mono (takV (a.extract 1 a.size) false (bt a 0).toNat).2.1 (takV (a.extract 1 a.size) false (bt a 0).toNat).2.2).1;have h4:=(num_mono (takV (a.extract 1 a.size) false (bt a 0).toNat).2.1 (takV (a.extract 1 a.size) false (bt a 0).toNat).2.2 1).1
 omega
theorem fdV_ok (a : ByteArray) (h : 0<a.size) (h2 : ¬ (a.size : Int)<1 + bt a 0) : fdV a=(a.extract 1 (1 + bt a 0).toNat,valV (a.extract (1 + bt a 0).toNat a.size) false):=by
 unfold fdV;rw [num_one a false h];simp only;have hb:=bt_range a 0;have ht:=tail_size a 1;have e : (1 + bt a 0).toNat=1 + (bt a 0).toNat:=by omega
 unfold takV;rw [if_neg (by omega),e];simp only;rw [ext_ext _ _ _ _ (by omega),ext_tail _ _ _ (by omega)]
theorem fdV_bad (a : ByteArray) (h : 0<a.size) (h2 : (a.size : Int)<1 + bt a 0) : (fdV a).2.2.2.2.2=true:=by
 unfold fdV;rw [num_one a false h];simp only;have hb:=bt_range a 0;have ht:=tail_size a 1;refine (val_mono _ _).2 ?_;unfold takV;rw [if_pos (by omega)]
theorem fields_some : ∀ (m : Nat) (a : ByteArray) (acc l : List IFld),fdS m a=some l→acc.length + a.size≤1048576→Eve (fun k => F5.l0 k acc a false) (acc ++ l,true):=by
 intro m
 induction m with
 | zero =>
  intro a acc l h h2;simp only [fdS] at h
  by_cases hz : a.size=0
  ·
   rw [if_pos hz] at h
   obtain rfl : []=l:=by simpa using h
   exact (fields_end acc a hz).eq (by simp)
  rw [if_neg hz] at h;simp at h
 | succ m ih =>
  intro a acc l h h2;simp only [fdS] at h
  by_cases hz : a.size=0
  ·
   rw [if_pos hz] at h
   obtain rfl : []=l:=by simpa using h
   exact (fields_end acc a hz).eq (by simp)
  rw [if_neg hz] at h
  by_cases hy : (a.size : Int)<1 + bt a 0
  ·
   rw [if_pos hy] at h;simp at h
  rw [if_neg hy] at h
  cases hn : nxtV (a.extract (1 + bt a 0).toNat a.size) with
  | none => rw [hn] at h;simp at h
  | some p =>
   obtain ⟨v,r⟩:=p;rw [hn] at h;simp only [Option.map_eq_some_iff] at h;obtain ⟨l',h',rfl⟩:=h;obtain ⟨hs,hlt⟩:=nxt_some _ v r hn;have ht:=tail_size a (1 + bt a 0).toNat;have hb:=bt_range a 0;refine fields_step acc a (by omega) (by omega) ?_;rw [fdV_ok a (by omega) hy,hs];refine (ih r (acc ++ [fdv (a.extract 1 (1 + bt a 0).toNat,(v.f0,v.f1,v.f2,r,false))]) l' h' (by simp;omega)).eq ?_;simp [fdv,rdv]
theorem fdV_size (a : ByteArray) (h : 0<a.size) (h2 : a.size≤1048576) : (fdv (fdV a)).f0.size≤1048576∧(fdv (fdV a)).f1.f2.size≤1048576:=by
 unfold fdV fdv;rw [num_one a false h];have hb:=bt_range a 0;have ht:=tail_size a 1;have hm:=(tak_mono (a.extract 1 a.size) false (bt a 0).toNat).1;exact ⟨tak_size (a.extract 1 a.size) false (bt a 0).toNat (by omega) (by omega),val_size (takV (a.extract 1 a.size) false (bt a 0).toNat).2.1 (takV (a.extract 1 a.size) false (bt a 0).toNat).2.2 (by omega)⟩
theorem fields_some_end : ∀ (m : Nat) (a : ByteArray) (acc : List IFld),a.size≤m→acc.length + a.size≤1048576 → ∃ l ok,Eve (fun k => F5.l0 k acc a false) (acc ++ l,ok)∧(l.length≤a.size ∧ ∀ x ∈ l,x.f0.size≤1048576∧x.f1.f2.size≤1048576):=by
 intro m
 induction m with
 | zero => intro a acc h1 h2;exact ⟨[],true,(fields_end acc a (by omega)).eq (by simp),by simp,by simp⟩
 | succ m ih =>
  intro a acc h1 h2
  by_cases hz : a.size=0
  ·
   exact ⟨[],true,(fields_end acc a hz).eq (by simp),by simp,by simp⟩
  have hlt:=fdV_less a (by omega);have hvs:=fdV_size a (by omega) (by omega)
  cases hf : (fdV a).2.2.2.2.2 with
  | true =>
   refine ⟨[fdv (fdV a)],false,fields_step acc a (by omega) (by omega) ?_,by simp;omega,by simpa using hvs⟩;rw [hf];exact fields_stop _ _
  | false =>
   obtain ⟨l,ok,hl,hl1,hl2⟩:=ih (fdV a).2.2.2.2.1 (acc ++ [fdv (fdV a)]) (by omega) (by simp;omega);refine ⟨fdv (fdV a) :: l,ok,fields_step acc a (by omega) (by omega) ?_,by simp;omega,by simpa using ⟨hvs,hl2⟩⟩;rw [hf];exact hl.eq (by simp)
theorem fields_none : ∀ (m : Nat) (a : ByteArray) (acc : List IFld),a.size≤m→fdS m a=none→acc.length + a.size≤1048576 → ∃ l ok,Eve (fun k => F5.l0 k acc a false) (acc ++ l,ok)∧(ok=false ∨ ∃ v ∈ l,Bad v.f1)∧(l.length≤a.size ∧ ∀ x ∈ l,x.f0.size≤1048576∧x.f1.f2.size≤1048576):=by
 intro m
 induction m with
 | zero =>
  intro a acc h1 h h2;simp only [fdS] at h;rw [if_pos (show a.size=0 by omega)] at h;simp at h
 | succ m ih =>
  intro a acc h1 h h2;simp only [fdS] at h
  by_cases hz : a.size=0
  ·
   rw [if_pos hz] at h;simp at h
  rw [if_neg hz] at h;have hlt:=fdV_less a (by omega);have hvs:=fdV_size a (by omega) (by omega)
  by_cases hy : (a.size : Int)<1 + bt a 0
  ·
   refine ⟨[fdv (fdV a)],false,fields_step acc a (by omega) (by omega) ?_,.inl rfl,by simp;omega,by simpa using hvs⟩
   rw [fdV_bad a (by omega) hy];exact fields_stop _ _
  rw [if_neg hy] at h;have ht:=tail_size a (1 + bt a 0).toNat;have hb0:=bt_range a 0;have hok:=fdV_ok a (by omega) hy
  cases hn : nxtV (a.extract (1 + bt a 0).toNat a.size) with
  | some p =>
   obtain ⟨v,r⟩:=p;rw [hn] at h;simp only [Option.map_eq_none_iff] at h;obtain ⟨hs,hlt⟩:=nxt_some _ v r hn;rw [hok,hs] at hvs;obtain ⟨l,ok,hl,hb,hl1,hl2⟩:=ih r (acc ++ [fdv (a.extract 1 (1 + bt a 0).toNat,(v.f0,v.f1,v.f2,r,false))]) (by omega) h (by simp;omega);refine ⟨fdv (a.extract 1 (1 + bt a 0).toNat,(v.f0,v.f1,v.f2,r,false)) :: l,ok,?_,?_,by simp;omega,by simpa using ⟨hvs,hl2⟩⟩
   ·
    refine fields_step acc a (by omega) (by omega) ?_
    rw [hok,hs];exact hl.eq (by simp)
   rcases hb with hb|⟨x,hx,hb⟩
   ·
    exact .inl hb
   exact .inr ⟨x,by simp [hx],hb⟩
  | none =>
   have hv:=nxt_none _ hn
   cases hf : (fdV a).2.2.2.2.2 with
   | true =>
    refine ⟨[fdv (fdV a)],false,fields_step acc a (by omega) (by omega) ?_,.inl rfl,by simp;omega,by simpa using hvs⟩;rw [hf];exact fields_stop _ _
   | false =>
    obtain ⟨l,ok,hl,hl1,hl2⟩:=fields_some_end m (fdV a).2.2.2.2.1 (acc ++ [fdv (fdV a)]) (by omega) (by simp;omega);refine ⟨fdv (fdV a) :: l,ok,fields_step acc a (by omega) (by omega) ?_,.inr ⟨fdv (fdV a),by simp,?_⟩,by simp;omega,by simpa using ⟨hvs,hl2⟩⟩
    ·
     rw [hf]
     exact hl.eq (by simp)
    have e1 : (fdV a).2=valV (a.extract (1 + bt a 0).toNat a.size) false:=by rw [hok]
    have e2 : (fdv (fdV a)).f1=rdv (fdV a).2:=rfl;rw [e2,e1];rw [e1] at hf;rcases hv with hv|hv
    ·
     rw [hf] at hv;cases hv
    exact hv
def isL (c : Int) : Bool:=(decide (97≤c) && decide (c≤122)) || (decide (65≤c) && decide (c≤90)) || (c == 95)
def isD (c : Int) : Bool:=decide (48≤c) && decide (c≤57)
theorem specL (c : Int) : F0q.f c=some (isL c):=by
 unfold F0q.f isL
 split <;> split <;> (try split) <;> (try split) <;> simp <;> omega
theorem implL (c : Int) : F0s.f c=some (isL c):=by
 unfold F0s.f isL
 split <;> split <;> (try split) <;> (try split) <;> simp <;> omega
theorem specD (c : Int) : F0t.f c=some (isD c):=by
 unfold F0t.f isD
 split <;> simp <;> omega
theorem implD (c : Int) : F0r.f c=some (isD c):=by
 unfold F0r.f isD
 split <;> simp <;> omega
def wgo (first : Bool) : List Int→Bool
 | [] => true
 | c :: cs => (isL c || (isD c && !first)) && wgo false cs
def word (s : ByteArray) : Bool:=wgo true (bytesOf s) && (decide (1≤(s.size : Int)) && decide ((s.size : Int)≤40))
theorem word_spec (s : ByteArray) (hs : s.size≤1048576) : Eve (fun k => F7.f k s) (word s):=by
 have hn : (bytesOf s).length=s.size:=bytesOf_length s;have hj : Eve (fun k => F7.j0 k s true) false:=Eve.succ (by simp only [F7.j0,if_true];exact Eve.one);simp only [F7.f];refine Eve.ite (fun h => hj.eq ?_) (fun h => ?_)
 ·
  have : decide (1≤(s.size : Int))=false:=by simp;omega
  simp [word,this]
 refine Eve.ite (fun h2 => hj.eq ?_) (fun h2 => ?_)
 ·
  have : decide ((s.size : Int)≤40)=false:=by simp;omega
  simp [word,this]
 refine Eve.ite (fun _ => ?_) (fun h => absurd (by omega) h)
 have hw : word s=wgo true (bytesOf s):=by
  have a1 : decide (1≤(s.size : Int))=true:=by simp;omega
  have a2 : decide ((s.size : Int)≤40)=true:=by simp;omega
  simp [word,a1,a2]
 have hb:=bt_get s 0 (by omega);simp only [show ((0 : Nat) : Int)=0 from rfl] at hb;have hc : bytesOf s=bt s 0 :: (bytesOf s).drop 1:=by rw [hb];exact drop_at (bytesOf s) 0 (by omega)
 simp only [specL,Option.bind_some]
 cases hl : isL (bt s 0) with
 | false =>
  refine hj.eq ?_;rw [hw,hc];simp [wgo,hl]
 | true =>
  refine Eve.succ ?_;simp only [F7.j0,Bool.not_true,Bool.false_eq_true,if_false]
  have:=ev_loop (bytesOf s) (fun k (_ : Unit) i => F7.l0 k s i) (fun _ _ r => wgo false r) (fun i _ => 1≤i) (fun _ _ => by
   simp only [F7.l0]
   exact Eve.ite (fun h => absurd h (by omega)) (fun _ => Eve.one)) (fun i hi _ hI ih => by
   have hnx:=ih () (by omega);simp only [F7.l0,specL,specD,Option.bind_some,wi (show i≤9223372036854775806 by omega),bt_get s i hi];refine Eve.ite (fun _ => ?_) (fun h => absurd (by omega) h);refine Eve.ite (fun _ => ?_) (fun h => absurd (by omega) h);refine Eve.ite (fun h1 => hnx.eq (by simp [wgo,h1])) (fun h1 => ?_)
   exact Eve.ite (fun h2 => hnx.eq (by simp [wgo,h2])) (fun h2 => Eve.one.eq (by simp [wgo,h1,h2]))) ((bytesOf s).length - 1) 1 () (by omega) (by omega)
  refine this.eq ?_;rw [hw]
  conv => rhs;rw [hc]
  simp [wgo,hl]
theorem word_impl (s : ByteArray) (hs : s.size≤1048576) : Eve (fun k => Fp.f k s) (word s):=by
 have hn : (bytesOf s).length=s.size:=bytesOf_length s;simp only [Fp.f];refine ev_loop0 (bytesOf s) (fun k (_ : Unit) i => Fp.l0 k s (s.size : Int) i) (fun i _ r => wgo (decide (i=0)) r && (decide (1≤(s.size : Int)) && decide ((s.size : Int)≤40))) (fun _ _ => True) (fun _ _ => ?_) (fun i hi _ _ ih => ?_) () trivial
 ·
  simp only [Fp.l0]
  refine Eve.ite (fun h => absurd h (by omega)) (fun _ => Eve.all fun k => ?_);unfold F08.f
  by_cases h : 1≤(s.size : Int)
  ·
   rw [if_pos h];simp [wgo,h]
  rw [if_neg h];simp [wgo,h]
 have hnx:=ih () trivial;simp only [Nat.add_one_ne_zero,decide_false] at hnx;simp only [Fp.l0,implL,implD,Option.bind_some,wi (show i≤9223372036854775806 by omega),bt_get s i hi];refine Eve.ite (fun _ => ?_) (fun h => absurd (by omega) h);refine Eve.ite (fun _ => ?_) (fun h => absurd (by omega) h);refine Eve.ite (fun _ => ?_) (fun h => absurd (by omega) h);refine Eve.ite (fun h1 => hnx.eq (by simp [wgo,h1])) (fun h1 => ?_);refine Eve.ite (fun h2 => ?_) (fun h2 => Eve.one.eq (by simp [wgo,h1,h2]));refine Eve.ite (fun h3 => Eve.one.eq ?_) (fun h3 => hnx.eq ?_)
 ·
  obtain rfl : i=0:=by omega
  simp [wgo,h1]
 have : ¬ i=0:=by omega
 simp [wgo,h2,this]
def nam (s : ByteArray) : Bool:=word s && decide ((s.size : Int)≤12)
theorem nam_spec (s : ByteArray) (hs : s.size≤1048576) : Eve (fun k => F00.f k s) (nam s):=by
 simp only [F00.f,F0p.f];refine Eve.bind (v:=word s) (Eve.bind (word_spec s hs) Eve.one) ?_;refine Eve.ite (fun h => Eve.one.eq (by simp [nam,h])) (fun h => Eve.one.eq (by simp [nam,h]))
theorem nam_impl (s : ByteArray) (hs : s.size≤1048576) : Eve (fun k => F04.f k s) (nam s):=by
 simp only [F04.f];refine Eve.ite (fun h => (Eve.bind (word_impl s hs) Eve.one).eq (by simp [nam,h])) (fun h => Eve.one.eq (by simp [nam,h]))
def nms : Option ByteArray→List IFld→Bool
 | _,[] => true
 | p,f :: fs => nam f.f0 && ((match p with|none => true|some q => Op.bytesLess q.toList f.f0.toList) && nms (some f.f0) fs)
def inr (a b c : Int) : Bool:=decide (b≤a) && decide (a≤c)
theorem in_spec (a b c : Int) : F09.f a b c=some (inr a b c):=by
 unfold F09.f inr
 by_cases h : b≤a
 ·
  rw [if_pos h];simp [h]
 rw [if_neg h];simp [h]
theorem in_impl (a b c : Int) : F08.f a b c=some (inr a b c):=in_spec a b c
abbrev emB (a : ByteArray) : Bool:=a.toList == ([] : List UInt8)
def flat (v : IVal) : Bool :=
 if v.f0=0 then decide (v.f1=0) && emB v.f2
 else if v.f0=1 then inr v.f1 0 1 && emB v.f2
 else if v.f0=2 then inr v.f1 (-1000000000000) 1000000000000 && emB v.f2
 else if v.f0=3 then decide (v.f1=0) && decide ((v.f2.size : Int)≤300)
 else false
def rightV : Nat→IVal→Bool
 | 0,v => flat v
 | d + 1,v =>
  if v.f0=4 then decide (v.f1=0) && (decide ((v.f2.size : Int)≤300) && (match itS v.f2.size v.f2 with|some l => l.all (rightV d)|none => false))
  else if v.f0=5 then decide (v.f1=0) && (decide ((v.f2.size : Int)≤300) && (match fdS v.f2.size v.f2 with|some l => nms none l && l.all (fun f => rightV d f.f1)|none => false))
  else flat v
theorem bad_right (v : IVal) (h : Bad v) : ∀ d,rightV d v=false:=by
 have hf : flat v=false:=by
  unfold flat;rcases h with h|h|⟨h,h2⟩
  ·
   rw [if_neg (by omega),if_neg (by omega),if_neg (by omega),if_neg (by omega)]
  ·
   rw [if_neg (by omega),if_neg (by omega),if_neg (by omega),if_neg (by omega)]
  rw [if_neg (by omega),if_neg (by omega),if_pos h];have : inr v.f1 (-1000000000000) 1000000000000=false:=by unfold inr;simp;omega
  rw [this];rfl
 intro d
 cases d with
 | zero => exact hf
 | succ d =>
  unfold rightV;rcases h with h|h|⟨h,h2⟩
  ·
   rw [if_neg (by omega),if_neg (by omega)];exact hf
  ·
   rw [if_neg (by omega),if_neg (by omega)];exact hf
  rw [if_neg (by omega),if_neg (by omega)];exact hf
theorem rdV (l : List IVal) (i : Nat) (h : i<l.length) : rd_T49 l (i : Int)=l[i]:=getD_at _ l i h
theorem rdF (l : List IFld) (i : Nat) (h : i<l.length) : rd_T87 l (i : Int)=l[i]:=getD_at _ l i h
theorem its_size : ∀ (m : Nat) (a : ByteArray) (l : List IVal),itS m a=some l→a.size≤1048576→l.length≤a.size ∧ ∀ x ∈ l,x.f2.size≤1048576:=by
 intro m
 induction m with
 | zero =>
  intro a l h h2;simp only [itS] at h
  by_cases hz : a.size=0
  ·
   rw [if_pos hz] at h
   obtain rfl : []=l:=by simpa using h
   simp
  rw [if_neg hz] at h;simp at h
 | succ m ih =>
  intro a l h h2;simp only [itS] at h
  by_cases hz : a.size=0
  ·
   rw [if_pos hz] at h
   obtain rfl : []=l:=by simpa using h
   simp
  rw [if_neg hz] at h
  cases hn : nxtV a with
  | none => rw [hn] at h;simp at h
  | some p =>
   obtain ⟨v,r⟩:=p;rw [hn] at h;simp only [Option.map_eq_some_iff] at h;obtain ⟨l',h',rfl⟩:=h;obtain ⟨hs,hlt⟩:=nxt_some a v r hn;have hv:=val_size a false h2;rw [hs] at hv;obtain ⟨i1,i2⟩:=ih r l' h' (by omega);refine ⟨by simp;omega,fun x hx => ?_⟩;rcases List.mem_cons.1 hx with rfl|hx
   ·
    exact hv
   exact i2 x hx
theorem fds_size : ∀ (m : Nat) (a : ByteArray) (l : List IFld),fdS m a=some l→a.size≤1048576→l.length≤a.size ∧ ∀ x ∈ l,x.f0.size≤1048576∧x.f1.f2.size≤1048576:=by
 intro m
 induction m with
 | zero =>
  intro a l h h2;simp only [fdS] at h
  by_cases hz : a.size=0
  ·
   rw [if_pos hz] at h
   obtain rfl : []=l:=by simpa using h
   simp
  rw [if_neg hz] at h;simp at h
 | succ m ih =>
  intro a l h h2;simp only [fdS] at h
  by_cases hz : a.size=0
  ·
   rw [if_pos hz] at h
   obtain rfl : []=l:=by simpa using h
   simp
  rw [if_neg hz] at h
  by_cases hy : (a.size : Int)<1 + bt a 0
  ·
   rw [if_pos hy] at h;simp at h
  rw [if_neg hy] at h;have ht:=tail_size a (1 + bt a 0).toNat;have hb:=bt_range a 0
  cases hn : nxtV (a.extract (1 + bt a 0).toNat a.size) with
  | none => rw [hn] at h;simp at h
  | some p =>
   obtain ⟨v,r⟩:=p;rw [hn] at h;simp only [Option.map_eq_some_iff] at h;obtain ⟨l',h',rfl⟩:=h;obtain ⟨hs,hlt⟩:=nxt_some _ v r hn;have hv:=val_size (a.extract (1 + bt a 0).toNat a.size) false (by omega);rw [hs] at hv;obtain ⟨i1,i2⟩:=ih r l' h' (by omega);refine ⟨by simp;omega,fun x hx => ?_⟩;rcases List.mem_cons.1 hx with rfl|hx
   ·
    exact ⟨by simp only [ByteArray.size_extract];omega,hv⟩
   exact i2 x hx
theorem dn (d : Nat) (h : d≤1000) : wrap64 (((d + 1 : Nat) : Int) - 1)=(d : Int):=by rw [w64 (by omega) (by omega)];omega
theorem spec_flat (v : IVal) (e : Int) (h4 : v.f0≠4) (h5 : v.f0≠5) : Eve (fun k => F0.f k v.f0 v.f1 v.f2 e) (flat v):=by
 refine Eve.succ ?_;simp only [F0.f,in_spec,Option.bind_some];unfold flat;refine Eve.ite (fun h => ?_) (fun h => ?_)
 ·
  rw [if_pos h]
  exact Eve.ite (fun h => Eve.one.eq (by simp [h])) (fun h => Eve.one.eq (by simp [h]))
 rw [if_neg h];refine Eve.ite (fun h => ?_) (fun h => ?_)
 ·
  rw [if_pos h]
  exact Eve.ite (fun h => Eve.one.eq (by simp [h])) (fun h => Eve.one.eq (by simp [h]))
 rw [if_neg h];refine Eve.ite (fun h => ?_) (fun h => ?_)
 ·
  rw [if_pos h]
  exact Eve.ite (fun h => Eve.one.eq (by simp [h])) (fun h => Eve.one.eq (by simp [h]))
 rw [if_neg h];refine Eve.ite (fun h => ?_) (fun h => ?_)
 ·
  rw [if_pos h]
  exact Eve.ite (fun h => Eve.one.eq (by simp [h])) (fun h => Eve.one.eq (by simp [h]))
 rw [if_neg h];refine Eve.ite (fun h => absurd h h4) (fun _ => ?_);exact Eve.ite (fun h => absurd h h5) (fun _ => Eve.one)
theorem impl_flat (v : IVal) (e : Int) (h4 : v.f0≠4) (h5 : v.f0≠5) : Eve (fun k => F2.f k v.f0 v.f1 v.f2 e) (flat v):=by
 refine Eve.succ ?_;simp only [F2.f,F0w.f,in_impl,Option.bind_some];unfold flat;refine Eve.ite (fun h => ?_) (fun h => ?_)
 ·
  rw [if_pos h]
  exact Eve.one.eq (by rw [h];by_cases h1 : v.f1=0 <;> simp [h1])
 rw [if_neg h];refine Eve.ite (fun h => ?_) (fun h => ?_)
 ·
  rw [if_pos h]
  exact Eve.ite (fun h => Eve.one.eq (by simp [h])) (fun h => Eve.one.eq (by simp [h]))
 rw [if_neg h];refine Eve.ite (fun h => ?_) (fun h => ?_)
 ·
  rw [if_pos h]
  exact Eve.ite (fun h => Eve.one.eq (by simp [h])) (fun h => Eve.one.eq (by simp [h]))
 rw [if_neg h];refine Eve.ite (fun h => ?_) (fun h => ?_)
 ·
  rw [if_pos h]
  exact Eve.ite (fun h => Eve.one.eq (by simp [h])) (fun h => Eve.one.eq (by simp [h]))
 rw [if_neg h];refine Eve.ite (fun h => absurd h h4) (fun _ => ?_);have : (v.f0 == 5)=false:=by simpa using h5
 simp only [this];refine Eve.succ ?_;simp only [F2.j0,Bool.false_eq_true,if_false];exact Eve.one
theorem spec_j0_true (e : Int) (l : List IVal) : Eve (fun k => F0.j0 k e l true) false:=Eve.succ (by simp only [F0.j0,if_true];exact Eve.one)
theorem spec_j2_true (e : Int) (l : List IFld) : Eve (fun k => F0.j2 k e l true) false:=Eve.succ (by simp only [F0.j2,if_true];exact Eve.one)
theorem right_spec : ∀ (d : Nat) (v : IVal),d≤1000→v.f2.size≤1048576→Eve (fun k => F0.f k v.f0 v.f1 v.f2 (d : Int)) (rightV d v):=by
 intro d
 induction d with
 | zero =>
  intro v hd hs
  by_cases h4 : v.f0=4
  ·
   have hf : flat v=false:=by unfold flat;rw [if_neg (by omega),if_neg (by omega),if_neg (by omega),if_neg (by omega)]
   show Eve _ (flat v);rw [hf];refine Eve.succ ?_;simp only [F0.f,h4];simp only [show ¬ (4 : Int)=0 by omega,show ¬ (4 : Int)=1 by omega,show ¬ (4 : Int)=2 by omega,show ¬ (4 : Int)=3 by omega,if_false,if_true];simp only [Fo.f];refine Eve.bind (items_spec _ v.f2 [] (Nat.le_refl _) hs (by simp;omega)) ?_;have hj:=spec_j0_true ((0 : Nat) : Int) (toldL [] (itS v.f2.size v.f2)).1;refine Eve.ite (fun _ => ?_) (fun _ => hj);refine Eve.ite (fun _ => ?_) (fun _ => hj);exact Eve.ite (fun _ => hj) (fun _ => hj)
  by_cases h5 : v.f0=5
  ·
   have hf : flat v=false:=by unfold flat;rw [if_neg (by omega),if_neg (by omega),if_neg (by omega),if_neg (by omega)]
   show Eve _ (flat v);rw [hf];refine Eve.succ ?_;simp only [F0.f,h5];simp only [show ¬ (5 : Int)=0 by omega,show ¬ (5 : Int)=1 by omega,show ¬ (5 : Int)=2 by omega,show ¬ (5 : Int)=3 by omega,show ¬ (5 : Int)=4 by omega,if_false,if_true];simp only [Fn.f];refine Eve.bind (fields_spec _ v.f2 [] (Nat.le_refl _) hs (by simp;omega)) ?_;have hj:=spec_j2_true ((0 : Nat) : Int) (toldF [] (fdS v.f2.size v.f2)).1;refine Eve.ite (fun _ => ?_) (fun _ => hj);refine Eve.ite (fun _ => ?_) (fun _ => hj);exact Eve.ite (fun _ => hj) (fun _ => hj)
  exact spec_flat v _ h4 h5
 | succ d ih =>
  intro v hd hs;have he : (((d + 1 : Nat) : Int) == 0)=false:=by simp;omega
  by_cases h4 : v.f0=4
  ·
   unfold rightV
   rw [if_pos h4];refine Eve.succ ?_;simp only [F0.f,h4];simp only [show ¬ (4 : Int)=0 by omega,show ¬ (4 : Int)=1 by omega,show ¬ (4 : Int)=2 by omega,show ¬ (4 : Int)=3 by omega,if_false,if_true];simp only [Fo.f];refine Eve.bind (items_spec _ v.f2 [] (Nat.le_refl _) hs (by simp;omega)) ?_;have hj:=spec_j0_true ((d + 1 : Nat) : Int) (toldL [] (itS v.f2.size v.f2)).1;refine Eve.ite (fun h1 => ?_) (fun h1 => hj.eq (by simp [h1]))
   cases hi : itS v.f2.size v.f2 with
   | none =>
    rw [hi] at hj;simp only [toldL,Bool.false_eq_true,if_false];exact hj.eq (by simp)
   | some l =>
    rw [hi] at hj;simp only [toldL,if_true,List.nil_append] at hj ⊢;refine Eve.ite (fun h2 => hj.eq ?_) (fun h2 => ?_)
    ·
     have : decide ((v.f2.size : Int)≤300)=false:=by simp;omega
     simp [this]
    obtain ⟨hl1,hl2⟩:=its_size _ _ l hi hs;have hsz : decide ((v.f2.size : Int)≤300)=true:=by simp;omega
    simp only [he];refine Eve.succ ?_;simp only [F0.j0,Bool.false_eq_true,if_false]
    have:=ev_loop0 l (fun k (_ : Unit) i => F0.l0 k ((d + 1 : Nat) : Int) l i) (fun _ _ r => r.all (rightV d)) (fun _ _ => True) (fun _ _ => by
     simp only [F0.l0]
     exact Eve.ite (fun h => absurd h (by omega)) (fun _ => Eve.one)) (fun i hi _ _ ih2 => by
     simp only [F0.l0];refine Eve.ite (fun _ => ?_) (fun h => absurd (by omega) h);refine Eve.ite (fun _ => ?_) (fun h => absurd (by omega) h);simp only [rdV l i hi,dn d (by omega),wi (show i≤9223372036854775806 by omega)];refine Eve.bind (ih l[i] (by omega) (hl2 _ (List.getElem_mem hi))) ?_
     exact Eve.ite (fun h => (ih2 () trivial).eq (by rw [List.all_cons,h,Bool.true_and])) (fun h => Eve.one.eq (by rw [List.all_cons,Bool.eq_false_iff.mpr h,Bool.false_and]))) () trivial
    exact this.eq (by simp [h1,hsz])
  by_cases h5 : v.f0=5
  ·
   unfold rightV
   rw [if_neg h4,if_pos h5];refine Eve.succ ?_;simp only [F0.f,h5];simp only [show ¬ (5 : Int)=0 by omega,show ¬ (5 : Int)=1 by omega,show ¬ (5 : Int)=2 by omega,show ¬ (5 : Int)=3 by omega,show ¬ (5 : Int)=4 by omega,if_false,if_true];simp only [Fn.f];refine Eve.bind (fields_spec _ v.f2 [] (Nat.le_refl _) hs (by simp;omega)) ?_;have hj:=spec_j2_true ((d + 1 : Nat) : Int) (toldF [] (fdS v.f2.size v.f2)).1;refine Eve.ite (fun h1 => ?_) (fun h1 => hj.eq (by simp [h1]))
   cases hi : fdS v.f2.size v.f2 with
   | none =>
    rw [hi] at hj;simp only [toldF,Bool.false_eq_true,if_false];exact hj.eq (by simp)
   | some l =>
    rw [hi] at hj;simp only [toldF,if_true,List.nil_append] at hj ⊢;refine Eve.ite (fun h2 => hj.eq ?_) (fun h2 => ?_)
    ·
     have : decide ((v.f2.size : Int)≤300)=false:=by simp;omega
     simp [this]
    obtain ⟨hl1,hl2⟩:=fds_size _ _ l hi hs;have hsz : decide ((v.f2.size : Int)≤300)=true:=by simp;omega
    simp only [he];refine Eve.succ ?_;simp only [F0.j2,Bool.false_eq_true,if_false]
    have:=ev_loop0 l (fun k (_ : Unit) i => F0.l1 k ((d + 1 : Nat) : Int) l i) (fun i _ r => nms (if i=0 then none else some (l.getD (i - 1) z87).f0) r && r.all (fun f => rightV d f.f1)) (fun _ _ => True) (fun _ _ => by
     simp only [F0.l1]
     exact Eve.ite (fun h => absurd h (by omega)) (fun _ => Eve.one.eq (by simp [nms]))) (fun i hi _ _ ih2 => by
     have hnx:=ih2 () trivial;simp only [Nat.add_one_ne_zero,if_false,Nat.add_sub_cancel,List.getD_eq_getElem?_getD,List.getElem?_eq_getElem hi,Option.getD_some] at hnx;simp only [F0.l1];refine Eve.ite (fun _ => ?_) (fun h => absurd (by omega) h);refine Eve.ite (fun _ => ?_) (fun h => absurd (by omega) h);have hm:=hl2 _ (List.getElem_mem hi);simp only [rdF l i hi,dn d (by omega),wi (show i≤9223372036854775806 by omega)];refine Eve.bind (nam_spec _ hm.1) ?_;refine Eve.ite (fun hn => ?_) (fun hn => Eve.one.eq (by simp [nms,hn]));refine Eve.ite (fun h3 => ?_) (fun h3 => ?_)
     ·
      have hw : wrap64 ((i : Int) - 1)=((i - 1 : Nat) : Int):=by rw [w64 (by omega) (by omega)];omega
      simp only [hw];refine Eve.ite (fun _ => ?_) (fun h => absurd (by omega) h);refine Eve.ite (fun _ => ?_) (fun h => absurd (by omega) h);rw [if_neg (by omega),List.getD_eq_getElem?_getD,List.getElem?_eq_getElem (show i - 1<l.length by omega),Option.getD_some];simp only [rdF l (i - 1) (show i - 1<l.length by omega)];refine Eve.ite (fun h6 => ?_) (fun h6 => Eve.one.eq (by simp [nms,h6]));refine Eve.bind (ih l[i].f1 (by omega) hm.2) ?_;exact Eve.ite (fun h => hnx.eq (by simp only [nms,hn,h6,List.all_cons,h,Bool.true_and])) (fun h => Eve.one.eq (by rw [List.all_cons,Bool.eq_false_iff.mpr h,Bool.false_and,Bool.and_false]))
     obtain rfl : i=0:=by omega
     rw [if_pos rfl];refine Eve.bind (ih l[0].f1 (by omega) hm.2) ?_
     exact Eve.ite (fun h => hnx.eq (by simp [nms,hn,h])) (fun h => Eve.one.eq (by simp [h]))) () trivial
    rw [if_pos rfl] at this;exact this.eq (by simp [h1,hsz])
  unfold rightV;rw [if_neg h4,if_neg h5];exact spec_flat v _ h4 h5
theorem Eve.list {α β : Type} (g : Nat→α→Option β) (q : α→β) : ∀ l : List α,(∀ x ∈ l,Eve (fun k => g k x) (q x)) → ∃ K,∀ k,K≤k → ∀ x ∈ l,g k x=some (q x)
 | [],_ => ⟨0,fun _ _ x hx => by simp at hx⟩
 | y :: l,h => by
  obtain ⟨K,hK⟩:=Eve.list g q l (fun x hx => h x (by simp [hx]));obtain ⟨K2,hK2⟩:=h y (by simp);refine ⟨max K K2,fun k hk x hx => ?_⟩;rcases List.mem_cons.1 hx with rfl|hx
  ·
   exact hK2 k (by omega)
  exact hK k (by omega) x hx
theorem cf_tells (l : List IVal) (q : IVal→Bool) (e : Int) (hl : l.length≤4194304) (h : ∀ x ∈ l,Eve (fun k => F2.f k x.f0 x.f1 x.f2 (wrap64 (e - 1))) (q x)) :
  Eve (fun k => Fa.f k (F2.f k) l e) (l.any (fun x => !q x)):=by
 obtain ⟨K,hK⟩:=Eve.list (fun k (x : IVal) => F2.f k x.f0 x.f1 x.f2 (wrap64 (e - 1))) q l h;refine ⟨max K (l.length + 1),fun k hk => ?_⟩;have hG : ∀ x ∈ l,F2.f k x.f0 x.f1 x.f2 (wrap64 (e - 1))=some (q x):=hK k (by omega);show Fa.f k (F2.f k) l e=_;generalize F2.f k=G at hG;unfold Fa.f F03.f
 have:=first_loop (fun k i => F03.l0 G k l (l.length : Int) i e) l (fun x => !q x) (fun k i hi => by
  have hx:=hG l[i] (List.getElem_mem hi);simp only [F03.l0];rw [if_pos (by omega),if_pos (by omega),if_pos (by omega),rdV l i hi,wi (show i≤9223372036854775806 by omega)];unfold F0m.f;rw [hx]
  rfl) (fun k => by simp only [F03.l0];rw [if_neg (by omega)]) l.length k 0 (by omega) (by omega)
 rw [show ((0 : Nat) : Int)=0 from rfl,List.drop_zero] at this;rw [this];simp only [Option.bind_some,first_any]
theorem any_not (l : List IVal) (q : IVal→Bool) : (!(l.any (fun x => !q x)))=l.all q:=by
 induction l with
 | nil => rfl
 | cons x l ih => simp only [List.any_cons,List.all_cons,← ih];cases q x <;> simp
theorem inner_loop (l : List IFld) (hl : l.length≤1048576) (hn : ∀ f ∈ l,f.f0.size≤1048576) (ok : Bool) : Eve (fun k => F4.l0 k l ok [] l (l.length : Int) 0) (l.map (·.f1),ok && nms none l):=by
 have:=ev_loop0 l (fun k (s : Bool×List IVal) i => F4.l0 k l s.1 s.2 l (l.length : Int) i) (fun i s r => (s.2 ++ r.map (·.f1),s.1 && nms (if i=0 then none else some (l.getD (i - 1) z87).f0) r)) (fun i s => s.2.length=i) (fun s _ => by
  simp only [F4.l0]
  exact Eve.ite (fun h => absurd h (by omega)) (fun _ => Eve.one.eq (by simp [nms]))) (fun i hi s hI ih => by
  obtain ⟨b,out⟩:=s;simp only at hI;have hf:=hn l[i] (List.getElem_mem hi);have hnx:=fun b' => ih (b',out ++ [⟨l[i].f1.f0,l[i].f1.f1,l[i].f1.f2⟩]) (by simp;omega);simp only [Nat.add_one_ne_zero,if_false,Nat.add_sub_cancel,List.getD_eq_getElem?_getD,List.getElem?_eq_getElem hi,Option.getD_some] at hnx;have hout : ∀ r : List IFld,out ++ [(⟨l[i].f1.f0,l[i].f1.f1,l[i].f1.f2⟩ : IVal)] ++ r.map (·.f1)=out ++ (l[i] :: r).map (·.f1):=by intro r;simp
  simp only [F4.l0];refine Eve.ite (fun _ => ?_) (fun h => absurd (by omega) h);refine Eve.ite (fun _ => ?_) (fun h => absurd (by omega) h);refine Eve.ite (fun _ => ?_) (fun h => absurd (by omega) h);simp only [rdF l i hi,wi (show i≤9223372036854775806 by omega)];refine Eve.ite (fun hb => ?_) (fun hb => ?_)
  ·
   refine Eve.bind (nam_impl _ hf) ?_
   refine Eve.ite (fun h1 => ?_) (fun h1 => ?_)
   ·
    refine Eve.ite (fun h2 => ?_) (fun h2 => ?_)
    ·
     obtain rfl : i=0:=by omega
     refine Eve.ite (fun _ => (hnx true).eq ?_) (fun h => absurd (by omega) h);rw [hout,if_pos rfl];simp only [nms,h1,hb,Bool.true_and]
    have hw : wrap64 ((i : Int) - 1)=((i - 1 : Nat) : Int):=by rw [w64 (by omega) (by omega)];omega
    simp only [hw];refine Eve.ite (fun _ => ?_) (fun h => absurd (by omega) h);refine Eve.ite (fun _ => ?_) (fun h => absurd (by omega) h);refine Eve.ite (fun _ => ?_) (fun h => absurd (by omega) h);have hi1 : i - 1<l.length:=by omega
    have hz : ¬ i=0:=by omega
    simp only [rdF l (i - 1) hi1];refine (hnx _).eq ?_;rw [hout,if_neg hz,List.getD_eq_getElem?_getD,List.getElem?_eq_getElem hi1,Option.getD_some];simp only [nms,h1,hb,Bool.true_and]
   refine Eve.ite (fun _ => (hnx false).eq ?_) (fun h => absurd (by omega) h);rw [hout];simp only [nms,Bool.eq_false_iff.mpr h1,Bool.false_and,Bool.and_false]
  refine Eve.ite (fun _ => (hnx false).eq ?_) (fun h => absurd (by omega) h);rw [hout]
  simp only [Bool.eq_false_iff.mpr hb,Bool.false_and]) (ok,[]) rfl
 exact this.eq (by simp)
end Go.Proofs.YthjgfjlogilleaaGreatDoor.Pure
end
