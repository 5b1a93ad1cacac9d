/- Texts of this claim, merged by a program of this session. -/
import Derived.Test.YtlljfjpdflcjlaaProg
import Derived.Below
import Derived.Deep.Draws
import Derived.Deep.AppendLies
import Derived.Maps.AppendAt
import Derived.OwnWalk
import Derived.Laws.BytesArg
import Derived.Laws.MakeOwn
import Derived.Laws.OwnMore
import Derived.Deep.OwnRows
import Derived.Tactics
import Derived.Lib.ConvBytes
import Derived.Laws.Slices
import Derived.WalkKit
import Derived.KernelRfl
import Derived.RowKit3
import Derived.Deep.LoopGhost
import Derived.Deep.QuietTactic
import Derived.BigQuiet
import Derived.WideLaws
import Derived.Deep.DeepCutAuto
import Derived.Deep.CutBlock
import Derived.Deep.RegionHeld3
import Derived.Laws.Rows
import Derived.Lib.AppendStr
import Derived.ArgAppend
import Derived.Laws.IdiomCopy
import Derived.OrdersHeld
import Derived.Laws.BitsLemmas
import Derived.RowKit
import Derived.Lib.Strings
import Derived.Lib.Slices
import Derived.Lib.Walk
import Derived.Lib.Bytealg
import Derived.Test.YtlljfjpdflcjlaaKLawFnExactSplitKeyp12
import Derived.Test.YtlljfjpdflcjlaaKLawFnExactSplitKeyp0
import Derived.Test.YtlljfjpdflcjlaaKLawFnExactSplitKeyp1
import Derived.Test.YtlljfjpdflcjlaaKLawFnExactSplitKeyp13
import Derived.Test.YtlljfjpdflcjlaaKLawFnExactSplitKeyp14
import Derived.Test.YtlljfjpdflcjlaaKLawFnExactSplitKeyp2
import Derived.Test.YtlljfjpdflcjlaaKLawFnExactSplitKeyp3
import Derived.Test.YtlljfjpdflcjlaaKLawFnExactSplitKeyp4
import Derived.Test.YtlljfjpdflcjlaaKLawFnExactSplitKeyp5
import Derived.Test.YtlljfjpdflcjlaaKLawFnExactSplitKeyp6
import Derived.Test.YtlljfjpdflcjlaaKLawFnExactSplitKeyp7
import Derived.Test.YtlljfjpdflcjlaaKLawFnExactSplitKeyp8
import Derived.Test.YtlljfjpdflcjlaaKLawFnExactSplitKeyp9
import Derived.Test.YtlljfjpdflcjlaaKLawFnExactSplitKeyp15
import Derived.Test.YtlljfjpdflcjlaaKLawFnExactSplitKeyp16
import Derived.Test.YtlljfjpdflcjlaaKLawFnExactSplitKeyp17
import Derived.Test.YtlljfjpdflcjlaaKLawFnExactSplitKeyp18
import Derived.Test.YtlljfjpdflcjlaaKLawFnExactSplitKeyp19
import Derived.Test.YtlljfjpdflcjlaaKLawFnExactSplitKeyp20
import Derived.Test.YtlljfjpdflcjlaaKLawFnExactSplitKeyp21
import Derived.Test.YtlljfjpdflcjlaaKLawFnExactSplitKeyp10
import Derived.Test.YtlljfjpdflcjlaaKLawFnExactSplitKeyp11
import Derived.ProofKit
import Derived.OpenShut
import Derived.ShutString
import Derived.ChangeOld
import Derived.SizedLaws
import Derived.Deep.Slices
import Derived.Lib.SmallJoins
section
namespace Go.Proofs.Ytlljfjpdflcjlaa.Q
open Go.RowKit Go.Proofs.YtlljfjpdflcjlaaW.PrintWords Go.Proofs.YtlljfjpdflcjlaaW.PrintLast Go.Proofs.YtlljfjpdflcjlaaW.PrintMore
attribute [local go_sem] max2_int min2_int max_two min_two max_three min_three max_four min_four max2_str min2_str str_geq str_gtr str_leq
set_option linter.unusedVariables false
set_option linter.unusedSimpArgs false



def errW : Option Int→Value
 | none => .nilIface
 | some c => .iface 0 (.int .i64 c)
theorem errW_none : errW none = .nilIface:=rfl
theorem errW_some (c : Int) : errW (some c) = .iface 0 (.int .i64 c):=rfl

theorem info9 : (Try.prog.info? 9).map (fun i => (i.zero,i.size,i.bytes))=some (some (.string ⟨#[]⟩),1,16):=by kernel_rfl
theorem info33 : (Try.prog.info? 33).map (fun i => (i.zero,i.size,i.bytes))=some (some (.agg #[(.int .i64 0),(.int .i64 0),(.string ⟨#[]⟩)]),3,32):=by kernel_rfl
theorem info84 : (Try.prog.info? 84).map (fun i => (i.zero,i.size,i.bytes))=some (some (.agg #[(.string ⟨#[]⟩),(.int .i64 0),(.int .i64 0),(.string ⟨#[]⟩)]),4,48):=by kernel_rfl
-- the values' own types
structure S33 where
 f0 : Int
 f1 : Int
 f2 : ByteArray
def z33 : S33:=⟨(0 : Int),(0 : Int),(⟨#[]⟩ : ByteArray)⟩
def k33 : Kd S33:=Kd.iso (Kd.pair (Kd.int .i64) (Kd.pair (Kd.int .i64) Kd.string)) (fun x : S33 => (x.f0,x.f1,x.f2))
theorem k33_open {w : World} {x : S33} {cs : List Value} (h : k33.K w x cs) : cs=[.int .i64 x.f0,.int .i64 x.f1,.string x.f2]:=by
 obtain ⟨_,_,rfl,rfl,⟨_,_,rfl,rfl,rfl⟩⟩:=h
 exact rfl
theorem k33_mkM (w : World) (base : Nat) (ok : Nat→Prop) (x : S33)  : k33.M w base ok x [.int .i64 x.f0,.int .i64 x.f1,.string x.f2]:=⟨[.int .i64 x.f0],[.int .i64 x.f1,.string x.f2],rfl,rfl,⟨[.int .i64 x.f1],[.string x.f2],rfl,rfl,rfl⟩⟩
def rd_T33 (xs : List S33) (i : Int) : S33:=xs.getD i.toNat z33
theorem at_T33 {w : World} {A : Option Addr} {n : Nat} {xs : List S33} (h : Kd.C k33 w A n xs) (i : Int) (h0 : 0≤i) (h1 : i<n) : ∃ ad ,A=some ad∧w.cell? (ad.add (i.toNat * 3))=some (.int .i64 (rd_T33 xs i).f0)∧w.cell? ⟨(ad.add (i.toNat * 3)).block,(ad.add (i.toNat * 3)).off + 1,none⟩=some (.int .i64 (rd_T33 xs i).f1)∧w.cell? ⟨(ad.add (i.toNat * 3)).block,(ad.add (i.toNat * 3)).off + 2,none⟩=some (.string (rd_T33 xs i).f2):=by
 obtain ⟨ad,c,e,_,hK,hc0⟩:=Kd.C_get h z33 i h0 h1
 have hc : ∀ j u,c[j]? = some u→w.cell? (ad.add (i.toNat * 3 + j))=some u:=hc0
 obtain rfl:=k33_open hK
 exact ⟨ad,e,hc 0 _ rfl,by rw [← add_field _ _ 1 (by omega)];exact hc 1 _ rfl,by rw [← add_field _ _ 2 (by omega)];exact hc 2 _ rfl⟩

structure S84 where
 f0 : ByteArray
 f1 : S33
def z84 : S84:=⟨(⟨#[]⟩ : ByteArray),z33⟩
def k84 : Kd S84:=Kd.iso (Kd.pair Kd.string k33) (fun x : S84 => (x.f0,x.f1))
theorem k84_open {w : World} {x : S84} {cs : List Value} (h : k84.K w x cs) : cs=[.string x.f0,.int .i64 x.f1.f0,.int .i64 x.f1.f1,.string x.f1.f2]:=by
 obtain ⟨_,_,rfl,rfl,s1⟩:=h
 obtain rfl:=k33_open s1
 exact rfl
theorem k84_mkM (w : World) (base : Nat) (ok : Nat→Prop) (x : S84)  : k84.M w base ok x [.string x.f0,.int .i64 x.f1.f0,.int .i64 x.f1.f1,.string x.f1.f2]:=⟨[.string x.f0],[.int .i64 x.f1.f0,.int .i64 x.f1.f1,.string x.f1.f2],rfl,rfl,(k33_mkM w base ok x.f1 )⟩
def rd_T84 (xs : List S84) (i : Int) : S84:=xs.getD i.toNat z84
theorem at_T84 {w : World} {A : Option Addr} {n : Nat} {xs : List S84} (h : Kd.C k84 w A n xs) (i : Int) (h0 : 0≤i) (h1 : i<n) : ∃ ad ,A=some ad∧w.cell? (ad.add (i.toNat * 4))=some (.string (rd_T84 xs i).f0)∧w.cell? ⟨(ad.add (i.toNat * 4)).block,(ad.add (i.toNat * 4)).off + 1,none⟩=some (.int .i64 (rd_T84 xs i).f1.f0)∧w.cell? ⟨(ad.add (i.toNat * 4)).block,(ad.add (i.toNat * 4)).off + 2,none⟩=some (.int .i64 (rd_T84 xs i).f1.f1)∧w.cell? ⟨(ad.add (i.toNat * 4)).block,(ad.add (i.toNat * 4)).off + 3,none⟩=some (.string (rd_T84 xs i).f1.f2):=by
 obtain ⟨ad,c,e,_,hK,hc0⟩:=Kd.C_get h z84 i h0 h1
 have hc : ∀ j u,c[j]? = some u→w.cell? (ad.add (i.toNat * 4 + j))=some u:=hc0
 obtain rfl:=k84_open hK
 exact ⟨ad,e,hc 0 _ rfl,by rw [← add_field _ _ 1 (by omega)];exact hc 1 _ rfl,by rw [← add_field _ _ 2 (by omega)];exact hc 2 _ rfl,by rw [← add_field _ _ 3 (by omega)];exact hc 3 _ rfl⟩

structure S29 where
 f0 : Int
 f1 : Int
 f2 : ByteArray
def z29 : S29:=⟨(0 : Int),(0 : Int),(⟨#[]⟩ : ByteArray)⟩
def k29 : Kd S29:=Kd.iso (Kd.pair (Kd.int .i64) (Kd.pair (Kd.int .i64) Kd.string)) (fun x : S29 => (x.f0,x.f1,x.f2))
def rd_T29 (xs : List S29) (i : Int) : S29:=xs.getD i.toNat z29
abbrev bm_ (i n : Nat) : Array Bool:=(List.replicate i true ++ List.replicate (n - i) false).toArray
abbrev za:=@below_alloc
abbrev zb:=@pw_below_drewN
abbrev zc:=@below_drew1
abbrev zd:=@below_set
abbrev ze:=@blk_drewN
abbrev zf:=@blk_drew
abbrev zg:=@blk_alloc
abbrev zh:=@Aside0.mk
abbrev zi:=@List.setIfInBounds_toArray
abbrev zj:=@List.set_cons_zero
abbrev zk:=@List.set_cons_succ
abbrev zl:=@World.block_lt_of_cell?
abbrev zm:=@Kd.R_alloc
abbrev zn:=@Kd.R_drewN
abbrev zo:=@Kd.R_drew
abbrev zp:=@Kept.drewN
abbrev zq:=@Kept.drew
abbrev zr:=@Kept.alloc
abbrev zs:=@Kept.setCell
abbrev zt:=@List.map_toArray
abbrev zu:=@List.map_cons
abbrev zv:=@List.map_nil
abbrev zw:=@List.length_drop
abbrev zx:=@List.length_take
abbrev zy:=@of_decide_eq_true
abbrev zz:=@blk_cell
abbrev zA:=@blk_frozen
abbrev zB:=@below_size
abbrev zC:=@below_step
abbrev zD:=@blk_below
abbrev zE:=@Kd.R_far
abbrev zF:=@add_block
abbrev zG:=@i64_w
abbrev zH:=@i32_w
abbrev zI:=@box_event
abbrev zJ:=@gate_callee
abbrev zK:=@gate_dst
abbrev zL:=@blk_put
abbrev zM:=@Kd.R_mono
abbrev zN:=@LeO.none
abbrev zO:=@LeO.bind
abbrev zP:=@LeO.ite
abbrev zQ:=@LeO.refl
abbrev zR:=@cell_far
abbrev zS:=@blk_far
abbrev zT:=@Option.bind_eq_some_iff
abbrev zU:=@Option.some.inj
abbrev zV:=@Int.ofNat_lt
abbrev zW:=@Int.ofNat_le
abbrev zX:=@bne_eq_false_iff_eq
abbrev zY:=@beq_eq_false_iff_ne
abbrev zZ:=@bne_iff_ne
abbrev ya:=@beq_iff_eq
abbrev yb:=@Bool.eq_false_iff
abbrev yc:=@Nat.ne_of_lt
abbrev yd:=@Nat.ne_of_gt
abbrev ye:=@Nat.le_refl
abbrev yf:=@Kd.R_types
abbrev yg:=@Kd.R_below
abbrev yh:=@Kd.R_reads'
abbrev yi:=@blk_lt
abbrev yj:=@goesL_
abbrev yk:=@Kd.R_slice
abbrev yl:=@KeepBut.set_
abbrev ym:=@keep_drewN
abbrev yn:=@keep_alloc
abbrev yo:=@take_ofW
abbrev yp:=@Drawn0.refl
abbrev yq:=@Drawn0.step
abbrev yr:=@gt_iff_lt
abbrev ys:=@ge_iff_le
abbrev yt:=@errW_none
abbrev yu:=@errW_some
abbrev yv:=@Kd.R_away
abbrev yw:=@blk_grown
abbrev yx:=@keep_drew
abbrev yy:=@Kd.R_lower
abbrev yz:=@gate_guard
abbrev yA:=@Kept.of_grown
abbrev yB:=@gate_builtin
end Go.Proofs.Ytlljfjpdflcjlaa.Q
end
section
namespace Go.Proofs.Ytlljfjpdflcjlaa.Q
open Go.RowKit Go.Proofs.YtlljfjpdflcjlaaW.PrintWords Go.Proofs.YtlljfjpdflcjlaaW.PrintLast Go.Proofs.YtlljfjpdflcjlaaW.PrintMore
attribute [local go_sem] max2_int min2_int max_two min_two max_three min_three max_four min_four max2_str min2_str str_geq str_gtr str_leq   -- for this text's walks alone
set_option linter.unusedVariables false
set_option linter.unusedSimpArgs false

def laws_eqStringS.l0 : Nat→List ByteArray→List ByteArray→Int→Option (Bool)
 | 0,_,_,_ => none
 | k + 1,x0,x1,x5 => if x5<(x0.length : Int) then (if 0≤x5 then (if x5<(x1.length : Int) then (if (rdOf ByteArray.empty x0 x5).toList=(rdOf ByteArray.empty x1 x5).toList then (laws_eqStringS.l0 k x0 x1 (wrap64 (x5 + 1))) else (some false)) else (none)) else (none)) else (some true)
def laws_eqStringS.f (k : Nat) (l0 : List ByteArray) (l1 : List ByteArray) : Option (Bool):=if (l0.length : Int)=(l1.length : Int) then (laws_eqStringS.l0 k l0 l1 0) else (some false)
theorem laws_eqStringS.mono_l : ∀ k,(∀ y0 y1 y2,LeO (laws_eqStringS.l0 k y0 y1 y2) (laws_eqStringS.l0 (k + 1) y0 y1 y2))
 | 0 => fun _ _ _ r h => by simp [laws_eqStringS.l0] at h
 | k + 1 => by
  have ih0:=laws_eqStringS.mono_l k;intro y0 y1 y2;unfold laws_eqStringS.l0
  repeat' first|(with_reducible exact ih0 _ _ _)|(with_reducible exact zQ _)|(with_reducible exact zN _)|(with_reducible refine zP ?_ ?_)|(with_reducible refine zO ?_ (fun _ => ?_))|refine zP ?_ ?_|refine zO ?_ (fun _ => ?_)
theorem laws_eqStringS.mono : ∀ a0 a1 k,LeO (laws_eqStringS.f k a0 a1) (laws_eqStringS.f (k + 1) a0 a1):=by
 intro a0 a1 k;have ih0:=laws_eqStringS.mono_l k;unfold laws_eqStringS.f
 repeat' first|(with_reducible exact ih0 _ _ _)|(with_reducible exact zQ _)|(with_reducible exact zN _)|(with_reducible refine zP ?_ ?_)|(with_reducible refine zO ?_ (fun _ => ?_))|refine zP ?_ ?_|refine zO ?_ (fun _ => ?_)
set_option maxHeartbeats 8000000 in
set_option maxRecDepth 100000 in
theorem laws_eqStringS.calls (k : Nat) (A0 : Option Addr) (c0 : Nat) (l0 : List ByteArray) (A1 : Option Addr) (c1 : Nat) (l1 : List ByteArray) (r : Bool) (w : World) (hr0 : Kd.C Kd.string w A0 l0.length l0) (hc0 : l0.length≤c0) (hr1 : Kd.C Kd.string w A1 l1.length l1) (hc1 : l1.length≤c1) (h : laws_eqStringS.f k l0 l1=some r) :
  Calls Try.prog 10 #[.slice A0 l0.length c0,.slice A1 l1.length c1] w fun e w' => e = .returned (.bool r)∧Drawn0 w w':=by
 have HR0:=zh hr0;have HC0:=zh hc0;clear hr0 hc0;have HR1:=zh hr1;have HC1:=zh hc1;clear hr1 hc1;have H : (if (l0.length : Int)=(l1.length : Int) then (laws_eqStringS.l0 k l0 l1 0) else (some false))=some r:=h;clear h
 by_cases c3 : (l0.length : Int)=(l1.length : Int)
 ·
  rw [if_pos c3] at H
  have c3b0 : ((l0.length : Int) == (l1.length : Int))=true:=ya.mpr c3;have c3b1 : ((l0.length : Int) != (l1.length : Int))=false:=zX.mpr c3;have c3b2 : (l0.length == l1.length)=true:=by first|simpa using c3|(simp at c3 ⊢;omega)
  clear c3;have H':=zh H;clear H
  go_enter Try.func10,Try.ntmps10
  go_wp2
  repeat (go_quiet (fail);try go_wp2)
  go_loopg [5] k (fun kq v5 w' => ∃ (x5_1 : Int),v5 = .int .i64 x5_1∧Aside0 (laws_eqStringS.l0 kq l0 l1 x5_1=some r)∧Aside0 (kq≤k)∧Drawn0 w w')
  case atStart => exact ⟨(0),(by first|rfl|(simp;done)|(simp [*];done)),H',⟨ye _⟩,by repeat (first|exact yp _|apply yq)⟩
  case round =>
   clear H'
   try clear c1
   try clear p2
   try clear c3
   try clear c3b0
   try clear c3b1
   try clear c3b2
   obtain ⟨x5_1,rfl,HA,HK1,⟨m1,rfl⟩⟩:=hrel
   cases gk with
   | zero => exact absurd HA.out (by simp [laws_eqStringS.l0])
   | succ k1 =>
    have H:=HA.out;clear HA;simp only [laws_eqStringS.l0] at H
    by_cases c4 : x5_1<(l0.length : Int)
    ·
     rw [if_pos c4] at H
     have c4b0 : decide (x5_1<(l0.length : Int))=true:=decide_eq_true c4;clear c4
     by_cases c5 : 0≤x5_1
     ·
      rw [if_pos c5] at H
      have c5b0 : decide (0≤x5_1)=true:=decide_eq_true c5;clear c5
      by_cases c6 : x5_1<(l1.length : Int)
      ·
       rw [if_pos c6] at H
       have c6b0 : decide (x5_1<(l1.length : Int))=true:=decide_eq_true c6;clear c6
       by_cases c7 : (rdOf ByteArray.empty l0 x5_1).toList=(rdOf ByteArray.empty l1 x5_1).toList
       ·
        rw [if_pos c7] at H
        have c7b0 : ((rdOf ByteArray.empty l0 x5_1).toList == (rdOf ByteArray.empty l1 x5_1).toList)=true:=ya.mpr c7;have c7b1 : ((rdOf ByteArray.empty l0 x5_1).toList != (rdOf ByteArray.empty l1 x5_1).toList)=false:=zX.mpr c7;clear c7;have H':=zh H;clear H;have p196 : 0≤(x5_1 : Int):=zy (by first|(with_reducible assumption)|assumption);have q196 : x5_1<(l0.length : Int):=zy (by first|(with_reducible assumption)|assumption);obtain ⟨ad196,e196,hx196_0⟩:=Kd.at_string HR0.out x5_1 p196 q196
        cases e196
        replace p196:=eq_true p196;replace q196:=eq_true q196;have p197 : 0≤(x5_1 : Int):=zy (by first|(with_reducible assumption)|assumption);have q197 : x5_1<(l1.length : Int):=zy (by first|(with_reducible assumption)|assumption);obtain ⟨ad197,e197,hx197_0⟩:=Kd.at_string HR1.out x5_1 p197 q197
        cases e197
        replace p197:=eq_true p197;replace q197:=eq_true q197
        go_wp2
        repeat (go_quiet (fail);try go_wp2)
        go_roundg k1
        case measure => have:=HK1.out;omega
        case rel => exact ⟨(wrap64 (x5_1 + 1)),(by first|rfl|(simp;done)|(simp [*];done)),H',⟨by have:=HK1.out;omega⟩,by repeat (first|exact yp _|apply yq)⟩
       rw [if_neg c7] at H;have c7b0 : ((rdOf ByteArray.empty l0 x5_1).toList == (rdOf ByteArray.empty l1 x5_1).toList)=false:=zY.mpr c7;have c7b1 : ((rdOf ByteArray.empty l0 x5_1).toList != (rdOf ByteArray.empty l1 x5_1).toList)=true:=zZ.mpr c7;obtain rfl:=zU H;have p196 : 0≤(x5_1 : Int):=zy (by first|(with_reducible assumption)|assumption);have q196 : x5_1<(l0.length : Int):=zy (by first|(with_reducible assumption)|assumption);obtain ⟨ad196,e196,hx196_0⟩:=Kd.at_string HR0.out x5_1 p196 q196
       cases e196
       replace p196:=eq_true p196;replace q196:=eq_true q196;have p197 : 0≤(x5_1 : Int):=zy (by first|(with_reducible assumption)|assumption);have q197 : x5_1<(l1.length : Int):=zy (by first|(with_reducible assumption)|assumption);obtain ⟨ad197,e197,hx197_0⟩:=Kd.at_string HR1.out x5_1 p197 q197
       cases e197
       replace p197:=eq_true p197;replace q197:=eq_true q197
       go_wp2
       repeat (go_quiet (fail);try go_wp2)
       go_ret
       exact ⟨by first|rfl|(simp;done)|(simp [*];done),by repeat (first|exact yp _|apply yq)⟩
      rw [if_neg c6] at H;exact absurd H (by simp)
     rw [if_neg c5] at H;exact absurd H (by simp)
    rw [if_neg c4] at H;have c4b0 : decide (x5_1<(l0.length : Int))=false:=decide_eq_false c4;clear c4;obtain rfl:=zU H
    go_wp2
    repeat (go_quiet (fail);try go_wp2)
    go_ret
    exact ⟨by first|rfl|(simp;done)|(simp [*];done),by repeat (first|exact yp _|apply yq)⟩
 rw [if_neg c3] at H;have c3b0 : ((l0.length : Int) == (l1.length : Int))=false:=zY.mpr c3;have c3b1 : ((l0.length : Int) != (l1.length : Int))=true:=zZ.mpr c3;have c3b2 : (l0.length == l1.length)=false:=by first|simpa using c3|(simp at c3 ⊢;omega)
 obtain rfl:=zU H
 go_enter Try.func10,Try.ntmps10
 go_wp2
 repeat (go_quiet (fail);try go_wp2)
 go_ret
 exact ⟨by first|rfl|(simp;done)|(simp [*];done),by repeat (first|exact yp _|apply yq)⟩

end Go.Proofs.Ytlljfjpdflcjlaa.Q
end
section
namespace Go.Proofs.Ytlljfjpdflcjlaa.Q
open Go.RowKit Go.Proofs.YtlljfjpdflcjlaaW.PrintWords Go.Proofs.YtlljfjpdflcjlaaW.PrintLast Go.Proofs.YtlljfjpdflcjlaaW.PrintMore
attribute [local go_sem] max2_int min2_int max_two min_two max_three min_three max_four min_four max2_str min2_str str_geq str_gtr str_leq   -- for this text's walks alone
set_option linter.unusedVariables false
set_option linter.unusedSimpArgs false

def laws_markText.l0 : Nat→Int→ByteArray→Option (ByteArray)
 | 0,_,_ => none
 | k + 1,x0,x3 => if x0 > 0 then ((some (([(wrap64 (48 + (Int.tmod x0 10))) % 256] : List Int) : List Int)).bind fun y198 => (if (strOfNums y198).size + x3.size≤9223372036854775807 then (laws_markText.l0 k (wrap64 (Int.tdiv x0 10)) ((strOfNums y198) ++ x3)) else (none))) else (if 1 + x3.size≤9223372036854775807 then (some ((⟨#[109]⟩ : ByteArray) ++ x3)) else (none))
def laws_markText.f (k : Nat) (a0 : Int) : Option (ByteArray):=if a0≤0 then (some (⟨#[109,48]⟩ : ByteArray)) else (laws_markText.l0 k a0 (⟨#[]⟩ : ByteArray))
theorem laws_markText.mono_l : ∀ k,(∀ y0 y1,LeO (laws_markText.l0 k y0 y1) (laws_markText.l0 (k + 1) y0 y1))
 | 0 => fun _ _ r h => by simp [laws_markText.l0] at h
 | k + 1 => by
  have ih0:=laws_markText.mono_l k;intro y0 y1;unfold laws_markText.l0
  repeat' first|(with_reducible exact ih0 _ _)|(with_reducible exact zQ _)|(with_reducible exact zN _)|(with_reducible refine zP ?_ ?_)|(with_reducible refine zO ?_ (fun _ => ?_))|refine zP ?_ ?_|refine zO ?_ (fun _ => ?_)
theorem laws_markText.mono : ∀ a0 k,LeO (laws_markText.f k a0) (laws_markText.f (k + 1) a0):=by
 intro a0 k;have ih0:=laws_markText.mono_l k;unfold laws_markText.f
 repeat' first|(with_reducible exact ih0 _ _)|(with_reducible exact zQ _)|(with_reducible exact zN _)|(with_reducible refine zP ?_ ?_)|(with_reducible refine zO ?_ (fun _ => ?_))|refine zP ?_ ?_|refine zO ?_ (fun _ => ?_)
set_option maxHeartbeats 8000000 in
set_option maxRecDepth 100000 in
theorem laws_markText.calls (k : Nat) (a0 : Int) (r : ByteArray) (w : World) (h : laws_markText.f k a0=some r) :
  Calls Try.prog 32 #[.int .i64 a0] w fun e w' => e = .returned (.string r)∧Below w.heap.size w w':=by
 have HB:=zh (Below.refl w.heap.size w);have H : (if a0≤0 then (some (⟨#[109,48]⟩ : ByteArray)) else (laws_markText.l0 k a0 (⟨#[]⟩ : ByteArray)))=some r:=h;clear h
 by_cases c2 : a0≤0
 ·
  rw [if_pos c2] at H
  have c2b0 : decide (a0≤0)=true:=decide_eq_true c2;clear c2;obtain rfl:=zU H
  go_enter Try.func32,Try.ntmps32
  go_wp2
  go_ret
  exact ⟨by first|rfl|(simp [yt,yu] <;> rfl)|(simp [*,yt,yu] <;> rfl),by repeat (with_reducible first|exact HB.out|apply za|apply zb|apply zc)⟩
 rw [if_neg c2] at H;have c2b0 : decide (a0≤0)=false:=decide_eq_false c2;clear c2;have H':=zh H;clear H
 go_enter Try.func32,Try.ntmps32
 go_wp2
 go_loopg [0,3] k (fun kq v0 v3 w' => ∃ (x0_1 : Int) (x3_1 : ByteArray),v0 = .int .i64 x0_1∧v3 = .string x3_1∧Aside0 (laws_markText.l0 kq x0_1 x3_1=some r)∧Aside0 (kq≤k)∧Aside0 (Below w.heap.size w w'))
 case atStart => exact ⟨(a0),((⟨#[]⟩ : ByteArray)),(by first|rfl|(simp;done)|(simp [*];done)),(by first|rfl|(simp;done)|(simp [*];done)),H',⟨ye _⟩,⟨by repeat (with_reducible first|exact HB.out|apply za|apply zb|apply zc)⟩⟩
 case round =>
  clear H'
  try clear c2
  try clear c2b0
  try clear p2
  obtain ⟨x0_1,x3_1,rfl,rfl,HA,HK1,HB⟩:=hrel
  cases gk with
  | zero => exact absurd HA.out (by simp [laws_markText.l0])
  | succ k1 =>
   have H:=HA.out;clear HA;simp only [laws_markText.l0] at H
   by_cases c3 : x0_1 > 0
   ·
    rw [if_pos c3] at H
    have c3b0 : decide (0<x0_1)=true:=decide_eq_true c3;clear c3;obtain ⟨y198,hy198⟩ : ∃ y_ : List Int,y_=(([(wrap64 (48 + (Int.tmod x0_1 10))) % 256] : List Int)):=⟨_,rfl⟩;replace H : (if (strOfNums y198).size + x3_1.size≤9223372036854775807 then (laws_markText.l0 k1 (wrap64 (Int.tdiv x0_1 10)) ((strOfNums y198) ++ x3_1)) else (none))=some r:=by first|(rw [hy198];with_reducible exact H)|(have H2_:=(Option.bind_some _ _).symm.trans H;rw [hy198];with_reducible exact H2_)|(have H2_:=(Option.bind_some _ _).symm.trans H;with_reducible exact H2_)|with_reducible exact H|(rw [hy198];exact H)|exact H
    have Ny198:=zh hy198;clear hy198
    by_cases c4 : (strOfNums y198).size + x3_1.size≤9223372036854775807
    ·
     rw [if_pos c4] at H
     have c4b0:=eq_true c4;have c4b1 : decide ((strOfNums y198).size + x3_1.size≤9223372036854775807)=true:=decide_eq_true c4
     try have c4b2 : (9223372036854775807<(strOfNums y198).size + x3_1.size)=False:=eq_false (Nat.not_lt.2 c4)
     have H':=zh H;clear H
     go_wp2_with (first|((with_reducible refine zK (N:=12) rfl ?_);refine Kd.R_lit (Kd.int .u8) _ 5 ?hg (N:=12) ?hd (xs:=([(wrap64 (48 + (Int.tmod x0_1 10))) % 256] : List Int)) (inner:=[.int .u8 ((wrap64 (48 + (Int.tmod x0_1 10))) % 256)]) (ok:=fun _ => True) (okp:=fun _ => True) ?hr ?hp (fun _ hk => hk) trivial (Below.refl _ _) (ye _) (by simp) ?_;(case hd => rfl);(case hg => rfl);(case hr => first|(go_simp;done)|(go_simp;rfl));(case hp => exact (Reps.one (show Kd.M (Kd.int .u8) _ _ _ ((wrap64 (48 + (Int.tmod x0_1 10))) % 256) [.int .u8 ((wrap64 (48 + (Int.tmod x0_1 10))) % 256)] from rfl) (Reps.none _ _)));intro v199 w5 ho6 hb hg_ hnew_;clear hg_ hnew_;(first|rw [← Ny198.out] at ho6|(simp only [Int.reduceToNat] at ho6;rw [← Ny198.out] at ho6));have HO200:=zh (yy ho6 (zB (by repeat (with_reducible first|exact HB.out|apply za|apply zb|apply zc))));replace HB:=zh (zC (by repeat (with_reducible first|exact HB.out|apply za|apply zb|apply zc)) hb);clear hb ho6;have hcv7:=own_string (P:=Try.prog) Try.underlying44 Try.underlying5 Try.underlying9 (Kd.own_of_R HO200.out)))
     go_roundg k1
     case measure => have:=HK1.out;omega
     case rel => exact ⟨(wrap64 (Int.tdiv x0_1 10)),((strOfNums y198) ++ x3_1),(by first|rfl|(simp;done)|(simp [*];done)),(by first|rfl|(simp;done)|(simp [*];done)),H',⟨by have:=HK1.out;omega⟩,⟨by repeat (with_reducible first|exact HB.out|apply za|apply zb|apply zc)⟩⟩
    rw [if_neg c4] at H;exact absurd H (by simp)
   rw [if_neg c3] at H;have c3b0 : decide (0<x0_1)=false:=decide_eq_false c3;clear c3
   by_cases c8 : 1 + x3_1.size≤9223372036854775807
   ·
    rw [if_pos c8] at H
    have c8b0:=eq_true c8;have c8b1 : decide (1 + x3_1.size≤9223372036854775807)=true:=decide_eq_true c8
    try have c8b2 : (9223372036854775807<1 + x3_1.size)=False:=eq_false (Nat.not_lt.2 c8)
    obtain rfl:=zU H
    go_wp2
    go_ret
    exact ⟨by first|rfl|(simp [yt,yu] <;> rfl)|(simp [*,yt,yu] <;> rfl),by repeat (with_reducible first|exact HB.out|apply za|apply zb|apply zc)⟩
   rw [if_neg c8] at H;exact absurd H (by simp)

end Go.Proofs.Ytlljfjpdflcjlaa.Q
end
section
namespace Go.Proofs.Ytlljfjpdflcjlaa.Q
open Go.RowKit Go.Proofs.YtlljfjpdflcjlaaW.PrintWords Go.Proofs.YtlljfjpdflcjlaaW.PrintLast Go.Proofs.YtlljfjpdflcjlaaW.PrintMore
attribute [local go_sem] max2_int min2_int max_two min_two max_three min_three max_four min_four max2_str min2_str str_geq str_gtr str_leq   -- for this text's walks alone
set_option linter.unusedVariables false
set_option linter.unusedSimpArgs false

def laws_markStringS.l0 : Nat→List ByteArray→Int→Int→Option (Int×List ByteArray)
 | 0,_,_,_ => none
 | k + 1,x0,x1,x5 => if x5<(x0.length : Int) then ((laws_markText.f k x1).bind fun t201 => (if 0≤x5 then (laws_markStringS.l0 k (x0.set (x5 : Int).toNat t201) (wrap64 (x1 + 1)) (wrap64 (x5 + 1))) else (none))) else (some (x1,x0))
def laws_markStringS.f (k : Nat) (l0 : List ByteArray) (a1 : Int) : Option (Int×List ByteArray):=laws_markStringS.l0 k l0 a1 0
theorem laws_markStringS.mono_l : ∀ k,(∀ y0 y1 y2,LeO (laws_markStringS.l0 k y0 y1 y2) (laws_markStringS.l0 (k + 1) y0 y1 y2))
 | 0 => fun _ _ _ r h => by simp [laws_markStringS.l0] at h
 | k + 1 => by
  have ih0:=laws_markStringS.mono_l k;intro y0 y1 y2;unfold laws_markStringS.l0
  repeat' first|(with_reducible exact ih0 _ _ _)|(with_reducible exact laws_markText.mono _ _)|(with_reducible exact zQ _)|(with_reducible exact zN _)|(with_reducible refine zP ?_ ?_)|(with_reducible refine zO ?_ (fun _ => ?_))|refine zP ?_ ?_|refine zO ?_ (fun _ => ?_)
theorem laws_markStringS.mono : ∀ a0 a1 k,LeO (laws_markStringS.f k a0 a1) (laws_markStringS.f (k + 1) a0 a1):=by
 intro a0 a1 k;have ih0:=laws_markStringS.mono_l k;unfold laws_markStringS.f
 repeat' first|(with_reducible exact ih0 _ _ _)|(with_reducible exact laws_markText.mono _ _)|(with_reducible exact zQ _)|(with_reducible exact zN _)|(with_reducible refine zP ?_ ?_)|(with_reducible refine zO ?_ (fun _ => ?_))|refine zP ?_ ?_|refine zO ?_ (fun _ => ?_)
set_option maxHeartbeats 8000000 in
set_option maxRecDepth 100000 in
theorem laws_markStringS.calls (k : Nat) (P0_ : Nat→Prop) (u9000_ : Value) (l0 : List ByteArray) (a1 : Int) (r1 : Int) (r2 : List ByteArray) (w0 w : World) (hB : Below w0.heap.size w0 w) (ho0 : Kd.R Kd.string 9 w w0.heap.size P0_ u9000_ l0) (h : laws_markStringS.f k l0 a1=some (r1,r2)) :
  Calls Try.prog 11 #[u9000_,.int .i64 a1] w fun e w' => e = .returned (.int .i64 r1)∧Kd.R Kd.string 9 w' w0.heap.size (fun k_ => (P0_ k_∨w.heap.size≤k_)) u9000_ r2∧Below w0.heap.size w0 w' ∧ Kept w w' (fun k_ => P0_ k_):=by
 have HO0:=zh (show Kd.R Kd.string 9 w w0.heap.size (fun k_ => (P0_ k_∨w.heap.size≤k_)) u9000_ l0 from zM ho0 (fun k_ hk => (.inl hk)));have HK:=zh (Kept.refl w (fun k_ => P0_ k_));have HW0:=zh hB.size;have HB:=zh hB;clear hB;have H : (laws_markStringS.l0 k l0 a1 0)=some (r1,r2):=h;clear h;have H':=zh H;clear H
 go_enter Try.func11,Try.ntmps11
 go_wp2
 go_loopg [1,5] k (fun kq v1 v5 w' => ∃ (x0_1 : List ByteArray) (x1_1 : Int) (x5_1 : Int),v1 = .int .i64 x1_1∧v5 = .int .i64 x5_1∧Aside0 (laws_markStringS.l0 kq x0_1 x1_1 x5_1=some (r1,r2))∧Aside0 (kq≤k)∧Aside0 (Kd.R Kd.string 9 w' w0.heap.size (fun k_ => (P0_ k_∨w.heap.size≤k_)) u9000_ x0_1)∧Aside0 (Kept w w' (fun k_ => P0_ k_))∧Aside0 (Below w0.heap.size w0 w'))
 case atStart => exact ⟨(l0),(a1),(0),(by first|rfl|(simp;done)|(simp [*];done)),(by first|rfl|(simp;done)|(simp [*];done)),H',⟨ye _⟩,⟨by (with_reducible repeat (first|apply zm|apply zn|apply zo));exact HO0.out⟩,⟨by repeat (with_reducible first|exact HK.out|apply zr|apply zp|apply zq)⟩,⟨by repeat (with_reducible first|exact HB.out|apply za|apply zb|apply zc)⟩⟩
 case round =>
  clear H'
  try clear c1
  try clear p2
  obtain ⟨x0_1,x1_1,x5_1,rfl,rfl,HA,HK1,HO_0,HK,HB⟩:=hrel
  cases gk with
  | zero => exact absurd HA.out (by simp [laws_markStringS.l0])
  | succ k1 =>
   have H:=HA.out;clear HA;simp only [laws_markStringS.l0] at H
   by_cases c3 : x5_1<(x0_1.length : Int)
   ·
    rw [if_pos c3] at H
    have c3b0 : decide (x5_1<(x0_1.length : Int))=true:=decide_eq_true c3;clear c3;replace H:=zT.mp H;obtain ⟨t201,A40,H⟩:=H;replace H : (if 0≤x5_1 then (laws_markStringS.l0 k1 (x0_1.set (x5_1 : Int).toNat t201) (wrap64 (x1_1 + 1)) (wrap64 (x5_1 + 1))) else (none))=some (r1,r2):=H;have A4:=zh A40;clear A40
    by_cases c5 : 0≤x5_1
    ·
     rw [if_pos c5] at H
     have c5b0 : decide (0≤x5_1)=true:=decide_eq_true c5;clear c5;obtain ⟨y202,hy202⟩ : ∃ y_ : List ByteArray,y_=(x0_1.set (x5_1 : Int).toNat t201):=⟨_,rfl⟩;replace H : (laws_markStringS.l0 k1 y202 (wrap64 (x1_1 + 1)) (wrap64 (x5_1 + 1)))=some (r1,r2):=by first|(rw [hy202];with_reducible exact H)|(have H2_:=(Option.bind_some _ _).symm.trans H;rw [hy202];with_reducible exact H2_)|(have H2_:=(Option.bind_some _ _).symm.trans H;with_reducible exact H2_)|with_reducible exact H|(rw [hy202];exact H)|exact H
     have Ny202:=zh hy202;clear hy202;have H':=zh H;clear H;obtain ⟨Ao7,co7,eo7⟩:=yk HO_0.out;subst eo7
     go_wp2_with (first|((with_reducible refine zJ (f:=32) rfl ?_);refine yj (some 15) rfl rfl Try.func32 (by kernel_rfl) rfl #[.int .i64 x1_1] rfl (by (try simp only [zt,zu,zv]);first|done|rfl|(simp only [zw,zx];rfl)|(simp only [yr,ys,zV,zW];rfl)) ?_;(with_reducible refine (laws_markText.calls k1  x1_1 t201 _ A4.out).mono ?_);rintro e w8 ⟨rfl,hb⟩;refine ⟨_,rfl,?_⟩;replace HO_0:=zh (yg (by (with_reducible repeat (first|apply zm|apply zn|apply zo));exact HO_0.out) hb);replace HK:=zh (Kept.below (S:=(fun k_ => P0_ k_)) (by repeat (with_reducible first|exact HK.out|apply zr|apply zp|apply zq)) hb);replace HB:=zh (zC (by repeat (with_reducible first|exact HB.out|apply za|apply zb|apply zc)) hb);(try clear hb);(try clear hb2);(try clear hk);(try clear hi);have p6 : 0≤(x5_1 : Int):=zy (by first|(with_reducible assumption)|assumption);have q6 : (x5_1 : Int)<((x0_1.length : Int) : Int):=zy (by first|(with_reducible assumption)|assumption);obtain ⟨go6,co6,eo6,gb6,gl6,cl6,HG6⟩:=Kd.R_form HO_0.out (by omega);(first|cases eo6|(injection eo6 with ea_ en_ ec_;(first|subst ea_|(injection ea_ with ea_;subst ea_));subst ec_;clear en_));have GB6:=zh gb6;have GG6:=zh HG6;clear gb6 gl6 HG6;have HMgo6:=zh (show (P0_ go6∨w.heap.size≤go6) from (HO_0.out.1 _ rfl));obtain ⟨hx6_0,hf6_0⟩:=Kd.R_celln (⟨#[]⟩ : ByteArray) HO_0.out (x5_1 : Int) p6 q6;replace p6:=eq_true p6;replace q6:=eq_true q6;obtain ⟨hy9_,hz9_⟩:=Kd.R_celln (⟨#[]⟩ : ByteArray) HO_0.out (x5_1 : Int) (zy (by first|(with_reducible assumption)|assumption)) (zy (by first|(with_reducible assumption)|assumption));have HP9:=Kd.R_putg HO_0.out (x5_1 : Int) t201)|((with_reducible refine gate_store (t:=9) (p:=16) rfl ?_);refine store_event (t:=9) (p:=16) (v:=?vo_w10) (w1:=(w8.setCell ⟨go6,(x5_1 : Int).toNat,none⟩ (.string t201))) ?hg ?ho ?hn ?hr ?_;(case ho => rfl);(case hg => rfl);(case hn => rfl);(case hr => first|(go_simp;done)|(go_simp;rfl));intro w10 hw;have hg : w8.grownBy w10 (some go6):=(by rw [hw];exact HP9.2);have hp_ : Kd.R Kd.string 9 w10 w0.heap.size (fun k_ => (P0_ k_∨w.heap.size≤k_)) (.slice (some ⟨go6,0,none⟩) x0_1.length co7) y202:=(by rw [hw,Ny202.out];exact HP9.1);clear HP9;replace HB:=zh ((by rw [hw];exact zd (HB.out) GB6.out : Below w0.heap.size w0 w10));replace HK:=zh (yA (S:=(fun k_ => P0_ k_)) hg (by repeat (with_reducible first|exact HK.out|apply zr|apply zp|apply zq)) (fun k_ e_ => (HO_0.out.1 k_ e_)));replace HO_0:=zh (hp_);clear hg hw hp_))
     go_roundg k1
     case measure => have:=HK1.out;omega
     case rel => exact ⟨(y202),(wrap64 (x1_1 + 1)),(wrap64 (x5_1 + 1)),(by first|rfl|(simp;done)|(simp [*];done)),(by first|rfl|(simp;done)|(simp [*];done)),H',⟨by have:=HK1.out;omega⟩,⟨by (with_reducible repeat (first|apply zm|apply zn|apply zo));exact HO_0.out⟩,⟨by repeat (with_reducible first|exact HK.out|apply zr|apply zp|apply zq)⟩,⟨by repeat (with_reducible first|exact HB.out|apply za|apply zb|apply zc)⟩⟩
    rw [if_neg c5] at H;exact absurd H (by simp)
   rw [if_neg c3] at H;have c3b0 : decide (x5_1<(x0_1.length : Int))=false:=decide_eq_false c3;clear c3;simp only [Option.some.injEq,Prod.mk.injEq] at H;obtain ⟨rfl,rfl⟩:=H;obtain ⟨Ao11,co11,eo11⟩:=yk HO_0.out;subst eo11
   go_wp2
   go_ret
   exact ⟨by first|rfl|(simp [yt,yu] <;> rfl)|(simp [*,yt,yu] <;> rfl),by (with_reducible repeat (first|apply zm|apply zn|apply zo));exact HO_0.out,by repeat (with_reducible first|exact HB.out|apply za|apply zb|apply zc),by repeat (with_reducible first|exact HK.out|apply zr|apply zp|apply zq)⟩

end Go.Proofs.Ytlljfjpdflcjlaa.Q
end
section
namespace Go.Proofs.Ytlljfjpdflcjlaa.Q
open Go.RowKit Go.Proofs.YtlljfjpdflcjlaaW.PrintWords Go.Proofs.YtlljfjpdflcjlaaW.PrintLast Go.Proofs.YtlljfjpdflcjlaaW.PrintMore
attribute [local go_sem] max2_int min2_int max_two min_two max_three min_three max_four min_four max2_str min2_str str_geq str_gtr str_leq   -- for this text's walks alone
set_option linter.unusedVariables false
set_option linter.unusedSimpArgs false

def laws_heldStringS.l0 : Nat→List ByteArray→Int→Int→Option (Int)
 | 0,_,_,_ => none
 | k + 1,x0,x1,x5 => if x5<(x0.length : Int) then (if 0≤x5 then ((laws_markText.f k x1).bind fun t204 => (if (rdOf ByteArray.empty x0 x5).toList=t204.toList then (laws_heldStringS.l0 k x0 (wrap64 (x1 + 1)) (wrap64 (x5 + 1))) else (some (-1)))) else (none)) else (some x1)
def laws_heldStringS.f (k : Nat) (l0 : List ByteArray) (a1 : Int) : Option (Int):=laws_heldStringS.l0 k l0 a1 0
theorem laws_heldStringS.mono_l : ∀ k,(∀ y0 y1 y2,LeO (laws_heldStringS.l0 k y0 y1 y2) (laws_heldStringS.l0 (k + 1) y0 y1 y2))
 | 0 => fun _ _ _ r h => by simp [laws_heldStringS.l0] at h
 | k + 1 => by
  have ih0:=laws_heldStringS.mono_l k;intro y0 y1 y2;unfold laws_heldStringS.l0
  repeat' first|(with_reducible exact ih0 _ _ _)|(with_reducible exact laws_markText.mono _ _)|(with_reducible exact zQ _)|(with_reducible exact zN _)|(with_reducible refine zP ?_ ?_)|(with_reducible refine zO ?_ (fun _ => ?_))|refine zP ?_ ?_|refine zO ?_ (fun _ => ?_)
theorem laws_heldStringS.mono : ∀ a0 a1 k,LeO (laws_heldStringS.f k a0 a1) (laws_heldStringS.f (k + 1) a0 a1):=by
 intro a0 a1 k;have ih0:=laws_heldStringS.mono_l k;unfold laws_heldStringS.f
 repeat' first|(with_reducible exact ih0 _ _ _)|(with_reducible exact laws_markText.mono _ _)|(with_reducible exact zQ _)|(with_reducible exact zN _)|(with_reducible refine zP ?_ ?_)|(with_reducible refine zO ?_ (fun _ => ?_))|refine zP ?_ ?_|refine zO ?_ (fun _ => ?_)
set_option maxHeartbeats 8000000 in
set_option maxRecDepth 100000 in
theorem laws_heldStringS.calls (k : Nat) (A0 : Option Addr) (c0 : Nat) (l0 : List ByteArray) (a1 : Int) (r : Int) (w : World) (hr0 : Kd.C Kd.string w A0 l0.length l0) (hc0 : l0.length≤c0) (h : laws_heldStringS.f k l0 a1=some r) :
  Calls Try.prog 12 #[.slice A0 l0.length c0,.int .i64 a1] w fun e w' => e = .returned (.int .i64 r)∧Below w.heap.size w w':=by
 have HR0:=zh hr0;have HC0:=zh hc0;clear hr0 hc0;have HB:=zh (Below.refl w.heap.size w);have H : (laws_heldStringS.l0 k l0 a1 0)=some r:=h;clear h;have H':=zh H;clear H
 go_enter Try.func12,Try.ntmps12
 go_wp2
 go_loopg [1,5] k (fun kq v1 v5 w' => ∃ (x1_1 : Int) (x5_1 : Int),v1 = .int .i64 x1_1∧v5 = .int .i64 x5_1∧Aside0 (laws_heldStringS.l0 kq l0 x1_1 x5_1=some r)∧Aside0 (kq≤k)∧Aside0 (Below w.heap.size w w'))
 case atStart => exact ⟨(a1),(0),(by first|rfl|(simp;done)|(simp [*];done)),(by first|rfl|(simp;done)|(simp [*];done)),H',⟨ye _⟩,⟨by repeat (with_reducible first|exact HB.out|apply za|apply zb|apply zc)⟩⟩
 case round =>
  clear H'
  try clear c1
  try clear p2
  obtain ⟨x1_1,x5_1,rfl,rfl,HA,HK1,HB⟩:=hrel
  cases gk with
  | zero => exact absurd HA.out (by simp [laws_heldStringS.l0])
  | succ k1 =>
   have H:=HA.out;clear HA;simp only [laws_heldStringS.l0] at H
   by_cases c3 : x5_1<(l0.length : Int)
   ·
    rw [if_pos c3] at H
    have c3b0 : decide (x5_1<(l0.length : Int))=true:=decide_eq_true c3;clear c3
    by_cases c4 : 0≤x5_1
    ·
     rw [if_pos c4] at H
     have c4b0 : decide (0≤x5_1)=true:=decide_eq_true c4;clear c4;replace H:=zT.mp H;obtain ⟨t204,A50,H⟩:=H;replace H : (if (rdOf ByteArray.empty l0 x5_1).toList=t204.toList then (laws_heldStringS.l0 k1 l0 (wrap64 (x1_1 + 1)) (wrap64 (x5_1 + 1))) else (some (-1)))=some r:=H;have A5:=zh A50;clear A50
     by_cases c6 : (rdOf ByteArray.empty l0 x5_1).toList=t204.toList
     ·
      rw [if_pos c6] at H
      have c6b0 : ((rdOf ByteArray.empty l0 x5_1).toList == t204.toList)=true:=ya.mpr c6;have c6b1 : ((rdOf ByteArray.empty l0 x5_1).toList != t204.toList)=false:=zX.mpr c6;clear c6;have H':=zh H;clear H
      try go_wp2
      replace HB:=zh (zc HB.out);have p203 : 0≤(x5_1 : Int):=zy (by first|(with_reducible assumption)|assumption);have q203 : x5_1<(l0.length : Int):=zy (by first|(with_reducible assumption)|assumption);obtain ⟨ad203,e203,hx203_0⟩:=Kd.at_string HR0.out x5_1 p203 q203;have hw203_0:=hx203_0
      cases e203
      replace hx203_0:=(HB.out.cell (zl w _ hx203_0)).trans hx203_0;replace p203:=eq_true p203;replace q203:=eq_true q203;refine start_ (n:=7) (S:=fun w' => w'.cell? (ad203.add (x5_1).toNat)=some (.string (rdOf ByteArray.empty l0 x5_1))) (ds:=[]) (bm_ 0 7) (by kernel_rfl) rfl rfl (((HB.out.cell (zl w _ hw203_0)).trans hw203_0)) (fun hHeld => ?_);generalize wr.drew=w7 at HB hx203_0 hHeld ⊢;refine pure_ (i:=0) (N:=some 12) (v:=?_) (a':=?_) (bm_ 1 7) rfl rfl (by kernel_rfl) (fun _ _ _ h => h) (Or.inl ⟨by rfl,?_⟩) ?_ ?_;rotate_left
      ·
       intro w'
       go_simp
       with_reducible rfl
      rotate_left
      ·
       simp only [Act.put,zi,zj,zk,zG,zH]
       rfl
      refine pure_ (i:=1) (N:=some 13) (v:=?_) (a':=?_) (bm_ 2 7) rfl rfl (by kernel_rfl) (fun _ _ _ h => h) (Or.inl ⟨by rfl,?_⟩) ?_ ?_;rotate_left
      ·
       intro w'
       go_simp
       with_reducible rfl
      rotate_left
      ·
       simp only [Act.put,zi,zj,zk,zG,zH]
       rfl
      refine pure_ (i:=2) (N:=some 14) (v:=?_) (a':=?_) (bm_ 3 7) rfl rfl (by kernel_rfl) (fun _ _ _ h => h) (Or.inl ⟨by rfl,?_⟩) ?_ ?_;rotate_left
      ·
       intro w'
       go_simp
       with_reducible rfl
      rotate_left
      ·
       simp only [Act.put,zi,zj,zk,zG,zH]
       rfl
      refine pure_ (i:=4) (N:=some 16) (v:=?_) (a':=?_) #[true,true,true,false,true,false,false] rfl rfl (by kernel_rfl) (fun _ _ _ h => h) (Or.inl ⟨by rfl,?_⟩) ?_ ?_;rotate_left
      ·
       intro w'
       go_simp
       with_reducible rfl
      rotate_left
      ·
       simp only [Act.put,zi,zj,zk,zG,zH]
       rfl
      refine take_ (i:=3) (N:=some 15) (v:=?_) (a':=?_) (bm_ 5 7) rfl rfl (by kernel_rfl) (fun _ _ _ h => h) (Or.inl ⟨by rfl,?_⟩) hHeld ?_ ?_;rotate_left
      ·
       intro w' s0
       go_simp
       with_reducible rfl
      rotate_left
      ·
       simp only [Act.put,zi,zj,zk,zG,zH]
       rfl
      refine one_ (i:=5) (N:=some 17) (bm_ 6 7) rfl rfl (by kernel_rfl) (by decide) (fun K hK => ?_);refine goes_ Try.func32 (by kernel_rfl) rfl #[.int .i64 x1_1] (by rfl) rfl rfl (by (try simp only [zt,zu,zv]);first|done|rfl|(simp only [zw,zx];rfl)|(simp only [yr,ys,zV,zW];rfl)) ?_
      with_reducible refine (laws_markText.calls k1  x1_1 t204 _ A5.out).mono ?_
      rintro e w8 ⟨rfl,hb⟩;refine ⟨_,rfl,?_⟩;replace HB:=zh (zC (by repeat (with_reducible first|exact HB.out|apply za|apply zb|apply zc)) hb);(try clear hb);(try clear hb2);(try clear hk);(try clear hi);refine hK.out _ _ (((HB.out.cell (zl w _ hw203_0)).trans hw203_0)) (fun hHeld => ?_);clear hK K;refine norm_ (a':=?_) ?_ ?_;rotate_left
      ·
       show Act.put _ (some 17) _=_
       simp only [Act.put,zi,zj,zk,zG,zH]
       rfl
      refine pure_ (i:=6) (N:=some 18) (v:=?_) (a':=?_) (bm_ 7 7) rfl rfl (by kernel_rfl) (fun _ _ _ h => h) (Or.inl ⟨by rfl,?_⟩) ?_ ?_;rotate_left
      ·
       intro w'
       go_simp
       with_reducible rfl
      rotate_left
      ·
       simp only [Act.put,zi,zj,zk,zG,zH]
       rfl
      refine done_ (by kernel_rfl) ?_
      try go_wp2
      go_roundg k1
      case measure => have:=HK1.out;omega
      case rel => exact ⟨(wrap64 (x1_1 + 1)),(wrap64 (x5_1 + 1)),(by first|rfl|(simp;done)|(simp [*];done)),(by first|rfl|(simp;done)|(simp [*];done)),H',⟨by have:=HK1.out;omega⟩,⟨by repeat (with_reducible first|exact HB.out|apply za|apply zb|apply zc)⟩⟩
     rw [if_neg c6] at H;have c6b0 : ((rdOf ByteArray.empty l0 x5_1).toList == t204.toList)=false:=zY.mpr c6;have c6b1 : ((rdOf ByteArray.empty l0 x5_1).toList != t204.toList)=true:=zZ.mpr c6;obtain rfl:=zU H
     try go_wp2
     replace HB:=zh (zc HB.out);have p203 : 0≤(x5_1 : Int):=zy (by first|(with_reducible assumption)|assumption);have q203 : x5_1<(l0.length : Int):=zy (by first|(with_reducible assumption)|assumption);obtain ⟨ad203,e203,hx203_0⟩:=Kd.at_string HR0.out x5_1 p203 q203;have hw203_0:=hx203_0
     cases e203
     replace hx203_0:=(HB.out.cell (zl w _ hx203_0)).trans hx203_0;replace p203:=eq_true p203;replace q203:=eq_true q203;refine start_ (n:=7) (S:=fun w' => w'.cell? (ad203.add (x5_1).toNat)=some (.string (rdOf ByteArray.empty l0 x5_1))) (ds:=[]) (bm_ 0 7) (by kernel_rfl) rfl rfl (((HB.out.cell (zl w _ hw203_0)).trans hw203_0)) (fun hHeld => ?_);generalize wr.drew=w9 at HB hx203_0 hHeld ⊢;refine pure_ (i:=0) (N:=some 12) (v:=?_) (a':=?_) (bm_ 1 7) rfl rfl (by kernel_rfl) (fun _ _ _ h => h) (Or.inl ⟨by rfl,?_⟩) ?_ ?_;rotate_left
     ·
      intro w'
      go_simp
      with_reducible rfl
     rotate_left
     ·
      simp only [Act.put,zi,zj,zk,zG,zH]
      rfl
     refine pure_ (i:=1) (N:=some 13) (v:=?_) (a':=?_) (bm_ 2 7) rfl rfl (by kernel_rfl) (fun _ _ _ h => h) (Or.inl ⟨by rfl,?_⟩) ?_ ?_;rotate_left
     ·
      intro w'
      go_simp
      with_reducible rfl
     rotate_left
     ·
      simp only [Act.put,zi,zj,zk,zG,zH]
      rfl
     refine pure_ (i:=2) (N:=some 14) (v:=?_) (a':=?_) (bm_ 3 7) rfl rfl (by kernel_rfl) (fun _ _ _ h => h) (Or.inl ⟨by rfl,?_⟩) ?_ ?_;rotate_left
     ·
      intro w'
      go_simp
      with_reducible rfl
     rotate_left
     ·
      simp only [Act.put,zi,zj,zk,zG,zH]
      rfl
     refine pure_ (i:=4) (N:=some 16) (v:=?_) (a':=?_) #[true,true,true,false,true,false,false] rfl rfl (by kernel_rfl) (fun _ _ _ h => h) (Or.inl ⟨by rfl,?_⟩) ?_ ?_;rotate_left
     ·
      intro w'
      go_simp
      with_reducible rfl
     rotate_left
     ·
      simp only [Act.put,zi,zj,zk,zG,zH]
      rfl
     refine take_ (i:=3) (N:=some 15) (v:=?_) (a':=?_) (bm_ 5 7) rfl rfl (by kernel_rfl) (fun _ _ _ h => h) (Or.inl ⟨by rfl,?_⟩) hHeld ?_ ?_;rotate_left
     ·
      intro w' s0
      go_simp
      with_reducible rfl
     rotate_left
     ·
      simp only [Act.put,zi,zj,zk,zG,zH]
      rfl
     refine one_ (i:=5) (N:=some 17) (bm_ 6 7) rfl rfl (by kernel_rfl) (by decide) (fun K hK => ?_);refine goes_ Try.func32 (by kernel_rfl) rfl #[.int .i64 x1_1] (by rfl) rfl rfl (by (try simp only [zt,zu,zv]);first|done|rfl|(simp only [zw,zx];rfl)|(simp only [yr,ys,zV,zW];rfl)) ?_
     with_reducible refine (laws_markText.calls k1  x1_1 t204 _ A5.out).mono ?_
     rintro e w10 ⟨rfl,hb⟩;refine ⟨_,rfl,?_⟩;replace HB:=zh (zC (by repeat (with_reducible first|exact HB.out|apply za|apply zb|apply zc)) hb);(try clear hb);(try clear hb2);(try clear hk);(try clear hi);refine hK.out _ _ (((HB.out.cell (zl w _ hw203_0)).trans hw203_0)) (fun hHeld => ?_);clear hK K;refine norm_ (a':=?_) ?_ ?_;rotate_left
     ·
      show Act.put _ (some 17) _=_
      simp only [Act.put,zi,zj,zk,zG,zH]
      rfl
     refine pure_ (i:=6) (N:=some 18) (v:=?_) (a':=?_) (bm_ 7 7) rfl rfl (by kernel_rfl) (fun _ _ _ h => h) (Or.inl ⟨by rfl,?_⟩) ?_ ?_;rotate_left
     ·
      intro w'
      go_simp
      with_reducible rfl
     rotate_left
     ·
      simp only [Act.put,zi,zj,zk,zG,zH]
      rfl
     refine done_ (by kernel_rfl) ?_
     try go_wp2
     go_ret
     exact ⟨by first|rfl|(simp [yt,yu] <;> rfl)|(simp [*,yt,yu] <;> rfl),by repeat (with_reducible first|exact HB.out|apply za|apply zb|apply zc)⟩
    rw [if_neg c4] at H;exact absurd H (by simp)
   rw [if_neg c3] at H;have c3b0 : decide (x5_1<(l0.length : Int))=false:=decide_eq_false c3;clear c3;obtain rfl:=zU H
   go_wp2
   go_ret
   exact ⟨by first|rfl|(simp [yt,yu] <;> rfl)|(simp [*,yt,yu] <;> rfl),by repeat (with_reducible first|exact HB.out|apply za|apply zb|apply zc)⟩

end Go.Proofs.Ytlljfjpdflcjlaa.Q
end
section
namespace Go.Proofs.Ytlljfjpdflcjlaa.Q
open Go.RowKit Go.Proofs.YtlljfjpdflcjlaaW.PrintWords Go.Proofs.YtlljfjpdflcjlaaW.PrintLast Go.Proofs.YtlljfjpdflcjlaaW.PrintMore
attribute [local go_sem] max2_int min2_int max_two min_two max_three min_three max_four min_four max2_str min2_str str_geq str_gtr str_leq   -- for this text's walks alone
set_option linter.unusedVariables false
set_option linter.unusedSimpArgs false

def spec_l01In.f (a0 : Int) (a1 : Int) (a2 : Int) : Option (Bool):=if a1≤a0 then (some (decide (a0≤a2))) else (some false)
set_option maxHeartbeats 8000000 in
set_option maxRecDepth 100000 in
theorem spec_l01In.calls (a0 : Int) (a1 : Int) (a2 : Int) (r : Bool) (w : World) (h : spec_l01In.f a0 a1 a2=some r) :
  Calls Try.prog 27 #[.int .i64 a0,.int .i64 a1,.int .i64 a2] w fun e w' => e = .returned (.bool r)∧Drawn0 w w':=by
 have H : (if a1≤a0 then (some (decide (a0≤a2))) else (some false))=some r:=h;clear h
 by_cases c4 : a1≤a0
 ·
  rw [if_pos c4] at H
  have c4b0 : decide (a1≤a0)=true:=decide_eq_true c4;clear c4;obtain rfl:=zU H
  go_enter Try.func27,Try.ntmps27
  go_wp2
  go_ret
  exact ⟨by first|rfl|(simp;done)|(simp [*];done),by repeat (first|exact yp _|apply yq)⟩
 rw [if_neg c4] at H;have c4b0 : decide (a1≤a0)=false:=decide_eq_false c4;clear c4;obtain rfl:=zU H
 go_enter Try.func27,Try.ntmps27
 go_wp2
 go_ret
 exact ⟨by first|rfl|(simp;done)|(simp [*];done),by repeat (first|exact yp _|apply yq)⟩

end Go.Proofs.Ytlljfjpdflcjlaa.Q
end
section
namespace Go.Proofs.Ytlljfjpdflcjlaa.Q
open Go.RowKit Go.Proofs.YtlljfjpdflcjlaaW.PrintWords Go.Proofs.YtlljfjpdflcjlaaW.PrintLast Go.Proofs.YtlljfjpdflcjlaaW.PrintMore
attribute [local go_sem] max2_int min2_int max_two min_two max_three min_three max_four min_four max2_str min2_str str_geq str_gtr str_leq   -- for this text's walks alone
set_option linter.unusedVariables false
set_option linter.unusedSimpArgs false

def spec_l04Text.l0 : Nat→ByteArray→Int→Option (Int)
 | 0,_,_ => none
 | k + 1,x0,x3 => if (wrap64 (x3 + 1))<(x0.size : Int) then (if 0≤x3 then (if x3<(x0.size : Int) then (if (bt x0 x3)=0 then (if 0≤(wrap64 (x3 + 1)) then (if (bt x0 (wrap64 (x3 + 1)))=0 then (some (wrap64 (x3 + 2))) else (spec_l04Text.l0 k x0 (wrap64 ((wrap64 (x3 + 1)) + 1)))) else (none)) else (spec_l04Text.l0 k x0 (wrap64 (x3 + 1)))) else (none)) else (none)) else (some 0)
def spec_l04Text.f (k : Nat) (a0 : ByteArray) : Option (Int):=spec_l04Text.l0 k a0 0
theorem spec_l04Text.mono_l : ∀ k,(∀ y0 y1,LeO (spec_l04Text.l0 k y0 y1) (spec_l04Text.l0 (k + 1) y0 y1))
 | 0 => fun _ _ r h => by simp [spec_l04Text.l0] at h
 | k + 1 => by
  have ih0:=spec_l04Text.mono_l k;intro y0 y1;unfold spec_l04Text.l0
  repeat' first|(with_reducible exact ih0 _ _)|(with_reducible exact zQ _)|(with_reducible exact zN _)|(with_reducible refine zP ?_ ?_)|(with_reducible refine zO ?_ (fun _ => ?_))|refine zP ?_ ?_|refine zO ?_ (fun _ => ?_)
theorem spec_l04Text.mono : ∀ a0 k,LeO (spec_l04Text.f k a0) (spec_l04Text.f (k + 1) a0):=by
 intro a0 k;have ih0:=spec_l04Text.mono_l k;unfold spec_l04Text.f
 repeat' first|(with_reducible exact ih0 _ _)|(with_reducible exact zQ _)|(with_reducible exact zN _)|(with_reducible refine zP ?_ ?_)|(with_reducible refine zO ?_ (fun _ => ?_))|refine zP ?_ ?_|refine zO ?_ (fun _ => ?_)
set_option maxHeartbeats 8000000 in
set_option maxRecDepth 100000 in
theorem spec_l04Text.calls (k : Nat) (a0 : ByteArray) (r : Int) (w : World) (h : spec_l04Text.f k a0=some r) :
  Calls Try.prog 51 #[.string a0] w fun e w' => e = .returned (.int .i64 r)∧Drawn0 w w':=by
 have H : (spec_l04Text.l0 k a0 0)=some r:=h;clear h;have H':=zh H;clear H
 go_enter Try.func51,Try.ntmps51
 go_wp2
 go_loopg [3] k (fun kq v3 w' => ∃ (x3_1 : Int),v3 = .int .i64 x3_1∧Aside0 (spec_l04Text.l0 kq a0 x3_1=some r)∧Aside0 (kq≤k)∧Drawn0 w w')
 case atStart => exact ⟨(0),(by first|rfl|(simp;done)|(simp [*];done)),H',⟨ye _⟩,by repeat (first|exact yp _|apply yq)⟩
 case round =>
  clear H';obtain ⟨x3_1,rfl,HA,HK1,⟨m1,rfl⟩⟩:=hrel
  cases gk with
  | zero => exact absurd HA.out (by simp [spec_l04Text.l0])
  | succ k1 =>
   have H:=HA.out;clear HA;simp only [spec_l04Text.l0] at H
   by_cases c2 : (wrap64 (x3_1 + 1))<(a0.size : Int)
   ·
    rw [if_pos c2] at H
    have c2b0 : decide ((wrap64 (x3_1 + 1))<(a0.size : Int))=true:=decide_eq_true c2;clear c2
    by_cases c3 : 0≤x3_1
    ·
     rw [if_pos c3] at H
     have c3b0 : decide (0≤x3_1)=true:=decide_eq_true c3;clear c3
     by_cases c4 : x3_1<(a0.size : Int)
     ·
      rw [if_pos c4] at H
      have c4b0 : decide (x3_1<(a0.size : Int))=true:=decide_eq_true c4;clear c4
      by_cases c6 : (bt a0 x3_1)=0
      ·
       rw [if_pos c6] at H
       have c6b0 : ((bt a0 x3_1) == 0)=true:=ya.mpr c6;have c6b1 : ((bt a0 x3_1) != 0)=false:=zX.mpr c6;clear c6;obtain ⟨ji7,hji7⟩ : ∃ j_ : Int,(wrap64 (x3_1 + 1))=j_:=⟨_,rfl⟩;replace H : (if 0≤(ji7) then (if (bt a0 (ji7))=0 then (some (wrap64 (x3_1 + 2))) else (spec_l04Text.l0 k1 a0 (wrap64 ((ji7) + 1)))) else (none))=some r:=by first|(rw [hji7] at H;exact H)|(simp only [hji7] at H ⊢;exact H)
       (try rw [hji7] at c2b0);have hji7w : (IntKind.i64.wrap (x3_1 + 1))=ji7:=(zG _).trans hji7
       by_cases c8 : 0≤(ji7)
       ·
        rw [if_pos c8] at H
        have c8b0 : decide (0≤(ji7))=true:=decide_eq_true c8;clear c8
        by_cases c10 : (bt a0 (ji7))=0
        ·
         rw [if_pos c10] at H
         have c10b0 : ((bt a0 (ji7)) == 0)=true:=ya.mpr c10;have c10b1 : ((bt a0 (ji7)) != 0)=false:=zX.mpr c10;clear c10;obtain rfl:=zU H;have p5 : 0≤(x3_1 : Int):=zy (by first|(with_reducible assumption)|assumption);have q5 : x3_1<(a0.size : Int):=zy (by first|(with_reducible assumption)|assumption);have hx5:=bt_at a0 x3_1;replace p5:=eq_true p5;replace q5:=eq_true q5;have p9 : 0≤((ji7) : Int):=zy (by first|(with_reducible assumption)|assumption);have q9 : (ji7)<(a0.size : Int):=zy (by first|(with_reducible assumption)|assumption);have hx9:=bt_at a0 (ji7);replace p9:=eq_true p9;replace q9:=eq_true q9
         go_wp2
         go_ret
         exact ⟨by first|rfl|(simp;done)|(simp only [← hji7] <;> (first|rfl|simp))|(simp [*];done),by repeat (first|exact yp _|apply yq)⟩
        rw [if_neg c10] at H;have c10b0 : ((bt a0 (ji7)) == 0)=false:=zY.mpr c10;have c10b1 : ((bt a0 (ji7)) != 0)=true:=zZ.mpr c10;have H':=zh H;clear H;have p5 : 0≤(x3_1 : Int):=zy (by first|(with_reducible assumption)|assumption);have q5 : x3_1<(a0.size : Int):=zy (by first|(with_reducible assumption)|assumption);have hx5:=bt_at a0 x3_1;replace p5:=eq_true p5;replace q5:=eq_true q5;have p9 : 0≤((ji7) : Int):=zy (by first|(with_reducible assumption)|assumption);have q9 : (ji7)<(a0.size : Int):=zy (by first|(with_reducible assumption)|assumption);have hx9:=bt_at a0 (ji7);replace p9:=eq_true p9;replace q9:=eq_true q9
        go_wp2
        go_roundg k1
        case measure => have:=HK1.out;omega
        case rel => exact ⟨(wrap64 ((ji7) + 1)),(by first|rfl|(simp;done)|(simp only [← hji7] <;> (first|rfl|simp))|(simp [*];done)),H',⟨by have:=HK1.out;omega⟩,by repeat (first|exact yp _|apply yq)⟩
       rw [if_neg c8] at H;exact absurd H (by simp)
      rw [if_neg c6] at H;have c6b0 : ((bt a0 x3_1) == 0)=false:=zY.mpr c6;have c6b1 : ((bt a0 x3_1) != 0)=true:=zZ.mpr c6;have H':=zh H;clear H;have p5 : 0≤(x3_1 : Int):=zy (by first|(with_reducible assumption)|assumption);have q5 : x3_1<(a0.size : Int):=zy (by first|(with_reducible assumption)|assumption);have hx5:=bt_at a0 x3_1;replace p5:=eq_true p5;replace q5:=eq_true q5
      go_wp2
      go_roundg k1
      case measure => have:=HK1.out;omega
      case rel => exact ⟨(wrap64 (x3_1 + 1)),(by first|rfl|(simp;done)|(simp [*];done)),H',⟨by have:=HK1.out;omega⟩,by repeat (first|exact yp _|apply yq)⟩
     rw [if_neg c4] at H;exact absurd H (by simp)
    rw [if_neg c3] at H;exact absurd H (by simp)
   rw [if_neg c2] at H;have c2b0 : decide ((wrap64 (x3_1 + 1))<(a0.size : Int))=false:=decide_eq_false c2;clear c2;obtain rfl:=zU H
   go_wp2
   go_ret
   exact ⟨by first|rfl|(simp;done)|(simp [*];done),by repeat (first|exact yp _|apply yq)⟩

end Go.Proofs.Ytlljfjpdflcjlaa.Q
end
section
namespace Go.Proofs.Ytlljfjpdflcjlaa.Q
open Go.RowKit Go.Proofs.YtlljfjpdflcjlaaW.PrintWords Go.Proofs.YtlljfjpdflcjlaaW.PrintLast Go.Proofs.YtlljfjpdflcjlaaW.PrintMore
attribute [local go_sem] max2_int min2_int max_two min_two max_three min_three max_four min_four max2_str min2_str str_geq str_gtr str_leq   -- for this text's walks alone
set_option linter.unusedVariables false
set_option linter.unusedSimpArgs false

mutual
def spec_l04Many.l0 (G : ByteArray→Option (Int)) : Nat→ByteArray→Bool→Int→Option (Int)
 | 0,_,_,_ => none
 | k + 1,x0,x1,x5 => if x5<(x0.size : Int) then (if 0≤x5 then (spec_l04Many.j1 G k x0 x1 x5 ((bt x0 x5) != 0)) else (none)) else (spec_l04Many.j1 G k x0 x1 x5 false)
def spec_l04Many.j1 (G : ByteArray→Option (Int)) : Nat→ByteArray→Bool→Int→Bool→Option (Int)
 | 0,_,_,_,_ => none
 | k + 1,x0,x1,x5,x17 => if x17=true then (if x1=true then (if 0≤(wrap64 (x5 + 1)) then (if (wrap64 (x5 + 1))≤(x0.size : Int) then ((spec_l04Text.f k (x0.extract ((wrap64 (x5 + 1)) : Int).toNat x0.size)).bind fun t101 => (if 0≤x5 then (if x5<(x0.size : Int) then (if (bt x0 x5)=1 then (spec_l04Many.j2 G k x0 x1 x5 t101 (t101 == 0)) else (spec_l04Many.j2 G k x0 x1 x5 t101 true)) else (none)) else (none))) else (none)) else (none)) else (if 0≤x5 then (if x5≤(x0.size : Int) then ((G (x0.extract (x5 : Int).toNat x0.size)).bind fun t103 => (if t103=0 then (some 0) else (spec_l04Many.l0 G k x0 x1 (wrap64 (x5 + t103))))) else (none)) else (none))) else (if x5 ≥ (x0.size : Int) then (some 0) else (some (wrap64 (x5 + 1))))
def spec_l04Many.j2 (G : ByteArray→Option (Int)) : Nat→ByteArray→Bool→Int→Int→Bool→Option (Int)
 | 0,_,_,_,_,_ => none
 | k + 1,x0,x1,x5,x6,x31 => if x31=true then (some 0) else (if 0≤(wrap64 (x5 + (wrap64 (1 + x6)))) then (if (wrap64 (x5 + (wrap64 (1 + x6))))≤(x0.size : Int) then ((G (x0.extract ((wrap64 (x5 + (wrap64 (1 + x6)))) : Int).toNat x0.size)).bind fun t102 => (if t102=0 then (some 0) else (spec_l04Many.l0 G k x0 x1 (wrap64 ((wrap64 (x5 + (wrap64 (1 + x6)))) + t102))))) else (none)) else (none))
end
def spec_l04Many.f (k : Nat) (G : ByteArray→Option (Int)) (a0 : ByteArray) (a1 : Bool) : Option (Int):=spec_l04Many.l0 G k a0 a1 1
theorem spec_l04Many.mono_l : ∀ (G G' : ByteArray→Option (Int)) (hG : ∀ y0,LeO (G y0) (G' y0)),∀ k,(∀ y0 y1 y2,LeO (spec_l04Many.l0 G k y0 y1 y2) (spec_l04Many.l0 G' (k + 1) y0 y1 y2))∧(∀ y0 y1 y2 y3,LeO (spec_l04Many.j1 G k y0 y1 y2 y3) (spec_l04Many.j1 G' (k + 1) y0 y1 y2 y3))∧(∀ y0 y1 y2 y3 y4,LeO (spec_l04Many.j2 G k y0 y1 y2 y3 y4) (spec_l04Many.j2 G' (k + 1) y0 y1 y2 y3 y4))
 | G,G',hG,0 => ⟨fun _ _ _ r h => by simp [spec_l04Many.l0] at h,fun _ _ _ _ r h => by simp [spec_l04Many.j1] at h,fun _ _ _ _ _ r h => by simp [spec_l04Many.j2] at h⟩
 | G,G',hG,k + 1 => by
  obtain ⟨ih0,ih1,ih2⟩:=spec_l04Many.mono_l G G' hG k;refine ⟨?_,?_,?_⟩
  ·
   intro y0 y1 y2
   unfold spec_l04Many.l0
   repeat' first|(with_reducible exact ih0 _ _ _)|(with_reducible exact ih1 _ _ _ _)|(with_reducible exact ih2 _ _ _ _ _)|(with_reducible exact hG _)|(with_reducible exact spec_l04Text.mono _ _)|(with_reducible exact zQ _)|(with_reducible exact zN _)|(with_reducible refine zP ?_ ?_)|(with_reducible refine zO ?_ (fun _ => ?_))|refine zP ?_ ?_|refine zO ?_ (fun _ => ?_)
  ·
   intro y0 y1 y2 y3
   unfold spec_l04Many.j1
   repeat' first|(with_reducible exact ih0 _ _ _)|(with_reducible exact ih1 _ _ _ _)|(with_reducible exact ih2 _ _ _ _ _)|(with_reducible exact hG _)|(with_reducible exact spec_l04Text.mono _ _)|(with_reducible exact zQ _)|(with_reducible exact zN _)|(with_reducible refine zP ?_ ?_)|(with_reducible refine zO ?_ (fun _ => ?_))|refine zP ?_ ?_|refine zO ?_ (fun _ => ?_)
  intro y0 y1 y2 y3 y4;unfold spec_l04Many.j2
  repeat' first|(with_reducible exact ih0 _ _ _)|(with_reducible exact ih1 _ _ _ _)|(with_reducible exact ih2 _ _ _ _ _)|(with_reducible exact hG _)|(with_reducible exact spec_l04Text.mono _ _)|(with_reducible exact zQ _)|(with_reducible exact zN _)|(with_reducible refine zP ?_ ?_)|(with_reducible refine zO ?_ (fun _ => ?_))|refine zP ?_ ?_|refine zO ?_ (fun _ => ?_)
theorem spec_l04Many.mono : ∀ (G G' : ByteArray→Option (Int)) (hG : ∀ y0,LeO (G y0) (G' y0)),∀ a0 a1 k,LeO (spec_l04Many.f k G a0 a1) (spec_l04Many.f (k + 1) G' a0 a1):=by
 intro G G' hG a0 a1 k;obtain ⟨ih0,ih1,ih2⟩:=spec_l04Many.mono_l G G' hG k;unfold spec_l04Many.f
 repeat' first|(with_reducible exact ih0 _ _ _)|(with_reducible exact ih1 _ _ _ _)|(with_reducible exact ih2 _ _ _ _ _)|(with_reducible exact hG _)|(with_reducible exact spec_l04Text.mono _ _)|(with_reducible exact zQ _)|(with_reducible exact zN _)|(with_reducible refine zP ?_ ?_)|(with_reducible refine zO ?_ (fun _ => ?_))|refine zP ?_ ?_|refine zO ?_ (fun _ => ?_)
set_option maxHeartbeats 8000000 in
set_option maxRecDepth 100000 in
theorem spec_l04Many.calls (k : Nat) (G : ByteArray→Option (Int)) (hG : ∀ (a0 : ByteArray) (r : Int) (w : World) (h : G a0=some r),Calls Try.prog 28 #[.string a0] w fun e w' => e = .returned (.int .i64 r)∧Below w.heap.size w w') (a0 : ByteArray) (a1 : Bool) (r : Int) (w : World) (h : spec_l04Many.f k G a0 a1=some r) :
  Calls Try.prog 52 #[.string a0,.bool a1] w fun e w' => e = .returned (.int .i64 r)∧Below w.heap.size w w':=by
 have HB:=zh (Below.refl w.heap.size w);have H : (spec_l04Many.l0 G k a0 a1 1)=some r:=h;clear h;have H':=zh H;clear H
 go_enter Try.func52,Try.ntmps52
 go_wp2
 go_loopg [5] k (fun kq v5 w' => ∃ (x5_1 : Int),v5 = .int .i64 x5_1∧Aside0 (spec_l04Many.l0 G kq a0 a1 x5_1=some r)∧Aside0 (kq≤k)∧Aside0 (Below w.heap.size w w'))
 case atStart => exact ⟨(1),(by first|rfl|(simp;done)|(simp [*];done)),H',⟨ye _⟩,⟨by repeat (with_reducible first|exact HB.out|apply za|apply zb|apply zc)⟩⟩
 case round =>
  clear H'
  try clear p2
  obtain ⟨x5_1,rfl,HA,HK1,HB⟩:=hrel
  cases gk with
  | zero => exact absurd HA.out (by simp [spec_l04Many.l0])
  | succ k1 =>
   have H:=HA.out;clear HA;simp only [spec_l04Many.l0] at H;have HC3:=zh H;clear H
   go_upto_region 2 with (fail)
   go_cut [17] (fun v17 wc => ∃ (kq : Nat) (x17_2 : Bool),v17 = .bool x17_2∧Aside0 (spec_l04Many.j1 G kq a0 a1 x5_1 x17_2=some r)∧Aside0 (kq≤k1)∧Aside0 (Below w.heap.size w wc))
   case first =>
    have H:=HC3.out;clear HC3
    by_cases c4 : x5_1<(a0.size : Int)
    ·
     rw [if_pos c4] at H
     have c4b0 : decide (x5_1<(a0.size : Int))=true:=decide_eq_true c4;clear c4;(first|rw [c4b0]|(simp only [zG,zH];rw [c4b0])|skip)
     by_cases c5 : 0≤x5_1
     ·
      rw [if_pos c5] at H
      have c5b0 : decide (0≤x5_1)=true:=decide_eq_true c5;clear c5;have H':=zh H;clear H;have p6 : 0≤(x5_1 : Int):=zy (by first|(with_reducible assumption)|assumption);have q6 : x5_1<(a0.size : Int):=zy (by first|(with_reducible assumption)|assumption);have hx6:=bt_at a0 x5_1;replace p6:=eq_true p6;replace q6:=eq_true q6
      go_wp2
      go_meet
      case rel => exact ⟨_,(((bt a0 x5_1) != 0)),(by first|rfl|(simp;done)|(simp [*];done)),H',⟨by have:=HK1.out;first|omega|exact ye _⟩,⟨by repeat (with_reducible first|exact HB.out|apply za|apply zb|apply zc)⟩⟩
     rw [if_neg c5] at H;exact absurd H (by simp)
    rw [if_neg c4] at H;have c4b0 : decide (x5_1<(a0.size : Int))=false:=decide_eq_false c4;clear c4;(first|rw [c4b0]|(simp only [zG,zH];rw [c4b0])|skip);have H':=zh H;clear H
    go_wp2
    go_meet
    case rel => exact ⟨_,(false),(by first|rfl|(simp;done)|(simp [*];done)),H',⟨by have:=HK1.out;first|omega|exact ye _⟩,⟨by repeat (with_reducible first|exact HB.out|apply za|apply zb|apply zc)⟩⟩
   case rest =>
    clear HC3
    try clear p2
    try clear c4
    try clear c4b0
    try clear c5
    try clear c5b0
    try clear p6
    try clear q6
    try clear hx6
    try clear p2
    try clear p6
    try clear q6
    obtain ⟨kq,x17_2,rfl,HA,HJ2,HB⟩:=hcut
    cases kq with
    | zero => exact absurd HA.out (by simp [spec_l04Many.j1])
    | succ kj2 =>
     have H:=HA.out;clear HA;simp only [spec_l04Many.j1] at H
     by_cases c7 : x17_2=true
     ·
      subst c7
      have H1 : (if a1=true then (if 0≤(wrap64 (x5_1 + 1)) then (if (wrap64 (x5_1 + 1))≤(a0.size : Int) then ((spec_l04Text.f kj2 (a0.extract ((wrap64 (x5_1 + 1)) : Int).toNat a0.size)).bind fun t101 => (if 0≤x5_1 then (if x5_1<(a0.size : Int) then (if (bt a0 x5_1)=1 then (spec_l04Many.j2 G kj2 a0 a1 x5_1 t101 (t101 == 0)) else (spec_l04Many.j2 G kj2 a0 a1 x5_1 t101 true)) else (none)) else (none))) else (none)) else (none)) else (if 0≤x5_1 then (if x5_1≤(a0.size : Int) then ((G (a0.extract (x5_1 : Int).toNat a0.size)).bind fun t103 => (if t103=0 then (some 0) else (spec_l04Many.l0 G kj2 a0 a1 (wrap64 (x5_1 + t103))))) else (none)) else (none)))=some r:=by rw [if_pos rfl] at H;exact H
      clear H;have H:=H1;clear H1
      by_cases c8 : a1=true
      ·
       subst c8
       have H1 : (if 0≤(wrap64 (x5_1 + 1)) then (if (wrap64 (x5_1 + 1))≤(a0.size : Int) then ((spec_l04Text.f kj2 (a0.extract ((wrap64 (x5_1 + 1)) : Int).toNat a0.size)).bind fun t101 => (if 0≤x5_1 then (if x5_1<(a0.size : Int) then (if (bt a0 x5_1)=1 then (spec_l04Many.j2 G kj2 a0 true x5_1 t101 (t101 == 0)) else (spec_l04Many.j2 G kj2 a0 true x5_1 t101 true)) else (none)) else (none))) else (none)) else (none))=some r:=by rw [if_pos rfl] at H;exact H
       clear H;have H:=H1;clear H1;obtain ⟨ji9,hji9⟩ : ∃ j_ : Int,(wrap64 (x5_1 + 1))=j_:=⟨_,rfl⟩;replace H : (if 0≤(ji9) then (if (ji9)≤(a0.size : Int) then ((spec_l04Text.f kj2 (a0.extract ((ji9) : Int).toNat a0.size)).bind fun t101 => (if 0≤x5_1 then (if x5_1<(a0.size : Int) then (if (bt a0 x5_1)=1 then (spec_l04Many.j2 G kj2 a0 true x5_1 t101 (t101 == 0)) else (spec_l04Many.j2 G kj2 a0 true x5_1 t101 true)) else (none)) else (none))) else (none)) else (none))=some r:=by first|(rw [hji9] at H;exact H)|(simp only [hji9] at H ⊢;exact H)
       have hji9w : (IntKind.i64.wrap (x5_1 + 1))=ji9:=(zG _).trans hji9
       by_cases c10 : 0≤(ji9)
       ·
        rw [if_pos c10] at H
        have c10b0:=eq_true c10;have c10b1 : decide (0≤(ji9))=true:=decide_eq_true c10;clear c10
        by_cases c11 : (ji9)≤(a0.size : Int)
        ·
         rw [if_pos c11] at H
         have c11b0:=eq_true c11;have c11b1 : decide ((ji9)≤(a0.size : Int))=true:=decide_eq_true c11;clear c11;replace H:=zT.mp H;obtain ⟨t101,A120,H⟩:=H;replace H : (if 0≤x5_1 then (if x5_1<(a0.size : Int) then (if (bt a0 x5_1)=1 then (spec_l04Many.j2 G kj2 a0 true x5_1 t101 (t101 == 0)) else (spec_l04Many.j2 G kj2 a0 true x5_1 t101 true)) else (none)) else (none))=some r:=H;have A12:=zh A120;clear A120;have HC13:=zh H;clear H
         go_upto_region 5 with (first|((with_reducible refine zJ (f:=51) rfl ?_);refine yj (some 23) rfl rfl Try.func51 (by kernel_rfl) rfl #[.string (a0.extract ((ji9) : Int).toNat a0.size)] rfl (by (try simp only [zt,zu,zv]);first|done|(simp only [hji9];rfl)|rfl|(simp only [zw,zx];rfl)|(simp only [yr,ys,zV,zW];rfl)) ?_;(with_reducible refine (spec_l04Text.calls kj2  (a0.extract ((ji9) : Int).toNat a0.size) t101 _ A12.out).mono ?_);rintro e w' ⟨rfl,⟨nd,rfl⟩⟩;refine ⟨_,rfl,?_⟩))
         (try simp only [Act.put,zi,zj,zk])
         go_cut [31] (fun v31 wc => ∃ (kq : Nat) (x31_12 : Bool),v31 = .bool x31_12∧Aside0 (spec_l04Many.j2 G kq a0 true x5_1 t101 x31_12=some r)∧Aside0 (kq≤kj2)∧Aside0 (Below w.heap.size w wc))
         case first =>
          have H:=HC13.out;clear HC13
          by_cases c14 : 0≤x5_1
          ·
           rw [if_pos c14] at H
           have c14b0 : decide (0≤x5_1)=true:=decide_eq_true c14;clear c14;(first|rw [c14b0]|(simp only [zG,zH];rw [c14b0])|skip)
           by_cases c15 : x5_1<(a0.size : Int)
           ·
            rw [if_pos c15] at H
            have c15b0 : decide (x5_1<(a0.size : Int))=true:=decide_eq_true c15;clear c15
            by_cases c17 : (bt a0 x5_1)=1
            ·
             rw [if_pos c17] at H
             have c17b0 : ((bt a0 x5_1) == 1)=true:=ya.mpr c17;have c17b1 : ((bt a0 x5_1) != 1)=false:=zX.mpr c17;clear c17;have H':=zh H;clear H;have p16 : 0≤(x5_1 : Int):=zy (by first|(with_reducible assumption)|assumption);have q16 : x5_1<(a0.size : Int):=zy (by first|(with_reducible assumption)|assumption);have hx16:=bt_at a0 x5_1;replace p16:=eq_true p16;replace q16:=eq_true q16
             go_wp2
             go_meet
             case rel => exact ⟨_,((t101 == 0)),(by first|rfl|(simp;done)|(simp [*];done)),H',⟨by have:=HK1.out;have:=HJ2.out;first|omega|exact ye _⟩,⟨by repeat (with_reducible first|exact HB.out|apply za|apply zb|apply zc)⟩⟩
            rw [if_neg c17] at H;have c17b0 : ((bt a0 x5_1) == 1)=false:=zY.mpr c17;have c17b1 : ((bt a0 x5_1) != 1)=true:=zZ.mpr c17;have H':=zh H;clear H;have p16 : 0≤(x5_1 : Int):=zy (by first|(with_reducible assumption)|assumption);have q16 : x5_1<(a0.size : Int):=zy (by first|(with_reducible assumption)|assumption);have hx16:=bt_at a0 x5_1;replace p16:=eq_true p16;replace q16:=eq_true q16
            go_wp2
            go_meet
            case rel => exact ⟨_,(true),(by first|rfl|(simp;done)|(simp [*];done)),H',⟨by have:=HK1.out;have:=HJ2.out;first|omega|exact ye _⟩,⟨by repeat (with_reducible first|exact HB.out|apply za|apply zb|apply zc)⟩⟩
           rw [if_neg c15] at H;exact absurd H (by simp)
          rw [if_neg c14] at H;exact absurd H (by simp)
         case rest =>
          clear HC13
          try clear c1
          try clear p1
          try clear q1
          try clear hx1
          try clear p2
          try clear c4
          try clear c4b0
          try clear c5
          try clear c5b0
          try clear p6
          try clear q6
          try clear hx6
          try clear c7
          try clear c8
          try clear c10
          try clear c10b0
          try clear c10b1
          try clear c11
          try clear c11b0
          try clear c11b1
          try clear c14
          try clear c14b0
          try clear c15
          try clear c15b0
          try clear p16
          try clear q16
          try clear hx16
          try clear c17
          try clear c17b0
          try clear c17b1
          try clear p16
          try clear p2
          try clear p6
          try clear q16
          try clear q6
          obtain ⟨kq,x31_12,rfl,HA,HJ12,HB⟩:=hcut
          cases kq with
          | zero => exact absurd HA.out (by simp [spec_l04Many.j2])
          | succ kj12 =>
           have H:=HA.out;clear HA;simp only [spec_l04Many.j2] at H
           by_cases c18 : x31_12=true
           ·
            subst c18
            have H1 : (some 0)=some r:=by rw [if_pos rfl] at H;exact H
            clear H;have H:=H1;clear H1;obtain rfl:=zU H
            go_wp2
            go_ret
            exact ⟨by first|rfl|(simp [yt,yu] <;> rfl)|(simp only [← hji9];first|rfl|(simp [yt,yu] <;> rfl))|(simp [*,yt,yu] <;> rfl),by repeat (with_reducible first|exact HB.out|apply za|apply zb|apply zc)⟩
           replace c18:=yb.mpr c18;subst c18;have H1 : (if 0≤(wrap64 (x5_1 + (wrap64 (1 + t101)))) then (if (wrap64 (x5_1 + (wrap64 (1 + t101))))≤(a0.size : Int) then ((G (a0.extract ((wrap64 (x5_1 + (wrap64 (1 + t101)))) : Int).toNat a0.size)).bind fun t102 => (if t102=0 then (some 0) else (spec_l04Many.l0 G kj12 a0 true (wrap64 ((wrap64 (x5_1 + (wrap64 (1 + t101)))) + t102))))) else (none)) else (none))=some r:=by rw [if_neg (show ¬ (false=true) by decide)] at H;exact H
           clear H;have H:=H1;clear H1;obtain ⟨ji19,hji19⟩ : ∃ j_ : Int,(wrap64 (x5_1 + (wrap64 (1 + t101))))=j_:=⟨_,rfl⟩;replace H : (if 0≤(ji19) then (if (ji19)≤(a0.size : Int) then ((G (a0.extract ((ji19) : Int).toNat a0.size)).bind fun t102 => (if t102=0 then (some 0) else (spec_l04Many.l0 G kj12 a0 true (wrap64 ((ji19) + t102))))) else (none)) else (none))=some r:=by first|(rw [hji19] at H;exact H)|(simp only [hji19] at H ⊢;exact H)
           have hji19w : (IntKind.i64.wrap (x5_1 + (wrap64 (1 + t101))))=ji19:=(zG _).trans hji19
           by_cases c20 : 0≤(ji19)
           ·
            rw [if_pos c20] at H
            have c20b0:=eq_true c20;have c20b1 : decide (0≤(ji19))=true:=decide_eq_true c20;clear c20
            by_cases c21 : (ji19)≤(a0.size : Int)
            ·
             rw [if_pos c21] at H
             have c21b0:=eq_true c21;have c21b1 : decide ((ji19)≤(a0.size : Int))=true:=decide_eq_true c21;clear c21;replace H:=zT.mp H;obtain ⟨t102,A220,H⟩:=H;replace H : (if t102=0 then (some 0) else (spec_l04Many.l0 G kj12 a0 true (wrap64 ((ji19) + t102))))=some r:=H;have A22:=zh A220;clear A220
             by_cases c23 : t102=0
             ·
              rw [if_pos c23] at H
              have c23b0 : (t102 == 0)=true:=ya.mpr c23;have c23b1 : (t102 != 0)=false:=zX.mpr c23;clear c23;obtain rfl:=zU H
              go_wp2_with (first|((with_reducible refine zJ (f:=28) rfl ?_);refine yj (some 39) rfl rfl Try.func28 (by kernel_rfl) rfl #[.string (a0.extract ((ji19) : Int).toNat a0.size)] rfl (by (try simp only [zt,zu,zv]);first|done|(simp only [hji19];rfl)|rfl|(simp only [zw,zx];rfl)|(simp only [yr,ys,zV,zW];rfl)) ?_;(with_reducible refine (hG (a0.extract ((ji19) : Int).toNat a0.size) t102 _ A22.out).mono ?_);rintro e w24 ⟨rfl,hb⟩;refine ⟨_,rfl,?_⟩;replace HB:=zh (zC (by repeat (with_reducible first|exact HB.out|apply za|apply zb|apply zc)) hb);(try clear hb);(try clear hb2);(try clear hk);(try clear hi)))
              go_ret
              exact ⟨by first|rfl|(simp [yt,yu] <;> rfl)|(simp only [← hji9,← hji19];first|rfl|(simp [yt,yu] <;> rfl))|(simp [*,yt,yu] <;> rfl),by repeat (with_reducible first|exact HB.out|apply za|apply zb|apply zc)⟩
             rw [if_neg c23] at H;have c23b0 : (t102 == 0)=false:=zY.mpr c23;have c23b1 : (t102 != 0)=true:=zZ.mpr c23;have H':=zh H;clear H
             go_wp2_with (first|((with_reducible refine zJ (f:=28) rfl ?_);refine yj (some 39) rfl rfl Try.func28 (by kernel_rfl) rfl #[.string (a0.extract ((ji19) : Int).toNat a0.size)] rfl (by (try simp only [zt,zu,zv]);first|done|(simp only [hji19];rfl)|rfl|(simp only [zw,zx];rfl)|(simp only [yr,ys,zV,zW];rfl)) ?_;(with_reducible refine (hG (a0.extract ((ji19) : Int).toNat a0.size) t102 _ A22.out).mono ?_);rintro e w25 ⟨rfl,hb⟩;refine ⟨_,rfl,?_⟩;replace HB:=zh (zC (by repeat (with_reducible first|exact HB.out|apply za|apply zb|apply zc)) hb);(try clear hb);(try clear hb2);(try clear hk);(try clear hi)))
             go_roundg kj12
             case measure => have:=HK1.out;have:=HJ2.out;have:=HJ12.out;omega
             case rel => exact ⟨(wrap64 ((ji19) + t102)),(by first|rfl|(simp;done)|(simp only [← hji19] <;> (first|rfl|simp))|(simp [*];done)),H',⟨by have:=HK1.out;have:=HJ2.out;have:=HJ12.out;omega⟩,⟨by repeat (with_reducible first|exact HB.out|apply za|apply zb|apply zc)⟩⟩
            rw [if_neg c21] at H;exact absurd H (by simp)
           rw [if_neg c20] at H;exact absurd H (by simp)
        rw [if_neg c11] at H;exact absurd H (by simp)
       rw [if_neg c10] at H;exact absurd H (by simp)
      replace c8:=yb.mpr c8;subst c8;have H1 : (if 0≤x5_1 then (if x5_1≤(a0.size : Int) then ((G (a0.extract (x5_1 : Int).toNat a0.size)).bind fun t103 => (if t103=0 then (some 0) else (spec_l04Many.l0 G kj2 a0 false (wrap64 (x5_1 + t103))))) else (none)) else (none))=some r:=by rw [if_neg (show ¬ (false=true) by decide)] at H;exact H
      clear H;have H:=H1;clear H1
      by_cases c26 : 0≤x5_1
      ·
       rw [if_pos c26] at H
       have c26b0:=eq_true c26;have c26b1 : decide (0≤x5_1)=true:=decide_eq_true c26;clear c26
       by_cases c27 : x5_1≤(a0.size : Int)
       ·
        rw [if_pos c27] at H
        have c27b0:=eq_true c27;have c27b1 : decide (x5_1≤(a0.size : Int))=true:=decide_eq_true c27;clear c27;replace H:=zT.mp H;obtain ⟨t103,A280,H⟩:=H;replace H : (if t103=0 then (some 0) else (spec_l04Many.l0 G kj2 a0 false (wrap64 (x5_1 + t103))))=some r:=H;have A28:=zh A280;clear A280
        by_cases c29 : t103=0
        ·
         rw [if_pos c29] at H
         have c29b0 : (t103 == 0)=true:=ya.mpr c29;have c29b1 : (t103 != 0)=false:=zX.mpr c29;clear c29;obtain rfl:=zU H
         go_wp2_with (first|((with_reducible refine zJ (f:=28) rfl ?_);refine yj (some 39) rfl rfl Try.func28 (by kernel_rfl) rfl #[.string (a0.extract (x5_1 : Int).toNat a0.size)] rfl (by (try simp only [zt,zu,zv]);first|done|rfl|(simp only [zw,zx];rfl)|(simp only [yr,ys,zV,zW];rfl)) ?_;(with_reducible refine (hG (a0.extract (x5_1 : Int).toNat a0.size) t103 _ A28.out).mono ?_);rintro e w30 ⟨rfl,hb⟩;refine ⟨_,rfl,?_⟩;replace HB:=zh (zC (by repeat (with_reducible first|exact HB.out|apply za|apply zb|apply zc)) hb);(try clear hb);(try clear hb2);(try clear hk);(try clear hi)))
         go_ret
         exact ⟨by first|rfl|(simp [yt,yu] <;> rfl)|(simp [*,yt,yu] <;> rfl),by repeat (with_reducible first|exact HB.out|apply za|apply zb|apply zc)⟩
        rw [if_neg c29] at H;have c29b0 : (t103 == 0)=false:=zY.mpr c29;have c29b1 : (t103 != 0)=true:=zZ.mpr c29;have H':=zh H;clear H
        go_wp2_with (first|((with_reducible refine zJ (f:=28) rfl ?_);refine yj (some 39) rfl rfl Try.func28 (by kernel_rfl) rfl #[.string (a0.extract (x5_1 : Int).toNat a0.size)] rfl (by (try simp only [zt,zu,zv]);first|done|rfl|(simp only [zw,zx];rfl)|(simp only [yr,ys,zV,zW];rfl)) ?_;(with_reducible refine (hG (a0.extract (x5_1 : Int).toNat a0.size) t103 _ A28.out).mono ?_);rintro e w31 ⟨rfl,hb⟩;refine ⟨_,rfl,?_⟩;replace HB:=zh (zC (by repeat (with_reducible first|exact HB.out|apply za|apply zb|apply zc)) hb);(try clear hb);(try clear hb2);(try clear hk);(try clear hi)))
        go_roundg kj2
        case measure => have:=HK1.out;have:=HJ2.out;omega
        case rel => exact ⟨(wrap64 (x5_1 + t103)),(by first|rfl|(simp;done)|(simp [*];done)),H',⟨by have:=HK1.out;have:=HJ2.out;omega⟩,⟨by repeat (with_reducible first|exact HB.out|apply za|apply zb|apply zc)⟩⟩
       rw [if_neg c27] at H;exact absurd H (by simp)
      rw [if_neg c26] at H;exact absurd H (by simp)
     replace c7:=yb.mpr c7;subst c7;have H1 : (if x5_1 ≥ (a0.size : Int) then (some 0) else (some (wrap64 (x5_1 + 1))))=some r:=by rw [if_neg (show ¬ (false=true) by decide)] at H;exact H
     clear H;have H:=H1;clear H1
     by_cases c32 : x5_1 ≥ (a0.size : Int)
     ·
      rw [if_pos c32] at H
      have c32b0 : decide ((a0.size : Int)≤x5_1)=true:=decide_eq_true c32;clear c32;obtain rfl:=zU H
      go_wp2
      go_ret
      exact ⟨by first|rfl|(simp [yt,yu] <;> rfl)|(simp [*,yt,yu] <;> rfl),by repeat (with_reducible first|exact HB.out|apply za|apply zb|apply zc)⟩
     rw [if_neg c32] at H;have c32b0 : decide ((a0.size : Int)≤x5_1)=false:=decide_eq_false c32;clear c32;obtain rfl:=zU H
     go_wp2
     go_ret
     exact ⟨by first|rfl|(simp [yt,yu] <;> rfl)|(simp [*,yt,yu] <;> rfl),by repeat (with_reducible first|exact HB.out|apply za|apply zb|apply zc)⟩

end Go.Proofs.Ytlljfjpdflcjlaa.Q
end
section
namespace Go.Proofs.Ytlljfjpdflcjlaa.Q
open Go.RowKit Go.Proofs.YtlljfjpdflcjlaaW.PrintWords Go.Proofs.YtlljfjpdflcjlaaW.PrintLast Go.Proofs.YtlljfjpdflcjlaaW.PrintMore
attribute [local go_sem] max2_int min2_int max_two min_two max_three min_three max_four min_four max2_str min2_str str_geq str_gtr str_leq   -- for this text's walks alone
set_option linter.unusedVariables false
set_option linter.unusedSimpArgs false

def spec_l04Length.f : Nat→ByteArray→Option (Int)
 | 0,_ => none
 | k + 1,a0 => if (a0.size : Int)=0 then (some 0) else (if 0<(a0.size : Int) then (if (bt a0 0)=1 then (some 1) else (if (bt a0 0)=2 then (if 2 > (a0.size : Int) then (some 0) else (some 2)) else (if (bt a0 0)=3 then (if 9 > (a0.size : Int) then (some 0) else (some 9)) else (if (bt a0 0)=4 then (if 1≤(a0.size : Int) then ((spec_l04Text.f k (a0.extract 1 a0.size)).bind fun t104 => (if (wrap64 (1 + t104))=1 then (some 0) else (if (wrap64 (1 + t104)) > (a0.size : Int) then (some 0) else (some (wrap64 (1 + t104)))))) else (none)) else (if (bt a0 0)=5 then ((spec_l04Many.f k (spec_l04Length.f k) a0 false).bind fun t105 => (some t105)) else (if (bt a0 0)=6 then ((spec_l04Many.f k (spec_l04Length.f k) a0 true).bind fun t106 => (some t106)) else (if 0 > (a0.size : Int) then (some 0) else (some 0)))))))) else (none))
theorem spec_l04Length.mono_l : ∀ k,(∀ y0,LeO (spec_l04Length.f k y0) (spec_l04Length.f (k + 1) y0))
 | 0 => fun _ r h => by simp [spec_l04Length.f] at h
 | k + 1 => by
  have ih0:=spec_l04Length.mono_l k;intro y0;unfold spec_l04Length.f
  repeat' first|(with_reducible exact ih0 _)|(with_reducible exact spec_l04Text.mono _ _)|(with_reducible exact spec_l04Many.mono _ _ ih0 _ _ _)|(with_reducible exact zQ _)|(with_reducible exact zN _)|(with_reducible refine zP ?_ ?_)|(with_reducible refine zO ?_ (fun _ => ?_))|refine zP ?_ ?_|refine zO ?_ (fun _ => ?_)
theorem spec_l04Length.mono : ∀ a0 k,LeO (spec_l04Length.f k a0) (spec_l04Length.f (k + 1) a0):=by
 intro a0 k;have ih0:=spec_l04Length.mono_l k;exact ih0 a0
set_option maxHeartbeats 8000000 in
set_option maxRecDepth 100000 in
theorem spec_l04Length.calls (k : Nat) : ∀ (a0 : ByteArray) (r : Int) (w : World) (h : spec_l04Length.f k a0=some r),
  Calls Try.prog 28 #[.string a0] w fun e w' => e = .returned (.int .i64 r)∧Below w.heap.size w w':=by
 induction k using Nat.strongRecOn with
 | _ k ih =>
 intro a0 r w h
 cases k with
 | zero => exact absurd h (by simp [spec_l04Length.f])
 | succ k =>
 simp only [spec_l04Length.f] at h;have HB:=zh (Below.refl w.heap.size w);have H : (if (a0.size : Int)=0 then (some 0) else (if 0<(a0.size : Int) then (if (bt a0 0)=1 then (some 1) else (if (bt a0 0)=2 then (if 2 > (a0.size : Int) then (some 0) else (some 2)) else (if (bt a0 0)=3 then (if 9 > (a0.size : Int) then (some 0) else (some 9)) else (if (bt a0 0)=4 then (if 1≤(a0.size : Int) then ((spec_l04Text.f k (a0.extract 1 a0.size)).bind fun t104 => (if (wrap64 (1 + t104))=1 then (some 0) else (if (wrap64 (1 + t104)) > (a0.size : Int) then (some 0) else (some (wrap64 (1 + t104)))))) else (none)) else (if (bt a0 0)=5 then ((spec_l04Many.f k (spec_l04Length.f k) a0 false).bind fun t105 => (some t105)) else (if (bt a0 0)=6 then ((spec_l04Many.f k (spec_l04Length.f k) a0 true).bind fun t106 => (some t106)) else (if 0 > (a0.size : Int) then (some 0) else (some 0)))))))) else (none)))=some r:=h;clear h
 by_cases c2 : (a0.size : Int)=0
 ·
  rw [if_pos c2] at H
  have c2b0 : ((a0.size : Int) == 0)=true:=ya.mpr c2;have c2b1 : ((a0.size : Int) != 0)=false:=zX.mpr c2;clear c2;obtain rfl:=zU H
  go_enter Try.func28,Try.ntmps28
  go_wp2
  go_ret
  exact ⟨by first|rfl|(simp [yt,yu] <;> rfl)|(simp [*,yt,yu] <;> rfl),by repeat (with_reducible first|exact HB.out|apply za|apply zb|apply zc)⟩
 rw [if_neg c2] at H;have c2b0 : ((a0.size : Int) == 0)=false:=zY.mpr c2;have c2b1 : ((a0.size : Int) != 0)=true:=zZ.mpr c2
 by_cases c3 : 0<(a0.size : Int)
 ·
  rw [if_pos c3] at H
  have c3b0 : decide (0<(a0.size : Int))=true:=decide_eq_true c3;have c3b1 : decide (0<a0.size)=true:=decide_eq_true (by omega);clear c3
  by_cases c5 : (bt a0 0)=1
  ·
   rw [if_pos c5] at H
   have c5b0 : ((bt a0 0) == 1)=true:=ya.mpr c5;have c5b1 : ((bt a0 0) != 1)=false:=zX.mpr c5;clear c5;obtain rfl:=zU H;have p4 : 0≤(0 : Int):=(by omega);have q4 : 0<a0.size:=(by have : (0 : Int)<(a0.size : Int):=zy (by first|(with_reducible assumption)|assumption);omega);have hx4 : ∀ h : 0<a0.size,((a0[0]'h).toNat : Int)=bt a0 0:=bt_at a0 0;clear p4;have qi4 : (0<(a0.size : Int))=True:=eq_true (zy (by first|(with_reducible assumption)|assumption));replace q4:=eq_true q4
   go_enter Try.func28,Try.ntmps28
   go_wp2
   go_ret
   exact ⟨by first|rfl|(simp [yt,yu] <;> rfl)|(simp [*,yt,yu] <;> rfl),by repeat (with_reducible first|exact HB.out|apply za|apply zb|apply zc)⟩
  rw [if_neg c5] at H;have c5b0 : ((bt a0 0) == 1)=false:=zY.mpr c5;have c5b1 : ((bt a0 0) != 1)=true:=zZ.mpr c5
  by_cases c6 : (bt a0 0)=2
  ·
   rw [if_pos c6] at H
   have c6b0 : ((bt a0 0) == 2)=true:=ya.mpr c6;have c6b1 : ((bt a0 0) != 2)=false:=zX.mpr c6;clear c6
   by_cases c7 : 2 > (a0.size : Int)
   ·
    rw [if_pos c7] at H
    have c7b0 : decide ((a0.size : Int)<2)=true:=decide_eq_true c7;have c7b1 : decide (a0.size<2)=true:=decide_eq_true (by omega);clear c7;obtain rfl:=zU H;have p4 : 0≤(0 : Int):=(by omega);have q4 : 0<a0.size:=(by have : (0 : Int)<(a0.size : Int):=zy (by first|(with_reducible assumption)|assumption);omega);have hx4 : ∀ h : 0<a0.size,((a0[0]'h).toNat : Int)=bt a0 0:=bt_at a0 0;clear p4;have qi4 : (0<(a0.size : Int))=True:=eq_true (zy (by first|(with_reducible assumption)|assumption));replace q4:=eq_true q4
    go_enter Try.func28,Try.ntmps28
    go_wp2
    go_ret
    exact ⟨by first|rfl|(simp [yt,yu] <;> rfl)|(simp [*,yt,yu] <;> rfl),by repeat (with_reducible first|exact HB.out|apply za|apply zb|apply zc)⟩
   rw [if_neg c7] at H;have c7b0 : decide ((a0.size : Int)<2)=false:=decide_eq_false c7;have c7b1 : decide (a0.size<2)=false:=decide_eq_false (by omega);clear c7;obtain rfl:=zU H;have p4 : 0≤(0 : Int):=(by omega);have q4 : 0<a0.size:=(by have : (0 : Int)<(a0.size : Int):=zy (by first|(with_reducible assumption)|assumption);omega);have hx4 : ∀ h : 0<a0.size,((a0[0]'h).toNat : Int)=bt a0 0:=bt_at a0 0;clear p4;have qi4 : (0<(a0.size : Int))=True:=eq_true (zy (by first|(with_reducible assumption)|assumption));replace q4:=eq_true q4
   go_enter Try.func28,Try.ntmps28
   go_wp2
   go_ret
   exact ⟨by first|rfl|(simp [yt,yu] <;> rfl)|(simp [*,yt,yu] <;> rfl),by repeat (with_reducible first|exact HB.out|apply za|apply zb|apply zc)⟩
  rw [if_neg c6] at H;have c6b0 : ((bt a0 0) == 2)=false:=zY.mpr c6;have c6b1 : ((bt a0 0) != 2)=true:=zZ.mpr c6
  by_cases c8 : (bt a0 0)=3
  ·
   rw [if_pos c8] at H
   have c8b0 : ((bt a0 0) == 3)=true:=ya.mpr c8;have c8b1 : ((bt a0 0) != 3)=false:=zX.mpr c8;clear c8
   by_cases c9 : 9 > (a0.size : Int)
   ·
    rw [if_pos c9] at H
    have c9b0 : decide ((a0.size : Int)<9)=true:=decide_eq_true c9;have c9b1 : decide (a0.size<9)=true:=decide_eq_true (by omega);clear c9;obtain rfl:=zU H;have p4 : 0≤(0 : Int):=(by omega);have q4 : 0<a0.size:=(by have : (0 : Int)<(a0.size : Int):=zy (by first|(with_reducible assumption)|assumption);omega);have hx4 : ∀ h : 0<a0.size,((a0[0]'h).toNat : Int)=bt a0 0:=bt_at a0 0;clear p4;have qi4 : (0<(a0.size : Int))=True:=eq_true (zy (by first|(with_reducible assumption)|assumption));replace q4:=eq_true q4
    go_enter Try.func28,Try.ntmps28
    go_wp2
    go_ret
    exact ⟨by first|rfl|(simp [yt,yu] <;> rfl)|(simp [*,yt,yu] <;> rfl),by repeat (with_reducible first|exact HB.out|apply za|apply zb|apply zc)⟩
   rw [if_neg c9] at H;have c9b0 : decide ((a0.size : Int)<9)=false:=decide_eq_false c9;have c9b1 : decide (a0.size<9)=false:=decide_eq_false (by omega);clear c9;obtain rfl:=zU H;have p4 : 0≤(0 : Int):=(by omega);have q4 : 0<a0.size:=(by have : (0 : Int)<(a0.size : Int):=zy (by first|(with_reducible assumption)|assumption);omega);have hx4 : ∀ h : 0<a0.size,((a0[0]'h).toNat : Int)=bt a0 0:=bt_at a0 0;clear p4;have qi4 : (0<(a0.size : Int))=True:=eq_true (zy (by first|(with_reducible assumption)|assumption));replace q4:=eq_true q4
   go_enter Try.func28,Try.ntmps28
   go_wp2
   go_ret
   exact ⟨by first|rfl|(simp [yt,yu] <;> rfl)|(simp [*,yt,yu] <;> rfl),by repeat (with_reducible first|exact HB.out|apply za|apply zb|apply zc)⟩
  rw [if_neg c8] at H;have c8b0 : ((bt a0 0) == 3)=false:=zY.mpr c8;have c8b1 : ((bt a0 0) != 3)=true:=zZ.mpr c8
  by_cases c10 : (bt a0 0)=4
  ·
   rw [if_pos c10] at H
   have c10b0 : ((bt a0 0) == 4)=true:=ya.mpr c10;have c10b1 : ((bt a0 0) != 4)=false:=zX.mpr c10;clear c10
   by_cases c11 : 1≤(a0.size : Int)
   ·
    rw [if_pos c11] at H
    have c11b0:=eq_true c11;have c11b1 : decide (1≤(a0.size : Int))=true:=decide_eq_true c11;clear c11;replace H:=zT.mp H;obtain ⟨t104,A120,H⟩:=H;replace H : (if (wrap64 (1 + t104))=1 then (some 0) else (if (wrap64 (1 + t104)) > (a0.size : Int) then (some 0) else (some (wrap64 (1 + t104)))))=some r:=H;have A12:=zh A120;clear A120
    by_cases c13 : (wrap64 (1 + t104))=1
    ·
     rw [if_pos c13] at H
     have c13b0 : ((wrap64 (1 + t104)) == 1)=true:=ya.mpr c13;have c13b1 : ((wrap64 (1 + t104)) != 1)=false:=zX.mpr c13;clear c13;obtain rfl:=zU H;have p4 : 0≤(0 : Int):=(by omega);have q4 : 0<a0.size:=(by have : (0 : Int)<(a0.size : Int):=zy (by first|(with_reducible assumption)|assumption);omega);have hx4 : ∀ h : 0<a0.size,((a0[0]'h).toNat : Int)=bt a0 0:=bt_at a0 0;clear p4;have qi4 : (0<(a0.size : Int))=True:=eq_true (zy (by first|(with_reducible assumption)|assumption));replace q4:=eq_true q4
     go_enter Try.func28,Try.ntmps28
     go_wp2_with (first|((with_reducible refine zJ (f:=51) rfl ?_);refine yj (some 19) rfl rfl Try.func51 (by kernel_rfl) rfl #[.string (a0.extract 1 a0.size)] rfl (by (try simp only [zt,zu,zv]);first|done|rfl|(simp only [zw,zx];rfl)|(simp only [yr,ys,zV,zW];rfl)) ?_;(with_reducible refine (spec_l04Text.calls k  (a0.extract 1 a0.size) t104 _ A12.out).mono ?_);rintro e w' ⟨rfl,⟨nd,rfl⟩⟩;refine ⟨_,rfl,?_⟩))
     go_ret
     exact ⟨by first|rfl|(simp [yt,yu] <;> rfl)|(simp [*,yt,yu] <;> rfl),by repeat (with_reducible first|exact HB.out|apply za|apply zb|apply zc)⟩
    rw [if_neg c13] at H;have c13b0 : ((wrap64 (1 + t104)) == 1)=false:=zY.mpr c13;have c13b1 : ((wrap64 (1 + t104)) != 1)=true:=zZ.mpr c13
    by_cases c14 : (wrap64 (1 + t104)) > (a0.size : Int)
    ·
     rw [if_pos c14] at H
     have c14b0 : decide ((a0.size : Int)<(wrap64 (1 + t104)))=true:=decide_eq_true c14;clear c14;obtain rfl:=zU H;have p4 : 0≤(0 : Int):=(by omega);have q4 : 0<a0.size:=(by have : (0 : Int)<(a0.size : Int):=zy (by first|(with_reducible assumption)|assumption);omega);have hx4 : ∀ h : 0<a0.size,((a0[0]'h).toNat : Int)=bt a0 0:=bt_at a0 0;clear p4;have qi4 : (0<(a0.size : Int))=True:=eq_true (zy (by first|(with_reducible assumption)|assumption));replace q4:=eq_true q4
     go_enter Try.func28,Try.ntmps28
     go_wp2_with (first|((with_reducible refine zJ (f:=51) rfl ?_);refine yj (some 19) rfl rfl Try.func51 (by kernel_rfl) rfl #[.string (a0.extract 1 a0.size)] rfl (by (try simp only [zt,zu,zv]);first|done|rfl|(simp only [zw,zx];rfl)|(simp only [yr,ys,zV,zW];rfl)) ?_;(with_reducible refine (spec_l04Text.calls k  (a0.extract 1 a0.size) t104 _ A12.out).mono ?_);rintro e w' ⟨rfl,⟨nd,rfl⟩⟩;refine ⟨_,rfl,?_⟩))
     go_ret
     exact ⟨by first|rfl|(simp [yt,yu] <;> rfl)|(simp [*,yt,yu] <;> rfl),by repeat (with_reducible first|exact HB.out|apply za|apply zb|apply zc)⟩
    rw [if_neg c14] at H;have c14b0 : decide ((a0.size : Int)<(wrap64 (1 + t104)))=false:=decide_eq_false c14;clear c14;obtain rfl:=zU H;have p4 : 0≤(0 : Int):=(by omega);have q4 : 0<a0.size:=(by have : (0 : Int)<(a0.size : Int):=zy (by first|(with_reducible assumption)|assumption);omega);have hx4 : ∀ h : 0<a0.size,((a0[0]'h).toNat : Int)=bt a0 0:=bt_at a0 0;clear p4;have qi4 : (0<(a0.size : Int))=True:=eq_true (zy (by first|(with_reducible assumption)|assumption));replace q4:=eq_true q4
    go_enter Try.func28,Try.ntmps28
    go_wp2_with (first|((with_reducible refine zJ (f:=51) rfl ?_);refine yj (some 19) rfl rfl Try.func51 (by kernel_rfl) rfl #[.string (a0.extract 1 a0.size)] rfl (by (try simp only [zt,zu,zv]);first|done|rfl|(simp only [zw,zx];rfl)|(simp only [yr,ys,zV,zW];rfl)) ?_;(with_reducible refine (spec_l04Text.calls k  (a0.extract 1 a0.size) t104 _ A12.out).mono ?_);rintro e w' ⟨rfl,⟨nd,rfl⟩⟩;refine ⟨_,rfl,?_⟩))
    go_ret
    exact ⟨by first|rfl|(simp [yt,yu] <;> rfl)|(simp [*,yt,yu] <;> rfl),by repeat (with_reducible first|exact HB.out|apply za|apply zb|apply zc)⟩
   rw [if_neg c11] at H;exact absurd H (by simp)
  rw [if_neg c10] at H;have c10b0 : ((bt a0 0) == 4)=false:=zY.mpr c10;have c10b1 : ((bt a0 0) != 4)=true:=zZ.mpr c10
  by_cases c15 : (bt a0 0)=5
  ·
   rw [if_pos c15] at H
   have c15b0 : ((bt a0 0) == 5)=true:=ya.mpr c15;have c15b1 : ((bt a0 0) != 5)=false:=zX.mpr c15;clear c15;replace H:=zT.mp H;obtain ⟨t105,A160,H⟩:=H;replace H : (some t105)=some r:=H;have A16:=zh A160;clear A160;obtain rfl:=zU H;have p4 : 0≤(0 : Int):=(by omega);have q4 : 0<a0.size:=(by have : (0 : Int)<(a0.size : Int):=zy (by first|(with_reducible assumption)|assumption);omega);have hx4 : ∀ h : 0<a0.size,((a0[0]'h).toNat : Int)=bt a0 0:=bt_at a0 0;clear p4;have qi4 : (0<(a0.size : Int))=True:=eq_true (zy (by first|(with_reducible assumption)|assumption));replace q4:=eq_true q4
   go_enter Try.func28,Try.ntmps28
   go_wp2_with (first|((with_reducible refine zJ (f:=52) rfl ?_);refine yj (some 26) rfl rfl Try.func52 (by kernel_rfl) rfl #[.string a0,.bool false] rfl (by (try simp only [zt,zu,zv]);first|done|rfl|(simp only [zw,zx];rfl)|(simp only [yr,ys,zV,zW];rfl)) ?_;(with_reducible refine (spec_l04Many.calls k (spec_l04Length.f k) (ih k (by omega)) a0 false t105 _ A16.out).mono ?_);rintro e w17 ⟨rfl,hb⟩;refine ⟨_,rfl,?_⟩;replace HB:=zh (zC (by repeat (with_reducible first|exact HB.out|apply za|apply zb|apply zc)) hb);(try clear hb);(try clear hb2);(try clear hk);(try clear hi)))
   go_ret
   exact ⟨by first|rfl|(simp [yt,yu] <;> rfl)|(simp [*,yt,yu] <;> rfl),by repeat (with_reducible first|exact HB.out|apply za|apply zb|apply zc)⟩
  rw [if_neg c15] at H;have c15b0 : ((bt a0 0) == 5)=false:=zY.mpr c15;have c15b1 : ((bt a0 0) != 5)=true:=zZ.mpr c15
  by_cases c18 : (bt a0 0)=6
  ·
   rw [if_pos c18] at H
   have c18b0 : ((bt a0 0) == 6)=true:=ya.mpr c18;have c18b1 : ((bt a0 0) != 6)=false:=zX.mpr c18;clear c18;replace H:=zT.mp H;obtain ⟨t106,A190,H⟩:=H;replace H : (some t106)=some r:=H;have A19:=zh A190;clear A190;obtain rfl:=zU H;have p4 : 0≤(0 : Int):=(by omega);have q4 : 0<a0.size:=(by have : (0 : Int)<(a0.size : Int):=zy (by first|(with_reducible assumption)|assumption);omega);have hx4 : ∀ h : 0<a0.size,((a0[0]'h).toNat : Int)=bt a0 0:=bt_at a0 0;clear p4;have qi4 : (0<(a0.size : Int))=True:=eq_true (zy (by first|(with_reducible assumption)|assumption));replace q4:=eq_true q4
   go_enter Try.func28,Try.ntmps28
   go_wp2_with (first|((with_reducible refine zJ (f:=52) rfl ?_);refine yj (some 30) rfl rfl Try.func52 (by kernel_rfl) rfl #[.string a0,.bool true] rfl (by (try simp only [zt,zu,zv]);first|done|rfl|(simp only [zw,zx];rfl)|(simp only [yr,ys,zV,zW];rfl)) ?_;(with_reducible refine (spec_l04Many.calls k (spec_l04Length.f k) (ih k (by omega)) a0 true t106 _ A19.out).mono ?_);rintro e w20 ⟨rfl,hb⟩;refine ⟨_,rfl,?_⟩;replace HB:=zh (zC (by repeat (with_reducible first|exact HB.out|apply za|apply zb|apply zc)) hb);(try clear hb);(try clear hb2);(try clear hk);(try clear hi)))
   go_ret
   exact ⟨by first|rfl|(simp [yt,yu] <;> rfl)|(simp [*,yt,yu] <;> rfl),by repeat (with_reducible first|exact HB.out|apply za|apply zb|apply zc)⟩
  rw [if_neg c18] at H;have c18b0 : ((bt a0 0) == 6)=false:=zY.mpr c18;have c18b1 : ((bt a0 0) != 6)=true:=zZ.mpr c18
  by_cases c21 : 0 > (a0.size : Int)
  ·
   rw [if_pos c21] at H
   have c21b0 : decide ((a0.size : Int)<0)=true:=decide_eq_true c21;have c21b1 : decide (a0.size<0)=true:=decide_eq_true (by omega);clear c21;obtain rfl:=zU H;have p4 : 0≤(0 : Int):=(by omega);have q4 : 0<a0.size:=(by have : (0 : Int)<(a0.size : Int):=zy (by first|(with_reducible assumption)|assumption);omega);have hx4 : ∀ h : 0<a0.size,((a0[0]'h).toNat : Int)=bt a0 0:=bt_at a0 0;clear p4;have qi4 : (0<(a0.size : Int))=True:=eq_true (zy (by first|(with_reducible assumption)|assumption));replace q4:=eq_true q4
   go_enter Try.func28,Try.ntmps28
   go_wp2
   go_ret
   exact ⟨by first|rfl|(simp [yt,yu] <;> rfl)|(simp [*,yt,yu] <;> rfl),by repeat (with_reducible first|exact HB.out|apply za|apply zb|apply zc)⟩
  rw [if_neg c21] at H;have c21b0 : decide ((a0.size : Int)<0)=false:=decide_eq_false c21;have c21b1 : decide (a0.size<0)=false:=decide_eq_false (by omega);clear c21;obtain rfl:=zU H;have p4 : 0≤(0 : Int):=(by omega);have q4 : 0<a0.size:=(by have : (0 : Int)<(a0.size : Int):=zy (by first|(with_reducible assumption)|assumption);omega);have hx4 : ∀ h : 0<a0.size,((a0[0]'h).toNat : Int)=bt a0 0:=bt_at a0 0;clear p4;have qi4 : (0<(a0.size : Int))=True:=eq_true (zy (by first|(with_reducible assumption)|assumption));replace q4:=eq_true q4
  go_enter Try.func28,Try.ntmps28
  go_wp2
  go_ret
  exact ⟨by first|rfl|(simp [yt,yu] <;> rfl)|(simp [*,yt,yu] <;> rfl),by repeat (with_reducible first|exact HB.out|apply za|apply zb|apply zc)⟩
 rw [if_neg c3] at H;exact absurd H (by simp)

end Go.Proofs.Ytlljfjpdflcjlaa.Q
end
section
namespace Go.Proofs.Ytlljfjpdflcjlaa.Q
open Go.RowKit Go.Proofs.YtlljfjpdflcjlaaW.PrintWords Go.Proofs.YtlljfjpdflcjlaaW.PrintLast Go.Proofs.YtlljfjpdflcjlaaW.PrintMore
attribute [local go_sem] max2_int min2_int max_two min_two max_three min_three max_four min_four max2_str min2_str str_geq str_gtr str_leq   -- for this text's walks alone
set_option linter.unusedVariables false
set_option linter.unusedSimpArgs false

def spec_SplitKey.l0 : Nat→ByteArray→Int→List ByteArray→Int→Option (List ByteArray×Int)
 | 0,_,_,_,_ => none
 | k + 1,x0,x1,x6,x7 => if x7<x1 then ((spec_l04Length.f k x0).bind fun t117 => (if t117=0 then (some ((([] : List ByteArray)),3)) else (if 0≤t117 then (if t117≤(x0.size : Int) then (if x6.length<8796093022208 then (spec_SplitKey.l0 k (x0.extract (t117 : Int).toNat x0.size) x1 (x6 ++ [x0.extract 0 (t117 : Int).toNat]) (wrap64 (x7 + 1))) else (none)) else (none)) else (none)))) else (if x0.toList=([] : List UInt8) then (some (x6,0)) else (some ((([] : List ByteArray)),3)))
def spec_SplitKey.f (k : Nat) (a0 : ByteArray) (a1 : Int) : Option (List ByteArray×Int):=if (a0.size : Int) > 65536 then (some ((([] : List ByteArray)),2)) else ((spec_l01In.f a1 0 8).bind fun t110 => (if t110=true then (spec_SplitKey.l0 k a0 a1 (([] : List ByteArray)) 0) else (some ((([] : List ByteArray)),4))))
theorem spec_SplitKey.mono_l : ∀ k,(∀ y0 y1 y2 y3,LeO (spec_SplitKey.l0 k y0 y1 y2 y3) (spec_SplitKey.l0 (k + 1) y0 y1 y2 y3))
 | 0 => fun _ _ _ _ r h => by simp [spec_SplitKey.l0] at h
 | k + 1 => by
  have ih0:=spec_SplitKey.mono_l k;intro y0 y1 y2 y3;unfold spec_SplitKey.l0
  repeat' first|(with_reducible exact ih0 _ _ _ _)|(with_reducible exact spec_l04Length.mono _ _)|(with_reducible exact zQ _)|(with_reducible exact zN _)|(with_reducible refine zP ?_ ?_)|(with_reducible refine zO ?_ (fun _ => ?_))|refine zP ?_ ?_|refine zO ?_ (fun _ => ?_)
theorem spec_SplitKey.mono : ∀ a0 a1 k,LeO (spec_SplitKey.f k a0 a1) (spec_SplitKey.f (k + 1) a0 a1):=by
 intro a0 a1 k;have ih0:=spec_SplitKey.mono_l k;unfold spec_SplitKey.f
 repeat' first|(with_reducible exact ih0 _ _ _ _)|(with_reducible exact spec_l04Length.mono _ _)|(with_reducible exact zQ _)|(with_reducible exact zN _)|(with_reducible refine zP ?_ ?_)|(with_reducible refine zO ?_ (fun _ => ?_))|refine zP ?_ ?_|refine zO ?_ (fun _ => ?_)
set_option maxHeartbeats 8000000 in
set_option maxRecDepth 100000 in
theorem spec_SplitKey.calls (k : Nat) (a0 : ByteArray) (a1 : Int) (r1 : List ByteArray) (r2 : Int) (w : World) (h : spec_SplitKey.f k a0 a1=some (r1,r2)) :
  Calls Try.prog 8 #[.string a0,.int .i64 a1] w fun e w' => ∃ v0_ : Value,e = .returned (.tuple #[v0_,.int .i64 r2])∧Kd.R Kd.string 9 w' w.heap.size (fun _ => True) v0_ r1∧Below w.heap.size w w':=by
 have HB:=zh (Below.refl w.heap.size w);have H : (if (a0.size : Int) > 65536 then (some ((([] : List ByteArray)),2)) else ((spec_l01In.f a1 0 8).bind fun t110 => (if t110=true then (spec_SplitKey.l0 k a0 a1 (([] : List ByteArray)) 0) else (some ((([] : List ByteArray)),4)))))=some (r1,r2):=h;clear h
 by_cases c3 : (a0.size : Int) > 65536
 ·
  rw [if_pos c3] at H
  have c3b0 : decide (65536<(a0.size : Int))=true:=decide_eq_true c3;have c3b1 : decide (65536<a0.size)=true:=decide_eq_true (by omega);clear c3;obtain ⟨y107,hy107⟩ : ∃ y_ : List ByteArray,y_=(([] : List ByteArray)):=⟨_,rfl⟩;replace H : (some (y107,2))=some (r1,r2):=by first|(rw [hy107];with_reducible exact H)|(have H2_:=(Option.bind_some _ _).symm.trans H;rw [hy107];with_reducible exact H2_)|(have H2_:=(Option.bind_some _ _).symm.trans H;with_reducible exact H2_)|with_reducible exact H|(rw [hy107];exact H)|exact H
  have Ny107:=zh hy107;clear hy107;simp only [Option.some.injEq,Prod.mk.injEq] at H;obtain ⟨rfl,rfl⟩:=H
  go_enter Try.func8,Try.ntmps8
  go_wp2_with (first|((with_reducible refine zK (N:=12) rfl ?_);refine Kd.R_lit Kd.string _ 9 ?hg (N:=12) ?hd (xs:=([] : List ByteArray)) (inner:=[]) (ok:=fun _ => True) (okp:=fun _ => True) ?hr ?hp (fun _ hk => hk) trivial (Below.refl _ _) (ye _) (by simp) ?_;(case hd => rfl);(case hg => rfl);(case hr => first|(go_simp;done)|(go_simp;rfl));(case hp => exact (Reps.none _ _));intro v108 w4 ho5 hb hg_ hnew_;clear hg_ hnew_;(first|rw [← Ny107.out] at ho5|(simp only [Int.reduceToNat] at ho5;rw [← Ny107.out] at ho5));have HO109:=zh (yy ho5 (zB (by repeat (with_reducible first|exact HB.out|apply za|apply zb|apply zc))));replace HB:=zh (zC (by repeat (with_reducible first|exact HB.out|apply za|apply zb|apply zc)) hb);clear hb ho5))
  go_ret2
  exact ⟨_,by first|rfl|(simp [yt,yu] <;> rfl)|(simp [*,yt,yu] <;> rfl),by (with_reducible repeat (first|apply zm|apply zn|apply zo));exact HO109.out,by repeat (with_reducible first|exact HB.out|apply za|apply zb|apply zc)⟩
 rw [if_neg c3] at H;have c3b0 : decide (65536<(a0.size : Int))=false:=decide_eq_false c3;have c3b1 : decide (65536<a0.size)=false:=decide_eq_false (by omega);clear c3;replace H:=zT.mp H;obtain ⟨t110,A60,H⟩:=H;replace H : (if t110=true then (spec_SplitKey.l0 k a0 a1 (([] : List ByteArray)) 0) else (some ((([] : List ByteArray)),4)))=some (r1,r2):=H;have A6:=zh A60;clear A60
 by_cases c7 : t110=true
 ·
  subst c7
  have H1 : (spec_SplitKey.l0 k a0 a1 (([] : List ByteArray)) 0)=some (r1,r2):=by rw [if_pos rfl] at H;exact H
  clear H;have H:=H1;clear H1;obtain ⟨y114,hy114⟩ : ∃ y_ : List ByteArray,y_=(([] : List ByteArray)):=⟨_,rfl⟩;replace H : (spec_SplitKey.l0 k a0 a1 y114 0)=some (r1,r2):=by first|(rw [hy114];with_reducible exact H)|(have H2_:=(Option.bind_some _ _).symm.trans H;rw [hy114];with_reducible exact H2_)|(have H2_:=(Option.bind_some _ _).symm.trans H;with_reducible exact H2_)|with_reducible exact H|(rw [hy114];exact H)|exact H
  have Ny114:=zh hy114;clear hy114;have H':=zh H;clear H
  go_enter Try.func8,Try.ntmps8
  go_wp2_with (first|((with_reducible refine zJ (f:=27) rfl ?_);refine yj (some 14) rfl rfl Try.func27 (by kernel_rfl) rfl #[.int .i64 a1,.int .i64 0,.int .i64 8] rfl (by (try simp only [zt,zu,zv]);first|done|rfl|(simp only [zw,zx];rfl)|(simp only [yr,ys,zV,zW];rfl)) ?_;(with_reducible refine (spec_l01In.calls  a1 0 8 true _ A6.out).mono ?_);rintro e w' ⟨rfl,⟨nd,rfl⟩⟩;refine ⟨_,rfl,?_⟩)|((with_reducible refine zK (N:=17) rfl ?_);refine Kd.R_lit Kd.string _ 9 ?hg (N:=17) ?hd (xs:=([] : List ByteArray)) (inner:=[]) (ok:=fun _ => True) (okp:=fun _ => True) ?hr ?hp (fun _ hk => hk) trivial (Below.refl _ _) (ye _) (by simp) ?_;(case hd => rfl);(case hg => rfl);(case hr => first|(go_simp;done)|(go_simp;rfl));(case hp => exact (Reps.none _ _));intro v115 w8 ho9 hb hg_ hnew_;clear hg_ hnew_;(first|rw [← Ny114.out] at ho9|(simp only [Int.reduceToNat] at ho9;rw [← Ny114.out] at ho9));have HO116:=zh (yy ho9 (zB (by repeat (with_reducible first|exact HB.out|apply za|apply zb|apply zc))));replace HB:=zh (zC (by repeat (with_reducible first|exact HB.out|apply za|apply zb|apply zc)) hb);clear hb ho9))
  go_loopg [0,6,7] k (fun kq v0 v6 v7 w' => ∃ (x0_1 : ByteArray) (x6_1 : List ByteArray) (x7_1 : Int),v0 = .string x0_1∧v7 = .int .i64 x7_1∧Aside0 (spec_SplitKey.l0 kq x0_1 a1 x6_1 x7_1=some (r1,r2))∧Aside0 (kq≤k)∧Aside0 (Kd.R Kd.string 9 w' w.heap.size (fun _ => True) v6 x6_1)∧Aside0 (Below w.heap.size w w'))
  case atStart => exact ⟨(a0),(y114),(0),(by first|rfl|(simp;done)|(simp [*];done)),(by first|rfl|(simp;done)|(simp [*];done)),H',⟨ye _⟩,⟨by (with_reducible repeat (first|apply zm|apply zn|apply zo));exact HO116.out⟩,⟨by repeat (with_reducible first|exact HB.out|apply za|apply zb|apply zc)⟩⟩
  case round =>
   clear H'
   try clear c2
   try clear p2
   try clear c3
   try clear c3b0
   try clear c3b1
   try clear c7
   try clear c8
   obtain ⟨x0_1,x6_1,x7_1,rfl,rfl,HA,HK1,HO_6,HB⟩:=hrel
   cases gk with
   | zero => exact absurd HA.out (by simp [spec_SplitKey.l0])
   | succ k1 =>
    have H:=HA.out;clear HA;simp only [spec_SplitKey.l0] at H
    by_cases c10 : x7_1<a1
    ·
     rw [if_pos c10] at H
     have c10b0 : decide (x7_1<a1)=true:=decide_eq_true c10;clear c10;replace H:=zT.mp H;obtain ⟨t117,A110,H⟩:=H;replace H : (if t117=0 then (some ((([] : List ByteArray)),3)) else (if 0≤t117 then (if t117≤(x0_1.size : Int) then (if x6_1.length<8796093022208 then (spec_SplitKey.l0 k1 (x0_1.extract (t117 : Int).toNat x0_1.size) a1 (x6_1 ++ [x0_1.extract 0 (t117 : Int).toNat]) (wrap64 (x7_1 + 1))) else (none)) else (none)) else (none)))=some (r1,r2):=H;have A11:=zh A110;clear A110
     by_cases c12 : t117=0
     ·
      rw [if_pos c12] at H
      have c12b0 : (t117 == 0)=true:=ya.mpr c12;have c12b1 : (t117 != 0)=false:=zX.mpr c12;clear c12;obtain ⟨y118,hy118⟩ : ∃ y_ : List ByteArray,y_=(([] : List ByteArray)):=⟨_,rfl⟩;replace H : (some (y118,3))=some (r1,r2):=by first|(rw [hy118];with_reducible exact H)|(have H2_:=(Option.bind_some _ _).symm.trans H;rw [hy118];with_reducible exact H2_)|(have H2_:=(Option.bind_some _ _).symm.trans H;with_reducible exact H2_)|with_reducible exact H|(rw [hy118];exact H)|exact H
      have Ny118:=zh hy118;clear hy118;simp only [Option.some.injEq,Prod.mk.injEq] at H;obtain ⟨rfl,rfl⟩:=H
      go_wp2_with (first|((with_reducible refine zJ (f:=28) rfl ?_);refine yj (some 24) rfl rfl Try.func28 (by kernel_rfl) rfl #[.string x0_1] rfl (by (try simp only [zt,zu,zv]);first|done|rfl|(simp only [zw,zx];rfl)|(simp only [yr,ys,zV,zW];rfl)) ?_;(with_reducible refine (spec_l04Length.calls k1  x0_1 t117 _ A11.out).mono ?_);rintro e w13 ⟨rfl,hb⟩;refine ⟨_,rfl,?_⟩;replace HO_6:=zh (yg (by (with_reducible repeat (first|apply zm|apply zn|apply zo));exact HO_6.out) hb);replace HB:=zh (zC (by repeat (with_reducible first|exact HB.out|apply za|apply zb|apply zc)) hb);(try clear hb);(try clear hb2);(try clear hk);(try clear hi))|((with_reducible refine zK (N:=27) rfl ?_);refine Kd.R_lit Kd.string _ 9 ?hg (N:=27) ?hd (xs:=([] : List ByteArray)) (inner:=[]) (ok:=fun _ => True) (okp:=fun _ => True) ?hr ?hp (fun _ hk => hk) trivial (Below.refl _ _) (ye _) (by simp) ?_;(case hd => rfl);(case hg => rfl);(case hr => first|(go_simp;done)|(go_simp;rfl));(case hp => exact (Reps.none _ _));intro v119 w14 ho15 hb hg_ hnew_;clear hg_ hnew_;(first|rw [← Ny118.out] at ho15|(simp only [Int.reduceToNat] at ho15;rw [← Ny118.out] at ho15));have HO120:=zh (yy (Kd.R_new' ho15 (Kd.R_lt (by (with_reducible repeat (first|apply zm|apply zn|apply zo));exact HO_6.out))) (zB (by repeat (with_reducible first|exact HB.out|apply za|apply zb|apply zc))));replace HO_6:=zh (Kd.R_elder' (by (with_reducible repeat (first|apply zm|apply zn|apply zo));exact HO_6.out) (Kd.R_base ho15) hb);replace HB:=zh (zC (by repeat (with_reducible first|exact HB.out|apply za|apply zb|apply zc)) hb);clear hb ho15))
      go_ret2
      exact ⟨_,by first|rfl|(simp [yt,yu] <;> rfl)|(simp [*,yt,yu] <;> rfl),by (with_reducible repeat (first|apply zm|apply zn|apply zo));exact zM HO120.out (fun _ hk => trivial),by repeat (with_reducible first|exact HB.out|apply za|apply zb|apply zc)⟩
     rw [if_neg c12] at H;have c12b0 : (t117 == 0)=false:=zY.mpr c12;have c12b1 : (t117 != 0)=true:=zZ.mpr c12
     by_cases c16 : 0≤t117
     ·
      rw [if_pos c16] at H
      have c16b0:=eq_true c16;have c16b1 : decide (0≤t117)=true:=decide_eq_true c16;clear c16
      by_cases c17 : t117≤(x0_1.size : Int)
      ·
       rw [if_pos c17] at H
       have c17b0:=eq_true c17;have c17b1 : decide (t117≤(x0_1.size : Int))=true:=decide_eq_true c17;clear c17
       by_cases c18 : x6_1.length<8796093022208
       ·
        rw [if_pos c18] at H
        have LMc18:=zh c18;clear c18;obtain ⟨y121,hy121⟩ : ∃ y_ : List ByteArray,y_=(x6_1 ++ [x0_1.extract 0 (t117 : Int).toNat]):=⟨_,rfl⟩;replace H : (spec_SplitKey.l0 k1 (x0_1.extract (t117 : Int).toNat x0_1.size) a1 y121 (wrap64 (x7_1 + 1)))=some (r1,r2):=by first|(rw [hy121];with_reducible exact H)|(have H2_:=(Option.bind_some _ _).symm.trans H;rw [hy121];with_reducible exact H2_)|(have H2_:=(Option.bind_some _ _).symm.trans H;with_reducible exact H2_)|with_reducible exact H|(rw [hy121];exact H)|exact H
        have Ny121:=zh hy121;clear hy121;have c19b0:=eq_true (zy (by first|(with_reducible assumption)|assumption) : 0≤t117);have c20b0:=eq_true (zy (by first|(with_reducible assumption)|assumption) : t117≤(x0_1.size : Int));have H':=zh H;clear H
        go_wp2_with (first|((with_reducible refine zJ (f:=28) rfl ?_);refine yj (some 24) rfl rfl Try.func28 (by kernel_rfl) rfl #[.string x0_1] rfl (by (try simp only [zt,zu,zv]);first|done|rfl|(simp only [zw,zx];rfl)|(simp only [yr,ys,zV,zW];rfl)) ?_;(with_reducible refine (spec_l04Length.calls k1  x0_1 t117 _ A11.out).mono ?_);rintro e w21 ⟨rfl,hb⟩;refine ⟨_,rfl,?_⟩;replace HO_6:=zh (yg (by (with_reducible repeat (first|apply zm|apply zn|apply zo));exact HO_6.out) hb);replace HB:=zh (zC (by repeat (with_reducible first|exact HB.out|apply za|apply zb|apply zc)) hb);(try clear hb);(try clear hb2);(try clear hk);(try clear hi))|((with_reducible refine yB (b:=.append) (xs:=#[.tmp 28,.tmp 32]) rfl ?_);at_builtin;refine Kd.R_append Kd.string (w0:=w) w.heap.size rfl (.tmp 28) (.tmp 32) 22 9 (.string ⟨#[]⟩) 16 rfl Try.underlying22 info9 rfl (by decide) (by omega) u6 x6_1 (x0_1.extract 0 (t117 : Int).toNat) [.string (x0_1.extract 0 (t117 : Int).toNat)] (fun _ => True) (fun _ => False) rfl rfl ?aP (fun _ hk => hk.elim) ?aF ?aO ?aB ?aS ?aL ?_;(case aP => exact rfl);(case aB => exact (by repeat (with_reducible first|exact HB.out|apply za|apply zb|apply zc)));(case aF => exact (fun _ _ => trivial));(case aO => exact (by (with_reducible repeat (first|apply zm|apply zn|apply zo));exact HO_6.out));(case aS => exact (zB (by repeat (with_reducible first|exact HB.out|apply za|apply zb|apply zc))));(case aL => have:=LMc18.out;omega);intro v122 w22 ho hb hg hat;rw [← Ny121.out] at ho;replace HB:=zh (hb);have HO123:=zh (ho);clear HO_6 ho hb hg hat))
        go_roundg k1
        case measure => have:=HK1.out;omega
        case rel => exact ⟨(x0_1.extract (t117 : Int).toNat x0_1.size),(y121),(wrap64 (x7_1 + 1)),(by first|rfl|(simp;done)|(simp [*];done)),(by first|rfl|(simp;done)|(simp [*];done)),H',⟨by have:=HK1.out;omega⟩,⟨by (with_reducible repeat (first|apply zm|apply zn|apply zo));exact HO123.out⟩,⟨by repeat (with_reducible first|exact HB.out|apply za|apply zb|apply zc)⟩⟩
       rw [if_neg c18] at H;exact absurd H (by simp)
      rw [if_neg c17] at H;exact absurd H (by simp)
     rw [if_neg c16] at H;exact absurd H (by simp)
    rw [if_neg c10] at H;have c10b0 : decide (x7_1<a1)=false:=decide_eq_false c10;clear c10
    by_cases c23 : x0_1.toList=([] : List UInt8)
    ·
     rw [if_pos c23] at H
     have c23b0 : (x0_1.toList == ([] : List UInt8))=true:=ya.mpr c23;have c23b1 : (x0_1.toList != ([] : List UInt8))=false:=zX.mpr c23;clear c23;simp only [Option.some.injEq,Prod.mk.injEq] at H;obtain ⟨rfl,rfl⟩:=H
     go_wp2
     go_ret2
     exact ⟨_,by first|rfl|(simp [yt,yu] <;> rfl)|(simp [*,yt,yu] <;> rfl),by (with_reducible repeat (first|apply zm|apply zn|apply zo));exact HO_6.out,by repeat (with_reducible first|exact HB.out|apply za|apply zb|apply zc)⟩
    rw [if_neg c23] at H;have c23b0 : (x0_1.toList == ([] : List UInt8))=false:=zY.mpr c23;have c23b1 : (x0_1.toList != ([] : List UInt8))=true:=zZ.mpr c23;obtain ⟨y124,hy124⟩ : ∃ y_ : List ByteArray,y_=(([] : List ByteArray)):=⟨_,rfl⟩;replace H : (some (y124,3))=some (r1,r2):=by first|(rw [hy124];with_reducible exact H)|(have H2_:=(Option.bind_some _ _).symm.trans H;rw [hy124];with_reducible exact H2_)|(have H2_:=(Option.bind_some _ _).symm.trans H;with_reducible exact H2_)|with_reducible exact H|(rw [hy124];exact H)|exact H
    have Ny124:=zh hy124;clear hy124;simp only [Option.some.injEq,Prod.mk.injEq] at H;obtain ⟨rfl,rfl⟩:=H
    go_wp2_with (first|((with_reducible refine zK (N:=39) rfl ?_);refine Kd.R_lit Kd.string _ 9 ?hg (N:=39) ?hd (xs:=([] : List ByteArray)) (inner:=[]) (ok:=fun _ => True) (okp:=fun _ => True) ?hr ?hp (fun _ hk => hk) trivial (Below.refl _ _) (ye _) (by simp) ?_;(case hd => rfl);(case hg => rfl);(case hr => first|(go_simp;done)|(go_simp;rfl));(case hp => exact (Reps.none _ _));intro v125 w24 ho25 hb hg_ hnew_;clear hg_ hnew_;(first|rw [← Ny124.out] at ho25|(simp only [Int.reduceToNat] at ho25;rw [← Ny124.out] at ho25));have HO126:=zh (yy (Kd.R_new' ho25 (Kd.R_lt (by (with_reducible repeat (first|apply zm|apply zn|apply zo));exact HO_6.out))) (zB (by repeat (with_reducible first|exact HB.out|apply za|apply zb|apply zc))));replace HO_6:=zh (Kd.R_elder' (by (with_reducible repeat (first|apply zm|apply zn|apply zo));exact HO_6.out) (Kd.R_base ho25) hb);replace HB:=zh (zC (by repeat (with_reducible first|exact HB.out|apply za|apply zb|apply zc)) hb);clear hb ho25))
    go_ret2
    exact ⟨_,by first|rfl|(simp [yt,yu] <;> rfl)|(simp [*,yt,yu] <;> rfl),by (with_reducible repeat (first|apply zm|apply zn|apply zo));exact zM HO126.out (fun _ hk => trivial),by repeat (with_reducible first|exact HB.out|apply za|apply zb|apply zc)⟩
 replace c7:=yb.mpr c7;subst c7;have H1 : (some ((([] : List ByteArray)),4))=some (r1,r2):=by rw [if_neg (show ¬ (false=true) by decide)] at H;exact H
 clear H;have H:=H1;clear H1;obtain ⟨y111,hy111⟩ : ∃ y_ : List ByteArray,y_=(([] : List ByteArray)):=⟨_,rfl⟩;replace H : (some (y111,4))=some (r1,r2):=by first|(rw [hy111];with_reducible exact H)|(have H2_:=(Option.bind_some _ _).symm.trans H;rw [hy111];with_reducible exact H2_)|(have H2_:=(Option.bind_some _ _).symm.trans H;with_reducible exact H2_)|with_reducible exact H|(rw [hy111];exact H)|exact H
 have Ny111:=zh hy111;clear hy111;simp only [Option.some.injEq,Prod.mk.injEq] at H;obtain ⟨rfl,rfl⟩:=H
 go_enter Try.func8,Try.ntmps8
 go_wp2_with (first|((with_reducible refine zJ (f:=27) rfl ?_);refine yj (some 14) rfl rfl Try.func27 (by kernel_rfl) rfl #[.int .i64 a1,.int .i64 0,.int .i64 8] rfl (by (try simp only [zt,zu,zv]);first|done|rfl|(simp only [zw,zx];rfl)|(simp only [yr,ys,zV,zW];rfl)) ?_;(with_reducible refine (spec_l01In.calls  a1 0 8 false _ A6.out).mono ?_);rintro e w' ⟨rfl,⟨nd,rfl⟩⟩;refine ⟨_,rfl,?_⟩)|((with_reducible refine zK (N:=16) rfl ?_);refine Kd.R_lit Kd.string _ 9 ?hg (N:=16) ?hd (xs:=([] : List ByteArray)) (inner:=[]) (ok:=fun _ => True) (okp:=fun _ => True) ?hr ?hp (fun _ hk => hk) trivial (Below.refl _ _) (ye _) (by simp) ?_;(case hd => rfl);(case hg => rfl);(case hr => first|(go_simp;done)|(go_simp;rfl));(case hp => exact (Reps.none _ _));intro v112 w26 ho27 hb hg_ hnew_;clear hg_ hnew_;(first|rw [← Ny111.out] at ho27|(simp only [Int.reduceToNat] at ho27;rw [← Ny111.out] at ho27));have HO113:=zh (yy ho27 (zB (by repeat (with_reducible first|exact HB.out|apply za|apply zb|apply zc))));replace HB:=zh (zC (by repeat (with_reducible first|exact HB.out|apply za|apply zb|apply zc)) hb);clear hb ho27))
 go_ret2
 exact ⟨_,by first|rfl|(simp [yt,yu] <;> rfl)|(simp [*,yt,yu] <;> rfl),by (with_reducible repeat (first|apply zm|apply zn|apply zo));exact HO113.out,by repeat (with_reducible first|exact HB.out|apply za|apply zb|apply zc)⟩

end Go.Proofs.Ytlljfjpdflcjlaa.Q
end
section
namespace Go.Proofs.Ytlljfjpdflcjlaa.Q
open Go.RowKit Go.Proofs.YtlljfjpdflcjlaaW.PrintWords Go.Proofs.YtlljfjpdflcjlaaW.PrintLast Go.Proofs.YtlljfjpdflcjlaaW.PrintMore
attribute [local go_sem] max2_int min2_int max_two min_two max_three min_three max_four min_four max2_str min2_str str_geq str_gtr str_leq   -- for this text's walks alone
set_option linter.unusedVariables false
set_option linter.unusedSimpArgs false

def impl_isLong_1.f (a0 : ByteArray) : Option (Bool):=some (decide ((a0.size : Int) > 65536))
set_option maxHeartbeats 8000000 in
set_option maxRecDepth 100000 in
theorem impl_isLong_1.calls (a0 : ByteArray) (r : Bool) (w : World) (h : impl_isLong_1.f a0=some r) :
  Calls Try.prog 53 #[.string a0] w fun e w' => e = .returned (.bool r)∧Drawn0 w w':=by
 have H : (some (decide ((a0.size : Int) > 65536)))=some r:=h;clear h;obtain rfl:=zU H
 go_enter Try.func53,Try.ntmps53
 go_wp2
 go_ret
 exact ⟨by first|rfl|(simp;done)|(simp [*];done),by repeat (first|exact yp _|apply yq)⟩

end Go.Proofs.Ytlljfjpdflcjlaa.Q
end
section
namespace Go.Proofs.Ytlljfjpdflcjlaa.Q
open Go.RowKit Go.Proofs.YtlljfjpdflcjlaaW.PrintWords Go.Proofs.YtlljfjpdflcjlaaW.PrintLast Go.Proofs.YtlljfjpdflcjlaaW.PrintMore
attribute [local go_sem] max2_int min2_int max_two min_two max_three min_three max_four min_four max2_str min2_str str_geq str_gtr str_leq   -- for this text's walks alone
set_option linter.unusedVariables false
set_option linter.unusedSimpArgs false

def slices_IndexFunc_string_string_at_isLong_1.l0 : Nat→List ByteArray→Int→Int→Option (Int)
 | 0,_,_,_ => none
 | k + 1,x0,x7,x8 => if x8<x7 then (if 0≤x8 then (if x8<(x0.length : Int) then ((impl_isLong_1.f (rdOf ByteArray.empty x0 x8)).bind fun t128 => (if t128=true then (some x8) else (slices_IndexFunc_string_string_at_isLong_1.l0 k x0 x7 (wrap64 (x8 + 1))))) else (none)) else (none)) else (some (-1))
def slices_IndexFunc_string_string_at_isLong_1.f (k : Nat) (l0 : List ByteArray)  : Option (Int):=slices_IndexFunc_string_string_at_isLong_1.l0 k l0 (l0.length : Int) 0
theorem slices_IndexFunc_string_string_at_isLong_1.mono_l : ∀ k,(∀ y0 y1 y2,LeO (slices_IndexFunc_string_string_at_isLong_1.l0 k y0 y1 y2) (slices_IndexFunc_string_string_at_isLong_1.l0 (k + 1) y0 y1 y2))
 | 0 => fun _ _ _ r h => by simp [slices_IndexFunc_string_string_at_isLong_1.l0] at h
 | k + 1 => by
  have ih0:=slices_IndexFunc_string_string_at_isLong_1.mono_l k;intro y0 y1 y2;unfold slices_IndexFunc_string_string_at_isLong_1.l0
  repeat' first|(with_reducible exact ih0 _ _ _)|(with_reducible exact zQ _)|(with_reducible exact zN _)|(with_reducible refine zP ?_ ?_)|(with_reducible refine zO ?_ (fun _ => ?_))|refine zP ?_ ?_|refine zO ?_ (fun _ => ?_)
theorem slices_IndexFunc_string_string_at_isLong_1.mono : ∀ a0 k,LeO (slices_IndexFunc_string_string_at_isLong_1.f k a0) (slices_IndexFunc_string_string_at_isLong_1.f (k + 1) a0):=by
 intro a0 k;have ih0:=slices_IndexFunc_string_string_at_isLong_1.mono_l k;unfold slices_IndexFunc_string_string_at_isLong_1.f
 repeat' first|(with_reducible exact ih0 _ _ _)|(with_reducible exact zQ _)|(with_reducible exact zN _)|(with_reducible refine zP ?_ ?_)|(with_reducible refine zO ?_ (fun _ => ?_))|refine zP ?_ ?_|refine zO ?_ (fun _ => ?_)
set_option maxHeartbeats 8000000 in
set_option maxRecDepth 100000 in
theorem slices_IndexFunc_string_string_at_isLong_1.calls (k : Nat) (A0 : Option Addr) (c0 : Nat) (l0 : List ByteArray)  (r : Int) (w : World) (hr0 : Kd.C Kd.string w A0 l0.length l0) (hc0 : l0.length≤c0) (h : slices_IndexFunc_string_string_at_isLong_1.f k l0=some r) :
  Calls Try.prog 91 #[.slice A0 l0.length c0,.func (.func 53) #[] #[]] w fun e w' => e = .returned (.int .i64 r)∧Drawn0 w w':=by
 have HR0:=zh hr0;have HC0:=zh hc0;clear hr0 hc0;have H : (slices_IndexFunc_string_string_at_isLong_1.l0 k l0 (l0.length : Int) 0)=some r:=h;clear h;have H':=zh H;clear H
 go_enter Try.func91,Try.ntmps91
 go_wp2
 go_loopg [8] k (fun kq v8 w' => ∃ (x8_1 : Int),v8 = .int .i64 x8_1∧Aside0 (slices_IndexFunc_string_string_at_isLong_1.l0 kq l0 (l0.length : Int) x8_1=some r)∧Aside0 (kq≤k)∧Drawn0 w w')
 case atStart => exact ⟨(0),(by first|rfl|(simp;done)|(simp [*];done)),H',⟨ye _⟩,by repeat (first|exact yp _|apply yq)⟩
 case round =>
  clear H'
  try clear p2
  obtain ⟨x8_1,rfl,HA,HK1,⟨m1,rfl⟩⟩:=hrel
  cases gk with
  | zero => exact absurd HA.out (by simp [slices_IndexFunc_string_string_at_isLong_1.l0])
  | succ k1 =>
   have H:=HA.out;clear HA;simp only [slices_IndexFunc_string_string_at_isLong_1.l0] at H
   by_cases c3 : x8_1<(l0.length : Int)
   ·
    rw [if_pos c3] at H
    have c3b0 : decide (x8_1<(l0.length : Int))=true:=decide_eq_true c3;clear c3
    by_cases c4 : 0≤x8_1
    ·
     rw [if_pos c4] at H
     have c4b0 : decide (0≤x8_1)=true:=decide_eq_true c4;clear c4
     by_cases c5 : x8_1<(l0.length : Int)
     ·
      rw [if_pos c5] at H
      have c5b0 : decide (x8_1<(l0.length : Int))=true:=decide_eq_true c5;clear c5;replace H:=zT.mp H;obtain ⟨t128,A60,H⟩:=H;replace H : (if t128=true then (some x8_1) else (slices_IndexFunc_string_string_at_isLong_1.l0 k1 l0 (l0.length : Int) (wrap64 (x8_1 + 1))))=some r:=H;have A6:=zh A60;clear A60
      by_cases c7 : t128=true
      ·
       subst c7
       have H1 : (some x8_1)=some r:=by rw [if_pos rfl] at H;exact H
       clear H;have H:=H1;clear H1;obtain rfl:=zU H;have p127 : 0≤(x8_1 : Int):=zy (by first|(with_reducible assumption)|assumption);have q127 : x8_1<(l0.length : Int):=zy (by first|(with_reducible assumption)|assumption);obtain ⟨ad127,e127,hx127_0⟩:=Kd.at_string HR0.out x8_1 p127 q127
       cases e127
       replace p127:=eq_true p127;replace q127:=eq_true q127
       go_wp2_with (first|(go_at_call 53;(with_reducible refine (impl_isLong_1.calls  (rdOf ByteArray.empty l0 x8_1) true _ A6.out).mono ?_);rintro e w' ⟨rfl,⟨nd,rfl⟩⟩))
       go_ret
       exact ⟨by first|rfl|(simp;done)|(simp [*];done),by repeat (first|exact yp _|apply yq)⟩
      replace c7:=yb.mpr c7;subst c7;have H1 : (slices_IndexFunc_string_string_at_isLong_1.l0 k1 l0 (l0.length : Int) (wrap64 (x8_1 + 1)))=some r:=by rw [if_neg (show ¬ (false=true) by decide)] at H;exact H
      clear H;have H:=H1;clear H1;have H':=zh H;clear H;have p127 : 0≤(x8_1 : Int):=zy (by first|(with_reducible assumption)|assumption);have q127 : x8_1<(l0.length : Int):=zy (by first|(with_reducible assumption)|assumption);obtain ⟨ad127,e127,hx127_0⟩:=Kd.at_string HR0.out x8_1 p127 q127
      cases e127
      replace p127:=eq_true p127;replace q127:=eq_true q127
      go_wp2_with (first|(go_at_call 53;(with_reducible refine (impl_isLong_1.calls  (rdOf ByteArray.empty l0 x8_1) false _ A6.out).mono ?_);rintro e w' ⟨rfl,⟨nd,rfl⟩⟩))
      go_roundg k1
      case measure => have:=HK1.out;omega
      case rel => exact ⟨(wrap64 (x8_1 + 1)),(by first|rfl|(simp;done)|(simp [*];done)),H',⟨by have:=HK1.out;omega⟩,by repeat (first|exact yp _|apply yq)⟩
     rw [if_neg c5] at H;exact absurd H (by simp)
    rw [if_neg c4] at H;exact absurd H (by simp)
   rw [if_neg c3] at H;have c3b0 : decide (x8_1<(l0.length : Int))=false:=decide_eq_false c3;clear c3;obtain rfl:=zU H
   go_wp2
   go_ret
   exact ⟨by first|rfl|(simp;done)|(simp [*];done),by repeat (first|exact yp _|apply yq)⟩

end Go.Proofs.Ytlljfjpdflcjlaa.Q
end
section
namespace Go.Proofs.Ytlljfjpdflcjlaa.Q
open Go.RowKit Go.Proofs.YtlljfjpdflcjlaaW.PrintWords Go.Proofs.YtlljfjpdflcjlaaW.PrintLast Go.Proofs.YtlljfjpdflcjlaaW.PrintMore
attribute [local go_sem] max2_int min2_int max_two min_two max_three min_three max_four min_four max2_str min2_str str_geq str_gtr str_leq   -- for this text's walks alone
set_option linter.unusedVariables false
set_option linter.unusedSimpArgs false

def slices_ContainsFunc_string_string_at_isLong_1.f (k : Nat) (l0 : List ByteArray)  : Option (Bool):=(slices_IndexFunc_string_string_at_isLong_1.f k l0).bind fun t129 => (some (decide (t129 ≥ 0)))
theorem slices_ContainsFunc_string_string_at_isLong_1.mono : ∀ a0 k,LeO (slices_ContainsFunc_string_string_at_isLong_1.f k a0) (slices_ContainsFunc_string_string_at_isLong_1.f (k + 1) a0):=by
 intro a0 k;unfold slices_ContainsFunc_string_string_at_isLong_1.f
 repeat' first|(with_reducible exact slices_IndexFunc_string_string_at_isLong_1.mono _ _)|(with_reducible exact zQ _)|(with_reducible exact zN _)|(with_reducible refine zP ?_ ?_)|(with_reducible refine zO ?_ (fun _ => ?_))|refine zP ?_ ?_|refine zO ?_ (fun _ => ?_)
set_option maxHeartbeats 8000000 in
set_option maxRecDepth 100000 in
theorem slices_ContainsFunc_string_string_at_isLong_1.calls (k : Nat) (A0 : Option Addr) (c0 : Nat) (l0 : List ByteArray)  (r : Bool) (w : World) (hr0 : Kd.C Kd.string w A0 l0.length l0) (hc0 : l0.length≤c0) (h : slices_ContainsFunc_string_string_at_isLong_1.f k l0=some r) :
  Calls Try.prog 49 #[.slice A0 l0.length c0,.func (.func 53) #[] #[]] w fun e w' => e = .returned (.bool r)∧Drawn0 w w':=by
 have HR0:=zh hr0;have HC0:=zh hc0;clear hr0 hc0;have H : ((slices_IndexFunc_string_string_at_isLong_1.f k l0).bind fun t129 => (some (decide (t129 ≥ 0))))=some r:=h;clear h;replace H:=zT.mp H;obtain ⟨t129,A30,H⟩:=H;replace H : (some (decide (t129 ≥ 0)))=some r:=H;have A3:=zh A30;clear A30;obtain rfl:=zU H
 go_enter Try.func49,Try.ntmps49
 go_wp2_with (first|((with_reducible refine zJ (f:=91) rfl ?_);refine yj (some 7) rfl rfl Try.func91 (by kernel_rfl) rfl #[.slice A0 l0.length c0,.func (.func 53) #[] #[]] rfl (by (try simp only [zt,zu,zv]);first|done|rfl|(simp only [zw,zx];rfl)|(simp only [yr,ys,zV,zW];rfl)) ?_;(with_reducible refine (slices_IndexFunc_string_string_at_isLong_1.calls k  _ _ l0  t129 _ ?side1 ?side2 A3.out).mono ?_);(case side1 => repeat (first|exact HR0.out|(with_reducible refine Kd.C_alloc ?_ _)|(with_reducible refine Kd.C_drewN ?_ _)|(with_reducible refine Kd.C_drew ?_)));(case side2 => exact HC0.out);rintro e w' ⟨rfl,⟨nd,rfl⟩⟩;refine ⟨_,rfl,?_⟩))
 go_ret
 exact ⟨by first|rfl|(simp;done)|(simp [*];done),by repeat (first|exact yp _|apply yq)⟩

end Go.Proofs.Ytlljfjpdflcjlaa.Q
end
section
namespace Go.Proofs.Ytlljfjpdflcjlaa.Q
open Go.RowKit Go.Proofs.YtlljfjpdflcjlaaW.PrintWords Go.Proofs.YtlljfjpdflcjlaaW.PrintLast Go.Proofs.YtlljfjpdflcjlaaW.PrintMore
attribute [local go_sem] max2_int min2_int max_two min_two max_three min_three max_four min_four max2_str min2_str str_geq str_gtr str_leq   -- for this text's walks alone
set_option linter.unusedVariables false
set_option linter.unusedSimpArgs false

def impl_isLong.f (k : Nat) (l0 : List ByteArray) : Option (Bool):=(slices_ContainsFunc_string_string_at_isLong_1.f k l0).bind fun t130 => (some t130)
theorem impl_isLong.mono : ∀ a0 k,LeO (impl_isLong.f k a0) (impl_isLong.f (k + 1) a0):=by
 intro a0 k;unfold impl_isLong.f
 repeat' first|(with_reducible exact slices_ContainsFunc_string_string_at_isLong_1.mono _ _)|(with_reducible exact zQ _)|(with_reducible exact zN _)|(with_reducible refine zP ?_ ?_)|(with_reducible refine zO ?_ (fun _ => ?_))|refine zP ?_ ?_|refine zO ?_ (fun _ => ?_)
set_option maxHeartbeats 8000000 in
set_option maxRecDepth 100000 in
theorem impl_isLong.calls (k : Nat) (A0 : Option Addr) (c0 : Nat) (l0 : List ByteArray) (r : Bool) (w : World) (hr0 : Kd.C Kd.string w A0 l0.length l0) (hc0 : l0.length≤c0) (h : impl_isLong.f k l0=some r) :
  Calls Try.prog 29 #[.slice A0 l0.length c0] w fun e w' => e = .returned (.bool r)∧Below w.heap.size w w':=by
 have HR0:=zh hr0;have HC0:=zh hc0;clear hr0 hc0;have HB:=zh (Below.refl w.heap.size w);have H : ((slices_ContainsFunc_string_string_at_isLong_1.f k l0).bind fun t130 => (some t130))=some r:=h;clear h;replace H:=zT.mp H;obtain ⟨t130,A20,H⟩:=H;replace H : (some t130)=some r:=H;have A2:=zh A20;clear A20;obtain rfl:=zU H
 go_enter Try.func29,Try.ntmps29
 go_wp2_with (first|((with_reducible refine zJ (f:=49) rfl ?_);refine yj (some 4) rfl rfl Try.func49 (by kernel_rfl) rfl #[.slice A0 l0.length c0,.func (.func 53) #[] #[]] rfl (by (try simp only [zt,zu,zv]);first|done|rfl|(simp only [zw,zx];rfl)|(simp only [yr,ys,zV,zW];rfl)) ?_;(with_reducible refine (slices_ContainsFunc_string_string_at_isLong_1.calls k  _ _ l0  t130 _ ?side1 ?side2 A2.out).mono ?_);(case side1 => repeat (first|exact HR0.out|(with_reducible refine Kd.C_alloc ?_ _)|(with_reducible refine Kd.C_drewN ?_ _)|(with_reducible refine Kd.C_drew ?_)));(case side2 => exact HC0.out);rintro e w' ⟨rfl,⟨nd,rfl⟩⟩;refine ⟨_,rfl,?_⟩))
 go_ret
 exact ⟨by first|rfl|(simp [yt,yu] <;> rfl)|(simp [*,yt,yu] <;> rfl),by repeat (with_reducible first|exact HB.out|apply za|apply zb|apply zc)⟩

end Go.Proofs.Ytlljfjpdflcjlaa.Q
end
section
namespace Go.Proofs.Ytlljfjpdflcjlaa.Q
open Go.RowKit Go.Proofs.YtlljfjpdflcjlaaW.PrintWords Go.Proofs.YtlljfjpdflcjlaaW.PrintLast Go.Proofs.YtlljfjpdflcjlaaW.PrintMore
attribute [local go_sem] max2_int min2_int max_two min_two max_three min_three max_four min_four max2_str min2_str str_geq str_gtr str_leq   -- for this text's walks alone
set_option linter.unusedVariables false
set_option linter.unusedSimpArgs false

def impl_inRange.f (a0 : Int) (a1 : Int) (a2 : Int) : Option (Bool):=if a1≤a0 then (some (decide (a0≤a2))) else (some false)
set_option maxHeartbeats 8000000 in
set_option maxRecDepth 100000 in
theorem impl_inRange.calls (a0 : Int) (a1 : Int) (a2 : Int) (r : Bool) (w : World) (h : impl_inRange.f a0 a1 a2=some r) :
  Calls Try.prog 30 #[.int .i64 a0,.int .i64 a1,.int .i64 a2] w fun e w' => e = .returned (.bool r)∧Drawn0 w w':=by
 have H : (if a1≤a0 then (some (decide (a0≤a2))) else (some false))=some r:=h;clear h
 by_cases c4 : a1≤a0
 ·
  rw [if_pos c4] at H
  have c4b0 : decide (a1≤a0)=true:=decide_eq_true c4;clear c4;obtain rfl:=zU H
  go_enter Try.func30,Try.ntmps30
  go_wp2
  go_ret
  exact ⟨by first|rfl|(simp;done)|(simp [*];done),by repeat (first|exact yp _|apply yq)⟩
 rw [if_neg c4] at H;have c4b0 : decide (a1≤a0)=false:=decide_eq_false c4;clear c4;obtain rfl:=zU H
 go_enter Try.func30,Try.ntmps30
 go_wp2
 go_ret
 exact ⟨by first|rfl|(simp;done)|(simp [*];done),by repeat (first|exact yp _|apply yq)⟩

end Go.Proofs.Ytlljfjpdflcjlaa.Q
end
section
namespace Go.Proofs.Ytlljfjpdflcjlaa.Q
open Go.RowKit Go.Proofs.YtlljfjpdflcjlaaW.PrintWords Go.Proofs.YtlljfjpdflcjlaaW.PrintLast Go.Proofs.YtlljfjpdflcjlaaW.PrintMore
attribute [local go_sem] max2_int min2_int max_two min_two max_three min_three max_four min_four max2_str min2_str str_geq str_gtr str_leq
set_option linter.unusedVariables false
set_option linter.unusedSimpArgs false

def strings_Repeat.f (a0 : ByteArray) (a1 : Int) : Option (ByteArray):=if 0≤a1 then (if a0.size * a1.toNat≤140737488355328 then (if a1≤9223372036854775807 then (some ⟨(Lib.repeatL a0.data.toList a1.toNat).toArray⟩) else (none)) else (none)) else (none)
theorem strings_Repeat.calls (a0 : ByteArray) (a1 : Int) (r : ByteArray) (w : World) (h : strings_Repeat.f a0 a1=some r) :
  Calls Try.prog 93 #[.string a0,.int .i64 a1] w fun e w' => e = .returned (.string r)∧Below w.heap.size w w':=by
 unfold strings_Repeat.f at h
 by_cases h0 : 0≤a1
 ·
  rw [if_pos h0] at h
  by_cases h1 : a0.size * a1.toNat≤140737488355328
  ·
   rw [if_pos h1] at h
   by_cases h2 : a1≤9223372036854775807
   ·
    rw [if_pos h2] at h
    obtain rfl:=zU h;have:=Try.strings_Repeat a0 a1.toNat w (by omega) h1;rw [Int.toNat_of_nonneg h0] at this;exact this
   rw [if_neg h2] at h;exact absurd h (by simp)
  rw [if_neg h1] at h;exact absurd h (by simp)
 rw [if_neg h0] at h;exact absurd h (by simp)

end Go.Proofs.Ytlljfjpdflcjlaa.Q
end
section
namespace Go.Proofs.Ytlljfjpdflcjlaa.Q
open Go.RowKit Go.Proofs.YtlljfjpdflcjlaaW.PrintWords Go.Proofs.YtlljfjpdflcjlaaW.PrintLast Go.Proofs.YtlljfjpdflcjlaaW.PrintMore
attribute [local go_sem] max2_int min2_int max_two min_two max_three min_three max_four min_four max2_str min2_str str_geq str_gtr str_leq   -- for this text's walks alone
set_option linter.unusedVariables false
set_option linter.unusedSimpArgs false

def IsS54 (w0 W : World) (g : Nat) (f0 : ByteArray) (f1 : Bool) : Prop:=W.heap[g]? = some (.cells #[.string f0,.bool f1] 54 (0,0))∧w0.heap.size≤g
theorem IsS54.grown {w0 W : World} {g : Nat} {f0 : ByteArray} {f1 : Bool} {W1 : World} {row : Option Nat} (h : IsS54 w0 W g f0 f1) (hw : W.grownBy W1 row) (hne : some g≠row) : IsS54 w0 W1 g f0 f1:=by
 obtain ⟨hb,hg⟩:=h;exact ⟨yw hb hw hne,hg⟩
theorem IsS54.fresh {w0 W : World} {g : Nat} {f0 : ByteArray} {f1 : Bool} (h : IsS54 w0 W g f0 f1) : ∀ k,W.heap.size≤k→k≠g:=by
 obtain ⟨hb,hg⟩:=h;exact Kd.freshB hb
theorem IsS54.kept {w0 W : World} {g : Nat} {f0 : ByteArray} {f1 : Bool} {W1 : World} {S : Nat→Prop} (h : IsS54 w0 W g f0 f1) (hk : Kept W W1 S) (hne : ¬ S g) : IsS54 w0 W1 g f0 f1:=by
 obtain ⟨hb,hg⟩:=h;exact ⟨blk_kept hb hk hne,hg⟩
theorem IsS54.below {w0 W : World} {g : Nat} {f0 : ByteArray} {f1 : Bool} {W1 : World} (h : IsS54 w0 W g f0 f1) (hw : Below W.heap.size W W1) : IsS54 w0 W1 g f0 f1:=h.grown (grown_of_below hw none) (by simp)
theorem IsS54.alloc {w0 W : World} {g : Nat} {f0 : ByteArray} {f1 : Bool} (h : IsS54 w0 W g f0 f1) (o : Obj) : IsS54 w0 (W.alloc o) g f0 f1:=h.below (za (Below.refl _ _) o)
theorem IsS54.drewN {w0 W : World} {g : Nat} {f0 : ByteArray} {f1 : Bool} (h : IsS54 w0 W g f0 f1) (m : Nat) : IsS54 w0 (W.drewN m) g f0 f1:=h
theorem IsS54.drew {w0 W : World} {g : Nat} {f0 : ByteArray} {f1 : Bool} (h : IsS54 w0 W g f0 f1) : IsS54 w0 W.drew g f0 f1:=h
theorem IsS54.at_ {w0 W : World} {g : Nat} {f0 : ByteArray} {f1 : Bool} {w' : World} {m : Nat} (hq : W.drewN m=w') (h : IsS54 w0 W g f0 f1) : IsS54 w0 w' g f0 f1:=by subst hq;exact IsS54.drewN h m
theorem IsS54.apart {w0 W : World} {g : Nat} {f0 : ByteArray} {f1 : Bool} {α : Type} {d : Kd α} {e : Nat} {base : Nat} {ok : Nat→Prop} {v : Value} {xs : List α} (h : IsS54 w0 W g f0 f1) (ho : d.R e W base ok v xs) (ht : ∀ q,q ∈ e :: d.E→q≠54) : d.R e W base (fun k => ok k∧k≠g) v xs:=by
 obtain ⟨hb,hg⟩:=h;exact yf ho hb ht
theorem IsS54.own_ne {w0 W : World} {g : Nat} {f0 : ByteArray} {f1 : Bool} {α : Type} {d : Kd α} {e : Nat} {base : Nat} {ok : Nat→Prop} {v : Value} {xs : List α} (h : IsS54 w0 W g f0 f1) (ho : d.R e W base ok v xs) (ht : e≠54) : some g≠v.ownBlock:=by
 obtain ⟨hb,hg⟩:=h;exact Kd.R_ne ho hb ht
theorem IsS54.lt {w0 W : World} {g : Nat} {f0 : ByteArray} {f1 : Bool} (h : IsS54 w0 W g f0 f1) : g<W.heap.size:=by
 obtain ⟨hb,hg⟩:=h;exact yi hb
theorem IsS54.ge {w0 W : World} {g : Nat} {f0 : ByteArray} {f1 : Bool} (h : IsS54 w0 W g f0 f1) : w0.heap.size≤g:=by
 obtain ⟨hb,hg⟩:=h;exact hg
theorem IsS54.far {w0 W : World} {g : Nat} {f0 : ByteArray} {f1 : Bool} {p : Addr} (h : IsS54 w0 W g f0 f1) (hne : g≠p.block) (u : Value) : IsS54 w0 (W.setCell p u) g f0 f1:=by
 obtain ⟨hb,hg⟩:=h;exact ⟨zS hb hne u,hg⟩
theorem cellS54_0 {W : World} {g : Nat} {f0 : ByteArray} {f1 : Bool} (h : W.heap[g]? = some (.cells #[.string f0,.bool f1] 54 (0,0))) : W.cell? ⟨g,0,none⟩=some (.string f0):=(zz h 0).trans rfl
theorem IsS54.set_0 {w0 W : World} {g : Nat} {f0 : ByteArray} {f1 : Bool} (h : IsS54 w0 W g f0 f1) (x : ByteArray) : IsS54 w0 (W.setCell ⟨g,0,none⟩ (.string x)) g x f1:=by
 obtain ⟨hb,hg⟩:=h;exact ⟨by simpa using blk_set hb 0 (.string x),hg⟩
theorem cellS54_1 {W : World} {g : Nat} {f0 : ByteArray} {f1 : Bool} (h : W.heap[g]? = some (.cells #[.string f0,.bool f1] 54 (0,0))) : W.cell? ⟨g,1,none⟩=some (.bool f1):=(zz h 1).trans rfl
theorem IsS54.set_1 {w0 W : World} {g : Nat} {f0 : ByteArray} {f1 : Bool} (h : IsS54 w0 W g f0 f1) (x : Bool) : IsS54 w0 (W.setCell ⟨g,1,none⟩ (.bool x)) g f0 x:=by
 obtain ⟨hb,hg⟩:=h;exact ⟨by simpa using blk_set hb 1 (.bool x),hg⟩
theorem IsS54.new (w0 W : World) (f0 : ByteArray) (f1 : Bool) (hB : Below w0.heap.size w0 W) : IsS54 w0 (W.alloc (.cells #[.string f0,.bool f1] 54)) W.heap.size f0 f1:=⟨by simpa using heap_alloc_new W _,hB.size⟩

def impl_byteReader_take.f (s0_0 : ByteArray) (s0_1 : Bool) (a1 : Int) : Option (ByteArray×ByteArray×Bool):=if a1 > (s0_0.size : Int) then ((strings_Repeat.f (⟨#[0]⟩ : ByteArray) a1).bind fun t134 => (some (t134,s0_0,true))) else (if 0≤a1 then (if a1≤(s0_0.size : Int) then (some (s0_0.extract 0 (a1 : Int).toNat,s0_0.extract (a1 : Int).toNat s0_0.size,s0_1)) else (none)) else (none))
set_option maxHeartbeats 8000000 in
set_option maxRecDepth 100000 in
theorem impl_byteReader_take.calls (g : Nat) (s0_0 : ByteArray) (s0_1 : Bool) (a1 : Int) (r1 : ByteArray) (r2 : ByteArray) (r3 : Bool) (w0 w : World) (hI : IsS54 w0 w g s0_0 s0_1) (hB : Below w0.heap.size w0 w) (h : impl_byteReader_take.f s0_0 s0_1 a1=some (r1,r2,r3)) :
  Calls Try.prog 55 #[.pointer (some ⟨g,0,none⟩),.int .i64 a1] w fun e w' => e = .returned (.string r1)∧IsS54 w0 w' g r2 r3∧Below w0.heap.size w0 w' ∧ KeepBut w w' g none:=by
 have HI0:=zh hI;have HK:=zh (KeepBut.refl w g none);have HL:=zh hB.size;clear hI;have HW0:=zh hB.size;have HB:=zh hB;clear hB;have H : (if a1 > (s0_0.size : Int) then ((strings_Repeat.f (⟨#[0]⟩ : ByteArray) a1).bind fun t134 => (some (t134,s0_0,true))) else (if 0≤a1 then (if a1≤(s0_0.size : Int) then (some (s0_0.extract 0 (a1 : Int).toNat,s0_0.extract (a1 : Int).toNat s0_0.size,s0_1)) else (none)) else (none)))=some (r1,r2,r3):=h;clear h
 by_cases c3 : a1 > (s0_0.size : Int)
 ·
  rw [if_pos c3] at H
  have c3b0 : decide ((s0_0.size : Int)<a1)=true:=decide_eq_true c3;clear c3;replace H:=zT.mp H;obtain ⟨t134,A40,H⟩:=H;replace H : (some (t134,s0_0,true))=some (r1,r2,r3):=H;have A4:=zh A40;clear A40;simp only [Option.some.injEq,Prod.mk.injEq] at H;obtain ⟨rfl,rfl,rfl⟩:=H;obtain ⟨HGz5,hgz5⟩:=HI0.out;have hcz5_0:=cellS54_0 HGz5;have hcz5_1:=cellS54_1 HGz5;have hfz5_0:=zA HGz5 0;have hfz5_1:=zA HGz5 1;clear HGz5 hgz5
  go_enter Try.func55,Try.ntmps55
  go_wp2_with (first|((with_reducible refine zJ (f:=93) rfl ?_);refine yj (some 17) rfl rfl Try.func93 (by kernel_rfl) rfl #[.string (⟨#[0]⟩ : ByteArray),.int .i64 a1] rfl (by (try simp only [zt,zu,zv]);first|done|rfl|(simp only [zw,zx];rfl)|(simp only [yr,ys,zV,zW];rfl)) ?_;(with_reducible refine (strings_Repeat.calls  (⟨#[0]⟩ : ByteArray) a1 t134 _ A4.out).mono ?_);rintro e w6 ⟨rfl,hb⟩;refine ⟨_,rfl,?_⟩;replace HK:=zh (KeepBut.trans (by repeat (with_reducible first|exact HK.out|apply yl|apply ym|apply yx|apply yn)) (KeepBut.of_below hb g none) (.inl rfl));replace HB:=zh (zC (by repeat (with_reducible first|exact HB.out|apply za|apply zb|apply zc|refine zd ?_ (IsS54.ge HI0.out))) hb);replace HI0:=zh (IsS54.below (show IsS54 w0 (w.setCell ⟨g,1,none⟩ (.bool true)) g s0_0 true from by repeat (with_reducible first|exact HI0.out|apply IsS54.alloc|apply IsS54.drewN|apply IsS54.drew|apply IsS54.set_0|apply IsS54.set_1)) hb);(try clear hb);(try clear hb2);(try clear hk);(try clear hi)))
  go_ret
  exact ⟨by first|rfl|(simp [yt,yu] <;> rfl)|(simp [*,yt,yu] <;> rfl),by repeat (with_reducible first|exact HI0.out|apply IsS54.alloc|apply IsS54.drewN|apply IsS54.drew|apply IsS54.set_0|apply IsS54.set_1),by repeat (with_reducible first|exact HB.out|apply za|apply zb|apply zc|refine zd ?_ (IsS54.ge HI0.out)),by repeat (with_reducible first|exact HK.out|apply yl|apply ym|apply yx|apply yn)⟩
 rw [if_neg c3] at H;have c3b0 : decide ((s0_0.size : Int)<a1)=false:=decide_eq_false c3;clear c3
 by_cases c7 : 0≤a1
 ·
  rw [if_pos c7] at H
  have c7b0:=eq_true c7;have c7b1 : decide (0≤a1)=true:=decide_eq_true c7;clear c7
  by_cases c8 : a1≤(s0_0.size : Int)
  ·
   rw [if_pos c8] at H
   have c8b0:=eq_true c8;have c8b1 : decide (a1≤(s0_0.size : Int))=true:=decide_eq_true c8;clear c8;have c9b0:=eq_true (zy (by first|(with_reducible assumption)|assumption) : 0≤a1);have c10b0:=eq_true (zy (by first|(with_reducible assumption)|assumption) : a1≤(s0_0.size : Int));simp only [Option.some.injEq,Prod.mk.injEq] at H;obtain ⟨rfl,rfl,rfl⟩:=H;obtain ⟨HGz11,hgz11⟩:=HI0.out;have hcz11_0:=cellS54_0 HGz11;have hcz11_1:=cellS54_1 HGz11;have hfz11_0:=zA HGz11 0;have hfz11_1:=zA HGz11 1;clear HGz11 hgz11
   go_enter Try.func55,Try.ntmps55
   go_wp2
   go_ret
   exact ⟨by first|rfl|(simp [yt,yu] <;> rfl)|(simp [*,yt,yu] <;> rfl),by repeat (with_reducible first|exact HI0.out|apply IsS54.alloc|apply IsS54.drewN|apply IsS54.drew|apply IsS54.set_0|apply IsS54.set_1),by repeat (with_reducible first|exact HB.out|apply za|apply zb|apply zc|refine zd ?_ (IsS54.ge HI0.out)),by repeat (with_reducible first|exact HK.out|apply yl|apply ym|apply yx|apply yn)⟩
  rw [if_neg c8] at H;exact absurd H (by simp)
 rw [if_neg c7] at H;exact absurd H (by simp)

end Go.Proofs.Ytlljfjpdflcjlaa.Q
end
section
namespace Go.Proofs.Ytlljfjpdflcjlaa.Q
open Go.RowKit Go.Proofs.YtlljfjpdflcjlaaW.PrintWords Go.Proofs.YtlljfjpdflcjlaaW.PrintLast Go.Proofs.YtlljfjpdflcjlaaW.PrintMore
attribute [local go_sem] max2_int min2_int max_two min_two max_three min_three max_four min_four max2_str min2_str str_geq str_gtr str_leq   -- for this text's walks alone
set_option linter.unusedVariables false
set_option linter.unusedSimpArgs false

def impl_big.l0 : Nat→Int→List Int→Int→Int→Option (Int)
 | 0,_,_,_,_ => none
 | k + 1,x3,x6,x7,x8 => if x8<x7 then (if 0≤x8 then (if x8<(x6.length : Int) then (impl_big.l0 k (Go.bits .or .i64 (wrap64 (x3 * 256)) (wrap64 (rd x6 x8))) x6 x7 (wrap64 (x8 + 1))) else (none)) else (none)) else (some x3)
def impl_big.f (k : Nat) (l0 : List Int) : Option (Int):=impl_big.l0 k 0 l0 (l0.length : Int) 0
theorem impl_big.mono_l : ∀ k,(∀ y0 y1 y2 y3,LeO (impl_big.l0 k y0 y1 y2 y3) (impl_big.l0 (k + 1) y0 y1 y2 y3))
 | 0 => fun _ _ _ _ r h => by simp [impl_big.l0] at h
 | k + 1 => by
  have ih0:=impl_big.mono_l k;intro y0 y1 y2 y3;unfold impl_big.l0
  repeat' first|(with_reducible exact ih0 _ _ _ _)|(with_reducible exact zQ _)|(with_reducible exact zN _)|(with_reducible refine zP ?_ ?_)|(with_reducible refine zO ?_ (fun _ => ?_))|refine zP ?_ ?_|refine zO ?_ (fun _ => ?_)
theorem impl_big.mono : ∀ a0 k,LeO (impl_big.f k a0) (impl_big.f (k + 1) a0):=by
 intro a0 k;have ih0:=impl_big.mono_l k;unfold impl_big.f
 repeat' first|(with_reducible exact ih0 _ _ _ _)|(with_reducible exact zQ _)|(with_reducible exact zN _)|(with_reducible refine zP ?_ ?_)|(with_reducible refine zO ?_ (fun _ => ?_))|refine zP ?_ ?_|refine zO ?_ (fun _ => ?_)
set_option maxHeartbeats 8000000 in
set_option maxRecDepth 100000 in
theorem impl_big.calls (k : Nat) (A0 : Option Addr) (c0 : Nat) (l0 : List Int) (r : Int) (w : World) (hr0 : Kd.C (Kd.int .u8) w A0 l0.length l0) (hc0 : l0.length≤c0) (h : impl_big.f k l0=some r) :
  Calls Try.prog 92 #[.slice A0 l0.length c0] w fun e w' => e = .returned (.int .i64 r)∧Drawn0 w w':=by
 have HR0:=zh hr0;have HC0:=zh hc0;clear hr0 hc0;have H : (impl_big.l0 k 0 l0 (l0.length : Int) 0)=some r:=h;clear h;have H':=zh H;clear H
 go_enter Try.func92,Try.ntmps92
 go_wp2
 go_loopg [3,8] k (fun kq v3 v8 w' => ∃ (x3_1 : Int) (x8_1 : Int),v3 = .int .i64 x3_1∧v8 = .int .i64 x8_1∧Aside0 (impl_big.l0 kq x3_1 l0 (l0.length : Int) x8_1=some r)∧Aside0 (kq≤k)∧Drawn0 w w')
 case atStart => exact ⟨(0),(0),(by first|rfl|(simp;done)|(simp [*];done)),(by first|rfl|(simp;done)|(simp [*];done)),H',⟨ye _⟩,by repeat (first|exact yp _|apply yq)⟩
 case round =>
  clear H';obtain ⟨x3_1,x8_1,rfl,rfl,HA,HK1,⟨m1,rfl⟩⟩:=hrel
  cases gk with
  | zero => exact absurd HA.out (by simp [impl_big.l0])
  | succ k1 =>
   have H:=HA.out;clear HA;simp only [impl_big.l0] at H
   by_cases c2 : x8_1<(l0.length : Int)
   ·
    rw [if_pos c2] at H
    have c2b0 : decide (x8_1<(l0.length : Int))=true:=decide_eq_true c2;clear c2
    by_cases c3 : 0≤x8_1
    ·
     rw [if_pos c3] at H
     have c3b0 : decide (0≤x8_1)=true:=decide_eq_true c3;clear c3
     by_cases c4 : x8_1<(l0.length : Int)
     ·
      rw [if_pos c4] at H
      have c4b0 : decide (x8_1<(l0.length : Int))=true:=decide_eq_true c4;clear c4;have H':=zh H;clear H;have p135 : 0≤(x8_1 : Int):=zy (by first|(with_reducible assumption)|assumption);have q135 : x8_1<(l0.length : Int):=zy (by first|(with_reducible assumption)|assumption);obtain ⟨ad135,e135,hx135_0⟩:=Kd.at_int HR0.out x8_1 p135 q135
      cases e135
      replace p135:=eq_true p135;replace q135:=eq_true q135
      go_wp2
      go_roundg k1
      case measure => have:=HK1.out;omega
      case rel => exact ⟨(Go.bits .or .i64 (wrap64 (x3_1 * 256)) (wrap64 (rd l0 x8_1))),(wrap64 (x8_1 + 1)),(by first|rfl|(simp;done)|(simp [*];done)),(by first|rfl|(simp;done)|(simp [*];done)),H',⟨by have:=HK1.out;omega⟩,by repeat (first|exact yp _|apply yq)⟩
     rw [if_neg c4] at H;exact absurd H (by simp)
    rw [if_neg c3] at H;exact absurd H (by simp)
   rw [if_neg c2] at H;have c2b0 : decide (x8_1<(l0.length : Int))=false:=decide_eq_false c2;clear c2;obtain rfl:=zU H
   go_wp2
   go_ret
   exact ⟨by first|rfl|(simp;done)|(simp [*];done),by repeat (first|exact yp _|apply yq)⟩

end Go.Proofs.Ytlljfjpdflcjlaa.Q
end
section
namespace Go.Proofs.Ytlljfjpdflcjlaa.Q
open Go.RowKit Go.Proofs.YtlljfjpdflcjlaaW.PrintWords Go.Proofs.YtlljfjpdflcjlaaW.PrintLast Go.Proofs.YtlljfjpdflcjlaaW.PrintMore
attribute [local go_sem] max2_int min2_int max_two min_two max_three min_three max_four min_four max2_str min2_str str_geq str_gtr str_leq   -- for this text's walks alone
set_option linter.unusedVariables false
set_option linter.unusedSimpArgs false

def impl_byteReader_num.f (k : Nat) (s0_0 : ByteArray) (s0_1 : Bool) (a1 : Int) : Option (Int×ByteArray×Bool):=(impl_byteReader_take.f s0_0 s0_1 a1).bind fun bt136 => (if bt136.1.size≤9223372036854775807 then ((impl_big.f k (bytesOf bt136.1)).bind fun t142 => (some (t142,bt136.2.1,bt136.2.2))) else (none))
theorem impl_byteReader_num.mono : ∀ a0 a1 a2 k,LeO (impl_byteReader_num.f k a0 a1 a2) (impl_byteReader_num.f (k + 1) a0 a1 a2):=by
 intro a0 a1 a2 k;unfold impl_byteReader_num.f
 repeat' first|(with_reducible exact impl_big.mono _ _)|(with_reducible exact zQ _)|(with_reducible exact zN _)|(with_reducible refine zP ?_ ?_)|(with_reducible refine zO ?_ (fun _ => ?_))|refine zP ?_ ?_|refine zO ?_ (fun _ => ?_)
set_option maxHeartbeats 8000000 in
set_option maxRecDepth 100000 in
theorem impl_byteReader_num.calls (k : Nat) (g : Nat) (s0_0 : ByteArray) (s0_1 : Bool) (a1 : Int) (r1 : Int) (r2 : ByteArray) (r3 : Bool) (w0 w : World) (hI : IsS54 w0 w g s0_0 s0_1) (hB : Below w0.heap.size w0 w) (h : impl_byteReader_num.f k s0_0 s0_1 a1=some (r1,r2,r3)) :
  Calls Try.prog 54 #[.pointer (some ⟨g,0,none⟩),.int .i64 a1] w fun e w' => e = .returned (.int .i64 r1)∧IsS54 w0 w' g r2 r3∧Below w0.heap.size w0 w' ∧ KeepBut w w' g none:=by
 have HI0:=zh hI;have HK:=zh (KeepBut.refl w g none);have HL:=zh hB.size;clear hI;have HW0:=zh hB.size;have HB:=zh hB;clear hB;have H : ((impl_byteReader_take.f s0_0 s0_1 a1).bind fun bt136 => (if bt136.1.size≤9223372036854775807 then ((impl_big.f k (bytesOf bt136.1)).bind fun t142 => (some (t142,bt136.2.1,bt136.2.2))) else (none)))=some (r1,r2,r3):=h;clear h;replace H:=zT.mp H;obtain ⟨⟨t136,t137,t138⟩,A30,H⟩:=H;replace H : (if t136.size≤9223372036854775807 then ((impl_big.f k (bytesOf t136)).bind fun t142 => (some (t142,t137,t138))) else (none))=some (r1,r2,r3):=H;have A3:=zh A30;clear A30
 by_cases c4 : t136.size≤9223372036854775807
 ·
  rw [if_pos c4] at H
  have c4b0:=eq_true c4;have c4b1 : decide (t136.size≤9223372036854775807)=true:=decide_eq_true c4
  try have c4b2 : (9223372036854775807<t136.size)=False:=eq_false (Nat.not_lt.2 c4)
  clear c4;obtain ⟨y139,hy139⟩ : ∃ y_ : List Int,y_=(bytesOf t136):=⟨_,rfl⟩;replace H : ((impl_big.f k y139).bind fun t142 => (some (t142,t137,t138)))=some (r1,r2,r3):=by first|(rw [hy139];with_reducible exact H)|(have H2_:=(Option.bind_some _ _).symm.trans H;rw [hy139];with_reducible exact H2_)|(have H2_:=(Option.bind_some _ _).symm.trans H;with_reducible exact H2_)|with_reducible exact H|(rw [hy139];exact H)|exact H
  have Ny139:=zh hy139;clear hy139;replace H:=zT.mp H;obtain ⟨t142,A50,H⟩:=H;replace H : (some (t142,t137,t138))=some (r1,r2,r3):=H;have A5:=zh A50;clear A50;simp only [Option.some.injEq,Prod.mk.injEq] at H;obtain ⟨rfl,rfl,rfl⟩:=H
  go_enter Try.func54,Try.ntmps54
  go_wp2_with (first|((with_reducible refine zJ (f:=55) rfl ?_);refine yj (some 7) rfl rfl Try.func55 (by kernel_rfl) rfl #[.pointer (some ⟨g,0,none⟩),.int .i64 a1] rfl (by (try simp only [zt,zu,zv]);first|done|rfl|(simp only [zw,zx];rfl)|(simp only [yr,ys,zV,zW];rfl)) ?_;(with_reducible refine (impl_byteReader_take.calls  g s0_0 s0_1 a1 t136 t137 t138 w0 _ ?side1 ?side2 A3.out).mono ?_);(case side1 => repeat (with_reducible first|exact HI0.out|apply IsS54.alloc|apply IsS54.drewN|apply IsS54.drew|apply IsS54.set_0|apply IsS54.set_1));(case side2 => repeat (with_reducible first|exact HB.out|apply za|apply zb|apply zc|refine zd ?_ (IsS54.ge HI0.out)));rintro e w6 ⟨rfl,hi,hb,hk⟩;refine ⟨_,rfl,?_⟩;replace HK:=zh (KeepBut.trans (by repeat (with_reducible first|exact HK.out|apply yl|apply ym|apply yx|apply yn)) hk (.inl rfl));replace HB:=zh (hb);replace HI0:=zh (hi);(try clear hb);(try clear hb2);(try clear hk);(try clear hi))|((with_reducible refine zK (N:=8) rfl ?_);refine conv_event (base:=w6.heap.size) ?hg (N:=8) ?hd 9 44 5 t136 rfl ?hx Try.underlying9 Try.underlying44 Try.underlying5 (zy (by first|(with_reducible assumption)|assumption)) ?_;(case hd => rfl);(case hg => rfl);(case hx => first|(go_simp;done)|(go_simp;rfl)|rfl);intro v140 w7 ho8 hb;(first|rw [← Ny139.out] at ho8|(simp only [Int.reduceToNat] at ho8;rw [← Ny139.out] at ho8));have HO141:=zh (Kd.V_lower (Kd.V_mono (ok':=fun k_ => k_≠g) ho8 (fun k_ hk_ => (IsS54.fresh (by repeat (with_reducible first|exact HI0.out|apply IsS54.alloc|apply IsS54.drewN|apply IsS54.drew|apply IsS54.set_0|apply IsS54.set_1)) k_ hk_))) (keep_size (w:=w) (g:=g) (row:=none) (by repeat (with_reducible first|exact HK.out|apply yl|apply ym|apply yx|apply yn))));replace HK:=zh (KeepBut.trans (by repeat (with_reducible first|exact HK.out|apply yl|apply ym|apply yx|apply yn)) (KeepBut.of_below hb g none) (.inl rfl));replace HB:=zh (zC (by repeat (with_reducible first|exact HB.out|apply za|apply zb|apply zc|refine zd ?_ (IsS54.ge HI0.out))) hb);replace HI0:=zh (IsS54.below (by repeat (with_reducible first|exact HI0.out|apply IsS54.alloc|apply IsS54.drewN|apply IsS54.drew|apply IsS54.set_0|apply IsS54.set_1)) hb);clear hb ho8;obtain ⟨Ao9,co9,eo9⟩:=Kd.V_slice HO141.out;subst eo9)|((with_reducible refine zJ (f:=92) rfl ?_);refine yj (some 9) rfl rfl Try.func92 (by kernel_rfl) rfl #[.slice Ao9 y139.length co9] rfl (by (try simp only [zt,zu,zv]);first|done|rfl|(simp only [zw,zx];rfl)|(simp only [yr,ys,zV,zW];rfl)) ?_;(with_reducible refine (impl_big.calls k  _ _ y139 t142 _ ?side1 ?side2 A5.out).mono ?_);(case side1 => repeat (first|exact (Kd.V_reads' HO141.out).2.2|(with_reducible refine Kd.C_alloc ?_ _)|(with_reducible refine Kd.C_drewN ?_ _)|(with_reducible refine Kd.C_drew ?_)));(case side2 => exact (Kd.V_reads' HO141.out).2.1);rintro e w' ⟨rfl,⟨nd,rfl⟩⟩;refine ⟨_,rfl,?_⟩))
  go_ret
  exact ⟨by first|rfl|(simp [yt,yu] <;> rfl)|(simp [*,yt,yu] <;> rfl),by repeat (with_reducible first|exact HI0.out|apply IsS54.alloc|apply IsS54.drewN|apply IsS54.drew|apply IsS54.set_0|apply IsS54.set_1),by repeat (with_reducible first|exact HB.out|apply za|apply zb|apply zc|refine zd ?_ (IsS54.ge HI0.out)),by repeat (with_reducible first|exact HK.out|apply yl|apply ym|apply yx|apply yn)⟩
 rw [if_neg c4] at H;exact absurd H (by simp)

end Go.Proofs.Ytlljfjpdflcjlaa.Q
end
section
namespace Go.Proofs.Ytlljfjpdflcjlaa.Q
open Go.RowKit Go.Proofs.YtlljfjpdflcjlaaW.PrintWords Go.Proofs.YtlljfjpdflcjlaaW.PrintLast Go.Proofs.YtlljfjpdflcjlaaW.PrintMore
attribute [local go_sem] max2_int min2_int max_two min_two max_three min_three max_four min_four max2_str min2_str str_geq str_gtr str_leq   -- for this text's walks alone
set_option linter.unusedVariables false
set_option linter.unusedSimpArgs false

def impl_byteReader_textEnd.l0 : Nat→ByteArray→Bool→Option (ByteArray×Bool)
 | 0,_,_ => none
 | k + 1,x1000,x1001 => if x1001=true then (some (x1000,x1001)) else ((impl_byteReader_take.f x1000 x1001 1).bind fun bt143 => (if bt143.1.toList=([0] : List UInt8) then ((impl_byteReader_take.f bt143.2.1 bt143.2.2 1).bind fun bt146 => (if bt146.1.toList=([0] : List UInt8) then (some (bt146.2.1,bt146.2.2)) else (impl_byteReader_textEnd.l0 k bt146.2.1 bt146.2.2))) else (impl_byteReader_textEnd.l0 k bt143.2.1 bt143.2.2)))
def impl_byteReader_textEnd.f (k : Nat) (s0_0 : ByteArray) (s0_1 : Bool) : Option (ByteArray×Bool):=impl_byteReader_textEnd.l0 k s0_0 s0_1
theorem impl_byteReader_textEnd.mono_l : ∀ k,(∀ y0 y1,LeO (impl_byteReader_textEnd.l0 k y0 y1) (impl_byteReader_textEnd.l0 (k + 1) y0 y1))
 | 0 => fun _ _ r h => by simp [impl_byteReader_textEnd.l0] at h
 | k + 1 => by
  have ih0:=impl_byteReader_textEnd.mono_l k;intro y0 y1;unfold impl_byteReader_textEnd.l0
  repeat' first|(with_reducible exact ih0 _ _)|(with_reducible exact zQ _)|(with_reducible exact zN _)|(with_reducible refine zP ?_ ?_)|(with_reducible refine zO ?_ (fun _ => ?_))|refine zP ?_ ?_|refine zO ?_ (fun _ => ?_)
theorem impl_byteReader_textEnd.mono : ∀ a0 a1 k,LeO (impl_byteReader_textEnd.f k a0 a1) (impl_byteReader_textEnd.f (k + 1) a0 a1):=by
 intro a0 a1 k;have ih0:=impl_byteReader_textEnd.mono_l k;unfold impl_byteReader_textEnd.f
 repeat' first|(with_reducible exact ih0 _ _)|(with_reducible exact zQ _)|(with_reducible exact zN _)|(with_reducible refine zP ?_ ?_)|(with_reducible refine zO ?_ (fun _ => ?_))|refine zP ?_ ?_|refine zO ?_ (fun _ => ?_)
set_option maxHeartbeats 8000000 in
set_option maxRecDepth 100000 in
theorem impl_byteReader_textEnd.calls (k : Nat) (g : Nat) (s0_0 : ByteArray) (s0_1 : Bool) (r1 : ByteArray) (r2 : Bool) (w0 w : World) (hI : IsS54 w0 w g s0_0 s0_1) (hB : Below w0.heap.size w0 w) (h : impl_byteReader_textEnd.f k s0_0 s0_1=some (r1,r2)) :
  Calls Try.prog 56 #[.pointer (some ⟨g,0,none⟩)] w fun e w' => e = .returned (.tuple #[])∧IsS54 w0 w' g r1 r2∧Below w0.heap.size w0 w' ∧ KeepBut w w' g none:=by
 have HI0:=zh hI;have HK:=zh (KeepBut.refl w g none);have HL:=zh hB.size;clear hI;have HW0:=zh hB.size;have HB:=zh hB;clear hB;have H : (impl_byteReader_textEnd.l0 k s0_0 s0_1)=some (r1,r2):=h;clear h;have H':=zh H;clear H
 go_enter Try.func56,Try.ntmps56
 go_wp2
 go_loopg [] k (fun kq w' => ∃ (x1000_1 : ByteArray) (x1001_1 : Bool),Aside0 (impl_byteReader_textEnd.l0 kq x1000_1 x1001_1=some (r1,r2))∧Aside0 (kq≤k)∧Aside0 (IsS54 w0 w' g x1000_1 x1001_1)∧Aside0 (KeepBut w w' g none)∧Aside0 (Below w0.heap.size w0 w'))
 case atStart => exact ⟨(s0_0),(s0_1),H',⟨ye _⟩,⟨by repeat (with_reducible first|exact HI0.out|apply IsS54.alloc|apply IsS54.drewN|apply IsS54.drew|apply IsS54.set_0|apply IsS54.set_1)⟩,⟨by repeat (with_reducible first|exact HK.out|apply yl|apply ym|apply yx|apply yn)⟩,⟨by repeat (with_reducible first|exact HB.out|apply za|apply zb|apply zc|refine zd ?_ (IsS54.ge HI0.out))⟩⟩
 case round =>
  clear H';obtain ⟨x1000_1,x1001_1,HA,HK1,HI0,HK,HB⟩:=hrel
  cases gk with
  | zero => exact absurd HA.out (by simp [impl_byteReader_textEnd.l0])
  | succ k1 =>
   have H:=HA.out;clear HA;simp only [impl_byteReader_textEnd.l0] at H
   by_cases c2 : x1001_1=true
   ·
    subst c2
    have H1 : (some (x1000_1,true))=some (r1,r2):=by rw [if_pos rfl] at H;exact H
    clear H;have H:=H1;clear H1;simp only [Option.some.injEq,Prod.mk.injEq] at H;obtain ⟨rfl,rfl⟩:=H;obtain ⟨HGz3,hgz3⟩:=HI0.out;have hcz3_0:=cellS54_0 HGz3;have hcz3_1:=cellS54_1 HGz3;have hfz3_0:=zA HGz3 0;have hfz3_1:=zA HGz3 1;clear HGz3 hgz3
    go_wp2
    first|go_end0|((try simp only [Exit.inBlock,Exit.then]);refine bodyPost_ret (results_none rfl _ _ _) rfl ?_)
    exact ⟨by first|rfl|(simp [yt,yu] <;> rfl)|(simp [*,yt,yu] <;> rfl),by repeat (with_reducible first|exact HI0.out|apply IsS54.alloc|apply IsS54.drewN|apply IsS54.drew|apply IsS54.set_0|apply IsS54.set_1),by repeat (with_reducible first|exact HB.out|apply za|apply zb|apply zc|refine zd ?_ (IsS54.ge HI0.out)),by repeat (with_reducible first|exact HK.out|apply yl|apply ym|apply yx|apply yn)⟩
   replace c2:=yb.mpr c2;subst c2;have H1 : ((impl_byteReader_take.f x1000_1 false 1).bind fun bt143 => (if bt143.1.toList=([0] : List UInt8) then ((impl_byteReader_take.f bt143.2.1 bt143.2.2 1).bind fun bt146 => (if bt146.1.toList=([0] : List UInt8) then (some (bt146.2.1,bt146.2.2)) else (impl_byteReader_textEnd.l0 k1 bt146.2.1 bt146.2.2))) else (impl_byteReader_textEnd.l0 k1 bt143.2.1 bt143.2.2)))=some (r1,r2):=by rw [if_neg (show ¬ (false=true) by decide)] at H;exact H
   clear H;have H:=H1;clear H1;replace H:=zT.mp H;obtain ⟨⟨t143,t144,t145⟩,A40,H⟩:=H;replace H : (if t143.toList=([0] : List UInt8) then ((impl_byteReader_take.f t144 t145 1).bind fun bt146 => (if bt146.1.toList=([0] : List UInt8) then (some (bt146.2.1,bt146.2.2)) else (impl_byteReader_textEnd.l0 k1 bt146.2.1 bt146.2.2))) else (impl_byteReader_textEnd.l0 k1 t144 t145))=some (r1,r2):=H;have A4:=zh A40;clear A40
   by_cases c5 : t143.toList=([0] : List UInt8)
   ·
    rw [if_pos c5] at H
    have c5b0 : (t143.toList == ([0] : List UInt8))=true:=ya.mpr c5;have c5b1 : (t143.toList != ([0] : List UInt8))=false:=zX.mpr c5;clear c5;replace H:=zT.mp H;obtain ⟨⟨t146,t147,t148⟩,A60,H⟩:=H;replace H : (if t146.toList=([0] : List UInt8) then (some (t147,t148)) else (impl_byteReader_textEnd.l0 k1 t147 t148))=some (r1,r2):=H;have A6:=zh A60;clear A60
    by_cases c7 : t146.toList=([0] : List UInt8)
    ·
     rw [if_pos c7] at H
     have c7b0 : (t146.toList == ([0] : List UInt8))=true:=ya.mpr c7;have c7b1 : (t146.toList != ([0] : List UInt8))=false:=zX.mpr c7;clear c7;simp only [Option.some.injEq,Prod.mk.injEq] at H;obtain ⟨rfl,rfl⟩:=H;obtain ⟨HGz8,hgz8⟩:=HI0.out;have hcz8_0:=cellS54_0 HGz8;have hcz8_1:=cellS54_1 HGz8;have hfz8_0:=zA HGz8 0;have hfz8_1:=zA HGz8 1;clear HGz8 hgz8
     go_wp2_with (first|((with_reducible refine zJ (f:=55) rfl ?_);refine yj (some 8) rfl rfl Try.func55 (by kernel_rfl) rfl #[.pointer (some ⟨g,0,none⟩),.int .i64 1] rfl (by (try simp only [zt,zu,zv]);first|done|rfl|(simp only [zw,zx];rfl)|(simp only [yr,ys,zV,zW];rfl)) ?_;(with_reducible refine (impl_byteReader_take.calls  g x1000_1 false 1 t143 t144 t145 w0 _ ?side1 ?side2 A4.out).mono ?_);(case side1 => repeat (with_reducible first|exact HI0.out|apply IsS54.alloc|apply IsS54.drewN|apply IsS54.drew|apply IsS54.set_0|apply IsS54.set_1));(case side2 => repeat (with_reducible first|exact HB.out|apply za|apply zb|apply zc|refine zd ?_ (IsS54.ge HI0.out)));rintro e w9 ⟨rfl,hi,hb,hk⟩;refine ⟨_,rfl,?_⟩;replace HK:=zh (KeepBut.trans (by repeat (with_reducible first|exact HK.out|apply yl|apply ym|apply yx|apply yn)) hk (.inl rfl));replace HB:=zh (hb);replace HI0:=zh (hi);(try clear hb);(try clear hb2);(try clear hk);(try clear hi))|(go_at_call 55;(with_reducible refine (impl_byteReader_take.calls  g t144 t145 1 t146 t147 t148 w0 _ ?side1 ?side2 A6.out).mono ?_);(case side1 => repeat (with_reducible first|exact HI0.out|apply IsS54.alloc|apply IsS54.drewN|apply IsS54.drew|apply IsS54.set_0|apply IsS54.set_1));(case side2 => repeat (with_reducible first|exact HB.out|apply za|apply zb|apply zc|refine zd ?_ (IsS54.ge HI0.out)));rintro e w10 ⟨rfl,hi,hb,hk⟩;replace HK:=zh (KeepBut.trans (by repeat (with_reducible first|exact HK.out|apply yl|apply ym|apply yx|apply yn)) hk (.inl rfl));replace HB:=zh (hb);replace HI0:=zh (hi);(try clear hb);(try clear hb2);(try clear hk);(try clear hi)))
     first|go_end0|((try simp only [Exit.inBlock,Exit.then]);refine bodyPost_ret (results_none rfl _ _ _) rfl ?_)
     exact ⟨by first|rfl|(simp [yt,yu] <;> rfl)|(simp [*,yt,yu] <;> rfl),by repeat (with_reducible first|exact HI0.out|apply IsS54.alloc|apply IsS54.drewN|apply IsS54.drew|apply IsS54.set_0|apply IsS54.set_1),by repeat (with_reducible first|exact HB.out|apply za|apply zb|apply zc|refine zd ?_ (IsS54.ge HI0.out)),by repeat (with_reducible first|exact HK.out|apply yl|apply ym|apply yx|apply yn)⟩
    rw [if_neg c7] at H;have c7b0 : (t146.toList == ([0] : List UInt8))=false:=zY.mpr c7;have c7b1 : (t146.toList != ([0] : List UInt8))=true:=zZ.mpr c7;have H':=zh H;clear H;obtain ⟨HGz11,hgz11⟩:=HI0.out;have hcz11_0:=cellS54_0 HGz11;have hcz11_1:=cellS54_1 HGz11;have hfz11_0:=zA HGz11 0;have hfz11_1:=zA HGz11 1;clear HGz11 hgz11
    go_wp2_with (first|((with_reducible refine zJ (f:=55) rfl ?_);refine yj (some 8) rfl rfl Try.func55 (by kernel_rfl) rfl #[.pointer (some ⟨g,0,none⟩),.int .i64 1] rfl (by (try simp only [zt,zu,zv]);first|done|rfl|(simp only [zw,zx];rfl)|(simp only [yr,ys,zV,zW];rfl)) ?_;(with_reducible refine (impl_byteReader_take.calls  g x1000_1 false 1 t143 t144 t145 w0 _ ?side1 ?side2 A4.out).mono ?_);(case side1 => repeat (with_reducible first|exact HI0.out|apply IsS54.alloc|apply IsS54.drewN|apply IsS54.drew|apply IsS54.set_0|apply IsS54.set_1));(case side2 => repeat (with_reducible first|exact HB.out|apply za|apply zb|apply zc|refine zd ?_ (IsS54.ge HI0.out)));rintro e w12 ⟨rfl,hi,hb,hk⟩;refine ⟨_,rfl,?_⟩;replace HK:=zh (KeepBut.trans (by repeat (with_reducible first|exact HK.out|apply yl|apply ym|apply yx|apply yn)) hk (.inl rfl));replace HB:=zh (hb);replace HI0:=zh (hi);(try clear hb);(try clear hb2);(try clear hk);(try clear hi))|(go_at_call 55;(with_reducible refine (impl_byteReader_take.calls  g t144 t145 1 t146 t147 t148 w0 _ ?side1 ?side2 A6.out).mono ?_);(case side1 => repeat (with_reducible first|exact HI0.out|apply IsS54.alloc|apply IsS54.drewN|apply IsS54.drew|apply IsS54.set_0|apply IsS54.set_1));(case side2 => repeat (with_reducible first|exact HB.out|apply za|apply zb|apply zc|refine zd ?_ (IsS54.ge HI0.out)));rintro e w13 ⟨rfl,hi,hb,hk⟩;replace HK:=zh (KeepBut.trans (by repeat (with_reducible first|exact HK.out|apply yl|apply ym|apply yx|apply yn)) hk (.inl rfl));replace HB:=zh (hb);replace HI0:=zh (hi);(try clear hb);(try clear hb2);(try clear hk);(try clear hi)))
    go_roundg k1
    case measure => have:=HK1.out;omega
    case rel => exact ⟨(t147),(t148),H',⟨by have:=HK1.out;omega⟩,⟨by repeat (with_reducible first|exact HI0.out|apply IsS54.alloc|apply IsS54.drewN|apply IsS54.drew|apply IsS54.set_0|apply IsS54.set_1)⟩,⟨by repeat (with_reducible first|exact HK.out|apply yl|apply ym|apply yx|apply yn)⟩,⟨by repeat (with_reducible first|exact HB.out|apply za|apply zb|apply zc|refine zd ?_ (IsS54.ge HI0.out))⟩⟩
   rw [if_neg c5] at H;have c5b0 : (t143.toList == ([0] : List UInt8))=false:=zY.mpr c5;have c5b1 : (t143.toList != ([0] : List UInt8))=true:=zZ.mpr c5;have H':=zh H;clear H;obtain ⟨HGz14,hgz14⟩:=HI0.out;have hcz14_0:=cellS54_0 HGz14;have hcz14_1:=cellS54_1 HGz14;have hfz14_0:=zA HGz14 0;have hfz14_1:=zA HGz14 1;clear HGz14 hgz14
   go_wp2_with (first|((with_reducible refine zJ (f:=55) rfl ?_);refine yj (some 8) rfl rfl Try.func55 (by kernel_rfl) rfl #[.pointer (some ⟨g,0,none⟩),.int .i64 1] rfl (by (try simp only [zt,zu,zv]);first|done|rfl|(simp only [zw,zx];rfl)|(simp only [yr,ys,zV,zW];rfl)) ?_;(with_reducible refine (impl_byteReader_take.calls  g x1000_1 false 1 t143 t144 t145 w0 _ ?side1 ?side2 A4.out).mono ?_);(case side1 => repeat (with_reducible first|exact HI0.out|apply IsS54.alloc|apply IsS54.drewN|apply IsS54.drew|apply IsS54.set_0|apply IsS54.set_1));(case side2 => repeat (with_reducible first|exact HB.out|apply za|apply zb|apply zc|refine zd ?_ (IsS54.ge HI0.out)));rintro e w15 ⟨rfl,hi,hb,hk⟩;refine ⟨_,rfl,?_⟩;replace HK:=zh (KeepBut.trans (by repeat (with_reducible first|exact HK.out|apply yl|apply ym|apply yx|apply yn)) hk (.inl rfl));replace HB:=zh (hb);replace HI0:=zh (hi);(try clear hb);(try clear hb2);(try clear hk);(try clear hi)))
   go_roundg k1
   case measure => have:=HK1.out;omega
   case rel => exact ⟨(t144),(t145),H',⟨by have:=HK1.out;omega⟩,⟨by repeat (with_reducible first|exact HI0.out|apply IsS54.alloc|apply IsS54.drewN|apply IsS54.drew|apply IsS54.set_0|apply IsS54.set_1)⟩,⟨by repeat (with_reducible first|exact HK.out|apply yl|apply ym|apply yx|apply yn)⟩,⟨by repeat (with_reducible first|exact HB.out|apply za|apply zb|apply zc|refine zd ?_ (IsS54.ge HI0.out))⟩⟩

end Go.Proofs.Ytlljfjpdflcjlaa.Q
end
section
namespace Go.Proofs.Ytlljfjpdflcjlaa.Q
open Go.RowKit Go.Proofs.YtlljfjpdflcjlaaW.PrintWords Go.Proofs.YtlljfjpdflcjlaaW.PrintLast Go.Proofs.YtlljfjpdflcjlaaW.PrintMore
attribute [local go_sem] max2_int min2_int max_two min_two max_three min_three max_four min_four max2_str min2_str str_geq str_gtr str_leq   -- for this text's walks alone
set_option linter.unusedVariables false
set_option linter.unusedSimpArgs false

def impl_byteReader_ends.f (s0_0 : ByteArray) (s0_1 : Bool) : Option (Bool×ByteArray×Bool):=if s0_0.toList=([] : List UInt8) then (some (false,s0_0,s0_1)) else (if 0<(s0_0.size : Int) then (if (bt s0_0 0)=0 then ((impl_byteReader_take.f s0_0 s0_1 1).bind fun bt149 => (some (true,bt149.2.1,bt149.2.2))) else (some (false,s0_0,s0_1))) else (none))
set_option maxHeartbeats 8000000 in
set_option maxRecDepth 100000 in
theorem impl_byteReader_ends.calls (g : Nat) (s0_0 : ByteArray) (s0_1 : Bool) (r1 : Bool) (r2 : ByteArray) (r3 : Bool) (w0 w : World) (hI : IsS54 w0 w g s0_0 s0_1) (hB : Below w0.heap.size w0 w) (h : impl_byteReader_ends.f s0_0 s0_1=some (r1,r2,r3)) :
  Calls Try.prog 57 #[.pointer (some ⟨g,0,none⟩)] w fun e w' => e = .returned (.bool r1)∧IsS54 w0 w' g r2 r3∧Below w0.heap.size w0 w' ∧ KeepBut w w' g none:=by
 have HI0:=zh hI;have HK:=zh (KeepBut.refl w g none);have HL:=zh hB.size;clear hI;have HW0:=zh hB.size;have HB:=zh hB;clear hB;have H : (if s0_0.toList=([] : List UInt8) then (some (false,s0_0,s0_1)) else (if 0<(s0_0.size : Int) then (if (bt s0_0 0)=0 then ((impl_byteReader_take.f s0_0 s0_1 1).bind fun bt149 => (some (true,bt149.2.1,bt149.2.2))) else (some (false,s0_0,s0_1))) else (none)))=some (r1,r2,r3):=h;clear h
 by_cases c2 : s0_0.toList=([] : List UInt8)
 ·
  rw [if_pos c2] at H
  have c2b0 : (s0_0.toList == ([] : List UInt8))=true:=ya.mpr c2;have c2b1 : (s0_0.toList != ([] : List UInt8))=false:=zX.mpr c2;clear c2;simp only [Option.some.injEq,Prod.mk.injEq] at H;obtain ⟨rfl,rfl,rfl⟩:=H;obtain ⟨HGz3,hgz3⟩:=HI0.out;have hcz3_0:=cellS54_0 HGz3;have hcz3_1:=cellS54_1 HGz3;have hfz3_0:=zA HGz3 0;have hfz3_1:=zA HGz3 1;clear HGz3 hgz3
  go_enter Try.func57,Try.ntmps57
  go_wp2
  go_ret
  exact ⟨by first|rfl|(simp [yt,yu] <;> rfl)|(simp [*,yt,yu] <;> rfl),by repeat (with_reducible first|exact HI0.out|apply IsS54.alloc|apply IsS54.drewN|apply IsS54.drew|apply IsS54.set_0|apply IsS54.set_1),by repeat (with_reducible first|exact HB.out|apply za|apply zb|apply zc|refine zd ?_ (IsS54.ge HI0.out)),by repeat (with_reducible first|exact HK.out|apply yl|apply ym|apply yx|apply yn)⟩
 rw [if_neg c2] at H;have c2b0 : (s0_0.toList == ([] : List UInt8))=false:=zY.mpr c2;have c2b1 : (s0_0.toList != ([] : List UInt8))=true:=zZ.mpr c2
 by_cases c4 : 0<(s0_0.size : Int)
 ·
  rw [if_pos c4] at H
  have c4b0 : decide (0<(s0_0.size : Int))=true:=decide_eq_true c4;have c4b1 : decide (0<s0_0.size)=true:=decide_eq_true (by omega);clear c4
  by_cases c6 : (bt s0_0 0)=0
  ·
   rw [if_pos c6] at H
   have c6b0 : ((bt s0_0 0) == 0)=true:=ya.mpr c6;have c6b1 : ((bt s0_0 0) != 0)=false:=zX.mpr c6;clear c6;replace H:=zT.mp H;obtain ⟨⟨t149,t150,t151⟩,A70,H⟩:=H;replace H : (some (true,t150,t151))=some (r1,r2,r3):=H;have A7:=zh A70;clear A70;simp only [Option.some.injEq,Prod.mk.injEq] at H;obtain ⟨rfl,rfl,rfl⟩:=H;obtain ⟨HGz8,hgz8⟩:=HI0.out;have hcz8_0:=cellS54_0 HGz8;have hcz8_1:=cellS54_1 HGz8;have hfz8_0:=zA HGz8 0;have hfz8_1:=zA HGz8 1;clear HGz8 hgz8;have p5 : 0≤(0 : Int):=(by omega);have q5 : 0<s0_0.size:=(by have : (0 : Int)<(s0_0.size : Int):=zy (by first|(with_reducible assumption)|assumption);omega);have hx5 : ∀ h : 0<s0_0.size,((s0_0[0]'h).toNat : Int)=bt s0_0 0:=bt_at s0_0 0;clear p5;have qi5 : (0<(s0_0.size : Int))=True:=eq_true (zy (by first|(with_reducible assumption)|assumption));replace q5:=eq_true q5
   go_enter Try.func57,Try.ntmps57
   go_wp2_with (first|((with_reducible refine zJ (f:=55) rfl ?_);refine yj (some 17) rfl rfl Try.func55 (by kernel_rfl) rfl #[.pointer (some ⟨g,0,none⟩),.int .i64 1] rfl (by (try simp only [zt,zu,zv]);first|done|rfl|(simp only [zw,zx];rfl)|(simp only [yr,ys,zV,zW];rfl)) ?_;(with_reducible refine (impl_byteReader_take.calls  g s0_0 s0_1 1 t149 t150 t151 w0 _ ?side1 ?side2 A7.out).mono ?_);(case side1 => repeat (with_reducible first|exact HI0.out|apply IsS54.alloc|apply IsS54.drewN|apply IsS54.drew|apply IsS54.set_0|apply IsS54.set_1));(case side2 => repeat (with_reducible first|exact HB.out|apply za|apply zb|apply zc|refine zd ?_ (IsS54.ge HI0.out)));rintro e w9 ⟨rfl,hi,hb,hk⟩;refine ⟨_,rfl,?_⟩;replace HK:=zh (KeepBut.trans (by repeat (with_reducible first|exact HK.out|apply yl|apply ym|apply yx|apply yn)) hk (.inl rfl));replace HB:=zh (hb);replace HI0:=zh (hi);(try clear hb);(try clear hb2);(try clear hk);(try clear hi)))
   go_ret
   exact ⟨by first|rfl|(simp [yt,yu] <;> rfl)|(simp [*,yt,yu] <;> rfl),by repeat (with_reducible first|exact HI0.out|apply IsS54.alloc|apply IsS54.drewN|apply IsS54.drew|apply IsS54.set_0|apply IsS54.set_1),by repeat (with_reducible first|exact HB.out|apply za|apply zb|apply zc|refine zd ?_ (IsS54.ge HI0.out)),by repeat (with_reducible first|exact HK.out|apply yl|apply ym|apply yx|apply yn)⟩
  rw [if_neg c6] at H;have c6b0 : ((bt s0_0 0) == 0)=false:=zY.mpr c6;have c6b1 : ((bt s0_0 0) != 0)=true:=zZ.mpr c6;simp only [Option.some.injEq,Prod.mk.injEq] at H;obtain ⟨rfl,rfl,rfl⟩:=H;obtain ⟨HGz10,hgz10⟩:=HI0.out;have hcz10_0:=cellS54_0 HGz10;have hcz10_1:=cellS54_1 HGz10;have hfz10_0:=zA HGz10 0;have hfz10_1:=zA HGz10 1;clear HGz10 hgz10;have p5 : 0≤(0 : Int):=(by omega);have q5 : 0<s0_0.size:=(by have : (0 : Int)<(s0_0.size : Int):=zy (by first|(with_reducible assumption)|assumption);omega);have hx5 : ∀ h : 0<s0_0.size,((s0_0[0]'h).toNat : Int)=bt s0_0 0:=bt_at s0_0 0;clear p5;have qi5 : (0<(s0_0.size : Int))=True:=eq_true (zy (by first|(with_reducible assumption)|assumption));replace q5:=eq_true q5
  go_enter Try.func57,Try.ntmps57
  go_wp2
  go_ret
  exact ⟨by first|rfl|(simp [yt,yu] <;> rfl)|(simp [*,yt,yu] <;> rfl),by repeat (with_reducible first|exact HI0.out|apply IsS54.alloc|apply IsS54.drewN|apply IsS54.drew|apply IsS54.set_0|apply IsS54.set_1),by repeat (with_reducible first|exact HB.out|apply za|apply zb|apply zc|refine zd ?_ (IsS54.ge HI0.out)),by repeat (with_reducible first|exact HK.out|apply yl|apply ym|apply yx|apply yn)⟩
 rw [if_neg c4] at H;exact absurd H (by simp)

end Go.Proofs.Ytlljfjpdflcjlaa.Q
end
section
namespace Go.Proofs.Ytlljfjpdflcjlaa.Q
open Go.RowKit Go.Proofs.YtlljfjpdflcjlaaW.PrintWords Go.Proofs.YtlljfjpdflcjlaaW.PrintLast Go.Proofs.YtlljfjpdflcjlaaW.PrintMore
attribute [local go_sem] max2_int min2_int max_two min_two max_three min_three max_four min_four max2_str min2_str str_geq str_gtr str_leq   -- for this text's walks alone
set_option linter.unusedVariables false
set_option linter.unusedSimpArgs false

mutual
def impl_byteReader_keyEnd.l0 : Nat→ByteArray→Bool→Option (ByteArray×Bool)
 | 0,_,_ => none
 | k + 1,x1000,x1001 => if x1001=true then (some (x1000,x1001)) else ((impl_byteReader_ends.f x1000 x1001).bind fun bt163 => (if bt163.1=true then (some (bt163.2.1,bt163.2.2)) else ((impl_byteReader_keyEnd.f k bt163.2.1 bt163.2.2).bind fun bt166 => (impl_byteReader_keyEnd.l0 k bt166.1 bt166.2))))
def impl_byteReader_keyEnd.l1 : Nat→ByteArray→Bool→Option (ByteArray×Bool)
 | 0,_,_ => none
 | k + 1,x1000,x1001 => if x1001=true then (impl_byteReader_keyEnd.j2 k false x1000 x1001) else ((impl_byteReader_ends.f x1000 x1001).bind fun bt168 => (impl_byteReader_keyEnd.j2 k (!bt168.1) bt168.2.1 bt168.2.2))
def impl_byteReader_keyEnd.j2 : Nat→Bool→ByteArray→Bool→Option (ByteArray×Bool)
 | 0,_,_,_ => none
 | k + 1,x47,x1000,x1001 => if x47=true then (if x1001=true then ((impl_byteReader_textEnd.f k x1000 true).bind fun bt171 => ((impl_byteReader_keyEnd.f k bt171.1 bt171.2).bind fun bt173 => (impl_byteReader_keyEnd.l1 k bt173.1 bt173.2))) else ((impl_byteReader_num.f k x1000 x1001 1).bind fun bt175 => ((impl_byteReader_textEnd.f k bt175.2.1 (bt175.1 != 1)).bind fun bt178 => ((impl_byteReader_keyEnd.f k bt178.1 bt178.2).bind fun bt180 => (impl_byteReader_keyEnd.l1 k bt180.1 bt180.2))))) else (some (x1000,x1001))
def impl_byteReader_keyEnd.f : Nat→ByteArray→Bool→Option (ByteArray×Bool)
 | 0,_,_ => none
 | k + 1,s0_0,s0_1 => (impl_byteReader_num.f k s0_0 s0_1 1).bind fun bt152 => (if (wrap64 (bt152.1 - 1))=0 then (some (bt152.2.1,bt152.2.2)) else (if (wrap64 (bt152.1 - 1))=1 then ((impl_byteReader_take.f bt152.2.1 bt152.2.2 1).bind fun bt155 => (some (bt155.2.1,bt155.2.2))) else (if (wrap64 (bt152.1 - 1))=2 then ((impl_byteReader_take.f bt152.2.1 bt152.2.2 8).bind fun bt158 => (some (bt158.2.1,bt158.2.2))) else (if (wrap64 (bt152.1 - 1))=3 then ((impl_byteReader_textEnd.f k bt152.2.1 bt152.2.2).bind fun bt161 => (some (bt161.1,bt161.2))) else (if (wrap64 (bt152.1 - 1))=4 then (impl_byteReader_keyEnd.l0 k bt152.2.1 bt152.2.2) else (if (wrap64 (bt152.1 - 1))=5 then (impl_byteReader_keyEnd.l1 k bt152.2.1 bt152.2.2) else (some (bt152.2.1,true))))))))
end
theorem impl_byteReader_keyEnd.mono_l : ∀ k,(∀ y0 y1,LeO (impl_byteReader_keyEnd.f k y0 y1) (impl_byteReader_keyEnd.f (k + 1) y0 y1))∧(∀ y0 y1,LeO (impl_byteReader_keyEnd.l0 k y0 y1) (impl_byteReader_keyEnd.l0 (k + 1) y0 y1))∧(∀ y0 y1,LeO (impl_byteReader_keyEnd.l1 k y0 y1) (impl_byteReader_keyEnd.l1 (k + 1) y0 y1))∧(∀ y0 y1 y2,LeO (impl_byteReader_keyEnd.j2 k y0 y1 y2) (impl_byteReader_keyEnd.j2 (k + 1) y0 y1 y2))
 | 0 => ⟨fun _ _ r h => by simp [impl_byteReader_keyEnd.f] at h,fun _ _ r h => by simp [impl_byteReader_keyEnd.l0] at h,fun _ _ r h => by simp [impl_byteReader_keyEnd.l1] at h,fun _ _ _ r h => by simp [impl_byteReader_keyEnd.j2] at h⟩
 | k + 1 => by
  obtain ⟨ih0,ih1,ih2,ih3⟩:=impl_byteReader_keyEnd.mono_l k;refine ⟨?_,?_,?_,?_⟩
  ·
   intro y0 y1
   unfold impl_byteReader_keyEnd.f
   repeat' first|(with_reducible exact ih0 _ _)|(with_reducible exact ih1 _ _)|(with_reducible exact ih2 _ _)|(with_reducible exact ih3 _ _ _)|(with_reducible exact impl_byteReader_num.mono _ _ _ _)|(with_reducible exact impl_byteReader_textEnd.mono _ _ _)|(with_reducible exact zQ _)|(with_reducible exact zN _)|(with_reducible refine zP ?_ ?_)|(with_reducible refine zO ?_ (fun _ => ?_))|refine zP ?_ ?_|refine zO ?_ (fun _ => ?_)
  ·
   intro y0 y1
   unfold impl_byteReader_keyEnd.l0
   repeat' first|(with_reducible exact ih0 _ _)|(with_reducible exact ih1 _ _)|(with_reducible exact ih2 _ _)|(with_reducible exact ih3 _ _ _)|(with_reducible exact impl_byteReader_num.mono _ _ _ _)|(with_reducible exact impl_byteReader_textEnd.mono _ _ _)|(with_reducible exact zQ _)|(with_reducible exact zN _)|(with_reducible refine zP ?_ ?_)|(with_reducible refine zO ?_ (fun _ => ?_))|refine zP ?_ ?_|refine zO ?_ (fun _ => ?_)
  ·
   intro y0 y1
   unfold impl_byteReader_keyEnd.l1
   repeat' first|(with_reducible exact ih0 _ _)|(with_reducible exact ih1 _ _)|(with_reducible exact ih2 _ _)|(with_reducible exact ih3 _ _ _)|(with_reducible exact impl_byteReader_num.mono _ _ _ _)|(with_reducible exact impl_byteReader_textEnd.mono _ _ _)|(with_reducible exact zQ _)|(with_reducible exact zN _)|(with_reducible refine zP ?_ ?_)|(with_reducible refine zO ?_ (fun _ => ?_))|refine zP ?_ ?_|refine zO ?_ (fun _ => ?_)
  intro y0 y1 y2;unfold impl_byteReader_keyEnd.j2
  repeat' first|(with_reducible exact ih0 _ _)|(with_reducible exact ih1 _ _)|(with_reducible exact ih2 _ _)|(with_reducible exact ih3 _ _ _)|(with_reducible exact impl_byteReader_num.mono _ _ _ _)|(with_reducible exact impl_byteReader_textEnd.mono _ _ _)|(with_reducible exact zQ _)|(with_reducible exact zN _)|(with_reducible refine zP ?_ ?_)|(with_reducible refine zO ?_ (fun _ => ?_))|refine zP ?_ ?_|refine zO ?_ (fun _ => ?_)
theorem impl_byteReader_keyEnd.mono : ∀ a0 a1 k,LeO (impl_byteReader_keyEnd.f k a0 a1) (impl_byteReader_keyEnd.f (k + 1) a0 a1):=by
 intro a0 a1 k;obtain ⟨ih0,ih1,ih2,ih3⟩:=impl_byteReader_keyEnd.mono_l k;exact ih0 a0 a1
set_option maxHeartbeats 8000000 in
set_option maxRecDepth 100000 in
theorem impl_byteReader_keyEnd.calls (k : Nat) : ∀ (g : Nat) (s0_0 : ByteArray) (s0_1 : Bool) (r1 : ByteArray) (r2 : Bool) (w0 w : World) (hI : IsS54 w0 w g s0_0 s0_1) (hB : Below w0.heap.size w0 w) (h : impl_byteReader_keyEnd.f k s0_0 s0_1=some (r1,r2)),
  Calls Try.prog 31 #[.pointer (some ⟨g,0,none⟩)] w fun e w' => e = .returned (.tuple #[])∧IsS54 w0 w' g r1 r2∧Below w0.heap.size w0 w' ∧ KeepBut w w' g none:=by
 induction k using Nat.strongRecOn with
 | _ k ih =>
 intro g s0_0 s0_1 r1 r2 w0 w hI hB h
 cases k with
 | zero => exact absurd h (by simp [impl_byteReader_keyEnd.f])
 | succ k =>
 simp only [impl_byteReader_keyEnd.f] at h;have HI0:=zh hI;have HK:=zh (KeepBut.refl w g none);have HL:=zh hB.size;clear hI;have HW0:=zh hB.size;have HB:=zh hB;clear hB;have H : ((impl_byteReader_num.f k s0_0 s0_1 1).bind fun bt152 => (if (wrap64 (bt152.1 - 1))=0 then (some (bt152.2.1,bt152.2.2)) else (if (wrap64 (bt152.1 - 1))=1 then ((impl_byteReader_take.f bt152.2.1 bt152.2.2 1).bind fun bt155 => (some (bt155.2.1,bt155.2.2))) else (if (wrap64 (bt152.1 - 1))=2 then ((impl_byteReader_take.f bt152.2.1 bt152.2.2 8).bind fun bt158 => (some (bt158.2.1,bt158.2.2))) else (if (wrap64 (bt152.1 - 1))=3 then ((impl_byteReader_textEnd.f k bt152.2.1 bt152.2.2).bind fun bt161 => (some (bt161.1,bt161.2))) else (if (wrap64 (bt152.1 - 1))=4 then (impl_byteReader_keyEnd.l0 k bt152.2.1 bt152.2.2) else (if (wrap64 (bt152.1 - 1))=5 then (impl_byteReader_keyEnd.l1 k bt152.2.1 bt152.2.2) else (some (bt152.2.1,true)))))))))=some (r1,r2):=h;clear h;replace H:=zT.mp H;obtain ⟨⟨t152,t153,t154⟩,A20,H⟩:=H;replace H : (if (wrap64 (t152 - 1))=0 then (some (t153,t154)) else (if (wrap64 (t152 - 1))=1 then ((impl_byteReader_take.f t153 t154 1).bind fun bt155 => (some (bt155.2.1,bt155.2.2))) else (if (wrap64 (t152 - 1))=2 then ((impl_byteReader_take.f t153 t154 8).bind fun bt158 => (some (bt158.2.1,bt158.2.2))) else (if (wrap64 (t152 - 1))=3 then ((impl_byteReader_textEnd.f k t153 t154).bind fun bt161 => (some (bt161.1,bt161.2))) else (if (wrap64 (t152 - 1))=4 then (impl_byteReader_keyEnd.l0 k t153 t154) else (if (wrap64 (t152 - 1))=5 then (impl_byteReader_keyEnd.l1 k t153 t154) else (some (t153,true))))))))=some (r1,r2):=H;have A2:=zh A20;clear A20
 by_cases c3 : (wrap64 (t152 - 1))=0
 ·
  rw [if_pos c3] at H
  have c3b0 : ((wrap64 (t152 - 1)) == 0)=true:=ya.mpr c3;have c3b1 : ((wrap64 (t152 - 1)) != 0)=false:=zX.mpr c3;clear c3;simp only [Option.some.injEq,Prod.mk.injEq] at H;obtain ⟨rfl,rfl⟩:=H
  go_enter Try.func31,Try.ntmps31
  go_wp2_with (first|((with_reducible refine zJ (f:=54) rfl ?_);refine yj (some 3) rfl rfl Try.func54 (by kernel_rfl) rfl #[.pointer (some ⟨g,0,none⟩),.int .i64 1] rfl (by (try simp only [zt,zu,zv]);first|done|rfl|(simp only [zw,zx];rfl)|(simp only [yr,ys,zV,zW];rfl)) ?_;(with_reducible refine (impl_byteReader_num.calls k  g s0_0 s0_1 1 t152 t153 t154 w0 _ ?side1 ?side2 A2.out).mono ?_);(case side1 => repeat (with_reducible first|exact HI0.out|apply IsS54.alloc|apply IsS54.drewN|apply IsS54.drew|apply IsS54.set_0|apply IsS54.set_1));(case side2 => repeat (with_reducible first|exact HB.out|apply za|apply zb|apply zc|refine zd ?_ (IsS54.ge HI0.out)));rintro e w4 ⟨rfl,hi,hb,hk⟩;refine ⟨_,rfl,?_⟩;replace HK:=zh (KeepBut.trans (by repeat (with_reducible first|exact HK.out|apply yl|apply ym|apply yx|apply yn)) hk (.inl rfl));replace HB:=zh (hb);replace HI0:=zh (hi);(try clear hb);(try clear hb2);(try clear hk);(try clear hi)))
  first|go_end0|((try simp only [Exit.inBlock,Exit.then]);refine bodyPost_ret (results_none rfl _ _ _) rfl ?_)
  exact ⟨by first|rfl|(simp [yt,yu] <;> rfl)|(simp [*,yt,yu] <;> rfl),by repeat (with_reducible first|exact HI0.out|apply IsS54.alloc|apply IsS54.drewN|apply IsS54.drew|apply IsS54.set_0|apply IsS54.set_1),by repeat (with_reducible first|exact HB.out|apply za|apply zb|apply zc|refine zd ?_ (IsS54.ge HI0.out)),by repeat (with_reducible first|exact HK.out|apply yl|apply ym|apply yx|apply yn)⟩
 rw [if_neg c3] at H;have c3b0 : ((wrap64 (t152 - 1)) == 0)=false:=zY.mpr c3;have c3b1 : ((wrap64 (t152 - 1)) != 0)=true:=zZ.mpr c3
 by_cases c5 : (wrap64 (t152 - 1))=1
 ·
  rw [if_pos c5] at H
  have c5b0 : ((wrap64 (t152 - 1)) == 1)=true:=ya.mpr c5;have c5b1 : ((wrap64 (t152 - 1)) != 1)=false:=zX.mpr c5;clear c5;replace H:=zT.mp H;obtain ⟨⟨t155,t156,t157⟩,A60,H⟩:=H;replace H : (some (t156,t157))=some (r1,r2):=H;have A6:=zh A60;clear A60;simp only [Option.some.injEq,Prod.mk.injEq] at H;obtain ⟨rfl,rfl⟩:=H
  go_enter Try.func31,Try.ntmps31
  go_wp2_with (first|((with_reducible refine zJ (f:=54) rfl ?_);refine yj (some 3) rfl rfl Try.func54 (by kernel_rfl) rfl #[.pointer (some ⟨g,0,none⟩),.int .i64 1] rfl (by (try simp only [zt,zu,zv]);first|done|rfl|(simp only [zw,zx];rfl)|(simp only [yr,ys,zV,zW];rfl)) ?_;(with_reducible refine (impl_byteReader_num.calls k  g s0_0 s0_1 1 t152 t153 t154 w0 _ ?side1 ?side2 A2.out).mono ?_);(case side1 => repeat (with_reducible first|exact HI0.out|apply IsS54.alloc|apply IsS54.drewN|apply IsS54.drew|apply IsS54.set_0|apply IsS54.set_1));(case side2 => repeat (with_reducible first|exact HB.out|apply za|apply zb|apply zc|refine zd ?_ (IsS54.ge HI0.out)));rintro e w7 ⟨rfl,hi,hb,hk⟩;refine ⟨_,rfl,?_⟩;replace HK:=zh (KeepBut.trans (by repeat (with_reducible first|exact HK.out|apply yl|apply ym|apply yx|apply yn)) hk (.inl rfl));replace HB:=zh (hb);replace HI0:=zh (hi);(try clear hb);(try clear hb2);(try clear hk);(try clear hi))|((with_reducible refine zJ (f:=55) rfl ?_);refine yj (some 13) rfl rfl Try.func55 (by kernel_rfl) rfl #[.pointer (some ⟨g,0,none⟩),.int .i64 1] rfl (by (try simp only [zt,zu,zv]);first|done|rfl|(simp only [zw,zx];rfl)|(simp only [yr,ys,zV,zW];rfl)) ?_;(with_reducible refine (impl_byteReader_take.calls  g t153 t154 1 t155 t156 t157 w0 _ ?side1 ?side2 A6.out).mono ?_);(case side1 => repeat (with_reducible first|exact HI0.out|apply IsS54.alloc|apply IsS54.drewN|apply IsS54.drew|apply IsS54.set_0|apply IsS54.set_1));(case side2 => repeat (with_reducible first|exact HB.out|apply za|apply zb|apply zc|refine zd ?_ (IsS54.ge HI0.out)));rintro e w8 ⟨rfl,hi,hb,hk⟩;refine ⟨_,rfl,?_⟩;replace HK:=zh (KeepBut.trans (by repeat (with_reducible first|exact HK.out|apply yl|apply ym|apply yx|apply yn)) hk (.inl rfl));replace HB:=zh (hb);replace HI0:=zh (hi);(try clear hb);(try clear hb2);(try clear hk);(try clear hi)))
  first|go_end0|((try simp only [Exit.inBlock,Exit.then]);refine bodyPost_ret (results_none rfl _ _ _) rfl ?_)
  exact ⟨by first|rfl|(simp [yt,yu] <;> rfl)|(simp [*,yt,yu] <;> rfl),by repeat (with_reducible first|exact HI0.out|apply IsS54.alloc|apply IsS54.drewN|apply IsS54.drew|apply IsS54.set_0|apply IsS54.set_1),by repeat (with_reducible first|exact HB.out|apply za|apply zb|apply zc|refine zd ?_ (IsS54.ge HI0.out)),by repeat (with_reducible first|exact HK.out|apply yl|apply ym|apply yx|apply yn)⟩
 rw [if_neg c5] at H;have c5b0 : ((wrap64 (t152 - 1)) == 1)=false:=zY.mpr c5;have c5b1 : ((wrap64 (t152 - 1)) != 1)=true:=zZ.mpr c5
 by_cases c9 : (wrap64 (t152 - 1))=2
 ·
  rw [if_pos c9] at H
  have c9b0 : ((wrap64 (t152 - 1)) == 2)=true:=ya.mpr c9;have c9b1 : ((wrap64 (t152 - 1)) != 2)=false:=zX.mpr c9;clear c9;replace H:=zT.mp H;obtain ⟨⟨t158,t159,t160⟩,A100,H⟩:=H;replace H : (some (t159,t160))=some (r1,r2):=H;have A10:=zh A100;clear A100;simp only [Option.some.injEq,Prod.mk.injEq] at H;obtain ⟨rfl,rfl⟩:=H
  go_enter Try.func31,Try.ntmps31
  go_wp2_with (first|((with_reducible refine zJ (f:=54) rfl ?_);refine yj (some 3) rfl rfl Try.func54 (by kernel_rfl) rfl #[.pointer (some ⟨g,0,none⟩),.int .i64 1] rfl (by (try simp only [zt,zu,zv]);first|done|rfl|(simp only [zw,zx];rfl)|(simp only [yr,ys,zV,zW];rfl)) ?_;(with_reducible refine (impl_byteReader_num.calls k  g s0_0 s0_1 1 t152 t153 t154 w0 _ ?side1 ?side2 A2.out).mono ?_);(case side1 => repeat (with_reducible first|exact HI0.out|apply IsS54.alloc|apply IsS54.drewN|apply IsS54.drew|apply IsS54.set_0|apply IsS54.set_1));(case side2 => repeat (with_reducible first|exact HB.out|apply za|apply zb|apply zc|refine zd ?_ (IsS54.ge HI0.out)));rintro e w11 ⟨rfl,hi,hb,hk⟩;refine ⟨_,rfl,?_⟩;replace HK:=zh (KeepBut.trans (by repeat (with_reducible first|exact HK.out|apply yl|apply ym|apply yx|apply yn)) hk (.inl rfl));replace HB:=zh (hb);replace HI0:=zh (hi);(try clear hb);(try clear hb2);(try clear hk);(try clear hi))|((with_reducible refine zJ (f:=55) rfl ?_);refine yj (some 17) rfl rfl Try.func55 (by kernel_rfl) rfl #[.pointer (some ⟨g,0,none⟩),.int .i64 8] rfl (by (try simp only [zt,zu,zv]);first|done|rfl|(simp only [zw,zx];rfl)|(simp only [yr,ys,zV,zW];rfl)) ?_;(with_reducible refine (impl_byteReader_take.calls  g t153 t154 8 t158 t159 t160 w0 _ ?side1 ?side2 A10.out).mono ?_);(case side1 => repeat (with_reducible first|exact HI0.out|apply IsS54.alloc|apply IsS54.drewN|apply IsS54.drew|apply IsS54.set_0|apply IsS54.set_1));(case side2 => repeat (with_reducible first|exact HB.out|apply za|apply zb|apply zc|refine zd ?_ (IsS54.ge HI0.out)));rintro e w12 ⟨rfl,hi,hb,hk⟩;refine ⟨_,rfl,?_⟩;replace HK:=zh (KeepBut.trans (by repeat (with_reducible first|exact HK.out|apply yl|apply ym|apply yx|apply yn)) hk (.inl rfl));replace HB:=zh (hb);replace HI0:=zh (hi);(try clear hb);(try clear hb2);(try clear hk);(try clear hi)))
  first|go_end0|((try simp only [Exit.inBlock,Exit.then]);refine bodyPost_ret (results_none rfl _ _ _) rfl ?_)
  exact ⟨by first|rfl|(simp [yt,yu] <;> rfl)|(simp [*,yt,yu] <;> rfl),by repeat (with_reducible first|exact HI0.out|apply IsS54.alloc|apply IsS54.drewN|apply IsS54.drew|apply IsS54.set_0|apply IsS54.set_1),by repeat (with_reducible first|exact HB.out|apply za|apply zb|apply zc|refine zd ?_ (IsS54.ge HI0.out)),by repeat (with_reducible first|exact HK.out|apply yl|apply ym|apply yx|apply yn)⟩
 rw [if_neg c9] at H;have c9b0 : ((wrap64 (t152 - 1)) == 2)=false:=zY.mpr c9;have c9b1 : ((wrap64 (t152 - 1)) != 2)=true:=zZ.mpr c9
 by_cases c13 : (wrap64 (t152 - 1))=3
 ·
  rw [if_pos c13] at H
  have c13b0 : ((wrap64 (t152 - 1)) == 3)=true:=ya.mpr c13;have c13b1 : ((wrap64 (t152 - 1)) != 3)=false:=zX.mpr c13;clear c13;replace H:=zT.mp H;obtain ⟨⟨t161,t162⟩,A140,H⟩:=H;replace H : (some (t161,t162))=some (r1,r2):=H;have A14:=zh A140;clear A140;simp only [Option.some.injEq,Prod.mk.injEq] at H;obtain ⟨rfl,rfl⟩:=H
  go_enter Try.func31,Try.ntmps31
  go_wp2_with (first|((with_reducible refine zJ (f:=54) rfl ?_);refine yj (some 3) rfl rfl Try.func54 (by kernel_rfl) rfl #[.pointer (some ⟨g,0,none⟩),.int .i64 1] rfl (by (try simp only [zt,zu,zv]);first|done|rfl|(simp only [zw,zx];rfl)|(simp only [yr,ys,zV,zW];rfl)) ?_;(with_reducible refine (impl_byteReader_num.calls k  g s0_0 s0_1 1 t152 t153 t154 w0 _ ?side1 ?side2 A2.out).mono ?_);(case side1 => repeat (with_reducible first|exact HI0.out|apply IsS54.alloc|apply IsS54.drewN|apply IsS54.drew|apply IsS54.set_0|apply IsS54.set_1));(case side2 => repeat (with_reducible first|exact HB.out|apply za|apply zb|apply zc|refine zd ?_ (IsS54.ge HI0.out)));rintro e w15 ⟨rfl,hi,hb,hk⟩;refine ⟨_,rfl,?_⟩;replace HK:=zh (KeepBut.trans (by repeat (with_reducible first|exact HK.out|apply yl|apply ym|apply yx|apply yn)) hk (.inl rfl));replace HB:=zh (hb);replace HI0:=zh (hi);(try clear hb);(try clear hb2);(try clear hk);(try clear hi))|((with_reducible refine zJ (f:=56) rfl ?_);refine yj (some 21) rfl rfl Try.func56 (by kernel_rfl) rfl #[.pointer (some ⟨g,0,none⟩)] rfl (by (try simp only [zt,zu,zv]);first|done|rfl|(simp only [zw,zx];rfl)|(simp only [yr,ys,zV,zW];rfl)) ?_;(with_reducible refine (impl_byteReader_textEnd.calls k  g t153 t154 t161 t162 w0 _ ?side1 ?side2 A14.out).mono ?_);(case side1 => repeat (with_reducible first|exact HI0.out|apply IsS54.alloc|apply IsS54.drewN|apply IsS54.drew|apply IsS54.set_0|apply IsS54.set_1));(case side2 => repeat (with_reducible first|exact HB.out|apply za|apply zb|apply zc|refine zd ?_ (IsS54.ge HI0.out)));rintro e w16 ⟨rfl,hi,hb,hk⟩;refine ⟨_,rfl,?_⟩;replace HK:=zh (KeepBut.trans (by repeat (with_reducible first|exact HK.out|apply yl|apply ym|apply yx|apply yn)) hk (.inl rfl));replace HB:=zh (hb);replace HI0:=zh (hi);(try clear hb);(try clear hb2);(try clear hk);(try clear hi)))
  first|go_end0|((try simp only [Exit.inBlock,Exit.then]);refine bodyPost_ret (results_none rfl _ _ _) rfl ?_)
  exact ⟨by first|rfl|(simp [yt,yu] <;> rfl)|(simp [*,yt,yu] <;> rfl),by repeat (with_reducible first|exact HI0.out|apply IsS54.alloc|apply IsS54.drewN|apply IsS54.drew|apply IsS54.set_0|apply IsS54.set_1),by repeat (with_reducible first|exact HB.out|apply za|apply zb|apply zc|refine zd ?_ (IsS54.ge HI0.out)),by repeat (with_reducible first|exact HK.out|apply yl|apply ym|apply yx|apply yn)⟩
 rw [if_neg c13] at H;have c13b0 : ((wrap64 (t152 - 1)) == 3)=false:=zY.mpr c13;have c13b1 : ((wrap64 (t152 - 1)) != 3)=true:=zZ.mpr c13
 by_cases c17 : (wrap64 (t152 - 1))=4
 ·
  rw [if_pos c17] at H
  have c17b0 : ((wrap64 (t152 - 1)) == 4)=true:=ya.mpr c17;have c17b1 : ((wrap64 (t152 - 1)) != 4)=false:=zX.mpr c17;clear c17;have H':=zh H;clear H
  go_enter Try.func31,Try.ntmps31
  go_wp2_with (first|((with_reducible refine zJ (f:=54) rfl ?_);refine yj (some 3) rfl rfl Try.func54 (by kernel_rfl) rfl #[.pointer (some ⟨g,0,none⟩),.int .i64 1] rfl (by (try simp only [zt,zu,zv]);first|done|rfl|(simp only [zw,zx];rfl)|(simp only [yr,ys,zV,zW];rfl)) ?_;(with_reducible refine (impl_byteReader_num.calls k  g s0_0 s0_1 1 t152 t153 t154 w0 _ ?side1 ?side2 A2.out).mono ?_);(case side1 => repeat (with_reducible first|exact HI0.out|apply IsS54.alloc|apply IsS54.drewN|apply IsS54.drew|apply IsS54.set_0|apply IsS54.set_1));(case side2 => repeat (with_reducible first|exact HB.out|apply za|apply zb|apply zc|refine zd ?_ (IsS54.ge HI0.out)));rintro e w18 ⟨rfl,hi,hb,hk⟩;refine ⟨_,rfl,?_⟩;replace HK:=zh (KeepBut.trans (by repeat (with_reducible first|exact HK.out|apply yl|apply ym|apply yx|apply yn)) hk (.inl rfl));replace HB:=zh (hb);replace HI0:=zh (hi);(try clear hb);(try clear hb2);(try clear hk);(try clear hi)))
  go_loopg [] k (fun kq w' => ∃ (x1000_1 : ByteArray) (x1001_1 : Bool),Aside0 (impl_byteReader_keyEnd.l0 kq x1000_1 x1001_1=some (r1,r2))∧Aside0 (kq≤k)∧Aside0 (IsS54 w0 w' g x1000_1 x1001_1)∧Aside0 (KeepBut w w' g none)∧Aside0 (Below w0.heap.size w0 w'))
  case atStart => exact ⟨(t153),(t154),H',⟨ye _⟩,⟨by repeat (with_reducible first|exact HI0.out|apply IsS54.alloc|apply IsS54.drewN|apply IsS54.drew|apply IsS54.set_0|apply IsS54.set_1)⟩,⟨by repeat (with_reducible first|exact HK.out|apply yl|apply ym|apply yx|apply yn)⟩,⟨by repeat (with_reducible first|exact HB.out|apply za|apply zb|apply zc|refine zd ?_ (IsS54.ge HI0.out))⟩⟩
  case round =>
   clear H'
   try clear c1
   try clear p2
   try clear c3
   try clear c3b0
   try clear c3b1
   try clear c5
   try clear c5b0
   try clear c5b1
   try clear p6
   try clear c9
   try clear c9b0
   try clear c9b1
   try clear c13
   try clear c13b0
   try clear c13b1
   try clear c17
   try clear c17b0
   try clear c17b1
   obtain ⟨x1000_1,x1001_1,HA,HK1,HI0,HK,HB⟩:=hrel
   cases gk with
   | zero => exact absurd HA.out (by simp [impl_byteReader_keyEnd.l0])
   | succ k1 =>
    have H:=HA.out;clear HA;simp only [impl_byteReader_keyEnd.l0] at H
    by_cases c19 : x1001_1=true
    ·
     subst c19
     have H1 : (some (x1000_1,true))=some (r1,r2):=by rw [if_pos rfl] at H;exact H
     clear H;have H:=H1;clear H1;simp only [Option.some.injEq,Prod.mk.injEq] at H;obtain ⟨rfl,rfl⟩:=H;obtain ⟨HGz20,hgz20⟩:=HI0.out;have hcz20_0:=cellS54_0 HGz20;have hcz20_1:=cellS54_1 HGz20;have hfz20_0:=zA HGz20 0;have hfz20_1:=zA HGz20 1;clear HGz20 hgz20
     go_wp2
     first|go_end0|((try simp only [Exit.inBlock,Exit.then]);refine bodyPost_ret (results_none rfl _ _ _) rfl ?_)
     exact ⟨by first|rfl|(simp [yt,yu] <;> rfl)|(simp [*,yt,yu] <;> rfl),by repeat (with_reducible first|exact HI0.out|apply IsS54.alloc|apply IsS54.drewN|apply IsS54.drew|apply IsS54.set_0|apply IsS54.set_1),by repeat (with_reducible first|exact HB.out|apply za|apply zb|apply zc|refine zd ?_ (IsS54.ge HI0.out)),by repeat (with_reducible first|exact HK.out|apply yl|apply ym|apply yx|apply yn)⟩
    replace c19:=yb.mpr c19;subst c19;have H1 : ((impl_byteReader_ends.f x1000_1 false).bind fun bt163 => (if bt163.1=true then (some (bt163.2.1,bt163.2.2)) else ((impl_byteReader_keyEnd.f k1 bt163.2.1 bt163.2.2).bind fun bt166 => (impl_byteReader_keyEnd.l0 k1 bt166.1 bt166.2))))=some (r1,r2):=by rw [if_neg (show ¬ (false=true) by decide)] at H;exact H
    clear H;have H:=H1;clear H1;replace H:=zT.mp H;obtain ⟨⟨t163,t164,t165⟩,A210,H⟩:=H;replace H : (if t163=true then (some (t164,t165)) else ((impl_byteReader_keyEnd.f k1 t164 t165).bind fun bt166 => (impl_byteReader_keyEnd.l0 k1 bt166.1 bt166.2)))=some (r1,r2):=H;have A21:=zh A210;clear A210
    by_cases c22 : t163=true
    ·
     subst c22
     have H1 : (some (t164,t165))=some (r1,r2):=by rw [if_pos rfl] at H;exact H
     clear H;have H:=H1;clear H1;simp only [Option.some.injEq,Prod.mk.injEq] at H;obtain ⟨rfl,rfl⟩:=H;obtain ⟨HGz23,hgz23⟩:=HI0.out;have hcz23_0:=cellS54_0 HGz23;have hcz23_1:=cellS54_1 HGz23;have hfz23_0:=zA HGz23 0;have hfz23_1:=zA HGz23 1;clear HGz23 hgz23
     go_wp2_with (first|(go_at_call 57;(with_reducible refine (impl_byteReader_ends.calls  g x1000_1 false true t164 t165 w0 _ ?side1 ?side2 A21.out).mono ?_);(case side1 => repeat (with_reducible first|exact HI0.out|apply IsS54.alloc|apply IsS54.drewN|apply IsS54.drew|apply IsS54.set_0|apply IsS54.set_1));(case side2 => repeat (with_reducible first|exact HB.out|apply za|apply zb|apply zc|refine zd ?_ (IsS54.ge HI0.out)));rintro e w24 ⟨rfl,hi,hb,hk⟩;replace HK:=zh (KeepBut.trans (by repeat (with_reducible first|exact HK.out|apply yl|apply ym|apply yx|apply yn)) hk (.inl rfl));replace HB:=zh (hb);replace HI0:=zh (hi);(try clear hb);(try clear hb2);(try clear hk);(try clear hi)))
     first|go_end0|((try simp only [Exit.inBlock,Exit.then]);refine bodyPost_ret (results_none rfl _ _ _) rfl ?_)
     exact ⟨by first|rfl|(simp [yt,yu] <;> rfl)|(simp [*,yt,yu] <;> rfl),by repeat (with_reducible first|exact HI0.out|apply IsS54.alloc|apply IsS54.drewN|apply IsS54.drew|apply IsS54.set_0|apply IsS54.set_1),by repeat (with_reducible first|exact HB.out|apply za|apply zb|apply zc|refine zd ?_ (IsS54.ge HI0.out)),by repeat (with_reducible first|exact HK.out|apply yl|apply ym|apply yx|apply yn)⟩
    replace c22:=yb.mpr c22;subst c22;have H1 : ((impl_byteReader_keyEnd.f k1 t164 t165).bind fun bt166 => (impl_byteReader_keyEnd.l0 k1 bt166.1 bt166.2))=some (r1,r2):=by rw [if_neg (show ¬ (false=true) by decide)] at H;exact H
    clear H;have H:=H1;clear H1;replace H:=zT.mp H;obtain ⟨⟨t166,t167⟩,A250,H⟩:=H;replace H : (impl_byteReader_keyEnd.l0 k1 t166 t167)=some (r1,r2):=H;have A25:=zh A250;clear A250;have H':=zh H;clear H;obtain ⟨HGz26,hgz26⟩:=HI0.out;have hcz26_0:=cellS54_0 HGz26;have hcz26_1:=cellS54_1 HGz26;have hfz26_0:=zA HGz26 0;have hfz26_1:=zA HGz26 1;clear HGz26 hgz26
    go_wp2_with (first|(go_at_call 57;(with_reducible refine (impl_byteReader_ends.calls  g x1000_1 false false t164 t165 w0 _ ?side1 ?side2 A21.out).mono ?_);(case side1 => repeat (with_reducible first|exact HI0.out|apply IsS54.alloc|apply IsS54.drewN|apply IsS54.drew|apply IsS54.set_0|apply IsS54.set_1));(case side2 => repeat (with_reducible first|exact HB.out|apply za|apply zb|apply zc|refine zd ?_ (IsS54.ge HI0.out)));rintro e w27 ⟨rfl,hi,hb,hk⟩;replace HK:=zh (KeepBut.trans (by repeat (with_reducible first|exact HK.out|apply yl|apply ym|apply yx|apply yn)) hk (.inl rfl));replace HB:=zh (hb);replace HI0:=zh (hi);(try clear hb);(try clear hb2);(try clear hk);(try clear hi))|((with_reducible refine zJ (f:=31) rfl ?_);refine yj (some 35) rfl rfl Try.func31 (by kernel_rfl) rfl #[.pointer (some ⟨g,0,none⟩)] rfl (by (try simp only [zt,zu,zv]);first|done|rfl|(simp only [zw,zx];rfl)|(simp only [yr,ys,zV,zW];rfl)) ?_;(with_reducible refine (ih k1 (by have:=HK1.out;omega)  g t164 t165 t166 t167 w0 _ ?side1 ?side2 A25.out).mono ?_);(case side1 => repeat (with_reducible first|exact HI0.out|apply IsS54.alloc|apply IsS54.drewN|apply IsS54.drew|apply IsS54.set_0|apply IsS54.set_1));(case side2 => repeat (with_reducible first|exact HB.out|apply za|apply zb|apply zc|refine zd ?_ (IsS54.ge HI0.out)));rintro e w28 ⟨rfl,hi,hb,hk⟩;refine ⟨_,rfl,?_⟩;replace HK:=zh (KeepBut.trans (by repeat (with_reducible first|exact HK.out|apply yl|apply ym|apply yx|apply yn)) hk (.inl rfl));replace HB:=zh (hb);replace HI0:=zh (hi);(try clear hb);(try clear hb2);(try clear hk);(try clear hi)))
    go_roundg k1
    case measure => have:=HK1.out;omega
    case rel => exact ⟨(t166),(t167),H',⟨by have:=HK1.out;omega⟩,⟨by repeat (with_reducible first|exact HI0.out|apply IsS54.alloc|apply IsS54.drewN|apply IsS54.drew|apply IsS54.set_0|apply IsS54.set_1)⟩,⟨by repeat (with_reducible first|exact HK.out|apply yl|apply ym|apply yx|apply yn)⟩,⟨by repeat (with_reducible first|exact HB.out|apply za|apply zb|apply zc|refine zd ?_ (IsS54.ge HI0.out))⟩⟩
 rw [if_neg c17] at H;have c17b0 : ((wrap64 (t152 - 1)) == 4)=false:=zY.mpr c17;have c17b1 : ((wrap64 (t152 - 1)) != 4)=true:=zZ.mpr c17
 by_cases c29 : (wrap64 (t152 - 1))=5
 ·
  rw [if_pos c29] at H
  have c29b0 : ((wrap64 (t152 - 1)) == 5)=true:=ya.mpr c29;have c29b1 : ((wrap64 (t152 - 1)) != 5)=false:=zX.mpr c29;clear c29;have H':=zh H;clear H
  go_enter Try.func31,Try.ntmps31
  go_wp2_with (first|((with_reducible refine zJ (f:=54) rfl ?_);refine yj (some 3) rfl rfl Try.func54 (by kernel_rfl) rfl #[.pointer (some ⟨g,0,none⟩),.int .i64 1] rfl (by (try simp only [zt,zu,zv]);first|done|rfl|(simp only [zw,zx];rfl)|(simp only [yr,ys,zV,zW];rfl)) ?_;(with_reducible refine (impl_byteReader_num.calls k  g s0_0 s0_1 1 t152 t153 t154 w0 _ ?side1 ?side2 A2.out).mono ?_);(case side1 => repeat (with_reducible first|exact HI0.out|apply IsS54.alloc|apply IsS54.drewN|apply IsS54.drew|apply IsS54.set_0|apply IsS54.set_1));(case side2 => repeat (with_reducible first|exact HB.out|apply za|apply zb|apply zc|refine zd ?_ (IsS54.ge HI0.out)));rintro e w30 ⟨rfl,hi,hb,hk⟩;refine ⟨_,rfl,?_⟩;replace HK:=zh (KeepBut.trans (by repeat (with_reducible first|exact HK.out|apply yl|apply ym|apply yx|apply yn)) hk (.inl rfl));replace HB:=zh (hb);replace HI0:=zh (hi);(try clear hb);(try clear hb2);(try clear hk);(try clear hi)))
  go_loopg [] k (fun kq w' => ∃ (x1000_1 : ByteArray) (x1001_1 : Bool),Aside0 (impl_byteReader_keyEnd.l1 kq x1000_1 x1001_1=some (r1,r2))∧Aside0 (kq≤k)∧Aside0 (IsS54 w0 w' g x1000_1 x1001_1)∧Aside0 (KeepBut w w' g none)∧Aside0 (Below w0.heap.size w0 w'))
  case atStart => exact ⟨(t153),(t154),H',⟨ye _⟩,⟨by repeat (with_reducible first|exact HI0.out|apply IsS54.alloc|apply IsS54.drewN|apply IsS54.drew|apply IsS54.set_0|apply IsS54.set_1)⟩,⟨by repeat (with_reducible first|exact HK.out|apply yl|apply ym|apply yx|apply yn)⟩,⟨by repeat (with_reducible first|exact HB.out|apply za|apply zb|apply zc|refine zd ?_ (IsS54.ge HI0.out))⟩⟩
  case round =>
   clear H'
   try clear c1
   try clear c2
   try clear p2
   try clear c3
   try clear c3b0
   try clear c3b1
   try clear c5
   try clear c5b0
   try clear c5b1
   try clear p6
   try clear c9
   try clear c9b0
   try clear c9b1
   try clear c13
   try clear c13b0
   try clear c13b1
   try clear c17
   try clear c17b0
   try clear c17b1
   try clear c19
   try clear c22
   try clear c29
   try clear c29b0
   try clear c29b1
   try clear hcz20_0
   try clear hcz20_1
   try clear hcz23_0
   try clear hcz23_1
   try clear hcz26_0
   try clear hcz26_1
   try clear hfz20_0
   try clear hfz20_1
   try clear hfz23_0
   try clear hfz23_1
   try clear hfz26_0
   try clear hfz26_1
   try clear p2
   try clear p6
   obtain ⟨x1000_1,x1001_1,HA,HK1,HI0,HK,HB⟩:=hrel
   cases gk with
   | zero => exact absurd HA.out (by simp [impl_byteReader_keyEnd.l1])
   | succ k1 =>
    have H:=HA.out;clear HA;simp only [impl_byteReader_keyEnd.l1] at H;have HC31:=zh H;clear H
    go_upto_region 13 with (fail)
    go_cut [47] (fun v47 wc => ∃ (kq : Nat) (x47_30 : Bool) (x1000_30 : ByteArray) (x1001_30 : Bool),v47 = .bool x47_30∧Aside0 (impl_byteReader_keyEnd.j2 kq x47_30 x1000_30 x1001_30=some (r1,r2))∧Aside0 (kq≤k1)∧Aside0 (IsS54 w0 wc g x1000_30 x1001_30)∧Aside0 (KeepBut w wc g none)∧Aside0 (Below w0.heap.size w0 wc))
    case first =>
     have H:=HC31.out;clear HC31
     by_cases c32 : x1001_1=true
     ·
      subst c32
      have H1 : (impl_byteReader_keyEnd.j2 k1 false x1000_1 true)=some (r1,r2):=by rw [if_pos rfl] at H;exact H
      clear H;have H:=H1;clear H1;have H':=zh H;clear H;obtain ⟨HGz33,hgz33⟩:=HI0.out;have hcz33_0:=cellS54_0 HGz33;have hcz33_1:=cellS54_1 HGz33;have hfz33_0:=zA HGz33 0;have hfz33_1:=zA HGz33 1;clear HGz33 hgz33
      go_wp2
      go_meet
      case rel => exact ⟨_,(false),(x1000_1),(true),(by first|rfl|(simp;done)|(simp [*];done)),H',⟨by have:=HK1.out;first|omega|exact ye _⟩,⟨by repeat (with_reducible first|exact HI0.out|apply IsS54.alloc|apply IsS54.drewN|apply IsS54.drew|apply IsS54.set_0|apply IsS54.set_1)⟩,⟨by repeat (with_reducible first|exact HK.out|apply yl|apply ym|apply yx|apply yn)⟩,⟨by repeat (with_reducible first|exact HB.out|apply za|apply zb|apply zc|refine zd ?_ (IsS54.ge HI0.out))⟩⟩
     replace c32:=yb.mpr c32;subst c32;have H1 : ((impl_byteReader_ends.f x1000_1 false).bind fun bt168 => (impl_byteReader_keyEnd.j2 k1 (!bt168.1) bt168.2.1 bt168.2.2))=some (r1,r2):=by rw [if_neg (show ¬ (false=true) by decide)] at H;exact H
     clear H;have H:=H1;clear H1;replace H:=zT.mp H;obtain ⟨⟨t168,t169,t170⟩,A340,H⟩:=H;replace H : (impl_byteReader_keyEnd.j2 k1 (!t168) t169 t170)=some (r1,r2):=H;have A34:=zh A340;clear A340;have H':=zh H;clear H;obtain ⟨HGz35,hgz35⟩:=HI0.out;have hcz35_0:=cellS54_0 HGz35;have hcz35_1:=cellS54_1 HGz35;have hfz35_0:=zA HGz35 0;have hfz35_1:=zA HGz35 1;clear HGz35 hgz35
     go_wp2_with (first|(go_at_call 57;(with_reducible refine (impl_byteReader_ends.calls  g x1000_1 false t168 t169 t170 w0 _ ?side1 ?side2 A34.out).mono ?_);(case side1 => repeat (with_reducible first|exact HI0.out|apply IsS54.alloc|apply IsS54.drewN|apply IsS54.drew|apply IsS54.set_0|apply IsS54.set_1));(case side2 => repeat (with_reducible first|exact HB.out|apply za|apply zb|apply zc|refine zd ?_ (IsS54.ge HI0.out)));rintro e w36 ⟨rfl,hi,hb,hk⟩;replace HK:=zh (KeepBut.trans (by repeat (with_reducible first|exact HK.out|apply yl|apply ym|apply yx|apply yn)) hk (.inl rfl));replace HB:=zh (hb);replace HI0:=zh (hi);(try clear hb);(try clear hb2);(try clear hk);(try clear hi)))
     go_meet
     case rel => exact ⟨_,(!t168),(t169),(t170),(by first|rfl|(simp;done)|(simp [*];done)),H',⟨by have:=HK1.out;first|omega|exact ye _⟩,⟨by repeat (with_reducible first|exact HI0.out|apply IsS54.alloc|apply IsS54.drewN|apply IsS54.drew|apply IsS54.set_0|apply IsS54.set_1)⟩,⟨by repeat (with_reducible first|exact HK.out|apply yl|apply ym|apply yx|apply yn)⟩,⟨by repeat (with_reducible first|exact HB.out|apply za|apply zb|apply zc|refine zd ?_ (IsS54.ge HI0.out))⟩⟩
    case rest =>
     clear HC31
     try clear c1
     try clear c2
     try clear p2
     try clear c3
     try clear c3b0
     try clear c3b1
     try clear c5
     try clear c5b0
     try clear c5b1
     try clear p6
     try clear c9
     try clear c9b0
     try clear c9b1
     try clear c13
     try clear c13b0
     try clear c13b1
     try clear c17
     try clear c17b0
     try clear c17b1
     try clear c19
     try clear c22
     try clear c29
     try clear c29b0
     try clear c29b1
     try clear c31
     try clear c32
     try clear hcz20_0
     try clear hcz20_1
     try clear hcz23_0
     try clear hcz23_1
     try clear hcz26_0
     try clear hcz26_1
     try clear hcz33_0
     try clear hcz33_1
     try clear hcz35_0
     try clear hcz35_1
     try clear hfz20_0
     try clear hfz20_1
     try clear hfz23_0
     try clear hfz23_1
     try clear hfz26_0
     try clear hfz26_1
     try clear hfz33_0
     try clear hfz33_1
     try clear hfz35_0
     try clear hfz35_1
     try clear p2
     try clear p6
     obtain ⟨kq,x47_30,x1000_30,x1001_30,rfl,HA,HJ30,HI0,HK,HB⟩:=hcut
     cases kq with
     | zero => exact absurd HA.out (by simp [impl_byteReader_keyEnd.j2])
     | succ kj30 =>
      have H:=HA.out;clear HA;simp only [impl_byteReader_keyEnd.j2] at H
      by_cases c37 : x47_30=true
      ·
       subst c37
       have H1 : (if x1001_30=true then ((impl_byteReader_textEnd.f kj30 x1000_30 true).bind fun bt171 => ((impl_byteReader_keyEnd.f kj30 bt171.1 bt171.2).bind fun bt173 => (impl_byteReader_keyEnd.l1 kj30 bt173.1 bt173.2))) else ((impl_byteReader_num.f kj30 x1000_30 x1001_30 1).bind fun bt175 => ((impl_byteReader_textEnd.f kj30 bt175.2.1 (bt175.1 != 1)).bind fun bt178 => ((impl_byteReader_keyEnd.f kj30 bt178.1 bt178.2).bind fun bt180 => (impl_byteReader_keyEnd.l1 kj30 bt180.1 bt180.2)))))=some (r1,r2):=by rw [if_pos rfl] at H;exact H
       clear H;have H:=H1;clear H1
       by_cases c38 : x1001_30=true
       ·
        subst c38
        have H1 : ((impl_byteReader_textEnd.f kj30 x1000_30 true).bind fun bt171 => ((impl_byteReader_keyEnd.f kj30 bt171.1 bt171.2).bind fun bt173 => (impl_byteReader_keyEnd.l1 kj30 bt173.1 bt173.2)))=some (r1,r2):=by rw [if_pos rfl] at H;exact H
        clear H;have H:=H1;clear H1;replace H:=zT.mp H;obtain ⟨⟨t171,t172⟩,A390,H⟩:=H;replace H : ((impl_byteReader_keyEnd.f kj30 t171 t172).bind fun bt173 => (impl_byteReader_keyEnd.l1 kj30 bt173.1 bt173.2))=some (r1,r2):=H;have A39:=zh A390;clear A390;replace H:=zT.mp H;obtain ⟨⟨t173,t174⟩,A400,H⟩:=H;replace H : (impl_byteReader_keyEnd.l1 kj30 t173 t174)=some (r1,r2):=H;have A40:=zh A400;clear A400;have H':=zh H;clear H;obtain ⟨HGz41,hgz41⟩:=HI0.out;have hcz41_0:=cellS54_0 HGz41;have hcz41_1:=cellS54_1 HGz41;have hfz41_0:=zA HGz41 0;have hfz41_1:=zA HGz41 1;clear HGz41 hgz41
        go_wp2_with (first|((with_reducible refine zJ (f:=56) rfl ?_);refine yj (some 61) rfl rfl Try.func56 (by kernel_rfl) rfl #[.pointer (some ⟨g,0,none⟩)] rfl (by (try simp only [zt,zu,zv]);first|done|rfl|(simp only [zw,zx];rfl)|(simp only [yr,ys,zV,zW];rfl)) ?_;(with_reducible refine (impl_byteReader_textEnd.calls kj30  g x1000_30 true t171 t172 w0 _ ?side1 ?side2 A39.out).mono ?_);(case side1 => repeat (with_reducible first|exact HI0.out|apply IsS54.alloc|apply IsS54.drewN|apply IsS54.drew|apply IsS54.set_0|apply IsS54.set_1));(case side2 => repeat (with_reducible first|exact HB.out|apply za|apply zb|apply zc|refine zd ?_ (IsS54.ge HI0.out)));rintro e w42 ⟨rfl,hi,hb,hk⟩;refine ⟨_,rfl,?_⟩;replace HK:=zh (KeepBut.trans (by repeat (with_reducible first|exact HK.out|apply yl|apply ym|apply yx|apply yn)) hk (.inl rfl));replace HB:=zh (hb);replace HI0:=zh (hi);(try clear hb);(try clear hb2);(try clear hk);(try clear hi))|((with_reducible refine zJ (f:=31) rfl ?_);refine yj (some 63) rfl rfl Try.func31 (by kernel_rfl) rfl #[.pointer (some ⟨g,0,none⟩)] rfl (by (try simp only [zt,zu,zv]);first|done|rfl|(simp only [zw,zx];rfl)|(simp only [yr,ys,zV,zW];rfl)) ?_;(with_reducible refine (ih kj30 (by have:=HK1.out;have:=HJ30.out;omega)  g t171 t172 t173 t174 w0 _ ?side1 ?side2 A40.out).mono ?_);(case side1 => repeat (with_reducible first|exact HI0.out|apply IsS54.alloc|apply IsS54.drewN|apply IsS54.drew|apply IsS54.set_0|apply IsS54.set_1));(case side2 => repeat (with_reducible first|exact HB.out|apply za|apply zb|apply zc|refine zd ?_ (IsS54.ge HI0.out)));rintro e w43 ⟨rfl,hi,hb,hk⟩;refine ⟨_,rfl,?_⟩;replace HK:=zh (KeepBut.trans (by repeat (with_reducible first|exact HK.out|apply yl|apply ym|apply yx|apply yn)) hk (.inl rfl));replace HB:=zh (hb);replace HI0:=zh (hi);(try clear hb);(try clear hb2);(try clear hk);(try clear hi)))
        go_roundg kj30
        case measure => have:=HK1.out;have:=HJ30.out;omega
        case rel => exact ⟨(t173),(t174),H',⟨by have:=HK1.out;have:=HJ30.out;omega⟩,⟨by repeat (with_reducible first|exact HI0.out|apply IsS54.alloc|apply IsS54.drewN|apply IsS54.drew|apply IsS54.set_0|apply IsS54.set_1)⟩,⟨by repeat (with_reducible first|exact HK.out|apply yl|apply ym|apply yx|apply yn)⟩,⟨by repeat (with_reducible first|exact HB.out|apply za|apply zb|apply zc|refine zd ?_ (IsS54.ge HI0.out))⟩⟩
       replace c38:=yb.mpr c38;subst c38;have H1 : ((impl_byteReader_num.f kj30 x1000_30 false 1).bind fun bt175 => ((impl_byteReader_textEnd.f kj30 bt175.2.1 (bt175.1 != 1)).bind fun bt178 => ((impl_byteReader_keyEnd.f kj30 bt178.1 bt178.2).bind fun bt180 => (impl_byteReader_keyEnd.l1 kj30 bt180.1 bt180.2))))=some (r1,r2):=by rw [if_neg (show ¬ (false=true) by decide)] at H;exact H
       clear H;have H:=H1;clear H1;replace H:=zT.mp H;obtain ⟨⟨t175,t176,t177⟩,A440,H⟩:=H;replace H : ((impl_byteReader_textEnd.f kj30 t176 (t175 != 1)).bind fun bt178 => ((impl_byteReader_keyEnd.f kj30 bt178.1 bt178.2).bind fun bt180 => (impl_byteReader_keyEnd.l1 kj30 bt180.1 bt180.2)))=some (r1,r2):=H;have A44:=zh A440;clear A440;replace H:=zT.mp H;obtain ⟨⟨t178,t179⟩,A450,H⟩:=H;replace H : ((impl_byteReader_keyEnd.f kj30 t178 t179).bind fun bt180 => (impl_byteReader_keyEnd.l1 kj30 bt180.1 bt180.2))=some (r1,r2):=H;have A45:=zh A450;clear A450;replace H:=zT.mp H;obtain ⟨⟨t180,t181⟩,A460,H⟩:=H;replace H : (impl_byteReader_keyEnd.l1 kj30 t180 t181)=some (r1,r2):=H;have A46:=zh A460;clear A460;have H':=zh H;clear H;obtain ⟨HGz47,hgz47⟩:=HI0.out;have hcz47_0:=cellS54_0 HGz47;have hcz47_1:=cellS54_1 HGz47;have hfz47_0:=zA HGz47 0;have hfz47_1:=zA HGz47 1;clear HGz47 hgz47
       go_wp2_with (first|(go_at_call 54;(with_reducible refine (impl_byteReader_num.calls kj30  g x1000_30 false 1 t175 t176 t177 w0 _ ?side1 ?side2 A44.out).mono ?_);(case side1 => repeat (with_reducible first|exact HI0.out|apply IsS54.alloc|apply IsS54.drewN|apply IsS54.drew|apply IsS54.set_0|apply IsS54.set_1));(case side2 => repeat (with_reducible first|exact HB.out|apply za|apply zb|apply zc|refine zd ?_ (IsS54.ge HI0.out)));rintro e w48 ⟨rfl,hi,hb,hk⟩;replace HK:=zh (KeepBut.trans (by repeat (with_reducible first|exact HK.out|apply yl|apply ym|apply yx|apply yn)) hk (.inl rfl));replace HB:=zh (hb);replace HI0:=zh (hi);(try clear hb);(try clear hb2);(try clear hk);(try clear hi);obtain ⟨HGz49,hgz49⟩:=HI0.out;have hcz49_0:=cellS54_0 HGz49;have hcz49_1:=cellS54_1 HGz49;have hfz49_0:=zA HGz49 0;have hfz49_1:=zA HGz49 1;clear HGz49 hgz49)|((with_reducible refine zJ (f:=56) rfl ?_);refine yj (some 61) rfl rfl Try.func56 (by kernel_rfl) rfl #[.pointer (some ⟨g,0,none⟩)] rfl (by (try simp only [zt,zu,zv]);first|done|rfl|(simp only [zw,zx];rfl)|(simp only [yr,ys,zV,zW];rfl)) ?_;(with_reducible refine (impl_byteReader_textEnd.calls kj30  g t176 (t175 != 1) t178 t179 w0 _ ?side1 ?side2 A45.out).mono ?_);(case side1 => repeat (with_reducible first|exact HI0.out|apply IsS54.alloc|apply IsS54.drewN|apply IsS54.drew|apply IsS54.set_0|apply IsS54.set_1));(case side2 => repeat (with_reducible first|exact HB.out|apply za|apply zb|apply zc|refine zd ?_ (IsS54.ge HI0.out)));rintro e w50 ⟨rfl,hi,hb,hk⟩;refine ⟨_,rfl,?_⟩;replace HK:=zh (KeepBut.trans (by repeat (with_reducible first|exact HK.out|apply yl|apply ym|apply yx|apply yn)) hk (.inl rfl));replace HB:=zh (hb);replace HI0:=zh (hi);(try clear hb);(try clear hb2);(try clear hk);(try clear hi))|((with_reducible refine zJ (f:=31) rfl ?_);refine yj (some 63) rfl rfl Try.func31 (by kernel_rfl) rfl #[.pointer (some ⟨g,0,none⟩)] rfl (by (try simp only [zt,zu,zv]);first|done|rfl|(simp only [zw,zx];rfl)|(simp only [yr,ys,zV,zW];rfl)) ?_;(with_reducible refine (ih kj30 (by have:=HK1.out;have:=HJ30.out;omega)  g t178 t179 t180 t181 w0 _ ?side1 ?side2 A46.out).mono ?_);(case side1 => repeat (with_reducible first|exact HI0.out|apply IsS54.alloc|apply IsS54.drewN|apply IsS54.drew|apply IsS54.set_0|apply IsS54.set_1));(case side2 => repeat (with_reducible first|exact HB.out|apply za|apply zb|apply zc|refine zd ?_ (IsS54.ge HI0.out)));rintro e w51 ⟨rfl,hi,hb,hk⟩;refine ⟨_,rfl,?_⟩;replace HK:=zh (KeepBut.trans (by repeat (with_reducible first|exact HK.out|apply yl|apply ym|apply yx|apply yn)) hk (.inl rfl));replace HB:=zh (hb);replace HI0:=zh (hi);(try clear hb);(try clear hb2);(try clear hk);(try clear hi)))
       go_roundg kj30
       case measure => have:=HK1.out;have:=HJ30.out;omega
       case rel => exact ⟨(t180),(t181),H',⟨by have:=HK1.out;have:=HJ30.out;omega⟩,⟨by repeat (with_reducible first|exact HI0.out|apply IsS54.alloc|apply IsS54.drewN|apply IsS54.drew|apply IsS54.set_0|apply IsS54.set_1)⟩,⟨by repeat (with_reducible first|exact HK.out|apply yl|apply ym|apply yx|apply yn)⟩,⟨by repeat (with_reducible first|exact HB.out|apply za|apply zb|apply zc|refine zd ?_ (IsS54.ge HI0.out))⟩⟩
      replace c37:=yb.mpr c37;subst c37;have H1 : (some (x1000_30,x1001_30))=some (r1,r2):=by rw [if_neg (show ¬ (false=true) by decide)] at H;exact H
      clear H;have H:=H1;clear H1;simp only [Option.some.injEq,Prod.mk.injEq] at H;obtain ⟨rfl,rfl⟩:=H
      go_wp2
      first|go_end0|((try simp only [Exit.inBlock,Exit.then]);refine bodyPost_ret (results_none rfl _ _ _) rfl ?_)
      exact ⟨by first|rfl|(simp [yt,yu] <;> rfl)|(simp [*,yt,yu] <;> rfl),by repeat (with_reducible first|exact HI0.out|apply IsS54.alloc|apply IsS54.drewN|apply IsS54.drew|apply IsS54.set_0|apply IsS54.set_1),by repeat (with_reducible first|exact HB.out|apply za|apply zb|apply zc|refine zd ?_ (IsS54.ge HI0.out)),by repeat (with_reducible first|exact HK.out|apply yl|apply ym|apply yx|apply yn)⟩
 rw [if_neg c29] at H;have c29b0 : ((wrap64 (t152 - 1)) == 5)=false:=zY.mpr c29;have c29b1 : ((wrap64 (t152 - 1)) != 5)=true:=zZ.mpr c29;simp only [Option.some.injEq,Prod.mk.injEq] at H;obtain ⟨rfl,rfl⟩:=H
 go_enter Try.func31,Try.ntmps31
 go_wp2_with (first|((with_reducible refine zJ (f:=54) rfl ?_);refine yj (some 3) rfl rfl Try.func54 (by kernel_rfl) rfl #[.pointer (some ⟨g,0,none⟩),.int .i64 1] rfl (by (try simp only [zt,zu,zv]);first|done|rfl|(simp only [zw,zx];rfl)|(simp only [yr,ys,zV,zW];rfl)) ?_;(with_reducible refine (impl_byteReader_num.calls k  g s0_0 s0_1 1 t152 t153 t154 w0 _ ?side1 ?side2 A2.out).mono ?_);(case side1 => repeat (with_reducible first|exact HI0.out|apply IsS54.alloc|apply IsS54.drewN|apply IsS54.drew|apply IsS54.set_0|apply IsS54.set_1));(case side2 => repeat (with_reducible first|exact HB.out|apply za|apply zb|apply zc|refine zd ?_ (IsS54.ge HI0.out)));rintro e w52 ⟨rfl,hi,hb,hk⟩;refine ⟨_,rfl,?_⟩;replace HK:=zh (KeepBut.trans (by repeat (with_reducible first|exact HK.out|apply yl|apply ym|apply yx|apply yn)) hk (.inl rfl));replace HB:=zh (hb);replace HI0:=zh (hi);(try clear hb);(try clear hb2);(try clear hk);(try clear hi);obtain ⟨HGz53,hgz53⟩:=HI0.out;have hcz53_0:=cellS54_0 HGz53;have hcz53_1:=cellS54_1 HGz53;have hfz53_0:=zA HGz53 0;have hfz53_1:=zA HGz53 1;clear HGz53 hgz53))
 first|go_end0|((try simp only [Exit.inBlock,Exit.then]);refine bodyPost_ret (results_none rfl _ _ _) rfl ?_)
 exact ⟨by first|rfl|(simp [yt,yu] <;> rfl)|(simp [*,yt,yu] <;> rfl),by repeat (with_reducible first|exact HI0.out|apply IsS54.alloc|apply IsS54.drewN|apply IsS54.drew|apply IsS54.set_0|apply IsS54.set_1),by repeat (with_reducible first|exact HB.out|apply za|apply zb|apply zc|refine zd ?_ (IsS54.ge HI0.out)),by repeat (with_reducible first|exact HK.out|apply yl|apply ym|apply yx|apply yn)⟩

end Go.Proofs.Ytlljfjpdflcjlaa.Q
end
section
namespace Go.Proofs.Ytlljfjpdflcjlaa.Q
open Go.RowKit Go.Proofs.YtlljfjpdflcjlaaW.PrintWords Go.Proofs.YtlljfjpdflcjlaaW.PrintLast Go.Proofs.YtlljfjpdflcjlaaW.PrintMore
attribute [local go_sem] max2_int min2_int max_two min_two max_three min_three max_four min_four max2_str min2_str str_geq str_gtr str_leq   -- for this text's walks alone
set_option linter.unusedVariables false
set_option linter.unusedSimpArgs false

def impl_SplitKey.l0 : Nat→List ByteArray→Int→Int→ByteArray→Bool→Option (List ByteArray×Int)
 | 0,_,_,_,_,_ => none
 | k + 1,x7,x21,x22,x188000,x188001 => if x22<x21 then ((impl_byteReader_keyEnd.f k x188000 x188001).bind fun bt191 => (if bt191.2=true then (some (([] : List ByteArray),3)) else (if 0≤(wrap64 ((x188000.size : Int) - (bt191.1.size : Int))) then (if (wrap64 ((x188000.size : Int) - (bt191.1.size : Int)))≤(x188000.size : Int) then (if x7.length<8796093022208 then (impl_SplitKey.l0 k (x7 ++ [x188000.extract 0 ((wrap64 ((x188000.size : Int) - (bt191.1.size : Int))) : Int).toNat]) x21 (wrap64 (x22 + 1)) bt191.1 bt191.2) else (none)) else (none)) else (none)))) else (if x188000.toList=([] : List UInt8) then (some (x7,0)) else (some (([] : List ByteArray),3)))
def impl_SplitKey.f (k : Nat) (a0 : ByteArray) (a1 : Int) : Option (List ByteArray×Int):=(impl_isLong.f k (([a0] : List ByteArray))).bind fun t185 => (if t185=true then (some (([] : List ByteArray),2)) else ((impl_inRange.f a1 0 8).bind fun t186 => (if t186=true then (impl_SplitKey.l0 k (([] : List ByteArray)) a1 0 a0 false) else (some (([] : List ByteArray),4)))))
theorem impl_SplitKey.mono_l : ∀ k,(∀ y0 y1 y2 y3 y4,LeO (impl_SplitKey.l0 k y0 y1 y2 y3 y4) (impl_SplitKey.l0 (k + 1) y0 y1 y2 y3 y4))
 | 0 => fun _ _ _ _ _ r h => by simp [impl_SplitKey.l0] at h
 | k + 1 => by
  have ih0:=impl_SplitKey.mono_l k;intro y0 y1 y2 y3 y4;unfold impl_SplitKey.l0
  repeat' first|(with_reducible exact ih0 _ _ _ _ _)|(with_reducible exact impl_isLong.mono _ _)|(with_reducible exact impl_byteReader_keyEnd.mono _ _ _)|(with_reducible exact zQ _)|(with_reducible exact zN _)|(with_reducible refine zP ?_ ?_)|(with_reducible refine zO ?_ (fun _ => ?_))|refine zP ?_ ?_|refine zO ?_ (fun _ => ?_)
theorem impl_SplitKey.mono : ∀ a0 a1 k,LeO (impl_SplitKey.f k a0 a1) (impl_SplitKey.f (k + 1) a0 a1):=by
 intro a0 a1 k;have ih0:=impl_SplitKey.mono_l k;unfold impl_SplitKey.f
 repeat' first|(with_reducible exact ih0 _ _ _ _ _)|(with_reducible exact impl_isLong.mono _ _)|(with_reducible exact impl_byteReader_keyEnd.mono _ _ _)|(with_reducible exact zQ _)|(with_reducible exact zN _)|(with_reducible refine zP ?_ ?_)|(with_reducible refine zO ?_ (fun _ => ?_))|refine zP ?_ ?_|refine zO ?_ (fun _ => ?_)
set_option maxHeartbeats 8000000 in
set_option maxRecDepth 100000 in
theorem impl_SplitKey.calls (k : Nat) (a0 : ByteArray) (a1 : Int) (r1 : List ByteArray) (r2 : Int) (w : World) (h : impl_SplitKey.f k a0 a1=some (r1,r2)) :
  Calls Try.prog 9 #[.string a0,.int .i64 a1] w fun e w' => ∃ v0_ : Value,e = .returned (.tuple #[v0_,.int .i64 r2])∧Kd.R Kd.string 9 w' w.heap.size (fun _ => True) v0_ r1∧Below w.heap.size w w':=by
 have hu54:=Try.underlying54;have HB:=zh (Below.refl w.heap.size w);have H : ((impl_isLong.f k (([a0] : List ByteArray))).bind fun t185 => (if t185=true then (some (([] : List ByteArray),2)) else ((impl_inRange.f a1 0 8).bind fun t186 => (if t186=true then (impl_SplitKey.l0 k (([] : List ByteArray)) a1 0 a0 false) else (some (([] : List ByteArray),4))))))=some (r1,r2):=h;clear h;obtain ⟨y182,hy182⟩ : ∃ y_ : List ByteArray,y_=(([a0] : List ByteArray)):=⟨_,rfl⟩;replace H : ((impl_isLong.f k y182).bind fun t185 => (if t185=true then (some (([] : List ByteArray),2)) else ((impl_inRange.f a1 0 8).bind fun t186 => (if t186=true then (impl_SplitKey.l0 k (([] : List ByteArray)) a1 0 a0 false) else (some (([] : List ByteArray),4))))))=some (r1,r2):=by first|(rw [hy182];with_reducible exact H)|(have H2_:=(Option.bind_some _ _).symm.trans H;rw [hy182];with_reducible exact H2_)|(have H2_:=(Option.bind_some _ _).symm.trans H;with_reducible exact H2_)|with_reducible exact H|(rw [hy182];exact H)|exact H
 have Ny182:=zh hy182;clear hy182;replace H:=zT.mp H;obtain ⟨t185,A30,H⟩:=H;replace H : (if t185=true then (some (([] : List ByteArray),2)) else ((impl_inRange.f a1 0 8).bind fun t186 => (if t186=true then (impl_SplitKey.l0 k (([] : List ByteArray)) a1 0 a0 false) else (some (([] : List ByteArray),4)))))=some (r1,r2):=H;have A3:=zh A30;clear A30
 by_cases c4 : t185=true
 ·
  subst c4
  have H1 : (some (([] : List ByteArray),2))=some (r1,r2):=by rw [if_pos rfl] at H;exact H
  clear H;have H:=H1;clear H1;simp only [Option.some.injEq,Prod.mk.injEq] at H;obtain ⟨rfl,rfl⟩:=H
  go_enter Try.func9,Try.ntmps9
  go_wp2_with (first|((with_reducible refine zK (N:=11) rfl ?_);refine Kd.R_lit Kd.string _ 9 ?hg (N:=11) ?hd (xs:=([a0] : List ByteArray)) (inner:=[.string a0]) (ok:=fun _ => True) (okp:=fun _ => True) ?hr ?hp (fun _ hk => hk) trivial (Below.refl _ _) (ye _) (by simp) ?_;(case hd => rfl);(case hg => rfl);(case hr => first|(go_simp;done)|(go_simp;rfl));(case hp => exact (Reps.one (show Kd.M Kd.string _ _ _ a0 [.string a0] from rfl) (Reps.none _ _)));intro v183 w5 ho6 hb hg_ hnew_;clear hg_ hnew_;(first|rw [← Ny182.out] at ho6|(simp only [Int.reduceToNat] at ho6;rw [← Ny182.out] at ho6));have HO184:=zh (yy ho6 (zB (by repeat (with_reducible first|exact HB.out|apply za|apply zb|apply zc))));replace HB:=zh (zC (by repeat (with_reducible first|exact HB.out|apply za|apply zb|apply zc)) hb);clear hb ho6;obtain ⟨Ao7,co7,eo7⟩:=yk HO184.out;subst eo7)|((with_reducible refine zJ (f:=29) rfl ?_);refine yj (some 12) rfl rfl Try.func29 (by kernel_rfl) rfl #[.slice Ao7 y182.length co7] rfl (by (try simp only [zt,zu,zv]);first|done|rfl|(simp only [zw,zx];rfl)|(simp only [yr,ys,zV,zW];rfl)) ?_;(with_reducible refine (impl_isLong.calls k  _ _ y182 true _ ?side1 ?side2 A3.out).mono ?_);(case side1 => repeat (first|exact (yh HO184.out).2.2|(with_reducible refine Kd.C_alloc ?_ _)|(with_reducible refine Kd.C_drewN ?_ _)|(with_reducible refine Kd.C_drew ?_)));(case side2 => exact (yh HO184.out).2.1);rintro e w8 ⟨rfl,hb⟩;refine ⟨_,rfl,?_⟩;replace HO184:=zh (yg (by (with_reducible repeat (first|apply zm|apply zn|apply zo));exact HO184.out) hb);replace HB:=zh (zC (by repeat (with_reducible first|exact HB.out|apply za|apply zb|apply zc)) hb);(try clear hb);(try clear hb2);(try clear hk);(try clear hi)))
  go_ret2
  exact ⟨_,by first|rfl|(simp [yt,yu] <;> rfl)|(simp [*,yt,yu] <;> rfl),by first|exact Kd.R_nil _ _ _ _ _|exact Kd.N_nil _ _ _ _ _|exact Kd.V_nil _ _ _ _ _|exact Kd.Q_nil _ _ _ _ _|exact Kd.S_nil _ _ _ _ _,by repeat (with_reducible first|exact HB.out|apply za|apply zb|apply zc)⟩
 replace c4:=yb.mpr c4;subst c4;have H1 : ((impl_inRange.f a1 0 8).bind fun t186 => (if t186=true then (impl_SplitKey.l0 k (([] : List ByteArray)) a1 0 a0 false) else (some (([] : List ByteArray),4))))=some (r1,r2):=by rw [if_neg (show ¬ (false=true) by decide)] at H;exact H
 clear H;have H:=H1;clear H1;replace H:=zT.mp H;obtain ⟨t186,A90,H⟩:=H;replace H : (if t186=true then (impl_SplitKey.l0 k (([] : List ByteArray)) a1 0 a0 false) else (some (([] : List ByteArray),4)))=some (r1,r2):=H;have A9:=zh A90;clear A90
 by_cases c10 : t186=true
 ·
  subst c10
  have H1 : (impl_SplitKey.l0 k (([] : List ByteArray)) a1 0 a0 false)=some (r1,r2):=by rw [if_pos rfl] at H;exact H
  clear H;have H:=H1;clear H1;obtain ⟨y188,hy188⟩ : ∃ y_ : List ByteArray,y_=(([] : List ByteArray)):=⟨_,rfl⟩;replace H : (impl_SplitKey.l0 k y188 a1 0 a0 false)=some (r1,r2):=by first|(rw [hy188];with_reducible exact H)|(have H2_:=(Option.bind_some _ _).symm.trans H;rw [hy188];with_reducible exact H2_)|(have H2_:=(Option.bind_some _ _).symm.trans H;with_reducible exact H2_)|with_reducible exact H|(rw [hy188];exact H)|exact H
  have Ny188:=zh hy188;clear hy188;have H':=zh H;clear H
  go_enter Try.func9,Try.ntmps9
  go_wp2_with (first|((with_reducible refine zK (N:=11) rfl ?_);refine Kd.R_lit Kd.string _ 9 ?hg (N:=11) ?hd (xs:=([a0] : List ByteArray)) (inner:=[.string a0]) (ok:=fun _ => True) (okp:=fun _ => True) ?hr ?hp (fun _ hk => hk) trivial (Below.refl _ _) (ye _) (by simp) ?_;(case hd => rfl);(case hg => rfl);(case hr => first|(go_simp;done)|(go_simp;rfl));(case hp => exact (Reps.one (show Kd.M Kd.string _ _ _ a0 [.string a0] from rfl) (Reps.none _ _)));intro v183 w11 ho12 hb hg_ hnew_;clear hg_ hnew_;(first|rw [← Ny182.out] at ho12|(simp only [Int.reduceToNat] at ho12;rw [← Ny182.out] at ho12));have HO184:=zh (yy ho12 (zB (by repeat (with_reducible first|exact HB.out|apply za|apply zb|apply zc))));replace HB:=zh (zC (by repeat (with_reducible first|exact HB.out|apply za|apply zb|apply zc)) hb);clear hb ho12;obtain ⟨Ao13,co13,eo13⟩:=yk HO184.out;subst eo13)|((with_reducible refine zJ (f:=29) rfl ?_);refine yj (some 12) rfl rfl Try.func29 (by kernel_rfl) rfl #[.slice Ao13 y182.length co13] rfl (by (try simp only [zt,zu,zv]);first|done|rfl|(simp only [zw,zx];rfl)|(simp only [yr,ys,zV,zW];rfl)) ?_;(with_reducible refine (impl_isLong.calls k  _ _ y182 false _ ?side1 ?side2 A3.out).mono ?_);(case side1 => repeat (first|exact (yh HO184.out).2.2|(with_reducible refine Kd.C_alloc ?_ _)|(with_reducible refine Kd.C_drewN ?_ _)|(with_reducible refine Kd.C_drew ?_)));(case side2 => exact (yh HO184.out).2.1);rintro e w14 ⟨rfl,hb⟩;refine ⟨_,rfl,?_⟩;replace HO184:=zh (yg (by (with_reducible repeat (first|apply zm|apply zn|apply zo));exact HO184.out) hb);replace HB:=zh (zC (by repeat (with_reducible first|exact HB.out|apply za|apply zb|apply zc)) hb);(try clear hb);(try clear hb2);(try clear hk);(try clear hi))|((with_reducible refine zJ (f:=30) rfl ?_);refine yj (some 15) rfl rfl Try.func30 (by kernel_rfl) rfl #[.int .i64 a1,.int .i64 0,.int .i64 8] rfl (by (try simp only [zt,zu,zv]);first|done|rfl|(simp only [zw,zx];rfl)|(simp only [yr,ys,zV,zW];rfl)) ?_;(with_reducible refine (impl_inRange.calls  a1 0 8 true _ A9.out).mono ?_);rintro e w' ⟨rfl,⟨nd,rfl⟩⟩;refine ⟨_,rfl,?_⟩)|((with_reducible refine zK (N:=19) rfl ?_);refine zI ?hg (N:=19) ?hd (cs:=#[.string a0,.bool false]) (t:=54) ?hr ?_;(case hd => rfl);(case hg => rfl);(case hr => first|(go_simp;done)|(go_simp;rfl));intro gb187 hg w15 hbox hb;replace HO184:=zh (yg (by (with_reducible repeat (first|apply zm|apply zn|apply zo));exact HO184.out) hb);have BK187:=zh (hbox);have GW187:=zh ((by rw [hg];exact (zB (by repeat (with_reducible first|exact HB.out|apply za|apply zb|apply zc))) : w.heap.size≤gb187));have GE187:=zh ((by rw [hg];exact (zB (by repeat (with_reducible first|exact HB.out|apply za|apply zb|apply zc))) : w.heap.size≤gb187));replace HB:=zh (zC (by repeat (with_reducible first|exact HB.out|apply za|apply zb|apply zc)) hb);clear hb hbox hg)|((with_reducible refine zK (N:=20) rfl ?_);refine Kd.R_lit Kd.string _ 9 ?hg (N:=20) ?hd (xs:=([] : List ByteArray)) (inner:=[]) (ok:=fun _ => True) (okp:=fun _ => True) ?hr ?hp (fun _ hk => hk) trivial (Below.refl _ _) (ye _) (by simp) ?_;(case hd => rfl);(case hg => rfl);(case hr => first|(go_simp;done)|(go_simp;rfl));(case hp => exact (Reps.none _ _));intro v189 w16 ho17 hb hg_ hnew_;clear hg_ hnew_;(first|rw [← Ny188.out] at ho17|(simp only [Int.reduceToNat] at ho17;rw [← Ny188.out] at ho17));have HO190:=zh (yy (Kd.R_new' ho17 (Kd.R_lt (by (with_reducible repeat (first|apply zm|apply zn|apply zo));exact HO184.out))) (zB (by repeat (with_reducible first|exact HB.out|apply za|apply zb|apply zc|refine zd ?_ GE187.out))));replace HO184:=zh (Kd.R_elder' (by (with_reducible repeat (first|apply zm|apply zn|apply zo));exact HO184.out) (Kd.R_base ho17) hb);replace BK187:=zh (zD (g:=gb187) (o:=.cells #[.string a0,.bool false] 54 (0,0)) (by (with_reducible repeat (first|refine ze ?_ _|refine zf ?_|refine zg ?_ _));exact BK187.out) hb);replace HB:=zh (zC (by repeat (with_reducible first|exact HB.out|apply za|apply zb|apply zc|refine zd ?_ GE187.out)) hb);clear hb ho17))
  go_loopg [7,22] k (fun kq v7 v22 w' => ∃ (x7_1 : List ByteArray) (x22_1 : Int) (x188000_1 : ByteArray) (x188001_1 : Bool),v22 = .int .i64 x22_1∧Aside0 (impl_SplitKey.l0 kq x7_1 a1 x22_1 x188000_1 x188001_1=some (r1,r2))∧Aside0 (kq≤k)∧Aside0 (Kd.R Kd.string 9 w' w.heap.size (fun _ => True) v7 x7_1)∧Aside0 (w'.heap[gb187]? = some (.cells #[.string x188000_1,.bool x188001_1] 54 (0,0)))∧Aside0 (Below w.heap.size w w'))
  case atStart => exact ⟨(y188),(0),(a0),(false),(by first|rfl|(simp;done)|(simp [*];done)),H',⟨ye _⟩,⟨by (with_reducible repeat (first|apply zm|apply zn|apply zo));exact zM HO190.out (fun _ hk => trivial)⟩,⟨by (with_reducible repeat (first|refine ze ?_ _|refine zf ?_|refine zg ?_ _));exact BK187.out⟩,⟨by repeat (with_reducible first|exact HB.out|apply za|apply zb|apply zc|refine zd ?_ GE187.out)⟩⟩
  case round =>
   clear H'
   try clear c1
   try clear c2
   try clear p2
   try clear c3
   try clear c4
   try clear c9
   try clear c10
   obtain ⟨x7_1,x22_1,x188000_1,x188001_1,rfl,HA,HK1,HO_7,BK187,HB⟩:=hrel
   cases gk with
   | zero => exact absurd HA.out (by simp [impl_SplitKey.l0])
   | succ k1 =>
    have H:=HA.out;clear HA;simp only [impl_SplitKey.l0] at H
    by_cases c18 : x22_1<a1
    ·
     rw [if_pos c18] at H
     have c18b0 : decide (x22_1<a1)=true:=decide_eq_true c18;clear c18;replace H:=zT.mp H;obtain ⟨⟨t191,t192⟩,A190,H⟩:=H;replace H : (if t192=true then (some (([] : List ByteArray),3)) else (if 0≤(wrap64 ((x188000_1.size : Int) - (t191.size : Int))) then (if (wrap64 ((x188000_1.size : Int) - (t191.size : Int)))≤(x188000_1.size : Int) then (if x7_1.length<8796093022208 then (impl_SplitKey.l0 k1 (x7_1 ++ [x188000_1.extract 0 ((wrap64 ((x188000_1.size : Int) - (t191.size : Int))) : Int).toNat]) a1 (wrap64 (x22_1 + 1)) t191 t192) else (none)) else (none)) else (none)))=some (r1,r2):=H;have A19:=zh A190;clear A190
     by_cases c20 : t192=true
     ·
      subst c20
      have H1 : (some (([] : List ByteArray),3))=some (r1,r2):=by rw [if_pos rfl] at H;exact H
      clear H;have H:=H1;clear H1;simp only [Option.some.injEq,Prod.mk.injEq] at H;obtain ⟨rfl,rfl⟩:=H;have hcz21_0 : wr.cell? ⟨gb187,0,none⟩=some (.string x188000_1):=(zz BK187.out 0).trans rfl;have hcz21_1 : wr.cell? ⟨gb187,1,none⟩=some (.bool x188001_1):=(zz BK187.out 1).trans rfl;have hfz21_0:=zA BK187.out 0;have hfz21_1:=zA BK187.out 1;have HI187:=zh (show IsS54 w wr gb187 x188000_1 x188001_1 from ⟨BK187.out,GE187.out⟩)
      go_wp2_with (first|((with_reducible refine zJ (f:=31) rfl ?_);refine yj (some 29) rfl rfl Try.func31 (by kernel_rfl) rfl #[.pointer (some ⟨gb187,0,none⟩)] rfl (by (try simp only [zt,zu,zv]);first|done|rfl|(simp only [zw,zx];rfl)|(simp only [yr,ys,zV,zW];rfl)) ?_;(with_reducible refine (impl_byteReader_keyEnd.calls k1  gb187 x188000_1 x188001_1 t191 true w _ ?side1 ?side2 A19.out).mono ?_);(case side1 => repeat (with_reducible first|exact HI187.out|apply IsS54.alloc|apply IsS54.drewN|apply IsS54.drew|apply IsS54.set_0|apply IsS54.set_1));(case side2 => repeat (with_reducible first|exact HB.out|apply za|apply zb|apply zc|refine zd ?_ (IsS54.ge HI187.out)));rintro e w22 ⟨rfl,hi,hb,hk⟩;refine ⟨_,rfl,?_⟩;replace HO_7:=zh (zM (Kd.R_keep (IsS54.apart (show IsS54 w _ gb187 x188000_1 x188001_1 from by repeat (with_reducible first|exact HI187.out|apply IsS54.alloc|apply IsS54.drewN|apply IsS54.drew|apply IsS54.set_0|apply IsS54.set_1)) (by (with_reducible repeat (first|apply zm|apply zn|apply zo));exact HO_7.out) (by decide)) hk (fun _ h => h.2)) (fun _ h => h.1));replace HB:=zh (hb);replace BK187:=zh ((show _∧_ from hi).1);clear HI187;(try clear hb);(try clear hb2);(try clear hk);(try clear hi);have hcz23_0 : w22.cell? ⟨gb187,0,none⟩=some (.string t191):=(zz BK187.out 0).trans rfl;have hcz23_1 : w22.cell? ⟨gb187,1,none⟩=some (.bool true):=(zz BK187.out 1).trans rfl;have hfz23_0:=zA BK187.out 0;have hfz23_1:=zA BK187.out 1))
      go_ret2
      exact ⟨_,by first|rfl|(simp [yt,yu] <;> rfl)|(simp [*,yt,yu] <;> rfl),by first|exact Kd.R_nil _ _ _ _ _|exact Kd.N_nil _ _ _ _ _|exact Kd.V_nil _ _ _ _ _|exact Kd.Q_nil _ _ _ _ _|exact Kd.S_nil _ _ _ _ _,by repeat (with_reducible first|exact HB.out|apply za|apply zb|apply zc|refine zd ?_ GE187.out)⟩
     replace c20:=yb.mpr c20;subst c20;have H1 : (if 0≤(wrap64 ((x188000_1.size : Int) - (t191.size : Int))) then (if (wrap64 ((x188000_1.size : Int) - (t191.size : Int)))≤(x188000_1.size : Int) then (if x7_1.length<8796093022208 then (impl_SplitKey.l0 k1 (x7_1 ++ [x188000_1.extract 0 ((wrap64 ((x188000_1.size : Int) - (t191.size : Int))) : Int).toNat]) a1 (wrap64 (x22_1 + 1)) t191 false) else (none)) else (none)) else (none))=some (r1,r2):=by rw [if_neg (show ¬ (false=true) by decide)] at H;exact H
     clear H;have H:=H1;clear H1;obtain ⟨ji24,hji24⟩ : ∃ j_ : Int,(wrap64 ((x188000_1.size : Int) - (t191.size : Int)))=j_:=⟨_,rfl⟩;replace H : (if 0≤(ji24) then (if (ji24)≤(x188000_1.size : Int) then (if x7_1.length<8796093022208 then (impl_SplitKey.l0 k1 (x7_1 ++ [x188000_1.extract 0 ((ji24) : Int).toNat]) a1 (wrap64 (x22_1 + 1)) t191 false) else (none)) else (none)) else (none))=some (r1,r2):=by first|(rw [hji24] at H;exact H)|(simp only [hji24] at H ⊢;exact H)
     (try rw [hji24] at A19);have hji24w : (IntKind.i64.wrap ((x188000_1.size : Int) - (t191.size : Int)))=ji24:=(zG _).trans hji24
     by_cases c25 : 0≤(ji24)
     ·
      rw [if_pos c25] at H
      have c25b0:=eq_true c25;have c25b1 : decide (0≤(ji24))=true:=decide_eq_true c25;clear c25
      by_cases c26 : (ji24)≤(x188000_1.size : Int)
      ·
       rw [if_pos c26] at H
       have c26b0:=eq_true c26;have c26b1 : decide ((ji24)≤(x188000_1.size : Int))=true:=decide_eq_true c26;clear c26
       by_cases c27 : x7_1.length<8796093022208
       ·
        rw [if_pos c27] at H
        have LMc27:=zh c27;clear c27;obtain ⟨y193,hy193⟩ : ∃ y_ : List ByteArray,y_=(x7_1 ++ [x188000_1.extract 0 ((ji24) : Int).toNat]):=⟨_,rfl⟩;replace H : (impl_SplitKey.l0 k1 y193 a1 (wrap64 (x22_1 + 1)) t191 false)=some (r1,r2):=by first|(rw [hy193];with_reducible exact H)|(have H2_:=(Option.bind_some _ _).symm.trans H;rw [hy193];with_reducible exact H2_)|(have H2_:=(Option.bind_some _ _).symm.trans H;with_reducible exact H2_)|with_reducible exact H|(rw [hy193];exact H)|exact H
        have Ny193:=zh hy193;clear hy193;have H':=zh H;clear H;have hcz28_0 : wr.cell? ⟨gb187,0,none⟩=some (.string x188000_1):=(zz BK187.out 0).trans rfl;have hcz28_1 : wr.cell? ⟨gb187,1,none⟩=some (.bool x188001_1):=(zz BK187.out 1).trans rfl;have hfz28_0:=zA BK187.out 0;have hfz28_1:=zA BK187.out 1;have HI187:=zh (show IsS54 w wr gb187 x188000_1 x188001_1 from ⟨BK187.out,GE187.out⟩)
        go_wp2_with (first|((with_reducible refine zJ (f:=31) rfl ?_);refine yj (some 29) rfl rfl Try.func31 (by kernel_rfl) rfl #[.pointer (some ⟨gb187,0,none⟩)] rfl (by (try simp only [zt,zu,zv]);first|done|rfl|(simp only [zw,zx];rfl)|(simp only [yr,ys,zV,zW];rfl)) ?_;(with_reducible refine (impl_byteReader_keyEnd.calls k1  gb187 x188000_1 x188001_1 t191 false w _ ?side1 ?side2 A19.out).mono ?_);(case side1 => repeat (with_reducible first|exact HI187.out|apply IsS54.alloc|apply IsS54.drewN|apply IsS54.drew|apply IsS54.set_0|apply IsS54.set_1));(case side2 => repeat (with_reducible first|exact HB.out|apply za|apply zb|apply zc|refine zd ?_ (IsS54.ge HI187.out)));rintro e w29 ⟨rfl,hi,hb,hk⟩;refine ⟨_,rfl,?_⟩;replace HO_7:=zh (zM (Kd.R_keep (IsS54.apart (show IsS54 w _ gb187 x188000_1 x188001_1 from by repeat (with_reducible first|exact HI187.out|apply IsS54.alloc|apply IsS54.drewN|apply IsS54.drew|apply IsS54.set_0|apply IsS54.set_1)) (by (with_reducible repeat (first|apply zm|apply zn|apply zo));exact HO_7.out) (by decide)) hk (fun _ h => h.2)) (fun _ h => h.1));replace HB:=zh (hb);replace BK187:=zh ((show _∧_ from hi).1);clear HI187;(try clear hb);(try clear hb2);(try clear hk);(try clear hi);have hcz30_0 : w29.cell? ⟨gb187,0,none⟩=some (.string t191):=(zz BK187.out 0).trans rfl;have hcz30_1 : w29.cell? ⟨gb187,1,none⟩=some (.bool false):=(zz BK187.out 1).trans rfl;have hfz30_0:=zA BK187.out 0;have hfz30_1:=zA BK187.out 1)|((with_reducible refine yB (b:=.append) (xs:=#[.tmp 34,.tmp 45]) rfl ?_);at_builtin;refine Kd.R_append Kd.string (w0:=w) w.heap.size rfl (.tmp 34) (.tmp 45) 22 9 (.string ⟨#[]⟩) 16 rfl Try.underlying22 info9 rfl (by decide) (by omega) u7 x7_1 (x188000_1.extract 0 ((ji24) : Int).toNat) [.string (x188000_1.extract 0 ((ji24) : Int).toNat)] (fun _ => True) (fun _ => False) rfl rfl ?aP (fun _ hk => hk.elim) ?aF ?aO ?aB ?aS ?aL ?_;(case aP => exact rfl);(case aB => exact (by repeat (with_reducible first|exact HB.out|apply za|apply zb|apply zc|refine zd ?_ GE187.out)));(case aF => exact (fun _ _ => trivial));(case aO => exact (by (with_reducible repeat (first|apply zm|apply zn|apply zo));exact HO_7.out));(case aS => exact (zB (by repeat (with_reducible first|exact HB.out|apply za|apply zb|apply zc|refine zd ?_ GE187.out))));(case aL => have:=LMc27.out;omega);intro v194 w31 ho hb hg hat;rw [← Ny193.out] at ho;replace BK187:=zh (yw (g:=gb187) (o:=.cells #[.string t191,.bool false] 54 (0,0)) (by (with_reducible repeat (first|refine ze ?_ _|refine zf ?_|refine zg ?_ _));exact BK187.out) hg (Kd.R_ne HO_7.out BK187.out (by decide)));replace HB:=zh (hb);have HO195:=zh (ho);clear HO_7 ho hb hg hat))
        go_roundg k1
        case measure => have:=HK1.out;omega
        case rel => exact ⟨(y193),(wrap64 (x22_1 + 1)),(t191),(false),(by first|rfl|(simp;done)|(simp [*];done)),H',⟨by have:=HK1.out;omega⟩,⟨by (with_reducible repeat (first|apply zm|apply zn|apply zo));exact HO195.out⟩,⟨by (with_reducible repeat (first|refine ze ?_ _|refine zf ?_|refine zg ?_ _));exact BK187.out⟩,⟨by repeat (with_reducible first|exact HB.out|apply za|apply zb|apply zc|refine zd ?_ GE187.out)⟩⟩
       rw [if_neg c27] at H;exact absurd H (by simp)
      rw [if_neg c26] at H;exact absurd H (by simp)
     rw [if_neg c25] at H;exact absurd H (by simp)
    rw [if_neg c18] at H;have c18b0 : decide (x22_1<a1)=false:=decide_eq_false c18;clear c18
    by_cases c32 : x188000_1.toList=([] : List UInt8)
    ·
     rw [if_pos c32] at H
     have c32b0 : (x188000_1.toList == ([] : List UInt8))=true:=ya.mpr c32;have c32b1 : (x188000_1.toList != ([] : List UInt8))=false:=zX.mpr c32;clear c32;simp only [Option.some.injEq,Prod.mk.injEq] at H;obtain ⟨rfl,rfl⟩:=H;have hcz33_0 : wr.cell? ⟨gb187,0,none⟩=some (.string x188000_1):=(zz BK187.out 0).trans rfl;have hcz33_1 : wr.cell? ⟨gb187,1,none⟩=some (.bool x188001_1):=(zz BK187.out 1).trans rfl;have hfz33_0:=zA BK187.out 0;have hfz33_1:=zA BK187.out 1
     go_wp2
     go_ret2
     exact ⟨_,by first|rfl|(simp [yt,yu] <;> rfl)|(simp [*,yt,yu] <;> rfl),by (with_reducible repeat (first|apply zm|apply zn|apply zo));exact HO_7.out,by repeat (with_reducible first|exact HB.out|apply za|apply zb|apply zc|refine zd ?_ GE187.out)⟩
    rw [if_neg c32] at H;have c32b0 : (x188000_1.toList == ([] : List UInt8))=false:=zY.mpr c32;have c32b1 : (x188000_1.toList != ([] : List UInt8))=true:=zZ.mpr c32;simp only [Option.some.injEq,Prod.mk.injEq] at H;obtain ⟨rfl,rfl⟩:=H;have hcz34_0 : wr.cell? ⟨gb187,0,none⟩=some (.string x188000_1):=(zz BK187.out 0).trans rfl;have hcz34_1 : wr.cell? ⟨gb187,1,none⟩=some (.bool x188001_1):=(zz BK187.out 1).trans rfl;have hfz34_0:=zA BK187.out 0;have hfz34_1:=zA BK187.out 1
    go_wp2
    go_ret2
    exact ⟨_,by first|rfl|(simp [yt,yu] <;> rfl)|(simp [*,yt,yu] <;> rfl),by first|exact Kd.R_nil _ _ _ _ _|exact Kd.N_nil _ _ _ _ _|exact Kd.V_nil _ _ _ _ _|exact Kd.Q_nil _ _ _ _ _|exact Kd.S_nil _ _ _ _ _,by repeat (with_reducible first|exact HB.out|apply za|apply zb|apply zc|refine zd ?_ GE187.out)⟩
 replace c10:=yb.mpr c10;subst c10;have H1 : (some (([] : List ByteArray),4))=some (r1,r2):=by rw [if_neg (show ¬ (false=true) by decide)] at H;exact H
 clear H;have H:=H1;clear H1;simp only [Option.some.injEq,Prod.mk.injEq] at H;obtain ⟨rfl,rfl⟩:=H
 go_enter Try.func9,Try.ntmps9
 go_wp2_with (first|((with_reducible refine zK (N:=11) rfl ?_);refine Kd.R_lit Kd.string _ 9 ?hg (N:=11) ?hd (xs:=([a0] : List ByteArray)) (inner:=[.string a0]) (ok:=fun _ => True) (okp:=fun _ => True) ?hr ?hp (fun _ hk => hk) trivial (Below.refl _ _) (ye _) (by simp) ?_;(case hd => rfl);(case hg => rfl);(case hr => first|(go_simp;done)|(go_simp;rfl));(case hp => exact (Reps.one (show Kd.M Kd.string _ _ _ a0 [.string a0] from rfl) (Reps.none _ _)));intro v183 w35 ho36 hb hg_ hnew_;clear hg_ hnew_;(first|rw [← Ny182.out] at ho36|(simp only [Int.reduceToNat] at ho36;rw [← Ny182.out] at ho36));have HO184:=zh (yy ho36 (zB (by repeat (with_reducible first|exact HB.out|apply za|apply zb|apply zc))));replace HB:=zh (zC (by repeat (with_reducible first|exact HB.out|apply za|apply zb|apply zc)) hb);clear hb ho36;obtain ⟨Ao37,co37,eo37⟩:=yk HO184.out;subst eo37)|((with_reducible refine zJ (f:=29) rfl ?_);refine yj (some 12) rfl rfl Try.func29 (by kernel_rfl) rfl #[.slice Ao37 y182.length co37] rfl (by (try simp only [zt,zu,zv]);first|done|rfl|(simp only [zw,zx];rfl)|(simp only [yr,ys,zV,zW];rfl)) ?_;(with_reducible refine (impl_isLong.calls k  _ _ y182 false _ ?side1 ?side2 A3.out).mono ?_);(case side1 => repeat (first|exact (yh HO184.out).2.2|(with_reducible refine Kd.C_alloc ?_ _)|(with_reducible refine Kd.C_drewN ?_ _)|(with_reducible refine Kd.C_drew ?_)));(case side2 => exact (yh HO184.out).2.1);rintro e w38 ⟨rfl,hb⟩;refine ⟨_,rfl,?_⟩;replace HO184:=zh (yg (by (with_reducible repeat (first|apply zm|apply zn|apply zo));exact HO184.out) hb);replace HB:=zh (zC (by repeat (with_reducible first|exact HB.out|apply za|apply zb|apply zc)) hb);(try clear hb);(try clear hb2);(try clear hk);(try clear hi))|((with_reducible refine zJ (f:=30) rfl ?_);refine yj (some 15) rfl rfl Try.func30 (by kernel_rfl) rfl #[.int .i64 a1,.int .i64 0,.int .i64 8] rfl (by (try simp only [zt,zu,zv]);first|done|rfl|(simp only [zw,zx];rfl)|(simp only [yr,ys,zV,zW];rfl)) ?_;(with_reducible refine (impl_inRange.calls  a1 0 8 false _ A9.out).mono ?_);rintro e w' ⟨rfl,⟨nd,rfl⟩⟩;refine ⟨_,rfl,?_⟩))
 go_ret2
 exact ⟨_,by first|rfl|(simp [yt,yu] <;> rfl)|(simp [*,yt,yu] <;> rfl),by first|exact Kd.R_nil _ _ _ _ _|exact Kd.N_nil _ _ _ _ _|exact Kd.V_nil _ _ _ _ _|exact Kd.Q_nil _ _ _ _ _|exact Kd.S_nil _ _ _ _ _,by repeat (with_reducible first|exact HB.out|apply za|apply zb|apply zc)⟩

end Go.Proofs.Ytlljfjpdflcjlaa.Q
end
section
namespace Go.Proofs.Ytlljfjpdflcjlaa.Q
open Go.RowKit Go.Proofs.YtlljfjpdflcjlaaW.PrintWords Go.Proofs.YtlljfjpdflcjlaaW.PrintLast Go.Proofs.YtlljfjpdflcjlaaW.PrintMore
attribute [local go_sem] max2_int min2_int max_two min_two max_three min_three max_four min_four max2_str min2_str str_geq str_gtr str_leq   -- for this text's walks alone
set_option linter.unusedVariables false
set_option linter.unusedSimpArgs false

mutual
def laws_FnExactSplitKey.j0 : Nat→ByteArray→Int→List ByteArray→Int→List ByteArray→Bool→Option (Bool)
 | 0,_,_,_,_,_,_ => none
 | k + 1,x0,x1,x5,x6,x7,x36 => if x36=true then (some false) else ((laws_markStringS.f k x7 1).bind fun bt214 => ((laws_heldStringS.f k bt214.2 1).bind fun t216 => (if t216<0 then (some false) else (if t216=bt214.1 then ((impl_SplitKey.f k x0 x1).bind fun bt217 => ((laws_eqStringS.f k bt217.1 x5).bind fun t221 => (if t221=true then (laws_FnExactSplitKey.j1 k bt214.2 bt214.1 (bt217.2 != x6)) else (laws_FnExactSplitKey.j1 k bt214.2 bt214.1 true)))) else (some false)))))
def laws_FnExactSplitKey.j1 : Nat→List ByteArray→Int→Bool→Option (Bool)
 | 0,_,_,_ => none
 | k + 1,x7,x9,x62 => if x62=true then (some false) else ((laws_heldStringS.f k x7 1).bind fun t222 => (if t222<0 then (some false) else (if t222=x9 then (some true) else (some false))))
end
def laws_FnExactSplitKey.f (k : Nat) (a0 : ByteArray) (a1 : Int) : Option (Bool):=if (a0.size : Int) > 1048576 then (some true) else ((spec_SplitKey.f k a0 a1).bind fun bt205 => ((impl_SplitKey.f k a0 a1).bind fun bt209 => ((laws_eqStringS.f k bt209.1 bt205.1).bind fun t213 => (if t213=true then (laws_FnExactSplitKey.j0 k a0 a1 bt205.1 bt205.2 bt209.1 (bt209.2 != bt205.2)) else (laws_FnExactSplitKey.j0 k a0 a1 bt205.1 bt205.2 bt209.1 true)))))
theorem laws_FnExactSplitKey.mono_l : ∀ k,(∀ y0 y1 y2 y3 y4 y5,LeO (laws_FnExactSplitKey.j0 k y0 y1 y2 y3 y4 y5) (laws_FnExactSplitKey.j0 (k + 1) y0 y1 y2 y3 y4 y5))∧(∀ y0 y1 y2,LeO (laws_FnExactSplitKey.j1 k y0 y1 y2) (laws_FnExactSplitKey.j1 (k + 1) y0 y1 y2))
 | 0 => ⟨fun _ _ _ _ _ _ r h => by simp [laws_FnExactSplitKey.j0] at h,fun _ _ _ r h => by simp [laws_FnExactSplitKey.j1] at h⟩
 | k + 1 => by
  obtain ⟨ih0,ih1⟩:=laws_FnExactSplitKey.mono_l k;refine ⟨?_,?_⟩
  ·
   intro y0 y1 y2 y3 y4 y5
   unfold laws_FnExactSplitKey.j0
   repeat' first|(with_reducible exact ih0 _ _ _ _ _ _)|(with_reducible exact ih1 _ _ _)|(with_reducible exact spec_SplitKey.mono _ _ _)|(with_reducible exact impl_SplitKey.mono _ _ _)|(with_reducible exact laws_eqStringS.mono _ _ _)|(with_reducible exact laws_markStringS.mono _ _ _)|(with_reducible exact laws_heldStringS.mono _ _ _)|(with_reducible exact zQ _)|(with_reducible exact zN _)|(with_reducible refine zP ?_ ?_)|(with_reducible refine zO ?_ (fun _ => ?_))|refine zP ?_ ?_|refine zO ?_ (fun _ => ?_)
  intro y0 y1 y2;unfold laws_FnExactSplitKey.j1
  repeat' first|(with_reducible exact ih0 _ _ _ _ _ _)|(with_reducible exact ih1 _ _ _)|(with_reducible exact spec_SplitKey.mono _ _ _)|(with_reducible exact impl_SplitKey.mono _ _ _)|(with_reducible exact laws_eqStringS.mono _ _ _)|(with_reducible exact laws_markStringS.mono _ _ _)|(with_reducible exact laws_heldStringS.mono _ _ _)|(with_reducible exact zQ _)|(with_reducible exact zN _)|(with_reducible refine zP ?_ ?_)|(with_reducible refine zO ?_ (fun _ => ?_))|refine zP ?_ ?_|refine zO ?_ (fun _ => ?_)
theorem laws_FnExactSplitKey.mono : ∀ a0 a1 k,LeO (laws_FnExactSplitKey.f k a0 a1) (laws_FnExactSplitKey.f (k + 1) a0 a1):=by
 intro a0 a1 k;obtain ⟨ih0,ih1⟩:=laws_FnExactSplitKey.mono_l k;unfold laws_FnExactSplitKey.f
 repeat' first|(with_reducible exact ih0 _ _ _ _ _ _)|(with_reducible exact ih1 _ _ _)|(with_reducible exact spec_SplitKey.mono _ _ _)|(with_reducible exact impl_SplitKey.mono _ _ _)|(with_reducible exact laws_eqStringS.mono _ _ _)|(with_reducible exact laws_markStringS.mono _ _ _)|(with_reducible exact laws_heldStringS.mono _ _ _)|(with_reducible exact zQ _)|(with_reducible exact zN _)|(with_reducible refine zP ?_ ?_)|(with_reducible refine zO ?_ (fun _ => ?_))|refine zP ?_ ?_|refine zO ?_ (fun _ => ?_)
set_option maxHeartbeats 8000000 in
set_option maxRecDepth 100000 in
theorem laws_FnExactSplitKey.calls (k : Nat) (a0 : ByteArray) (a1 : Int) (r : Bool) (w : World) (h : laws_FnExactSplitKey.f k a0 a1=some r) :
  Calls Try.prog 3 #[.string a0,.int .i64 a1] w fun e w' => e = .returned (.bool r)∧Below w.heap.size w w':=by
 have HB:=zh (Below.refl w.heap.size w);have H : (if (a0.size : Int) > 1048576 then (some true) else ((spec_SplitKey.f k a0 a1).bind fun bt205 => ((impl_SplitKey.f k a0 a1).bind fun bt209 => ((laws_eqStringS.f k bt209.1 bt205.1).bind fun t213 => (if t213=true then (laws_FnExactSplitKey.j0 k a0 a1 bt205.1 bt205.2 bt209.1 (bt209.2 != bt205.2)) else (laws_FnExactSplitKey.j0 k a0 a1 bt205.1 bt205.2 bt209.1 true))))))=some r:=h;clear h
 by_cases c3 : (a0.size : Int) > 1048576
 ·
  rw [if_pos c3] at H
  have c3b0 : decide (1048576<(a0.size : Int))=true:=decide_eq_true c3;have c3b1 : decide (1048576<a0.size)=true:=decide_eq_true (by omega);clear c3;obtain rfl:=zU H
  go_enter Try.func3,Try.ntmps3
  go_wp2
  go_ret
  exact ⟨by first|rfl|(simp [yt,yu] <;> rfl)|(simp [*,yt,yu] <;> rfl),by repeat (with_reducible first|exact HB.out|apply za|apply zb|apply zc)⟩
 rw [if_neg c3] at H;have c3b0 : decide (1048576<(a0.size : Int))=false:=decide_eq_false c3;have c3b1 : decide (1048576<a0.size)=false:=decide_eq_false (by omega);clear c3;replace H:=zT.mp H;obtain ⟨⟨t205,t206⟩,A40,H⟩:=H;replace H : ((impl_SplitKey.f k a0 a1).bind fun bt209 => ((laws_eqStringS.f k bt209.1 t205).bind fun t213 => (if t213=true then (laws_FnExactSplitKey.j0 k a0 a1 t205 t206 bt209.1 (bt209.2 != t206)) else (laws_FnExactSplitKey.j0 k a0 a1 t205 t206 bt209.1 true))))=some r:=H;have A4:=zh A40;clear A40;replace H:=zT.mp H;obtain ⟨⟨t209,t210⟩,A50,H⟩:=H;replace H : ((laws_eqStringS.f k t209 t205).bind fun t213 => (if t213=true then (laws_FnExactSplitKey.j0 k a0 a1 t205 t206 t209 (t210 != t206)) else (laws_FnExactSplitKey.j0 k a0 a1 t205 t206 t209 true)))=some r:=H;have A5:=zh A50;clear A50;have HC6:=zh H;clear H
 go_enter Try.func3,Try.ntmps3
 go_upto_region 5 with (first|((with_reducible refine zJ (f:=8) rfl ?_);refine yj (some 19) rfl rfl Try.func8 (by kernel_rfl) rfl #[.string a0,.int .i64 a1] rfl (by (try simp only [zt,zu,zv]);first|done|rfl|(simp only [zw,zx];rfl)|(simp only [yr,ys,zV,zW];rfl)) ?_;(with_reducible refine (spec_SplitKey.calls k  a0 a1 t205 t206 _ A4.out).mono ?_);rintro e w7 ⟨v207,rfl,ho0,hb⟩;refine ⟨_,rfl,?_⟩;have HO208:=zh (yy ho0 (zB (by repeat (with_reducible first|exact HB.out|apply za|apply zb|apply zc))));replace HB:=zh (zC (by repeat (with_reducible first|exact HB.out|apply za|apply zb|apply zc)) hb);(try clear hb);(try clear hb2);(try clear hk);(try clear hi);(try clear ho0))|((with_reducible refine zJ (f:=9) rfl ?_);refine yj (some 25) rfl rfl Try.func9 (by kernel_rfl) rfl #[.string a0,.int .i64 a1] rfl (by (try simp only [zt,zu,zv]);first|done|rfl|(simp only [zw,zx];rfl)|(simp only [yr,ys,zV,zW];rfl)) ?_;(with_reducible refine (impl_SplitKey.calls k  a0 a1 t209 t210 _ A5.out).mono ?_);rintro e w8 ⟨v211,rfl,ho0,hb⟩;refine ⟨_,rfl,?_⟩;have HO212:=zh (yy (Kd.R_new' ho0 (Kd.R_lt (by (with_reducible repeat (first|apply zm|apply zn|apply zo));exact HO208.out))) (zB (by repeat (with_reducible first|exact HB.out|apply za|apply zb|apply zc))));replace HO208:=zh (Kd.R_elder' (by (with_reducible repeat (first|apply zm|apply zn|apply zo));exact HO208.out) (Kd.R_base ho0) hb);replace HB:=zh (zC (by repeat (with_reducible first|exact HB.out|apply za|apply zb|apply zc)) hb);(try clear hb);(try clear hb2);(try clear hk);(try clear hi);(try clear ho0)))
 (try simp only [Act.put,zi,zj,zk])
 go_cut [36] (fun v36 wc => ∃ (kq : Nat) (x36_5 : Bool),v36 = .bool x36_5∧Aside0 (laws_FnExactSplitKey.j0 kq a0 a1 t205 t206 t209 x36_5=some r)∧Aside0 (kq≤k)∧Aside0 (Kd.R Kd.string 9 wc w.heap.size (fun k_ => some k_≠(v211 : Value).ownBlock) v207 t205)∧Aside0 (Kd.R Kd.string 9 wc w.heap.size (fun k_ => some k_≠(v207 : Value).ownBlock) v211 t209)∧Aside0 (Below w.heap.size w wc))
 case first =>
  have H:=HC6.out;clear HC6;replace H:=zT.mp H;obtain ⟨t213,A90,H⟩:=H;replace H : (if t213=true then (laws_FnExactSplitKey.j0 k a0 a1 t205 t206 t209 (t210 != t206)) else (laws_FnExactSplitKey.j0 k a0 a1 t205 t206 t209 true))=some r:=H;have A9:=zh A90;clear A90
  by_cases c10 : t213=true
  ·
   subst c10
   have H1 : (laws_FnExactSplitKey.j0 k a0 a1 t205 t206 t209 (t210 != t206))=some r:=by rw [if_pos rfl] at H;exact H
   clear H;have H:=H1;clear H1;have H':=zh H;clear H;obtain ⟨Ao11,co11,eo11⟩:=yk HO212.out;subst eo11;obtain ⟨Ao12,co12,eo12⟩:=yk HO208.out;subst eo12
   go_wp2_with (first|((with_reducible refine zJ (f:=10) rfl ?_);refine yj (some 30) rfl rfl Try.func10 (by kernel_rfl) rfl #[.slice Ao11 t209.length co11,.slice Ao12 t205.length co12] rfl (by (try simp only [zt,zu,zv]);first|done|rfl|(simp only [zw,zx];rfl)|(simp only [yr,ys,zV,zW];rfl)) ?_;(with_reducible refine (laws_eqStringS.calls k  _ _ t209 _ _ t205 true _ ?side1 ?side2 ?side3 ?side4 A9.out).mono ?_);(case side1 => repeat (first|exact (yh HO212.out).2.2|(with_reducible refine Kd.C_alloc ?_ _)|(with_reducible refine Kd.C_drewN ?_ _)|(with_reducible refine Kd.C_drew ?_)));(case side2 => exact (yh HO212.out).2.1);(case side3 => repeat (first|exact (yh HO208.out).2.2|(with_reducible refine Kd.C_alloc ?_ _)|(with_reducible refine Kd.C_drewN ?_ _)|(with_reducible refine Kd.C_drew ?_)));(case side4 => exact (yh HO208.out).2.1);rintro e w' ⟨rfl,⟨nd,rfl⟩⟩;refine ⟨_,rfl,?_⟩))
   go_meet
   case rel => exact ⟨_,((t210 != t206)),(by first|rfl|(simp;done)|(simp [*];done)),H',⟨by first|omega|exact ye _⟩,⟨by (with_reducible repeat (first|apply zm|apply zn|apply zo));exact zM HO208.out (fun _ hk => hk.2)⟩,⟨by (with_reducible repeat (first|apply zm|apply zn|apply zo));exact zM HO212.out (fun _ hk => hk.2)⟩,⟨by repeat (with_reducible first|exact HB.out|apply za|apply zb|apply zc)⟩⟩
  replace c10:=yb.mpr c10;subst c10;have H1 : (laws_FnExactSplitKey.j0 k a0 a1 t205 t206 t209 true)=some r:=by rw [if_neg (show ¬ (false=true) by decide)] at H;exact H
  clear H;have H:=H1;clear H1;have H':=zh H;clear H;obtain ⟨Ao13,co13,eo13⟩:=yk HO212.out;subst eo13;obtain ⟨Ao14,co14,eo14⟩:=yk HO208.out;subst eo14
  go_wp2_with (first|((with_reducible refine zJ (f:=10) rfl ?_);refine yj (some 30) rfl rfl Try.func10 (by kernel_rfl) rfl #[.slice Ao13 t209.length co13,.slice Ao14 t205.length co14] rfl (by (try simp only [zt,zu,zv]);first|done|rfl|(simp only [zw,zx];rfl)|(simp only [yr,ys,zV,zW];rfl)) ?_;(with_reducible refine (laws_eqStringS.calls k  _ _ t209 _ _ t205 false _ ?side1 ?side2 ?side3 ?side4 A9.out).mono ?_);(case side1 => repeat (first|exact (yh HO212.out).2.2|(with_reducible refine Kd.C_alloc ?_ _)|(with_reducible refine Kd.C_drewN ?_ _)|(with_reducible refine Kd.C_drew ?_)));(case side2 => exact (yh HO212.out).2.1);(case side3 => repeat (first|exact (yh HO208.out).2.2|(with_reducible refine Kd.C_alloc ?_ _)|(with_reducible refine Kd.C_drewN ?_ _)|(with_reducible refine Kd.C_drew ?_)));(case side4 => exact (yh HO208.out).2.1);rintro e w' ⟨rfl,⟨nd,rfl⟩⟩;refine ⟨_,rfl,?_⟩))
  go_meet
  case rel => exact ⟨_,(true),(by first|rfl|(simp;done)|(simp [*];done)),H',⟨by first|omega|exact ye _⟩,⟨by (with_reducible repeat (first|apply zm|apply zn|apply zo));exact zM HO208.out (fun _ hk => hk.2)⟩,⟨by (with_reducible repeat (first|apply zm|apply zn|apply zo));exact zM HO212.out (fun _ hk => hk.2)⟩,⟨by repeat (with_reducible first|exact HB.out|apply za|apply zb|apply zc)⟩⟩
 case rest =>
  clear HC6
  try clear c1
  try clear p2
  try clear c3
  try clear c3b0
  try clear c3b1
  try clear c8
  try clear c9
  try clear c10
  obtain ⟨kq,x36_5,rfl,HA,HJ5,HO_5,HO_7,HB⟩:=hcut
  cases kq with
  | zero => exact absurd HA.out (by simp [laws_FnExactSplitKey.j0])
  | succ kj5 =>
   have H:=HA.out;clear HA;simp only [laws_FnExactSplitKey.j0] at H
   by_cases c15 : x36_5=true
   ·
    subst c15
    have H1 : (some false)=some r:=by rw [if_pos rfl] at H;exact H
    clear H;have H:=H1;clear H1;obtain rfl:=zU H
    go_wp2
    go_ret
    exact ⟨by first|rfl|(simp [yt,yu] <;> rfl)|(simp [*,yt,yu] <;> rfl),by repeat (with_reducible first|exact HB.out|apply za|apply zb|apply zc)⟩
   replace c15:=yb.mpr c15;subst c15;have H1 : ((laws_markStringS.f kj5 t209 1).bind fun bt214 => ((laws_heldStringS.f kj5 bt214.2 1).bind fun t216 => (if t216<0 then (some false) else (if t216=bt214.1 then ((impl_SplitKey.f kj5 a0 a1).bind fun bt217 => ((laws_eqStringS.f kj5 bt217.1 t205).bind fun t221 => (if t221=true then (laws_FnExactSplitKey.j1 kj5 bt214.2 bt214.1 (bt217.2 != t206)) else (laws_FnExactSplitKey.j1 kj5 bt214.2 bt214.1 true)))) else (some false)))))=some r:=by rw [if_neg (show ¬ (false=true) by decide)] at H;exact H
   clear H;have H:=H1;clear H1;replace H:=zT.mp H;obtain ⟨⟨t214,t215⟩,A160,H⟩:=H;replace H : ((laws_heldStringS.f kj5 t215 1).bind fun t216 => (if t216<0 then (some false) else (if t216=t214 then ((impl_SplitKey.f kj5 a0 a1).bind fun bt217 => ((laws_eqStringS.f kj5 bt217.1 t205).bind fun t221 => (if t221=true then (laws_FnExactSplitKey.j1 kj5 t215 t214 (bt217.2 != t206)) else (laws_FnExactSplitKey.j1 kj5 t215 t214 true)))) else (some false))))=some r:=H;have A16:=zh A160;clear A160;replace H:=zT.mp H;obtain ⟨t216,A170,H⟩:=H;replace H : (if t216<0 then (some false) else (if t216=t214 then ((impl_SplitKey.f kj5 a0 a1).bind fun bt217 => ((laws_eqStringS.f kj5 bt217.1 t205).bind fun t221 => (if t221=true then (laws_FnExactSplitKey.j1 kj5 t215 t214 (bt217.2 != t206)) else (laws_FnExactSplitKey.j1 kj5 t215 t214 true)))) else (some false)))=some r:=H;have A17:=zh A170;clear A170
   by_cases c18 : t216<0
   ·
    rw [if_pos c18] at H
    have c18b0 : decide (t216<0)=true:=decide_eq_true c18;clear c18;obtain rfl:=zU H;obtain ⟨Ao19,co19,eo19⟩:=yk HO_7.out;subst eo19
    go_wp2_with (first|((with_reducible refine zJ (f:=11) rfl ?_);refine yj (some 39) rfl rfl Try.func11 (by kernel_rfl) rfl #[.slice Ao19 t209.length co19,.int .i64 1] rfl (by (try simp only [zt,zu,zv]);first|done|rfl|(simp only [zw,zx];rfl)|(simp only [yr,ys,zV,zW];rfl)) ?_;(with_reducible refine (laws_markStringS.calls kj5  (fun k_ => some k_=(.slice Ao19 t209.length co19 : Value).ownBlock) (.slice Ao19 t209.length co19) t209 1 t214 t215 w _ ?side1 ?side2 A16.out).mono ?_);(case side1 => repeat (with_reducible first|exact HB.out|apply za|apply zb|apply zc));(case side2 => exact Kd.R_tight rfl HO_7.out);rintro e w20 ⟨rfl,hy0,hb,hkp⟩;refine ⟨_,rfl,?_⟩;replace HO_5:=zh (zM (ok':=fun k_ => some k_≠(.slice Ao19 t209.length co19 : Value).ownBlock) (Kd.R_keptB (HO_5.out) hkp (fun k_ hk_ hs_ => (hk_) hs_)) (fun k_ hk_ => hk_.1));replace HO_7:=zh (Kd.R_reok rfl hy0 (fun k_ e_ => HO_7.out.1 k_ e_));replace HB:=zh (hb);(try clear hb);(try clear hkp);(try clear hy0))|((with_reducible refine zJ (f:=12) rfl ?_);refine yj (some 42) rfl rfl Try.func12 (by kernel_rfl) rfl #[.slice Ao19 t215.length co19,.int .i64 1] rfl (by (try simp only [zt,zu,zv]);first|done|(rw [show t215.length=t209.length from (yh HO_7.out).1.symm] <;> rfl)|rfl|(simp only [zw,zx];rfl)|(simp only [yr,ys,zV,zW];rfl)) ?_;(with_reducible refine (laws_heldStringS.calls kj5  _ _ t215 1 t216 _ ?side1 ?side2 A17.out).mono ?_);(case side1 => repeat (first|exact (yh HO_7.out).2.2|(with_reducible refine Kd.C_alloc ?_ _)|(with_reducible refine Kd.C_drewN ?_ _)|(with_reducible refine Kd.C_drew ?_)));(case side2 => rw [show t215.length=t209.length from (yh HO_7.out).1.symm];exact (yh HO_7.out).2.1);rintro e w21 ⟨rfl,hb⟩;refine ⟨_,rfl,?_⟩;replace HO_5:=zh (yg (by (with_reducible repeat (first|apply zm|apply zn|apply zo));exact HO_5.out) hb);replace HO_7:=zh (yg (by (with_reducible repeat (first|apply zm|apply zn|apply zo));exact HO_7.out) hb);replace HB:=zh (zC (by repeat (with_reducible first|exact HB.out|apply za|apply zb|apply zc)) hb);(try clear hb);(try clear hb2);(try clear hk);(try clear hi)))
    go_ret
    exact ⟨by first|rfl|(simp [yt,yu] <;> rfl)|(simp [*,yt,yu] <;> rfl),by repeat (with_reducible first|exact HB.out|apply za|apply zb|apply zc)⟩
   rw [if_neg c18] at H;have c18b0 : decide (t216<0)=false:=decide_eq_false c18;clear c18
   by_cases c22 : t216=t214
   ·
    rw [if_pos c22] at H
    have c22b0 : (t216 == t214)=true:=ya.mpr c22;have c22b1 : (t216 != t214)=false:=zX.mpr c22;clear c22;replace H:=zT.mp H;obtain ⟨⟨t217,t218⟩,A230,H⟩:=H;replace H : ((laws_eqStringS.f kj5 t217 t205).bind fun t221 => (if t221=true then (laws_FnExactSplitKey.j1 kj5 t215 t214 (t218 != t206)) else (laws_FnExactSplitKey.j1 kj5 t215 t214 true)))=some r:=H;have A23:=zh A230;clear A230;have HC24:=zh H;clear H;obtain ⟨Ao25,co25,eo25⟩:=yk HO_7.out;subst eo25
    go_upto_region 16 with (first|((with_reducible refine zJ (f:=11) rfl ?_);refine yj (some 39) rfl rfl Try.func11 (by kernel_rfl) rfl #[.slice Ao25 t209.length co25,.int .i64 1] rfl (by (try simp only [zt,zu,zv]);first|done|rfl|(simp only [zw,zx];rfl)|(simp only [yr,ys,zV,zW];rfl)) ?_;(with_reducible refine (laws_markStringS.calls kj5  (fun k_ => some k_=(.slice Ao25 t209.length co25 : Value).ownBlock) (.slice Ao25 t209.length co25) t209 1 t214 t215 w _ ?side1 ?side2 A16.out).mono ?_);(case side1 => repeat (with_reducible first|exact HB.out|apply za|apply zb|apply zc));(case side2 => exact Kd.R_tight rfl HO_7.out);rintro e w26 ⟨rfl,hy0,hb,hkp⟩;refine ⟨_,rfl,?_⟩;replace HO_5:=zh (zM (ok':=fun k_ => some k_≠(.slice Ao25 t209.length co25 : Value).ownBlock) (Kd.R_keptB (HO_5.out) hkp (fun k_ hk_ hs_ => (hk_) hs_)) (fun k_ hk_ => hk_.1));replace HO_7:=zh (Kd.R_reok rfl hy0 (fun k_ e_ => HO_7.out.1 k_ e_));replace HB:=zh (hb);(try clear hb);(try clear hkp);(try clear hy0))|((with_reducible refine zJ (f:=12) rfl ?_);refine yj (some 42) rfl rfl Try.func12 (by kernel_rfl) rfl #[.slice Ao25 t215.length co25,.int .i64 1] rfl (by (try simp only [zt,zu,zv]);first|done|(rw [show t215.length=t209.length from (yh HO_7.out).1.symm] <;> rfl)|rfl|(simp only [zw,zx];rfl)|(simp only [yr,ys,zV,zW];rfl)) ?_;(with_reducible refine (laws_heldStringS.calls kj5  _ _ t215 1 t216 _ ?side1 ?side2 A17.out).mono ?_);(case side1 => repeat (first|exact (yh HO_7.out).2.2|(with_reducible refine Kd.C_alloc ?_ _)|(with_reducible refine Kd.C_drewN ?_ _)|(with_reducible refine Kd.C_drew ?_)));(case side2 => rw [show t215.length=t209.length from (yh HO_7.out).1.symm];exact (yh HO_7.out).2.1);rintro e w27 ⟨rfl,hb⟩;refine ⟨_,rfl,?_⟩;replace HO_5:=zh (yg (by (with_reducible repeat (first|apply zm|apply zn|apply zo));exact HO_5.out) hb);replace HO_7:=zh (yg (by (with_reducible repeat (first|apply zm|apply zn|apply zo));exact HO_7.out) hb);replace HB:=zh (zC (by repeat (with_reducible first|exact HB.out|apply za|apply zb|apply zc)) hb);(try clear hb);(try clear hb2);(try clear hk);(try clear hi))|((with_reducible refine zJ (f:=9) rfl ?_);refine yj (some 51) rfl rfl Try.func9 (by kernel_rfl) rfl #[.string a0,.int .i64 a1] rfl (by (try simp only [zt,zu,zv]);first|done|rfl|(simp only [zw,zx];rfl)|(simp only [yr,ys,zV,zW];rfl)) ?_;(with_reducible refine (impl_SplitKey.calls kj5  a0 a1 t217 t218 _ A23.out).mono ?_);rintro e w28 ⟨v219,rfl,ho0,hb⟩;refine ⟨_,rfl,?_⟩;have HO220:=zh (yy (Kd.R_new' (Kd.R_new' ho0 (Kd.R_lt (by (with_reducible repeat (first|apply zm|apply zn|apply zo));exact HO_5.out))) (Kd.R_lt (by (with_reducible repeat (first|apply zm|apply zn|apply zo));exact HO_7.out))) (zB (by repeat (with_reducible first|exact HB.out|apply za|apply zb|apply zc))));replace HO_5:=zh (Kd.R_elder' (by (with_reducible repeat (first|apply zm|apply zn|apply zo));exact HO_5.out) (Kd.R_base ho0) hb);replace HO_7:=zh (Kd.R_elder' (by (with_reducible repeat (first|apply zm|apply zn|apply zo));exact HO_7.out) (Kd.R_base ho0) hb);replace HB:=zh (zC (by repeat (with_reducible first|exact HB.out|apply za|apply zb|apply zc)) hb);(try clear hb);(try clear hb2);(try clear hk);(try clear hi);(try clear ho0)))
    (try simp only [Act.put,zi,zj,zk])
    go_cut [62] (fun v62 wc => ∃ (kq : Nat) (x62_23 : Bool),v62 = .bool x62_23∧Aside0 (laws_FnExactSplitKey.j1 kq t215 t214 x62_23=some r)∧Aside0 (kq≤kj5)∧Aside0 (Kd.R Kd.string 9 wc w.heap.size (fun _ => True) (.slice Ao25 t209.length co25) t215)∧Aside0 (Below w.heap.size w wc))
    case first =>
     have H:=HC24.out;clear HC24;replace H:=zT.mp H;obtain ⟨t221,A290,H⟩:=H;replace H : (if t221=true then (laws_FnExactSplitKey.j1 kj5 t215 t214 (t218 != t206)) else (laws_FnExactSplitKey.j1 kj5 t215 t214 true))=some r:=H;have A29:=zh A290;clear A290
     by_cases c30 : t221=true
     ·
      subst c30
      have H1 : (laws_FnExactSplitKey.j1 kj5 t215 t214 (t218 != t206))=some r:=by rw [if_pos rfl] at H;exact H
      clear H;have H:=H1;clear H1;have H':=zh H;clear H;obtain ⟨Ao31,co31,eo31⟩:=yk HO220.out;subst eo31;obtain ⟨Ao32,co32,eo32⟩:=yk HO_5.out;subst eo32
      go_wp2_with (first|((with_reducible refine zJ (f:=10) rfl ?_);refine yj (some 56) rfl rfl Try.func10 (by kernel_rfl) rfl #[.slice Ao31 t217.length co31,.slice Ao32 t205.length co32] rfl (by (try simp only [zt,zu,zv]);first|done|rfl|(simp only [zw,zx];rfl)|(simp only [yr,ys,zV,zW];rfl)) ?_;(with_reducible refine (laws_eqStringS.calls kj5  _ _ t217 _ _ t205 true _ ?side1 ?side2 ?side3 ?side4 A29.out).mono ?_);(case side1 => repeat (first|exact (yh HO220.out).2.2|(with_reducible refine Kd.C_alloc ?_ _)|(with_reducible refine Kd.C_drewN ?_ _)|(with_reducible refine Kd.C_drew ?_)));(case side2 => exact (yh HO220.out).2.1);(case side3 => repeat (first|exact (yh HO_5.out).2.2|(with_reducible refine Kd.C_alloc ?_ _)|(with_reducible refine Kd.C_drewN ?_ _)|(with_reducible refine Kd.C_drew ?_)));(case side4 => exact (yh HO_5.out).2.1);rintro e w' ⟨rfl,⟨nd,rfl⟩⟩;refine ⟨_,rfl,?_⟩))
      go_meet
      case rel => exact ⟨_,((t218 != t206)),(by first|rfl|(simp;done)|(simp [*];done)),H',⟨by have:=HJ5.out;first|omega|exact ye _⟩,⟨by (with_reducible repeat (first|apply zm|apply zn|apply zo));exact zM HO_7.out (fun _ hk => trivial)⟩,⟨by repeat (with_reducible first|exact HB.out|apply za|apply zb|apply zc)⟩⟩
     replace c30:=yb.mpr c30;subst c30;have H1 : (laws_FnExactSplitKey.j1 kj5 t215 t214 true)=some r:=by rw [if_neg (show ¬ (false=true) by decide)] at H;exact H
     clear H;have H:=H1;clear H1;have H':=zh H;clear H;obtain ⟨Ao33,co33,eo33⟩:=yk HO220.out;subst eo33;obtain ⟨Ao34,co34,eo34⟩:=yk HO_5.out;subst eo34
     go_wp2_with (first|((with_reducible refine zJ (f:=10) rfl ?_);refine yj (some 56) rfl rfl Try.func10 (by kernel_rfl) rfl #[.slice Ao33 t217.length co33,.slice Ao34 t205.length co34] rfl (by (try simp only [zt,zu,zv]);first|done|rfl|(simp only [zw,zx];rfl)|(simp only [yr,ys,zV,zW];rfl)) ?_;(with_reducible refine (laws_eqStringS.calls kj5  _ _ t217 _ _ t205 false _ ?side1 ?side2 ?side3 ?side4 A29.out).mono ?_);(case side1 => repeat (first|exact (yh HO220.out).2.2|(with_reducible refine Kd.C_alloc ?_ _)|(with_reducible refine Kd.C_drewN ?_ _)|(with_reducible refine Kd.C_drew ?_)));(case side2 => exact (yh HO220.out).2.1);(case side3 => repeat (first|exact (yh HO_5.out).2.2|(with_reducible refine Kd.C_alloc ?_ _)|(with_reducible refine Kd.C_drewN ?_ _)|(with_reducible refine Kd.C_drew ?_)));(case side4 => exact (yh HO_5.out).2.1);rintro e w' ⟨rfl,⟨nd,rfl⟩⟩;refine ⟨_,rfl,?_⟩))
     go_meet
     case rel => exact ⟨_,(true),(by first|rfl|(simp;done)|(simp [*];done)),H',⟨by have:=HJ5.out;first|omega|exact ye _⟩,⟨by (with_reducible repeat (first|apply zm|apply zn|apply zo));exact zM HO_7.out (fun _ hk => trivial)⟩,⟨by repeat (with_reducible first|exact HB.out|apply za|apply zb|apply zc)⟩⟩
    case rest =>
     clear HC24
     try clear c1
     try clear c2
     try clear p2
     try clear c3
     try clear c3b0
     try clear c3b1
     try clear c8
     try clear c9
     try clear c10
     try clear c11
     try clear c12
     try clear c15
     try clear c18
     try clear c18b0
     try clear c22
     try clear c22b0
     try clear c22b1
     try clear c30
     try clear p2
     obtain ⟨kq,x62_23,rfl,HA,HJ23,HO_7,HB⟩:=hcut;have hl7_23:=(yh HO_7.out).1;rw [hl7_23] at HO_7;(try simp only [hl7_23])
     cases kq with
     | zero => exact absurd HA.out (by simp [laws_FnExactSplitKey.j1])
     | succ kj23 =>
      have H:=HA.out;clear HA;simp only [laws_FnExactSplitKey.j1] at H
      by_cases c35 : x62_23=true
      ·
       subst c35
       have H1 : (some false)=some r:=by rw [if_pos rfl] at H;exact H
       clear H;have H:=H1;clear H1;obtain rfl:=zU H
       go_wp2
       go_ret
       exact ⟨by first|rfl|(simp [yt,yu] <;> rfl)|(simp [*,yt,yu] <;> rfl),by repeat (with_reducible first|exact HB.out|apply za|apply zb|apply zc)⟩
      replace c35:=yb.mpr c35;subst c35;have H1 : ((laws_heldStringS.f kj23 t215 1).bind fun t222 => (if t222<0 then (some false) else (if t222=t214 then (some true) else (some false))))=some r:=by rw [if_neg (show ¬ (false=true) by decide)] at H;exact H
      clear H;have H:=H1;clear H1;replace H:=zT.mp H;obtain ⟨t222,A360,H⟩:=H;replace H : (if t222<0 then (some false) else (if t222=t214 then (some true) else (some false)))=some r:=H;have A36:=zh A360;clear A360
      by_cases c37 : t222<0
      ·
       rw [if_pos c37] at H
       have c37b0 : decide (t222<0)=true:=decide_eq_true c37;clear c37;obtain rfl:=zU H
       go_wp2_with (first|((with_reducible refine zJ (f:=12) rfl ?_);refine yj (some 65) rfl rfl Try.func12 (by kernel_rfl) rfl #[.slice Ao25 t215.length co25,.int .i64 1] rfl (by (try simp only [zt,zu,zv]);first|done|rfl|(simp only [zw,zx];rfl)|(simp only [yr,ys,zV,zW];rfl)) ?_;(with_reducible refine (laws_heldStringS.calls kj23  _ _ t215 1 t222 _ ?side1 ?side2 A36.out).mono ?_);(case side1 => repeat (first|exact (yh HO_7.out).2.2|(with_reducible refine Kd.C_alloc ?_ _)|(with_reducible refine Kd.C_drewN ?_ _)|(with_reducible refine Kd.C_drew ?_)));(case side2 => exact (yh HO_7.out).2.1);rintro e w38 ⟨rfl,hb⟩;refine ⟨_,rfl,?_⟩;replace HO_7:=zh (yg (by (with_reducible repeat (first|apply zm|apply zn|apply zo));exact HO_7.out) hb);replace HB:=zh (zC (by repeat (with_reducible first|exact HB.out|apply za|apply zb|apply zc)) hb);(try clear hb);(try clear hb2);(try clear hk);(try clear hi)))
       go_ret
       exact ⟨by first|rfl|(simp [yt,yu] <;> rfl)|(simp [*,yt,yu] <;> rfl),by repeat (with_reducible first|exact HB.out|apply za|apply zb|apply zc)⟩
      rw [if_neg c37] at H;have c37b0 : decide (t222<0)=false:=decide_eq_false c37;clear c37
      by_cases c39 : t222=t214
      ·
       rw [if_pos c39] at H
       have c39b0 : (t222 == t214)=true:=ya.mpr c39;have c39b1 : (t222 != t214)=false:=zX.mpr c39;clear c39;obtain rfl:=zU H
       go_wp2_with (first|((with_reducible refine zJ (f:=12) rfl ?_);refine yj (some 65) rfl rfl Try.func12 (by kernel_rfl) rfl #[.slice Ao25 t215.length co25,.int .i64 1] rfl (by (try simp only [zt,zu,zv]);first|done|rfl|(simp only [zw,zx];rfl)|(simp only [yr,ys,zV,zW];rfl)) ?_;(with_reducible refine (laws_heldStringS.calls kj23  _ _ t215 1 t222 _ ?side1 ?side2 A36.out).mono ?_);(case side1 => repeat (first|exact (yh HO_7.out).2.2|(with_reducible refine Kd.C_alloc ?_ _)|(with_reducible refine Kd.C_drewN ?_ _)|(with_reducible refine Kd.C_drew ?_)));(case side2 => exact (yh HO_7.out).2.1);rintro e w40 ⟨rfl,hb⟩;refine ⟨_,rfl,?_⟩;replace HO_7:=zh (yg (by (with_reducible repeat (first|apply zm|apply zn|apply zo));exact HO_7.out) hb);replace HB:=zh (zC (by repeat (with_reducible first|exact HB.out|apply za|apply zb|apply zc)) hb);(try clear hb);(try clear hb2);(try clear hk);(try clear hi)))
       go_ret
       exact ⟨by first|rfl|(simp [yt,yu] <;> rfl)|(simp [*,yt,yu] <;> rfl),by repeat (with_reducible first|exact HB.out|apply za|apply zb|apply zc)⟩
      rw [if_neg c39] at H;have c39b0 : (t222 == t214)=false:=zY.mpr c39;have c39b1 : (t222 != t214)=true:=zZ.mpr c39;obtain rfl:=zU H
      go_wp2_with (first|((with_reducible refine zJ (f:=12) rfl ?_);refine yj (some 65) rfl rfl Try.func12 (by kernel_rfl) rfl #[.slice Ao25 t215.length co25,.int .i64 1] rfl (by (try simp only [zt,zu,zv]);first|done|rfl|(simp only [zw,zx];rfl)|(simp only [yr,ys,zV,zW];rfl)) ?_;(with_reducible refine (laws_heldStringS.calls kj23  _ _ t215 1 t222 _ ?side1 ?side2 A36.out).mono ?_);(case side1 => repeat (first|exact (yh HO_7.out).2.2|(with_reducible refine Kd.C_alloc ?_ _)|(with_reducible refine Kd.C_drewN ?_ _)|(with_reducible refine Kd.C_drew ?_)));(case side2 => exact (yh HO_7.out).2.1);rintro e w41 ⟨rfl,hb⟩;refine ⟨_,rfl,?_⟩;replace HO_7:=zh (yg (by (with_reducible repeat (first|apply zm|apply zn|apply zo));exact HO_7.out) hb);replace HB:=zh (zC (by repeat (with_reducible first|exact HB.out|apply za|apply zb|apply zc)) hb);(try clear hb);(try clear hb2);(try clear hk);(try clear hi)))
      go_ret
      exact ⟨by first|rfl|(simp [yt,yu] <;> rfl)|(simp [*,yt,yu] <;> rfl),by repeat (with_reducible first|exact HB.out|apply za|apply zb|apply zc)⟩
   rw [if_neg c22] at H;have c22b0 : (t216 == t214)=false:=zY.mpr c22;have c22b1 : (t216 != t214)=true:=zZ.mpr c22;obtain rfl:=zU H;obtain ⟨Ao42,co42,eo42⟩:=yk HO_7.out;subst eo42
   go_wp2_with (first|((with_reducible refine zJ (f:=11) rfl ?_);refine yj (some 39) rfl rfl Try.func11 (by kernel_rfl) rfl #[.slice Ao42 t209.length co42,.int .i64 1] rfl (by (try simp only [zt,zu,zv]);first|done|rfl|(simp only [zw,zx];rfl)|(simp only [yr,ys,zV,zW];rfl)) ?_;(with_reducible refine (laws_markStringS.calls kj5  (fun k_ => some k_=(.slice Ao42 t209.length co42 : Value).ownBlock) (.slice Ao42 t209.length co42) t209 1 t214 t215 w _ ?side1 ?side2 A16.out).mono ?_);(case side1 => repeat (with_reducible first|exact HB.out|apply za|apply zb|apply zc));(case side2 => exact Kd.R_tight rfl HO_7.out);rintro e w43 ⟨rfl,hy0,hb,hkp⟩;refine ⟨_,rfl,?_⟩;replace HO_5:=zh (zM (ok':=fun k_ => some k_≠(.slice Ao42 t209.length co42 : Value).ownBlock) (Kd.R_keptB (HO_5.out) hkp (fun k_ hk_ hs_ => (hk_) hs_)) (fun k_ hk_ => hk_.1));replace HO_7:=zh (Kd.R_reok rfl hy0 (fun k_ e_ => HO_7.out.1 k_ e_));replace HB:=zh (hb);(try clear hb);(try clear hkp);(try clear hy0))|((with_reducible refine zJ (f:=12) rfl ?_);refine yj (some 42) rfl rfl Try.func12 (by kernel_rfl) rfl #[.slice Ao42 t215.length co42,.int .i64 1] rfl (by (try simp only [zt,zu,zv]);first|done|(rw [show t215.length=t209.length from (yh HO_7.out).1.symm] <;> rfl)|rfl|(simp only [zw,zx];rfl)|(simp only [yr,ys,zV,zW];rfl)) ?_;(with_reducible refine (laws_heldStringS.calls kj5  _ _ t215 1 t216 _ ?side1 ?side2 A17.out).mono ?_);(case side1 => repeat (first|exact (yh HO_7.out).2.2|(with_reducible refine Kd.C_alloc ?_ _)|(with_reducible refine Kd.C_drewN ?_ _)|(with_reducible refine Kd.C_drew ?_)));(case side2 => rw [show t215.length=t209.length from (yh HO_7.out).1.symm];exact (yh HO_7.out).2.1);rintro e w44 ⟨rfl,hb⟩;refine ⟨_,rfl,?_⟩;replace HO_5:=zh (yg (by (with_reducible repeat (first|apply zm|apply zn|apply zo));exact HO_5.out) hb);replace HO_7:=zh (yg (by (with_reducible repeat (first|apply zm|apply zn|apply zo));exact HO_7.out) hb);replace HB:=zh (zC (by repeat (with_reducible first|exact HB.out|apply za|apply zb|apply zc)) hb);(try clear hb);(try clear hb2);(try clear hk);(try clear hi)))
   go_ret
   exact ⟨by first|rfl|(simp [yt,yu] <;> rfl)|(simp [*,yt,yu] <;> rfl),by repeat (with_reducible first|exact HB.out|apply za|apply zb|apply zc)⟩

end Go.Proofs.Ytlljfjpdflcjlaa.Q
end
section
namespace Go.Proofs.YtlljfjpdflcjlaaW.PrintOpen
open Go.RowKit Go.ChangeShapes Go.WideShapes Go.ChangeAt Go.Proofs.YtlljfjpdflcjlaaW.PrintWords
def Opens {α : Type} (P : Program) (d : Kd α) (t : TypeId) (good : α→Prop) : Prop :=
 ∀ (H : Type) (enc : TypeId×Value→H) (w : World) (base : Nat) (spare : Nat→Bool) (held : Bool) (fuel : Nat) (cs : List Value) (x : DataW H×List MemPlace),
  DataW.trod enc P w base spare held fuel t cs=some x → ∃ a,d.K w a cs∧good a
variable {P : Program}
def OpensF {α : Type} (P : Program) (d : Kd α) (fs : List Field) (off : Nat) (good : α→Prop) : Prop :=
 ∀ (H : Type) (enc : TypeId×Value→H) (w : World) (base : Nat) (spare : Nat→Bool) (held : Bool) (fuel : Nat) (cs : List Value),off + d.sz≤cs.length →
  (∀ f ∈ fs,∃ x,DataW.trod enc P w base spare held fuel f.type ((cs.drop f.offset).take (P.cellsOf f.type))=some x) → ∃ a,d.K w a ((cs.drop off).take d.sz)∧good a
end Go.Proofs.YtlljfjpdflcjlaaW.PrintOpen
end
section
namespace Go.Proofs.Ytlljfjpdflcjlaa.Q
open Go.RowKit Go.Proofs.YtlljfjpdflcjlaaW.PrintWords Go.Proofs.YtlljfjpdflcjlaaW.PrintLast Go.Proofs.YtlljfjpdflcjlaaW.PrintMore Go.Proofs.YtlljfjpdflcjlaaW.PrintOpen
def good29 (x_ : S29) : Prop:=((Lit.int .i64 x_.f0).wf=true)∧(((Lit.int .i64 x_.f1).wf=true)∧((x_.f2.size≤9223372036854775807)))
end Go.Proofs.Ytlljfjpdflcjlaa.Q
end
section
namespace Go.Proofs.Ytlljfjpdflcjlaa.Q
def laws_FnExactSplitKey.Pure : Prop:=∀ (x0 : ByteArray) (x1 : Int),(x0.size≤9223372036854775807)→((Lit.int .i64 x1).wf=true) → ∃ k,laws_FnExactSplitKey.f k x0 x1=some true
end Go.Proofs.Ytlljfjpdflcjlaa.Q
end
section
namespace Go.Proofs.YtlljfjpdflcjlaaW.Pl
open Go Go.RowKit Go.Proofs.YtlljfjpdflcjlaaW.PrintWords Go.Proofs.YtlljfjpdflcjlaaW.PrintMore
theorem w64 {i : Int} (h0 : -9223372036854775808≤i) (h1 : i≤9223372036854775807) : wrap64 i=i:=by unfold wrap64;omega
theorem fuel {k d : Nat} (h : d<k) : ∃ m,k=m + 1∧d≤m:=⟨k - 1,by omega,by omega⟩
theorem rdOf_at {α : Type} (d : α) (xs : List α) (i : Nat) (h : i<xs.length) : rdOf d xs (i : Int)=xs[i]:=by
 unfold rdOf;simp [List.getD,h]
theorem rd_at (xs : List Int) (i : Nat) (h : i<xs.length) : rd xs (i : Int)=xs[i]:=by
 unfold rd;simp [List.getD,h]
theorem drop_at {α : Type} (xs : List α) (i : Nat) (h : i<xs.length) : xs.drop i=xs[i] :: xs.drop (i + 1):=List.drop_eq_getElem_cons h
theorem ba_toList (a : ByteArray) : a.toList=a.data.toList:=ByteArray.toList_eq a
theorem ba_ext {a b : ByteArray} (h : a.toList=b.toList) : a=b:=by
 rw [ba_toList,ba_toList] at h
 cases a;cases b
 simp at h;rw [h]
def all2 {α β : Type} (e : α→β→Bool) : List α→List β→Bool
 | [],_ => true
 | _ :: _,[] => true
 | x :: xs,y :: ys => e x y && all2 e xs ys
def first {α : Type} (p : α→Bool) : List α→Nat→Int
 | [],_ => -1
 | x :: xs,i => if p x=true then i else first p xs (i + 1)
def total {α : Type} (s : α→Nat) : List α→Nat
 | [] => 0
 | x :: xs => s x + total s xs
def less {α : Type} (s : α→Nat) : List α→Int→Int
 | [],l => l
 | x :: xs,l => if l - s x<0 then -1 else less s xs (l - s x)
def Eve {α : Type} (g : Nat→Option α) (v : α) : Prop:=∃ K,∀ k,K≤k→g k=some v
theorem Eve.one {α : Type} {v : α} : Eve (fun _ => some v) v:=⟨0,fun _ _ => rfl⟩
theorem Eve.all {α : Type} {g : Nat→Option α} {v : α} (h : ∀ k,g k=some v) : Eve g v:=⟨0,fun k _ => h k⟩
theorem Eve.of {α : Type} {g : Nat→Option α} {v : α} {n : Nat} (h : ∀ k,n<k→g k=some v) : Eve g v:=⟨n + 1,fun k hk => h k (by omega)⟩
theorem Eve.succ {α : Type} {g : Nat→Option α} {v : α} (h : Eve (fun k => g (k + 1)) v) : Eve g v:=by
 obtain ⟨K,h⟩:=h;refine ⟨K + 1,fun k hk => ?_⟩;obtain ⟨k,rfl⟩ : ∃ m,k=m + 1:=⟨k - 1,by omega⟩;exact h k (by omega)
theorem Eve.bind {α β : Type} {g : Nat→Option α} {f : Nat→α→Option β} {v : α} {u : β} (h : Eve g v) (h2 : Eve (fun k => f k v) u) : Eve (fun k => (g k).bind (f k)) u:=by
 obtain ⟨K,h⟩:=h;obtain ⟨K2,h2⟩:=h2;refine ⟨max K K2,fun k hk => ?_⟩;show (g k).bind (f k)=some u;rw [h k (by omega),Option.bind_some];exact h2 k (by omega)
theorem Eve.ite {α : Type} {c : Prop} [Decidable c] {a b : Nat→Option α} {v : α} (h1 : c→Eve a v) (h2 : ¬ c→Eve b v) : Eve (fun k => if c then a k else b k) v:=by
 by_cases h : c
 ·
  simp only [if_pos h];exact h1 h
 simp only [if_neg h];exact h2 h
theorem Eve.get {α : Type} {g : Nat→Option α} {v : α} (h : Eve g v) : ∃ k,g k=some v:=by
 obtain ⟨K,h⟩:=h;exact ⟨K,h K (by omega)⟩
theorem Eve.eq {α : Type} {g : Nat→Option α} {v u : α} (h : Eve g v) (e : v=u) : Eve g u:=e ▸ h
theorem Eve.congr {α : Type} {g f : Nat→Option α} {v : α} (h : Eve g v) (e : ∀ k,f k=g k) : Eve f v:=by
 obtain ⟨K,h⟩:=h;exact ⟨K,fun k hk => by rw [e,h k hk]⟩
theorem ev_loop {σ α β : Type} (xs : List α) (g : Nat→σ→Int→Option β) (R : Nat→σ→List α→β) (I : Nat→σ→Prop)
  (hend : ∀ s,I xs.length s→Eve (fun k => g (k + 1) s (xs.length : Int)) (R xs.length s []))
  (hstep : ∀ (i : Nat) (h : i<xs.length) (s : σ),I i s→(∀ s',I (i + 1) s' → Eve (fun k => g k s' ((i + 1 : Nat) : Int)) (R (i + 1) s' (xs.drop (i + 1)))) →
   Eve (fun k => g (k + 1) s (i : Int)) (R i s (xs[i] :: xs.drop (i + 1)))) :
  ∀ (d i : Nat) (s : σ),i + d=xs.length→I i s→Eve (fun k => g k s (i : Int)) (R i s (xs.drop i)):=by
 intro d
 induction d with
 | zero =>
  intro i s hi hI;obtain rfl : i=xs.length:=by omega
  rw [List.drop_length];exact Eve.succ (hend s hI)
 | succ d ih =>
  intro i s hi hI;have hlt : i<xs.length:=by omega
  rw [drop_at xs i hlt];exact Eve.succ (hstep i hlt s hI (fun s' h' => ih (i + 1) s' (by omega) h'))
theorem ev_loop0 {σ α β : Type} (xs : List α) (g : Nat→σ→Int→Option β) (R : Nat→σ→List α→β) (I : Nat→σ→Prop)
  (hend : ∀ s,I xs.length s→Eve (fun k => g (k + 1) s (xs.length : Int)) (R xs.length s []))
  (hstep : ∀ (i : Nat) (h : i<xs.length) (s : σ),I i s→(∀ s',I (i + 1) s' → Eve (fun k => g k s' ((i + 1 : Nat) : Int)) (R (i + 1) s' (xs.drop (i + 1)))) →
   Eve (fun k => g (k + 1) s (i : Int)) (R i s (xs[i] :: xs.drop (i + 1)))) (s : σ) (h0 : I 0 s) : Eve (fun k => g k s 0) (R 0 s xs):=by
 have:=ev_loop xs g R I hend hstep xs.length 0 s (by omega) h0
 simpa using this
theorem ev_all {α : Type} (xs : List α) (g : Nat→Int→Option Bool) (q : α→Bool)
  (hend : Eve (fun k => g (k + 1) (xs.length : Int)) true)
  (hstep : ∀ (i : Nat) (h : i<xs.length) (v : Bool),Eve (fun k => g k ((i + 1 : Nat) : Int)) v→Eve (fun k => g (k + 1) (i : Int)) (q xs[i] && v)) : Eve (fun k => g k 0) (xs.all q) :=
 ev_loop0 xs (fun k (_ : Unit) i => g k i) (fun _ _ r => r.all q) (fun _ _ => True) (fun _ _ => hend) (fun i hi s _ ih => by
  rw [List.all_cons];exact hstep i hi _ (ih () trivial)) () trivial
end Go.Proofs.YtlljfjpdflcjlaaW.Pl
end
