/- FnExactNewTree: the law, which takes no argument, answers true. No condition. -/
import Derived.Test.YtnppmokkdhgkgaaProg
import Derived.Lib.Strings
import Derived.Lib.Slices
import Derived.Lib.Walk
import Derived.Lib.Bytealg
import Derived.Test.YtnppmokkdhgkgaaKLawFnExactNewTreep12
import Derived.Test.YtnppmokkdhgkgaaKLawFnExactNewTreep14
import Derived.Test.YtnppmokkdhgkgaaKLawFnExactNewTreep16
import Derived.Test.YtnppmokkdhgkgaaKLawFnExactNewTreep17
import Derived.Test.YtnppmokkdhgkgaaKLawFnExactNewTreep18
import Derived.Test.YtnppmokkdhgkgaaKLawFnExactNewTreep20
import Derived.Test.YtnppmokkdhgkgaaKLawFnExactNewTreep21
import Derived.LoopN
import Derived.Deep.RegionWith
import Derived.Test.YtnppmokkdhgkgaaRows
import Derived.ProofKit
import Derived.OpenShut
import Derived.ShutString
import Derived.ChangeOld
import Derived.SizedLaws
import Derived.Carry
section
namespace Go.Proofs.Ytnppmokkdhgkgaa.Q
open Go.RowKit Go.Proofs.YtnppmokkdhgkgaaW.PrintWords Go.Proofs.YtnppmokkdhgkgaaW.PrintLast Go.Proofs.YtnppmokkdhgkgaaW.PrintMore
attribute [local go_sem] max2_int min2_int max_two min_two max_three min_three max_four min_four max2_str min2_str str_geq str_gtr str_leq
set_option linter.unusedVariables false
set_option linter.unusedSimpArgs false



def errW : Option Int→Value
 | none => .nilIface
 | some c => .iface 0 (.int .i64 c)
theorem errW_none : errW none = .nilIface:=rfl
theorem errW_some (c : Int) : errW (some c) = .iface 0 (.int .i64 c):=rfl

-- the values' own types
structure S23 where
 f0 : ByteArray
 f1 : ByteArray
 f2 : Bool
def z23 : S23:=⟨(⟨#[]⟩ : ByteArray),(⟨#[]⟩ : ByteArray),false⟩
def k23 : Kd S23:=Kd.iso (Kd.pair Kd.string (Kd.pair Kd.string Kd.bool)) (fun x : S23 => (x.f0,x.f1,x.f2))
def rd_T23 (xs : List S23) (i : Int) : S23:=xs.getD i.toNat z23
structure S91 where
 f0 : ByteArray
 f1 : Int
def z91 : S91:=⟨(⟨#[]⟩ : ByteArray),(0 : Int)⟩
def k91 : Kd S91:=Kd.iso (Kd.pair Kd.string (Kd.int .i64)) (fun x : S91 => (x.f0,x.f1))
def rd_T91 (xs : List S91) (i : Int) : S91:=xs.getD i.toNat z91
def rd_L5 (xs : List (List S91)) (i : Int) : (List S91):=xs.getD i.toNat ([] : List S91)
structure S53 where
 f0 : Int
 f1 : (List S91)
def z53 : S53:=⟨(0 : Int),([] : List S91)⟩
def k53 : Kd S53:=Kd.iso (Kd.pair (Kd.int .i64) (Kd.slice 91 k91)) (fun x : S53 => (x.f0,x.f1))
def rd_T53 (xs : List S53) (i : Int) : S53:=xs.getD i.toNat z53
structure S113 where
 f0 : Int
 f1 : Int
 f2 : ByteArray
def z113 : S113:=⟨(0 : Int),(0 : Int),(⟨#[]⟩ : ByteArray)⟩
def k113 : Kd S113:=Kd.iso (Kd.pair (Kd.int .i64) (Kd.pair (Kd.int .i64) Kd.string)) (fun x : S113 => (x.f0,x.f1,x.f2))
def rd_T113 (xs : List S113) (i : Int) : S113:=xs.getD i.toNat z113
structure S125 where
 f0 : Int
 f1 : Bool
 f2 : S113
def z125 : S125:=⟨(0 : Int),false,z113⟩
def k125 : Kd S125:=Kd.iso (Kd.pair (Kd.int .i64) (Kd.pair Kd.bool k113)) (fun x : S125 => (x.f0,x.f1,x.f2))
def rd_T125 (xs : List S125) (i : Int) : S125:=xs.getD i.toNat z125
def rd_L10 (xs : List (List S125)) (i : Int) : (List S125):=xs.getD i.toNat ([] : List S125)
structure S100 where
 f0 : Int
 f1 : (List S125)
def z100 : S100:=⟨(0 : Int),([] : List S125)⟩
def k100 : Kd S100:=Kd.iso (Kd.pair (Kd.int .i64) (Kd.slice 125 k125)) (fun x : S100 => (x.f0,x.f1))
def rd_T100 (xs : List S100) (i : Int) : S100:=xs.getD i.toNat z100
structure S127 where
 f0 : ByteArray
 f1 : Bool
def z127 : S127:=⟨(⟨#[]⟩ : ByteArray),false⟩
def k127 : Kd S127:=Kd.iso (Kd.pair Kd.string Kd.bool) (fun x : S127 => (x.f0,x.f1))
def rd_T127 (xs : List S127) (i : Int) : S127:=xs.getD i.toNat z127
def rd_L13 (xs : List (List S127)) (i : Int) : (List S127):=xs.getD i.toNat ([] : List S127)
structure S104 where
 f0 : ByteArray
 f1 : (List S127)
def z104 : S104:=⟨(⟨#[]⟩ : ByteArray),([] : List S127)⟩
def k104 : Kd S104:=Kd.iso (Kd.pair Kd.string (Kd.slice 127 k127)) (fun x : S104 => (x.f0,x.f1))
def rd_T104 (xs : List S104) (i : Int) : S104:=xs.getD i.toNat z104
def rd_L15 (xs : List (List S100)) (i : Int) : (List S100):=xs.getD i.toNat ([] : List S100)
def rd_L16 (xs : List (List S104)) (i : Int) : (List S104):=xs.getD i.toNat ([] : List S104)
structure S62 where
 f0 : ByteArray
 f1 : (List S100)
 f2 : (List S104)
def z62 : S62:=⟨(⟨#[]⟩ : ByteArray),([] : List S100),([] : List S104)⟩
def k62 : Kd S62:=Kd.iso (Kd.pair Kd.string (Kd.pair (Kd.slice 100 k100) (Kd.slice 104 k104))) (fun x : S62 => (x.f0,x.f1,x.f2))
def rd_T62 (xs : List S62) (i : Int) : S62:=xs.getD i.toNat z62
structure S137 where
 f0 : Int
 f1 : ByteArray
 f2 : S113
def z137 : S137:=⟨(0 : Int),(⟨#[]⟩ : ByteArray),z113⟩
def k137 : Kd S137:=Kd.iso (Kd.pair (Kd.int .i64) (Kd.pair Kd.string k113)) (fun x : S137 => (x.f0,x.f1,x.f2))
def rd_T137 (xs : List S137) (i : Int) : S137:=xs.getD i.toNat z137
def rd_L19 (xs : List (List S137)) (i : Int) : (List S137):=xs.getD i.toNat ([] : List S137)
structure S131 where
 f0 : (List S137)
def z131 : S131:=⟨([] : List S137)⟩
def k131 : Kd S131:=Kd.iso (Kd.slice 137 k137) (fun x : S131 => x.f0)
def rd_T131 (xs : List S131) (i : Int) : S131:=xs.getD i.toNat z131
def rd_L21 (xs : List (List S131)) (i : Int) : (List S131):=xs.getD i.toNat ([] : List S131)
structure S108 where
 f0 : (List S131)
def z108 : S108:=⟨([] : List S131)⟩
def k108 : Kd S108:=Kd.iso (Kd.slice 131 k131) (fun x : S108 => x.f0)
def rd_T108 (xs : List S108) (i : Int) : S108:=xs.getD i.toNat z108
structure S110 where
 f0 : ByteArray
 f1 : S108
def z110 : S110:=⟨(⟨#[]⟩ : ByteArray),z108⟩
def k110 : Kd S110:=Kd.iso (Kd.pair Kd.string k108) (fun x : S110 => (x.f0,x.f1))
def rd_T110 (xs : List S110) (i : Int) : S110:=xs.getD i.toNat z110
def rd_L24 (xs : List (List S110)) (i : Int) : (List S110):=xs.getD i.toNat ([] : List S110)
structure S115 where
 f0 : ByteArray
 f1 : Int
 f2 : Bool
 f3 : S113
def z115 : S115:=⟨(⟨#[]⟩ : ByteArray),(0 : Int),false,z113⟩
def k115 : Kd S115:=Kd.iso (Kd.pair Kd.string (Kd.pair (Kd.int .i64) (Kd.pair Kd.bool k113))) (fun x : S115 => (x.f0,x.f1,x.f2,x.f3))
def rd_T115 (xs : List S115) (i : Int) : S115:=xs.getD i.toNat z115
def rd_L26 (xs : List (List S115)) (i : Int) : (List S115):=xs.getD i.toNat ([] : List S115)
structure S78 where
 f0 : Int
 f1 : Int
 f2 : (List S110)
 f3 : (List S115)
def z78 : S78:=⟨(0 : Int),(0 : Int),([] : List S110),([] : List S115)⟩
def k78 : Kd S78:=Kd.iso (Kd.pair (Kd.int .i64) (Kd.pair (Kd.int .i64) (Kd.pair (Kd.slice 110 k110) (Kd.slice 115 k115)))) (fun x : S78 => (x.f0,x.f1,x.f2,x.f3))
def rd_T78 (xs : List S78) (i : Int) : S78:=xs.getD i.toNat z78
structure S117 where
 f0 : S115
 f1 : S113
 f2 : Bool
def z117 : S117:=⟨z115,z113,false⟩
def k117 : Kd S117:=Kd.iso (Kd.pair k115 (Kd.pair k113 Kd.bool)) (fun x : S117 => (x.f0,x.f1,x.f2))
def rd_T117 (xs : List S117) (i : Int) : S117:=xs.getD i.toNat z117
def rd_L29 (xs : List (List S117)) (i : Int) : (List S117):=xs.getD i.toNat ([] : List S117)
structure S82 where
 f0 : Int
 f1 : Int
 f2 : (List S110)
 f3 : (List S117)
 f4 : Bool
 f5 : Bool
def z82 : S82:=⟨(0 : Int),(0 : Int),([] : List S110),([] : List S117),false,false⟩
def k82 : Kd S82:=Kd.iso (Kd.pair (Kd.int .i64) (Kd.pair (Kd.int .i64) (Kd.pair (Kd.slice 110 k110) (Kd.pair (Kd.slice 117 k117) (Kd.pair Kd.bool Kd.bool))))) (fun x : S82 => (x.f0,x.f1,x.f2,x.f3,x.f4,x.f5))
def rd_T82 (xs : List S82) (i : Int) : S82:=xs.getD i.toNat z82
def rd_L31 (xs : List (List ByteArray)) (i : Int) : (List ByteArray):=xs.getD i.toNat ([] : List ByteArray)
abbrev bm_ (i n : Nat) : Array Bool:=(List.replicate i true ++ List.replicate (n - i) false).toArray
abbrev za:=@below_alloc
abbrev zb:=@pw_below_drewN
abbrev zc:=@below_drew1
abbrev zd:=@below_set
abbrev ze:=@blk_drewN
abbrev zf:=@blk_drew
abbrev zg:=@blk_alloc
abbrev zh:=@World.block_lt_of_cell?
abbrev zi:=@Kept.drewN
abbrev zj:=@Kept.drew
abbrev zk:=@Kept.alloc
abbrev zl:=@Kept.setCell
abbrev zm:=@List.map_toArray
abbrev zn:=@List.map_cons
abbrev zo:=@List.map_nil
abbrev zp:=@List.length_drop
abbrev zq:=@List.length_take
abbrev zr:=@of_decide_eq_true
abbrev zs:=@blk_cell
abbrev zt:=@blk_frozen
abbrev zu:=@below_size
abbrev zv:=@below_step
abbrev zw:=@blk_below
abbrev zx:=@add_block
abbrev zy:=@i64_w
abbrev zz:=@i32_w
abbrev zA:=@box_event
abbrev zB:=@gate_callee
abbrev zC:=@gate_dst
abbrev zD:=@blk_put
abbrev zE:=@LeO.none
abbrev zF:=@LeO.bind
abbrev zG:=@LeO.ite
abbrev zH:=@LeO.refl
abbrev zI:=@cell_far
abbrev zJ:=@blk_far
abbrev zK:=@Option.bind_eq_some_iff
abbrev zL:=@Option.some.inj
abbrev zM:=@beq_iff_eq
abbrev zN:=@Nat.ne_of_gt
abbrev zO:=@Nat.le_refl
abbrev zP:=@Kd.R_reads'
abbrev zQ:=@blk_lt
abbrev zR:=@goesL_
abbrev zS:=@Kd.R_slice
abbrev zT:=@KeepBut.set_
abbrev zU:=@keep_drewN
abbrev zV:=@keep_alloc
abbrev zW:=@take_ofW
abbrev zX:=@Drawn0.refl
abbrev zY:=@Drawn0.step
abbrev zZ:=@gt_iff_lt
abbrev ya:=@errW_none
abbrev yb:=@errW_some
abbrev yc:=@blk_grown
abbrev yd:=@keep_drew
abbrev ye:=@gate_guard
abbrev yf:=@Kept.of_grown
abbrev yg:=@gate_builtin
end Go.Proofs.Ytnppmokkdhgkgaa.Q
end
section
namespace Go.Proofs.Ytnppmokkdhgkgaa.Q
open Go.RowKit Go.Proofs.YtnppmokkdhgkgaaW.PrintWords Go.Proofs.YtnppmokkdhgkgaaW.PrintLast Go.Proofs.YtnppmokkdhgkgaaW.PrintMore
set_option linter.unusedVariables false
set_option linter.unusedSimpArgs false
theorem blk_at' {w : World} {g : Nat} {o : Obj} (h : w.heap.size=g) : (w.alloc o).heap[g]? = some o:=by subst h;exact blk_new w o
abbrev pg (n : Int) (A : Option Addr) (c : Nat) : Obj:=.cells #[.int .i64 n,.slice A 0 c] 53 (0,0)
set_option maxHeartbeats 4000000 in
set_option maxRecDepth 100000 in
theorem t_spec_new (w : World) : Calls Try.prog 11 #[] w fun e w' => ∃ g A c,e = .returned (.agg #[.slice (some ⟨g,0,none⟩) 1 1,.int .i64 2])∧w'.heap[g]? = some (pg 1 A c)∧w.heap.size≤g∧Below w.heap.size w w':=by
 have hu32:=Try.underlying32
 go_enter Try.func11,Try.ntmps11
 go_wp2
 refine bodyPost_ret (results_cell_row rfl _ _ w.heap.size 32 #[.slice (some ⟨w.heap.size + 1 + 1,0,none⟩) 1 1,.int .i64 2] (0,0) _ rfl (by refine blk_alloc (blk_alloc ?_ _) _;exact blk_at' (by simp)) hu32 rfl (by kernel_rfl)) rfl ?_
 exact ⟨_,_,_,rfl,blk_at' (by simp),by omega,by repeat (first|exact Below.refl _ _|refine below_alloc ?_ _)⟩
set_option maxHeartbeats 4000000 in
set_option maxRecDepth 100000 in
theorem t_impl_new (w : World) : Calls Try.prog 12 #[] w fun e w' => ∃ g A c,e = .returned (.agg #[.slice (some ⟨g,0,none⟩) 1 1,.int .i64 2])∧w'.heap[g]? = some (pg 1 A c)∧w.heap.size≤g∧Below w.heap.size w w':=by
 have hu32:=Try.underlying32
 go_enter Try.func12,Try.ntmps12
 go_wp2
 refine bodyPost_ret (results_cell_row rfl _ _ w.heap.size 32 #[.slice (some ⟨w.heap.size + 1,0,none⟩) 1 1,.int .i64 2] (0,0) _ rfl (by refine blk_alloc ?_ _;exact blk_at' (by simp)) hu32 rfl (by kernel_rfl)) rfl ?_
 exact ⟨_,_,_,rfl,blk_at' (by simp),by omega,by repeat (first|exact Below.refl _ _|refine below_alloc ?_ _)⟩
set_option maxHeartbeats 4000000 in
set_option maxRecDepth 100000 in
theorem t_markEntryS (w : World) (A : Option Addr) (c : Nat) (n : Int) : Calls Try.prog 45 #[.slice A 0 c,.int .i64 n] w fun e w' => e = .returned (.int .i64 n)∧w' = w:=by
 go_enter Try.func45,Try.ntmps45
 go_wp2
 refine wp_loop_rounds 1 ?_
 rw [rounds_succ]
 go_wp2
 go_ret
 exact ⟨rfl,rfl⟩
set_option maxHeartbeats 4000000 in
set_option maxRecDepth 100000 in
theorem t_heldEntryS (w : World) (A : Option Addr) (c : Nat) (n : Int) : Calls Try.prog 46 #[.slice A 0 c,.int .i64 n] w fun e w' => e = .returned (.int .i64 n)∧w' = w:=by
 go_enter Try.func46,Try.ntmps46
 go_wp2
 refine wp_loop_rounds 1 ?_
 rw [rounds_succ]
 go_wp2
 go_ret
 exact ⟨rfl,rfl⟩
set_option maxHeartbeats 4000000 in
set_option maxRecDepth 100000 in
theorem t_eqEntryS (w : World) (A A' : Option Addr) (c c' : Nat) : Calls Try.prog 63 #[.slice A 0 c,.slice A' 0 c'] w fun e w' => e = .returned (.bool true)∧w' = w:=by
 go_enter Try.func63,Try.ntmps63
 go_wp2
 refine wp_loop_rounds 1 ?_
 rw [rounds_succ]
 go_wp2
 go_ret
 exact ⟨rfl,rfl⟩
set_option maxHeartbeats 4000000 in
set_option maxRecDepth 100000 in
theorem t_eqPage (w : World) (n : Int) (A A' : Option Addr) (c c' : Nat) : Calls Try.prog 44 #[.agg #[.int .i64 n,.slice A 0 c],.agg #[.int .i64 n,.slice A' 0 c']] w fun e w' => e = .returned (.bool true)∧Below w.heap.size w w':=by
 go_enter Try.func44,Try.ntmps44
 go_wp2_with (first|(go_at_call 63;refine (t_eqEntryS _ _ _ _ _).mono ?_;rintro e w1 ⟨rfl,rfl⟩))
 go_ret
 exact ⟨rfl,by repeat (first|exact Below.refl _ _|refine below_alloc ?_ _)⟩
set_option maxHeartbeats 4000000 in
set_option maxRecDepth 100000 in
theorem t_eqPageS (w : World) (g g' : Nat) (n : Int) (A A' : Option Addr) (c c' : Nat) (h : w.heap[g]? = some (pg n A c)) (h' : w.heap[g']? = some (pg n A' c')) :
  Calls Try.prog 26 #[.slice (some ⟨g,0,none⟩) 1 1,.slice (some ⟨g',0,none⟩) 1 1] w fun e w' => e = .returned (.bool true)∧Below w.heap.size w w':=by
 have a0:=blk_cell h 0
 have a1:=blk_cell h 1
 have b0:=blk_cell h' 0
 have b1:=blk_cell h' 1
 have hu53:=Try.underlying53
 go_enter Try.func26,Try.ntmps26
 go_wp2
 refine wp_loop_rounds 2 ?_
 rw [rounds_succ]
 go_wp2
 go_region_with (go_at_call 44;refine (t_eqPage _ _ _ _ _ _).mono ?_;rintro e w1 ⟨rfl,hb⟩)
 all_goals (try go_wp2)
 all_goals (rw [rounds_succ];go_wp2;go_ret;exact ⟨rfl,Below.trans (below_drew (Below.refl _ w)) hb⟩)
set_option maxHeartbeats 4000000 in
set_option maxRecDepth 100000 in
theorem t_eqTree (w : World) (g g' : Nat) (n m : Int) (A A' : Option Addr) (c c' : Nat) (h : w.heap[g]? = some (pg n A c)) (h' : w.heap[g']? = some (pg n A' c')) :
  Calls Try.prog 13 #[.agg #[.slice (some ⟨g,0,none⟩) 1 1,.int .i64 m],.agg #[.slice (some ⟨g',0,none⟩) 1 1,.int .i64 m]] w fun e w' => e = .returned (.bool true)∧Below w.heap.size w w':=by
 have hu32:=Try.underlying32
 go_enter Try.func13,Try.ntmps13
 go_wp2_with (first|(go_at_call 26;refine (t_eqPageS _ g g' n A A' c c' (by repeat (first|exact h|refine blk_alloc ?_ _)) (by repeat (first|exact h'|refine blk_alloc ?_ _))).mono ?_;rintro e w1 ⟨rfl,hb⟩;have r1:=blk_cell (blk_below (blk_alloc (blk_new w (.cells #[.slice (some ⟨g,0,none⟩) 1 1,.int .i64 m] 32)) (.cells #[.slice (some ⟨g',0,none⟩) 1 1,.int .i64 m] 32)) hb) 1;have r2:=blk_cell (g:=w.heap.size + 1) (blk_below (blk_at' (o:=.cells #[.slice (some ⟨g',0,none⟩) 1 1,.int .i64 m] 32) (by simp)) hb) 1))
 go_ret
 exact ⟨rfl,Below.trans (below_alloc (below_alloc (Below.refl _ w) _) _) ⟨hb.os,hb.tape,hb.output,hb.size,fun k hk => hb.block k (by simp;omega)⟩⟩
structure Stored (w w' : World) (g : Nat) (o : Obj) : Prop where
 at_ : w'.heap[g]? = some o
 below : ∀ w0 : World,Below w0.heap.size w0 w→w0.heap.size≤g→Below w0.heap.size w0 w'
 kept : Kept w w' (fun k => k=g)
theorem Stored.of_below {w w1 w2 : World} {g : Nat} {o : Obj} (h : Stored w w1 g o) (hb : Below w1.heap.size w1 w2) : Stored w w2 g o :=
 ⟨blk_below h.at_ hb,fun w0 h0 hg => below_step (h.below w0 h0 hg) hb,h.kept.below hb⟩
set_option maxHeartbeats 4000000 in
set_option maxRecDepth 100000 in
theorem t_markPageS (w : World) (g : Nat) (n k : Int) (A : Option Addr) (c : Nat) (h : w.heap[g]? = some (pg n A c)) (hk : 0≤k∧k≤1000000) :
  Calls Try.prog 27 #[.slice (some ⟨g,0,none⟩) 1 1,.int .i64 k] w fun e w' => e = .returned (.int .i64 (k + 1))∧Stored w w' g (pg k A c):=by
 have a0:=blk_cell h 0
 have a1:=blk_cell h 1
 have f0:=blk_frozen h 0
 have hw : wrap64 (k + 1)=k + 1:=by unfold wrap64;omega
 have hu53:=Try.underlying53
 go_enter Try.func27,Try.ntmps27
 go_wp2
 refine wp_loop_rounds 2 ?_
 rw [rounds_succ]
 go_wp2_with (first|(go_at_call 45;refine (t_markEntryS _ _ _ _).mono ?_;rintro e w1 ⟨rfl,rfl⟩))
 rw [rounds_succ]
 go_wp2
 go_ret
 exact ⟨by first|rfl|(simp [hw];done),blk_put h 0 _ rfl,fun w0 h0 hg => below_set h0 hg,(Kept.refl w (fun k => k=g)).setCell (p:=⟨g,0,none⟩) (.inl rfl) _⟩
set_option maxHeartbeats 4000000 in
set_option maxRecDepth 100000 in
theorem t_markTree (w : World) (g : Nat) (n k m : Int) (A : Option Addr) (c : Nat) (h : w.heap[g]? = some (pg n A c)) (hk : 0≤k∧k≤1000000) :
  Calls Try.prog 14 #[.agg #[.slice (some ⟨g,0,none⟩) 1 1,.int .i64 m],.int .i64 k] w fun e w' => e = .returned (.int .i64 (k + 1))∧Stored w w' g (pg k A c):=by
 have hu32:=Try.underlying32
 go_enter Try.func14,Try.ntmps14
 go_wp2_with (first|(go_at_call 27;refine (t_markPageS _ g n k A c (by repeat (first|exact h|refine blk_alloc ?_ _)) hk).mono ?_;rintro e w1 ⟨rfl,hs⟩))
 go_ret
 refine ⟨by first|rfl|(simp;done),hs.at_,fun w0 h0 hg => hs.below w0 (below_alloc h0 _) hg,?_⟩
 exact (((Kept.refl w (fun k => k=g)).alloc _).then_ hs.kept (fun k hk => .inl hk))
set_option maxHeartbeats 4000000 in
set_option maxRecDepth 100000 in
theorem t_heldPageS (w : World) (g : Nat) (k : Int) (A : Option Addr) (c : Nat) (h : w.heap[g]? = some (pg k A c)) (hk : 0≤k∧k≤1000000) :
  Calls Try.prog 28 #[.slice (some ⟨g,0,none⟩) 1 1,.int .i64 k] w fun e w' => e = .returned (.int .i64 (k + 1))∧Below w.heap.size w w':=by
 have a0:=blk_cell h 0
 have a1:=blk_cell h 1
 have hw : wrap64 (k + 1)=k + 1:=by unfold wrap64;omega
 have hn : decide (k + 1<0)=false:=decide_eq_false (by omega)
 have hn' : (k + 1<0)=False:=eq_false (by omega)
 have hu53:=Try.underlying53
 go_enter Try.func28,Try.ntmps28
 go_wp2
 refine wp_loop_rounds 2 ?_
 rw [rounds_succ]
 go_wp2_with (first|(go_at_call 46;refine (t_heldEntryS _ _ _ _).mono ?_;rintro e w1 ⟨rfl,rfl⟩))
 rw [rounds_succ]
 go_wp2
 go_ret
 exact ⟨by first|rfl|(simp [hw];done),by repeat (first|exact Below.refl _ _|refine below_alloc ?_ _|refine below_drew ?_)⟩
set_option maxHeartbeats 4000000 in
set_option maxRecDepth 100000 in
theorem t_heldTree (w : World) (g : Nat) (k m : Int) (A : Option Addr) (c : Nat) (h : w.heap[g]? = some (pg k A c)) (hk : 0≤k∧k≤1000000) :
  Calls Try.prog 15 #[.agg #[.slice (some ⟨g,0,none⟩) 1 1,.int .i64 m],.int .i64 k] w fun e w' => e = .returned (.int .i64 (k + 1))∧Below w.heap.size w w':=by
 have hu32:=Try.underlying32
 have hn : decide (k + 1<0)=false:=decide_eq_false (by omega)
 have hn' : (k + 1<0)=False:=eq_false (by omega)
 go_enter Try.func15,Try.ntmps15
 go_wp2_with (first|(go_at_call 28;refine (t_heldPageS _ g k A c (by repeat (first|exact h|refine blk_alloc ?_ _)) hk).mono ?_;rintro e w1 ⟨rfl,hb⟩))
 go_ret
 exact ⟨by first|rfl|(simp;done),Below.trans (below_alloc (Below.refl _ w) _) ⟨hb.os,hb.tape,hb.output,hb.size,fun k hk => hb.block k (by simp;omega)⟩⟩
theorem cellA {w : World} {g : Nat} {t : TypeId} {cs : Array Value} (h : w.heap[g]? = some (.cells cs t (0,0))) (o : Obj) (i : Nat) : (w.alloc o).cell? ⟨g,i,none⟩=cs[i]?:=blk_cell (blk_alloc h o) i
abbrev bx (g : Nat) : Obj:=.cells #[.slice (some ⟨g,0,none⟩) 1 1,.int .i64 2] 32 (0,0)
set_option maxHeartbeats 8000000 in
set_option maxRecDepth 100000 in
theorem t_law (w : World) : Calls Try.prog 4 #[] w fun e w' => e = .returned (.bool true)∧Below w.heap.size w w':=by
 have hu32:=Try.underlying32
 go_enter Try.func4,Try.ntmps4
 go_wp2_with fail
 go_at_call 11
 refine (t_spec_new _).mono ?_
 rintro e w1 ⟨gs,As,cs,rfl,hs1,hgs,hb1⟩
 go_wp2_with fail
 go_at_call 12
 refine (t_impl_new _).mono ?_
 rintro e w2 ⟨gi,Ai,ci,rfl,hi2,hgi,hb2⟩
 have lt1 : gs<w1.heap.size:=blk_lt hs1
 have B1 : w2.heap[w1.heap.size]? = some (bx gs):=blk_below (blk_new w1 _) hb2
 have S1 : w2.heap[gs]? = some (pg 1 As cs):=blk_below (blk_alloc hs1 _) hb2
 have lt2 : w1.heap.size<w2.heap.size:=blk_lt B1
 have lt3 : w1.heap.size<gi:=by simp at hgi;omega
 have lt4 : gi<w2.heap.size:=blk_lt hi2
 have q0:=cellA B1 (bx gi) 0
 have q1:=cellA B1 (bx gi) 1
 have hwg : w.heap.size≤gi:=by have:=hb1.size;omega
 go_wp2_with fail
 go_at_call 13
 refine (t_eqTree _ gi gs 1 2 Ai As ci cs (blk_alloc hi2 _) (blk_alloc S1 _)).mono ?_
 rintro e w3 ⟨rfl,hb3⟩
 have hi3:=blk_below (blk_alloc hi2 (bx gi)) hb3
 have S3:=blk_below (blk_alloc S1 (bx gi)) hb3
 have B3:=blk_below (blk_alloc B1 (bx gi)) hb3
 have G3:=blk_below (blk_new w2 (bx gi)) hb3
 have qa0:=blk_cell B3 0
 have qa1:=blk_cell B3 1
 have qb0:=blk_cell G3 0
 have qb1:=blk_cell G3 1
 go_wp2_with fail
 go_at_call 14
 refine (t_markTree _ gi 1 1 2 Ai ci hi3 ⟨by decide,by decide⟩).mono ?_
 rintro e w4 ⟨rfl,hs4⟩
 have hi4:=hs4.at_
 have S4:=blk_kept S3 hs4.kept (by omega)
 have B4:=blk_kept B3 hs4.kept (by omega)
 have G4:=blk_kept G3 hs4.kept (by omega)
 have qc0:=blk_cell B4 0
 have qc1:=blk_cell B4 1
 have qd0:=blk_cell G4 0
 have qd1:=blk_cell G4 1
 go_wp2_with fail
 go_at_call 15
 refine (t_heldTree _ gi 1 2 Ai ci hi4 ⟨by decide,by decide⟩).mono ?_
 rintro e w5 ⟨rfl,hb5⟩
 have hi5:=blk_below hi4 hb5
 have S5:=blk_below S4 hb5
 have B5:=blk_below B4 hb5
 have G5:=blk_below G4 hb5
 go_wp2_with fail
 go_at_call 12
 refine (t_impl_new _).mono ?_
 rintro e w6 ⟨gh,Ah,ch,rfl,hh6,hgh,hb6⟩
 have hi6:=blk_below hi5 hb6
 have S6:=blk_below S5 hb6
 have B6:=blk_below B5 hb6
 have G6:=blk_below G5 hb6
 have qe0:=cellA B6 (bx gh) 0
 have qe1:=cellA B6 (bx gh) 1
 go_wp2_with fail
 go_at_call 13
 refine (t_eqTree _ gh gs 1 2 Ah As ch cs (blk_alloc hh6 _) (blk_alloc S6 _)).mono ?_
 rintro e w7 ⟨rfl,hb7⟩
 have hi7:=blk_below (blk_alloc hi6 (bx gh)) hb7
 have G7:=blk_below (blk_alloc G6 (bx gh)) hb7
 have qf0:=blk_cell G7 0
 have qf1:=blk_cell G7 1
 go_wp2_with fail
 go_at_call 15
 refine (t_heldTree _ gi 1 2 Ai ci hi7 ⟨by decide,by decide⟩).mono ?_
 rintro e w8 ⟨rfl,hb8⟩
 go_wp2
 go_ret
 exact ⟨by first|rfl|(simp;done),below_step (below_step (below_alloc (below_step (below_step (hs4.below w (below_step (below_alloc (below_step (below_alloc hb1 _) hb2) _) hb3) hwg) hb5) hb6) _) hb7) hb8⟩
end Go.Proofs.Ytnppmokkdhgkgaa.Q
end
section
namespace Go.Proofs.Ytnppmokkdhgkgaa.fnExactNewTree
open Go.ChangeShapes Go.WideShapes Go.ChangeAt Go.RowKit Go.Proofs.YtnppmokkdhgkgaaW.PrintWords Go.Proofs.Ytnppmokkdhgkgaa.Q
open Go.ChangeMaps (open_string shut_string)
set_option linter.unusedVariables false
theorem own : ownKnob Try.prog.godebug=none:=by kernel_rfl
theorem laidOut : laidOutB Try.prog=true:=by kernel_rfl
set_option maxRecDepth 100000 in
theorem lifted (os : Os) (started : os.Started) (H : Type) (enc : TypeId×Value→H) :
  ReturnsInHanded {} Try.checked os 4 .any (Rows.fnExactNewTreeSpec.pre6 enc Try.prog Try.f4 Rows.fnExactNewTreeRow.domain false) (Rows.fnExactNewTreeSpec.post enc Try.prog Try.f4 false true false false):=by
 refine returnsInHanded_of_change_sized (C:=Try.checked) own started (by kernel_rfl) Try.func4
  (ChangeSpec.witness6 (enc:=enc) (C:=Try.checked) false ⟨#[],#[],[]⟩ 8 (by kernel_rfl) (by kernel_rfl) (by kernel_rfl) (by kernel_rfl)) ?_
 intro W base args ds gs before hval0 hW hcnd hsz0 _
 have hval : ∀ (j : Nat) t v,Try.f4.params[j]? = some t→args[j]? = some v→Value.okWide Try.prog W .any base t v:=hval0
 have hW':=hW
 obtain ⟨p,q,hA0,hV,rfl,hfz,hnd⟩:=hW
 have hA : DataW.TrodAll enc Try.prog W 0 (fun _ => true) true Try.f4.params.toList args.toList ds p:=hA0
 rw [Try.params4] at hA hval
 obtain ⟨rfl,rfl,rfl⟩:=trodAll_none hA
 obtain ⟨rfl,rfl⟩:=trodVars_none hV
 clear hA0 hval0 hsz0
 refine (t_law W).mono fun e W' ⟨he,bel⟩ => ?_
 subst he
 exact ⟨_,rfl,_,_,_,[],_,[],hW',trodAll_mk1 (shut_bool Try.underlying4 _),trodAll_mk0,rfl,bel.frame _,fun h => by cases h⟩
theorem over : Rows.fnExactNewTreeRow.holds Try.pinned (OpenSpec.ofChange Rows.fnExactNewTreeSpec) :=
 OpenClaim.holds_of_wide 4 Try.f4 rfl rfl rfl rfl rfl rfl rfl ⟨rfl,rfl,rfl,rfl,rfl⟩ rfl rfl rfl rfl rfl (by kernel_rfl) Try.func4 (by kernel_rfl)
  (of_decide_eq_true (by kernel_rfl)) (by unfold Func.isWrapper;first|(rw [if_pos (by decide +kernel)];kernel_rfl)|(rw [if_neg (by decide +kernel)];exact ⟨rfl,rfl⟩))
  (fun os started H enc _ => lifted os started H enc)
theorem proved : Rows.FnExactNewTreeSaid:=over
#print axioms proved
end Go.Proofs.Ytnppmokkdhgkgaa.fnExactNewTree
namespace Go.Proofs.Ytnppmokkdhgkgaa
theorem fnExactNewTree_holds : Rows.FnExactNewTreeSaid:=fnExactNewTree.proved
end Go.Proofs.Ytnppmokkdhgkgaa
end
