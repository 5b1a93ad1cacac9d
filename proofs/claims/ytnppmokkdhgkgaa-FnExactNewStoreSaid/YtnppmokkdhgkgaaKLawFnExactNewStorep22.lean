/- Texts of this claim, merged by a program of this session. -/
import Derived.Test.YtnppmokkdhgkgaaProg
import Derived.Lib.Strings
import Derived.Lib.Slices
import Derived.Lib.Walk
import Derived.Lib.Bytealg
import Derived.Test.YtnppmokkdhgkgaaKLawFnExactNewStorep12
import Derived.Test.YtnppmokkdhgkgaaKLawFnExactNewStorep14
import Derived.Test.YtnppmokkdhgkgaaKLawFnExactNewStorep16
import Derived.Test.YtnppmokkdhgkgaaKLawFnExactNewStorep17
import Derived.Test.YtnppmokkdhgkgaaKLawFnExactNewStorep18
import Derived.Test.YtnppmokkdhgkgaaKLawFnExactNewStorep20
import Derived.Test.YtnppmokkdhgkgaaKLawFnExactNewStorep21
section
namespace Go.Proofs.Ytnppmokkdhgkgaa.Q
open Go.RowKit Go.Proofs.YtnppmokkdhgkgaaW.PrintWords Go.Proofs.YtnppmokkdhgkgaaW.PrintLast Go.Proofs.YtnppmokkdhgkgaaW.PrintMore
attribute [local go_sem] max2_int min2_int max_two min_two max_three min_three max_four min_four max2_str min2_str str_geq str_gtr str_leq
set_option linter.unusedVariables false
set_option linter.unusedSimpArgs false



def errW : Option Int→Value
 | none => .nilIface
 | some c => .iface 0 (.int .i64 c)
theorem errW_none : errW none = .nilIface:=rfl
theorem errW_some (c : Int) : errW (some c) = .iface 0 (.int .i64 c):=rfl

theorem info9 : (Try.prog.info? 9).map (fun i => (i.zero,i.size,i.bytes))=some (some (.string ⟨#[]⟩),1,16):=by kernel_rfl
theorem info62 : (Try.prog.info? 62).map (fun i => (i.zero,i.size,i.bytes))=some (some (.agg #[(.string ⟨#[]⟩),(.slice none 0 0),(.slice none 0 0)]),3,64):=by kernel_rfl
-- the values' own types
structure S23 where
 f0 : ByteArray
 f1 : ByteArray
 f2 : Bool
def z23 : S23:=⟨(⟨#[]⟩ : ByteArray),(⟨#[]⟩ : ByteArray),false⟩
def k23 : Kd S23:=Kd.iso (Kd.pair Kd.string (Kd.pair Kd.string Kd.bool)) (fun x : S23 => (x.f0,x.f1,x.f2))
def rd_T23 (xs : List S23) (i : Int) : S23:=xs.getD i.toNat z23
structure S91 where
 f0 : ByteArray
 f1 : Int
def z91 : S91:=⟨(⟨#[]⟩ : ByteArray),(0 : Int)⟩
def k91 : Kd S91:=Kd.iso (Kd.pair Kd.string (Kd.int .i64)) (fun x : S91 => (x.f0,x.f1))
def rd_T91 (xs : List S91) (i : Int) : S91:=xs.getD i.toNat z91
def rd_L5 (xs : List (List S91)) (i : Int) : (List S91):=xs.getD i.toNat ([] : List S91)
structure S53 where
 f0 : Int
 f1 : (List S91)
def z53 : S53:=⟨(0 : Int),([] : List S91)⟩
def k53 : Kd S53:=Kd.iso (Kd.pair (Kd.int .i64) (Kd.slice 91 k91)) (fun x : S53 => (x.f0,x.f1))
def rd_T53 (xs : List S53) (i : Int) : S53:=xs.getD i.toNat z53
structure S113 where
 f0 : Int
 f1 : Int
 f2 : ByteArray
def z113 : S113:=⟨(0 : Int),(0 : Int),(⟨#[]⟩ : ByteArray)⟩
def k113 : Kd S113:=Kd.iso (Kd.pair (Kd.int .i64) (Kd.pair (Kd.int .i64) Kd.string)) (fun x : S113 => (x.f0,x.f1,x.f2))
def rd_T113 (xs : List S113) (i : Int) : S113:=xs.getD i.toNat z113
structure S125 where
 f0 : Int
 f1 : Bool
 f2 : S113
def z125 : S125:=⟨(0 : Int),false,z113⟩
def k125 : Kd S125:=Kd.iso (Kd.pair (Kd.int .i64) (Kd.pair Kd.bool k113)) (fun x : S125 => (x.f0,x.f1,x.f2))
def rd_T125 (xs : List S125) (i : Int) : S125:=xs.getD i.toNat z125
def rd_L10 (xs : List (List S125)) (i : Int) : (List S125):=xs.getD i.toNat ([] : List S125)
structure S100 where
 f0 : Int
 f1 : (List S125)
def z100 : S100:=⟨(0 : Int),([] : List S125)⟩
def k100 : Kd S100:=Kd.iso (Kd.pair (Kd.int .i64) (Kd.slice 125 k125)) (fun x : S100 => (x.f0,x.f1))
def rd_T100 (xs : List S100) (i : Int) : S100:=xs.getD i.toNat z100
structure S127 where
 f0 : ByteArray
 f1 : Bool
def z127 : S127:=⟨(⟨#[]⟩ : ByteArray),false⟩
def k127 : Kd S127:=Kd.iso (Kd.pair Kd.string Kd.bool) (fun x : S127 => (x.f0,x.f1))
def rd_T127 (xs : List S127) (i : Int) : S127:=xs.getD i.toNat z127
def rd_L13 (xs : List (List S127)) (i : Int) : (List S127):=xs.getD i.toNat ([] : List S127)
structure S104 where
 f0 : ByteArray
 f1 : (List S127)
def z104 : S104:=⟨(⟨#[]⟩ : ByteArray),([] : List S127)⟩
def k104 : Kd S104:=Kd.iso (Kd.pair Kd.string (Kd.slice 127 k127)) (fun x : S104 => (x.f0,x.f1))
def rd_T104 (xs : List S104) (i : Int) : S104:=xs.getD i.toNat z104
def rd_L15 (xs : List (List S100)) (i : Int) : (List S100):=xs.getD i.toNat ([] : List S100)
def rd_L16 (xs : List (List S104)) (i : Int) : (List S104):=xs.getD i.toNat ([] : List S104)
structure S62 where
 f0 : ByteArray
 f1 : (List S100)
 f2 : (List S104)
def z62 : S62:=⟨(⟨#[]⟩ : ByteArray),([] : List S100),([] : List S104)⟩
def k62 : Kd S62:=Kd.iso (Kd.pair Kd.string (Kd.pair (Kd.slice 100 k100) (Kd.slice 104 k104))) (fun x : S62 => (x.f0,x.f1,x.f2))
theorem k62_open {w : World} {x : S62} {cs : List Value} (h : k62.K w x cs) : ∃ A1 c1 A2 c2,cs=[.string x.f0,.slice A1 x.f1.length c1,.slice A2 x.f2.length c2]∧x.f1.length≤c1∧k100.C w A1 x.f1.length x.f1∧x.f2.length≤c2∧k104.C w A2 x.f2.length x.f2:=by
 obtain ⟨_,_,rfl,rfl,⟨_,_,rfl,⟨A1,c1,rfl,l1,g1⟩,⟨A2,c2,rfl,l2,g2⟩⟩⟩:=h
 exact ⟨A1,c1,A2,c2,rfl,l1,g1,l2,g2⟩
theorem k62_openM {w : World} {base : Nat} {ok : Nat→Prop} {x : S62} {cs : List Value} (h : k62.M w base ok x cs) : ∃ v1 v2,cs=[.string x.f0,v1,v2]∧k100.R 100 w base ok v1 x.f1∧k104.R 104 w base ok v2 x.f2:=by
 obtain ⟨_,_,rfl,rfl,⟨_,_,rfl,⟨v1,rfl,g1⟩,⟨v2,rfl,g2⟩⟩⟩:=h
 exact ⟨v1,v2,rfl,g1,g2⟩
theorem k62_mkM (w : World) (base : Nat) (ok : Nat→Prop) (x : S62) {v1 : Value} (g1 : k100.R 100 w base ok v1 x.f1) {v2 : Value} (g2 : k104.R 104 w base ok v2 x.f2) : k62.M w base ok x [.string x.f0,v1,v2]:=⟨[.string x.f0],[v1,v2],rfl,rfl,⟨[v1],[v2],rfl,⟨v1,rfl,g1⟩,⟨v2,rfl,g2⟩⟩⟩
def rd_T62 (xs : List S62) (i : Int) : S62:=xs.getD i.toNat z62
theorem at_T62 {w : World} {A : Option Addr} {n : Nat} {xs : List S62} (h : Kd.C k62 w A n xs) (i : Int) (h0 : 0≤i) (h1 : i<n) : ∃ ad A1 c1 A2 c2,A=some ad∧w.cell? (ad.add (i.toNat * 3))=some (.string (rd_T62 xs i).f0)∧w.cell? ⟨(ad.add (i.toNat * 3)).block,(ad.add (i.toNat * 3)).off + 1,none⟩=some (.slice A1 (rd_T62 xs i).f1.length c1)∧w.cell? ⟨(ad.add (i.toNat * 3)).block,(ad.add (i.toNat * 3)).off + 2,none⟩=some (.slice A2 (rd_T62 xs i).f2.length c2)∧(rd_T62 xs i).f1.length≤c1∧k100.C w A1 (rd_T62 xs i).f1.length (rd_T62 xs i).f1∧(rd_T62 xs i).f2.length≤c2∧k104.C w A2 (rd_T62 xs i).f2.length (rd_T62 xs i).f2:=by
 obtain ⟨ad,c,e,_,hK,hc0⟩:=Kd.C_get h z62 i h0 h1
 have hc : ∀ j u,c[j]? = some u→w.cell? (ad.add (i.toNat * 3 + j))=some u:=hc0
 obtain ⟨A1,c1,A2,c2,rfl,l1,g1,l2,g2⟩:=k62_open hK
 exact ⟨ad,A1,c1,A2,c2,e,hc 0 _ rfl,by rw [← add_field _ _ 1 (by omega)];exact hc 1 _ rfl,by rw [← add_field _ _ 2 (by omega)];exact hc 2 _ rfl,l1,g1,l2,g2⟩

structure S137 where
 f0 : Int
 f1 : ByteArray
 f2 : S113
def z137 : S137:=⟨(0 : Int),(⟨#[]⟩ : ByteArray),z113⟩
def k137 : Kd S137:=Kd.iso (Kd.pair (Kd.int .i64) (Kd.pair Kd.string k113)) (fun x : S137 => (x.f0,x.f1,x.f2))
def rd_T137 (xs : List S137) (i : Int) : S137:=xs.getD i.toNat z137
def rd_L19 (xs : List (List S137)) (i : Int) : (List S137):=xs.getD i.toNat ([] : List S137)
structure S131 where
 f0 : (List S137)
def z131 : S131:=⟨([] : List S137)⟩
def k131 : Kd S131:=Kd.iso (Kd.slice 137 k137) (fun x : S131 => x.f0)
def rd_T131 (xs : List S131) (i : Int) : S131:=xs.getD i.toNat z131
def rd_L21 (xs : List (List S131)) (i : Int) : (List S131):=xs.getD i.toNat ([] : List S131)
structure S108 where
 f0 : (List S131)
def z108 : S108:=⟨([] : List S131)⟩
def k108 : Kd S108:=Kd.iso (Kd.slice 131 k131) (fun x : S108 => x.f0)
def rd_T108 (xs : List S108) (i : Int) : S108:=xs.getD i.toNat z108
structure S110 where
 f0 : ByteArray
 f1 : S108
def z110 : S110:=⟨(⟨#[]⟩ : ByteArray),z108⟩
def k110 : Kd S110:=Kd.iso (Kd.pair Kd.string k108) (fun x : S110 => (x.f0,x.f1))
def rd_T110 (xs : List S110) (i : Int) : S110:=xs.getD i.toNat z110
def rd_L24 (xs : List (List S110)) (i : Int) : (List S110):=xs.getD i.toNat ([] : List S110)
structure S115 where
 f0 : ByteArray
 f1 : Int
 f2 : Bool
 f3 : S113
def z115 : S115:=⟨(⟨#[]⟩ : ByteArray),(0 : Int),false,z113⟩
def k115 : Kd S115:=Kd.iso (Kd.pair Kd.string (Kd.pair (Kd.int .i64) (Kd.pair Kd.bool k113))) (fun x : S115 => (x.f0,x.f1,x.f2,x.f3))
def rd_T115 (xs : List S115) (i : Int) : S115:=xs.getD i.toNat z115
def rd_L26 (xs : List (List S115)) (i : Int) : (List S115):=xs.getD i.toNat ([] : List S115)
structure S78 where
 f0 : Int
 f1 : Int
 f2 : (List S110)
 f3 : (List S115)
def z78 : S78:=⟨(0 : Int),(0 : Int),([] : List S110),([] : List S115)⟩
def k78 : Kd S78:=Kd.iso (Kd.pair (Kd.int .i64) (Kd.pair (Kd.int .i64) (Kd.pair (Kd.slice 110 k110) (Kd.slice 115 k115)))) (fun x : S78 => (x.f0,x.f1,x.f2,x.f3))
def rd_T78 (xs : List S78) (i : Int) : S78:=xs.getD i.toNat z78
structure S117 where
 f0 : S115
 f1 : S113
 f2 : Bool
def z117 : S117:=⟨z115,z113,false⟩
def k117 : Kd S117:=Kd.iso (Kd.pair k115 (Kd.pair k113 Kd.bool)) (fun x : S117 => (x.f0,x.f1,x.f2))
def rd_T117 (xs : List S117) (i : Int) : S117:=xs.getD i.toNat z117
def rd_L29 (xs : List (List S117)) (i : Int) : (List S117):=xs.getD i.toNat ([] : List S117)
structure S82 where
 f0 : Int
 f1 : Int
 f2 : (List S110)
 f3 : (List S117)
 f4 : Bool
 f5 : Bool
def z82 : S82:=⟨(0 : Int),(0 : Int),([] : List S110),([] : List S117),false,false⟩
def k82 : Kd S82:=Kd.iso (Kd.pair (Kd.int .i64) (Kd.pair (Kd.int .i64) (Kd.pair (Kd.slice 110 k110) (Kd.pair (Kd.slice 117 k117) (Kd.pair Kd.bool Kd.bool))))) (fun x : S82 => (x.f0,x.f1,x.f2,x.f3,x.f4,x.f5))
def rd_T82 (xs : List S82) (i : Int) : S82:=xs.getD i.toNat z82
def rd_L31 (xs : List (List ByteArray)) (i : Int) : (List ByteArray):=xs.getD i.toNat ([] : List ByteArray)
abbrev bm_ (i n : Nat) : Array Bool:=(List.replicate i true ++ List.replicate (n - i) false).toArray
abbrev za:=@below_alloc
abbrev zb:=@pw_below_drewN
abbrev zc:=@below_drew1
abbrev zd:=@below_set
abbrev ze:=@blk_drewN
abbrev zf:=@blk_drew
abbrev zg:=@blk_alloc
abbrev zh:=@Aside0.mk
abbrev zi:=@List.setIfInBounds_toArray
abbrev zj:=@List.set_cons_zero
abbrev zk:=@List.set_cons_succ
abbrev zl:=@World.block_lt_of_cell?
abbrev zm:=@Kd.R_alloc
abbrev zn:=@Kd.R_drewN
abbrev zo:=@Kd.R_drew
abbrev zp:=@Kept.drewN
abbrev zq:=@Kept.drew
abbrev zr:=@Kept.alloc
abbrev zs:=@Kept.setCell
abbrev zt:=@List.map_toArray
abbrev zu:=@List.map_cons
abbrev zv:=@List.map_nil
abbrev zw:=@List.length_drop
abbrev zx:=@List.length_take
abbrev zy:=@of_decide_eq_true
abbrev zz:=@blk_cell
abbrev zA:=@blk_frozen
abbrev zB:=@below_size
abbrev zC:=@below_step
abbrev zD:=@blk_below
abbrev zE:=@Kd.R_far
abbrev zF:=@add_block
abbrev zG:=@i64_w
abbrev zH:=@i32_w
abbrev zI:=@box_event
abbrev zJ:=@gate_callee
abbrev zK:=@gate_dst
abbrev zL:=@blk_put
abbrev zM:=@Kd.R_mono
abbrev zN:=@LeO.none
abbrev zO:=@LeO.bind
abbrev zP:=@LeO.ite
abbrev zQ:=@LeO.refl
abbrev zR:=@cell_far
abbrev zS:=@blk_far
abbrev zT:=@Option.bind_eq_some_iff
abbrev zU:=@Option.some.inj
abbrev zV:=@Int.ofNat_lt
abbrev zW:=@Int.ofNat_le
abbrev zX:=@bne_eq_false_iff_eq
abbrev zY:=@beq_eq_false_iff_ne
abbrev zZ:=@bne_iff_ne
abbrev ya:=@beq_iff_eq
abbrev yb:=@Bool.eq_false_iff
abbrev yc:=@Nat.ne_of_lt
abbrev yd:=@Nat.ne_of_gt
abbrev ye:=@Nat.le_refl
abbrev yf:=@Kd.R_types
abbrev yg:=@Kd.R_below
abbrev yh:=@Kd.R_reads'
abbrev yi:=@blk_lt
abbrev yj:=@goesL_
abbrev yk:=@Kd.R_slice
abbrev yl:=@KeepBut.set_
abbrev ym:=@keep_drewN
abbrev yn:=@keep_alloc
abbrev yo:=@take_ofW
abbrev yp:=@Drawn0.refl
abbrev yq:=@Drawn0.step
abbrev yr:=@gt_iff_lt
abbrev ys:=@ge_iff_le
abbrev yt:=@errW_none
abbrev yu:=@errW_some
abbrev yv:=@blk_grown
abbrev yw:=@keep_drew
abbrev yx:=@Kd.R_lower
abbrev yy:=@gate_guard
abbrev yz:=@Kept.of_grown
abbrev yA:=@gate_builtin

def Fx.f (a0 : Int) : Option (Bool):=if a0 ≥ 97 then (if a0≤122 then (some true) else (if a0 ≥ 65 then (if a0≤90 then (some true) else (some (a0 == 95))) else (some (a0 == 95)))) else (if a0 ≥ 65 then (if a0≤90 then (some true) else (some (a0 == 95))) else (some (a0 == 95)))
set_option maxHeartbeats 8000000 in
set_option maxRecDepth 100000 in
theorem Fx.calls (a0 : Int) (r : Bool) (w : World) (h : Fx.f a0=some r) :
  Calls Try.prog 79 #[.int .u8 a0] w fun e w' => e = .returned (.bool r)∧Drawn0 w w':=by
 have H : (if a0 ≥ 97 then (if a0≤122 then (some true) else (if a0 ≥ 65 then (if a0≤90 then (some true) else (some (a0 == 95))) else (some (a0 == 95)))) else (if a0 ≥ 65 then (if a0≤90 then (some true) else (some (a0 == 95))) else (some (a0 == 95))))=some r:=h;clear h
 by_cases c2 : a0 ≥ 97
 ·
  rw [if_pos c2] at H
  have c2b0 : decide (97≤a0)=true:=decide_eq_true c2;clear c2
  by_cases c3 : a0≤122
  ·
   rw [if_pos c3] at H
   have c3b0 : decide (a0≤122)=true:=decide_eq_true c3;clear c3;obtain rfl:=zU H
   go_enter Try.func79,Try.ntmps79
   go_wp2
   go_ret
   exact ⟨by first|rfl|(simp;done)|(simp [*];done),by repeat (first|exact yp _|apply yq)⟩
  rw [if_neg c3] at H;have c3b0 : decide (a0≤122)=false:=decide_eq_false c3;clear c3
  by_cases c4 : a0 ≥ 65
  ·
   rw [if_pos c4] at H
   have c4b0 : decide (65≤a0)=true:=decide_eq_true c4;clear c4
   by_cases c5 : a0≤90
   ·
    rw [if_pos c5] at H
    have c5b0 : decide (a0≤90)=true:=decide_eq_true c5;clear c5;obtain rfl:=zU H
    go_enter Try.func79,Try.ntmps79
    go_wp2
    go_ret
    exact ⟨by first|rfl|(simp;done)|(simp [*];done),by repeat (first|exact yp _|apply yq)⟩
   rw [if_neg c5] at H;have c5b0 : decide (a0≤90)=false:=decide_eq_false c5;clear c5;obtain rfl:=zU H
   go_enter Try.func79,Try.ntmps79
   go_wp2
   go_ret
   exact ⟨by first|rfl|(simp;done)|(simp [*];done),by repeat (first|exact yp _|apply yq)⟩
  rw [if_neg c4] at H;have c4b0 : decide (65≤a0)=false:=decide_eq_false c4;clear c4;obtain rfl:=zU H
  go_enter Try.func79,Try.ntmps79
  go_wp2
  go_ret
  exact ⟨by first|rfl|(simp;done)|(simp [*];done),by repeat (first|exact yp _|apply yq)⟩
 rw [if_neg c2] at H;have c2b0 : decide (97≤a0)=false:=decide_eq_false c2;clear c2
 by_cases c6 : a0 ≥ 65
 ·
  rw [if_pos c6] at H
  have c6b0 : decide (65≤a0)=true:=decide_eq_true c6;clear c6
  by_cases c7 : a0≤90
  ·
   rw [if_pos c7] at H
   have c7b0 : decide (a0≤90)=true:=decide_eq_true c7;clear c7;obtain rfl:=zU H
   go_enter Try.func79,Try.ntmps79
   go_wp2
   go_ret
   exact ⟨by first|rfl|(simp;done)|(simp [*];done),by repeat (first|exact yp _|apply yq)⟩
  rw [if_neg c7] at H;have c7b0 : decide (a0≤90)=false:=decide_eq_false c7;clear c7;obtain rfl:=zU H
  go_enter Try.func79,Try.ntmps79
  go_wp2
  go_ret
  exact ⟨by first|rfl|(simp;done)|(simp [*];done),by repeat (first|exact yp _|apply yq)⟩
 rw [if_neg c6] at H;have c6b0 : decide (65≤a0)=false:=decide_eq_false c6;clear c6;obtain rfl:=zU H
 go_enter Try.func79,Try.ntmps79
 go_wp2
 go_ret
 exact ⟨by first|rfl|(simp;done)|(simp [*];done),by repeat (first|exact yp _|apply yq)⟩


def F01.f (a0 : Int) : Option (Bool):=if a0 ≥ 48 then (some (decide (a0≤57))) else (some false)
set_option maxHeartbeats 8000000 in
set_option maxRecDepth 100000 in
theorem F01.calls (a0 : Int) (r : Bool) (w : World) (h : F01.f a0=some r) :
  Calls Try.prog 80 #[.int .u8 a0] w fun e w' => e = .returned (.bool r)∧Drawn0 w w':=by
 have H : (if a0 ≥ 48 then (some (decide (a0≤57))) else (some false))=some r:=h;clear h
 by_cases c2 : a0 ≥ 48
 ·
  rw [if_pos c2] at H
  have c2b0 : decide (48≤a0)=true:=decide_eq_true c2;clear c2;obtain rfl:=zU H
  go_enter Try.func80,Try.ntmps80
  go_wp2
  go_ret
  exact ⟨by first|rfl|(simp;done)|(simp [*];done),by repeat (first|exact yp _|apply yq)⟩
 rw [if_neg c2] at H;have c2b0 : decide (48≤a0)=false:=decide_eq_false c2;clear c2;obtain rfl:=zU H
 go_enter Try.func80,Try.ntmps80
 go_wp2
 go_ret
 exact ⟨by first|rfl|(simp;done)|(simp [*];done),by repeat (first|exact yp _|apply yq)⟩

end Go.Proofs.Ytnppmokkdhgkgaa.Q
end
section
namespace Go.Proofs.Ytnppmokkdhgkgaa.Q
open Go.RowKit Go.Proofs.YtnppmokkdhgkgaaW.PrintWords Go.Proofs.YtnppmokkdhgkgaaW.PrintLast Go.Proofs.YtnppmokkdhgkgaaW.PrintMore
attribute [local go_sem] max2_int min2_int max_two min_two max_three min_three max_four min_four max2_str min2_str str_geq str_gtr str_leq   -- for this text's walks alone
set_option linter.unusedVariables false
set_option linter.unusedSimpArgs false

mutual
def F1.j0 : Nat→ByteArray→Bool→Option (Bool)
 | 0,_,_ => none
 | k + 1,x0,x17 => if x17=true then (some false) else (F1.l0 k x0 1)
def F1.l0 : Nat→ByteArray→Int→Option (Bool)
 | 0,_,_ => none
 | k + 1,x0,x3 => if x3<(x0.size : Int) then (if 0≤x3 then ((Fx.f (bt x0 x3)).bind fun t173 => (if t173=true then (F1.l0 k x0 (wrap64 (x3 + 1))) else ((F01.f (bt x0 x3)).bind fun t174 => (if t174=true then (F1.l0 k x0 (wrap64 (x3 + 1))) else (some false))))) else (none)) else (some true)
end
def F1.f (k : Nat) (a0 : ByteArray) : Option (Bool):=if (a0.size : Int)<1 then (F1.j0 k a0 true) else (if (a0.size : Int) > 40 then (F1.j0 k a0 true) else (if 0<(a0.size : Int) then ((Fx.f (bt a0 0)).bind fun t172 => (F1.j0 k a0 (!t172))) else (none)))
theorem F1.mono_l : ∀ k,(∀ y0 y1,LeO (F1.j0 k y0 y1) (F1.j0 (k + 1) y0 y1))∧(∀ y0 y1,LeO (F1.l0 k y0 y1) (F1.l0 (k + 1) y0 y1))
 | 0 => ⟨fun _ _ r h => by simp [F1.j0] at h,fun _ _ r h => by simp [F1.l0] at h⟩
 | k + 1 => by
  obtain ⟨ih0,ih1⟩:=F1.mono_l k;refine ⟨?_,?_⟩
  ·
   intro y0 y1
   unfold F1.j0
   repeat' first|(with_reducible first|exact ih0 _ _|exact ih1 _ _|exact zQ _|exact zN _|refine zP ?_ ?_|refine zO ?_ (fun _ => ?_))|refine zP ?_ ?_|refine zO ?_ (fun _ => ?_)
  intro y0 y1;unfold F1.l0
  repeat' first|(with_reducible first|exact ih0 _ _|exact ih1 _ _|exact zQ _|exact zN _|refine zP ?_ ?_|refine zO ?_ (fun _ => ?_))|refine zP ?_ ?_|refine zO ?_ (fun _ => ?_)
theorem F1.mono : ∀ a0 k,LeO (F1.f k a0) (F1.f (k + 1) a0):=by
 intro a0 k;obtain ⟨ih0,ih1⟩:=F1.mono_l k;unfold F1.f
 repeat' first|(with_reducible first|exact ih0 _ _|exact ih1 _ _|exact zQ _|exact zN _|refine zP ?_ ?_|refine zO ?_ (fun _ => ?_))|refine zP ?_ ?_|refine zO ?_ (fun _ => ?_)
set_option maxHeartbeats 8000000 in
set_option maxRecDepth 100000 in
theorem F1.calls (k : Nat) (a0 : ByteArray) (r : Bool) (w : World) (h : F1.f k a0=some r) :
  Calls Try.prog 64 #[.string a0] w fun e w' => e = .returned (.bool r)∧Drawn0 w w':=by
 have H : (if (a0.size : Int)<1 then (F1.j0 k a0 true) else (if (a0.size : Int) > 40 then (F1.j0 k a0 true) else (if 0<(a0.size : Int) then ((Fx.f (bt a0 0)).bind fun t172 => (F1.j0 k a0 (!t172))) else (none))))=some r:=h;clear h;have HC2:=zh H;clear H
 go_enter Try.func64,Try.ntmps64
 go_upto_region 1 with (fail)
 go_cut [17] (fun v17 wc => ∃ (kq : Nat) (x17_1 : Bool),v17 = .bool x17_1∧Aside0 (F1.j0 kq a0 x17_1=some r)∧Aside0 (kq≤k)∧Drawn0 w wc)
 case first =>
  have H:=HC2.out;clear HC2
  by_cases c3 : (a0.size : Int)<1
  ·
   rw [if_pos c3] at H
   have c3b0 : decide ((a0.size : Int)<1)=true:=decide_eq_true c3;have c3b1 : decide (a0.size<1)=true:=decide_eq_true (by omega);clear c3;(first|rw [c3b0]|(simp only [zG,zH];rw [c3b0])|skip);have H':=zh H;clear H
   go_wp2
   go_meet
   case rel => exact ⟨_,(true),(by first|rfl|(simp;done)|(simp [*];done)),H',⟨by first|omega|exact ye _⟩,by repeat (first|exact yp _|apply yq)⟩
  rw [if_neg c3] at H;have c3b0 : decide ((a0.size : Int)<1)=false:=decide_eq_false c3;have c3b1 : decide (a0.size<1)=false:=decide_eq_false (by omega);clear c3;(first|rw [c3b0]|(simp only [zG,zH];rw [c3b0])|skip)
  by_cases c4 : (a0.size : Int) > 40
  ·
   rw [if_pos c4] at H
   have c4b0 : decide (40<(a0.size : Int))=true:=decide_eq_true c4;have c4b1 : decide (40<a0.size)=true:=decide_eq_true (by omega);clear c4;have H':=zh H;clear H
   go_wp2
   go_meet
   case rel => exact ⟨_,(true),(by first|rfl|(simp;done)|(simp [*];done)),H',⟨by first|omega|exact ye _⟩,by repeat (first|exact yp _|apply yq)⟩
  rw [if_neg c4] at H;have c4b0 : decide (40<(a0.size : Int))=false:=decide_eq_false c4;have c4b1 : decide (40<a0.size)=false:=decide_eq_false (by omega);clear c4
  by_cases c5 : 0<(a0.size : Int)
  ·
   rw [if_pos c5] at H
   have c5b0 : decide (0<(a0.size : Int))=true:=decide_eq_true c5;have c5b1 : decide (0<a0.size)=true:=decide_eq_true (by omega);clear c5;replace H:=zT.mp H;obtain ⟨t172,A70,H⟩:=H;replace H : (F1.j0 k a0 (!t172))=some r:=H;have A7:=zh A70;clear A70;have H':=zh H;clear H;have p6 : 0≤(0 : Int):=(by omega);have q6 : 0<a0.size:=(by have : (0 : Int)<(a0.size : Int):=zy (by first|(with_reducible assumption)|assumption);omega);have hx6 : ∀ h : 0<a0.size,((a0[0]'h).toNat : Int)=bt a0 0:=bt_at a0 0;clear p6;have qi6 : (0<(a0.size : Int))=True:=eq_true (zy (by first|(with_reducible assumption)|assumption));replace q6:=eq_true q6
   go_wp2_with (first|(go_at_call 79;(with_reducible refine (Fx.calls  (bt a0 0) t172 _ A7.out).mono ?_);rintro e w' ⟨rfl,⟨nd,rfl⟩⟩))
   go_meet
   case rel => exact ⟨_,(!t172),(by first|rfl|(simp;done)|(simp [*];done)),H',⟨by first|omega|exact ye _⟩,by repeat (first|exact yp _|apply yq)⟩
  rw [if_neg c5] at H;exact absurd H (by simp)
 case rest =>
  clear HC2
  try clear p2
  try clear c3
  try clear c3b0
  try clear c3b1
  try clear c4
  try clear c4b0
  try clear c4b1
  try clear c5
  try clear c5b0
  try clear c5b1
  try clear c6
  try clear p6
  try clear q6
  try clear hx6
  try clear qi6
  try clear p6
  try clear q6
  obtain ⟨kq,x17_1,rfl,HA,HJ1,⟨mc1,rfl⟩⟩:=hcut
  cases kq with
  | zero => exact absurd HA.out (by simp [F1.j0])
  | succ kj1 =>
   have H:=HA.out;clear HA;simp only [F1.j0] at H
   by_cases c8 : x17_1=true
   ·
    subst c8
    have H1 : (some false)=some r:=by rw [if_pos rfl] at H;exact H
    clear H;have H:=H1;clear H1;obtain rfl:=zU H
    go_wp2
    go_ret
    exact ⟨by first|rfl|(simp;done)|(simp [*];done),by repeat (first|exact yp _|apply yq)⟩
   replace c8:=yb.mpr c8;subst c8;have H1 : (F1.l0 kj1 a0 1)=some r:=by rw [if_neg (show ¬ (false=true) by decide)] at H;exact H
   clear H;have H:=H1;clear H1;have H':=zh H;clear H
   go_wp2
   go_loopg [3] kj1 (fun kq v3 w' => ∃ (x3_2 : Int),v3 = .int .i64 x3_2∧Aside0 (F1.l0 kq a0 x3_2=some r)∧Aside0 (kq≤kj1)∧Drawn0 w w')
   case atStart => exact ⟨(1),(by first|rfl|(simp;done)|(simp [*];done)),H',⟨ye _⟩,by repeat (first|exact yp _|apply yq)⟩
   case round =>
    clear H'
    try clear c1
    try clear p2
    try clear c3
    try clear c3b0
    try clear c3b1
    try clear c4
    try clear c4b0
    try clear c4b1
    try clear c5
    try clear c5b0
    try clear c5b1
    try clear c6
    try clear p6
    try clear q6
    try clear hx6
    try clear qi6
    try clear c8
    try clear p2
    try clear p6
    try clear q6
    obtain ⟨x3_2,rfl,HA,HK2,⟨m2,rfl⟩⟩:=hrel
    cases gk with
    | zero => exact absurd HA.out (by simp [F1.l0])
    | succ k2 =>
     have H:=HA.out;clear HA;simp only [F1.l0] at H
     by_cases c9 : x3_2<(a0.size : Int)
     ·
      rw [if_pos c9] at H
      have c9b0 : decide (x3_2<(a0.size : Int))=true:=decide_eq_true c9;clear c9
      by_cases c10 : 0≤x3_2
      ·
       rw [if_pos c10] at H
       have c10b0 : decide (0≤x3_2)=true:=decide_eq_true c10;clear c10;replace H:=zT.mp H;obtain ⟨t173,A120,H⟩:=H;replace H : (if t173=true then (F1.l0 k2 a0 (wrap64 (x3_2 + 1))) else ((F01.f (bt a0 x3_2)).bind fun t174 => (if t174=true then (F1.l0 k2 a0 (wrap64 (x3_2 + 1))) else (some false))))=some r:=H;have A12:=zh A120;clear A120
       by_cases c13 : t173=true
       ·
        subst c13
        have H1 : (F1.l0 k2 a0 (wrap64 (x3_2 + 1)))=some r:=by rw [if_pos rfl] at H;exact H
        clear H;have H:=H1;clear H1;have H':=zh H;clear H;have p11 : 0≤(x3_2 : Int):=zy (by first|(with_reducible assumption)|assumption);have q11 : x3_2<(a0.size : Int):=zy (by first|(with_reducible assumption)|assumption);have hx11:=bt_at a0 x3_2;replace p11:=eq_true p11;replace q11:=eq_true q11
        go_wp2_with (first|((with_reducible refine zJ (f:=79) rfl ?_);refine yj (some 27) rfl rfl Try.func79 (by kernel_rfl) rfl #[.int .u8 (bt a0 x3_2)] rfl (by (try simp only [zt,zu,zv]);first|done|rfl|(simp only [zw,zx];rfl)|(simp only [yr,ys,zV,zW];rfl)) ?_;(with_reducible refine (Fx.calls  (bt a0 x3_2) true _ A12.out).mono ?_);rintro e w' ⟨rfl,⟨nd,rfl⟩⟩;refine ⟨_,rfl,?_⟩))
        go_roundg k2
        case measure => have:=HJ1.out;have:=HK2.out;omega
        case rel => exact ⟨(wrap64 (x3_2 + 1)),(by first|rfl|(simp;done)|(simp [*];done)),H',⟨by have:=HJ1.out;have:=HK2.out;omega⟩,by repeat (first|exact yp _|apply yq)⟩
       replace c13:=yb.mpr c13;subst c13;have H1 : ((F01.f (bt a0 x3_2)).bind fun t174 => (if t174=true then (F1.l0 k2 a0 (wrap64 (x3_2 + 1))) else (some false)))=some r:=by rw [if_neg (show ¬ (false=true) by decide)] at H;exact H
       clear H;have H:=H1;clear H1;replace H:=zT.mp H;obtain ⟨t174,A150,H⟩:=H;replace H : (if t174=true then (F1.l0 k2 a0 (wrap64 (x3_2 + 1))) else (some false))=some r:=H;have A15:=zh A150;clear A150
       by_cases c16 : t174=true
       ·
        subst c16
        have H1 : (F1.l0 k2 a0 (wrap64 (x3_2 + 1)))=some r:=by rw [if_pos rfl] at H;exact H
        clear H;have H:=H1;clear H1;have H':=zh H;clear H;have p11 : 0≤(x3_2 : Int):=zy (by first|(with_reducible assumption)|assumption);have q11 : x3_2<(a0.size : Int):=zy (by first|(with_reducible assumption)|assumption);have hx11:=bt_at a0 x3_2;replace p11:=eq_true p11;replace q11:=eq_true q11
        go_wp2_with (first|((with_reducible refine zJ (f:=79) rfl ?_);refine yj (some 27) rfl rfl Try.func79 (by kernel_rfl) rfl #[.int .u8 (bt a0 x3_2)] rfl (by (try simp only [zt,zu,zv]);first|done|rfl|(simp only [zw,zx];rfl)|(simp only [yr,ys,zV,zW];rfl)) ?_;(with_reducible refine (Fx.calls  (bt a0 x3_2) false _ A12.out).mono ?_);rintro e w' ⟨rfl,⟨nd,rfl⟩⟩;refine ⟨_,rfl,?_⟩;have p14 : 0≤(x3_2 : Int):=zy (by first|(with_reducible assumption)|assumption);have q14 : x3_2<(a0.size : Int):=zy (by first|(with_reducible assumption)|assumption);have hx14:=bt_at a0 x3_2;replace p14:=eq_true p14;replace q14:=eq_true q14)|(go_at_call 80;(with_reducible refine (F01.calls  (bt a0 x3_2) true _ A15.out).mono ?_);rintro e w' ⟨rfl,⟨nd,rfl⟩⟩))
        go_roundg k2
        case measure => have:=HJ1.out;have:=HK2.out;omega
        case rel => exact ⟨(wrap64 (x3_2 + 1)),(by first|rfl|(simp;done)|(simp [*];done)),H',⟨by have:=HJ1.out;have:=HK2.out;omega⟩,by repeat (first|exact yp _|apply yq)⟩
       replace c16:=yb.mpr c16;subst c16;have H1 : (some false)=some r:=by rw [if_neg (show ¬ (false=true) by decide)] at H;exact H
       clear H;have H:=H1;clear H1;obtain rfl:=zU H;have p11 : 0≤(x3_2 : Int):=zy (by first|(with_reducible assumption)|assumption);have q11 : x3_2<(a0.size : Int):=zy (by first|(with_reducible assumption)|assumption);have hx11:=bt_at a0 x3_2;replace p11:=eq_true p11;replace q11:=eq_true q11
       go_wp2_with (first|((with_reducible refine zJ (f:=79) rfl ?_);refine yj (some 27) rfl rfl Try.func79 (by kernel_rfl) rfl #[.int .u8 (bt a0 x3_2)] rfl (by (try simp only [zt,zu,zv]);first|done|rfl|(simp only [zw,zx];rfl)|(simp only [yr,ys,zV,zW];rfl)) ?_;(with_reducible refine (Fx.calls  (bt a0 x3_2) false _ A12.out).mono ?_);rintro e w' ⟨rfl,⟨nd,rfl⟩⟩;refine ⟨_,rfl,?_⟩;have p14 : 0≤(x3_2 : Int):=zy (by first|(with_reducible assumption)|assumption);have q14 : x3_2<(a0.size : Int):=zy (by first|(with_reducible assumption)|assumption);have hx14:=bt_at a0 x3_2;replace p14:=eq_true p14;replace q14:=eq_true q14)|(go_at_call 80;(with_reducible refine (F01.calls  (bt a0 x3_2) false _ A15.out).mono ?_);rintro e w' ⟨rfl,⟨nd,rfl⟩⟩))
       go_ret
       exact ⟨by first|rfl|(simp;done)|(simp [*];done),by repeat (first|exact yp _|apply yq)⟩
      rw [if_neg c10] at H;exact absurd H (by simp)
     rw [if_neg c9] at H;have c9b0 : decide (x3_2<(a0.size : Int))=false:=decide_eq_false c9;clear c9;obtain rfl:=zU H
     go_wp2
     go_ret
     exact ⟨by first|rfl|(simp;done)|(simp [*];done),by repeat (first|exact yp _|apply yq)⟩

end Go.Proofs.Ytnppmokkdhgkgaa.Q
end
section
namespace Go.Proofs.Ytnppmokkdhgkgaa.Q
open Go.RowKit Go.Proofs.YtnppmokkdhgkgaaW.PrintWords Go.Proofs.YtnppmokkdhgkgaaW.PrintLast Go.Proofs.YtnppmokkdhgkgaaW.PrintMore
attribute [local go_sem] max2_int min2_int max_two min_two max_three min_three max_four min_four max2_str min2_str str_geq str_gtr str_leq
set_option linter.unusedVariables false
set_option linter.unusedSimpArgs false

def Fv.f (k : Nat) (a0 : ByteArray) : Option (Bool):=(F1.f k a0).bind fun t175 => (some t175)
theorem Fv.mono : ∀ a0 k,LeO (Fv.f k a0) (Fv.f (k + 1) a0):=by
 intro a0 k;unfold Fv.f
 repeat' first|(with_reducible first|exact F1.mono _ _|exact zQ _|exact zN _|refine zP ?_ ?_|refine zO ?_ (fun _ => ?_))|refine zP ?_ ?_|refine zO ?_ (fun _ => ?_)
set_option maxHeartbeats 8000000 in
set_option maxRecDepth 100000 in
theorem Fv.calls (k : Nat) (a0 : ByteArray) (r : Bool) (w : World) (h : Fv.f k a0=some r) :
  Calls Try.prog 47 #[.string a0] w fun e w' => e = .returned (.bool r)∧Drawn0 w w':=by
 have H : ((F1.f k a0).bind fun t175 => (some t175))=some r:=h;clear h;replace H:=zT.mp H;obtain ⟨t175,A20,H⟩:=H;replace H : (some t175)=some r:=H;have A2:=zh A20;clear A20;obtain rfl:=zU H
 go_enter Try.func47,Try.ntmps47
 go_wp2_with (first|((with_reducible refine zJ (f:=64) rfl ?_);refine yj (some 4) rfl rfl Try.func64 (by kernel_rfl) rfl #[.string a0] rfl (by (try simp only [zt,zu,zv]);first|done|rfl|(simp only [zw,zx];rfl)|(simp only [yr,ys,zV,zW];rfl)) ?_;(with_reducible refine (F1.calls k  a0 t175 _ A2.out).mono ?_);rintro e w' ⟨rfl,⟨nd,rfl⟩⟩;refine ⟨_,rfl,?_⟩))
 go_ret
 exact ⟨by first|rfl|(simp;done)|(simp [*];done),by repeat (first|exact yp _|apply yq)⟩


def Fq.f (k : Nat) (a0 : ByteArray) : Option (Bool):=(Fv.f k a0).bind fun t176 => (if t176=true then (some (decide ((a0.size : Int)≤12))) else (some false))
theorem Fq.mono : ∀ a0 k,LeO (Fq.f k a0) (Fq.f (k + 1) a0):=by
 intro a0 k;unfold Fq.f
 repeat' first|(with_reducible first|exact Fv.mono _ _|exact zQ _|exact zN _|refine zP ?_ ?_|refine zO ?_ (fun _ => ?_))|refine zP ?_ ?_|refine zO ?_ (fun _ => ?_)
set_option maxHeartbeats 8000000 in
set_option maxRecDepth 100000 in
theorem Fq.calls (k : Nat) (a0 : ByteArray) (r : Bool) (w : World) (h : Fq.f k a0=some r) :
  Calls Try.prog 30 #[.string a0] w fun e w' => e = .returned (.bool r)∧Drawn0 w w':=by
 have H : ((Fv.f k a0).bind fun t176 => (if t176=true then (some (decide ((a0.size : Int)≤12))) else (some false)))=some r:=h;clear h;replace H:=zT.mp H;obtain ⟨t176,A20,H⟩:=H;replace H : (if t176=true then (some (decide ((a0.size : Int)≤12))) else (some false))=some r:=H;have A2:=zh A20;clear A20
 by_cases c3 : t176=true
 ·
  subst c3
  have H1 : (some (decide ((a0.size : Int)≤12)))=some r:=by rw [if_pos rfl] at H;exact H
  clear H;have H:=H1;clear H1;obtain rfl:=zU H
  go_enter Try.func30,Try.ntmps30
  go_wp2_with (first|((with_reducible refine zJ (f:=47) rfl ?_);refine yj (some 4) rfl rfl Try.func47 (by kernel_rfl) rfl #[.string a0] rfl (by (try simp only [zt,zu,zv]);first|done|rfl|(simp only [zw,zx];rfl)|(simp only [yr,ys,zV,zW];rfl)) ?_;(with_reducible refine (Fv.calls k  a0 true _ A2.out).mono ?_);rintro e w' ⟨rfl,⟨nd,rfl⟩⟩;refine ⟨_,rfl,?_⟩))
  go_ret
  exact ⟨by first|rfl|(simp;done)|(simp [*];done),by repeat (first|exact yp _|apply yq)⟩
 replace c3:=yb.mpr c3;subst c3;have H1 : (some false)=some r:=by rw [if_neg (show ¬ (false=true) by decide)] at H;exact H
 clear H;have H:=H1;clear H1;obtain rfl:=zU H
 go_enter Try.func30,Try.ntmps30
 go_wp2_with (first|((with_reducible refine zJ (f:=47) rfl ?_);refine yj (some 4) rfl rfl Try.func47 (by kernel_rfl) rfl #[.string a0] rfl (by (try simp only [zt,zu,zv]);first|done|rfl|(simp only [zw,zx];rfl)|(simp only [yr,ys,zV,zW];rfl)) ?_;(with_reducible refine (Fv.calls k  a0 false _ A2.out).mono ?_);rintro e w' ⟨rfl,⟨nd,rfl⟩⟩;refine ⟨_,rfl,?_⟩))
 go_ret
 exact ⟨by first|rfl|(simp;done)|(simp [*];done),by repeat (first|exact yp _|apply yq)⟩


def Fy.f (a0 : Int) (a1 : Int) (a2 : Int) : Option (Bool):=if a1≤a0 then (some (decide (a0≤a2))) else (some false)
set_option maxHeartbeats 8000000 in
set_option maxRecDepth 100000 in
theorem Fy.calls (a0 : Int) (a1 : Int) (a2 : Int) (r : Bool) (w : World) (h : Fy.f a0 a1 a2=some r) :
  Calls Try.prog 32 #[.int .i64 a0,.int .i64 a1,.int .i64 a2] w fun e w' => e = .returned (.bool r)∧Drawn0 w w':=by
 have H : (if a1≤a0 then (some (decide (a0≤a2))) else (some false))=some r:=h;clear h
 by_cases c4 : a1≤a0
 ·
  rw [if_pos c4] at H
  have c4b0 : decide (a1≤a0)=true:=decide_eq_true c4;clear c4;obtain rfl:=zU H
  go_enter Try.func32,Try.ntmps32
  go_wp2
  go_ret
  exact ⟨by first|rfl|(simp;done)|(simp [*];done),by repeat (first|exact yp _|apply yq)⟩
 rw [if_neg c4] at H;have c4b0 : decide (a1≤a0)=false:=decide_eq_false c4;clear c4;obtain rfl:=zU H
 go_enter Try.func32,Try.ntmps32
 go_wp2
 go_ret
 exact ⟨by first|rfl|(simp;done)|(simp [*];done),by repeat (first|exact yp _|apply yq)⟩


def F00.f (a0 : Int) : Option (Bool):=if a0 ≥ 97 then (if a0≤122 then (some true) else (if a0 ≥ 65 then (if a0≤90 then (some true) else (some (a0 == 95))) else (some (a0 == 95)))) else (if a0 ≥ 65 then (if a0≤90 then (some true) else (some (a0 == 95))) else (some (a0 == 95)))
set_option maxHeartbeats 8000000 in
set_option maxRecDepth 100000 in
theorem F00.calls (a0 : Int) (r : Bool) (w : World) (h : F00.f a0=some r) :
  Calls Try.prog 65 #[.int .u8 a0] w fun e w' => e = .returned (.bool r)∧Drawn0 w w':=by
 have H : (if a0 ≥ 97 then (if a0≤122 then (some true) else (if a0 ≥ 65 then (if a0≤90 then (some true) else (some (a0 == 95))) else (some (a0 == 95)))) else (if a0 ≥ 65 then (if a0≤90 then (some true) else (some (a0 == 95))) else (some (a0 == 95))))=some r:=h;clear h
 by_cases c2 : a0 ≥ 97
 ·
  rw [if_pos c2] at H
  have c2b0 : decide (97≤a0)=true:=decide_eq_true c2;clear c2
  by_cases c3 : a0≤122
  ·
   rw [if_pos c3] at H
   have c3b0 : decide (a0≤122)=true:=decide_eq_true c3;clear c3;obtain rfl:=zU H
   go_enter Try.func65,Try.ntmps65
   go_wp2
   go_ret
   exact ⟨by first|rfl|(simp;done)|(simp [*];done),by repeat (first|exact yp _|apply yq)⟩
  rw [if_neg c3] at H;have c3b0 : decide (a0≤122)=false:=decide_eq_false c3;clear c3
  by_cases c4 : a0 ≥ 65
  ·
   rw [if_pos c4] at H
   have c4b0 : decide (65≤a0)=true:=decide_eq_true c4;clear c4
   by_cases c5 : a0≤90
   ·
    rw [if_pos c5] at H
    have c5b0 : decide (a0≤90)=true:=decide_eq_true c5;clear c5;obtain rfl:=zU H
    go_enter Try.func65,Try.ntmps65
    go_wp2
    go_ret
    exact ⟨by first|rfl|(simp;done)|(simp [*];done),by repeat (first|exact yp _|apply yq)⟩
   rw [if_neg c5] at H;have c5b0 : decide (a0≤90)=false:=decide_eq_false c5;clear c5;obtain rfl:=zU H
   go_enter Try.func65,Try.ntmps65
   go_wp2
   go_ret
   exact ⟨by first|rfl|(simp;done)|(simp [*];done),by repeat (first|exact yp _|apply yq)⟩
  rw [if_neg c4] at H;have c4b0 : decide (65≤a0)=false:=decide_eq_false c4;clear c4;obtain rfl:=zU H
  go_enter Try.func65,Try.ntmps65
  go_wp2
  go_ret
  exact ⟨by first|rfl|(simp;done)|(simp [*];done),by repeat (first|exact yp _|apply yq)⟩
 rw [if_neg c2] at H;have c2b0 : decide (97≤a0)=false:=decide_eq_false c2;clear c2
 by_cases c6 : a0 ≥ 65
 ·
  rw [if_pos c6] at H
  have c6b0 : decide (65≤a0)=true:=decide_eq_true c6;clear c6
  by_cases c7 : a0≤90
  ·
   rw [if_pos c7] at H
   have c7b0 : decide (a0≤90)=true:=decide_eq_true c7;clear c7;obtain rfl:=zU H
   go_enter Try.func65,Try.ntmps65
   go_wp2
   go_ret
   exact ⟨by first|rfl|(simp;done)|(simp [*];done),by repeat (first|exact yp _|apply yq)⟩
  rw [if_neg c7] at H;have c7b0 : decide (a0≤90)=false:=decide_eq_false c7;clear c7;obtain rfl:=zU H
  go_enter Try.func65,Try.ntmps65
  go_wp2
  go_ret
  exact ⟨by first|rfl|(simp;done)|(simp [*];done),by repeat (first|exact yp _|apply yq)⟩
 rw [if_neg c6] at H;have c6b0 : decide (65≤a0)=false:=decide_eq_false c6;clear c6;obtain rfl:=zU H
 go_enter Try.func65,Try.ntmps65
 go_wp2
 go_ret
 exact ⟨by first|rfl|(simp;done)|(simp [*];done),by repeat (first|exact yp _|apply yq)⟩


def Fz.f (a0 : Int) : Option (Bool):=if a0 ≥ 48 then (some (decide (a0≤57))) else (some false)
set_option maxHeartbeats 8000000 in
set_option maxRecDepth 100000 in
theorem Fz.calls (a0 : Int) (r : Bool) (w : World) (h : Fz.f a0=some r) :
  Calls Try.prog 66 #[.int .u8 a0] w fun e w' => e = .returned (.bool r)∧Drawn0 w w':=by
 have H : (if a0 ≥ 48 then (some (decide (a0≤57))) else (some false))=some r:=h;clear h
 by_cases c2 : a0 ≥ 48
 ·
  rw [if_pos c2] at H
  have c2b0 : decide (48≤a0)=true:=decide_eq_true c2;clear c2;obtain rfl:=zU H
  go_enter Try.func66,Try.ntmps66
  go_wp2
  go_ret
  exact ⟨by first|rfl|(simp;done)|(simp [*];done),by repeat (first|exact yp _|apply yq)⟩
 rw [if_neg c2] at H;have c2b0 : decide (48≤a0)=false:=decide_eq_false c2;clear c2;obtain rfl:=zU H
 go_enter Try.func66,Try.ntmps66
 go_wp2
 go_ret
 exact ⟨by first|rfl|(simp;done)|(simp [*];done),by repeat (first|exact yp _|apply yq)⟩


def F7.l0 : Nat→ByteArray→Int→Int→Option (Bool)
 | 0,_,_,_ => none
 | k + 1,x0,x5,x6 => if x6<x5 then (if 0≤x6 then (if x6<(x0.size : Int) then ((F00.f (bt x0 x6)).bind fun t228 => (if t228=true then (F7.l0 k x0 x5 (wrap64 (x6 + 1))) else ((Fz.f (bt x0 x6)).bind fun t229 => (if t229=true then (if x6=0 then (some false) else (F7.l0 k x0 x5 (wrap64 (x6 + 1)))) else (some false))))) else (none)) else (none)) else ((Fy.f (x0.size : Int) 1 40).bind fun t227 => (some t227))
def F7.f (k : Nat) (a0 : ByteArray) : Option (Bool):=F7.l0 k a0 (a0.size : Int) 0
theorem F7.mono_l : ∀ k,(∀ y0 y1 y2,LeO (F7.l0 k y0 y1 y2) (F7.l0 (k + 1) y0 y1 y2))
 | 0 => fun _ _ _ r h => by simp [F7.l0] at h
 | k + 1 => by
  have ih0:=F7.mono_l k;intro y0 y1 y2;unfold F7.l0
  repeat' first|(with_reducible first|exact ih0 _ _ _|exact zQ _|exact zN _|refine zP ?_ ?_|refine zO ?_ (fun _ => ?_))|refine zP ?_ ?_|refine zO ?_ (fun _ => ?_)
theorem F7.mono : ∀ a0 k,LeO (F7.f k a0) (F7.f (k + 1) a0):=by
 intro a0 k;have ih0:=F7.mono_l k;unfold F7.f
 repeat' first|(with_reducible first|exact ih0 _ _ _|exact zQ _|exact zN _|refine zP ?_ ?_|refine zO ?_ (fun _ => ?_))|refine zP ?_ ?_|refine zO ?_ (fun _ => ?_)
set_option maxHeartbeats 8000000 in
set_option maxRecDepth 100000 in
theorem F7.calls (k : Nat) (a0 : ByteArray) (r : Bool) (w : World) (h : F7.f k a0=some r) :
  Calls Try.prog 49 #[.string a0] w fun e w' => e = .returned (.bool r)∧Drawn0 w w':=by
 have H : (F7.l0 k a0 (a0.size : Int) 0)=some r:=h;clear h;have H':=zh H;clear H
 go_enter Try.func49,Try.ntmps49
 go_wp2
 go_loopg [6] k (fun kq v6 w' => ∃ (x6_1 : Int),v6 = .int .i64 x6_1∧Aside0 (F7.l0 kq a0 (a0.size : Int) x6_1=some r)∧Aside0 (kq≤k)∧Drawn0 w w')
 case atStart => exact ⟨(0),(by first|rfl|(simp;done)|(simp [*];done)),H',⟨ye _⟩,by repeat (first|exact yp _|apply yq)⟩
 case round =>
  clear H';obtain ⟨x6_1,rfl,HA,HK1,⟨m1,rfl⟩⟩:=hrel
  cases gk with
  | zero => exact absurd HA.out (by simp [F7.l0])
  | succ k1 =>
   have H:=HA.out;clear HA;simp only [F7.l0] at H
   by_cases c2 : x6_1<(a0.size : Int)
   ·
    rw [if_pos c2] at H
    have c2b0 : decide (x6_1<(a0.size : Int))=true:=decide_eq_true c2;clear c2
    by_cases c3 : 0≤x6_1
    ·
     rw [if_pos c3] at H
     have c3b0 : decide (0≤x6_1)=true:=decide_eq_true c3;clear c3
     by_cases c4 : x6_1<(a0.size : Int)
     ·
      rw [if_pos c4] at H
      have c4b0 : decide (x6_1<(a0.size : Int))=true:=decide_eq_true c4;clear c4;replace H:=zT.mp H;obtain ⟨t228,A60,H⟩:=H;replace H : (if t228=true then (F7.l0 k1 a0 (a0.size : Int) (wrap64 (x6_1 + 1))) else ((Fz.f (bt a0 x6_1)).bind fun t229 => (if t229=true then (if x6_1=0 then (some false) else (F7.l0 k1 a0 (a0.size : Int) (wrap64 (x6_1 + 1)))) else (some false))))=some r:=H;have A6:=zh A60;clear A60
      by_cases c7 : t228=true
      ·
       subst c7
       have H1 : (F7.l0 k1 a0 (a0.size : Int) (wrap64 (x6_1 + 1)))=some r:=by rw [if_pos rfl] at H;exact H
       clear H;have H:=H1;clear H1;have H':=zh H;clear H;have p5 : 0≤(x6_1 : Int):=zy (by first|(with_reducible assumption)|assumption);have q5 : x6_1<(a0.size : Int):=zy (by first|(with_reducible assumption)|assumption);have hx5:=bt_at a0 x6_1;replace p5:=eq_true p5;replace q5:=eq_true q5
       go_wp2_with (first|((with_reducible refine zJ (f:=65) rfl ?_);refine yj (some 12) rfl rfl Try.func65 (by kernel_rfl) rfl #[.int .u8 (bt a0 x6_1)] rfl (by (try simp only [zt,zu,zv]);first|done|rfl|(simp only [zw,zx];rfl)|(simp only [yr,ys,zV,zW];rfl)) ?_;(with_reducible refine (F00.calls  (bt a0 x6_1) true _ A6.out).mono ?_);rintro e w' ⟨rfl,⟨nd,rfl⟩⟩;refine ⟨_,rfl,?_⟩))
       go_roundg k1
       case measure => have:=HK1.out;omega
       case rel => exact ⟨(wrap64 (x6_1 + 1)),(by first|rfl|(simp;done)|(simp [*];done)),H',⟨by have:=HK1.out;omega⟩,by repeat (first|exact yp _|apply yq)⟩
      replace c7:=yb.mpr c7;subst c7;have H1 : ((Fz.f (bt a0 x6_1)).bind fun t229 => (if t229=true then (if x6_1=0 then (some false) else (F7.l0 k1 a0 (a0.size : Int) (wrap64 (x6_1 + 1)))) else (some false)))=some r:=by rw [if_neg (show ¬ (false=true) by decide)] at H;exact H
      clear H;have H:=H1;clear H1;replace H:=zT.mp H;obtain ⟨t229,A90,H⟩:=H;replace H : (if t229=true then (if x6_1=0 then (some false) else (F7.l0 k1 a0 (a0.size : Int) (wrap64 (x6_1 + 1)))) else (some false))=some r:=H;have A9:=zh A90;clear A90
      by_cases c10 : t229=true
      ·
       subst c10
       have H1 : (if x6_1=0 then (some false) else (F7.l0 k1 a0 (a0.size : Int) (wrap64 (x6_1 + 1))))=some r:=by rw [if_pos rfl] at H;exact H
       clear H;have H:=H1;clear H1
       by_cases c11 : x6_1=0
       ·
        rw [if_pos c11] at H
        have c11b0 : (x6_1 == 0)=true:=ya.mpr c11;have c11b1 : (x6_1 != 0)=false:=zX.mpr c11;clear c11;obtain rfl:=zU H;have p5 : 0≤(x6_1 : Int):=zy (by first|(with_reducible assumption)|assumption);have q5 : x6_1<(a0.size : Int):=zy (by first|(with_reducible assumption)|assumption);have hx5:=bt_at a0 x6_1;replace p5:=eq_true p5;replace q5:=eq_true q5
        go_wp2_with (first|((with_reducible refine zJ (f:=65) rfl ?_);refine yj (some 12) rfl rfl Try.func65 (by kernel_rfl) rfl #[.int .u8 (bt a0 x6_1)] rfl (by (try simp only [zt,zu,zv]);first|done|rfl|(simp only [zw,zx];rfl)|(simp only [yr,ys,zV,zW];rfl)) ?_;(with_reducible refine (F00.calls  (bt a0 x6_1) false _ A6.out).mono ?_);rintro e w' ⟨rfl,⟨nd,rfl⟩⟩;refine ⟨_,rfl,?_⟩;have p8 : 0≤(x6_1 : Int):=zy (by first|(with_reducible assumption)|assumption);have q8 : x6_1<(a0.size : Int):=zy (by first|(with_reducible assumption)|assumption);have hx8:=bt_at a0 x6_1;replace p8:=eq_true p8;replace q8:=eq_true q8)|(go_at_call 66;(with_reducible refine (Fz.calls  (bt a0 x6_1) true _ A9.out).mono ?_);rintro e w' ⟨rfl,⟨nd,rfl⟩⟩))
        go_ret
        exact ⟨by first|rfl|(simp;done)|(simp [*];done),by repeat (first|exact yp _|apply yq)⟩
       rw [if_neg c11] at H;have c11b0 : (x6_1 == 0)=false:=zY.mpr c11;have c11b1 : (x6_1 != 0)=true:=zZ.mpr c11;have H':=zh H;clear H;have p5 : 0≤(x6_1 : Int):=zy (by first|(with_reducible assumption)|assumption);have q5 : x6_1<(a0.size : Int):=zy (by first|(with_reducible assumption)|assumption);have hx5:=bt_at a0 x6_1;replace p5:=eq_true p5;replace q5:=eq_true q5
       go_wp2_with (first|((with_reducible refine zJ (f:=65) rfl ?_);refine yj (some 12) rfl rfl Try.func65 (by kernel_rfl) rfl #[.int .u8 (bt a0 x6_1)] rfl (by (try simp only [zt,zu,zv]);first|done|rfl|(simp only [zw,zx];rfl)|(simp only [yr,ys,zV,zW];rfl)) ?_;(with_reducible refine (F00.calls  (bt a0 x6_1) false _ A6.out).mono ?_);rintro e w' ⟨rfl,⟨nd,rfl⟩⟩;refine ⟨_,rfl,?_⟩;have p8 : 0≤(x6_1 : Int):=zy (by first|(with_reducible assumption)|assumption);have q8 : x6_1<(a0.size : Int):=zy (by first|(with_reducible assumption)|assumption);have hx8:=bt_at a0 x6_1;replace p8:=eq_true p8;replace q8:=eq_true q8)|(go_at_call 66;(with_reducible refine (Fz.calls  (bt a0 x6_1) true _ A9.out).mono ?_);rintro e w' ⟨rfl,⟨nd,rfl⟩⟩))
       go_roundg k1
       case measure => have:=HK1.out;omega
       case rel => exact ⟨(wrap64 (x6_1 + 1)),(by first|rfl|(simp;done)|(simp [*];done)),H',⟨by have:=HK1.out;omega⟩,by repeat (first|exact yp _|apply yq)⟩
      replace c10:=yb.mpr c10;subst c10;have H1 : (some false)=some r:=by rw [if_neg (show ¬ (false=true) by decide)] at H;exact H
      clear H;have H:=H1;clear H1;obtain rfl:=zU H;have p5 : 0≤(x6_1 : Int):=zy (by first|(with_reducible assumption)|assumption);have q5 : x6_1<(a0.size : Int):=zy (by first|(with_reducible assumption)|assumption);have hx5:=bt_at a0 x6_1;replace p5:=eq_true p5;replace q5:=eq_true q5
      go_wp2_with (first|((with_reducible refine zJ (f:=65) rfl ?_);refine yj (some 12) rfl rfl Try.func65 (by kernel_rfl) rfl #[.int .u8 (bt a0 x6_1)] rfl (by (try simp only [zt,zu,zv]);first|done|rfl|(simp only [zw,zx];rfl)|(simp only [yr,ys,zV,zW];rfl)) ?_;(with_reducible refine (F00.calls  (bt a0 x6_1) false _ A6.out).mono ?_);rintro e w' ⟨rfl,⟨nd,rfl⟩⟩;refine ⟨_,rfl,?_⟩;have p8 : 0≤(x6_1 : Int):=zy (by first|(with_reducible assumption)|assumption);have q8 : x6_1<(a0.size : Int):=zy (by first|(with_reducible assumption)|assumption);have hx8:=bt_at a0 x6_1;replace p8:=eq_true p8;replace q8:=eq_true q8)|(go_at_call 66;(with_reducible refine (Fz.calls  (bt a0 x6_1) false _ A9.out).mono ?_);rintro e w' ⟨rfl,⟨nd,rfl⟩⟩))
      go_ret
      exact ⟨by first|rfl|(simp;done)|(simp [*];done),by repeat (first|exact yp _|apply yq)⟩
     rw [if_neg c4] at H;exact absurd H (by simp)
    rw [if_neg c3] at H;exact absurd H (by simp)
   rw [if_neg c2] at H;have c2b0 : decide (x6_1<(a0.size : Int))=false:=decide_eq_false c2;clear c2;replace H:=zT.mp H;obtain ⟨t227,A120,H⟩:=H;replace H : (some t227)=some r:=H;have A12:=zh A120;clear A120;obtain rfl:=zU H
   go_wp2_with (first|((with_reducible refine zJ (f:=32) rfl ?_);refine yj (some 28) rfl rfl Try.func32 (by kernel_rfl) rfl #[.int .i64 (a0.size : Int),.int .i64 1,.int .i64 40] rfl (by (try simp only [zt,zu,zv]);first|done|rfl|(simp only [zw,zx];rfl)|(simp only [yr,ys,zV,zW];rfl)) ?_;(with_reducible refine (Fy.calls  (a0.size : Int) 1 40 t227 _ A12.out).mono ?_);rintro e w' ⟨rfl,⟨nd,rfl⟩⟩;refine ⟨_,rfl,?_⟩))
   go_ret
   exact ⟨by first|rfl|(simp;done)|(simp [*];done),by repeat (first|exact yp _|apply yq)⟩


def Fr.f (k : Nat) (a0 : ByteArray) : Option (Bool):=if (a0.size : Int)≤12 then ((F7.f k a0).bind fun t230 => (some t230)) else (some false)
theorem Fr.mono : ∀ a0 k,LeO (Fr.f k a0) (Fr.f (k + 1) a0):=by
 intro a0 k;unfold Fr.f
 repeat' first|(with_reducible first|exact F7.mono _ _|exact zQ _|exact zN _|refine zP ?_ ?_|refine zO ?_ (fun _ => ?_))|refine zP ?_ ?_|refine zO ?_ (fun _ => ?_)
set_option maxHeartbeats 8000000 in
set_option maxRecDepth 100000 in
theorem Fr.calls (k : Nat) (a0 : ByteArray) (r : Bool) (w : World) (h : Fr.f k a0=some r) :
  Calls Try.prog 33 #[.string a0] w fun e w' => e = .returned (.bool r)∧Drawn0 w w':=by
 have H : (if (a0.size : Int)≤12 then ((F7.f k a0).bind fun t230 => (some t230)) else (some false))=some r:=h;clear h
 by_cases c2 : (a0.size : Int)≤12
 ·
  rw [if_pos c2] at H
  have c2b0 : decide ((a0.size : Int)≤12)=true:=decide_eq_true c2;have c2b1 : decide (a0.size≤12)=true:=decide_eq_true (by omega);clear c2;replace H:=zT.mp H;obtain ⟨t230,A30,H⟩:=H;replace H : (some t230)=some r:=H;have A3:=zh A30;clear A30;obtain rfl:=zU H
  go_enter Try.func33,Try.ntmps33
  go_wp2_with (first|(go_at_call 49;(with_reducible refine (F7.calls k  a0 t230 _ A3.out).mono ?_);rintro e w' ⟨rfl,⟨nd,rfl⟩⟩))
  go_ret
  exact ⟨by first|rfl|(simp;done)|(simp [*];done),by repeat (first|exact yp _|apply yq)⟩
 rw [if_neg c2] at H;have c2b0 : decide ((a0.size : Int)≤12)=false:=decide_eq_false c2;have c2b1 : decide (a0.size≤12)=false:=decide_eq_false (by omega);clear c2;obtain rfl:=zU H
 go_enter Try.func33,Try.ntmps33
 go_wp2
 go_ret
 exact ⟨by first|rfl|(simp;done)|(simp [*];done),by repeat (first|exact yp _|apply yq)⟩

end Go.Proofs.Ytnppmokkdhgkgaa.Q
end
section
namespace Go.Proofs.Ytnppmokkdhgkgaa.Pure
open Go Go.RowKit Go.Proofs.Ytnppmokkdhgkgaa.Q Go.Proofs.YtnppmokkdhgkgaaW.PrintWords Go.Proofs.YtnppmokkdhgkgaaW.PrintLast Go.Proofs.YtnppmokkdhgkgaaW.PrintMore Go.Proofs.YtnppmokkdhgkgaaW.Pl
theorem wi {i : Nat} (h : i≤9223372036854775806) : wrap64 ((i : Int) + 1)=((i + 1 : Nat) : Int):=w64 (by omega) (by omega)
theorem bt_get (a : ByteArray) (i : Nat) (h : i<(bytesOf a).length) : bt a (i : Int)=(bytesOf a)[i]:=by
 rw [← rd_bytesOf,rd_at _ _ h]
def isL (c : Int) : Bool:=(decide (97≤c) && decide (c≤122)) || (decide (65≤c) && decide (c≤90)) || (c == 95)
def isD (c : Int) : Bool:=decide (48≤c) && decide (c≤57)
theorem specL (c : Int) : Fx.f c=some (isL c):=by
 unfold Fx.f isL
 split <;> split <;> (try split) <;> (try split) <;> simp <;> omega
theorem implL (c : Int) : F00.f c=some (isL c):=by
 unfold F00.f isL
 split <;> split <;> (try split) <;> (try split) <;> simp <;> omega
theorem specD (c : Int) : F01.f c=some (isD c):=by
 unfold F01.f isD
 split <;> simp <;> omega
theorem implD (c : Int) : Fz.f c=some (isD c):=by
 unfold Fz.f isD
 split <;> simp <;> omega
def wgo (first : Bool) : List Int→Bool
 | [] => true
 | c :: cs => (isL c || (isD c && !first)) && wgo false cs
def word (s : ByteArray) : Bool:=wgo true (bytesOf s) && (decide (1≤(s.size : Int)) && decide ((s.size : Int)≤40))
theorem word_spec (s : ByteArray) (hs : s.size≤1048576) : Eve (fun k => F1.f k s) (word s):=by
 have hn : (bytesOf s).length=s.size:=bytesOf_length s;have hj : Eve (fun k => F1.j0 k s true) false:=Eve.succ (by simp only [F1.j0,if_true];exact Eve.one);simp only [F1.f];refine Eve.ite (fun h => hj.eq ?_) (fun h => ?_)
 ·
  have : decide (1≤(s.size : Int))=false:=by simp;omega
  simp [word,this]
 refine Eve.ite (fun h2 => hj.eq ?_) (fun h2 => ?_)
 ·
  have : decide ((s.size : Int)≤40)=false:=by simp;omega
  simp [word,this]
 refine Eve.ite (fun _ => ?_) (fun h => absurd (by omega) h)
 have hw : word s=wgo true (bytesOf s):=by
  have a1 : decide (1≤(s.size : Int))=true:=by simp;omega
  have a2 : decide ((s.size : Int)≤40)=true:=by simp;omega
  simp [word,a1,a2]
 have hb:=bt_get s 0 (by omega);simp only [show ((0 : Nat) : Int)=0 from rfl] at hb;have hc : bytesOf s=bt s 0 :: (bytesOf s).drop 1:=by rw [hb];exact drop_at (bytesOf s) 0 (by omega)
 simp only [specL,Option.bind_some]
 cases hl : isL (bt s 0) with
 | false =>
  refine hj.eq ?_;rw [hw,hc];simp [wgo,hl]
 | true =>
  refine Eve.succ ?_;simp only [F1.j0,Bool.not_true,Bool.false_eq_true,if_false]
  have:=ev_loop (bytesOf s) (fun k (_ : Unit) i => F1.l0 k s i) (fun _ _ r => wgo false r) (fun i _ => 1≤i) (fun _ _ => by
   simp only [F1.l0]
   exact Eve.ite (fun h => absurd h (by omega)) (fun _ => Eve.one)) (fun i hi _ hI ih => by
   have hnx:=ih () (by omega);simp only [F1.l0,specL,specD,Option.bind_some,wi (show i≤9223372036854775806 by omega),bt_get s i hi];refine Eve.ite (fun _ => ?_) (fun h => absurd (by omega) h);refine Eve.ite (fun _ => ?_) (fun h => absurd (by omega) h);refine Eve.ite (fun h1 => hnx.eq (by simp [wgo,h1])) (fun h1 => ?_)
   exact Eve.ite (fun h2 => hnx.eq (by simp [wgo,h2])) (fun h2 => Eve.one.eq (by simp [wgo,h1,h2]))) ((bytesOf s).length - 1) 1 () (by omega) (by omega)
  refine this.eq ?_;rw [hw]
  conv => rhs;rw [hc]
  simp [wgo,hl]
theorem word_impl (s : ByteArray) (hs : s.size≤1048576) : Eve (fun k => F7.f k s) (word s):=by
 have hn : (bytesOf s).length=s.size:=bytesOf_length s;simp only [F7.f];refine ev_loop0 (bytesOf s) (fun k (_ : Unit) i => F7.l0 k s (s.size : Int) i) (fun i _ r => wgo (decide (i=0)) r && (decide (1≤(s.size : Int)) && decide ((s.size : Int)≤40))) (fun _ _ => True) (fun _ _ => ?_) (fun i hi _ _ ih => ?_) () trivial
 ·
  simp only [F7.l0]
  refine Eve.ite (fun h => absurd h (by omega)) (fun _ => Eve.all fun k => ?_);unfold Fy.f
  by_cases h : 1≤(s.size : Int)
  ·
   rw [if_pos h];simp [wgo,h]
  rw [if_neg h];simp [wgo,h]
 have hnx:=ih () trivial;simp only [Nat.add_one_ne_zero,decide_false] at hnx;simp only [F7.l0,implL,implD,Option.bind_some,wi (show i≤9223372036854775806 by omega),bt_get s i hi];refine Eve.ite (fun _ => ?_) (fun h => absurd (by omega) h);refine Eve.ite (fun _ => ?_) (fun h => absurd (by omega) h);refine Eve.ite (fun _ => ?_) (fun h => absurd (by omega) h);refine Eve.ite (fun h1 => hnx.eq (by simp [wgo,h1])) (fun h1 => ?_);refine Eve.ite (fun h2 => ?_) (fun h2 => Eve.one.eq (by simp [wgo,h1,h2]));refine Eve.ite (fun h3 => Eve.one.eq ?_) (fun h3 => hnx.eq ?_)
 ·
  obtain rfl : i=0:=by omega
  simp [wgo,h1]
 have : ¬ i=0:=by omega
 simp [wgo,h2,this]
def nam (s : ByteArray) : Bool:=word s && decide ((s.size : Int)≤12)
theorem nam_spec (s : ByteArray) (hs : s.size≤1048576) : Eve (fun k => Fq.f k s) (nam s):=by
 simp only [Fq.f,Fv.f];refine Eve.bind (v:=word s) (Eve.bind (word_spec s hs) Eve.one) ?_;refine Eve.ite (fun h => Eve.one.eq (by simp [nam,h])) (fun h => Eve.one.eq (by simp [nam,h]))
theorem nam_impl (s : ByteArray) (hs : s.size≤1048576) : Eve (fun k => Fr.f k s) (nam s):=by
 simp only [Fr.f];refine Eve.ite (fun h => (Eve.bind (word_impl s hs) Eve.one).eq (by simp [nam,h])) (fun h => Eve.one.eq (by simp [nam,h]))
end Go.Proofs.Ytnppmokkdhgkgaa.Pure
end
section
namespace Go.Proofs.Ytnppmokkdhgkgaa.Q
open Go.RowKit Go.Proofs.YtnppmokkdhgkgaaW.PrintWords Go.Proofs.YtnppmokkdhgkgaaW.PrintLast Go.Proofs.YtnppmokkdhgkgaaW.PrintMore
attribute [local go_sem] max2_int min2_int max_two min_two max_three min_three max_four min_four max2_str min2_str str_geq str_gtr str_leq
set_option linter.unusedVariables false
set_option linter.unusedSimpArgs false

def F4.l0 : Nat→Int→ByteArray→Option (ByteArray)
 | 0,_,_ => none
 | k + 1,x0,x3 => if x0 > 0 then ((some (([(wrap64 (48 + (Int.tmod x0 10))) % 256] : List Int) : List Int)).bind fun y160 => (if (strOfNums y160).size + x3.size≤9223372036854775807 then (F4.l0 k (wrap64 (Int.tdiv x0 10)) ((strOfNums y160) ++ x3)) else (none))) else (if 1 + x3.size≤9223372036854775807 then (some ((⟨#[109]⟩ : ByteArray) ++ x3)) else (none))
def F4.f (k : Nat) (a0 : Int) : Option (ByteArray):=if a0≤0 then (some (⟨#[109,48]⟩ : ByteArray)) else (F4.l0 k a0 (⟨#[]⟩ : ByteArray))
theorem F4.mono_l : ∀ k,(∀ y0 y1,LeO (F4.l0 k y0 y1) (F4.l0 (k + 1) y0 y1))
 | 0 => fun _ _ r h => by simp [F4.l0] at h
 | k + 1 => by
  have ih0:=F4.mono_l k;intro y0 y1;unfold F4.l0
  repeat' first|(with_reducible first|exact ih0 _ _|exact zQ _|exact zN _|refine zP ?_ ?_|refine zO ?_ (fun _ => ?_))|refine zP ?_ ?_|refine zO ?_ (fun _ => ?_)
theorem F4.mono : ∀ a0 k,LeO (F4.f k a0) (F4.f (k + 1) a0):=by
 intro a0 k;have ih0:=F4.mono_l k;unfold F4.f
 repeat' first|(with_reducible first|exact ih0 _ _|exact zQ _|exact zN _|refine zP ?_ ?_|refine zO ?_ (fun _ => ?_))|refine zP ?_ ?_|refine zO ?_ (fun _ => ?_)
set_option maxHeartbeats 8000000 in
set_option maxRecDepth 100000 in
theorem F4.calls (k : Nat) (a0 : Int) (r : ByteArray) (w : World) (h : F4.f k a0=some r) :
  Calls Try.prog 37 #[.int .i64 a0] w fun e w' => e = .returned (.string r)∧Below w.heap.size w w':=by
 have HB:=zh (Below.refl w.heap.size w);have H : (if a0≤0 then (some (⟨#[109,48]⟩ : ByteArray)) else (F4.l0 k a0 (⟨#[]⟩ : ByteArray)))=some r:=h;clear h
 by_cases c2 : a0≤0
 ·
  rw [if_pos c2] at H
  have c2b0 : decide (a0≤0)=true:=decide_eq_true c2;clear c2;obtain rfl:=zU H
  go_enter Try.func37,Try.ntmps37
  go_wp2
  go_ret
  exact ⟨by first|rfl|(simp [yt,yu] <;> rfl)|(simp [*,yt,yu] <;> rfl),by repeat (with_reducible first|exact HB.out|apply za|apply zb|apply zc)⟩
 rw [if_neg c2] at H;have c2b0 : decide (a0≤0)=false:=decide_eq_false c2;clear c2;have H':=zh H;clear H
 go_enter Try.func37,Try.ntmps37
 go_wp2
 go_loopg [0,3] k (fun kq v0 v3 w' => ∃ (x0_1 : Int) (x3_1 : ByteArray),v0 = .int .i64 x0_1∧v3 = .string x3_1∧Aside0 (F4.l0 kq x0_1 x3_1=some r)∧Aside0 (kq≤k)∧Aside0 (Below w.heap.size w w'))
 case atStart => exact ⟨(a0),((⟨#[]⟩ : ByteArray)),(by first|rfl|(simp;done)|(simp [*];done)),(by first|rfl|(simp;done)|(simp [*];done)),H',⟨ye _⟩,⟨by repeat (with_reducible first|exact HB.out|apply za|apply zb|apply zc)⟩⟩
 case round =>
  clear H'
  try clear c2
  try clear c2b0
  try clear p2
  obtain ⟨x0_1,x3_1,rfl,rfl,HA,HK1,HB⟩:=hrel
  cases gk with
  | zero => exact absurd HA.out (by simp [F4.l0])
  | succ k1 =>
   have H:=HA.out;clear HA;simp only [F4.l0] at H
   by_cases c3 : x0_1 > 0
   ·
    rw [if_pos c3] at H
    have c3b0 : decide (0<x0_1)=true:=decide_eq_true c3;clear c3;obtain ⟨y160,hy160⟩ : ∃ y_ : List Int,y_=(([(wrap64 (48 + (Int.tmod x0_1 10))) % 256] : List Int)):=⟨_,rfl⟩;replace H : (if (strOfNums y160).size + x3_1.size≤9223372036854775807 then (F4.l0 k1 (wrap64 (Int.tdiv x0_1 10)) ((strOfNums y160) ++ x3_1)) else (none))=some r:=by first|(rw [hy160];with_reducible exact H)|(have H2_:=(Option.bind_some _ _).symm.trans H;rw [hy160];with_reducible exact H2_)|(have H2_:=(Option.bind_some _ _).symm.trans H;with_reducible exact H2_)|with_reducible exact H|(rw [hy160];exact H)|exact H
    have Ny160:=zh hy160;clear hy160
    by_cases c4 : (strOfNums y160).size + x3_1.size≤9223372036854775807
    ·
     rw [if_pos c4] at H
     have c4b0:=eq_true c4;have c4b1 : decide ((strOfNums y160).size + x3_1.size≤9223372036854775807)=true:=decide_eq_true c4
     try have c4b2 : (9223372036854775807<(strOfNums y160).size + x3_1.size)=False:=eq_false (Nat.not_lt.2 c4)
     have H':=zh H;clear H
     go_wp2_with (first|((with_reducible refine zK (N:=12) rfl ?_);refine Kd.R_lit (Kd.int .u8) _ 5 ?hg (N:=12) ?hd (xs:=([(wrap64 (48 + (Int.tmod x0_1 10))) % 256] : List Int)) (inner:=[.int .u8 ((wrap64 (48 + (Int.tmod x0_1 10))) % 256)]) (ok:=fun _ => True) (okp:=fun _ => True) ?hr ?hp (fun _ hk => hk) trivial (Below.refl _ _) (ye _) (by simp) ?_;(case hd => rfl);(case hg => rfl);(case hr => first|(go_simp;done)|(go_simp;rfl));(case hp => exact (Reps.one (show Kd.M (Kd.int .u8) _ _ _ ((wrap64 (48 + (Int.tmod x0_1 10))) % 256) [.int .u8 ((wrap64 (48 + (Int.tmod x0_1 10))) % 256)] from rfl) (Reps.none _ _)));intro v161 w5 ho6 hb hg_ hnew_;clear hg_ hnew_;(first|rw [← Ny160.out] at ho6|(simp only [Int.reduceToNat] at ho6;rw [← Ny160.out] at ho6));have HO162:=zh (yx ho6 (zB (by repeat (with_reducible first|exact HB.out|apply za|apply zb|apply zc))));replace HB:=zh (zC (by repeat (with_reducible first|exact HB.out|apply za|apply zb|apply zc)) hb);clear hb ho6;have hcv7:=own_string (P:=Try.prog) Try.underlying83 Try.underlying5 Try.underlying9 (Kd.own_of_R HO162.out)))
     go_roundg k1
     case measure => have:=HK1.out;omega
     case rel => exact ⟨(wrap64 (Int.tdiv x0_1 10)),((strOfNums y160) ++ x3_1),(by first|rfl|(simp;done)|(simp [*];done)),(by first|rfl|(simp;done)|(simp [*];done)),H',⟨by have:=HK1.out;omega⟩,⟨by repeat (with_reducible first|exact HB.out|apply za|apply zb|apply zc)⟩⟩
    rw [if_neg c4] at H;exact absurd H (by simp)
   rw [if_neg c3] at H;have c3b0 : decide (0<x0_1)=false:=decide_eq_false c3;clear c3
   by_cases c8 : 1 + x3_1.size≤9223372036854775807
   ·
    rw [if_pos c8] at H
    have c8b0:=eq_true c8;have c8b1 : decide (1 + x3_1.size≤9223372036854775807)=true:=decide_eq_true c8
    try have c8b2 : (9223372036854775807<1 + x3_1.size)=False:=eq_false (Nat.not_lt.2 c8)
    obtain rfl:=zU H
    go_wp2
    go_ret
    exact ⟨by first|rfl|(simp [yt,yu] <;> rfl)|(simp [*,yt,yu] <;> rfl),by repeat (with_reducible first|exact HB.out|apply za|apply zb|apply zc)⟩
   rw [if_neg c8] at H;exact absurd H (by simp)

end Go.Proofs.Ytnppmokkdhgkgaa.Q
end
section
namespace Go.Proofs.Ytnppmokkdhgkgaa.Pure
open Go Go.RowKit Go.Proofs.Ytnppmokkdhgkgaa.Q Go.Proofs.YtnppmokkdhgkgaaW.PrintWords Go.Proofs.YtnppmokkdhgkgaaW.PrintLast Go.Proofs.YtnppmokkdhgkgaaW.PrintMore Go.Proofs.YtnppmokkdhgkgaaW.Pl
theorem one_size (b : Int) : (strOfNums [b]).size=1:=by
 unfold strOfNums;rw [← data_length];simp
theorem mark_loop : ∀ (n : Nat) (x : Int) (acc : ByteArray),0≤x→x≤n→acc.size + n≤4611686018427387904 → ∃ t,Eve (fun k => F4.l0 k x acc) t:=by
 intro n
 induction n with
 | zero =>
  intro x acc h0 h1 h2;refine ⟨(⟨#[109]⟩ : ByteArray) ++ acc,Eve.succ ?_⟩;simp only [F4.l0];exact Eve.ite (fun h => absurd h (by omega)) (fun _ => Eve.ite (fun _ => Eve.one) (fun h => absurd (by omega) h))
 | succ n ih =>
  intro x acc h0 h1 h2
  by_cases hx : x > 0
  ·
   have e1 : Int.tdiv x 10=x / 10:=Int.tdiv_eq_ediv_of_nonneg h0
   have e2 : wrap64 (x / 10)=x / 10:=w64 (by omega) (by omega);obtain ⟨t,ht⟩:=ih (x / 10) (strOfNums [(wrap64 (48 + (Int.tmod x 10))) % 256] ++ acc) (by omega) (by omega) (by rw [ByteArray.size_append,one_size];omega);refine ⟨t,Eve.succ ?_⟩;simp only [F4.l0,Option.bind_some,one_size,e1,e2];exact Eve.ite (fun _ => Eve.ite (fun _ => ht) (fun h => absurd (by omega) h)) (fun h => absurd hx h)
  refine ⟨(⟨#[109]⟩ : ByteArray) ++ acc,Eve.succ ?_⟩;simp only [F4.l0];exact Eve.ite (fun h => absurd h hx) (fun _ => Eve.ite (fun _ => Eve.one) (fun h => absurd (by omega) h))
theorem mark_text (x : Int) (h0 : 0≤x) (h1 : x≤4611686018427387904) : ∃ t,Eve (fun k => F4.f k x) t:=by
 by_cases h : x≤0
 ·
  exact ⟨⟨#[109,48]⟩,by simp only [F4.f];exact Eve.ite (fun _ => Eve.one) (fun h2 => absurd h h2)⟩
 obtain ⟨t,ht⟩:=mark_loop x.toNat x ⟨#[]⟩ h0 (by omega) (by show 0 + x.toNat≤_;omega);exact ⟨t,by simp only [F4.f];exact Eve.ite (fun h2 => absurd h2 h) (fun _ => ht)⟩
open Classical in
noncomputable def mt (x : Int) : ByteArray:=if h : ∃ t,Eve (fun k => F4.f k x) t then h.choose else ⟨#[]⟩
theorem mt_tells (x : Int) (h0 : 0≤x) (h1 : x≤4611686018427387904) : Eve (fun k => F4.f k x) (mt x):=by
 have h:=mark_text x h0 h1;unfold mt;rw [dif_pos h];exact h.choose_spec
theorem filled {α : Type} (ys : List α) (n : Nat) (c : Nat→α) (h1 : ys.length=n) (h2 : ∀ j,j<n→ys[j]? = some (c j)) : ys=(List.range n).map c:=by
 apply List.ext_getElem?
 intro j
 by_cases hj : j<n
 ·
  rw [h2 j hj];simp [hj]
 rw [List.getElem?_eq_none (by omega),List.getElem?_eq_none (by simp;omega)]
theorem fill_next {α : Type} (ys : List α) (i : Nat) (c : Nat→α) (h1 : i<ys.length) (h2 : ∀ j,j<i→ys[j]? = some (c j)) : ∀ j,j<i + 1→(ys.set i (c i))[j]? = some (c j):=by
 intro j hj
 by_cases h : j=i
 ·
  subst h;simp [h1]
 rw [List.getElem?_set_ne (by omega)];exact h2 j (by omega)
end Go.Proofs.Ytnppmokkdhgkgaa.Pure
end
section
namespace Go.Proofs.Ytnppmokkdhgkgaa.Q
open Go.RowKit Go.Proofs.YtnppmokkdhgkgaaW.PrintWords Go.Proofs.YtnppmokkdhgkgaaW.PrintLast Go.Proofs.YtnppmokkdhgkgaaW.PrintMore
attribute [local go_sem] max2_int min2_int max_two min_two max_three min_three max_four min_four max2_str min2_str str_geq str_gtr str_leq
set_option linter.unusedVariables false
set_option linter.unusedSimpArgs false

def Fe.l0 : Nat→List ByteArray→Int→Int→Option (Int)
 | 0,_,_,_ => none
 | k + 1,x0,x1,x5 => if x5<(x0.length : Int) then (if 0≤x5 then (if (wrap64 (x1 - ((rdOf ByteArray.empty x0 x5).size : Int)))<0 then (some (-1)) else (Fe.l0 k x0 (wrap64 (x1 - ((rdOf ByteArray.empty x0 x5).size : Int))) (wrap64 (x5 + 1)))) else (none)) else (some x1)
def Fe.f (k : Nat) (l0 : List ByteArray) (a1 : Int) : Option (Int):=if (wrap64 (a1 - (l0.length : Int)))<0 then (some (-1)) else (Fe.l0 k l0 (wrap64 (a1 - (l0.length : Int))) 0)
theorem Fe.mono_l : ∀ k,(∀ y0 y1 y2,LeO (Fe.l0 k y0 y1 y2) (Fe.l0 (k + 1) y0 y1 y2))
 | 0 => fun _ _ _ r h => by simp [Fe.l0] at h
 | k + 1 => by
  have ih0:=Fe.mono_l k;intro y0 y1 y2;unfold Fe.l0
  repeat' first|(with_reducible first|exact ih0 _ _ _|exact zQ _|exact zN _|refine zP ?_ ?_|refine zO ?_ (fun _ => ?_))|refine zP ?_ ?_|refine zO ?_ (fun _ => ?_)
theorem Fe.mono : ∀ a0 a1 k,LeO (Fe.f k a0 a1) (Fe.f (k + 1) a0 a1):=by
 intro a0 a1 k;have ih0:=Fe.mono_l k;unfold Fe.f
 repeat' first|(with_reducible first|exact ih0 _ _ _|exact zQ _|exact zN _|refine zP ?_ ?_|refine zO ?_ (fun _ => ?_))|refine zP ?_ ?_|refine zO ?_ (fun _ => ?_)
set_option maxHeartbeats 8000000 in
set_option maxRecDepth 100000 in
theorem Fe.calls (k : Nat) (A0 : Option Addr) (c0 : Nat) (l0 : List ByteArray) (a1 : Int) (r : Int) (w : World) (hr0 : Kd.C Kd.string w A0 l0.length l0) (hc0 : l0.length≤c0) (h : Fe.f k l0 a1=some r) :
  Calls Try.prog 16 #[.slice A0 l0.length c0,.int .i64 a1] w fun e w' => e = .returned (.int .i64 r)∧Drawn0 w w':=by
 have HR0:=zh hr0;have HC0:=zh hc0;clear hr0 hc0;have H : (if (wrap64 (a1 - (l0.length : Int)))<0 then (some (-1)) else (Fe.l0 k l0 (wrap64 (a1 - (l0.length : Int))) 0))=some r:=h;clear h
 by_cases c3 : (wrap64 (a1 - (l0.length : Int)))<0
 ·
  rw [if_pos c3] at H
  have c3b0 : decide ((wrap64 (a1 - (l0.length : Int)))<0)=true:=decide_eq_true c3;clear c3;obtain rfl:=zU H
  go_enter Try.func16,Try.ntmps16
  go_wp2
  go_ret
  exact ⟨by first|rfl|(simp;done)|(simp [*];done),by repeat (first|exact yp _|apply yq)⟩
 rw [if_neg c3] at H;have c3b0 : decide ((wrap64 (a1 - (l0.length : Int)))<0)=false:=decide_eq_false c3;clear c3;have H':=zh H;clear H
 go_enter Try.func16,Try.ntmps16
 go_wp2
 go_loopg [1,5] k (fun kq v1 v5 w' => ∃ (x1_1 : Int) (x5_1 : Int),v1 = .int .i64 x1_1∧v5 = .int .i64 x5_1∧Aside0 (Fe.l0 kq l0 x1_1 x5_1=some r)∧Aside0 (kq≤k)∧Drawn0 w w')
 case atStart => exact ⟨(wrap64 (a1 - (l0.length : Int))),(0),(by first|rfl|(simp;done)|(simp [*];done)),(by first|rfl|(simp;done)|(simp [*];done)),H',⟨ye _⟩,by repeat (first|exact yp _|apply yq)⟩
 case round =>
  clear H'
  try clear c1
  try clear p2
  try clear c3
  try clear c3b0
  obtain ⟨x1_1,x5_1,rfl,rfl,HA,HK1,⟨m1,rfl⟩⟩:=hrel
  cases gk with
  | zero => exact absurd HA.out (by simp [Fe.l0])
  | succ k1 =>
   have H:=HA.out;clear HA;simp only [Fe.l0] at H
   by_cases c4 : x5_1<(l0.length : Int)
   ·
    rw [if_pos c4] at H
    have c4b0 : decide (x5_1<(l0.length : Int))=true:=decide_eq_true c4;clear c4
    by_cases c5 : 0≤x5_1
    ·
     rw [if_pos c5] at H
     have c5b0 : decide (0≤x5_1)=true:=decide_eq_true c5;clear c5
     by_cases c6 : (wrap64 (x1_1 - ((rdOf ByteArray.empty l0 x5_1).size : Int)))<0
     ·
      rw [if_pos c6] at H
      have c6b0 : decide ((wrap64 (x1_1 - ((rdOf ByteArray.empty l0 x5_1).size : Int)))<0)=true:=decide_eq_true c6;clear c6;obtain rfl:=zU H;have p171 : 0≤(x5_1 : Int):=zy (by first|(with_reducible assumption)|assumption);have q171 : x5_1<(l0.length : Int):=zy (by first|(with_reducible assumption)|assumption);obtain ⟨ad171,e171,hx171_0⟩:=Kd.at_string HR0.out x5_1 p171 q171
      cases e171
      replace p171:=eq_true p171;replace q171:=eq_true q171
      go_wp2
      go_ret
      exact ⟨by first|rfl|(simp;done)|(simp [*];done),by repeat (first|exact yp _|apply yq)⟩
     rw [if_neg c6] at H;have c6b0 : decide ((wrap64 (x1_1 - ((rdOf ByteArray.empty l0 x5_1).size : Int)))<0)=false:=decide_eq_false c6;clear c6;have H':=zh H;clear H;have p171 : 0≤(x5_1 : Int):=zy (by first|(with_reducible assumption)|assumption);have q171 : x5_1<(l0.length : Int):=zy (by first|(with_reducible assumption)|assumption);obtain ⟨ad171,e171,hx171_0⟩:=Kd.at_string HR0.out x5_1 p171 q171
     cases e171
     replace p171:=eq_true p171;replace q171:=eq_true q171
     go_wp2
     go_roundg k1
     case measure => have:=HK1.out;omega
     case rel => exact ⟨(wrap64 (x1_1 - ((rdOf ByteArray.empty l0 x5_1).size : Int))),(wrap64 (x5_1 + 1)),(by first|rfl|(simp;done)|(simp [*];done)),(by first|rfl|(simp;done)|(simp [*];done)),H',⟨by have:=HK1.out;omega⟩,by repeat (first|exact yp _|apply yq)⟩
    rw [if_neg c5] at H;exact absurd H (by simp)
   rw [if_neg c4] at H;have c4b0 : decide (x5_1<(l0.length : Int))=false:=decide_eq_false c4;clear c4;obtain rfl:=zU H
   go_wp2
   go_ret
   exact ⟨by first|rfl|(simp;done)|(simp [*];done),by repeat (first|exact yp _|apply yq)⟩


def F9.l0 : Nat→List ByteArray→List ByteArray→Int→Option (List ByteArray)
 | 0,_,_,_ => none
 | k + 1,x0,x3,x4 => if x4<(x0.length : Int) then (if 0≤x4 then (if x4<(x3.length : Int) then (F9.l0 k x0 (x3.set (x4 : Int).toNat (rdOf ByteArray.empty x0 x4)) (wrap64 (x4 + 1))) else (none)) else (none)) else (some x3)
def F9.f (k : Nat) (l0 : List ByteArray) : Option (List ByteArray):=if 0≤(l0.length : Int) then (if ((l0.length : Int) : Int).toNat≤17592186044416 then (F9.l0 k l0 (List.replicate ((l0.length : Int) : Int).toNat (⟨#[]⟩ : ByteArray)) 0) else (none)) else (none)
theorem F9.mono_l : ∀ k,(∀ y0 y1 y2,LeO (F9.l0 k y0 y1 y2) (F9.l0 (k + 1) y0 y1 y2))
 | 0 => fun _ _ _ r h => by simp [F9.l0] at h
 | k + 1 => by
  have ih0:=F9.mono_l k;intro y0 y1 y2;unfold F9.l0
  repeat' first|(with_reducible first|exact ih0 _ _ _|exact zQ _|exact zN _|refine zP ?_ ?_|refine zO ?_ (fun _ => ?_))|refine zP ?_ ?_|refine zO ?_ (fun _ => ?_)
theorem F9.mono : ∀ a0 k,LeO (F9.f k a0) (F9.f (k + 1) a0):=by
 intro a0 k;have ih0:=F9.mono_l k;unfold F9.f
 repeat' first|(with_reducible first|exact ih0 _ _ _|exact zQ _|exact zN _|refine zP ?_ ?_|refine zO ?_ (fun _ => ?_))|refine zP ?_ ?_|refine zO ?_ (fun _ => ?_)
set_option maxHeartbeats 8000000 in
set_option maxRecDepth 100000 in
theorem F9.calls (k : Nat) (A0 : Option Addr) (c0 : Nat) (l0 : List ByteArray) (r : List ByteArray) (w : World) (hr0 : Kd.C Kd.string w A0 l0.length l0) (hc0 : l0.length≤c0) (h : F9.f k l0=some r) :
  Calls Try.prog 18 #[.slice A0 l0.length c0] w fun e w' => ∃ v0_ : Value,e = .returned (v0_)∧Kd.R Kd.string 9 w' w.heap.size (fun _ => True) v0_ r∧Below w.heap.size w w':=by
 have HR0:=zh hr0;have HC0:=zh hc0;clear hr0 hc0;have HB:=zh (Below.refl w.heap.size w);have H : (if 0≤(l0.length : Int) then (if ((l0.length : Int) : Int).toNat≤17592186044416 then (F9.l0 k l0 (List.replicate ((l0.length : Int) : Int).toNat (⟨#[]⟩ : ByteArray)) 0) else (none)) else (none))=some r:=h;clear h
 by_cases c2 : 0≤(l0.length : Int)
 ·
  rw [if_pos c2] at H
  have c2b0:=eq_true c2;have c2b1 : decide (0≤(l0.length : Int))=true:=decide_eq_true c2;clear c2
  by_cases c3 : ((l0.length : Int) : Int).toNat≤17592186044416
  ·
   rw [if_pos c3] at H
   have c3b0:=eq_true c3;have c3b1 : decide (((l0.length : Int) : Int).toNat≤17592186044416)=true:=decide_eq_true c3;clear c3;obtain ⟨y222,hy222⟩ : ∃ y_ : List ByteArray,y_=(List.replicate ((l0.length : Int) : Int).toNat (⟨#[]⟩ : ByteArray)):=⟨_,rfl⟩;replace H : (F9.l0 k l0 y222 0)=some r:=by first|(rw [hy222];with_reducible exact H)|(have H2_:=(Option.bind_some _ _).symm.trans H;rw [hy222];with_reducible exact H2_)|(have H2_:=(Option.bind_some _ _).symm.trans H;with_reducible exact H2_)|with_reducible exact H|(rw [hy222];exact H)|exact H
   have Ny222:=zh hy222;clear hy222;have H':=zh H;clear H
   go_enter Try.func18,Try.ntmps18
   go_wp2_with (first|((with_reducible refine zK (N:=7) rfl ?_);refine Kd.R_make Kd.string _ 9 rfl (N:=7) rfl 37 _ _ rfl (l0.length : Int) rfl rfl Try.underlying37 (.string ⟨#[]⟩) 16 info9 rfl (by decide) (by omega) (⟨#[]⟩ : ByteArray) (ok:=fun _ => True) (okp:=fun _ => True) rfl (fun _ hk => hk) trivial (zy (by first|(with_reducible assumption)|assumption)) (Nat.le_trans (Nat.mul_le_mul_right _ (zy (by first|(with_reducible assumption)|assumption) : (l0.length : Int).toNat≤17592186044416)) (by omega)) (Below.refl _ _) (ye _) ?_;intro v223 w4 ho5 hb hg_ hnew_;clear hg_ hnew_;(first|rw [← Ny222.out] at ho5|(simp only [Int.reduceToNat] at ho5;rw [← Ny222.out] at ho5));have HO224:=zh (yx ho5 (zB (by repeat (with_reducible first|exact HB.out|apply za|apply zb|apply zc))));replace HB:=zh (zC (by repeat (with_reducible first|exact HB.out|apply za|apply zb|apply zc)) hb);clear hb ho5))
   go_loopg [4] k (fun kq v4 w' => ∃ (x3_1 : List ByteArray) (x4_1 : Int),v4 = .int .i64 x4_1∧Aside0 (F9.l0 kq l0 x3_1 x4_1=some r)∧Aside0 (kq≤k)∧Aside0 (Kd.R Kd.string 9 w' w.heap.size (fun _ => True) v223 x3_1)∧Aside0 (Below w.heap.size w w'))
   case atStart => exact ⟨(y222),(0),(by first|rfl|(simp;done)|(simp [*];done)),H',⟨ye _⟩,⟨by (with_reducible repeat (first|apply zm|apply zn|apply zo));exact HO224.out⟩,⟨by repeat (with_reducible first|exact HB.out|apply za|apply zb|apply zc)⟩⟩
   case round =>
    clear H'
    try clear c1
    try clear c2
    try clear c2b0
    try clear c2b1
    try clear p2
    try clear c3
    try clear c3b0
    try clear c3b1
    obtain ⟨x3_1,x4_1,rfl,HA,HK1,HO_3,HB⟩:=hrel
    cases gk with
    | zero => exact absurd HA.out (by simp [F9.l0])
    | succ k1 =>
     have H:=HA.out;clear HA;simp only [F9.l0] at H
     by_cases c6 : x4_1<(l0.length : Int)
     ·
      rw [if_pos c6] at H
      have c6b0 : decide (x4_1<(l0.length : Int))=true:=decide_eq_true c6;clear c6
      by_cases c7 : 0≤x4_1
      ·
       rw [if_pos c7] at H
       have c7b0 : decide (0≤x4_1)=true:=decide_eq_true c7;clear c7
       by_cases c8 : x4_1<(x3_1.length : Int)
       ·
        rw [if_pos c8] at H
        have c8b0 : decide (x4_1<(x3_1.length : Int))=true:=decide_eq_true c8;clear c8;obtain ⟨y226,hy226⟩ : ∃ y_ : List ByteArray,y_=(x3_1.set (x4_1 : Int).toNat (rdOf ByteArray.empty l0 x4_1)):=⟨_,rfl⟩;replace H : (F9.l0 k1 l0 y226 (wrap64 (x4_1 + 1)))=some r:=by first|(rw [hy226];with_reducible exact H)|(have H2_:=(Option.bind_some _ _).symm.trans H;rw [hy226];with_reducible exact H2_)|(have H2_:=(Option.bind_some _ _).symm.trans H;with_reducible exact H2_)|with_reducible exact H|(rw [hy226];exact H)|exact H
        have Ny226:=zh hy226;clear hy226;have H':=zh H;clear H;have p225 : 0≤(x4_1 : Int):=zy (by first|(with_reducible assumption)|assumption);have q225 : x4_1<(l0.length : Int):=zy (by first|(with_reducible assumption)|assumption);obtain ⟨ad225,e225,hx225_0⟩:=Kd.at_string HR0.out x4_1 p225 q225
        cases e225
        replace hx225_0:=(HB.out.cell (zl w _ hx225_0)).trans hx225_0;replace p225:=eq_true p225;replace q225:=eq_true q225;have p9 : 0≤(x4_1 : Int):=zy (by first|(with_reducible assumption)|assumption);have q9 : (x4_1 : Int)<((x3_1.length : Int) : Int):=zy (by first|(with_reducible assumption)|assumption);obtain ⟨go9,co9,eo9,gb9,gl9,cl9,HG9⟩:=Kd.R_form HO_3.out (by omega);(first|cases eo9|(injection eo9 with ea_ en_ ec_;(first|subst ea_|(injection ea_ with ea_;subst ea_));subst ec_;clear en_));have GB9:=zh gb9;have GG9:=zh HG9;clear gb9 gl9 HG9;obtain ⟨hx9_0,hf9_0⟩:=Kd.R_celln (⟨#[]⟩ : ByteArray) HO_3.out (x4_1 : Int) p9 q9;replace p9:=eq_true p9;replace q9:=eq_true q9;have HP10:=Kd.R_putg HO_3.out (x4_1 : Int) (rdOf ByteArray.empty l0 x4_1)
        go_wp2_with (first|((with_reducible refine gate_store (t:=9) (p:=20) rfl ?_);refine store_event (t:=9) (p:=20) (v:=?vo_w11) (w1:=(wr.setCell ⟨go9,(x4_1 : Int).toNat,none⟩ (.string (rdOf ByteArray.empty l0 x4_1)))) ?hg ?ho ?hn ?hr ?_;(case ho => rfl);(case hg => rfl);(case hn => rfl);(case hr => first|(go_simp;done)|(go_simp;rfl));intro w11 hw;have hg : wr.grownBy w11 (some go9):=(by rw [hw];exact HP10.2);have hp_ : Kd.R Kd.string 9 w11 w.heap.size (fun _ => True) (.slice (some ⟨go9,0,none⟩) x3_1.length co9) y226:=(by rw [hw,Ny226.out];exact HP10.1);clear HP10;replace HO_3:=zh (hp_);replace HB:=zh ((by rw [hw];exact zd (HB.out) GB9.out : Below w.heap.size w w11));clear hg hw hp_))
        go_roundg k1
        case measure => have:=HK1.out;omega
        case rel => exact ⟨(y226),(wrap64 (x4_1 + 1)),(by first|rfl|(simp;done)|(simp [*];done)),H',⟨by have:=HK1.out;omega⟩,⟨by (with_reducible repeat (first|apply zm|apply zn|apply zo));exact HO_3.out⟩,⟨by repeat (with_reducible first|exact HB.out|apply za|apply zb|apply zc)⟩⟩
       rw [if_neg c8] at H;exact absurd H (by simp)
      rw [if_neg c7] at H;exact absurd H (by simp)
     rw [if_neg c6] at H;have c6b0 : decide (x4_1<(l0.length : Int))=false:=decide_eq_false c6;clear c6;obtain rfl:=zU H
     go_wp2
     go_ret
     exact ⟨_,by first|rfl|(simp [yt,yu] <;> rfl)|(simp [*,yt,yu] <;> rfl),by (with_reducible repeat (first|apply zm|apply zn|apply zo));exact HO_3.out,by repeat (with_reducible first|exact HB.out|apply za|apply zb|apply zc)⟩
  rw [if_neg c3] at H;exact absurd H (by simp)
 rw [if_neg c2] at H;exact absurd H (by simp)


def Fm.l0 : Nat→List ByteArray→List ByteArray→Int→Option (Bool)
 | 0,_,_,_ => none
 | k + 1,x0,x1,x5 => if x5<(x0.length : Int) then (if 0≤x5 then (if x5<(x1.length : Int) then (if (rdOf ByteArray.empty x0 x5).toList=(rdOf ByteArray.empty x1 x5).toList then (Fm.l0 k x0 x1 (wrap64 (x5 + 1))) else (some false)) else (none)) else (none)) else (some true)
def Fm.f (k : Nat) (l0 : List ByteArray) (l1 : List ByteArray) : Option (Bool):=if (l0.length : Int)=(l1.length : Int) then (Fm.l0 k l0 l1 0) else (some false)
theorem Fm.mono_l : ∀ k,(∀ y0 y1 y2,LeO (Fm.l0 k y0 y1 y2) (Fm.l0 (k + 1) y0 y1 y2))
 | 0 => fun _ _ _ r h => by simp [Fm.l0] at h
 | k + 1 => by
  have ih0:=Fm.mono_l k;intro y0 y1 y2;unfold Fm.l0
  repeat' first|(with_reducible first|exact ih0 _ _ _|exact zQ _|exact zN _|refine zP ?_ ?_|refine zO ?_ (fun _ => ?_))|refine zP ?_ ?_|refine zO ?_ (fun _ => ?_)
theorem Fm.mono : ∀ a0 a1 k,LeO (Fm.f k a0 a1) (Fm.f (k + 1) a0 a1):=by
 intro a0 a1 k;have ih0:=Fm.mono_l k;unfold Fm.f
 repeat' first|(with_reducible first|exact ih0 _ _ _|exact zQ _|exact zN _|refine zP ?_ ?_|refine zO ?_ (fun _ => ?_))|refine zP ?_ ?_|refine zO ?_ (fun _ => ?_)
set_option maxHeartbeats 8000000 in
set_option maxRecDepth 100000 in
theorem Fm.calls (k : Nat) (A0 : Option Addr) (c0 : Nat) (l0 : List ByteArray) (A1 : Option Addr) (c1 : Nat) (l1 : List ByteArray) (r : Bool) (w : World) (hr0 : Kd.C Kd.string w A0 l0.length l0) (hc0 : l0.length≤c0) (hr1 : Kd.C Kd.string w A1 l1.length l1) (hc1 : l1.length≤c1) (h : Fm.f k l0 l1=some r) :
  Calls Try.prog 21 #[.slice A0 l0.length c0,.slice A1 l1.length c1] w fun e w' => e = .returned (.bool r)∧Drawn0 w w':=by
 have HR0:=zh hr0;have HC0:=zh hc0;clear hr0 hc0;have HR1:=zh hr1;have HC1:=zh hc1;clear hr1 hc1;have H : (if (l0.length : Int)=(l1.length : Int) then (Fm.l0 k l0 l1 0) else (some false))=some r:=h;clear h
 by_cases c3 : (l0.length : Int)=(l1.length : Int)
 ·
  rw [if_pos c3] at H
  have c3b0 : ((l0.length : Int) == (l1.length : Int))=true:=ya.mpr c3;have c3b1 : ((l0.length : Int) != (l1.length : Int))=false:=zX.mpr c3;have c3b2 : (l0.length == l1.length)=true:=by first|simpa using c3|(simp at c3 ⊢;omega)
  clear c3;have H':=zh H;clear H
  go_enter Try.func21,Try.ntmps21
  go_wp2
  repeat (go_quiet (fail);try go_wp2)
  go_loopg [5] k (fun kq v5 w' => ∃ (x5_1 : Int),v5 = .int .i64 x5_1∧Aside0 (Fm.l0 kq l0 l1 x5_1=some r)∧Aside0 (kq≤k)∧Drawn0 w w')
  case atStart => exact ⟨(0),(by first|rfl|(simp;done)|(simp [*];done)),H',⟨ye _⟩,by repeat (first|exact yp _|apply yq)⟩
  case round =>
   clear H'
   try clear c1
   try clear c2
   try clear p2
   try clear c3
   try clear c3b0
   try clear c3b1
   try clear c3b2
   obtain ⟨x5_1,rfl,HA,HK1,⟨m1,rfl⟩⟩:=hrel
   cases gk with
   | zero => exact absurd HA.out (by simp [Fm.l0])
   | succ k1 =>
    have H:=HA.out;clear HA;simp only [Fm.l0] at H
    by_cases c4 : x5_1<(l0.length : Int)
    ·
     rw [if_pos c4] at H
     have c4b0 : decide (x5_1<(l0.length : Int))=true:=decide_eq_true c4;clear c4
     by_cases c5 : 0≤x5_1
     ·
      rw [if_pos c5] at H
      have c5b0 : decide (0≤x5_1)=true:=decide_eq_true c5;clear c5
      by_cases c6 : x5_1<(l1.length : Int)
      ·
       rw [if_pos c6] at H
       have c6b0 : decide (x5_1<(l1.length : Int))=true:=decide_eq_true c6;clear c6
       by_cases c7 : (rdOf ByteArray.empty l0 x5_1).toList=(rdOf ByteArray.empty l1 x5_1).toList
       ·
        rw [if_pos c7] at H
        have c7b0 : ((rdOf ByteArray.empty l0 x5_1).toList == (rdOf ByteArray.empty l1 x5_1).toList)=true:=ya.mpr c7;have c7b1 : ((rdOf ByteArray.empty l0 x5_1).toList != (rdOf ByteArray.empty l1 x5_1).toList)=false:=zX.mpr c7;clear c7;have H':=zh H;clear H;have p316 : 0≤(x5_1 : Int):=zy (by first|(with_reducible assumption)|assumption);have q316 : x5_1<(l0.length : Int):=zy (by first|(with_reducible assumption)|assumption);obtain ⟨ad316,e316,hx316_0⟩:=Kd.at_string HR0.out x5_1 p316 q316
        cases e316
        replace p316:=eq_true p316;replace q316:=eq_true q316;have p317 : 0≤(x5_1 : Int):=zy (by first|(with_reducible assumption)|assumption);have q317 : x5_1<(l1.length : Int):=zy (by first|(with_reducible assumption)|assumption);obtain ⟨ad317,e317,hx317_0⟩:=Kd.at_string HR1.out x5_1 p317 q317
        cases e317
        replace p317:=eq_true p317;replace q317:=eq_true q317
        go_wp2
        repeat (go_quiet (fail);try go_wp2)
        go_roundg k1
        case measure => have:=HK1.out;omega
        case rel => exact ⟨(wrap64 (x5_1 + 1)),(by first|rfl|(simp;done)|(simp [*];done)),H',⟨by have:=HK1.out;omega⟩,by repeat (first|exact yp _|apply yq)⟩
       rw [if_neg c7] at H;have c7b0 : ((rdOf ByteArray.empty l0 x5_1).toList == (rdOf ByteArray.empty l1 x5_1).toList)=false:=zY.mpr c7;have c7b1 : ((rdOf ByteArray.empty l0 x5_1).toList != (rdOf ByteArray.empty l1 x5_1).toList)=true:=zZ.mpr c7;obtain rfl:=zU H;have p316 : 0≤(x5_1 : Int):=zy (by first|(with_reducible assumption)|assumption);have q316 : x5_1<(l0.length : Int):=zy (by first|(with_reducible assumption)|assumption);obtain ⟨ad316,e316,hx316_0⟩:=Kd.at_string HR0.out x5_1 p316 q316
       cases e316
       replace p316:=eq_true p316;replace q316:=eq_true q316;have p317 : 0≤(x5_1 : Int):=zy (by first|(with_reducible assumption)|assumption);have q317 : x5_1<(l1.length : Int):=zy (by first|(with_reducible assumption)|assumption);obtain ⟨ad317,e317,hx317_0⟩:=Kd.at_string HR1.out x5_1 p317 q317
       cases e317
       replace p317:=eq_true p317;replace q317:=eq_true q317
       go_wp2
       repeat (go_quiet (fail);try go_wp2)
       go_ret
       exact ⟨by first|rfl|(simp;done)|(simp [*];done),by repeat (first|exact yp _|apply yq)⟩
      rw [if_neg c6] at H;exact absurd H (by simp)
     rw [if_neg c5] at H;exact absurd H (by simp)
    rw [if_neg c4] at H;have c4b0 : decide (x5_1<(l0.length : Int))=false:=decide_eq_false c4;clear c4;obtain rfl:=zU H
    go_wp2
    repeat (go_quiet (fail);try go_wp2)
    go_ret
    exact ⟨by first|rfl|(simp;done)|(simp [*];done),by repeat (first|exact yp _|apply yq)⟩
 rw [if_neg c3] at H;have c3b0 : ((l0.length : Int) == (l1.length : Int))=false:=zY.mpr c3;have c3b1 : ((l0.length : Int) != (l1.length : Int))=true:=zZ.mpr c3;have c3b2 : (l0.length == l1.length)=false:=by first|simpa using c3|(simp at c3 ⊢;omega)
 obtain rfl:=zU H
 go_enter Try.func21,Try.ntmps21
 go_wp2
 repeat (go_quiet (fail);try go_wp2)
 go_ret
 exact ⟨by first|rfl|(simp;done)|(simp [*];done),by repeat (first|exact yp _|apply yq)⟩

end Go.Proofs.Ytnppmokkdhgkgaa.Q
end
section
namespace Go.Proofs.Ytnppmokkdhgkgaa.Pure
open Go.RowKit Go.Proofs.Ytnppmokkdhgkgaa.Q Go.Proofs.YtnppmokkdhgkgaaW.PrintWords Go.Proofs.YtnppmokkdhgkgaaW.PrintLast Go.Proofs.YtnppmokkdhgkgaaW.Pl
theorem szStringS_tells (l : List ByteArray) (hl : l.length≤9223372036854775807) (hs : ∀ x ∈ l,x.size≤9223372036854775807) {left : Int} (h0 : 0≤left) (h1 : left≤1048576) {k : Nat} (hk : l.length<k) :
  Fe.f k l left=some (if left - l.length<0 then -1 else less ByteArray.size l (left - l.length)):=by
 unfold Fe.f;rw [w64 (by omega) (by omega)]
 by_cases h : left - l.length<0
 ·
  rw [if_pos h,if_pos h]
 rw [if_neg h,if_neg h]
 have:=less_loop (fun k l' i => Fe.l0 k l l' i) l ByteArray.size (fun k i l' hi a b => by
  have hsz:=hs l[i] (List.getElem_mem hi);simp only [Fe.l0];rw [if_pos (by omega),if_pos (by omega),rdOf_at _ _ _ hi,w64 (by omega) (by omega),w64 (i:=(i : Int) + 1) (by omega) (by omega)]
  by_cases h2 : l' - (l[i].size : Int)<0
  ·
   rw [if_pos h2,if_pos h2]
  rw [if_neg h2,if_neg h2];rfl) (fun k l' => by simp only [Fe.l0];rw [if_neg (by omega)]) l.length k 0 (left - l.length) (by omega) hk (by omega) (by omega)
 simpa using this
theorem toStringS_tells (l : List ByteArray) (hl : l.length≤1048576) {k : Nat} (hk : l.length<k) : F9.f k l=some l:=by
 unfold F9.f;rw [if_pos (by omega),if_pos (by omega)]
 have:=map_loop0 (fun k ys i => F9.l0 k l ys i) l id (fun k ys i hi hy => by
  simp only [F9.l0];rw [if_pos (by omega),if_pos (by omega),if_pos (by omega),rdOf_at _ _ _ hi,w64 (by omega) (by omega)]
  rfl) (fun k ys hy => by simp only [F9.l0];rw [if_neg (by omega)]) hk (⟨#[]⟩ : ByteArray)
 simpa using this
theorem eqStringS_self (l : List ByteArray) (hl : l.length≤1048576) {k : Nat} (hk : l.length<k) : Fm.f k l l=some true:=by
 unfold Fm.f;rw [if_pos rfl]
 have:=all2_loop (fun k i => Fm.l0 k l l i) l l rfl (fun a b => decide (a=b)) (fun k i hi => by
  simp only [Fm.l0];rw [if_pos (by omega),if_pos (by omega),if_pos (by omega),if_pos trivial,w64 (by omega) (by omega),if_pos (by simp)]
  rfl) (fun k => by simp only [Fm.l0];rw [if_neg (by omega)]) l.length k 0 (by omega) hk
 rw [show ((0 : Nat) : Int)=0 from rfl,List.drop_zero,all2_refl _ (by simp)] at this;exact this
end Go.Proofs.Ytnppmokkdhgkgaa.Pure
end
section
namespace Go.Proofs.Ytnppmokkdhgkgaa.Q
open Go.RowKit Go.Proofs.YtnppmokkdhgkgaaW.PrintWords Go.Proofs.YtnppmokkdhgkgaaW.PrintLast Go.Proofs.YtnppmokkdhgkgaaW.PrintMore
attribute [local go_sem] max2_int min2_int max_two min_two max_three min_three max_four min_four max2_str min2_str str_geq str_gtr str_leq
set_option linter.unusedVariables false
set_option linter.unusedSimpArgs false

def Fw.f (a0 : Int) (a1 : Int) (a2 : Int) : Option (Bool):=if a1≤a0 then (some (decide (a0≤a2))) else (some false)
set_option maxHeartbeats 8000000 in
set_option maxRecDepth 100000 in
theorem Fw.calls (a0 : Int) (a1 : Int) (a2 : Int) (r : Bool) (w : World) (h : Fw.f a0 a1 a2=some r) :
  Calls Try.prog 29 #[.int .i64 a0,.int .i64 a1,.int .i64 a2] w fun e w' => e = .returned (.bool r)∧Drawn0 w w':=by
 have H : (if a1≤a0 then (some (decide (a0≤a2))) else (some false))=some r:=h;clear h
 by_cases c4 : a1≤a0
 ·
  rw [if_pos c4] at H
  have c4b0 : decide (a1≤a0)=true:=decide_eq_true c4;clear c4;obtain rfl:=zU H
  go_enter Try.func29,Try.ntmps29
  go_wp2
  go_ret
  exact ⟨by first|rfl|(simp;done)|(simp [*];done),by repeat (first|exact yp _|apply yq)⟩
 rw [if_neg c4] at H;have c4b0 : decide (a1≤a0)=false:=decide_eq_false c4;clear c4;obtain rfl:=zU H
 go_enter Try.func29,Try.ntmps29
 go_wp2
 go_ret
 exact ⟨by first|rfl|(simp;done)|(simp [*];done),by repeat (first|exact yp _|apply yq)⟩


def F02.f (a0 : ByteArray) : Option (ByteArray×(List (S100))×(List (S104))):=some (a0,(([] : List (S100))),(([] : List (S104))))
set_option maxHeartbeats 8000000 in
set_option maxRecDepth 100000 in
theorem F02.calls (a0 : ByteArray) (r1 : ByteArray) (r2 : List (S100)) (r3 : List (S104)) (w : World) (h : F02.f a0=some (r1,r2,r3)) :
  Calls Try.prog 48 #[.string a0] w fun e w' => ∃ v1_ v2_ : Value,e = .returned (.agg #[.string r1,v1_,v2_])∧Kd.S k100 100 w' w.heap.size (fun _ => True) v1_ r2∧Kd.S k104 104 w' w.heap.size (fun _ => True) v2_ r3∧Below w.heap.size w w':=by
 have hu62:=Try.underlying62;have HB:=zh (Below.refl w.heap.size w);have H : (some (a0,(([] : List (S100))),(([] : List (S104)))))=some (r1,r2,r3):=h;clear h;obtain ⟨y178,hy178⟩ : ∃ y_ : List (S100),y_=(([] : List (S100))):=⟨_,rfl⟩;replace H : (some (a0,y178,(([] : List (S104)))))=some (r1,r2,r3):=by first|(rw [hy178];with_reducible exact H)|(have H2_:=(Option.bind_some _ _).symm.trans H;rw [hy178];with_reducible exact H2_)|(have H2_:=(Option.bind_some _ _).symm.trans H;with_reducible exact H2_)|with_reducible exact H|(rw [hy178];exact H)|exact H
 have Ny178:=zh hy178;clear hy178;obtain ⟨y181,hy181⟩ : ∃ y_ : List (S104),y_=(([] : List (S104))):=⟨_,rfl⟩;replace H : (some (a0,y178,y181))=some (r1,r2,r3):=by first|(rw [hy181];with_reducible exact H)|(have H2_:=(Option.bind_some _ _).symm.trans H;rw [hy181];with_reducible exact H2_)|(have H2_:=(Option.bind_some _ _).symm.trans H;with_reducible exact H2_)|with_reducible exact H|(rw [hy181];exact H)|exact H
 have Ny181:=zh hy181;clear hy181;simp only [Option.some.injEq,Prod.mk.injEq] at H;obtain ⟨rfl,rfl,rfl⟩:=H
 go_enter Try.func48,Try.ntmps48
 go_wp2_with (first|((with_reducible refine zK (N:=2) rfl ?_);refine zI ?hg (N:=2) ?hd (cs:=#[.string (⟨#[]⟩ : ByteArray),.slice none 0 0,.slice none 0 0]) (t:=62) ?hr ?_;(case hd => rfl);(case hg => rfl);(case hr => first|(go_simp;done)|(go_simp;rfl));intro gb177 hg w2 hbox hb;have BK177:=zh (hbox);have GW177:=zh ((by rw [hg];exact (zB (by repeat (with_reducible first|exact HB.out|apply za|apply zb|apply zc))) : w.heap.size≤gb177));have GE177:=zh ((by rw [hg];exact (zB (by repeat (with_reducible first|exact HB.out|apply za|apply zb|apply zc))) : w.heap.size≤gb177));replace HB:=zh (zC (by repeat (with_reducible first|exact HB.out|apply za|apply zb|apply zc)) hb);clear hb hbox hg)|((with_reducible refine zK (N:=4) rfl ?_);refine Kd.S_lit k100 _ 100 ?hg (N:=4) ?hd (xs:=([] : List (S100))) (inner:=[]) (ok:=fun _ => True) (okp:=fun _ => True) ?hr ?hp (fun _ hk => hk) trivial (Below.refl _ _) (ye _) (by simp) ?_;(case hd => rfl);(case hg => rfl);(case hr => first|(go_simp;done)|(go_simp;rfl));(case hp => exact (Reps.none _ _));intro v179 w3 ho4 hb hg_ hnew_;clear hg_ hnew_;(first|rw [← Ny178.out] at ho4|(simp only [Int.reduceToNat] at ho4;rw [← Ny178.out] at ho4));have HO180:=zh (Kd.S_lower ho4 (zB (by repeat (with_reducible first|exact HB.out|apply za|apply zb|apply zc|refine zd ?_ GE177.out))));replace BK177:=zh (zD (g:=gb177) (o:=.cells #[.string (⟨#[]⟩ : ByteArray),.slice none 0 0,.slice none 0 0] 62 (0,0)) (by (with_reducible repeat (first|refine ze ?_ _|refine zf ?_|refine zg ?_ _));exact BK177.out) hb);replace HB:=zh (zC (by repeat (with_reducible first|exact HB.out|apply za|apply zb|apply zc|refine zd ?_ GE177.out)) hb);clear hb ho4)|((with_reducible refine zK (N:=5) rfl ?_);refine Kd.S_lit k104 _ 104 ?hg (N:=5) ?hd (xs:=([] : List (S104))) (inner:=[]) (ok:=fun _ => True) (okp:=fun _ => True) ?hr ?hp (fun _ hk => hk) trivial (Below.refl _ _) (ye _) (by simp) ?_;(case hd => rfl);(case hg => rfl);(case hr => first|(go_simp;done)|(go_simp;rfl));(case hp => exact (Reps.none _ _));intro v182 w5 ho6 hb hg_ hnew_;clear hg_ hnew_;(first|rw [← Ny181.out] at ho6|(simp only [Int.reduceToNat] at ho6;rw [← Ny181.out] at ho6));replace HO180:=zh (Kd.S_below (by (with_reducible repeat (first|apply Kd.S_alloc|apply Kd.S_drewN|apply Kd.S_drew));exact HO180.out) hb);have HO183:=zh (Kd.S_lower ho6 (zB (by repeat (with_reducible first|exact HB.out|apply za|apply zb|apply zc|refine zd ?_ GE177.out))));replace BK177:=zh (zD (g:=gb177) (o:=.cells #[.string (⟨#[]⟩ : ByteArray),.slice none 0 0,.slice none 0 0] 62 (0,0)) (by (with_reducible repeat (first|refine ze ?_ _|refine zf ?_|refine zg ?_ _));exact BK177.out) hb);replace HB:=zh (zC (by repeat (with_reducible first|exact HB.out|apply za|apply zb|apply zc|refine zd ?_ GE177.out)) hb);clear hb ho6;obtain ⟨Ao7,co7,eo7⟩:=Kd.S_slice HO183.out;subst eo7;obtain ⟨Ao8,co8,eo8⟩:=Kd.S_slice HO180.out;subst eo8;have hcz9_0 : w5.cell? ⟨gb177,0,none⟩=some (.string (⟨#[]⟩ : ByteArray)):=(zz BK177.out 0).trans rfl;have hcz9_1 : w5.cell? ⟨gb177,1,none⟩=some (.slice none 0 0):=(zz BK177.out 1).trans rfl;have hcz9_2 : w5.cell? ⟨gb177,2,none⟩=some (.slice none 0 0):=(zz BK177.out 2).trans rfl;have hfz9_0:=zA BK177.out 0;have hfz9_1:=zA BK177.out 1;have hfz9_2:=zA BK177.out 2))
 refine bodyPost_ret (results_cell_row rfl _ _ gb177 62 #[.string a0,.slice Ao8 y178.length co8,.slice Ao7 y181.length co7] (0,0) _ rfl (by (with_reducible repeat (first|refine ze ?_ _|refine zf ?_|refine zg ?_ _));refine zL (cs:=#[.string a0,.slice Ao8 y178.length co8,.slice none 0 0]) ?_ 2 _ rfl;(with_reducible repeat (first|refine ze ?_ _|refine zf ?_|refine zg ?_ _));refine zL (cs:=#[.string a0,.slice none 0 0,.slice none 0 0]) ?_ 1 _ rfl;(with_reducible repeat (first|refine ze ?_ _|refine zf ?_|refine zg ?_ _));refine zL (cs:=#[.string (⟨#[]⟩ : ByteArray),.slice none 0 0,.slice none 0 0]) ?_ 0 _ rfl;(with_reducible repeat (first|refine ze ?_ _|refine zf ?_|refine zg ?_ _));exact BK177.out) Try.underlying62 rfl (by kernel_rfl)) rfl ?_;exact ⟨_,_,by first|rfl|(simp [yt,yu] <;> rfl)|(simp [*,yt,yu] <;> rfl),by (with_reducible repeat (first|apply Kd.S_alloc|apply Kd.S_drewN|apply Kd.S_drew));exact Kd.S_mono (Kd.S_far (p:=⟨gb177,2,none⟩) (Kd.S_far (p:=⟨gb177,1,none⟩) (Kd.S_far (p:=⟨gb177,0,none⟩) (Kd.S_types HO180.out BK177.out (by decide)) (fun _ hk => hk.2) (.string a0)) (fun _ hk => hk.2) (.slice Ao8 y178.length co8)) (fun _ hk => hk.2) (.slice Ao7 y181.length co7)) (fun _ hk => trivial),by (with_reducible repeat (first|apply Kd.S_alloc|apply Kd.S_drewN|apply Kd.S_drew));exact Kd.S_mono (Kd.S_far (p:=⟨gb177,2,none⟩) (Kd.S_far (p:=⟨gb177,1,none⟩) (Kd.S_far (p:=⟨gb177,0,none⟩) (Kd.S_types HO183.out BK177.out (by decide)) (fun _ hk => hk.2) (.string a0)) (fun _ hk => hk.2) (.slice Ao8 y178.length co8)) (fun _ hk => hk.2) (.slice Ao7 y181.length co7)) (fun _ hk => trivial),by repeat (with_reducible first|exact HB.out|apply za|apply zb|apply zc|refine zd ?_ GE177.out)⟩


def F5.l0 : Nat→List ByteArray→Int→List (S62)→List (S78)→List (S82)→Int→Option ((List (S62))×(List (S78))×(List (S82))×Int)
 | 0,_,_,_,_,_,_ => none
 | k + 1,x0,x4,x195000,x195001,x195002,x195003 => if x4<(x0.length : Int) then (if 0≤x4 then ((F02.f (rdOf ByteArray.empty x0 x4)).bind fun bt196 => (if x195000.length<2199023255552 then (F5.l0 k x0 (wrap64 (x4 + 1)) (x195000 ++ [(⟨bt196.1,bt196.2.1,bt196.2.2⟩ : S62)]) x195001 x195002 x195003) else (none))) else (none)) else (some (x195000,x195001,x195002,x195003))
def F5.f (k : Nat) (l0 : List ByteArray) : Option ((List (S62))×(List (S78))×(List (S82))×Int):=F5.l0 k l0 0 (([] : List (S62))) (([] : List (S78))) (([] : List (S82))) 0
theorem F5.mono_l : ∀ k,(∀ y0 y1 y2 y3 y4 y5,LeO (F5.l0 k y0 y1 y2 y3 y4 y5) (F5.l0 (k + 1) y0 y1 y2 y3 y4 y5))
 | 0 => fun _ _ _ _ _ _ r h => by simp [F5.l0] at h
 | k + 1 => by
  have ih0:=F5.mono_l k;intro y0 y1 y2 y3 y4 y5;unfold F5.l0
  repeat' first|(with_reducible first|exact ih0 _ _ _ _ _ _|exact zQ _|exact zN _|refine zP ?_ ?_|refine zO ?_ (fun _ => ?_))|refine zP ?_ ?_|refine zO ?_ (fun _ => ?_)
theorem F5.mono : ∀ a0 k,LeO (F5.f k a0) (F5.f (k + 1) a0):=by
 intro a0 k;have ih0:=F5.mono_l k;unfold F5.f
 repeat' first|(with_reducible first|exact ih0 _ _ _ _ _ _|exact zQ _|exact zN _|refine zP ?_ ?_|refine zO ?_ (fun _ => ?_))|refine zP ?_ ?_|refine zO ?_ (fun _ => ?_)
def F5.T5 : Bool×List (List Nat×List Nat):=(true,[([],[]),([0],[0]),([],[]),([],[]),([2,3],[2,3]),([4],[4]),([5],[5]),([6],[6]),([1,7,6],[1,7]),([0,1,2,3,4,5,6,7,8],[]),([9,8,8,0,1,2,3,4,5,6,7,8],[8,9])])
def F5.B5 : List Nat:=[0,1,0,0,12,28,60,124,255,511,1023]
theorem F5.tab5 : rtab .any (opsOf Try.f31 5)=F5.T5:=by kernel_rfl
theorem F5.bits5 : waitsOk F5.T5.2 F5.B5=true:=by kernel_rfl
set_option maxHeartbeats 8000000 in
set_option maxRecDepth 100000 in
theorem F5.calls (k : Nat) (A0 : Option Addr) (c0 : Nat) (l0 : List ByteArray) (r1 : List (S62)) (r2 : List (S78)) (r3 : List (S82)) (r4 : Int) (w : World) (hr0 : Kd.C Kd.string w A0 l0.length l0) (hc0 : l0.length≤c0) (h : F5.f k l0=some (r1,r2,r3,r4)) :
  Calls Try.prog 31 #[.slice A0 l0.length c0] w fun e w' => ∃ v0_ v1_ v2_ : Value,e = .returned (.agg #[v0_,v1_,v2_,.int .i64 r4])∧Kd.R k62 62 w' w.heap.size (fun _ => True) v0_ r1∧Kd.R k78 78 w' w.heap.size (fun _ => True) v1_ r2∧Kd.R k82 82 w' w.heap.size (fun _ => True) v2_ r3∧Below w.heap.size w w':=by
 have hu43:=Try.underlying43;have HR0:=zh hr0;have HC0:=zh hc0;clear hr0 hc0;have HB:=zh (Below.refl w.heap.size w);have H : (F5.l0 k l0 0 (([] : List (S62))) (([] : List (S78))) (([] : List (S82))) 0)=some (r1,r2,r3,r4):=h;clear h;obtain ⟨y185,hy185⟩ : ∃ y_ : List (S62),y_=(([] : List (S62))):=⟨_,rfl⟩;replace H : (F5.l0 k l0 0 y185 (([] : List (S78))) (([] : List (S82))) 0)=some (r1,r2,r3,r4):=by first|(rw [hy185];with_reducible exact H)|(have H2_:=(Option.bind_some _ _).symm.trans H;rw [hy185];with_reducible exact H2_)|(have H2_:=(Option.bind_some _ _).symm.trans H;with_reducible exact H2_)|with_reducible exact H|(rw [hy185];exact H)|exact H
 have Ny185:=zh hy185;clear hy185;obtain ⟨y188,hy188⟩ : ∃ y_ : List (S78),y_=(([] : List (S78))):=⟨_,rfl⟩;replace H : (F5.l0 k l0 0 y185 y188 (([] : List (S82))) 0)=some (r1,r2,r3,r4):=by first|(rw [hy188];with_reducible exact H)|(have H2_:=(Option.bind_some _ _).symm.trans H;rw [hy188];with_reducible exact H2_)|(have H2_:=(Option.bind_some _ _).symm.trans H;with_reducible exact H2_)|with_reducible exact H|(rw [hy188];exact H)|exact H
 have Ny188:=zh hy188;clear hy188;obtain ⟨y191,hy191⟩ : ∃ y_ : List (S82),y_=(([] : List (S82))):=⟨_,rfl⟩;replace H : (F5.l0 k l0 0 y185 y188 y191 0)=some (r1,r2,r3,r4):=by first|(rw [hy191];with_reducible exact H)|(have H2_:=(Option.bind_some _ _).symm.trans H;rw [hy191];with_reducible exact H2_)|(have H2_:=(Option.bind_some _ _).symm.trans H;with_reducible exact H2_)|with_reducible exact H|(rw [hy191];exact H)|exact H
 have Ny191:=zh hy191;clear hy191;have H':=zh H;clear H
 go_enter Try.func31,Try.ntmps31
 go_wp2_with (first|((with_reducible refine zK (N:=2) rfl ?_);refine zI ?hg (N:=2) ?hd (cs:=#[.slice none 0 0,.slice none 0 0,.slice none 0 0,.int .i64 0]) (t:=43) ?hr ?_;(case hd => rfl);(case hg => rfl);(case hr => first|(go_simp;done)|(go_simp;rfl));intro gb184 hg w2 hbox hb;have BK184:=zh (hbox);have GW184:=zh ((by rw [hg];exact (zB (by repeat (with_reducible first|exact HB.out|apply za|apply zb|apply zc))) : w.heap.size≤gb184));have GE184:=zh ((by rw [hg];exact (zB (by repeat (with_reducible first|exact HB.out|apply za|apply zb|apply zc))) : w.heap.size≤gb184));replace HB:=zh (zC (by repeat (with_reducible first|exact HB.out|apply za|apply zb|apply zc)) hb);clear hb hbox hg)|((with_reducible refine zK (N:=5) rfl ?_);refine Kd.R_lit k62 _ 62 ?hg (N:=5) ?hd (xs:=([] : List (S62))) (inner:=[]) (ok:=fun _ => True) (okp:=fun _ => True) ?hr ?hp (fun _ hk => hk) trivial (Below.refl _ _) (ye _) (by simp) ?_;(case hd => rfl);(case hg => rfl);(case hr => first|(go_simp;done)|(go_simp;rfl));(case hp => exact (Reps.none _ _));intro v186 w3 ho4 hb hg_ hnew_;clear hg_ hnew_;(first|rw [← Ny185.out] at ho4|(simp only [Int.reduceToNat] at ho4;rw [← Ny185.out] at ho4));have HO187:=zh (yx ho4 (zB (by repeat (with_reducible first|exact HB.out|apply za|apply zb|apply zc|refine zd ?_ GE184.out))));replace BK184:=zh (zD (g:=gb184) (o:=.cells #[.slice none 0 0,.slice none 0 0,.slice none 0 0,.int .i64 0] 43 (0,0)) (by (with_reducible repeat (first|refine ze ?_ _|refine zf ?_|refine zg ?_ _));exact BK184.out) hb);replace HB:=zh (zC (by repeat (with_reducible first|exact HB.out|apply za|apply zb|apply zc|refine zd ?_ GE184.out)) hb);clear hb ho4)|((with_reducible refine zK (N:=6) rfl ?_);refine Kd.R_lit k78 _ 78 ?hg (N:=6) ?hd (xs:=([] : List (S78))) (inner:=[]) (ok:=fun _ => True) (okp:=fun _ => True) ?hr ?hp (fun _ hk => hk) trivial (Below.refl _ _) (ye _) (by simp) ?_;(case hd => rfl);(case hg => rfl);(case hr => first|(go_simp;done)|(go_simp;rfl));(case hp => exact (Reps.none _ _));intro v189 w5 ho6 hb hg_ hnew_;clear hg_ hnew_;(first|rw [← Ny188.out] at ho6|(simp only [Int.reduceToNat] at ho6;rw [← Ny188.out] at ho6));replace HO187:=zh (yg (by (with_reducible repeat (first|apply zm|apply zn|apply zo));exact HO187.out) hb);have HO190:=zh (yx ho6 (zB (by repeat (with_reducible first|exact HB.out|apply za|apply zb|apply zc|refine zd ?_ GE184.out))));replace BK184:=zh (zD (g:=gb184) (o:=.cells #[.slice none 0 0,.slice none 0 0,.slice none 0 0,.int .i64 0] 43 (0,0)) (by (with_reducible repeat (first|refine ze ?_ _|refine zf ?_|refine zg ?_ _));exact BK184.out) hb);replace HB:=zh (zC (by repeat (with_reducible first|exact HB.out|apply za|apply zb|apply zc|refine zd ?_ GE184.out)) hb);clear hb ho6)|((with_reducible refine zK (N:=7) rfl ?_);refine Kd.R_lit k82 _ 82 ?hg (N:=7) ?hd (xs:=([] : List (S82))) (inner:=[]) (ok:=fun _ => True) (okp:=fun _ => True) ?hr ?hp (fun _ hk => hk) trivial (Below.refl _ _) (ye _) (by simp) ?_;(case hd => rfl);(case hg => rfl);(case hr => first|(go_simp;done)|(go_simp;rfl));(case hp => exact (Reps.none _ _));intro v192 w7 ho8 hb hg_ hnew_;clear hg_ hnew_;(first|rw [← Ny191.out] at ho8|(simp only [Int.reduceToNat] at ho8;rw [← Ny191.out] at ho8));replace HO187:=zh (yg (by (with_reducible repeat (first|apply zm|apply zn|apply zo));exact HO187.out) hb);replace HO190:=zh (yg (by (with_reducible repeat (first|apply zm|apply zn|apply zo));exact HO190.out) hb);have HO193:=zh (yx ho8 (zB (by repeat (with_reducible first|exact HB.out|apply za|apply zb|apply zc|refine zd ?_ GE184.out))));replace BK184:=zh (zD (g:=gb184) (o:=.cells #[.slice none 0 0,.slice none 0 0,.slice none 0 0,.int .i64 0] 43 (0,0)) (by (with_reducible repeat (first|refine ze ?_ _|refine zf ?_|refine zg ?_ _));exact BK184.out) hb);replace HB:=zh (zC (by repeat (with_reducible first|exact HB.out|apply za|apply zb|apply zc|refine zd ?_ GE184.out)) hb);clear hb ho8;obtain ⟨Ao9,co9,eo9⟩:=yk HO193.out;subst eo9;obtain ⟨Ao10,co10,eo10⟩:=yk HO190.out;subst eo10;obtain ⟨Ao11,co11,eo11⟩:=yk HO187.out;subst eo11)|((with_reducible refine zK (N:=3) rfl ?_);refine zI ?hg (N:=3) ?hd (cs:=#[.slice none 0 0,.slice none 0 0,.slice none 0 0,.int .i64 0]) (t:=43) ?hr ?_;(case hd => rfl);(case hg => rfl);(case hr => first|(go_simp;done)|(go_simp;rfl));intro gb194 hg w12 hbox hb;replace HO187:=zh (yg (by (with_reducible repeat (first|apply zm|apply zn|apply zo));exact HO187.out) hb);replace HO190:=zh (yg (by (with_reducible repeat (first|apply zm|apply zn|apply zo));exact HO190.out) hb);replace HO193:=zh (yg (by (with_reducible repeat (first|apply zm|apply zn|apply zo));exact HO193.out) hb);have BK194:=zh (hbox);have GW194:=zh ((by rw [hg];exact (zB (by repeat (with_reducible first|exact HB.out|apply za|apply zb|apply zc|refine zd ?_ GE184.out))) : w.heap.size≤gb194));have GE194:=zh ((by rw [hg];exact (zB (by repeat (with_reducible first|exact HB.out|apply za|apply zb|apply zc|refine zd ?_ GE184.out))) : w.heap.size≤gb194));replace HB:=zh (zC (by repeat (with_reducible first|exact HB.out|apply za|apply zb|apply zc|refine zd ?_ GE184.out)) hb);have NB184_194:=zh ((by rw [hg];exact yc (yi (g:=gb184) (o:=.cells #[.slice none 0 0,.slice none 0 0,.slice none 0 0,.int .i64 0] 43 (0,0)) (by (with_reducible repeat (first|refine ze ?_ _|refine zf ?_|refine zg ?_ _));exact BK184.out)) : gb184≠gb194));have NB194_184:=zh ((by rw [hg];exact yd (yi (g:=gb184) (o:=.cells #[.slice none 0 0,.slice none 0 0,.slice none 0 0,.int .i64 0] 43 (0,0)) (by (with_reducible repeat (first|refine ze ?_ _|refine zf ?_|refine zg ?_ _));exact BK184.out)) : gb194≠gb184));replace BK184:=zh (zD (g:=gb184) (o:=.cells #[.slice none 0 0,.slice none 0 0,.slice none 0 0,.int .i64 0] 43 (0,0)) (by (with_reducible repeat (first|refine ze ?_ _|refine zf ?_|refine zg ?_ _));exact BK184.out) hb);clear hb hbox hg;have hnb13:=NB194_184.out;have hnc13:=NB184_194.out;have hcz14_0 : w12.cell? ⟨gb194,0,none⟩=some (.slice none 0 0):=(zz BK194.out 0).trans rfl;have hcz14_1 : w12.cell? ⟨gb194,1,none⟩=some (.slice none 0 0):=(zz BK194.out 1).trans rfl;have hcz14_2 : w12.cell? ⟨gb194,2,none⟩=some (.slice none 0 0):=(zz BK194.out 2).trans rfl;have hcz14_3 : w12.cell? ⟨gb194,3,none⟩=some (.int .i64 0):=(zz BK194.out 3).trans rfl;have hfz14_0:=zA BK194.out 0;have hfz14_1:=zA BK194.out 1;have hfz14_2:=zA BK194.out 2;have hfz14_3:=zA BK194.out 3))
 go_loopg [4] k (fun kq v4 w' => ∃ (x4_1 : Int) (x195000_1 : List (S62)) (u195000 : Value),v4 = .int .i64 x4_1∧Aside0 (F5.l0 kq l0 x4_1 x195000_1 y188 y191 0=some (r1,r2,r3,r4))∧Aside0 (kq≤k)∧Aside0 (Kd.R k62 62 w' w.heap.size (fun _ => True) u195000 x195000_1)∧Aside0 (Kd.R k78 78 w' w.heap.size (fun _ => True) (.slice Ao10 y188.length co10) y188)∧Aside0 (Kd.R k82 82 w' w.heap.size (fun _ => True) (.slice Ao9 y191.length co9) y191)∧Aside0 (w'.heap[gb184]? = some (.cells #[(.slice none 0 0),(.slice none 0 0),(.slice none 0 0),.int .i64 0] 43 (0,0)))∧Aside0 (w'.heap[gb194]? = some (.cells #[u195000,(.slice Ao10 y188.length co10),(.slice Ao9 y191.length co9),.int .i64 0] 43 (0,0)))∧Aside0 (Below w.heap.size w w'))
 case atStart => exact ⟨(0),(y185),(.slice Ao11 y185.length co11),(by first|rfl|(simp;done)|(simp [*];done)),H',⟨ye _⟩,⟨by (with_reducible repeat (first|apply zm|apply zn|apply zo));exact zM (zE (p:=⟨gb194,3,none⟩) (zE (p:=⟨gb194,2,none⟩) (zE (p:=⟨gb194,1,none⟩) (zE (p:=⟨gb194,0,none⟩) (yf HO187.out BK194.out (by decide)) (fun _ hk => hk.2) (.slice Ao11 y185.length co11)) (fun _ hk => hk.2) (.slice Ao10 y188.length co10)) (fun _ hk => hk.2) (.slice Ao9 y191.length co9)) (fun _ hk => hk.2) (.int .i64 0)) (fun _ hk => trivial)⟩,⟨by (with_reducible repeat (first|apply zm|apply zn|apply zo));exact zM (zE (p:=⟨gb194,3,none⟩) (zE (p:=⟨gb194,2,none⟩) (zE (p:=⟨gb194,1,none⟩) (zE (p:=⟨gb194,0,none⟩) (yf HO190.out BK194.out (by decide)) (fun _ hk => hk.2) (.slice Ao11 y185.length co11)) (fun _ hk => hk.2) (.slice Ao10 y188.length co10)) (fun _ hk => hk.2) (.slice Ao9 y191.length co9)) (fun _ hk => hk.2) (.int .i64 0)) (fun _ hk => trivial)⟩,⟨by (with_reducible repeat (first|apply zm|apply zn|apply zo));exact zM (zE (p:=⟨gb194,3,none⟩) (zE (p:=⟨gb194,2,none⟩) (zE (p:=⟨gb194,1,none⟩) (zE (p:=⟨gb194,0,none⟩) (yf HO193.out BK194.out (by decide)) (fun _ hk => hk.2) (.slice Ao11 y185.length co11)) (fun _ hk => hk.2) (.slice Ao10 y188.length co10)) (fun _ hk => hk.2) (.slice Ao9 y191.length co9)) (fun _ hk => hk.2) (.int .i64 0)) (fun _ hk => trivial)⟩,⟨by (with_reducible repeat (first|refine ze ?_ _|refine zf ?_|refine zg ?_ _));refine zS ?_ NB184_194.out _;(with_reducible repeat (first|refine ze ?_ _|refine zf ?_|refine zg ?_ _));refine zS ?_ NB184_194.out _;(with_reducible repeat (first|refine ze ?_ _|refine zf ?_|refine zg ?_ _));refine zS ?_ NB184_194.out _;(with_reducible repeat (first|refine ze ?_ _|refine zf ?_|refine zg ?_ _));refine zS ?_ NB184_194.out _;(with_reducible repeat (first|refine ze ?_ _|refine zf ?_|refine zg ?_ _));exact BK184.out⟩,⟨by (with_reducible repeat (first|refine ze ?_ _|refine zf ?_|refine zg ?_ _));refine zL (cs:=#[.slice Ao11 y185.length co11,.slice Ao10 y188.length co10,.slice Ao9 y191.length co9,.int .i64 0]) ?_ 3 _ rfl;(with_reducible repeat (first|refine ze ?_ _|refine zf ?_|refine zg ?_ _));refine zL (cs:=#[.slice Ao11 y185.length co11,.slice Ao10 y188.length co10,.slice none 0 0,.int .i64 0]) ?_ 2 _ rfl;(with_reducible repeat (first|refine ze ?_ _|refine zf ?_|refine zg ?_ _));refine zL (cs:=#[.slice Ao11 y185.length co11,.slice none 0 0,.slice none 0 0,.int .i64 0]) ?_ 1 _ rfl;(with_reducible repeat (first|refine ze ?_ _|refine zf ?_|refine zg ?_ _));refine zL (cs:=#[.slice none 0 0,.slice none 0 0,.slice none 0 0,.int .i64 0]) ?_ 0 _ rfl;(with_reducible repeat (first|refine ze ?_ _|refine zf ?_|refine zg ?_ _));exact BK194.out⟩,⟨by repeat (with_reducible first|exact HB.out|apply za|apply zb|apply zc|refine zd ?_ GE184.out|refine zd ?_ GE194.out)⟩⟩
 case round =>
  clear H'
  try clear c1
  try clear p2
  try clear c3
  try clear c13
  try clear hcz14_0
  try clear hcz14_1
  try clear hcz14_2
  try clear hcz14_3
  try clear hfz14_0
  try clear hfz14_1
  try clear hfz14_2
  try clear hfz14_3
  obtain ⟨x4_1,x195000_1,u195000,rfl,HA,HK1,HO_195000,HO_195001,HO_195002,BK184,BK194,HB⟩:=hrel
  cases gk with
  | zero => exact absurd HA.out (by simp [F5.l0])
  | succ k1 =>
   have H:=HA.out;clear HA;simp only [F5.l0] at H
   by_cases c15 : x4_1<(l0.length : Int)
   ·
    rw [if_pos c15] at H
    have c15b0 : decide (x4_1<(l0.length : Int))=true:=decide_eq_true c15;clear c15
    by_cases c16 : 0≤x4_1
    ·
     rw [if_pos c16] at H
     have c16b0 : decide (0≤x4_1)=true:=decide_eq_true c16;clear c16;replace H:=zT.mp H;obtain ⟨⟨t196,t197,t200⟩,A170,H⟩:=H;replace H : (if x195000_1.length<2199023255552 then (F5.l0 k1 l0 (wrap64 (x4_1 + 1)) (x195000_1 ++ [(⟨t196,t197,t200⟩ : S62)]) y188 y191 0) else (none))=some (r1,r2,r3,r4):=H;have A17:=zh A170;clear A170
     by_cases c18 : x195000_1.length<2199023255552
     ·
      rw [if_pos c18] at H
      have LMc18:=zh c18;clear c18;obtain ⟨y203,hy203⟩ : ∃ y_ : List (S62),y_=(x195000_1 ++ [(⟨t196,t197,t200⟩ : S62)]):=⟨_,rfl⟩;replace H : (F5.l0 k1 l0 (wrap64 (x4_1 + 1)) y203 y188 y191 0)=some (r1,r2,r3,r4):=by first|(rw [hy203];with_reducible exact H)|(have H2_:=(Option.bind_some _ _).symm.trans H;rw [hy203];with_reducible exact H2_)|(have H2_:=(Option.bind_some _ _).symm.trans H;with_reducible exact H2_)|with_reducible exact H|(rw [hy203];exact H)|exact H
      have Ny203:=zh hy203;clear hy203;have H':=zh H;clear H
      try go_wp2
      replace HO_195000:=zh (zo HO_195000.out);replace HO_195001:=zh (zo HO_195001.out);replace HO_195002:=zh (zo HO_195002.out);replace BK184:=zh (zf BK184.out);replace BK194:=zh (zf BK194.out);replace HB:=zh (zc HB.out);have p195 : 0≤(x4_1 : Int):=zy (by first|(with_reducible assumption)|assumption);have q195 : x4_1<(l0.length : Int):=zy (by first|(with_reducible assumption)|assumption);obtain ⟨ad195,e195,hx195_0⟩:=Kd.at_string HR0.out x4_1 p195 q195;have hw195_0:=hx195_0
      cases e195
      replace hx195_0:=(HB.out.cell (zl w _ hx195_0)).trans hx195_0;replace p195:=eq_true p195;replace q195:=eq_true q195;refine start_ (n:=11) (S:=fun w' => w'.cell? ⟨gb194,0,none⟩=some (u195000)∧w'.cell? ⟨gb194,1,none⟩=some (.slice Ao10 y188.length co10)∧w'.cell? ⟨gb194,2,none⟩=some (.slice Ao9 y191.length co9)∧w'.cell? ⟨gb194,3,none⟩=some (.int .i64 0)∧w'.cell? (ad195.add (x4_1).toNat)=some (.string (rdOf ByteArray.empty l0 x4_1))) (ds:=[10]) (bm_ 0 11) (by kernel_rfl) rfl rfl ⟨(zz BK194.out 0).trans rfl,(zz BK194.out 1).trans rfl,(zz BK194.out 2).trans rfl,(zz BK194.out 3).trans rfl,((HB.out.cell (zl w _ hw195_0)).trans hw195_0)⟩ (fun hHeld => ?_);refine with_tabW F5.tab5 F5.bits5 (fun HT_ HW_ => ?_);generalize wr.drew=w19 at HO_195000 HO_195001 HO_195002 BK184 BK194 HB hx195_0 hHeld ⊢;refine pure_ (i:=0) (N:=some 15) (v:=?_) (a':=?_) (bm_ 1 11) rfl rfl (any_of HT_.out (by kernel_rfl)) (fun _ _ _ h => h) (Or.inl ⟨by rfl,?_⟩) ?_ ?_;rotate_left
      ·
       intro w'
       go_simp
       with_reducible rfl
      rotate_left
      ·
       simp only [Act.put,zi,zj,zk,zG,zH]
       rfl
      refine pure_ (i:=2) (N:=some 17) (v:=?_) (a':=?_) #[true,false,true,false,false,false,false,false,false,false,false] rfl rfl (any_of HT_.out (by kernel_rfl)) (fun _ _ _ h => h) (Or.inl ⟨by rfl,?_⟩) ?_ ?_;rotate_left
      ·
       intro w'
       go_simp
       with_reducible rfl
      rotate_left
      ·
       simp only [Act.put,zi,zj,zk,zG,zH]
       rfl
      refine pure_ (i:=3) (N:=some 18) (v:=?_) (a':=?_) #[true,false,true,true,false,false,false,false,false,false,false] rfl rfl (any_of HT_.out (by kernel_rfl)) (fun _ _ _ h => h) (Or.inl ⟨by rfl,?_⟩) ?_ ?_;rotate_left
      ·
       intro w'
       go_simp
       with_reducible rfl
      rotate_left
      ·
       simp only [Act.put,zi,zj,zk,zG,zH]
       rfl
      refine pure_ (i:=4) (N:=some 19) (v:=?_) (a':=?_) #[true,false,true,true,true,false,false,false,false,false,false] rfl rfl (any_of HT_.out (by kernel_rfl)) (fun _ _ _ h => h) (Or.inl ⟨by rfl,?_⟩) ?_ ?_;rotate_left
      ·
       intro w'
       go_simp
       with_reducible rfl
      rotate_left
      ·
       simp only [Act.put,zi,zj,zk,zG,zH]
       rfl
      refine take_ (i:=1) (N:=some 16) (v:=?_) (a':=?_) (bm_ 5 11) rfl rfl (yo HT_.out HW_.out (by kernel_rfl)) (fun _ _ _ h => h) (Or.inl ⟨by rfl,?_⟩) hHeld ?_ ?_;rotate_left
      ·
       rintro w' ⟨s0,s1,s2,s3,s4⟩
       go_simp
       with_reducible rfl
      rotate_left
      ·
       simp only [Act.put,zi,zj,zk,zG,zH]
       rfl
      refine take_ (i:=5) (N:=some 20) (v:=?_) (a':=?_) (bm_ 6 11) rfl rfl (yo HT_.out HW_.out (by kernel_rfl)) (fun _ _ _ h => h) (Or.inl ⟨by rfl,?_⟩) hHeld ?_ ?_;rotate_left
      ·
       rintro w' ⟨s0,s1,s2,s3,s4⟩
       go_simp
       with_reducible rfl
      rotate_left
      ·
       simp only [Act.put,zi,zj,zk,zG,zH]
       rfl
      refine one_ (i:=6) (N:=some 21) (bm_ 7 11) rfl rfl (one_of HT_.out (by kernel_rfl)) (by decide) (fun K hK => ?_);refine goes_ Try.func48 (by kernel_rfl) rfl #[.string (rdOf ByteArray.empty l0 x4_1)] (by rfl) rfl rfl (by (try simp only [zt,zu,zv]);first|done|rfl|(simp only [zw,zx];rfl)|(simp only [yr,ys,zV,zW];rfl)) ?_
      with_reducible refine (F02.calls  (rdOf ByteArray.empty l0 x4_1) t196 t197 t200 _ A17.out).mono ?_
      rintro e w20 ⟨v198,v201,rfl,ho0,ho1,hb⟩;refine ⟨_,rfl,?_⟩;replace HO_195000:=zh (zM (Kd.R_told (Kd.R_told (Kd.R_old (by (with_reducible repeat (first|apply zm|apply zn|apply zo));exact HO_195000.out) hb) (Kd.S_base ho0)) (Kd.S_base ho1)) (fun _ h_ => h_.1));replace HO_195001:=zh (yg (by (with_reducible repeat (first|apply zm|apply zn|apply zo));exact HO_195001.out) hb);replace HO_195002:=zh (yg (by (with_reducible repeat (first|apply zm|apply zn|apply zo));exact HO_195002.out) hb);have HO199:=zh (Kd.S_lower ho0 (zB (by repeat (with_reducible first|exact HB.out|apply za|apply zb|apply zc|refine zd ?_ GE184.out|refine zd ?_ GE194.out))));have HO202:=zh (Kd.S_lower ho1 (zB (by repeat (with_reducible first|exact HB.out|apply za|apply zb|apply zc|refine zd ?_ GE184.out|refine zd ?_ GE194.out))));replace BK184:=zh (zD (g:=gb184) (o:=.cells #[.slice none 0 0,.slice none 0 0,.slice none 0 0,.int .i64 0] 43 (0,0)) (by (with_reducible repeat (first|refine ze ?_ _|refine zf ?_|refine zg ?_ _));exact BK184.out) hb);replace BK194:=zh (zD (g:=gb194) (o:=.cells #[u195000,.slice Ao10 y188.length co10,.slice Ao9 y191.length co9,.int .i64 0] 43 (0,0)) (by (with_reducible repeat (first|refine ze ?_ _|refine zf ?_|refine zg ?_ _));exact BK194.out) hb);replace HB:=zh (zC (by repeat (with_reducible first|exact HB.out|apply za|apply zb|apply zc|refine zd ?_ GE184.out|refine zd ?_ GE194.out)) hb);(try clear hb);(try clear hb2);(try clear hk);(try clear hi);(try clear ho0);(try clear ho1);obtain ⟨Ao22,co22,eo22⟩:=Kd.S_slice HO199.out;(first|subst eo22|(injection eo22 with f1_ f2_ f3_;have f4_:=f1_.symm;have f5_:=f3_.symm;clear f1_ f2_ f3_;subst f4_;subst f5_));obtain ⟨Ao23,co23,eo23⟩:=Kd.S_slice HO202.out;(first|subst eo23|(injection eo23 with f1_ f2_ f3_;have f4_:=f1_.symm;have f5_:=f3_.symm;clear f1_ f2_ f3_;subst f4_;subst f5_));refine hK.out _ _ ⟨(zz BK194.out 0).trans rfl,(zz BK194.out 1).trans rfl,(zz BK194.out 2).trans rfl,(zz BK194.out 3).trans rfl,((HB.out.cell (zl w _ hw195_0)).trans hw195_0)⟩ (fun hHeld => ?_);clear hK K;refine norm_ (a':=?_) ?_ ?_;rotate_left
      ·
       show Act.put _ (some 21) _=_
       simp only [Act.put,zi,zj,zk,zG,zH]
       rfl
      refine one_ (i:=7) (N:=some 22) (bm_ 8 11) rfl rfl (one_of HT_.out (by kernel_rfl)) (by decide) (fun K hK => ?_);refine value_ (w1:=?_) (v:=?_) (by rfl) rfl ?_ ?_;rotate_left 2
      ·
       go_simp
       constructor
       ·
        rfl
       rfl
      refine hK.out _ _ ⟨(zz (zg BK194.out _) 0).trans rfl,(zz (zg BK194.out _) 1).trans rfl,(zz (zg BK194.out _) 2).trans rfl,(zz (zg BK194.out _) 3).trans rfl,(World.cell?_alloc_lt _ _ _ (zl _ _ (((HB.out.cell (zl w _ hw195_0)).trans hw195_0)))).trans (((HB.out.cell (zl w _ hw195_0)).trans hw195_0))⟩ (fun hHeld => ?_);clear hK K;refine norm_ (a':=?_) ?_ ?_;rotate_left
      ·
       show Act.put _ (some 22) _=_
       simp only [Act.put,zi,zj,zk,zG,zH]
       rfl
      refine one_ (i:=8) (N:=some 23) (bm_ 9 11) rfl rfl (one_of HT_.out (by kernel_rfl)) (by decide) (fun K hK => ?_);refine Kd.R_append_step k62 (w0:=w) w.heap.size (by rfl) (.tmp 16) (.tmp 22) 39 62 (.agg #[(.string ⟨#[]⟩),(.slice none 0 0),(.slice none 0 0)]) 64 rfl Try.underlying39 info62 rfl (by decide) (by omega) u195000 x195000_1 (⟨t196,t197,t200⟩ : S62) [.string t196,.slice Ao22 t197.length co22,.slice Ao23 t200.length co23] (fun _ => True) (fun k_ => ((fun _ => True)) k_∧some k_≠(u195000 : Value).ownBlock) rfl rfl ?aP (fun _ hk => hk) ?aF ?aO ?aB ?aS ?aL ?_;(case aP => exact k62_mkM _ _ _ (⟨t196,t197,t200⟩ : S62) (zM (Kd.R_apart' ((Kd.S_R HO199.out)) (Kd.R_typed HO_195000.out) (by decide)) (fun k_ hk => ⟨trivial,hk.2⟩)) (zM (Kd.R_apart' ((Kd.S_R HO202.out)) (Kd.R_typed HO_195000.out) (by decide)) (fun k_ hk => ⟨trivial,hk.2⟩)))
      (case aB => exact (by repeat (with_reducible first|exact HB.out|apply za|apply zb|apply zc|refine zd ?_ GE184.out|refine zd ?_ GE194.out)))
      (case aF => exact (fun _ _ => trivial))
      (case aO => exact (by (with_reducible repeat (first|apply zm|apply zn|apply zo));exact zM HO_195000.out (fun _ hk => trivial)))
      (case aS => exact (zB (by repeat (with_reducible first|exact HB.out|apply za|apply zb|apply zc|refine zd ?_ GE184.out|refine zd ?_ GE194.out))))
      (case aL => have:=LMc18.out;omega)
      intro v204 w21 ho hb hg hat;rw [← Ny203.out] at ho;replace HO_195001:=zh (Kd.R_over' (by (with_reducible repeat (first|apply zm|apply zn|apply zo));exact HO_195001.out) (Kd.R_typed (by (with_reducible repeat (first|apply zm|apply zn|apply zo));exact HO_195000.out)) (by decide) hg);replace HO_195002:=zh (Kd.R_over' (by (with_reducible repeat (first|apply zm|apply zn|apply zo));exact HO_195002.out) (Kd.R_typed (by (with_reducible repeat (first|apply zm|apply zn|apply zo));exact HO_195000.out)) (by decide) hg);replace BK184:=zh (yv (g:=gb184) (o:=.cells #[.slice none 0 0,.slice none 0 0,.slice none 0 0,.int .i64 0] 43 (0,0)) (by (with_reducible repeat (first|refine ze ?_ _|refine zf ?_|refine zg ?_ _));exact BK184.out) hg (Kd.R_ne HO_195000.out BK184.out (by decide)));replace BK194:=zh (yv (g:=gb194) (o:=.cells #[u195000,.slice Ao10 y188.length co10,.slice Ao9 y191.length co9,.int .i64 0] 43 (0,0)) (by (with_reducible repeat (first|refine ze ?_ _|refine zf ?_|refine zg ?_ _));exact BK194.out) hg (Kd.R_ne HO_195000.out BK194.out (by decide)));replace HB:=zh (hb);have HO205:=zh (ho);clear HO_195000 HO199 HO202 ho hb hg hat;obtain ⟨Ao24,co24,eo24⟩:=yk HO205.out;(first|subst eo24|(injection eo24 with f1_ f2_ f3_;have f4_:=f1_.symm;have f5_:=f3_.symm;clear f1_ f2_ f3_;subst f4_;subst f5_));refine hK.out _ _ ⟨(zz BK194.out 0).trans rfl,(zz BK194.out 1).trans rfl,(zz BK194.out 2).trans rfl,(zz BK194.out 3).trans rfl,((HB.out.cell (zl w _ hw195_0)).trans hw195_0)⟩ (fun hHeld => ?_);clear hK K;refine norm_ (a':=?_) ?_ ?_;rotate_left
      ·
       show Act.put _ (some 23) _=_
       simp only [Act.put,zi,zj,zk,zG,zH]
       rfl
      refine pure_ (i:=9) (N:=some 24) (v:=?_) (a':=?_) (bm_ 10 11) rfl rfl (any_of HT_.out (by kernel_rfl)) (fun _ _ _ h => h) (Or.inl ⟨by rfl,?_⟩) ?_ ?_;rotate_left
      ·
       intro w'
       go_simp
       with_reducible rfl
      rotate_left
      ·
       simp only [Act.put,zi,zj,zk,zG,zH]
       rfl
      refine last_ (i:=10) (N:=none) (bm_ 11 11) rfl rfl (one_of HT_.out (by kernel_rfl)) (by decide) (fun K hK => ?_);have hs25 : w21.cell? ⟨gb194,0,none⟩=some (u195000):=(zz BK194.out 0).trans rfl;have hfs25:=zA BK194.out 0;have hns25_0:=NB184_194.out;have hms25_0:=NB194_184.out;refine skip_ (w1:=?_) (by rfl) rfl ?_ ?_;rotate_left
      ·
       go_simp
       rfl
      refine hK.out _ _ ?_;clear hK K;refine done_ (done_of HT_.out (by kernel_rfl)) ?_
      try go_wp2
      go_roundg k1
      case measure => have:=HK1.out;omega
      case rel => exact ⟨(wrap64 (x4_1 + 1)),(y203),(.slice Ao24 y203.length co24),(by first|rfl|(simp;done)|(simp [*];done)),H',⟨by have:=HK1.out;omega⟩,⟨by (with_reducible repeat (first|apply zm|apply zn|apply zo));exact zM (zE (p:=⟨gb194,0,none⟩) (yf HO205.out BK194.out (by decide)) (fun _ hk => hk.2) (.slice Ao24 y203.length co24)) (fun _ hk => trivial)⟩,⟨by (with_reducible repeat (first|apply zm|apply zn|apply zo));exact zM (zE (p:=⟨gb194,0,none⟩) (yf HO_195001.out BK194.out (by decide)) (fun _ hk => hk.2) (.slice Ao24 y203.length co24)) (fun _ hk => trivial)⟩,⟨by (with_reducible repeat (first|apply zm|apply zn|apply zo));exact zM (zE (p:=⟨gb194,0,none⟩) (yf HO_195002.out BK194.out (by decide)) (fun _ hk => hk.2) (.slice Ao24 y203.length co24)) (fun _ hk => trivial)⟩,⟨by (with_reducible repeat (first|refine ze ?_ _|refine zf ?_|refine zg ?_ _));refine zS ?_ NB184_194.out _;(with_reducible repeat (first|refine ze ?_ _|refine zf ?_|refine zg ?_ _));exact BK184.out⟩,⟨by (with_reducible repeat (first|refine ze ?_ _|refine zf ?_|refine zg ?_ _));refine zL (cs:=#[u195000,.slice Ao10 y188.length co10,.slice Ao9 y191.length co9,.int .i64 0]) ?_ 0 _ rfl;(with_reducible repeat (first|refine ze ?_ _|refine zf ?_|refine zg ?_ _));exact BK194.out⟩,⟨by repeat (with_reducible first|exact HB.out|apply za|apply zb|apply zc|refine zd ?_ GE184.out|refine zd ?_ GE194.out)⟩⟩
     rw [if_neg c18] at H;exact absurd H (by simp)
    rw [if_neg c16] at H;exact absurd H (by simp)
   rw [if_neg c15] at H;have c15b0 : decide (x4_1<(l0.length : Int))=false:=decide_eq_false c15;clear c15;simp only [Option.some.injEq,Prod.mk.injEq] at H;obtain ⟨rfl,rfl,rfl,rfl⟩:=H;have hnb26:=NB194_184.out;have hnc26:=NB184_194.out;have hcz27_0 : wr.cell? ⟨gb194,0,none⟩=some (u195000):=(zz BK194.out 0).trans rfl;have hcz27_1 : wr.cell? ⟨gb194,1,none⟩=some (.slice Ao10 y188.length co10):=(zz BK194.out 1).trans rfl;have hcz27_2 : wr.cell? ⟨gb194,2,none⟩=some (.slice Ao9 y191.length co9):=(zz BK194.out 2).trans rfl;have hcz27_3 : wr.cell? ⟨gb194,3,none⟩=some (.int .i64 0):=(zz BK194.out 3).trans rfl;have hfz27_0:=zA BK194.out 0;have hfz27_1:=zA BK194.out 1;have hfz27_2:=zA BK194.out 2;have hfz27_3:=zA BK194.out 3;obtain ⟨Ao28,co28,eo28⟩:=yk HO_195000.out;subst eo28;have hcz29_0 : wr.cell? ⟨gb184,0,none⟩=some (.slice none 0 0):=(zz BK184.out 0).trans rfl;have hcz29_1 : wr.cell? ⟨gb184,1,none⟩=some (.slice none 0 0):=(zz BK184.out 1).trans rfl;have hcz29_2 : wr.cell? ⟨gb184,2,none⟩=some (.slice none 0 0):=(zz BK184.out 2).trans rfl;have hcz29_3 : wr.cell? ⟨gb184,3,none⟩=some (.int .i64 0):=(zz BK184.out 3).trans rfl;have hfz29_0:=zA BK184.out 0;have hfz29_1:=zA BK184.out 1;have hfz29_2:=zA BK184.out 2;have hfz29_3:=zA BK184.out 3
   go_wp2
   refine bodyPost_ret (results_cell_row rfl _ _ gb184 43 #[.slice Ao28 x195000_1.length co28,.slice Ao10 y188.length co10,.slice Ao9 y191.length co9,.int .i64 0] (0,0) _ rfl (by (with_reducible repeat (first|refine ze ?_ _|refine zf ?_|refine zg ?_ _));refine zL (cs:=#[.slice Ao28 x195000_1.length co28,.slice Ao10 y188.length co10,.slice Ao9 y191.length co9,.int .i64 0]) ?_ 3 _ rfl;(with_reducible repeat (first|refine ze ?_ _|refine zf ?_|refine zg ?_ _));refine zL (cs:=#[.slice Ao28 x195000_1.length co28,.slice Ao10 y188.length co10,.slice none 0 0,.int .i64 0]) ?_ 2 _ rfl;(with_reducible repeat (first|refine ze ?_ _|refine zf ?_|refine zg ?_ _));refine zL (cs:=#[.slice Ao28 x195000_1.length co28,.slice none 0 0,.slice none 0 0,.int .i64 0]) ?_ 1 _ rfl;(with_reducible repeat (first|refine ze ?_ _|refine zf ?_|refine zg ?_ _));refine zL (cs:=#[.slice none 0 0,.slice none 0 0,.slice none 0 0,.int .i64 0]) ?_ 0 _ rfl;(with_reducible repeat (first|refine ze ?_ _|refine zf ?_|refine zg ?_ _));exact BK184.out) Try.underlying43 rfl (by kernel_rfl)) rfl ?_;exact ⟨_,_,_,by first|rfl|(simp [yt,yu] <;> rfl)|(simp [*,yt,yu] <;> rfl),by (with_reducible repeat (first|apply zm|apply zn|apply zo));exact zM (zE (p:=⟨gb184,3,none⟩) (zE (p:=⟨gb184,2,none⟩) (zE (p:=⟨gb184,1,none⟩) (zE (p:=⟨gb184,0,none⟩) (yf HO_195000.out BK184.out (by decide)) (fun _ hk => hk.2) (.slice Ao28 x195000_1.length co28)) (fun _ hk => hk.2) (.slice Ao10 y188.length co10)) (fun _ hk => hk.2) (.slice Ao9 y191.length co9)) (fun _ hk => hk.2) (.int .i64 0)) (fun _ hk => trivial),by (with_reducible repeat (first|apply zm|apply zn|apply zo));exact zM (zE (p:=⟨gb184,3,none⟩) (zE (p:=⟨gb184,2,none⟩) (zE (p:=⟨gb184,1,none⟩) (zE (p:=⟨gb184,0,none⟩) (yf HO_195001.out BK184.out (by decide)) (fun _ hk => hk.2) (.slice Ao28 x195000_1.length co28)) (fun _ hk => hk.2) (.slice Ao10 y188.length co10)) (fun _ hk => hk.2) (.slice Ao9 y191.length co9)) (fun _ hk => hk.2) (.int .i64 0)) (fun _ hk => trivial),by (with_reducible repeat (first|apply zm|apply zn|apply zo));exact zM (zE (p:=⟨gb184,3,none⟩) (zE (p:=⟨gb184,2,none⟩) (zE (p:=⟨gb184,1,none⟩) (zE (p:=⟨gb184,0,none⟩) (yf HO_195002.out BK184.out (by decide)) (fun _ hk => hk.2) (.slice Ao28 x195000_1.length co28)) (fun _ hk => hk.2) (.slice Ao10 y188.length co10)) (fun _ hk => hk.2) (.slice Ao9 y191.length co9)) (fun _ hk => hk.2) (.int .i64 0)) (fun _ hk => trivial),by repeat (with_reducible first|exact HB.out|apply za|apply zb|apply zc|refine zd ?_ GE184.out|refine zd ?_ GE194.out)⟩


def F8.l0 : Nat→List ByteArray→Int→Option ((List (S62))×(List (S78))×(List (S82))×Int×Int)
 | 0,_,_ => none
 | k + 1,x0,x4 => if x4<(x0.length : Int) then (if 0≤x4 then ((Fq.f k (rdOf ByteArray.empty x0 x4)).bind fun t219 => (if t219=true then (if x4 > 0 then (if 0≤(wrap64 (x4 - 1)) then (if (wrap64 (x4 - 1))<(x0.length : Int) then (if ((Op.bytesLess ((rdOf ByteArray.empty x0 (wrap64 (x4 - 1))).toList) ((rdOf ByteArray.empty x0 x4).toList))=true) then (F8.l0 k x0 (wrap64 (x4 + 1))) else (some (([] : List (S62)),([] : List (S78)),([] : List (S82)),0,19))) else (none)) else (none)) else (F8.l0 k x0 (wrap64 (x4 + 1)))) else (some (([] : List (S62)),([] : List (S78)),([] : List (S82)),0,11)))) else (none)) else ((F5.f k x0).bind fun bt208 => (some (bt208.1,bt208.2.1,bt208.2.2.1,bt208.2.2.2,0)))
def F8.f (k : Nat) (l0 : List ByteArray) : Option ((List (S62))×(List (S78))×(List (S82))×Int×Int):=if (l0.length : Int) > 4096 then (some (([] : List (S62)),([] : List (S78)),([] : List (S82)),0,2)) else ((Fw.f (l0.length : Int) 1 3).bind fun t207 => (if t207=true then (F8.l0 k l0 0) else (some (([] : List (S62)),([] : List (S78)),([] : List (S82)),0,6))))
theorem F8.mono_l : ∀ k,(∀ y0 y1,LeO (F8.l0 k y0 y1) (F8.l0 (k + 1) y0 y1))
 | 0 => fun _ _ r h => by simp [F8.l0] at h
 | k + 1 => by
  have ih0:=F8.mono_l k;intro y0 y1;unfold F8.l0
  repeat' first|(with_reducible first|exact ih0 _ _|exact Fq.mono _ _|exact F5.mono _ _|exact zQ _|exact zN _|refine zP ?_ ?_|refine zO ?_ (fun _ => ?_))|refine zP ?_ ?_|refine zO ?_ (fun _ => ?_)
theorem F8.mono : ∀ a0 k,LeO (F8.f k a0) (F8.f (k + 1) a0):=by
 intro a0 k;have ih0:=F8.mono_l k;unfold F8.f
 repeat' first|(with_reducible first|exact ih0 _ _|exact Fq.mono _ _|exact F5.mono _ _|exact zQ _|exact zN _|refine zP ?_ ?_|refine zO ?_ (fun _ => ?_))|refine zP ?_ ?_|refine zO ?_ (fun _ => ?_)
set_option maxHeartbeats 8000000 in
set_option maxRecDepth 100000 in
theorem F8.calls (k : Nat) (A0 : Option Addr) (c0 : Nat) (l0 : List ByteArray) (r1 : List (S62)) (r2 : List (S78)) (r3 : List (S82)) (r4 : Int) (r5 : Int) (w : World) (hr0 : Kd.C Kd.string w A0 l0.length l0) (hc0 : l0.length≤c0) (h : F8.f k l0=some (r1,r2,r3,r4,r5)) :
  Calls Try.prog 17 #[.slice A0 l0.length c0] w fun e w' => ∃ v0_ v1_ v2_ : Value,e = .returned (.tuple #[.agg #[v0_,v1_,v2_,.int .i64 r4],.int .i64 r5])∧Kd.R k62 62 w' w.heap.size (fun _ => True) v0_ r1∧Kd.R k78 78 w' w.heap.size (fun _ => True) v1_ r2∧Kd.R k82 82 w' w.heap.size (fun _ => True) v2_ r3∧Below w.heap.size w w':=by
 have hu43:=Try.underlying43;have HR0:=zh hr0;have HC0:=zh hc0;clear hr0 hc0;have HB:=zh (Below.refl w.heap.size w);have H : (if (l0.length : Int) > 4096 then (some (([] : List (S62)),([] : List (S78)),([] : List (S82)),0,2)) else ((Fw.f (l0.length : Int) 1 3).bind fun t207 => (if t207=true then (F8.l0 k l0 0) else (some (([] : List (S62)),([] : List (S78)),([] : List (S82)),0,6)))))=some (r1,r2,r3,r4,r5):=h;clear h
 by_cases c2 : (l0.length : Int) > 4096
 ·
  rw [if_pos c2] at H
  have c2b0 : decide (4096<(l0.length : Int))=true:=decide_eq_true c2;have c2b1 : decide (4096<l0.length)=true:=decide_eq_true (by omega);clear c2;simp only [Option.some.injEq,Prod.mk.injEq] at H;obtain ⟨rfl,rfl,rfl,rfl,rfl⟩:=H
  go_enter Try.func17,Try.ntmps17
  go_wp2_with (first|((with_reducible refine zK (N:=2) rfl ?_);refine zI ?hg (N:=2) ?hd (cs:=#[.slice none 0 0,.slice none 0 0,.slice none 0 0,.int .i64 0]) (t:=43) ?hr ?_;(case hd => rfl);(case hg => rfl);(case hr => first|(go_simp;done)|(go_simp;rfl));intro gb206 hg w3 hbox hb;have BK206:=zh (hbox);have GW206:=zh ((by rw [hg];exact (zB (by repeat (with_reducible first|exact HB.out|apply za|apply zb|apply zc))) : w.heap.size≤gb206));have GE206:=zh ((by rw [hg];exact (zB (by repeat (with_reducible first|exact HB.out|apply za|apply zb|apply zc))) : w.heap.size≤gb206));replace HB:=zh (zC (by repeat (with_reducible first|exact HB.out|apply za|apply zb|apply zc)) hb);clear hb hbox hg;have hcz4_0 : w3.cell? ⟨gb206,0,none⟩=some (.slice none 0 0):=(zz BK206.out 0).trans rfl;have hcz4_1 : w3.cell? ⟨gb206,1,none⟩=some (.slice none 0 0):=(zz BK206.out 1).trans rfl;have hcz4_2 : w3.cell? ⟨gb206,2,none⟩=some (.slice none 0 0):=(zz BK206.out 2).trans rfl;have hcz4_3 : w3.cell? ⟨gb206,3,none⟩=some (.int .i64 0):=(zz BK206.out 3).trans rfl;have hfz4_0:=zA BK206.out 0;have hfz4_1:=zA BK206.out 1;have hfz4_2:=zA BK206.out 2;have hfz4_3:=zA BK206.out 3))
  repeat (go_quiet (first|((with_reducible refine zK (N:=2) rfl ?_);refine zI ?hg (N:=2) ?hd (cs:=#[.slice none 0 0,.slice none 0 0,.slice none 0 0,.int .i64 0]) (t:=43) ?hr ?_;(case hd => rfl);(case hg => rfl);(case hr => first|(go_simp;done)|(go_simp;rfl));intro gb206 hg w3 hbox hb;have BK206:=zh (hbox);have GW206:=zh ((by rw [hg];exact (zB (by repeat (with_reducible first|exact HB.out|apply za|apply zb|apply zc))) : w.heap.size≤gb206));have GE206:=zh ((by rw [hg];exact (zB (by repeat (with_reducible first|exact HB.out|apply za|apply zb|apply zc))) : w.heap.size≤gb206));replace HB:=zh (zC (by repeat (with_reducible first|exact HB.out|apply za|apply zb|apply zc)) hb);clear hb hbox hg;have hcz4_0 : w3.cell? ⟨gb206,0,none⟩=some (.slice none 0 0):=(zz BK206.out 0).trans rfl;have hcz4_1 : w3.cell? ⟨gb206,1,none⟩=some (.slice none 0 0):=(zz BK206.out 1).trans rfl;have hcz4_2 : w3.cell? ⟨gb206,2,none⟩=some (.slice none 0 0):=(zz BK206.out 2).trans rfl;have hcz4_3 : w3.cell? ⟨gb206,3,none⟩=some (.int .i64 0):=(zz BK206.out 3).trans rfl;have hfz4_0:=zA BK206.out 0;have hfz4_1:=zA BK206.out 1;have hfz4_2:=zA BK206.out 2;have hfz4_3:=zA BK206.out 3));try go_wp2_with (first|((with_reducible refine zK (N:=2) rfl ?_);refine zI ?hg (N:=2) ?hd (cs:=#[.slice none 0 0,.slice none 0 0,.slice none 0 0,.int .i64 0]) (t:=43) ?hr ?_;(case hd => rfl);(case hg => rfl);(case hr => first|(go_simp;done)|(go_simp;rfl));intro gb206 hg w3 hbox hb;have BK206:=zh (hbox);have GW206:=zh ((by rw [hg];exact (zB (by repeat (with_reducible first|exact HB.out|apply za|apply zb|apply zc))) : w.heap.size≤gb206));have GE206:=zh ((by rw [hg];exact (zB (by repeat (with_reducible first|exact HB.out|apply za|apply zb|apply zc))) : w.heap.size≤gb206));replace HB:=zh (zC (by repeat (with_reducible first|exact HB.out|apply za|apply zb|apply zc)) hb);clear hb hbox hg;have hcz4_0 : w3.cell? ⟨gb206,0,none⟩=some (.slice none 0 0):=(zz BK206.out 0).trans rfl;have hcz4_1 : w3.cell? ⟨gb206,1,none⟩=some (.slice none 0 0):=(zz BK206.out 1).trans rfl;have hcz4_2 : w3.cell? ⟨gb206,2,none⟩=some (.slice none 0 0):=(zz BK206.out 2).trans rfl;have hcz4_3 : w3.cell? ⟨gb206,3,none⟩=some (.int .i64 0):=(zz BK206.out 3).trans rfl;have hfz4_0:=zA BK206.out 0;have hfz4_1:=zA BK206.out 1;have hfz4_2:=zA BK206.out 2;have hfz4_3:=zA BK206.out 3)))
  refine bodyPost_ret (results_ct rfl _ _ gb206 43 #[.slice none 0 0,.slice none 0 0,.slice none 0 0,.int .i64 0] (0,0) _ rfl (by (with_reducible repeat (first|refine ze ?_ _|refine zf ?_|refine zg ?_ _));refine zL (cs:=#[.slice none 0 0,.slice none 0 0,.slice none 0 0,.int .i64 0]) ?_ 3 _ rfl;(with_reducible repeat (first|refine ze ?_ _|refine zf ?_|refine zg ?_ _));refine zL (cs:=#[.slice none 0 0,.slice none 0 0,.slice none 0 0,.int .i64 0]) ?_ 2 _ rfl;(with_reducible repeat (first|refine ze ?_ _|refine zf ?_|refine zg ?_ _));refine zL (cs:=#[.slice none 0 0,.slice none 0 0,.slice none 0 0,.int .i64 0]) ?_ 1 _ rfl;(with_reducible repeat (first|refine ze ?_ _|refine zf ?_|refine zg ?_ _));refine zL (cs:=#[.slice none 0 0,.slice none 0 0,.slice none 0 0,.int .i64 0]) ?_ 0 _ rfl;(with_reducible repeat (first|refine ze ?_ _|refine zf ?_|refine zg ?_ _));exact BK206.out) Try.underlying43 rfl (by kernel_rfl)) rfl ?_;exact ⟨_,_,_,by first|rfl|(simp [yt,yu] <;> rfl)|(simp [*,yt,yu] <;> rfl),by first|exact Kd.R_nil _ _ _ _ _|exact Kd.N_nil _ _ _ _ _|exact Kd.V_nil _ _ _ _ _|exact Kd.Q_nil _ _ _ _ _|exact Kd.S_nil _ _ _ _ _,by first|exact Kd.R_nil _ _ _ _ _|exact Kd.N_nil _ _ _ _ _|exact Kd.V_nil _ _ _ _ _|exact Kd.Q_nil _ _ _ _ _|exact Kd.S_nil _ _ _ _ _,by first|exact Kd.R_nil _ _ _ _ _|exact Kd.N_nil _ _ _ _ _|exact Kd.V_nil _ _ _ _ _|exact Kd.Q_nil _ _ _ _ _|exact Kd.S_nil _ _ _ _ _,by repeat (with_reducible first|exact HB.out|apply za|apply zb|apply zc|refine zd ?_ GE206.out)⟩
 rw [if_neg c2] at H;have c2b0 : decide (4096<(l0.length : Int))=false:=decide_eq_false c2;have c2b1 : decide (4096<l0.length)=false:=decide_eq_false (by omega);clear c2;replace H:=zT.mp H;obtain ⟨t207,A50,H⟩:=H;replace H : (if t207=true then (F8.l0 k l0 0) else (some (([] : List (S62)),([] : List (S78)),([] : List (S82)),0,6)))=some (r1,r2,r3,r4,r5):=H;have A5:=zh A50;clear A50
 by_cases c6 : t207=true
 ·
  subst c6
  have H1 : (F8.l0 k l0 0)=some (r1,r2,r3,r4,r5):=by rw [if_pos rfl] at H;exact H
  clear H;have H:=H1;clear H1;have H':=zh H;clear H
  go_enter Try.func17,Try.ntmps17
  go_wp2_with (first|((with_reducible refine zK (N:=2) rfl ?_);refine zI ?hg (N:=2) ?hd (cs:=#[.slice none 0 0,.slice none 0 0,.slice none 0 0,.int .i64 0]) (t:=43) ?hr ?_;(case hd => rfl);(case hg => rfl);(case hr => first|(go_simp;done)|(go_simp;rfl));intro gb206 hg w7 hbox hb;have BK206:=zh (hbox);have GW206:=zh ((by rw [hg];exact (zB (by repeat (with_reducible first|exact HB.out|apply za|apply zb|apply zc))) : w.heap.size≤gb206));have GE206:=zh ((by rw [hg];exact (zB (by repeat (with_reducible first|exact HB.out|apply za|apply zb|apply zc))) : w.heap.size≤gb206));replace HB:=zh (zC (by repeat (with_reducible first|exact HB.out|apply za|apply zb|apply zc)) hb);clear hb hbox hg)|(go_at_call 29;(with_reducible refine (Fw.calls  (l0.length : Int) 1 3 true _ A5.out).mono ?_);rintro e w' ⟨rfl,⟨nd,rfl⟩⟩;(try first|exact ⟨rfl,_,World.drewN_drewN _ _ _⟩|exact ⟨rfl,_,Eq.trans (World.drewN_drewN _ _ _) (congrArg (World.drewN _) (Nat.add_assoc _ _ _))⟩)))
  repeat (go_quiet (first|((with_reducible refine zK (N:=2) rfl ?_);refine zI ?hg (N:=2) ?hd (cs:=#[.slice none 0 0,.slice none 0 0,.slice none 0 0,.int .i64 0]) (t:=43) ?hr ?_;(case hd => rfl);(case hg => rfl);(case hr => first|(go_simp;done)|(go_simp;rfl));intro gb206 hg w7 hbox hb;have BK206:=zh (hbox);have GW206:=zh ((by rw [hg];exact (zB (by repeat (with_reducible first|exact HB.out|apply za|apply zb|apply zc))) : w.heap.size≤gb206));have GE206:=zh ((by rw [hg];exact (zB (by repeat (with_reducible first|exact HB.out|apply za|apply zb|apply zc))) : w.heap.size≤gb206));replace HB:=zh (zC (by repeat (with_reducible first|exact HB.out|apply za|apply zb|apply zc)) hb);clear hb hbox hg)|(go_at_call 29;(with_reducible refine (Fw.calls  (l0.length : Int) 1 3 true _ A5.out).mono ?_);rintro e w' ⟨rfl,⟨nd,rfl⟩⟩;(try first|exact ⟨rfl,_,World.drewN_drewN _ _ _⟩|exact ⟨rfl,_,Eq.trans (World.drewN_drewN _ _ _) (congrArg (World.drewN _) (Nat.add_assoc _ _ _))⟩)));try go_wp2_with (first|((with_reducible refine zK (N:=2) rfl ?_);refine zI ?hg (N:=2) ?hd (cs:=#[.slice none 0 0,.slice none 0 0,.slice none 0 0,.int .i64 0]) (t:=43) ?hr ?_;(case hd => rfl);(case hg => rfl);(case hr => first|(go_simp;done)|(go_simp;rfl));intro gb206 hg w7 hbox hb;have BK206:=zh (hbox);have GW206:=zh ((by rw [hg];exact (zB (by repeat (with_reducible first|exact HB.out|apply za|apply zb|apply zc))) : w.heap.size≤gb206));have GE206:=zh ((by rw [hg];exact (zB (by repeat (with_reducible first|exact HB.out|apply za|apply zb|apply zc))) : w.heap.size≤gb206));replace HB:=zh (zC (by repeat (with_reducible first|exact HB.out|apply za|apply zb|apply zc)) hb);clear hb hbox hg)|(go_at_call 29;(with_reducible refine (Fw.calls  (l0.length : Int) 1 3 true _ A5.out).mono ?_);rintro e w' ⟨rfl,⟨nd,rfl⟩⟩;(try first|exact ⟨rfl,_,World.drewN_drewN _ _ _⟩|exact ⟨rfl,_,Eq.trans (World.drewN_drewN _ _ _) (congrArg (World.drewN _) (Nat.add_assoc _ _ _))⟩))))
  go_loopg [4] k (fun kq v4 w' => ∃ (x4_1 : Int) (x207003_1 : Int),v4 = .int .i64 x4_1∧Aside0 (F8.l0 kq l0 x4_1=some (r1,r2,r3,r4,r5))∧Aside0 (kq≤k)∧Aside0 (w'.heap[gb206]? = some (.cells #[(.slice none 0 0),(.slice none 0 0),(.slice none 0 0),.int .i64 x207003_1] 43 (0,0)))∧Aside0 (Below w.heap.size w w'))
  case atStart => exact ⟨(0),(0),(by first|rfl|(simp;done)|(simp [*];done)),H',⟨ye _⟩,⟨by (with_reducible repeat (first|refine ze ?_ _|refine zf ?_|refine zg ?_ _));exact BK206.out⟩,⟨by repeat (with_reducible first|exact HB.out|apply za|apply zb|apply zc|refine zd ?_ GE206.out)⟩⟩
  case round =>
   clear H'
   try clear c1
   try clear c2
   try clear c2b0
   try clear c2b1
   try clear p2
   try clear c6
   try clear hcz4_0
   try clear hcz4_1
   try clear hcz4_2
   try clear hcz4_3
   try clear hfz4_0
   try clear hfz4_1
   try clear hfz4_2
   try clear hfz4_3
   obtain ⟨x4_1,x207003_1,rfl,HA,HK1,BK206,HB⟩:=hrel
   cases gk with
   | zero => exact absurd HA.out (by simp [F8.l0])
   | succ k1 =>
    have H:=HA.out;clear HA;simp only [F8.l0] at H
    by_cases c8 : x4_1<(l0.length : Int)
    ·
     rw [if_pos c8] at H
     have c8b0 : decide (x4_1<(l0.length : Int))=true:=decide_eq_true c8;clear c8
     by_cases c9 : 0≤x4_1
     ·
      rw [if_pos c9] at H
      have c9b0 : decide (0≤x4_1)=true:=decide_eq_true c9;clear c9;replace H:=zT.mp H;obtain ⟨t219,A100,H⟩:=H;replace H : (if t219=true then (if x4_1 > 0 then (if 0≤(wrap64 (x4_1 - 1)) then (if (wrap64 (x4_1 - 1))<(l0.length : Int) then (if ((Op.bytesLess ((rdOf ByteArray.empty l0 (wrap64 (x4_1 - 1))).toList) ((rdOf ByteArray.empty l0 x4_1).toList))=true) then (F8.l0 k1 l0 (wrap64 (x4_1 + 1))) else (some (([] : List (S62)),([] : List (S78)),([] : List (S82)),0,19))) else (none)) else (none)) else (F8.l0 k1 l0 (wrap64 (x4_1 + 1)))) else (some (([] : List (S62)),([] : List (S78)),([] : List (S82)),0,11)))=some (r1,r2,r3,r4,r5):=H;have A10:=zh A100;clear A100
      by_cases c11 : t219=true
      ·
       subst c11
       have H1 : (if x4_1 > 0 then (if 0≤(wrap64 (x4_1 - 1)) then (if (wrap64 (x4_1 - 1))<(l0.length : Int) then (if ((Op.bytesLess ((rdOf ByteArray.empty l0 (wrap64 (x4_1 - 1))).toList) ((rdOf ByteArray.empty l0 x4_1).toList))=true) then (F8.l0 k1 l0 (wrap64 (x4_1 + 1))) else (some (([] : List (S62)),([] : List (S78)),([] : List (S82)),0,19))) else (none)) else (none)) else (F8.l0 k1 l0 (wrap64 (x4_1 + 1))))=some (r1,r2,r3,r4,r5):=by rw [if_pos rfl] at H;exact H
       clear H;have H:=H1;clear H1
       by_cases c12 : x4_1 > 0
       ·
        rw [if_pos c12] at H
        have c12b0 : decide (0<x4_1)=true:=decide_eq_true c12;clear c12;obtain ⟨ji13,hji13⟩ : ∃ j_ : Int,(wrap64 (x4_1 - 1))=j_:=⟨_,rfl⟩;replace H : (if 0≤(ji13) then (if (ji13)<(l0.length : Int) then (if ((Op.bytesLess ((rdOf ByteArray.empty l0 (ji13)).toList) ((rdOf ByteArray.empty l0 x4_1).toList))=true) then (F8.l0 k1 l0 (wrap64 (x4_1 + 1))) else (some (([] : List (S62)),([] : List (S78)),([] : List (S82)),0,19))) else (none)) else (none))=some (r1,r2,r3,r4,r5):=by first|(rw [hji13] at H;exact H)|(simp only [hji13] at H ⊢;exact H)
        (try rw [hji13] at A10);have hji13w : (IntKind.i64.wrap (x4_1 - 1))=ji13:=(zG _).trans hji13
        by_cases c14 : 0≤(ji13)
        ·
         rw [if_pos c14] at H
         have c14b0 : decide (0≤(ji13))=true:=decide_eq_true c14;clear c14
         by_cases c15 : (ji13)<(l0.length : Int)
         ·
          rw [if_pos c15] at H
          have c15b0 : decide ((ji13)<(l0.length : Int))=true:=decide_eq_true c15;clear c15
          by_cases c16 : ((Op.bytesLess ((rdOf ByteArray.empty l0 (ji13)).toList) ((rdOf ByteArray.empty l0 x4_1).toList))=true)
          ·
           rw [if_pos c16] at H
           have c16b0 : (Op.bytesLess ((rdOf ByteArray.empty l0 (ji13)).toList) ((rdOf ByteArray.empty l0 x4_1).toList))=true:=c16;clear c16;have H':=zh H;clear H;have p218 : 0≤(x4_1 : Int):=zy (by first|(with_reducible assumption)|assumption);have q218 : x4_1<(l0.length : Int):=zy (by first|(with_reducible assumption)|assumption);obtain ⟨ad218,e218,hx218_0⟩:=Kd.at_string HR0.out x4_1 p218 q218
           cases e218
           replace hx218_0:=(HB.out.cell (zl w _ hx218_0)).trans hx218_0;replace p218:=eq_true p218;replace q218:=eq_true q218;have p220 : 0≤((ji13) : Int):=zy (by first|(with_reducible assumption)|assumption);have q220 : (ji13)<(l0.length : Int):=zy (by first|(with_reducible assumption)|assumption);obtain ⟨ad220,e220,hx220_0⟩:=Kd.at_string HR0.out (ji13) p220 q220;obtain rfl : ad218=ad220:=(by injection e220);replace hx220_0:=(HB.out.cell (zl w _ hx220_0)).trans hx220_0;replace p220:=eq_true p220;replace q220:=eq_true q220;have p221 : 0≤(x4_1 : Int):=zy (by first|(with_reducible assumption)|assumption);have q221 : x4_1<(l0.length : Int):=zy (by first|(with_reducible assumption)|assumption);obtain ⟨ad221,e221,hx221_0⟩:=Kd.at_string HR0.out x4_1 p221 q221;obtain rfl : ad218=ad221:=(by injection e221);replace hx221_0:=(HB.out.cell (zl w _ hx221_0)).trans hx221_0;replace p221:=eq_true p221;replace q221:=eq_true q221
           go_wp2_with (first|(go_at_call 30;(with_reducible refine (Fq.calls k1  (rdOf ByteArray.empty l0 x4_1) true _ A10.out).mono ?_);rintro e w' ⟨rfl,⟨nd,rfl⟩⟩;(try first|exact ⟨rfl,_,World.drewN_drewN _ _ _⟩|exact ⟨rfl,_,Eq.trans (World.drewN_drewN _ _ _) (congrArg (World.drewN _) (Nat.add_assoc _ _ _))⟩)))
           repeat (go_quiet (first|(go_at_call 30;(with_reducible refine (Fq.calls k1  (rdOf ByteArray.empty l0 x4_1) true _ A10.out).mono ?_);rintro e w' ⟨rfl,⟨nd,rfl⟩⟩;(try first|exact ⟨rfl,_,World.drewN_drewN _ _ _⟩|exact ⟨rfl,_,Eq.trans (World.drewN_drewN _ _ _) (congrArg (World.drewN _) (Nat.add_assoc _ _ _))⟩)));try go_wp2_with (first|(go_at_call 30;(with_reducible refine (Fq.calls k1  (rdOf ByteArray.empty l0 x4_1) true _ A10.out).mono ?_);rintro e w' ⟨rfl,⟨nd,rfl⟩⟩;(try first|exact ⟨rfl,_,World.drewN_drewN _ _ _⟩|exact ⟨rfl,_,Eq.trans (World.drewN_drewN _ _ _) (congrArg (World.drewN _) (Nat.add_assoc _ _ _))⟩))))
           go_roundg k1
           case measure => have:=HK1.out;omega
           case rel => exact ⟨(wrap64 (x4_1 + 1)),(x207003_1),(by first|rfl|(simp;done)|(simp [*];done)),H',⟨by have:=HK1.out;omega⟩,⟨by (with_reducible repeat (first|refine ze ?_ _|refine zf ?_|refine zg ?_ _));exact BK206.out⟩,⟨by repeat (with_reducible first|exact HB.out|apply za|apply zb|apply zc|refine zd ?_ GE206.out)⟩⟩
          rw [if_neg c16] at H;have c16b0 : (Op.bytesLess ((rdOf ByteArray.empty l0 (ji13)).toList) ((rdOf ByteArray.empty l0 x4_1).toList))=false:=by simpa using c16
          clear c16;simp only [Option.some.injEq,Prod.mk.injEq] at H;obtain ⟨rfl,rfl,rfl,rfl,rfl⟩:=H;have p218 : 0≤(x4_1 : Int):=zy (by first|(with_reducible assumption)|assumption);have q218 : x4_1<(l0.length : Int):=zy (by first|(with_reducible assumption)|assumption);obtain ⟨ad218,e218,hx218_0⟩:=Kd.at_string HR0.out x4_1 p218 q218
          cases e218
          replace hx218_0:=(HB.out.cell (zl w _ hx218_0)).trans hx218_0;replace p218:=eq_true p218;replace q218:=eq_true q218;have p220 : 0≤((ji13) : Int):=zy (by first|(with_reducible assumption)|assumption);have q220 : (ji13)<(l0.length : Int):=zy (by first|(with_reducible assumption)|assumption);obtain ⟨ad220,e220,hx220_0⟩:=Kd.at_string HR0.out (ji13) p220 q220;obtain rfl : ad218=ad220:=(by injection e220);replace hx220_0:=(HB.out.cell (zl w _ hx220_0)).trans hx220_0;replace p220:=eq_true p220;replace q220:=eq_true q220;have p221 : 0≤(x4_1 : Int):=zy (by first|(with_reducible assumption)|assumption);have q221 : x4_1<(l0.length : Int):=zy (by first|(with_reducible assumption)|assumption);obtain ⟨ad221,e221,hx221_0⟩:=Kd.at_string HR0.out x4_1 p221 q221;obtain rfl : ad218=ad221:=(by injection e221);replace hx221_0:=(HB.out.cell (zl w _ hx221_0)).trans hx221_0;replace p221:=eq_true p221;replace q221:=eq_true q221;have hcz17_0 : wr.cell? ⟨gb206,0,none⟩=some (.slice none 0 0):=(zz BK206.out 0).trans rfl;have hcz17_1 : wr.cell? ⟨gb206,1,none⟩=some (.slice none 0 0):=(zz BK206.out 1).trans rfl;have hcz17_2 : wr.cell? ⟨gb206,2,none⟩=some (.slice none 0 0):=(zz BK206.out 2).trans rfl;have hcz17_3 : wr.cell? ⟨gb206,3,none⟩=some (.int .i64 x207003_1):=(zz BK206.out 3).trans rfl;have hfz17_0:=zA BK206.out 0;have hfz17_1:=zA BK206.out 1;have hfz17_2:=zA BK206.out 2;have hfz17_3:=zA BK206.out 3
          go_wp2_with (first|(go_at_call 30;(with_reducible refine (Fq.calls k1  (rdOf ByteArray.empty l0 x4_1) true _ A10.out).mono ?_);rintro e w' ⟨rfl,⟨nd,rfl⟩⟩;(try first|exact ⟨rfl,_,World.drewN_drewN _ _ _⟩|exact ⟨rfl,_,Eq.trans (World.drewN_drewN _ _ _) (congrArg (World.drewN _) (Nat.add_assoc _ _ _))⟩)))
          repeat (go_quiet (first|(go_at_call 30;(with_reducible refine (Fq.calls k1  (rdOf ByteArray.empty l0 x4_1) true _ A10.out).mono ?_);rintro e w' ⟨rfl,⟨nd,rfl⟩⟩;(try first|exact ⟨rfl,_,World.drewN_drewN _ _ _⟩|exact ⟨rfl,_,Eq.trans (World.drewN_drewN _ _ _) (congrArg (World.drewN _) (Nat.add_assoc _ _ _))⟩)));try go_wp2_with (first|(go_at_call 30;(with_reducible refine (Fq.calls k1  (rdOf ByteArray.empty l0 x4_1) true _ A10.out).mono ?_);rintro e w' ⟨rfl,⟨nd,rfl⟩⟩;(try first|exact ⟨rfl,_,World.drewN_drewN _ _ _⟩|exact ⟨rfl,_,Eq.trans (World.drewN_drewN _ _ _) (congrArg (World.drewN _) (Nat.add_assoc _ _ _))⟩))))
          refine bodyPost_ret (results_ct rfl _ _ gb206 43 #[.slice none 0 0,.slice none 0 0,.slice none 0 0,.int .i64 0] (0,0) _ rfl (by (with_reducible repeat (first|refine ze ?_ _|refine zf ?_|refine zg ?_ _));refine zL (cs:=#[.slice none 0 0,.slice none 0 0,.slice none 0 0,.int .i64 x207003_1]) ?_ 3 _ rfl;(with_reducible repeat (first|refine ze ?_ _|refine zf ?_|refine zg ?_ _));refine zL (cs:=#[.slice none 0 0,.slice none 0 0,.slice none 0 0,.int .i64 x207003_1]) ?_ 2 _ rfl;(with_reducible repeat (first|refine ze ?_ _|refine zf ?_|refine zg ?_ _));refine zL (cs:=#[.slice none 0 0,.slice none 0 0,.slice none 0 0,.int .i64 x207003_1]) ?_ 1 _ rfl;(with_reducible repeat (first|refine ze ?_ _|refine zf ?_|refine zg ?_ _));refine zL (cs:=#[.slice none 0 0,.slice none 0 0,.slice none 0 0,.int .i64 x207003_1]) ?_ 0 _ rfl;(with_reducible repeat (first|refine ze ?_ _|refine zf ?_|refine zg ?_ _));exact BK206.out) Try.underlying43 rfl (by kernel_rfl)) rfl ?_;exact ⟨_,_,_,by first|rfl|(simp [yt,yu] <;> rfl)|(simp only [← hji13];first|rfl|(simp [yt,yu] <;> rfl))|(simp [*,yt,yu] <;> rfl),by first|exact Kd.R_nil _ _ _ _ _|exact Kd.N_nil _ _ _ _ _|exact Kd.V_nil _ _ _ _ _|exact Kd.Q_nil _ _ _ _ _|exact Kd.S_nil _ _ _ _ _,by first|exact Kd.R_nil _ _ _ _ _|exact Kd.N_nil _ _ _ _ _|exact Kd.V_nil _ _ _ _ _|exact Kd.Q_nil _ _ _ _ _|exact Kd.S_nil _ _ _ _ _,by first|exact Kd.R_nil _ _ _ _ _|exact Kd.N_nil _ _ _ _ _|exact Kd.V_nil _ _ _ _ _|exact Kd.Q_nil _ _ _ _ _|exact Kd.S_nil _ _ _ _ _,by repeat (with_reducible first|exact HB.out|apply za|apply zb|apply zc|refine zd ?_ GE206.out)⟩
         rw [if_neg c15] at H;exact absurd H (by simp)
        rw [if_neg c14] at H;exact absurd H (by simp)
       rw [if_neg c12] at H;have c12b0 : decide (0<x4_1)=false:=decide_eq_false c12;clear c12;have H':=zh H;clear H;have p218 : 0≤(x4_1 : Int):=zy (by first|(with_reducible assumption)|assumption);have q218 : x4_1<(l0.length : Int):=zy (by first|(with_reducible assumption)|assumption);obtain ⟨ad218,e218,hx218_0⟩:=Kd.at_string HR0.out x4_1 p218 q218
       cases e218
       replace hx218_0:=(HB.out.cell (zl w _ hx218_0)).trans hx218_0;replace p218:=eq_true p218;replace q218:=eq_true q218
       go_wp2_with (first|(go_at_call 30;(with_reducible refine (Fq.calls k1  (rdOf ByteArray.empty l0 x4_1) true _ A10.out).mono ?_);rintro e w' ⟨rfl,⟨nd,rfl⟩⟩;(try first|exact ⟨rfl,_,World.drewN_drewN _ _ _⟩|exact ⟨rfl,_,Eq.trans (World.drewN_drewN _ _ _) (congrArg (World.drewN _) (Nat.add_assoc _ _ _))⟩)))
       repeat (go_quiet (first|(go_at_call 30;(with_reducible refine (Fq.calls k1  (rdOf ByteArray.empty l0 x4_1) true _ A10.out).mono ?_);rintro e w' ⟨rfl,⟨nd,rfl⟩⟩;(try first|exact ⟨rfl,_,World.drewN_drewN _ _ _⟩|exact ⟨rfl,_,Eq.trans (World.drewN_drewN _ _ _) (congrArg (World.drewN _) (Nat.add_assoc _ _ _))⟩)));try go_wp2_with (first|(go_at_call 30;(with_reducible refine (Fq.calls k1  (rdOf ByteArray.empty l0 x4_1) true _ A10.out).mono ?_);rintro e w' ⟨rfl,⟨nd,rfl⟩⟩;(try first|exact ⟨rfl,_,World.drewN_drewN _ _ _⟩|exact ⟨rfl,_,Eq.trans (World.drewN_drewN _ _ _) (congrArg (World.drewN _) (Nat.add_assoc _ _ _))⟩))))
       go_roundg k1
       case measure => have:=HK1.out;omega
       case rel => exact ⟨(wrap64 (x4_1 + 1)),(x207003_1),(by first|rfl|(simp;done)|(simp [*];done)),H',⟨by have:=HK1.out;omega⟩,⟨by (with_reducible repeat (first|refine ze ?_ _|refine zf ?_|refine zg ?_ _));exact BK206.out⟩,⟨by repeat (with_reducible first|exact HB.out|apply za|apply zb|apply zc|refine zd ?_ GE206.out)⟩⟩
      replace c11:=yb.mpr c11;subst c11;have H1 : (some (([] : List (S62)),([] : List (S78)),([] : List (S82)),0,11))=some (r1,r2,r3,r4,r5):=by rw [if_neg (show ¬ (false=true) by decide)] at H;exact H
      clear H;have H:=H1;clear H1;simp only [Option.some.injEq,Prod.mk.injEq] at H;obtain ⟨rfl,rfl,rfl,rfl,rfl⟩:=H;have p218 : 0≤(x4_1 : Int):=zy (by first|(with_reducible assumption)|assumption);have q218 : x4_1<(l0.length : Int):=zy (by first|(with_reducible assumption)|assumption);obtain ⟨ad218,e218,hx218_0⟩:=Kd.at_string HR0.out x4_1 p218 q218
      cases e218
      replace hx218_0:=(HB.out.cell (zl w _ hx218_0)).trans hx218_0;replace p218:=eq_true p218;replace q218:=eq_true q218;have hcz18_0 : wr.cell? ⟨gb206,0,none⟩=some (.slice none 0 0):=(zz BK206.out 0).trans rfl;have hcz18_1 : wr.cell? ⟨gb206,1,none⟩=some (.slice none 0 0):=(zz BK206.out 1).trans rfl;have hcz18_2 : wr.cell? ⟨gb206,2,none⟩=some (.slice none 0 0):=(zz BK206.out 2).trans rfl;have hcz18_3 : wr.cell? ⟨gb206,3,none⟩=some (.int .i64 x207003_1):=(zz BK206.out 3).trans rfl;have hfz18_0:=zA BK206.out 0;have hfz18_1:=zA BK206.out 1;have hfz18_2:=zA BK206.out 2;have hfz18_3:=zA BK206.out 3
      go_wp2_with (first|(go_at_call 30;(with_reducible refine (Fq.calls k1  (rdOf ByteArray.empty l0 x4_1) false _ A10.out).mono ?_);rintro e w' ⟨rfl,⟨nd,rfl⟩⟩;(try first|exact ⟨rfl,_,World.drewN_drewN _ _ _⟩|exact ⟨rfl,_,Eq.trans (World.drewN_drewN _ _ _) (congrArg (World.drewN _) (Nat.add_assoc _ _ _))⟩)))
      repeat (go_quiet (first|(go_at_call 30;(with_reducible refine (Fq.calls k1  (rdOf ByteArray.empty l0 x4_1) false _ A10.out).mono ?_);rintro e w' ⟨rfl,⟨nd,rfl⟩⟩;(try first|exact ⟨rfl,_,World.drewN_drewN _ _ _⟩|exact ⟨rfl,_,Eq.trans (World.drewN_drewN _ _ _) (congrArg (World.drewN _) (Nat.add_assoc _ _ _))⟩)));try go_wp2_with (first|(go_at_call 30;(with_reducible refine (Fq.calls k1  (rdOf ByteArray.empty l0 x4_1) false _ A10.out).mono ?_);rintro e w' ⟨rfl,⟨nd,rfl⟩⟩;(try first|exact ⟨rfl,_,World.drewN_drewN _ _ _⟩|exact ⟨rfl,_,Eq.trans (World.drewN_drewN _ _ _) (congrArg (World.drewN _) (Nat.add_assoc _ _ _))⟩))))
      refine bodyPost_ret (results_ct rfl _ _ gb206 43 #[.slice none 0 0,.slice none 0 0,.slice none 0 0,.int .i64 0] (0,0) _ rfl (by (with_reducible repeat (first|refine ze ?_ _|refine zf ?_|refine zg ?_ _));refine zL (cs:=#[.slice none 0 0,.slice none 0 0,.slice none 0 0,.int .i64 x207003_1]) ?_ 3 _ rfl;(with_reducible repeat (first|refine ze ?_ _|refine zf ?_|refine zg ?_ _));refine zL (cs:=#[.slice none 0 0,.slice none 0 0,.slice none 0 0,.int .i64 x207003_1]) ?_ 2 _ rfl;(with_reducible repeat (first|refine ze ?_ _|refine zf ?_|refine zg ?_ _));refine zL (cs:=#[.slice none 0 0,.slice none 0 0,.slice none 0 0,.int .i64 x207003_1]) ?_ 1 _ rfl;(with_reducible repeat (first|refine ze ?_ _|refine zf ?_|refine zg ?_ _));refine zL (cs:=#[.slice none 0 0,.slice none 0 0,.slice none 0 0,.int .i64 x207003_1]) ?_ 0 _ rfl;(with_reducible repeat (first|refine ze ?_ _|refine zf ?_|refine zg ?_ _));exact BK206.out) Try.underlying43 rfl (by kernel_rfl)) rfl ?_;exact ⟨_,_,_,by first|rfl|(simp [yt,yu] <;> rfl)|(simp [*,yt,yu] <;> rfl),by first|exact Kd.R_nil _ _ _ _ _|exact Kd.N_nil _ _ _ _ _|exact Kd.V_nil _ _ _ _ _|exact Kd.Q_nil _ _ _ _ _|exact Kd.S_nil _ _ _ _ _,by first|exact Kd.R_nil _ _ _ _ _|exact Kd.N_nil _ _ _ _ _|exact Kd.V_nil _ _ _ _ _|exact Kd.Q_nil _ _ _ _ _|exact Kd.S_nil _ _ _ _ _,by first|exact Kd.R_nil _ _ _ _ _|exact Kd.N_nil _ _ _ _ _|exact Kd.V_nil _ _ _ _ _|exact Kd.Q_nil _ _ _ _ _|exact Kd.S_nil _ _ _ _ _,by repeat (with_reducible first|exact HB.out|apply za|apply zb|apply zc|refine zd ?_ GE206.out)⟩
     rw [if_neg c9] at H;exact absurd H (by simp)
    rw [if_neg c8] at H;have c8b0 : decide (x4_1<(l0.length : Int))=false:=decide_eq_false c8;clear c8;replace H:=zT.mp H;obtain ⟨⟨t208,t211,t214,t217⟩,A190,H⟩:=H;replace H : (some (t208,t211,t214,t217,0))=some (r1,r2,r3,r4,r5):=H;have A19:=zh A190;clear A190;simp only [Option.some.injEq,Prod.mk.injEq] at H;obtain ⟨rfl,rfl,rfl,rfl,rfl⟩:=H
    go_wp2_with (first|(go_at_call 31;(with_reducible refine (F5.calls k1  _ _ l0 t208 t211 t214 t217 _ ?side1 ?side2 A19.out).mono ?_);(case side1 => repeat (first|exact (Kd.C_below HR0.out HB.out)|(with_reducible refine Kd.C_alloc ?_ _)|(with_reducible refine Kd.C_drewN ?_ _)|(with_reducible refine Kd.C_drew ?_)));(case side2 => exact HC0.out);rintro e w20 ⟨v209,v212,v215,rfl,ho0,ho1,ho2,hb⟩;have HO210:=zh (yx ho0 (zB (by repeat (with_reducible first|exact HB.out|apply za|apply zb|apply zc|refine zd ?_ GE206.out))));have HO213:=zh (yx ho1 (zB (by repeat (with_reducible first|exact HB.out|apply za|apply zb|apply zc|refine zd ?_ GE206.out))));have HO216:=zh (yx ho2 (zB (by repeat (with_reducible first|exact HB.out|apply za|apply zb|apply zc|refine zd ?_ GE206.out))));replace BK206:=zh (zD (g:=gb206) (o:=.cells #[.slice none 0 0,.slice none 0 0,.slice none 0 0,.int .i64 x207003_1] 43 (0,0)) (by (with_reducible repeat (first|refine ze ?_ _|refine zf ?_|refine zg ?_ _));exact BK206.out) hb);replace HB:=zh (zC (by repeat (with_reducible first|exact HB.out|apply za|apply zb|apply zc|refine zd ?_ GE206.out)) hb);(try clear hb);(try clear hb2);(try clear hk);(try clear hi);(try clear ho0);(try clear ho1);(try clear ho2);obtain ⟨Ao21,co21,eo21⟩:=yk HO210.out;subst eo21;have hcz22_0 : w20.cell? ⟨gb206,0,none⟩=some (.slice none 0 0):=(zz BK206.out 0).trans rfl;have hcz22_1 : w20.cell? ⟨gb206,1,none⟩=some (.slice none 0 0):=(zz BK206.out 1).trans rfl;have hcz22_2 : w20.cell? ⟨gb206,2,none⟩=some (.slice none 0 0):=(zz BK206.out 2).trans rfl;have hcz22_3 : w20.cell? ⟨gb206,3,none⟩=some (.int .i64 x207003_1):=(zz BK206.out 3).trans rfl;have hfz22_0:=zA BK206.out 0;have hfz22_1:=zA BK206.out 1;have hfz22_2:=zA BK206.out 2;have hfz22_3:=zA BK206.out 3;obtain ⟨Ao23,co23,eo23⟩:=yk HO213.out;subst eo23;obtain ⟨Ao24,co24,eo24⟩:=yk HO216.out;subst eo24))
    repeat (go_quiet (first|(go_at_call 31;(with_reducible refine (F5.calls k1  _ _ l0 t208 t211 t214 t217 _ ?side1 ?side2 A19.out).mono ?_);(case side1 => repeat (first|exact (Kd.C_below HR0.out HB.out)|(with_reducible refine Kd.C_alloc ?_ _)|(with_reducible refine Kd.C_drewN ?_ _)|(with_reducible refine Kd.C_drew ?_)));(case side2 => exact HC0.out);rintro e w20 ⟨v209,v212,v215,rfl,ho0,ho1,ho2,hb⟩;have HO210:=zh (yx ho0 (zB (by repeat (with_reducible first|exact HB.out|apply za|apply zb|apply zc|refine zd ?_ GE206.out))));have HO213:=zh (yx ho1 (zB (by repeat (with_reducible first|exact HB.out|apply za|apply zb|apply zc|refine zd ?_ GE206.out))));have HO216:=zh (yx ho2 (zB (by repeat (with_reducible first|exact HB.out|apply za|apply zb|apply zc|refine zd ?_ GE206.out))));replace BK206:=zh (zD (g:=gb206) (o:=.cells #[.slice none 0 0,.slice none 0 0,.slice none 0 0,.int .i64 x207003_1] 43 (0,0)) (by (with_reducible repeat (first|refine ze ?_ _|refine zf ?_|refine zg ?_ _));exact BK206.out) hb);replace HB:=zh (zC (by repeat (with_reducible first|exact HB.out|apply za|apply zb|apply zc|refine zd ?_ GE206.out)) hb);(try clear hb);(try clear hb2);(try clear hk);(try clear hi);(try clear ho0);(try clear ho1);(try clear ho2);obtain ⟨Ao21,co21,eo21⟩:=yk HO210.out;subst eo21;have hcz22_0 : w20.cell? ⟨gb206,0,none⟩=some (.slice none 0 0):=(zz BK206.out 0).trans rfl;have hcz22_1 : w20.cell? ⟨gb206,1,none⟩=some (.slice none 0 0):=(zz BK206.out 1).trans rfl;have hcz22_2 : w20.cell? ⟨gb206,2,none⟩=some (.slice none 0 0):=(zz BK206.out 2).trans rfl;have hcz22_3 : w20.cell? ⟨gb206,3,none⟩=some (.int .i64 x207003_1):=(zz BK206.out 3).trans rfl;have hfz22_0:=zA BK206.out 0;have hfz22_1:=zA BK206.out 1;have hfz22_2:=zA BK206.out 2;have hfz22_3:=zA BK206.out 3;obtain ⟨Ao23,co23,eo23⟩:=yk HO213.out;subst eo23;obtain ⟨Ao24,co24,eo24⟩:=yk HO216.out;subst eo24));try go_wp2_with (first|(go_at_call 31;(with_reducible refine (F5.calls k1  _ _ l0 t208 t211 t214 t217 _ ?side1 ?side2 A19.out).mono ?_);(case side1 => repeat (first|exact (Kd.C_below HR0.out HB.out)|(with_reducible refine Kd.C_alloc ?_ _)|(with_reducible refine Kd.C_drewN ?_ _)|(with_reducible refine Kd.C_drew ?_)));(case side2 => exact HC0.out);rintro e w20 ⟨v209,v212,v215,rfl,ho0,ho1,ho2,hb⟩;have HO210:=zh (yx ho0 (zB (by repeat (with_reducible first|exact HB.out|apply za|apply zb|apply zc|refine zd ?_ GE206.out))));have HO213:=zh (yx ho1 (zB (by repeat (with_reducible first|exact HB.out|apply za|apply zb|apply zc|refine zd ?_ GE206.out))));have HO216:=zh (yx ho2 (zB (by repeat (with_reducible first|exact HB.out|apply za|apply zb|apply zc|refine zd ?_ GE206.out))));replace BK206:=zh (zD (g:=gb206) (o:=.cells #[.slice none 0 0,.slice none 0 0,.slice none 0 0,.int .i64 x207003_1] 43 (0,0)) (by (with_reducible repeat (first|refine ze ?_ _|refine zf ?_|refine zg ?_ _));exact BK206.out) hb);replace HB:=zh (zC (by repeat (with_reducible first|exact HB.out|apply za|apply zb|apply zc|refine zd ?_ GE206.out)) hb);(try clear hb);(try clear hb2);(try clear hk);(try clear hi);(try clear ho0);(try clear ho1);(try clear ho2);obtain ⟨Ao21,co21,eo21⟩:=yk HO210.out;subst eo21;have hcz22_0 : w20.cell? ⟨gb206,0,none⟩=some (.slice none 0 0):=(zz BK206.out 0).trans rfl;have hcz22_1 : w20.cell? ⟨gb206,1,none⟩=some (.slice none 0 0):=(zz BK206.out 1).trans rfl;have hcz22_2 : w20.cell? ⟨gb206,2,none⟩=some (.slice none 0 0):=(zz BK206.out 2).trans rfl;have hcz22_3 : w20.cell? ⟨gb206,3,none⟩=some (.int .i64 x207003_1):=(zz BK206.out 3).trans rfl;have hfz22_0:=zA BK206.out 0;have hfz22_1:=zA BK206.out 1;have hfz22_2:=zA BK206.out 2;have hfz22_3:=zA BK206.out 3;obtain ⟨Ao23,co23,eo23⟩:=yk HO213.out;subst eo23;obtain ⟨Ao24,co24,eo24⟩:=yk HO216.out;subst eo24)))
    refine bodyPost_ret (results_ct rfl _ _ gb206 43 #[.slice Ao21 t208.length co21,.slice Ao23 t211.length co23,.slice Ao24 t214.length co24,.int .i64 t217] (0,0) _ rfl (by (with_reducible repeat (first|refine ze ?_ _|refine zf ?_|refine zg ?_ _));refine zL (cs:=#[.slice Ao21 t208.length co21,.slice Ao23 t211.length co23,.slice Ao24 t214.length co24,.int .i64 x207003_1]) ?_ 3 _ rfl;(with_reducible repeat (first|refine ze ?_ _|refine zf ?_|refine zg ?_ _));refine zL (cs:=#[.slice Ao21 t208.length co21,.slice Ao23 t211.length co23,.slice none 0 0,.int .i64 x207003_1]) ?_ 2 _ rfl;(with_reducible repeat (first|refine ze ?_ _|refine zf ?_|refine zg ?_ _));refine zL (cs:=#[.slice Ao21 t208.length co21,.slice none 0 0,.slice none 0 0,.int .i64 x207003_1]) ?_ 1 _ rfl;(with_reducible repeat (first|refine ze ?_ _|refine zf ?_|refine zg ?_ _));refine zL (cs:=#[.slice none 0 0,.slice none 0 0,.slice none 0 0,.int .i64 x207003_1]) ?_ 0 _ rfl;(with_reducible repeat (first|refine ze ?_ _|refine zf ?_|refine zg ?_ _));exact BK206.out) Try.underlying43 rfl (by kernel_rfl)) rfl ?_;exact ⟨_,_,_,by first|rfl|(simp [yt,yu] <;> rfl)|(simp [*,yt,yu] <;> rfl),by (with_reducible repeat (first|apply zm|apply zn|apply zo));exact zM (zE (p:=⟨gb206,3,none⟩) (zE (p:=⟨gb206,2,none⟩) (zE (p:=⟨gb206,1,none⟩) (zE (p:=⟨gb206,0,none⟩) (yf HO210.out BK206.out (by decide)) (fun _ hk => hk.2) (.slice Ao21 t208.length co21)) (fun _ hk => hk.2) (.slice Ao23 t211.length co23)) (fun _ hk => hk.2) (.slice Ao24 t214.length co24)) (fun _ hk => hk.2) (.int .i64 t217)) (fun _ hk => trivial),by (with_reducible repeat (first|apply zm|apply zn|apply zo));exact zM (zE (p:=⟨gb206,3,none⟩) (zE (p:=⟨gb206,2,none⟩) (zE (p:=⟨gb206,1,none⟩) (zE (p:=⟨gb206,0,none⟩) (yf HO213.out BK206.out (by decide)) (fun _ hk => hk.2) (.slice Ao21 t208.length co21)) (fun _ hk => hk.2) (.slice Ao23 t211.length co23)) (fun _ hk => hk.2) (.slice Ao24 t214.length co24)) (fun _ hk => hk.2) (.int .i64 t217)) (fun _ hk => trivial),by (with_reducible repeat (first|apply zm|apply zn|apply zo));exact zM (zE (p:=⟨gb206,3,none⟩) (zE (p:=⟨gb206,2,none⟩) (zE (p:=⟨gb206,1,none⟩) (zE (p:=⟨gb206,0,none⟩) (yf HO216.out BK206.out (by decide)) (fun _ hk => hk.2) (.slice Ao21 t208.length co21)) (fun _ hk => hk.2) (.slice Ao23 t211.length co23)) (fun _ hk => hk.2) (.slice Ao24 t214.length co24)) (fun _ hk => hk.2) (.int .i64 t217)) (fun _ hk => trivial),by repeat (with_reducible first|exact HB.out|apply za|apply zb|apply zc|refine zd ?_ GE206.out)⟩
 replace c6:=yb.mpr c6;subst c6;have H1 : (some (([] : List (S62)),([] : List (S78)),([] : List (S82)),0,6))=some (r1,r2,r3,r4,r5):=by rw [if_neg (show ¬ (false=true) by decide)] at H;exact H
 clear H;have H:=H1;clear H1;simp only [Option.some.injEq,Prod.mk.injEq] at H;obtain ⟨rfl,rfl,rfl,rfl,rfl⟩:=H
 go_enter Try.func17,Try.ntmps17
 go_wp2_with (first|((with_reducible refine zK (N:=2) rfl ?_);refine zI ?hg (N:=2) ?hd (cs:=#[.slice none 0 0,.slice none 0 0,.slice none 0 0,.int .i64 0]) (t:=43) ?hr ?_;(case hd => rfl);(case hg => rfl);(case hr => first|(go_simp;done)|(go_simp;rfl));intro gb206 hg w25 hbox hb;have BK206:=zh (hbox);have GW206:=zh ((by rw [hg];exact (zB (by repeat (with_reducible first|exact HB.out|apply za|apply zb|apply zc))) : w.heap.size≤gb206));have GE206:=zh ((by rw [hg];exact (zB (by repeat (with_reducible first|exact HB.out|apply za|apply zb|apply zc))) : w.heap.size≤gb206));replace HB:=zh (zC (by repeat (with_reducible first|exact HB.out|apply za|apply zb|apply zc)) hb);clear hb hbox hg;have hcz26_0 : w25.cell? ⟨gb206,0,none⟩=some (.slice none 0 0):=(zz BK206.out 0).trans rfl;have hcz26_1 : w25.cell? ⟨gb206,1,none⟩=some (.slice none 0 0):=(zz BK206.out 1).trans rfl;have hcz26_2 : w25.cell? ⟨gb206,2,none⟩=some (.slice none 0 0):=(zz BK206.out 2).trans rfl;have hcz26_3 : w25.cell? ⟨gb206,3,none⟩=some (.int .i64 0):=(zz BK206.out 3).trans rfl;have hfz26_0:=zA BK206.out 0;have hfz26_1:=zA BK206.out 1;have hfz26_2:=zA BK206.out 2;have hfz26_3:=zA BK206.out 3)|(go_at_call 29;(with_reducible refine (Fw.calls  (l0.length : Int) 1 3 false _ A5.out).mono ?_);rintro e w' ⟨rfl,⟨nd,rfl⟩⟩;(try first|exact ⟨rfl,_,World.drewN_drewN _ _ _⟩|exact ⟨rfl,_,Eq.trans (World.drewN_drewN _ _ _) (congrArg (World.drewN _) (Nat.add_assoc _ _ _))⟩)))
 repeat (go_quiet (first|((with_reducible refine zK (N:=2) rfl ?_);refine zI ?hg (N:=2) ?hd (cs:=#[.slice none 0 0,.slice none 0 0,.slice none 0 0,.int .i64 0]) (t:=43) ?hr ?_;(case hd => rfl);(case hg => rfl);(case hr => first|(go_simp;done)|(go_simp;rfl));intro gb206 hg w25 hbox hb;have BK206:=zh (hbox);have GW206:=zh ((by rw [hg];exact (zB (by repeat (with_reducible first|exact HB.out|apply za|apply zb|apply zc))) : w.heap.size≤gb206));have GE206:=zh ((by rw [hg];exact (zB (by repeat (with_reducible first|exact HB.out|apply za|apply zb|apply zc))) : w.heap.size≤gb206));replace HB:=zh (zC (by repeat (with_reducible first|exact HB.out|apply za|apply zb|apply zc)) hb);clear hb hbox hg;have hcz26_0 : w25.cell? ⟨gb206,0,none⟩=some (.slice none 0 0):=(zz BK206.out 0).trans rfl;have hcz26_1 : w25.cell? ⟨gb206,1,none⟩=some (.slice none 0 0):=(zz BK206.out 1).trans rfl;have hcz26_2 : w25.cell? ⟨gb206,2,none⟩=some (.slice none 0 0):=(zz BK206.out 2).trans rfl;have hcz26_3 : w25.cell? ⟨gb206,3,none⟩=some (.int .i64 0):=(zz BK206.out 3).trans rfl;have hfz26_0:=zA BK206.out 0;have hfz26_1:=zA BK206.out 1;have hfz26_2:=zA BK206.out 2;have hfz26_3:=zA BK206.out 3)|(go_at_call 29;(with_reducible refine (Fw.calls  (l0.length : Int) 1 3 false _ A5.out).mono ?_);rintro e w' ⟨rfl,⟨nd,rfl⟩⟩;(try first|exact ⟨rfl,_,World.drewN_drewN _ _ _⟩|exact ⟨rfl,_,Eq.trans (World.drewN_drewN _ _ _) (congrArg (World.drewN _) (Nat.add_assoc _ _ _))⟩)));try go_wp2_with (first|((with_reducible refine zK (N:=2) rfl ?_);refine zI ?hg (N:=2) ?hd (cs:=#[.slice none 0 0,.slice none 0 0,.slice none 0 0,.int .i64 0]) (t:=43) ?hr ?_;(case hd => rfl);(case hg => rfl);(case hr => first|(go_simp;done)|(go_simp;rfl));intro gb206 hg w25 hbox hb;have BK206:=zh (hbox);have GW206:=zh ((by rw [hg];exact (zB (by repeat (with_reducible first|exact HB.out|apply za|apply zb|apply zc))) : w.heap.size≤gb206));have GE206:=zh ((by rw [hg];exact (zB (by repeat (with_reducible first|exact HB.out|apply za|apply zb|apply zc))) : w.heap.size≤gb206));replace HB:=zh (zC (by repeat (with_reducible first|exact HB.out|apply za|apply zb|apply zc)) hb);clear hb hbox hg;have hcz26_0 : w25.cell? ⟨gb206,0,none⟩=some (.slice none 0 0):=(zz BK206.out 0).trans rfl;have hcz26_1 : w25.cell? ⟨gb206,1,none⟩=some (.slice none 0 0):=(zz BK206.out 1).trans rfl;have hcz26_2 : w25.cell? ⟨gb206,2,none⟩=some (.slice none 0 0):=(zz BK206.out 2).trans rfl;have hcz26_3 : w25.cell? ⟨gb206,3,none⟩=some (.int .i64 0):=(zz BK206.out 3).trans rfl;have hfz26_0:=zA BK206.out 0;have hfz26_1:=zA BK206.out 1;have hfz26_2:=zA BK206.out 2;have hfz26_3:=zA BK206.out 3)|(go_at_call 29;(with_reducible refine (Fw.calls  (l0.length : Int) 1 3 false _ A5.out).mono ?_);rintro e w' ⟨rfl,⟨nd,rfl⟩⟩;(try first|exact ⟨rfl,_,World.drewN_drewN _ _ _⟩|exact ⟨rfl,_,Eq.trans (World.drewN_drewN _ _ _) (congrArg (World.drewN _) (Nat.add_assoc _ _ _))⟩))))
 refine bodyPost_ret (results_ct rfl _ _ gb206 43 #[.slice none 0 0,.slice none 0 0,.slice none 0 0,.int .i64 0] (0,0) _ rfl (by (with_reducible repeat (first|refine ze ?_ _|refine zf ?_|refine zg ?_ _));refine zL (cs:=#[.slice none 0 0,.slice none 0 0,.slice none 0 0,.int .i64 0]) ?_ 3 _ rfl;(with_reducible repeat (first|refine ze ?_ _|refine zf ?_|refine zg ?_ _));refine zL (cs:=#[.slice none 0 0,.slice none 0 0,.slice none 0 0,.int .i64 0]) ?_ 2 _ rfl;(with_reducible repeat (first|refine ze ?_ _|refine zf ?_|refine zg ?_ _));refine zL (cs:=#[.slice none 0 0,.slice none 0 0,.slice none 0 0,.int .i64 0]) ?_ 1 _ rfl;(with_reducible repeat (first|refine ze ?_ _|refine zf ?_|refine zg ?_ _));refine zL (cs:=#[.slice none 0 0,.slice none 0 0,.slice none 0 0,.int .i64 0]) ?_ 0 _ rfl;(with_reducible repeat (first|refine ze ?_ _|refine zf ?_|refine zg ?_ _));exact BK206.out) Try.underlying43 rfl (by kernel_rfl)) rfl ?_;exact ⟨_,_,_,by first|rfl|(simp [yt,yu] <;> rfl)|(simp [*,yt,yu] <;> rfl),by first|exact Kd.R_nil _ _ _ _ _|exact Kd.N_nil _ _ _ _ _|exact Kd.V_nil _ _ _ _ _|exact Kd.Q_nil _ _ _ _ _|exact Kd.S_nil _ _ _ _ _,by first|exact Kd.R_nil _ _ _ _ _|exact Kd.N_nil _ _ _ _ _|exact Kd.V_nil _ _ _ _ _|exact Kd.Q_nil _ _ _ _ _|exact Kd.S_nil _ _ _ _ _,by first|exact Kd.R_nil _ _ _ _ _|exact Kd.N_nil _ _ _ _ _|exact Kd.V_nil _ _ _ _ _|exact Kd.Q_nil _ _ _ _ _|exact Kd.S_nil _ _ _ _ _,by repeat (with_reducible first|exact HB.out|apply za|apply zb|apply zc|refine zd ?_ GE206.out)⟩


def F6.l0 : Nat→List ByteArray→List ByteArray→Int→Int→List (S62)→Int→Option ((List (S62))×(List (S78))×(List (S82))×Int×Int)
 | 0,_,_,_,_,_,_ => none
 | k + 1,x0,x19,x20,x21,x234000,x234003 => if x21<x20 then (if 0≤x21 then (if x21<(x19.length : Int) then ((Fr.f k (rdOf ByteArray.empty x19 x21)).bind fun t235 => (if t235=true then (if x21 > 0 then (if 0≤(wrap64 (x21 - 1)) then (if (wrap64 (x21 - 1))<(x0.length : Int) then (if ((Op.bytesLess ((rdOf ByteArray.empty x0 (wrap64 (x21 - 1))).toList) ((rdOf ByteArray.empty x19 x21).toList))=true) then (if x234000.length<2199023255552 then (F6.l0 k x0 x19 x20 (wrap64 (x21 + 1)) (x234000 ++ [(⟨rdOf ByteArray.empty x19 x21,([] : List (S100)),([] : List (S104))⟩ : S62)]) x234003) else (none)) else (some (([] : List (S62)),([] : List (S78)),([] : List (S82)),0,19))) else (none)) else (none)) else (if x234000.length<2199023255552 then (F6.l0 k x0 x19 x20 (wrap64 (x21 + 1)) (x234000 ++ [(⟨rdOf ByteArray.empty x19 x21,([] : List (S100)),([] : List (S104))⟩ : S62)]) x234003) else (none))) else (some (([] : List (S62)),([] : List (S78)),([] : List (S82)),0,11)))) else (none)) else (none)) else (some (x234000,([] : List (S78)),([] : List (S82)),x234003,0))
def F6.f (k : Nat) (l0 : List ByteArray) : Option ((List (S62))×(List (S78))×(List (S82))×Int×Int):=if (l0.length : Int) > 4096 then (some (([] : List (S62)),([] : List (S78)),([] : List (S82)),0,2)) else ((Fy.f (l0.length : Int) 1 3).bind fun t232 => (if t232=true then (F6.l0 k l0 l0 (l0.length : Int) 0 ([] : List (S62)) 0) else (some (([] : List (S62)),([] : List (S78)),([] : List (S82)),0,6))))
theorem F6.mono_l : ∀ k,(∀ y0 y1 y2 y3 y4 y5,LeO (F6.l0 k y0 y1 y2 y3 y4 y5) (F6.l0 (k + 1) y0 y1 y2 y3 y4 y5))
 | 0 => fun _ _ _ _ _ _ r h => by simp [F6.l0] at h
 | k + 1 => by
  have ih0:=F6.mono_l k;intro y0 y1 y2 y3 y4 y5;unfold F6.l0
  repeat' first|(with_reducible first|exact ih0 _ _ _ _ _ _|exact Fr.mono _ _|exact zQ _|exact zN _|refine zP ?_ ?_|refine zO ?_ (fun _ => ?_))|refine zP ?_ ?_|refine zO ?_ (fun _ => ?_)
theorem F6.mono : ∀ a0 k,LeO (F6.f k a0) (F6.f (k + 1) a0):=by
 intro a0 k;have ih0:=F6.mono_l k;unfold F6.f
 repeat' first|(with_reducible first|exact ih0 _ _ _ _ _ _|exact Fr.mono _ _|exact zQ _|exact zN _|refine zP ?_ ?_|refine zO ?_ (fun _ => ?_))|refine zP ?_ ?_|refine zO ?_ (fun _ => ?_)
set_option maxHeartbeats 8000000 in
set_option maxRecDepth 100000 in
theorem F6.calls (k : Nat) (A0 : Option Addr) (c0 : Nat) (l0 : List ByteArray) (r1 : List (S62)) (r2 : List (S78)) (r3 : List (S82)) (r4 : Int) (r5 : Int) (w : World) (hr0 : Kd.C Kd.string w A0 l0.length l0) (hc0 : l0.length≤c0) (h : F6.f k l0=some (r1,r2,r3,r4,r5)) :
  Calls Try.prog 19 #[.slice A0 l0.length c0] w fun e w' => ∃ v0_ v1_ v2_ : Value,e = .returned (.tuple #[.agg #[v0_,v1_,v2_,.int .i64 r4],.int .i64 r5])∧Kd.R k62 62 w' w.heap.size (fun _ => True) v0_ r1∧Kd.R k78 78 w' w.heap.size (fun _ => True) v1_ r2∧Kd.R k82 82 w' w.heap.size (fun _ => True) v2_ r3∧Below w.heap.size w w':=by
 have hu43:=Try.underlying43;have hu62:=Try.underlying62;have HR0:=zh hr0;have HC0:=zh hc0;clear hr0 hc0;have HB:=zh (Below.refl w.heap.size w);have H : (if (l0.length : Int) > 4096 then (some (([] : List (S62)),([] : List (S78)),([] : List (S82)),0,2)) else ((Fy.f (l0.length : Int) 1 3).bind fun t232 => (if t232=true then (F6.l0 k l0 l0 (l0.length : Int) 0 ([] : List (S62)) 0) else (some (([] : List (S62)),([] : List (S78)),([] : List (S82)),0,6)))))=some (r1,r2,r3,r4,r5):=h;clear h
 by_cases c2 : (l0.length : Int) > 4096
 ·
  rw [if_pos c2] at H
  have c2b0 : decide (4096<(l0.length : Int))=true:=decide_eq_true c2;have c2b1 : decide (4096<l0.length)=true:=decide_eq_true (by omega);clear c2;simp only [Option.some.injEq,Prod.mk.injEq] at H;obtain ⟨rfl,rfl,rfl,rfl,rfl⟩:=H
  go_enter Try.func19,Try.ntmps19
  go_wp2_with (first|((with_reducible refine zK (N:=2) rfl ?_);refine zI ?hg (N:=2) ?hd (cs:=#[.slice none 0 0,.slice none 0 0,.slice none 0 0,.int .i64 0]) (t:=43) ?hr ?_;(case hd => rfl);(case hg => rfl);(case hr => first|(go_simp;done)|(go_simp;rfl));intro gb231 hg w3 hbox hb;have BK231:=zh (hbox);have GW231:=zh ((by rw [hg];exact (zB (by repeat (with_reducible first|exact HB.out|apply za|apply zb|apply zc))) : w.heap.size≤gb231));have GE231:=zh ((by rw [hg];exact (zB (by repeat (with_reducible first|exact HB.out|apply za|apply zb|apply zc))) : w.heap.size≤gb231));replace HB:=zh (zC (by repeat (with_reducible first|exact HB.out|apply za|apply zb|apply zc)) hb);clear hb hbox hg;have hcz4_0 : w3.cell? ⟨gb231,0,none⟩=some (.slice none 0 0):=(zz BK231.out 0).trans rfl;have hcz4_1 : w3.cell? ⟨gb231,1,none⟩=some (.slice none 0 0):=(zz BK231.out 1).trans rfl;have hcz4_2 : w3.cell? ⟨gb231,2,none⟩=some (.slice none 0 0):=(zz BK231.out 2).trans rfl;have hcz4_3 : w3.cell? ⟨gb231,3,none⟩=some (.int .i64 0):=(zz BK231.out 3).trans rfl;have hfz4_0:=zA BK231.out 0;have hfz4_1:=zA BK231.out 1;have hfz4_2:=zA BK231.out 2;have hfz4_3:=zA BK231.out 3))
  refine bodyPost_ret (results_ct rfl _ _ gb231 43 #[.slice none 0 0,.slice none 0 0,.slice none 0 0,.int .i64 0] (0,0) _ rfl (by (with_reducible repeat (first|refine ze ?_ _|refine zf ?_|refine zg ?_ _));refine zL (cs:=#[.slice none 0 0,.slice none 0 0,.slice none 0 0,.int .i64 0]) ?_ 3 _ rfl;(with_reducible repeat (first|refine ze ?_ _|refine zf ?_|refine zg ?_ _));refine zL (cs:=#[.slice none 0 0,.slice none 0 0,.slice none 0 0,.int .i64 0]) ?_ 2 _ rfl;(with_reducible repeat (first|refine ze ?_ _|refine zf ?_|refine zg ?_ _));refine zL (cs:=#[.slice none 0 0,.slice none 0 0,.slice none 0 0,.int .i64 0]) ?_ 1 _ rfl;(with_reducible repeat (first|refine ze ?_ _|refine zf ?_|refine zg ?_ _));refine zL (cs:=#[.slice none 0 0,.slice none 0 0,.slice none 0 0,.int .i64 0]) ?_ 0 _ rfl;(with_reducible repeat (first|refine ze ?_ _|refine zf ?_|refine zg ?_ _));exact BK231.out) Try.underlying43 rfl (by kernel_rfl)) rfl ?_;exact ⟨_,_,_,by first|rfl|(simp [yt,yu] <;> rfl)|(simp [*,yt,yu] <;> rfl),by first|exact Kd.R_nil _ _ _ _ _|exact Kd.N_nil _ _ _ _ _|exact Kd.V_nil _ _ _ _ _|exact Kd.Q_nil _ _ _ _ _|exact Kd.S_nil _ _ _ _ _,by first|exact Kd.R_nil _ _ _ _ _|exact Kd.N_nil _ _ _ _ _|exact Kd.V_nil _ _ _ _ _|exact Kd.Q_nil _ _ _ _ _|exact Kd.S_nil _ _ _ _ _,by first|exact Kd.R_nil _ _ _ _ _|exact Kd.N_nil _ _ _ _ _|exact Kd.V_nil _ _ _ _ _|exact Kd.Q_nil _ _ _ _ _|exact Kd.S_nil _ _ _ _ _,by repeat (with_reducible first|exact HB.out|apply za|apply zb|apply zc|refine zd ?_ GE231.out)⟩
 rw [if_neg c2] at H;have c2b0 : decide (4096<(l0.length : Int))=false:=decide_eq_false c2;have c2b1 : decide (4096<l0.length)=false:=decide_eq_false (by omega);clear c2;replace H:=zT.mp H;obtain ⟨t232,A50,H⟩:=H;replace H : (if t232=true then (F6.l0 k l0 l0 (l0.length : Int) 0 ([] : List (S62)) 0) else (some (([] : List (S62)),([] : List (S78)),([] : List (S82)),0,6)))=some (r1,r2,r3,r4,r5):=H;have A5:=zh A50;clear A50
 by_cases c6 : t232=true
 ·
  subst c6
  have H1 : (F6.l0 k l0 l0 (l0.length : Int) 0 ([] : List (S62)) 0)=some (r1,r2,r3,r4,r5):=by rw [if_pos rfl] at H;exact H
  clear H;have H:=H1;clear H1;have H':=zh H;clear H
  go_enter Try.func19,Try.ntmps19
  go_wp2_with (first|((with_reducible refine zK (N:=2) rfl ?_);refine zI ?hg (N:=2) ?hd (cs:=#[.slice none 0 0,.slice none 0 0,.slice none 0 0,.int .i64 0]) (t:=43) ?hr ?_;(case hd => rfl);(case hg => rfl);(case hr => first|(go_simp;done)|(go_simp;rfl));intro gb231 hg w7 hbox hb;have BK231:=zh (hbox);have GW231:=zh ((by rw [hg];exact (zB (by repeat (with_reducible first|exact HB.out|apply za|apply zb|apply zc))) : w.heap.size≤gb231));have GE231:=zh ((by rw [hg];exact (zB (by repeat (with_reducible first|exact HB.out|apply za|apply zb|apply zc))) : w.heap.size≤gb231));replace HB:=zh (zC (by repeat (with_reducible first|exact HB.out|apply za|apply zb|apply zc)) hb);clear hb hbox hg)|((with_reducible refine zJ (f:=32) rfl ?_);refine yj (some 15) rfl rfl Try.func32 (by kernel_rfl) rfl #[.int .i64 (l0.length : Int),.int .i64 1,.int .i64 3] rfl (by (try simp only [zt,zu,zv]);first|done|rfl|(simp only [zw,zx];rfl)|(simp only [yr,ys,zV,zW];rfl)) ?_;(with_reducible refine (Fy.calls  (l0.length : Int) 1 3 true _ A5.out).mono ?_);rintro e w' ⟨rfl,⟨nd,rfl⟩⟩;refine ⟨_,rfl,?_⟩;(try (rw [drewN_self w7];generalize hq_ : World.drewN w7 _=w7;replace BK231 : Aside0 (w7.heap[gb231]? = some (.cells #[.slice none 0 0,.slice none 0 0,.slice none 0 0,.int .i64 0] 43 (0,0))):=⟨by rw [← hq_];exact (by (with_reducible repeat (first|refine ze ?_ _|refine zf ?_|refine zg ?_ _));exact BK231.out)⟩;replace HB : Aside0 (Below w.heap.size w w7):=⟨by rw [← hq_];exact (by repeat (with_reducible first|exact HB.out|apply za|apply zb|apply zc|refine zd ?_ GE231.out))⟩;clear hq_)))|((with_reducible refine zK (N:=4) rfl ?_);refine zI ?hg (N:=4) ?hd (cs:=#[.slice none 0 0,.slice none 0 0,.slice none 0 0,.int .i64 0]) (t:=43) ?hr ?_;(case hd => rfl);(case hg => rfl);(case hr => first|(go_simp;done)|(go_simp;rfl));intro gb233 hg w8 hbox hb;have BK233:=zh (hbox);have GW233:=zh ((by rw [hg];exact (zB (by repeat (with_reducible first|exact HB.out|apply za|apply zb|apply zc|refine zd ?_ GE231.out))) : w.heap.size≤gb233));have GE233:=zh ((by rw [hg];exact (zB (by repeat (with_reducible first|exact HB.out|apply za|apply zb|apply zc|refine zd ?_ GE231.out))) : w.heap.size≤gb233));replace HB:=zh (zC (by repeat (with_reducible first|exact HB.out|apply za|apply zb|apply zc|refine zd ?_ GE231.out)) hb);have NB231_233:=zh ((by rw [hg];exact yc (yi (g:=gb231) (o:=.cells #[.slice none 0 0,.slice none 0 0,.slice none 0 0,.int .i64 0] 43 (0,0)) (by (with_reducible repeat (first|refine ze ?_ _|refine zf ?_|refine zg ?_ _));exact BK231.out)) : gb231≠gb233));have NB233_231:=zh ((by rw [hg];exact yd (yi (g:=gb231) (o:=.cells #[.slice none 0 0,.slice none 0 0,.slice none 0 0,.int .i64 0] 43 (0,0)) (by (with_reducible repeat (first|refine ze ?_ _|refine zf ?_|refine zg ?_ _));exact BK231.out)) : gb233≠gb231));replace BK231:=zh (zD (g:=gb231) (o:=.cells #[.slice none 0 0,.slice none 0 0,.slice none 0 0,.int .i64 0] 43 (0,0)) (by (with_reducible repeat (first|refine ze ?_ _|refine zf ?_|refine zg ?_ _));exact BK231.out) hb);clear hb hbox hg;have hnb9:=NB233_231.out;have hnc9:=NB231_233.out;have hcz10_0 : w8.cell? ⟨gb233,0,none⟩=some (.slice none 0 0):=(zz BK233.out 0).trans rfl;have hcz10_1 : w8.cell? ⟨gb233,1,none⟩=some (.slice none 0 0):=(zz BK233.out 1).trans rfl;have hcz10_2 : w8.cell? ⟨gb233,2,none⟩=some (.slice none 0 0):=(zz BK233.out 2).trans rfl;have hcz10_3 : w8.cell? ⟨gb233,3,none⟩=some (.int .i64 0):=(zz BK233.out 3).trans rfl;have hfz10_0:=zA BK233.out 0;have hfz10_1:=zA BK233.out 1;have hfz10_2:=zA BK233.out 2;have hfz10_3:=zA BK233.out 3))
  go_loopg [21] k (fun kq v21 w' => ∃ (x21_1 : Int) (x232003_1 : Int) (x234000_1 : List (S62)) (u234000 : Value),v21 = .int .i64 x21_1∧Aside0 (F6.l0 kq l0 l0 (l0.length : Int) x21_1 x234000_1 0=some (r1,r2,r3,r4,r5))∧Aside0 (kq≤k)∧Aside0 (Kd.R k62 62 w' w.heap.size (fun _ => True) u234000 x234000_1)∧Aside0 (w'.heap[gb231]? = some (.cells #[(.slice none 0 0),(.slice none 0 0),(.slice none 0 0),.int .i64 x232003_1] 43 (0,0)))∧Aside0 (w'.heap[gb233]? = some (.cells #[u234000,(.slice none 0 0),(.slice none 0 0),.int .i64 0] 43 (0,0)))∧Aside0 (Below w.heap.size w w'))
  case atStart => exact ⟨(0),(0),(([] : List (S62))),(.slice none 0 0),(by first|rfl|(simp;done)|(simp [*];done)),H',⟨ye _⟩,⟨by first|exact Kd.R_nil _ _ _ _ _|exact Kd.N_nil _ _ _ _ _|exact Kd.V_nil _ _ _ _ _|exact Kd.Q_nil _ _ _ _ _|exact Kd.S_nil _ _ _ _ _⟩,⟨by (with_reducible repeat (first|refine ze ?_ _|refine zf ?_|refine zg ?_ _));refine zS ?_ NB231_233.out _;(with_reducible repeat (first|refine ze ?_ _|refine zf ?_|refine zg ?_ _));refine zS ?_ NB231_233.out _;(with_reducible repeat (first|refine ze ?_ _|refine zf ?_|refine zg ?_ _));refine zS ?_ NB231_233.out _;(with_reducible repeat (first|refine ze ?_ _|refine zf ?_|refine zg ?_ _));refine zS ?_ NB231_233.out _;(with_reducible repeat (first|refine ze ?_ _|refine zf ?_|refine zg ?_ _));exact BK231.out⟩,⟨by (with_reducible repeat (first|refine ze ?_ _|refine zf ?_|refine zg ?_ _));refine zL (cs:=#[.slice none 0 0,.slice none 0 0,.slice none 0 0,.int .i64 0]) ?_ 3 _ rfl;(with_reducible repeat (first|refine ze ?_ _|refine zf ?_|refine zg ?_ _));refine zL (cs:=#[.slice none 0 0,.slice none 0 0,.slice none 0 0,.int .i64 0]) ?_ 2 _ rfl;(with_reducible repeat (first|refine ze ?_ _|refine zf ?_|refine zg ?_ _));refine zL (cs:=#[.slice none 0 0,.slice none 0 0,.slice none 0 0,.int .i64 0]) ?_ 1 _ rfl;(with_reducible repeat (first|refine ze ?_ _|refine zf ?_|refine zg ?_ _));refine zL (cs:=#[.slice none 0 0,.slice none 0 0,.slice none 0 0,.int .i64 0]) ?_ 0 _ rfl;(with_reducible repeat (first|refine ze ?_ _|refine zf ?_|refine zg ?_ _));exact BK233.out⟩,⟨by repeat (with_reducible first|exact HB.out|apply za|apply zb|apply zc|refine zd ?_ GE231.out|refine zd ?_ GE233.out)⟩⟩
  case round =>
   clear H'
   try clear c1
   try clear c2
   try clear c2b0
   try clear c2b1
   try clear p2
   try clear c3
   try clear c6
   try clear c9
   try clear hcz10_0
   try clear hcz10_1
   try clear hcz10_2
   try clear hcz10_3
   try clear hcz4_0
   try clear hcz4_1
   try clear hcz4_2
   try clear hcz4_3
   try clear hfz10_0
   try clear hfz10_1
   try clear hfz10_2
   try clear hfz10_3
   try clear hfz4_0
   try clear hfz4_1
   try clear hfz4_2
   try clear hfz4_3
   obtain ⟨x21_1,x232003_1,x234000_1,u234000,rfl,HA,HK1,HO_234000,BK231,BK233,HB⟩:=hrel
   cases gk with
   | zero => exact absurd HA.out (by simp [F6.l0])
   | succ k1 =>
    have H:=HA.out;clear HA;simp only [F6.l0] at H
    by_cases c11 : x21_1<(l0.length : Int)
    ·
     rw [if_pos c11] at H
     have c11b0 : decide (x21_1<(l0.length : Int))=true:=decide_eq_true c11;clear c11
     by_cases c12 : 0≤x21_1
     ·
      rw [if_pos c12] at H
      have c12b0 : decide (0≤x21_1)=true:=decide_eq_true c12;clear c12
      by_cases c13 : x21_1<(l0.length : Int)
      ·
       rw [if_pos c13] at H
       have c13b0 : decide (x21_1<(l0.length : Int))=true:=decide_eq_true c13;clear c13;replace H:=zT.mp H;obtain ⟨t235,A140,H⟩:=H;replace H : (if t235=true then (if x21_1 > 0 then (if 0≤(wrap64 (x21_1 - 1)) then (if (wrap64 (x21_1 - 1))<(l0.length : Int) then (if ((Op.bytesLess ((rdOf ByteArray.empty l0 (wrap64 (x21_1 - 1))).toList) ((rdOf ByteArray.empty l0 x21_1).toList))=true) then (if x234000_1.length<2199023255552 then (F6.l0 k1 l0 l0 (l0.length : Int) (wrap64 (x21_1 + 1)) (x234000_1 ++ [(⟨rdOf ByteArray.empty l0 x21_1,([] : List (S100)),([] : List (S104))⟩ : S62)]) 0) else (none)) else (some (([] : List (S62)),([] : List (S78)),([] : List (S82)),0,19))) else (none)) else (none)) else (if x234000_1.length<2199023255552 then (F6.l0 k1 l0 l0 (l0.length : Int) (wrap64 (x21_1 + 1)) (x234000_1 ++ [(⟨rdOf ByteArray.empty l0 x21_1,([] : List (S100)),([] : List (S104))⟩ : S62)]) 0) else (none))) else (some (([] : List (S62)),([] : List (S78)),([] : List (S82)),0,11)))=some (r1,r2,r3,r4,r5):=H;have A14:=zh A140;clear A140
       by_cases c15 : t235=true
       ·
        subst c15
        have H1 : (if x21_1 > 0 then (if 0≤(wrap64 (x21_1 - 1)) then (if (wrap64 (x21_1 - 1))<(l0.length : Int) then (if ((Op.bytesLess ((rdOf ByteArray.empty l0 (wrap64 (x21_1 - 1))).toList) ((rdOf ByteArray.empty l0 x21_1).toList))=true) then (if x234000_1.length<2199023255552 then (F6.l0 k1 l0 l0 (l0.length : Int) (wrap64 (x21_1 + 1)) (x234000_1 ++ [(⟨rdOf ByteArray.empty l0 x21_1,([] : List (S100)),([] : List (S104))⟩ : S62)]) 0) else (none)) else (some (([] : List (S62)),([] : List (S78)),([] : List (S82)),0,19))) else (none)) else (none)) else (if x234000_1.length<2199023255552 then (F6.l0 k1 l0 l0 (l0.length : Int) (wrap64 (x21_1 + 1)) (x234000_1 ++ [(⟨rdOf ByteArray.empty l0 x21_1,([] : List (S100)),([] : List (S104))⟩ : S62)]) 0) else (none)))=some (r1,r2,r3,r4,r5):=by rw [if_pos rfl] at H;exact H
        clear H;have H:=H1;clear H1
        by_cases c16 : x21_1 > 0
        ·
         rw [if_pos c16] at H
         have c16b0 : decide (0<x21_1)=true:=decide_eq_true c16;clear c16;obtain ⟨ji17,hji17⟩ : ∃ j_ : Int,(wrap64 (x21_1 - 1))=j_:=⟨_,rfl⟩;replace H : (if 0≤(ji17) then (if (ji17)<(l0.length : Int) then (if ((Op.bytesLess ((rdOf ByteArray.empty l0 (ji17)).toList) ((rdOf ByteArray.empty l0 x21_1).toList))=true) then (if x234000_1.length<2199023255552 then (F6.l0 k1 l0 l0 (l0.length : Int) (wrap64 (x21_1 + 1)) (x234000_1 ++ [(⟨rdOf ByteArray.empty l0 x21_1,([] : List (S100)),([] : List (S104))⟩ : S62)]) 0) else (none)) else (some (([] : List (S62)),([] : List (S78)),([] : List (S82)),0,19))) else (none)) else (none))=some (r1,r2,r3,r4,r5):=by first|(rw [hji17] at H;exact H)|(simp only [hji17] at H ⊢;exact H)
         (try rw [hji17] at A14);have hji17w : (IntKind.i64.wrap (x21_1 - 1))=ji17:=(zG _).trans hji17
         by_cases c18 : 0≤(ji17)
         ·
          rw [if_pos c18] at H
          have c18b0 : decide (0≤(ji17))=true:=decide_eq_true c18;clear c18
          by_cases c19 : (ji17)<(l0.length : Int)
          ·
           rw [if_pos c19] at H
           have c19b0 : decide ((ji17)<(l0.length : Int))=true:=decide_eq_true c19;clear c19
           by_cases c20 : ((Op.bytesLess ((rdOf ByteArray.empty l0 (ji17)).toList) ((rdOf ByteArray.empty l0 x21_1).toList))=true)
           ·
            rw [if_pos c20] at H
            have c20b0 : (Op.bytesLess ((rdOf ByteArray.empty l0 (ji17)).toList) ((rdOf ByteArray.empty l0 x21_1).toList))=true:=c20;clear c20
            by_cases c21 : x234000_1.length<2199023255552
            ·
             rw [if_pos c21] at H
             have LMc21:=zh c21;clear c21;obtain ⟨y237,hy237⟩ : ∃ y_ : List (S62),y_=(x234000_1 ++ [(⟨rdOf ByteArray.empty l0 x21_1,([] : List (S100)),([] : List (S104))⟩ : S62)]):=⟨_,rfl⟩;replace H : (F6.l0 k1 l0 l0 (l0.length : Int) (wrap64 (x21_1 + 1)) y237 0)=some (r1,r2,r3,r4,r5):=by first|(rw [hy237];with_reducible exact H)|(have H2_:=(Option.bind_some _ _).symm.trans H;rw [hy237];with_reducible exact H2_)|(have H2_:=(Option.bind_some _ _).symm.trans H;with_reducible exact H2_)|with_reducible exact H|(rw [hy237];exact H)|exact H
             have Ny237:=zh hy237;clear hy237;have H':=zh H;clear H;have p234 : 0≤(x21_1 : Int):=zy (by first|(with_reducible assumption)|assumption);have q234 : x21_1<(l0.length : Int):=zy (by first|(with_reducible assumption)|assumption);obtain ⟨ad234,e234,hx234_0⟩:=Kd.at_string HR0.out x21_1 p234 q234
             cases e234
             replace hx234_0:=(HB.out.cell (zl w _ hx234_0)).trans hx234_0;replace p234:=eq_true p234;replace q234:=eq_true q234
             go_wp2_with (first|((with_reducible refine zJ (f:=33) rfl ?_);refine yj (some 28) rfl rfl Try.func33 (by kernel_rfl) rfl #[.string (rdOf ByteArray.empty l0 x21_1)] rfl (by (try simp only [zt,zu,zv]);first|done|rfl|(simp only [zw,zx];rfl)|(simp only [yr,ys,zV,zW];rfl)) ?_;(with_reducible refine (Fr.calls k1  (rdOf ByteArray.empty l0 x21_1) true _ A14.out).mono ?_);rintro e w' ⟨rfl,⟨nd,rfl⟩⟩;refine ⟨_,rfl,?_⟩;(try (rw [drewN_self wr];generalize hq_ : World.drewN wr _=wr;replace HO_234000 : Aside0 (Kd.R k62 62 wr w.heap.size (fun _ => True) u234000 x234000_1):=⟨by rw [← hq_];exact (by (with_reducible repeat (first|apply zm|apply zn|apply zo));exact HO_234000.out)⟩;replace BK231 : Aside0 (wr.heap[gb231]? = some (.cells #[.slice none 0 0,.slice none 0 0,.slice none 0 0,.int .i64 x232003_1] 43 (0,0))):=⟨by rw [← hq_];exact (by (with_reducible repeat (first|refine ze ?_ _|refine zf ?_|refine zg ?_ _));exact BK231.out)⟩;replace BK233 : Aside0 (wr.heap[gb233]? = some (.cells #[u234000,.slice none 0 0,.slice none 0 0,.int .i64 0] 43 (0,0))):=⟨by rw [← hq_];exact (by (with_reducible repeat (first|refine ze ?_ _|refine zf ?_|refine zg ?_ _));exact BK233.out)⟩;replace HB : Aside0 (Below w.heap.size w wr):=⟨by rw [← hq_];exact (by repeat (with_reducible first|exact HB.out|apply za|apply zb|apply zc|refine zd ?_ GE231.out|refine zd ?_ GE233.out))⟩;clear hq_));have p236 : 0≤((ji17) : Int):=zy (by first|(with_reducible assumption)|assumption);have q236 : (ji17)<(l0.length : Int):=zy (by first|(with_reducible assumption)|assumption);obtain ⟨ad236,e236,hx236_0⟩:=Kd.at_string HR0.out (ji17) p236 q236;obtain rfl : ad234=ad236:=(by injection e236);replace hx236_0:=(HB.out.cell (zl w _ hx236_0)).trans hx236_0;replace p236:=eq_true p236;replace q236:=eq_true q236;have hnb22:=NB233_231.out;have hnc22:=NB231_233.out;have hcz23_0 : wr.cell? ⟨gb233,0,none⟩=some (u234000):=(zz BK233.out 0).trans rfl;have hcz23_1 : wr.cell? ⟨gb233,1,none⟩=some (.slice none 0 0):=(zz BK233.out 1).trans rfl;have hcz23_2 : wr.cell? ⟨gb233,2,none⟩=some (.slice none 0 0):=(zz BK233.out 2).trans rfl;have hcz23_3 : wr.cell? ⟨gb233,3,none⟩=some (.int .i64 0):=(zz BK233.out 3).trans rfl;have hfz23_0:=zA BK233.out 0;have hfz23_1:=zA BK233.out 1;have hfz23_2:=zA BK233.out 2;have hfz23_3:=zA BK233.out 3)|((with_reducible refine yA (b:=.append) (xs:=#[.tmp 45,.tmp 48]) rfl ?_);at_builtin;refine Kd.R_append k62 (w0:=w) w.heap.size rfl (.tmp 45) (.tmp 48) 39 62 (.agg #[(.string ⟨#[]⟩),(.slice none 0 0),(.slice none 0 0)]) 64 rfl Try.underlying39 info62 rfl (by decide) (by omega) u234000 x234000_1 (⟨rdOf ByteArray.empty l0 x21_1,([] : List (S100)),([] : List (S104))⟩ : S62) [.string (rdOf ByteArray.empty l0 x21_1),.slice none 0 0,.slice none 0 0] (fun _ => True) (fun k_ => ((fun _ => True)) k_∧some k_≠(u234000 : Value).ownBlock) rfl rfl ?aP (fun _ hk => hk) ?aF ?aO ?aB ?aS ?aL ?_;(case aP => exact k62_mkM _ _ _ (⟨rdOf ByteArray.empty l0 x21_1,([] : List (S100)),([] : List (S104))⟩ : S62) (Kd.R_nil _ _ _ _ _) (Kd.R_nil _ _ _ _ _));(case aB => exact (by repeat (with_reducible first|exact HB.out|apply za|apply zb|apply zc|refine zd ?_ GE231.out|refine zd ?_ GE233.out)));(case aF => exact (fun _ _ => trivial));(case aO => exact (by (with_reducible repeat (first|apply zm|apply zn|apply zo));exact HO_234000.out));(case aS => exact (zB (by repeat (with_reducible first|exact HB.out|apply za|apply zb|apply zc|refine zd ?_ GE231.out|refine zd ?_ GE233.out))));(case aL => have:=LMc21.out;omega);intro v238 w24 ho hb hg hat;rw [← Ny237.out] at ho;replace BK231:=zh (yv (g:=gb231) (o:=.cells #[.slice none 0 0,.slice none 0 0,.slice none 0 0,.int .i64 x232003_1] 43 (0,0)) (by (with_reducible repeat (first|refine ze ?_ _|refine zf ?_|refine zg ?_ _));exact BK231.out) hg (Kd.R_ne HO_234000.out BK231.out (by decide)));replace BK233:=zh (yv (g:=gb233) (o:=.cells #[u234000,.slice none 0 0,.slice none 0 0,.int .i64 0] 43 (0,0)) (by (with_reducible repeat (first|refine ze ?_ _|refine zf ?_|refine zg ?_ _));exact BK233.out) hg (Kd.R_ne HO_234000.out BK233.out (by decide)));replace HB:=zh (hb);have HO239:=zh (ho);clear HO_234000 ho hb hg hat;obtain ⟨Ao25,co25,eo25⟩:=yk HO239.out;subst eo25;have hcz26_0 : w24.cell? ⟨gb233,0,none⟩=some (u234000):=(zz BK233.out 0).trans rfl;have hcz26_1 : w24.cell? ⟨gb233,1,none⟩=some (.slice none 0 0):=(zz BK233.out 1).trans rfl;have hcz26_2 : w24.cell? ⟨gb233,2,none⟩=some (.slice none 0 0):=(zz BK233.out 2).trans rfl;have hcz26_3 : w24.cell? ⟨gb233,3,none⟩=some (.int .i64 0):=(zz BK233.out 3).trans rfl;have hfz26_0:=zA BK233.out 0;have hfz26_1:=zA BK233.out 1;have hfz26_2:=zA BK233.out 2;have hfz26_3:=zA BK233.out 3))
             go_roundg k1
             case measure => have:=HK1.out;omega
             case rel => exact ⟨(wrap64 (x21_1 + 1)),(x232003_1),(y237),(.slice Ao25 y237.length co25),(by first|rfl|(simp;done)|(simp [*];done)),H',⟨by have:=HK1.out;omega⟩,⟨by (with_reducible repeat (first|apply zm|apply zn|apply zo));exact zM (zE (p:=⟨gb233,0,none⟩) (yf HO239.out BK233.out (by decide)) (fun _ hk => hk.2) (.slice Ao25 y237.length co25)) (fun _ hk => trivial)⟩,⟨by (with_reducible repeat (first|refine ze ?_ _|refine zf ?_|refine zg ?_ _));refine zS ?_ NB231_233.out _;(with_reducible repeat (first|refine ze ?_ _|refine zf ?_|refine zg ?_ _));exact BK231.out⟩,⟨by (with_reducible repeat (first|refine ze ?_ _|refine zf ?_|refine zg ?_ _));refine zL (cs:=#[u234000,.slice none 0 0,.slice none 0 0,.int .i64 0]) ?_ 0 _ rfl;(with_reducible repeat (first|refine ze ?_ _|refine zf ?_|refine zg ?_ _));exact BK233.out⟩,⟨by repeat (with_reducible first|exact HB.out|apply za|apply zb|apply zc|refine zd ?_ GE231.out|refine zd ?_ GE233.out)⟩⟩
            rw [if_neg c21] at H;exact absurd H (by simp)
           rw [if_neg c20] at H;have c20b0 : (Op.bytesLess ((rdOf ByteArray.empty l0 (ji17)).toList) ((rdOf ByteArray.empty l0 x21_1).toList))=false:=by simpa using c20
           clear c20;simp only [Option.some.injEq,Prod.mk.injEq] at H;obtain ⟨rfl,rfl,rfl,rfl,rfl⟩:=H;have p234 : 0≤(x21_1 : Int):=zy (by first|(with_reducible assumption)|assumption);have q234 : x21_1<(l0.length : Int):=zy (by first|(with_reducible assumption)|assumption);obtain ⟨ad234,e234,hx234_0⟩:=Kd.at_string HR0.out x21_1 p234 q234
           cases e234
           replace hx234_0:=(HB.out.cell (zl w _ hx234_0)).trans hx234_0;replace p234:=eq_true p234;replace q234:=eq_true q234
           go_wp2_with (first|((with_reducible refine zJ (f:=33) rfl ?_);refine yj (some 28) rfl rfl Try.func33 (by kernel_rfl) rfl #[.string (rdOf ByteArray.empty l0 x21_1)] rfl (by (try simp only [zt,zu,zv]);first|done|rfl|(simp only [zw,zx];rfl)|(simp only [yr,ys,zV,zW];rfl)) ?_;(with_reducible refine (Fr.calls k1  (rdOf ByteArray.empty l0 x21_1) true _ A14.out).mono ?_);rintro e w' ⟨rfl,⟨nd,rfl⟩⟩;refine ⟨_,rfl,?_⟩;(try (rw [drewN_self wr];generalize hq_ : World.drewN wr _=wr;replace HO_234000 : Aside0 (Kd.R k62 62 wr w.heap.size (fun _ => True) u234000 x234000_1):=⟨by rw [← hq_];exact (by (with_reducible repeat (first|apply zm|apply zn|apply zo));exact HO_234000.out)⟩;replace BK231 : Aside0 (wr.heap[gb231]? = some (.cells #[.slice none 0 0,.slice none 0 0,.slice none 0 0,.int .i64 x232003_1] 43 (0,0))):=⟨by rw [← hq_];exact (by (with_reducible repeat (first|refine ze ?_ _|refine zf ?_|refine zg ?_ _));exact BK231.out)⟩;replace BK233 : Aside0 (wr.heap[gb233]? = some (.cells #[u234000,.slice none 0 0,.slice none 0 0,.int .i64 0] 43 (0,0))):=⟨by rw [← hq_];exact (by (with_reducible repeat (first|refine ze ?_ _|refine zf ?_|refine zg ?_ _));exact BK233.out)⟩;replace HB : Aside0 (Below w.heap.size w wr):=⟨by rw [← hq_];exact (by repeat (with_reducible first|exact HB.out|apply za|apply zb|apply zc|refine zd ?_ GE231.out|refine zd ?_ GE233.out))⟩;clear hq_));have p236 : 0≤((ji17) : Int):=zy (by first|(with_reducible assumption)|assumption);have q236 : (ji17)<(l0.length : Int):=zy (by first|(with_reducible assumption)|assumption);obtain ⟨ad236,e236,hx236_0⟩:=Kd.at_string HR0.out (ji17) p236 q236;obtain rfl : ad234=ad236:=(by injection e236);replace hx236_0:=(HB.out.cell (zl w _ hx236_0)).trans hx236_0;replace p236:=eq_true p236;replace q236:=eq_true q236;have hnb27:=NB231_233.out;have hnc27:=NB233_231.out;have hcz28_0 : wr.cell? ⟨gb231,0,none⟩=some (.slice none 0 0):=(zz BK231.out 0).trans rfl;have hcz28_1 : wr.cell? ⟨gb231,1,none⟩=some (.slice none 0 0):=(zz BK231.out 1).trans rfl;have hcz28_2 : wr.cell? ⟨gb231,2,none⟩=some (.slice none 0 0):=(zz BK231.out 2).trans rfl;have hcz28_3 : wr.cell? ⟨gb231,3,none⟩=some (.int .i64 x232003_1):=(zz BK231.out 3).trans rfl;have hfz28_0:=zA BK231.out 0;have hfz28_1:=zA BK231.out 1;have hfz28_2:=zA BK231.out 2;have hfz28_3:=zA BK231.out 3))
           refine bodyPost_ret (results_ct rfl _ _ gb231 43 #[.slice none 0 0,.slice none 0 0,.slice none 0 0,.int .i64 0] (0,0) _ rfl (by (with_reducible repeat (first|refine ze ?_ _|refine zf ?_|refine zg ?_ _));refine zL (cs:=#[.slice none 0 0,.slice none 0 0,.slice none 0 0,.int .i64 x232003_1]) ?_ 3 _ rfl;(with_reducible repeat (first|refine ze ?_ _|refine zf ?_|refine zg ?_ _));refine zL (cs:=#[.slice none 0 0,.slice none 0 0,.slice none 0 0,.int .i64 x232003_1]) ?_ 2 _ rfl;(with_reducible repeat (first|refine ze ?_ _|refine zf ?_|refine zg ?_ _));refine zL (cs:=#[.slice none 0 0,.slice none 0 0,.slice none 0 0,.int .i64 x232003_1]) ?_ 1 _ rfl;(with_reducible repeat (first|refine ze ?_ _|refine zf ?_|refine zg ?_ _));refine zL (cs:=#[.slice none 0 0,.slice none 0 0,.slice none 0 0,.int .i64 x232003_1]) ?_ 0 _ rfl;(with_reducible repeat (first|refine ze ?_ _|refine zf ?_|refine zg ?_ _));exact BK231.out) Try.underlying43 rfl (by kernel_rfl)) rfl ?_;exact ⟨_,_,_,by first|rfl|(simp [yt,yu] <;> rfl)|(simp only [← hji17];first|rfl|(simp [yt,yu] <;> rfl))|(simp [*,yt,yu] <;> rfl),by first|exact Kd.R_nil _ _ _ _ _|exact Kd.N_nil _ _ _ _ _|exact Kd.V_nil _ _ _ _ _|exact Kd.Q_nil _ _ _ _ _|exact Kd.S_nil _ _ _ _ _,by first|exact Kd.R_nil _ _ _ _ _|exact Kd.N_nil _ _ _ _ _|exact Kd.V_nil _ _ _ _ _|exact Kd.Q_nil _ _ _ _ _|exact Kd.S_nil _ _ _ _ _,by first|exact Kd.R_nil _ _ _ _ _|exact Kd.N_nil _ _ _ _ _|exact Kd.V_nil _ _ _ _ _|exact Kd.Q_nil _ _ _ _ _|exact Kd.S_nil _ _ _ _ _,by repeat (with_reducible first|exact HB.out|apply za|apply zb|apply zc|refine zd ?_ GE231.out|refine zd ?_ GE233.out)⟩
          rw [if_neg c19] at H;exact absurd H (by simp)
         rw [if_neg c18] at H;exact absurd H (by simp)
        rw [if_neg c16] at H;have c16b0 : decide (0<x21_1)=false:=decide_eq_false c16;clear c16
        by_cases c29 : x234000_1.length<2199023255552
        ·
         rw [if_pos c29] at H
         have LMc29:=zh c29;clear c29;obtain ⟨y240,hy240⟩ : ∃ y_ : List (S62),y_=(x234000_1 ++ [(⟨rdOf ByteArray.empty l0 x21_1,([] : List (S100)),([] : List (S104))⟩ : S62)]):=⟨_,rfl⟩;replace H : (F6.l0 k1 l0 l0 (l0.length : Int) (wrap64 (x21_1 + 1)) y240 0)=some (r1,r2,r3,r4,r5):=by first|(rw [hy240];with_reducible exact H)|(have H2_:=(Option.bind_some _ _).symm.trans H;rw [hy240];with_reducible exact H2_)|(have H2_:=(Option.bind_some _ _).symm.trans H;with_reducible exact H2_)|with_reducible exact H|(rw [hy240];exact H)|exact H
         have Ny240:=zh hy240;clear hy240;have H':=zh H;clear H;have p234 : 0≤(x21_1 : Int):=zy (by first|(with_reducible assumption)|assumption);have q234 : x21_1<(l0.length : Int):=zy (by first|(with_reducible assumption)|assumption);obtain ⟨ad234,e234,hx234_0⟩:=Kd.at_string HR0.out x21_1 p234 q234
         cases e234
         replace hx234_0:=(HB.out.cell (zl w _ hx234_0)).trans hx234_0;replace p234:=eq_true p234;replace q234:=eq_true q234
         go_wp2_with (first|((with_reducible refine zJ (f:=33) rfl ?_);refine yj (some 28) rfl rfl Try.func33 (by kernel_rfl) rfl #[.string (rdOf ByteArray.empty l0 x21_1)] rfl (by (try simp only [zt,zu,zv]);first|done|rfl|(simp only [zw,zx];rfl)|(simp only [yr,ys,zV,zW];rfl)) ?_;(with_reducible refine (Fr.calls k1  (rdOf ByteArray.empty l0 x21_1) true _ A14.out).mono ?_);rintro e w' ⟨rfl,⟨nd,rfl⟩⟩;refine ⟨_,rfl,?_⟩;(try (rw [drewN_self wr];generalize hq_ : World.drewN wr _=wr;replace HO_234000 : Aside0 (Kd.R k62 62 wr w.heap.size (fun _ => True) u234000 x234000_1):=⟨by rw [← hq_];exact (by (with_reducible repeat (first|apply zm|apply zn|apply zo));exact HO_234000.out)⟩;replace BK231 : Aside0 (wr.heap[gb231]? = some (.cells #[.slice none 0 0,.slice none 0 0,.slice none 0 0,.int .i64 x232003_1] 43 (0,0))):=⟨by rw [← hq_];exact (by (with_reducible repeat (first|refine ze ?_ _|refine zf ?_|refine zg ?_ _));exact BK231.out)⟩;replace BK233 : Aside0 (wr.heap[gb233]? = some (.cells #[u234000,.slice none 0 0,.slice none 0 0,.int .i64 0] 43 (0,0))):=⟨by rw [← hq_];exact (by (with_reducible repeat (first|refine ze ?_ _|refine zf ?_|refine zg ?_ _));exact BK233.out)⟩;replace HB : Aside0 (Below w.heap.size w wr):=⟨by rw [← hq_];exact (by repeat (with_reducible first|exact HB.out|apply za|apply zb|apply zc|refine zd ?_ GE231.out|refine zd ?_ GE233.out))⟩;clear hq_));have hnb30:=NB233_231.out;have hnc30:=NB231_233.out;have hcz31_0 : wr.cell? ⟨gb233,0,none⟩=some (u234000):=(zz BK233.out 0).trans rfl;have hcz31_1 : wr.cell? ⟨gb233,1,none⟩=some (.slice none 0 0):=(zz BK233.out 1).trans rfl;have hcz31_2 : wr.cell? ⟨gb233,2,none⟩=some (.slice none 0 0):=(zz BK233.out 2).trans rfl;have hcz31_3 : wr.cell? ⟨gb233,3,none⟩=some (.int .i64 0):=(zz BK233.out 3).trans rfl;have hfz31_0:=zA BK233.out 0;have hfz31_1:=zA BK233.out 1;have hfz31_2:=zA BK233.out 2;have hfz31_3:=zA BK233.out 3)|((with_reducible refine yA (b:=.append) (xs:=#[.tmp 45,.tmp 48]) rfl ?_);at_builtin;refine Kd.R_append k62 (w0:=w) w.heap.size rfl (.tmp 45) (.tmp 48) 39 62 (.agg #[(.string ⟨#[]⟩),(.slice none 0 0),(.slice none 0 0)]) 64 rfl Try.underlying39 info62 rfl (by decide) (by omega) u234000 x234000_1 (⟨rdOf ByteArray.empty l0 x21_1,([] : List (S100)),([] : List (S104))⟩ : S62) [.string (rdOf ByteArray.empty l0 x21_1),.slice none 0 0,.slice none 0 0] (fun _ => True) (fun k_ => ((fun _ => True)) k_∧some k_≠(u234000 : Value).ownBlock) rfl rfl ?aP (fun _ hk => hk) ?aF ?aO ?aB ?aS ?aL ?_;(case aP => exact k62_mkM _ _ _ (⟨rdOf ByteArray.empty l0 x21_1,([] : List (S100)),([] : List (S104))⟩ : S62) (Kd.R_nil _ _ _ _ _) (Kd.R_nil _ _ _ _ _));(case aB => exact (by repeat (with_reducible first|exact HB.out|apply za|apply zb|apply zc|refine zd ?_ GE231.out|refine zd ?_ GE233.out)));(case aF => exact (fun _ _ => trivial));(case aO => exact (by (with_reducible repeat (first|apply zm|apply zn|apply zo));exact HO_234000.out));(case aS => exact (zB (by repeat (with_reducible first|exact HB.out|apply za|apply zb|apply zc|refine zd ?_ GE231.out|refine zd ?_ GE233.out))));(case aL => have:=LMc29.out;omega);intro v241 w32 ho hb hg hat;rw [← Ny240.out] at ho;replace BK231:=zh (yv (g:=gb231) (o:=.cells #[.slice none 0 0,.slice none 0 0,.slice none 0 0,.int .i64 x232003_1] 43 (0,0)) (by (with_reducible repeat (first|refine ze ?_ _|refine zf ?_|refine zg ?_ _));exact BK231.out) hg (Kd.R_ne HO_234000.out BK231.out (by decide)));replace BK233:=zh (yv (g:=gb233) (o:=.cells #[u234000,.slice none 0 0,.slice none 0 0,.int .i64 0] 43 (0,0)) (by (with_reducible repeat (first|refine ze ?_ _|refine zf ?_|refine zg ?_ _));exact BK233.out) hg (Kd.R_ne HO_234000.out BK233.out (by decide)));replace HB:=zh (hb);have HO242:=zh (ho);clear HO_234000 ho hb hg hat;obtain ⟨Ao33,co33,eo33⟩:=yk HO242.out;subst eo33;have hcz34_0 : w32.cell? ⟨gb233,0,none⟩=some (u234000):=(zz BK233.out 0).trans rfl;have hcz34_1 : w32.cell? ⟨gb233,1,none⟩=some (.slice none 0 0):=(zz BK233.out 1).trans rfl;have hcz34_2 : w32.cell? ⟨gb233,2,none⟩=some (.slice none 0 0):=(zz BK233.out 2).trans rfl;have hcz34_3 : w32.cell? ⟨gb233,3,none⟩=some (.int .i64 0):=(zz BK233.out 3).trans rfl;have hfz34_0:=zA BK233.out 0;have hfz34_1:=zA BK233.out 1;have hfz34_2:=zA BK233.out 2;have hfz34_3:=zA BK233.out 3))
         go_roundg k1
         case measure => have:=HK1.out;omega
         case rel => exact ⟨(wrap64 (x21_1 + 1)),(x232003_1),(y240),(.slice Ao33 y240.length co33),(by first|rfl|(simp;done)|(simp [*];done)),H',⟨by have:=HK1.out;omega⟩,⟨by (with_reducible repeat (first|apply zm|apply zn|apply zo));exact zM (zE (p:=⟨gb233,0,none⟩) (yf HO242.out BK233.out (by decide)) (fun _ hk => hk.2) (.slice Ao33 y240.length co33)) (fun _ hk => trivial)⟩,⟨by (with_reducible repeat (first|refine ze ?_ _|refine zf ?_|refine zg ?_ _));refine zS ?_ NB231_233.out _;(with_reducible repeat (first|refine ze ?_ _|refine zf ?_|refine zg ?_ _));exact BK231.out⟩,⟨by (with_reducible repeat (first|refine ze ?_ _|refine zf ?_|refine zg ?_ _));refine zL (cs:=#[u234000,.slice none 0 0,.slice none 0 0,.int .i64 0]) ?_ 0 _ rfl;(with_reducible repeat (first|refine ze ?_ _|refine zf ?_|refine zg ?_ _));exact BK233.out⟩,⟨by repeat (with_reducible first|exact HB.out|apply za|apply zb|apply zc|refine zd ?_ GE231.out|refine zd ?_ GE233.out)⟩⟩
        rw [if_neg c29] at H;exact absurd H (by simp)
       replace c15:=yb.mpr c15;subst c15;have H1 : (some (([] : List (S62)),([] : List (S78)),([] : List (S82)),0,11))=some (r1,r2,r3,r4,r5):=by rw [if_neg (show ¬ (false=true) by decide)] at H;exact H
       clear H;have H:=H1;clear H1;simp only [Option.some.injEq,Prod.mk.injEq] at H;obtain ⟨rfl,rfl,rfl,rfl,rfl⟩:=H;have p234 : 0≤(x21_1 : Int):=zy (by first|(with_reducible assumption)|assumption);have q234 : x21_1<(l0.length : Int):=zy (by first|(with_reducible assumption)|assumption);obtain ⟨ad234,e234,hx234_0⟩:=Kd.at_string HR0.out x21_1 p234 q234
       cases e234
       replace hx234_0:=(HB.out.cell (zl w _ hx234_0)).trans hx234_0;replace p234:=eq_true p234;replace q234:=eq_true q234
       go_wp2_with (first|((with_reducible refine zJ (f:=33) rfl ?_);refine yj (some 28) rfl rfl Try.func33 (by kernel_rfl) rfl #[.string (rdOf ByteArray.empty l0 x21_1)] rfl (by (try simp only [zt,zu,zv]);first|done|rfl|(simp only [zw,zx];rfl)|(simp only [yr,ys,zV,zW];rfl)) ?_;(with_reducible refine (Fr.calls k1  (rdOf ByteArray.empty l0 x21_1) false _ A14.out).mono ?_);rintro e w' ⟨rfl,⟨nd,rfl⟩⟩;refine ⟨_,rfl,?_⟩;(try (rw [drewN_self wr];generalize hq_ : World.drewN wr _=wr;replace HO_234000 : Aside0 (Kd.R k62 62 wr w.heap.size (fun _ => True) u234000 x234000_1):=⟨by rw [← hq_];exact (by (with_reducible repeat (first|apply zm|apply zn|apply zo));exact HO_234000.out)⟩;replace BK231 : Aside0 (wr.heap[gb231]? = some (.cells #[.slice none 0 0,.slice none 0 0,.slice none 0 0,.int .i64 x232003_1] 43 (0,0))):=⟨by rw [← hq_];exact (by (with_reducible repeat (first|refine ze ?_ _|refine zf ?_|refine zg ?_ _));exact BK231.out)⟩;replace BK233 : Aside0 (wr.heap[gb233]? = some (.cells #[u234000,.slice none 0 0,.slice none 0 0,.int .i64 0] 43 (0,0))):=⟨by rw [← hq_];exact (by (with_reducible repeat (first|refine ze ?_ _|refine zf ?_|refine zg ?_ _));exact BK233.out)⟩;replace HB : Aside0 (Below w.heap.size w wr):=⟨by rw [← hq_];exact (by repeat (with_reducible first|exact HB.out|apply za|apply zb|apply zc|refine zd ?_ GE231.out|refine zd ?_ GE233.out))⟩;clear hq_));have hnb35:=NB231_233.out;have hnc35:=NB233_231.out;have hcz36_0 : wr.cell? ⟨gb231,0,none⟩=some (.slice none 0 0):=(zz BK231.out 0).trans rfl;have hcz36_1 : wr.cell? ⟨gb231,1,none⟩=some (.slice none 0 0):=(zz BK231.out 1).trans rfl;have hcz36_2 : wr.cell? ⟨gb231,2,none⟩=some (.slice none 0 0):=(zz BK231.out 2).trans rfl;have hcz36_3 : wr.cell? ⟨gb231,3,none⟩=some (.int .i64 x232003_1):=(zz BK231.out 3).trans rfl;have hfz36_0:=zA BK231.out 0;have hfz36_1:=zA BK231.out 1;have hfz36_2:=zA BK231.out 2;have hfz36_3:=zA BK231.out 3))
       refine bodyPost_ret (results_ct rfl _ _ gb231 43 #[.slice none 0 0,.slice none 0 0,.slice none 0 0,.int .i64 0] (0,0) _ rfl (by (with_reducible repeat (first|refine ze ?_ _|refine zf ?_|refine zg ?_ _));refine zL (cs:=#[.slice none 0 0,.slice none 0 0,.slice none 0 0,.int .i64 x232003_1]) ?_ 3 _ rfl;(with_reducible repeat (first|refine ze ?_ _|refine zf ?_|refine zg ?_ _));refine zL (cs:=#[.slice none 0 0,.slice none 0 0,.slice none 0 0,.int .i64 x232003_1]) ?_ 2 _ rfl;(with_reducible repeat (first|refine ze ?_ _|refine zf ?_|refine zg ?_ _));refine zL (cs:=#[.slice none 0 0,.slice none 0 0,.slice none 0 0,.int .i64 x232003_1]) ?_ 1 _ rfl;(with_reducible repeat (first|refine ze ?_ _|refine zf ?_|refine zg ?_ _));refine zL (cs:=#[.slice none 0 0,.slice none 0 0,.slice none 0 0,.int .i64 x232003_1]) ?_ 0 _ rfl;(with_reducible repeat (first|refine ze ?_ _|refine zf ?_|refine zg ?_ _));exact BK231.out) Try.underlying43 rfl (by kernel_rfl)) rfl ?_;exact ⟨_,_,_,by first|rfl|(simp [yt,yu] <;> rfl)|(simp [*,yt,yu] <;> rfl),by first|exact Kd.R_nil _ _ _ _ _|exact Kd.N_nil _ _ _ _ _|exact Kd.V_nil _ _ _ _ _|exact Kd.Q_nil _ _ _ _ _|exact Kd.S_nil _ _ _ _ _,by first|exact Kd.R_nil _ _ _ _ _|exact Kd.N_nil _ _ _ _ _|exact Kd.V_nil _ _ _ _ _|exact Kd.Q_nil _ _ _ _ _|exact Kd.S_nil _ _ _ _ _,by first|exact Kd.R_nil _ _ _ _ _|exact Kd.N_nil _ _ _ _ _|exact Kd.V_nil _ _ _ _ _|exact Kd.Q_nil _ _ _ _ _|exact Kd.S_nil _ _ _ _ _,by repeat (with_reducible first|exact HB.out|apply za|apply zb|apply zc|refine zd ?_ GE231.out|refine zd ?_ GE233.out)⟩
      rw [if_neg c13] at H;exact absurd H (by simp)
     rw [if_neg c12] at H;exact absurd H (by simp)
    rw [if_neg c11] at H;have c11b0 : decide (x21_1<(l0.length : Int))=false:=decide_eq_false c11;clear c11;simp only [Option.some.injEq,Prod.mk.injEq] at H;obtain ⟨rfl,rfl,rfl,rfl,rfl⟩:=H;have hnb37:=NB233_231.out;have hnc37:=NB231_233.out;have hcz38_0 : wr.cell? ⟨gb233,0,none⟩=some (u234000):=(zz BK233.out 0).trans rfl;have hcz38_1 : wr.cell? ⟨gb233,1,none⟩=some (.slice none 0 0):=(zz BK233.out 1).trans rfl;have hcz38_2 : wr.cell? ⟨gb233,2,none⟩=some (.slice none 0 0):=(zz BK233.out 2).trans rfl;have hcz38_3 : wr.cell? ⟨gb233,3,none⟩=some (.int .i64 0):=(zz BK233.out 3).trans rfl;have hfz38_0:=zA BK233.out 0;have hfz38_1:=zA BK233.out 1;have hfz38_2:=zA BK233.out 2;have hfz38_3:=zA BK233.out 3;obtain ⟨Ao39,co39,eo39⟩:=yk HO_234000.out;subst eo39;have hcz40_0 : wr.cell? ⟨gb231,0,none⟩=some (.slice none 0 0):=(zz BK231.out 0).trans rfl;have hcz40_1 : wr.cell? ⟨gb231,1,none⟩=some (.slice none 0 0):=(zz BK231.out 1).trans rfl;have hcz40_2 : wr.cell? ⟨gb231,2,none⟩=some (.slice none 0 0):=(zz BK231.out 2).trans rfl;have hcz40_3 : wr.cell? ⟨gb231,3,none⟩=some (.int .i64 x232003_1):=(zz BK231.out 3).trans rfl;have hfz40_0:=zA BK231.out 0;have hfz40_1:=zA BK231.out 1;have hfz40_2:=zA BK231.out 2;have hfz40_3:=zA BK231.out 3
    go_wp2
    refine bodyPost_ret (results_ct rfl _ _ gb231 43 #[.slice Ao39 x234000_1.length co39,.slice none 0 0,.slice none 0 0,.int .i64 0] (0,0) _ rfl (by (with_reducible repeat (first|refine ze ?_ _|refine zf ?_|refine zg ?_ _));refine zL (cs:=#[.slice Ao39 x234000_1.length co39,.slice none 0 0,.slice none 0 0,.int .i64 x232003_1]) ?_ 3 _ rfl;(with_reducible repeat (first|refine ze ?_ _|refine zf ?_|refine zg ?_ _));refine zL (cs:=#[.slice Ao39 x234000_1.length co39,.slice none 0 0,.slice none 0 0,.int .i64 x232003_1]) ?_ 2 _ rfl;(with_reducible repeat (first|refine ze ?_ _|refine zf ?_|refine zg ?_ _));refine zL (cs:=#[.slice Ao39 x234000_1.length co39,.slice none 0 0,.slice none 0 0,.int .i64 x232003_1]) ?_ 1 _ rfl;(with_reducible repeat (first|refine ze ?_ _|refine zf ?_|refine zg ?_ _));refine zL (cs:=#[.slice none 0 0,.slice none 0 0,.slice none 0 0,.int .i64 x232003_1]) ?_ 0 _ rfl;(with_reducible repeat (first|refine ze ?_ _|refine zf ?_|refine zg ?_ _));exact BK231.out) Try.underlying43 rfl (by kernel_rfl)) rfl ?_;exact ⟨_,_,_,by first|rfl|(simp [yt,yu] <;> rfl)|(simp [*,yt,yu] <;> rfl),by (with_reducible repeat (first|apply zm|apply zn|apply zo));exact zM (zE (p:=⟨gb231,3,none⟩) (zE (p:=⟨gb231,2,none⟩) (zE (p:=⟨gb231,1,none⟩) (zE (p:=⟨gb231,0,none⟩) (yf HO_234000.out BK231.out (by decide)) (fun _ hk => hk.2) (.slice Ao39 x234000_1.length co39)) (fun _ hk => hk.2) (.slice none 0 0)) (fun _ hk => hk.2) (.slice none 0 0)) (fun _ hk => hk.2) (.int .i64 0)) (fun _ hk => trivial),by first|exact Kd.R_nil _ _ _ _ _|exact Kd.N_nil _ _ _ _ _|exact Kd.V_nil _ _ _ _ _|exact Kd.Q_nil _ _ _ _ _|exact Kd.S_nil _ _ _ _ _,by first|exact Kd.R_nil _ _ _ _ _|exact Kd.N_nil _ _ _ _ _|exact Kd.V_nil _ _ _ _ _|exact Kd.Q_nil _ _ _ _ _|exact Kd.S_nil _ _ _ _ _,by repeat (with_reducible first|exact HB.out|apply za|apply zb|apply zc|refine zd ?_ GE231.out|refine zd ?_ GE233.out)⟩
 replace c6:=yb.mpr c6;subst c6;have H1 : (some (([] : List (S62)),([] : List (S78)),([] : List (S82)),0,6))=some (r1,r2,r3,r4,r5):=by rw [if_neg (show ¬ (false=true) by decide)] at H;exact H
 clear H;have H:=H1;clear H1;simp only [Option.some.injEq,Prod.mk.injEq] at H;obtain ⟨rfl,rfl,rfl,rfl,rfl⟩:=H
 go_enter Try.func19,Try.ntmps19
 go_wp2_with (first|((with_reducible refine zK (N:=2) rfl ?_);refine zI ?hg (N:=2) ?hd (cs:=#[.slice none 0 0,.slice none 0 0,.slice none 0 0,.int .i64 0]) (t:=43) ?hr ?_;(case hd => rfl);(case hg => rfl);(case hr => first|(go_simp;done)|(go_simp;rfl));intro gb231 hg w41 hbox hb;have BK231:=zh (hbox);have GW231:=zh ((by rw [hg];exact (zB (by repeat (with_reducible first|exact HB.out|apply za|apply zb|apply zc))) : w.heap.size≤gb231));have GE231:=zh ((by rw [hg];exact (zB (by repeat (with_reducible first|exact HB.out|apply za|apply zb|apply zc))) : w.heap.size≤gb231));replace HB:=zh (zC (by repeat (with_reducible first|exact HB.out|apply za|apply zb|apply zc)) hb);clear hb hbox hg)|((with_reducible refine zJ (f:=32) rfl ?_);refine yj (some 15) rfl rfl Try.func32 (by kernel_rfl) rfl #[.int .i64 (l0.length : Int),.int .i64 1,.int .i64 3] rfl (by (try simp only [zt,zu,zv]);first|done|rfl|(simp only [zw,zx];rfl)|(simp only [yr,ys,zV,zW];rfl)) ?_;(with_reducible refine (Fy.calls  (l0.length : Int) 1 3 false _ A5.out).mono ?_);rintro e w' ⟨rfl,⟨nd,rfl⟩⟩;refine ⟨_,rfl,?_⟩;(try (rw [drewN_self w41];generalize hq_ : World.drewN w41 _=w41;replace BK231 : Aside0 (w41.heap[gb231]? = some (.cells #[.slice none 0 0,.slice none 0 0,.slice none 0 0,.int .i64 0] 43 (0,0))):=⟨by rw [← hq_];exact (by (with_reducible repeat (first|refine ze ?_ _|refine zf ?_|refine zg ?_ _));exact BK231.out)⟩;replace HB : Aside0 (Below w.heap.size w w41):=⟨by rw [← hq_];exact (by repeat (with_reducible first|exact HB.out|apply za|apply zb|apply zc|refine zd ?_ GE231.out))⟩;clear hq_));have hcz42_0 : w41.cell? ⟨gb231,0,none⟩=some (.slice none 0 0):=(zz BK231.out 0).trans rfl;have hcz42_1 : w41.cell? ⟨gb231,1,none⟩=some (.slice none 0 0):=(zz BK231.out 1).trans rfl;have hcz42_2 : w41.cell? ⟨gb231,2,none⟩=some (.slice none 0 0):=(zz BK231.out 2).trans rfl;have hcz42_3 : w41.cell? ⟨gb231,3,none⟩=some (.int .i64 0):=(zz BK231.out 3).trans rfl;have hfz42_0:=zA BK231.out 0;have hfz42_1:=zA BK231.out 1;have hfz42_2:=zA BK231.out 2;have hfz42_3:=zA BK231.out 3))
 refine bodyPost_ret (results_ct rfl _ _ gb231 43 #[.slice none 0 0,.slice none 0 0,.slice none 0 0,.int .i64 0] (0,0) _ rfl (by (with_reducible repeat (first|refine ze ?_ _|refine zf ?_|refine zg ?_ _));refine zL (cs:=#[.slice none 0 0,.slice none 0 0,.slice none 0 0,.int .i64 0]) ?_ 3 _ rfl;(with_reducible repeat (first|refine ze ?_ _|refine zf ?_|refine zg ?_ _));refine zL (cs:=#[.slice none 0 0,.slice none 0 0,.slice none 0 0,.int .i64 0]) ?_ 2 _ rfl;(with_reducible repeat (first|refine ze ?_ _|refine zf ?_|refine zg ?_ _));refine zL (cs:=#[.slice none 0 0,.slice none 0 0,.slice none 0 0,.int .i64 0]) ?_ 1 _ rfl;(with_reducible repeat (first|refine ze ?_ _|refine zf ?_|refine zg ?_ _));refine zL (cs:=#[.slice none 0 0,.slice none 0 0,.slice none 0 0,.int .i64 0]) ?_ 0 _ rfl;(with_reducible repeat (first|refine ze ?_ _|refine zf ?_|refine zg ?_ _));exact BK231.out) Try.underlying43 rfl (by kernel_rfl)) rfl ?_;exact ⟨_,_,_,by first|rfl|(simp [yt,yu] <;> rfl)|(simp [*,yt,yu] <;> rfl),by first|exact Kd.R_nil _ _ _ _ _|exact Kd.N_nil _ _ _ _ _|exact Kd.V_nil _ _ _ _ _|exact Kd.Q_nil _ _ _ _ _|exact Kd.S_nil _ _ _ _ _,by first|exact Kd.R_nil _ _ _ _ _|exact Kd.N_nil _ _ _ _ _|exact Kd.V_nil _ _ _ _ _|exact Kd.Q_nil _ _ _ _ _|exact Kd.S_nil _ _ _ _ _,by first|exact Kd.R_nil _ _ _ _ _|exact Kd.N_nil _ _ _ _ _|exact Kd.V_nil _ _ _ _ _|exact Kd.Q_nil _ _ _ _ _|exact Kd.S_nil _ _ _ _ _,by repeat (with_reducible first|exact HB.out|apply za|apply zb|apply zc|refine zd ?_ GE231.out)⟩


def Fl.l0 : Nat→List (S100)→Int→Option (Bool)
 | 0,_,_ => none
 | k + 1,x0,x5 => if x5<(x0.length : Int) then (none) else (some true)
def Fl.f (k : Nat) (l0 : List (S100)) (l1 : List (S100)) : Option (Bool):=if (l0.length : Int)=(l1.length : Int) then (Fl.l0 k l0 0) else (some false)
theorem Fl.mono_l : ∀ k,(∀ y0 y1,LeO (Fl.l0 k y0 y1) (Fl.l0 (k + 1) y0 y1))
 | 0 => fun _ _ r h => by simp [Fl.l0] at h
 | k + 1 => by
  have ih0:=Fl.mono_l k;intro y0 y1;unfold Fl.l0
  repeat' first|(with_reducible first|exact ih0 _ _|exact zQ _|exact zN _|refine zP ?_ ?_|refine zO ?_ (fun _ => ?_))|refine zP ?_ ?_|refine zO ?_ (fun _ => ?_)
theorem Fl.mono : ∀ a0 a1 k,LeO (Fl.f k a0 a1) (Fl.f (k + 1) a0 a1):=by
 intro a0 a1 k;have ih0:=Fl.mono_l k;unfold Fl.f
 repeat' first|(with_reducible first|exact ih0 _ _|exact zQ _|exact zN _|refine zP ?_ ?_|refine zO ?_ (fun _ => ?_))|refine zP ?_ ?_|refine zO ?_ (fun _ => ?_)
set_option maxHeartbeats 8000000 in
set_option maxRecDepth 100000 in
theorem Fl.calls (k : Nat) (A0 : Option Addr) (c0 : Nat) (l0 : List (S100)) (A1 : Option Addr) (c1 : Nat) (l1 : List (S100)) (r : Bool) (w : World) (hr0 : Kd.C k100 w A0 l0.length l0) (hc0 : l0.length≤c0) (hr1 : Kd.C k100 w A1 l1.length l1) (hc1 : l1.length≤c1) (h : Fl.f k l0 l1=some r) :
  Calls Try.prog 67 #[.slice A0 l0.length c0,.slice A1 l1.length c1] w fun e w' => e = .returned (.bool r)∧Below w.heap.size w w':=by
 have hu100:=Try.underlying100;have HR0:=zh hr0;have HC0:=zh hc0;clear hr0 hc0;have HR1:=zh hr1;have HC1:=zh hc1;clear hr1 hc1;have HB:=zh (Below.refl w.heap.size w);have H : (if (l0.length : Int)=(l1.length : Int) then (Fl.l0 k l0 0) else (some false))=some r:=h;clear h
 by_cases c3 : (l0.length : Int)=(l1.length : Int)
 ·
  rw [if_pos c3] at H
  have c3b0 : ((l0.length : Int) == (l1.length : Int))=true:=ya.mpr c3;have c3b1 : ((l0.length : Int) != (l1.length : Int))=false:=zX.mpr c3;have c3b2 : (l0.length == l1.length)=true:=by first|simpa using c3|(simp at c3 ⊢;omega)
  clear c3;have H':=zh H;clear H
  go_enter Try.func67,Try.ntmps67
  go_wp2
  go_loopg [5] k (fun kq v5 w' => ∃ (x5_1 : Int),v5 = .int .i64 x5_1∧Aside0 (Fl.l0 kq l0 x5_1=some r)∧Aside0 (kq≤k)∧Aside0 (Below w.heap.size w w'))
  case atStart => exact ⟨(0),(by first|rfl|(simp;done)|(simp [*];done)),H',⟨ye _⟩,⟨by repeat (with_reducible first|exact HB.out|apply za|apply zb|apply zc)⟩⟩
  case round =>
   clear H'
   try clear c1
   try clear p2
   try clear c3
   try clear c3b0
   try clear c3b1
   try clear c3b2
   obtain ⟨x5_1,rfl,HA,HK1,HB⟩:=hrel
   cases gk with
   | zero => exact absurd HA.out (by simp [Fl.l0])
   | succ k1 =>
    have H:=HA.out;clear HA;simp only [Fl.l0] at H
    by_cases c4 : x5_1<(l0.length : Int)
    ·
     rw [if_pos c4] at H
     exact absurd H (by simp)
    rw [if_neg c4] at H;have c4b0 : decide (x5_1<(l0.length : Int))=false:=decide_eq_false c4;clear c4;obtain rfl:=zU H
    go_wp2
    go_ret
    exact ⟨by first|rfl|(simp [yt,yu] <;> rfl)|(simp [*,yt,yu] <;> rfl),by repeat (with_reducible first|exact HB.out|apply za|apply zb|apply zc)⟩
 rw [if_neg c3] at H;have c3b0 : ((l0.length : Int) == (l1.length : Int))=false:=zY.mpr c3;have c3b1 : ((l0.length : Int) != (l1.length : Int))=true:=zZ.mpr c3;have c3b2 : (l0.length == l1.length)=false:=by first|simpa using c3|(simp at c3 ⊢;omega)
 obtain rfl:=zU H
 go_enter Try.func67,Try.ntmps67
 go_wp2
 go_ret
 exact ⟨by first|rfl|(simp [yt,yu] <;> rfl)|(simp [*,yt,yu] <;> rfl),by repeat (with_reducible first|exact HB.out|apply za|apply zb|apply zc)⟩


def Ff.l0 : Nat→List (S104)→Int→Option (Bool)
 | 0,_,_ => none
 | k + 1,x0,x5 => if x5<(x0.length : Int) then (none) else (some true)
def Ff.f (k : Nat) (l0 : List (S104)) (l1 : List (S104)) : Option (Bool):=if (l0.length : Int)=(l1.length : Int) then (Ff.l0 k l0 0) else (some false)
theorem Ff.mono_l : ∀ k,(∀ y0 y1,LeO (Ff.l0 k y0 y1) (Ff.l0 (k + 1) y0 y1))
 | 0 => fun _ _ r h => by simp [Ff.l0] at h
 | k + 1 => by
  have ih0:=Ff.mono_l k;intro y0 y1;unfold Ff.l0
  repeat' first|(with_reducible first|exact ih0 _ _|exact zQ _|exact zN _|refine zP ?_ ?_|refine zO ?_ (fun _ => ?_))|refine zP ?_ ?_|refine zO ?_ (fun _ => ?_)
theorem Ff.mono : ∀ a0 a1 k,LeO (Ff.f k a0 a1) (Ff.f (k + 1) a0 a1):=by
 intro a0 a1 k;have ih0:=Ff.mono_l k;unfold Ff.f
 repeat' first|(with_reducible first|exact ih0 _ _|exact zQ _|exact zN _|refine zP ?_ ?_|refine zO ?_ (fun _ => ?_))|refine zP ?_ ?_|refine zO ?_ (fun _ => ?_)
set_option maxHeartbeats 8000000 in
set_option maxRecDepth 100000 in
theorem Ff.calls (k : Nat) (A0 : Option Addr) (c0 : Nat) (l0 : List (S104)) (A1 : Option Addr) (c1 : Nat) (l1 : List (S104)) (r : Bool) (w : World) (hr0 : Kd.C k104 w A0 l0.length l0) (hc0 : l0.length≤c0) (hr1 : Kd.C k104 w A1 l1.length l1) (hc1 : l1.length≤c1) (h : Ff.f k l0 l1=some r) :
  Calls Try.prog 68 #[.slice A0 l0.length c0,.slice A1 l1.length c1] w fun e w' => e = .returned (.bool r)∧Below w.heap.size w w':=by
 have hu104:=Try.underlying104;have HR0:=zh hr0;have HC0:=zh hc0;clear hr0 hc0;have HR1:=zh hr1;have HC1:=zh hc1;clear hr1 hc1;have HB:=zh (Below.refl w.heap.size w);have H : (if (l0.length : Int)=(l1.length : Int) then (Ff.l0 k l0 0) else (some false))=some r:=h;clear h
 by_cases c3 : (l0.length : Int)=(l1.length : Int)
 ·
  rw [if_pos c3] at H
  have c3b0 : ((l0.length : Int) == (l1.length : Int))=true:=ya.mpr c3;have c3b1 : ((l0.length : Int) != (l1.length : Int))=false:=zX.mpr c3;have c3b2 : (l0.length == l1.length)=true:=by first|simpa using c3|(simp at c3 ⊢;omega)
  clear c3;have H':=zh H;clear H
  go_enter Try.func68,Try.ntmps68
  go_wp2
  go_loopg [5] k (fun kq v5 w' => ∃ (x5_1 : Int),v5 = .int .i64 x5_1∧Aside0 (Ff.l0 kq l0 x5_1=some r)∧Aside0 (kq≤k)∧Aside0 (Below w.heap.size w w'))
  case atStart => exact ⟨(0),(by first|rfl|(simp;done)|(simp [*];done)),H',⟨ye _⟩,⟨by repeat (with_reducible first|exact HB.out|apply za|apply zb|apply zc)⟩⟩
  case round =>
   clear H'
   try clear c1
   try clear p2
   try clear c3
   try clear c3b0
   try clear c3b1
   try clear c3b2
   obtain ⟨x5_1,rfl,HA,HK1,HB⟩:=hrel
   cases gk with
   | zero => exact absurd HA.out (by simp [Ff.l0])
   | succ k1 =>
    have H:=HA.out;clear HA;simp only [Ff.l0] at H
    by_cases c4 : x5_1<(l0.length : Int)
    ·
     rw [if_pos c4] at H
     exact absurd H (by simp)
    rw [if_neg c4] at H;have c4b0 : decide (x5_1<(l0.length : Int))=false:=decide_eq_false c4;clear c4;obtain rfl:=zU H
    go_wp2
    go_ret
    exact ⟨by first|rfl|(simp [yt,yu] <;> rfl)|(simp [*,yt,yu] <;> rfl),by repeat (with_reducible first|exact HB.out|apply za|apply zb|apply zc)⟩
 rw [if_neg c3] at H;have c3b0 : ((l0.length : Int) == (l1.length : Int))=false:=zY.mpr c3;have c3b1 : ((l0.length : Int) != (l1.length : Int))=true:=zZ.mpr c3;have c3b2 : (l0.length == l1.length)=false:=by first|simpa using c3|(simp at c3 ⊢;omega)
 obtain rfl:=zU H
 go_enter Try.func68,Try.ntmps68
 go_wp2
 go_ret
 exact ⟨by first|rfl|(simp [yt,yu] <;> rfl)|(simp [*,yt,yu] <;> rfl),by repeat (with_reducible first|exact HB.out|apply za|apply zb|apply zc)⟩


def F0.f (k : Nat) (a0_0 : ByteArray) (l0_1 : List (S100)) (l0_2 : List (S104)) (a1_0 : ByteArray) (l1_1 : List (S100)) (l1_2 : List (S104)) : Option (Bool):=if a0_0.toList=a1_0.toList then ((Fl.f k l0_1 l1_1).bind fun t264 => (if t264=true then ((Ff.f k l0_2 l1_2).bind fun t265 => (if t265=true then (some true) else (some false))) else (some false))) else (some false)
theorem F0.mono : ∀ a0 a1 a2 a3 a4 a5 k,LeO (F0.f k a0 a1 a2 a3 a4 a5) (F0.f (k + 1) a0 a1 a2 a3 a4 a5):=by
 intro a0 a1 a2 a3 a4 a5 k;unfold F0.f
 repeat' first|(with_reducible first|exact Fl.mono _ _ _|exact Ff.mono _ _ _|exact zQ _|exact zN _|refine zP ?_ ?_|refine zO ?_ (fun _ => ?_))|refine zP ?_ ?_|refine zO ?_ (fun _ => ?_)
set_option maxHeartbeats 8000000 in
set_option maxRecDepth 100000 in
theorem F0.calls (k : Nat) (a0_0 : ByteArray) (A0_1 : Option Addr) (c0_1 : Nat) (l0_1 : List (S100)) (A0_2 : Option Addr) (c0_2 : Nat) (l0_2 : List (S104)) (a1_0 : ByteArray) (A1_1 : Option Addr) (c1_1 : Nat) (l1_1 : List (S100)) (A1_2 : Option Addr) (c1_2 : Nat) (l1_2 : List (S104)) (r : Bool) (w : World) (hr0_1 : Kd.C k100 w A0_1 l0_1.length l0_1) (hc0_1 : l0_1.length≤c0_1) (hr0_2 : Kd.C k104 w A0_2 l0_2.length l0_2) (hc0_2 : l0_2.length≤c0_2) (hr1_1 : Kd.C k100 w A1_1 l1_1.length l1_1) (hc1_1 : l1_1.length≤c1_1) (hr1_2 : Kd.C k104 w A1_2 l1_2.length l1_2) (hc1_2 : l1_2.length≤c1_2) (h : F0.f k a0_0 l0_1 l0_2 a1_0 l1_1 l1_2=some r) :
  Calls Try.prog 50 #[.agg #[.string a0_0,.slice A0_1 l0_1.length c0_1,.slice A0_2 l0_2.length c0_2],.agg #[.string a1_0,.slice A1_1 l1_1.length c1_1,.slice A1_2 l1_2.length c1_2]] w fun e w' => e = .returned (.bool r)∧Below w.heap.size w w':=by
 have hu62:=Try.underlying62;have HR0_1:=zh hr0_1;have HC0_1:=zh hc0_1;clear hr0_1 hc0_1;have HR0_2:=zh hr0_2;have HC0_2:=zh hc0_2;clear hr0_2 hc0_2;have HR1_1:=zh hr1_1;have HC1_1:=zh hc1_1;clear hr1_1 hc1_1;have HR1_2:=zh hr1_2;have HC1_2:=zh hc1_2;clear hr1_2 hc1_2;have HB:=zh (Below.refl w.heap.size w);have H : (if a0_0.toList=a1_0.toList then ((Fl.f k l0_1 l1_1).bind fun t264 => (if t264=true then ((Ff.f k l0_2 l1_2).bind fun t265 => (if t265=true then (some true) else (some false))) else (some false))) else (some false))=some r:=h;clear h
 by_cases c3 : a0_0.toList=a1_0.toList
 ·
  rw [if_pos c3] at H
  have c3b0 : (a0_0.toList == a1_0.toList)=true:=ya.mpr c3;have c3b1 : (a0_0.toList != a1_0.toList)=false:=zX.mpr c3;clear c3;replace H:=zT.mp H;obtain ⟨t264,A40,H⟩:=H;replace H : (if t264=true then ((Ff.f k l0_2 l1_2).bind fun t265 => (if t265=true then (some true) else (some false))) else (some false))=some r:=H;have A4:=zh A40;clear A40
  by_cases c5 : t264=true
  ·
   subst c5
   have H1 : ((Ff.f k l0_2 l1_2).bind fun t265 => (if t265=true then (some true) else (some false)))=some r:=by rw [if_pos rfl] at H;exact H
   clear H;have H:=H1;clear H1;replace H:=zT.mp H;obtain ⟨t265,A60,H⟩:=H;replace H : (if t265=true then (some true) else (some false))=some r:=H;have A6:=zh A60;clear A60
   by_cases c7 : t265=true
   ·
    subst c7
    have H1 : (some true)=some r:=by rw [if_pos rfl] at H;exact H
    clear H;have H:=H1;clear H1;obtain rfl:=zU H
    go_enter Try.func50,Try.ntmps50
    go_wp2_with (first|((with_reducible refine zK (N:=2) rfl ?_);refine zI ?hg (N:=2) ?hd (cs:=#[.string a0_0,.slice A0_1 l0_1.length c0_1,.slice A0_2 l0_2.length c0_2]) (t:=62) ?hr ?_;(case hd => rfl);(case hg => rfl);(case hr => first|(go_simp;done)|(go_simp;rfl));intro gb262 hg w8 hbox hb;have BK262:=zh (hbox);have GW262:=zh ((by rw [hg];exact (zB (by repeat (with_reducible first|exact HB.out|apply za|apply zb|apply zc))) : w.heap.size≤gb262));have GE262:=zh ((by rw [hg];exact (zB (by repeat (with_reducible first|exact HB.out|apply za|apply zb|apply zc))) : w.heap.size≤gb262));replace HB:=zh (zC (by repeat (with_reducible first|exact HB.out|apply za|apply zb|apply zc)) hb);clear hb hbox hg)|((with_reducible refine zK (N:=3) rfl ?_);refine zI ?hg (N:=3) ?hd (cs:=#[.string a1_0,.slice A1_1 l1_1.length c1_1,.slice A1_2 l1_2.length c1_2]) (t:=62) ?hr ?_;(case hd => rfl);(case hg => rfl);(case hr => first|(go_simp;done)|(go_simp;rfl));intro gb263 hg w9 hbox hb;have BK263:=zh (hbox);have GW263:=zh ((by rw [hg];exact (zB (by repeat (with_reducible first|exact HB.out|apply za|apply zb|apply zc|refine zd ?_ GE262.out))) : w.heap.size≤gb263));have GE263:=zh ((by rw [hg];exact (zB (by repeat (with_reducible first|exact HB.out|apply za|apply zb|apply zc|refine zd ?_ GE262.out))) : w.heap.size≤gb263));replace HB:=zh (zC (by repeat (with_reducible first|exact HB.out|apply za|apply zb|apply zc|refine zd ?_ GE262.out)) hb);have NB262_263:=zh ((by rw [hg];exact yc (yi (g:=gb262) (o:=.cells #[.string a0_0,.slice A0_1 l0_1.length c0_1,.slice A0_2 l0_2.length c0_2] 62 (0,0)) (by (with_reducible repeat (first|refine ze ?_ _|refine zf ?_|refine zg ?_ _));exact BK262.out)) : gb262≠gb263));have NB263_262:=zh ((by rw [hg];exact yd (yi (g:=gb262) (o:=.cells #[.string a0_0,.slice A0_1 l0_1.length c0_1,.slice A0_2 l0_2.length c0_2] 62 (0,0)) (by (with_reducible repeat (first|refine ze ?_ _|refine zf ?_|refine zg ?_ _));exact BK262.out)) : gb263≠gb262));replace BK262:=zh (zD (g:=gb262) (o:=.cells #[.string a0_0,.slice A0_1 l0_1.length c0_1,.slice A0_2 l0_2.length c0_2] 62 (0,0)) (by (with_reducible repeat (first|refine ze ?_ _|refine zf ?_|refine zg ?_ _));exact BK262.out) hb);clear hb hbox hg;have hnb10:=NB262_263.out;have hnc10:=NB263_262.out;have hcz11_0 : w9.cell? ⟨gb262,0,none⟩=some (.string a0_0):=(zz BK262.out 0).trans rfl;have hcz11_1 : w9.cell? ⟨gb262,1,none⟩=some (.slice A0_1 l0_1.length c0_1):=(zz BK262.out 1).trans rfl;have hcz11_2 : w9.cell? ⟨gb262,2,none⟩=some (.slice A0_2 l0_2.length c0_2):=(zz BK262.out 2).trans rfl;have hfz11_0:=zA BK262.out 0;have hfz11_1:=zA BK262.out 1;have hfz11_2:=zA BK262.out 2;have hcz12_0 : w9.cell? ⟨gb263,0,none⟩=some (.string a1_0):=(zz BK263.out 0).trans rfl;have hcz12_1 : w9.cell? ⟨gb263,1,none⟩=some (.slice A1_1 l1_1.length c1_1):=(zz BK263.out 1).trans rfl;have hcz12_2 : w9.cell? ⟨gb263,2,none⟩=some (.slice A1_2 l1_2.length c1_2):=(zz BK263.out 2).trans rfl;have hfz12_0:=zA BK263.out 0;have hfz12_1:=zA BK263.out 1;have hfz12_2:=zA BK263.out 2)|((with_reducible refine zJ (f:=67) rfl ?_);refine yj (some 14) rfl rfl Try.func67 (by kernel_rfl) rfl #[.slice A0_1 l0_1.length c0_1,.slice A1_1 l1_1.length c1_1] rfl (by (try simp only [zt,zu,zv]);first|done|rfl|(simp only [zw,zx];rfl)|(simp only [yr,ys,zV,zW];rfl)) ?_;(with_reducible refine (Fl.calls k  _ _ l0_1 _ _ l1_1 true _ ?side1 ?side2 ?side3 ?side4 A4.out).mono ?_);(case side1 => repeat (first|exact (Kd.C_below HR0_1.out HB.out)|(with_reducible refine Kd.C_alloc ?_ _)|(with_reducible refine Kd.C_drewN ?_ _)|(with_reducible refine Kd.C_drew ?_)));(case side2 => exact HC0_1.out);(case side3 => repeat (first|exact (Kd.C_below HR1_1.out HB.out)|(with_reducible refine Kd.C_alloc ?_ _)|(with_reducible refine Kd.C_drewN ?_ _)|(with_reducible refine Kd.C_drew ?_)));(case side4 => exact HC1_1.out);rintro e w13 ⟨rfl,hb⟩;refine ⟨_,rfl,?_⟩;replace BK262:=zh (zD (g:=gb262) (o:=.cells #[.string a0_0,.slice A0_1 l0_1.length c0_1,.slice A0_2 l0_2.length c0_2] 62 (0,0)) (by (with_reducible repeat (first|refine ze ?_ _|refine zf ?_|refine zg ?_ _));exact BK262.out) hb);replace BK263:=zh (zD (g:=gb263) (o:=.cells #[.string a1_0,.slice A1_1 l1_1.length c1_1,.slice A1_2 l1_2.length c1_2] 62 (0,0)) (by (with_reducible repeat (first|refine ze ?_ _|refine zf ?_|refine zg ?_ _));exact BK263.out) hb);replace HB:=zh (zC (by repeat (with_reducible first|exact HB.out|apply za|apply zb|apply zc|refine zd ?_ GE262.out|refine zd ?_ GE263.out)) hb);(try clear hb);(try clear hb2);(try clear hk);(try clear hi);have hcz14_0 : w13.cell? ⟨gb262,0,none⟩=some (.string a0_0):=(zz BK262.out 0).trans rfl;have hcz14_1 : w13.cell? ⟨gb262,1,none⟩=some (.slice A0_1 l0_1.length c0_1):=(zz BK262.out 1).trans rfl;have hcz14_2 : w13.cell? ⟨gb262,2,none⟩=some (.slice A0_2 l0_2.length c0_2):=(zz BK262.out 2).trans rfl;have hfz14_0:=zA BK262.out 0;have hfz14_1:=zA BK262.out 1;have hfz14_2:=zA BK262.out 2;have hcz15_0 : w13.cell? ⟨gb263,0,none⟩=some (.string a1_0):=(zz BK263.out 0).trans rfl;have hcz15_1 : w13.cell? ⟨gb263,1,none⟩=some (.slice A1_1 l1_1.length c1_1):=(zz BK263.out 1).trans rfl;have hcz15_2 : w13.cell? ⟨gb263,2,none⟩=some (.slice A1_2 l1_2.length c1_2):=(zz BK263.out 2).trans rfl;have hfz15_0:=zA BK263.out 0;have hfz15_1:=zA BK263.out 1;have hfz15_2:=zA BK263.out 2)|((with_reducible refine zJ (f:=68) rfl ?_);refine yj (some 20) rfl rfl Try.func68 (by kernel_rfl) rfl #[.slice A0_2 l0_2.length c0_2,.slice A1_2 l1_2.length c1_2] rfl (by (try simp only [zt,zu,zv]);first|done|rfl|(simp only [zw,zx];rfl)|(simp only [yr,ys,zV,zW];rfl)) ?_;(with_reducible refine (Ff.calls k  _ _ l0_2 _ _ l1_2 true _ ?side1 ?side2 ?side3 ?side4 A6.out).mono ?_);(case side1 => repeat (first|exact (Kd.C_below HR0_2.out HB.out)|(with_reducible refine Kd.C_alloc ?_ _)|(with_reducible refine Kd.C_drewN ?_ _)|(with_reducible refine Kd.C_drew ?_)));(case side2 => exact HC0_2.out);(case side3 => repeat (first|exact (Kd.C_below HR1_2.out HB.out)|(with_reducible refine Kd.C_alloc ?_ _)|(with_reducible refine Kd.C_drewN ?_ _)|(with_reducible refine Kd.C_drew ?_)));(case side4 => exact HC1_2.out);rintro e w16 ⟨rfl,hb⟩;refine ⟨_,rfl,?_⟩;replace BK262:=zh (zD (g:=gb262) (o:=.cells #[.string a0_0,.slice A0_1 l0_1.length c0_1,.slice A0_2 l0_2.length c0_2] 62 (0,0)) (by (with_reducible repeat (first|refine ze ?_ _|refine zf ?_|refine zg ?_ _));exact BK262.out) hb);replace BK263:=zh (zD (g:=gb263) (o:=.cells #[.string a1_0,.slice A1_1 l1_1.length c1_1,.slice A1_2 l1_2.length c1_2] 62 (0,0)) (by (with_reducible repeat (first|refine ze ?_ _|refine zf ?_|refine zg ?_ _));exact BK263.out) hb);replace HB:=zh (zC (by repeat (with_reducible first|exact HB.out|apply za|apply zb|apply zc|refine zd ?_ GE262.out|refine zd ?_ GE263.out)) hb);(try clear hb);(try clear hb2);(try clear hk);(try clear hi)))
    go_ret
    exact ⟨by first|rfl|(simp [yt,yu] <;> rfl)|(simp [*,yt,yu] <;> rfl),by repeat (with_reducible first|exact HB.out|apply za|apply zb|apply zc|refine zd ?_ GE262.out|refine zd ?_ GE263.out)⟩
   replace c7:=yb.mpr c7;subst c7;have H1 : (some false)=some r:=by rw [if_neg (show ¬ (false=true) by decide)] at H;exact H
   clear H;have H:=H1;clear H1;obtain rfl:=zU H
   go_enter Try.func50,Try.ntmps50
   go_wp2_with (first|((with_reducible refine zK (N:=2) rfl ?_);refine zI ?hg (N:=2) ?hd (cs:=#[.string a0_0,.slice A0_1 l0_1.length c0_1,.slice A0_2 l0_2.length c0_2]) (t:=62) ?hr ?_;(case hd => rfl);(case hg => rfl);(case hr => first|(go_simp;done)|(go_simp;rfl));intro gb262 hg w17 hbox hb;have BK262:=zh (hbox);have GW262:=zh ((by rw [hg];exact (zB (by repeat (with_reducible first|exact HB.out|apply za|apply zb|apply zc))) : w.heap.size≤gb262));have GE262:=zh ((by rw [hg];exact (zB (by repeat (with_reducible first|exact HB.out|apply za|apply zb|apply zc))) : w.heap.size≤gb262));replace HB:=zh (zC (by repeat (with_reducible first|exact HB.out|apply za|apply zb|apply zc)) hb);clear hb hbox hg)|((with_reducible refine zK (N:=3) rfl ?_);refine zI ?hg (N:=3) ?hd (cs:=#[.string a1_0,.slice A1_1 l1_1.length c1_1,.slice A1_2 l1_2.length c1_2]) (t:=62) ?hr ?_;(case hd => rfl);(case hg => rfl);(case hr => first|(go_simp;done)|(go_simp;rfl));intro gb263 hg w18 hbox hb;have BK263:=zh (hbox);have GW263:=zh ((by rw [hg];exact (zB (by repeat (with_reducible first|exact HB.out|apply za|apply zb|apply zc|refine zd ?_ GE262.out))) : w.heap.size≤gb263));have GE263:=zh ((by rw [hg];exact (zB (by repeat (with_reducible first|exact HB.out|apply za|apply zb|apply zc|refine zd ?_ GE262.out))) : w.heap.size≤gb263));replace HB:=zh (zC (by repeat (with_reducible first|exact HB.out|apply za|apply zb|apply zc|refine zd ?_ GE262.out)) hb);have NB262_263:=zh ((by rw [hg];exact yc (yi (g:=gb262) (o:=.cells #[.string a0_0,.slice A0_1 l0_1.length c0_1,.slice A0_2 l0_2.length c0_2] 62 (0,0)) (by (with_reducible repeat (first|refine ze ?_ _|refine zf ?_|refine zg ?_ _));exact BK262.out)) : gb262≠gb263));have NB263_262:=zh ((by rw [hg];exact yd (yi (g:=gb262) (o:=.cells #[.string a0_0,.slice A0_1 l0_1.length c0_1,.slice A0_2 l0_2.length c0_2] 62 (0,0)) (by (with_reducible repeat (first|refine ze ?_ _|refine zf ?_|refine zg ?_ _));exact BK262.out)) : gb263≠gb262));replace BK262:=zh (zD (g:=gb262) (o:=.cells #[.string a0_0,.slice A0_1 l0_1.length c0_1,.slice A0_2 l0_2.length c0_2] 62 (0,0)) (by (with_reducible repeat (first|refine ze ?_ _|refine zf ?_|refine zg ?_ _));exact BK262.out) hb);clear hb hbox hg;have hnb19:=NB262_263.out;have hnc19:=NB263_262.out;have hcz20_0 : w18.cell? ⟨gb262,0,none⟩=some (.string a0_0):=(zz BK262.out 0).trans rfl;have hcz20_1 : w18.cell? ⟨gb262,1,none⟩=some (.slice A0_1 l0_1.length c0_1):=(zz BK262.out 1).trans rfl;have hcz20_2 : w18.cell? ⟨gb262,2,none⟩=some (.slice A0_2 l0_2.length c0_2):=(zz BK262.out 2).trans rfl;have hfz20_0:=zA BK262.out 0;have hfz20_1:=zA BK262.out 1;have hfz20_2:=zA BK262.out 2;have hcz21_0 : w18.cell? ⟨gb263,0,none⟩=some (.string a1_0):=(zz BK263.out 0).trans rfl;have hcz21_1 : w18.cell? ⟨gb263,1,none⟩=some (.slice A1_1 l1_1.length c1_1):=(zz BK263.out 1).trans rfl;have hcz21_2 : w18.cell? ⟨gb263,2,none⟩=some (.slice A1_2 l1_2.length c1_2):=(zz BK263.out 2).trans rfl;have hfz21_0:=zA BK263.out 0;have hfz21_1:=zA BK263.out 1;have hfz21_2:=zA BK263.out 2)|((with_reducible refine zJ (f:=67) rfl ?_);refine yj (some 14) rfl rfl Try.func67 (by kernel_rfl) rfl #[.slice A0_1 l0_1.length c0_1,.slice A1_1 l1_1.length c1_1] rfl (by (try simp only [zt,zu,zv]);first|done|rfl|(simp only [zw,zx];rfl)|(simp only [yr,ys,zV,zW];rfl)) ?_;(with_reducible refine (Fl.calls k  _ _ l0_1 _ _ l1_1 true _ ?side1 ?side2 ?side3 ?side4 A4.out).mono ?_);(case side1 => repeat (first|exact (Kd.C_below HR0_1.out HB.out)|(with_reducible refine Kd.C_alloc ?_ _)|(with_reducible refine Kd.C_drewN ?_ _)|(with_reducible refine Kd.C_drew ?_)));(case side2 => exact HC0_1.out);(case side3 => repeat (first|exact (Kd.C_below HR1_1.out HB.out)|(with_reducible refine Kd.C_alloc ?_ _)|(with_reducible refine Kd.C_drewN ?_ _)|(with_reducible refine Kd.C_drew ?_)));(case side4 => exact HC1_1.out);rintro e w22 ⟨rfl,hb⟩;refine ⟨_,rfl,?_⟩;replace BK262:=zh (zD (g:=gb262) (o:=.cells #[.string a0_0,.slice A0_1 l0_1.length c0_1,.slice A0_2 l0_2.length c0_2] 62 (0,0)) (by (with_reducible repeat (first|refine ze ?_ _|refine zf ?_|refine zg ?_ _));exact BK262.out) hb);replace BK263:=zh (zD (g:=gb263) (o:=.cells #[.string a1_0,.slice A1_1 l1_1.length c1_1,.slice A1_2 l1_2.length c1_2] 62 (0,0)) (by (with_reducible repeat (first|refine ze ?_ _|refine zf ?_|refine zg ?_ _));exact BK263.out) hb);replace HB:=zh (zC (by repeat (with_reducible first|exact HB.out|apply za|apply zb|apply zc|refine zd ?_ GE262.out|refine zd ?_ GE263.out)) hb);(try clear hb);(try clear hb2);(try clear hk);(try clear hi);have hcz23_0 : w22.cell? ⟨gb262,0,none⟩=some (.string a0_0):=(zz BK262.out 0).trans rfl;have hcz23_1 : w22.cell? ⟨gb262,1,none⟩=some (.slice A0_1 l0_1.length c0_1):=(zz BK262.out 1).trans rfl;have hcz23_2 : w22.cell? ⟨gb262,2,none⟩=some (.slice A0_2 l0_2.length c0_2):=(zz BK262.out 2).trans rfl;have hfz23_0:=zA BK262.out 0;have hfz23_1:=zA BK262.out 1;have hfz23_2:=zA BK262.out 2;have hcz24_0 : w22.cell? ⟨gb263,0,none⟩=some (.string a1_0):=(zz BK263.out 0).trans rfl;have hcz24_1 : w22.cell? ⟨gb263,1,none⟩=some (.slice A1_1 l1_1.length c1_1):=(zz BK263.out 1).trans rfl;have hcz24_2 : w22.cell? ⟨gb263,2,none⟩=some (.slice A1_2 l1_2.length c1_2):=(zz BK263.out 2).trans rfl;have hfz24_0:=zA BK263.out 0;have hfz24_1:=zA BK263.out 1;have hfz24_2:=zA BK263.out 2)|((with_reducible refine zJ (f:=68) rfl ?_);refine yj (some 20) rfl rfl Try.func68 (by kernel_rfl) rfl #[.slice A0_2 l0_2.length c0_2,.slice A1_2 l1_2.length c1_2] rfl (by (try simp only [zt,zu,zv]);first|done|rfl|(simp only [zw,zx];rfl)|(simp only [yr,ys,zV,zW];rfl)) ?_;(with_reducible refine (Ff.calls k  _ _ l0_2 _ _ l1_2 false _ ?side1 ?side2 ?side3 ?side4 A6.out).mono ?_);(case side1 => repeat (first|exact (Kd.C_below HR0_2.out HB.out)|(with_reducible refine Kd.C_alloc ?_ _)|(with_reducible refine Kd.C_drewN ?_ _)|(with_reducible refine Kd.C_drew ?_)));(case side2 => exact HC0_2.out);(case side3 => repeat (first|exact (Kd.C_below HR1_2.out HB.out)|(with_reducible refine Kd.C_alloc ?_ _)|(with_reducible refine Kd.C_drewN ?_ _)|(with_reducible refine Kd.C_drew ?_)));(case side4 => exact HC1_2.out);rintro e w25 ⟨rfl,hb⟩;refine ⟨_,rfl,?_⟩;replace BK262:=zh (zD (g:=gb262) (o:=.cells #[.string a0_0,.slice A0_1 l0_1.length c0_1,.slice A0_2 l0_2.length c0_2] 62 (0,0)) (by (with_reducible repeat (first|refine ze ?_ _|refine zf ?_|refine zg ?_ _));exact BK262.out) hb);replace BK263:=zh (zD (g:=gb263) (o:=.cells #[.string a1_0,.slice A1_1 l1_1.length c1_1,.slice A1_2 l1_2.length c1_2] 62 (0,0)) (by (with_reducible repeat (first|refine ze ?_ _|refine zf ?_|refine zg ?_ _));exact BK263.out) hb);replace HB:=zh (zC (by repeat (with_reducible first|exact HB.out|apply za|apply zb|apply zc|refine zd ?_ GE262.out|refine zd ?_ GE263.out)) hb);(try clear hb);(try clear hb2);(try clear hk);(try clear hi)))
   go_ret
   exact ⟨by first|rfl|(simp [yt,yu] <;> rfl)|(simp [*,yt,yu] <;> rfl),by repeat (with_reducible first|exact HB.out|apply za|apply zb|apply zc|refine zd ?_ GE262.out|refine zd ?_ GE263.out)⟩
  replace c5:=yb.mpr c5;subst c5;have H1 : (some false)=some r:=by rw [if_neg (show ¬ (false=true) by decide)] at H;exact H
  clear H;have H:=H1;clear H1;obtain rfl:=zU H
  go_enter Try.func50,Try.ntmps50
  go_wp2_with (first|((with_reducible refine zK (N:=2) rfl ?_);refine zI ?hg (N:=2) ?hd (cs:=#[.string a0_0,.slice A0_1 l0_1.length c0_1,.slice A0_2 l0_2.length c0_2]) (t:=62) ?hr ?_;(case hd => rfl);(case hg => rfl);(case hr => first|(go_simp;done)|(go_simp;rfl));intro gb262 hg w26 hbox hb;have BK262:=zh (hbox);have GW262:=zh ((by rw [hg];exact (zB (by repeat (with_reducible first|exact HB.out|apply za|apply zb|apply zc))) : w.heap.size≤gb262));have GE262:=zh ((by rw [hg];exact (zB (by repeat (with_reducible first|exact HB.out|apply za|apply zb|apply zc))) : w.heap.size≤gb262));replace HB:=zh (zC (by repeat (with_reducible first|exact HB.out|apply za|apply zb|apply zc)) hb);clear hb hbox hg)|((with_reducible refine zK (N:=3) rfl ?_);refine zI ?hg (N:=3) ?hd (cs:=#[.string a1_0,.slice A1_1 l1_1.length c1_1,.slice A1_2 l1_2.length c1_2]) (t:=62) ?hr ?_;(case hd => rfl);(case hg => rfl);(case hr => first|(go_simp;done)|(go_simp;rfl));intro gb263 hg w27 hbox hb;have BK263:=zh (hbox);have GW263:=zh ((by rw [hg];exact (zB (by repeat (with_reducible first|exact HB.out|apply za|apply zb|apply zc|refine zd ?_ GE262.out))) : w.heap.size≤gb263));have GE263:=zh ((by rw [hg];exact (zB (by repeat (with_reducible first|exact HB.out|apply za|apply zb|apply zc|refine zd ?_ GE262.out))) : w.heap.size≤gb263));replace HB:=zh (zC (by repeat (with_reducible first|exact HB.out|apply za|apply zb|apply zc|refine zd ?_ GE262.out)) hb);have NB262_263:=zh ((by rw [hg];exact yc (yi (g:=gb262) (o:=.cells #[.string a0_0,.slice A0_1 l0_1.length c0_1,.slice A0_2 l0_2.length c0_2] 62 (0,0)) (by (with_reducible repeat (first|refine ze ?_ _|refine zf ?_|refine zg ?_ _));exact BK262.out)) : gb262≠gb263));have NB263_262:=zh ((by rw [hg];exact yd (yi (g:=gb262) (o:=.cells #[.string a0_0,.slice A0_1 l0_1.length c0_1,.slice A0_2 l0_2.length c0_2] 62 (0,0)) (by (with_reducible repeat (first|refine ze ?_ _|refine zf ?_|refine zg ?_ _));exact BK262.out)) : gb263≠gb262));replace BK262:=zh (zD (g:=gb262) (o:=.cells #[.string a0_0,.slice A0_1 l0_1.length c0_1,.slice A0_2 l0_2.length c0_2] 62 (0,0)) (by (with_reducible repeat (first|refine ze ?_ _|refine zf ?_|refine zg ?_ _));exact BK262.out) hb);clear hb hbox hg;have hnb28:=NB262_263.out;have hnc28:=NB263_262.out;have hcz29_0 : w27.cell? ⟨gb262,0,none⟩=some (.string a0_0):=(zz BK262.out 0).trans rfl;have hcz29_1 : w27.cell? ⟨gb262,1,none⟩=some (.slice A0_1 l0_1.length c0_1):=(zz BK262.out 1).trans rfl;have hcz29_2 : w27.cell? ⟨gb262,2,none⟩=some (.slice A0_2 l0_2.length c0_2):=(zz BK262.out 2).trans rfl;have hfz29_0:=zA BK262.out 0;have hfz29_1:=zA BK262.out 1;have hfz29_2:=zA BK262.out 2;have hcz30_0 : w27.cell? ⟨gb263,0,none⟩=some (.string a1_0):=(zz BK263.out 0).trans rfl;have hcz30_1 : w27.cell? ⟨gb263,1,none⟩=some (.slice A1_1 l1_1.length c1_1):=(zz BK263.out 1).trans rfl;have hcz30_2 : w27.cell? ⟨gb263,2,none⟩=some (.slice A1_2 l1_2.length c1_2):=(zz BK263.out 2).trans rfl;have hfz30_0:=zA BK263.out 0;have hfz30_1:=zA BK263.out 1;have hfz30_2:=zA BK263.out 2)|((with_reducible refine zJ (f:=67) rfl ?_);refine yj (some 14) rfl rfl Try.func67 (by kernel_rfl) rfl #[.slice A0_1 l0_1.length c0_1,.slice A1_1 l1_1.length c1_1] rfl (by (try simp only [zt,zu,zv]);first|done|rfl|(simp only [zw,zx];rfl)|(simp only [yr,ys,zV,zW];rfl)) ?_;(with_reducible refine (Fl.calls k  _ _ l0_1 _ _ l1_1 false _ ?side1 ?side2 ?side3 ?side4 A4.out).mono ?_);(case side1 => repeat (first|exact (Kd.C_below HR0_1.out HB.out)|(with_reducible refine Kd.C_alloc ?_ _)|(with_reducible refine Kd.C_drewN ?_ _)|(with_reducible refine Kd.C_drew ?_)));(case side2 => exact HC0_1.out);(case side3 => repeat (first|exact (Kd.C_below HR1_1.out HB.out)|(with_reducible refine Kd.C_alloc ?_ _)|(with_reducible refine Kd.C_drewN ?_ _)|(with_reducible refine Kd.C_drew ?_)));(case side4 => exact HC1_1.out);rintro e w31 ⟨rfl,hb⟩;refine ⟨_,rfl,?_⟩;replace BK262:=zh (zD (g:=gb262) (o:=.cells #[.string a0_0,.slice A0_1 l0_1.length c0_1,.slice A0_2 l0_2.length c0_2] 62 (0,0)) (by (with_reducible repeat (first|refine ze ?_ _|refine zf ?_|refine zg ?_ _));exact BK262.out) hb);replace BK263:=zh (zD (g:=gb263) (o:=.cells #[.string a1_0,.slice A1_1 l1_1.length c1_1,.slice A1_2 l1_2.length c1_2] 62 (0,0)) (by (with_reducible repeat (first|refine ze ?_ _|refine zf ?_|refine zg ?_ _));exact BK263.out) hb);replace HB:=zh (zC (by repeat (with_reducible first|exact HB.out|apply za|apply zb|apply zc|refine zd ?_ GE262.out|refine zd ?_ GE263.out)) hb);(try clear hb);(try clear hb2);(try clear hk);(try clear hi)))
  go_ret
  exact ⟨by first|rfl|(simp [yt,yu] <;> rfl)|(simp [*,yt,yu] <;> rfl),by repeat (with_reducible first|exact HB.out|apply za|apply zb|apply zc|refine zd ?_ GE262.out|refine zd ?_ GE263.out)⟩
 rw [if_neg c3] at H;have c3b0 : (a0_0.toList == a1_0.toList)=false:=zY.mpr c3;have c3b1 : (a0_0.toList != a1_0.toList)=true:=zZ.mpr c3;obtain rfl:=zU H
 go_enter Try.func50,Try.ntmps50
 go_wp2_with (first|((with_reducible refine zK (N:=2) rfl ?_);refine zI ?hg (N:=2) ?hd (cs:=#[.string a0_0,.slice A0_1 l0_1.length c0_1,.slice A0_2 l0_2.length c0_2]) (t:=62) ?hr ?_;(case hd => rfl);(case hg => rfl);(case hr => first|(go_simp;done)|(go_simp;rfl));intro gb262 hg w32 hbox hb;have BK262:=zh (hbox);have GW262:=zh ((by rw [hg];exact (zB (by repeat (with_reducible first|exact HB.out|apply za|apply zb|apply zc))) : w.heap.size≤gb262));have GE262:=zh ((by rw [hg];exact (zB (by repeat (with_reducible first|exact HB.out|apply za|apply zb|apply zc))) : w.heap.size≤gb262));replace HB:=zh (zC (by repeat (with_reducible first|exact HB.out|apply za|apply zb|apply zc)) hb);clear hb hbox hg)|((with_reducible refine zK (N:=3) rfl ?_);refine zI ?hg (N:=3) ?hd (cs:=#[.string a1_0,.slice A1_1 l1_1.length c1_1,.slice A1_2 l1_2.length c1_2]) (t:=62) ?hr ?_;(case hd => rfl);(case hg => rfl);(case hr => first|(go_simp;done)|(go_simp;rfl));intro gb263 hg w33 hbox hb;have BK263:=zh (hbox);have GW263:=zh ((by rw [hg];exact (zB (by repeat (with_reducible first|exact HB.out|apply za|apply zb|apply zc|refine zd ?_ GE262.out))) : w.heap.size≤gb263));have GE263:=zh ((by rw [hg];exact (zB (by repeat (with_reducible first|exact HB.out|apply za|apply zb|apply zc|refine zd ?_ GE262.out))) : w.heap.size≤gb263));replace HB:=zh (zC (by repeat (with_reducible first|exact HB.out|apply za|apply zb|apply zc|refine zd ?_ GE262.out)) hb);have NB262_263:=zh ((by rw [hg];exact yc (yi (g:=gb262) (o:=.cells #[.string a0_0,.slice A0_1 l0_1.length c0_1,.slice A0_2 l0_2.length c0_2] 62 (0,0)) (by (with_reducible repeat (first|refine ze ?_ _|refine zf ?_|refine zg ?_ _));exact BK262.out)) : gb262≠gb263));have NB263_262:=zh ((by rw [hg];exact yd (yi (g:=gb262) (o:=.cells #[.string a0_0,.slice A0_1 l0_1.length c0_1,.slice A0_2 l0_2.length c0_2] 62 (0,0)) (by (with_reducible repeat (first|refine ze ?_ _|refine zf ?_|refine zg ?_ _));exact BK262.out)) : gb263≠gb262));replace BK262:=zh (zD (g:=gb262) (o:=.cells #[.string a0_0,.slice A0_1 l0_1.length c0_1,.slice A0_2 l0_2.length c0_2] 62 (0,0)) (by (with_reducible repeat (first|refine ze ?_ _|refine zf ?_|refine zg ?_ _));exact BK262.out) hb);clear hb hbox hg;have hnb34:=NB262_263.out;have hnc34:=NB263_262.out;have hcz35_0 : w33.cell? ⟨gb262,0,none⟩=some (.string a0_0):=(zz BK262.out 0).trans rfl;have hcz35_1 : w33.cell? ⟨gb262,1,none⟩=some (.slice A0_1 l0_1.length c0_1):=(zz BK262.out 1).trans rfl;have hcz35_2 : w33.cell? ⟨gb262,2,none⟩=some (.slice A0_2 l0_2.length c0_2):=(zz BK262.out 2).trans rfl;have hfz35_0:=zA BK262.out 0;have hfz35_1:=zA BK262.out 1;have hfz35_2:=zA BK262.out 2;have hcz36_0 : w33.cell? ⟨gb263,0,none⟩=some (.string a1_0):=(zz BK263.out 0).trans rfl;have hcz36_1 : w33.cell? ⟨gb263,1,none⟩=some (.slice A1_1 l1_1.length c1_1):=(zz BK263.out 1).trans rfl;have hcz36_2 : w33.cell? ⟨gb263,2,none⟩=some (.slice A1_2 l1_2.length c1_2):=(zz BK263.out 2).trans rfl;have hfz36_0:=zA BK263.out 0;have hfz36_1:=zA BK263.out 1;have hfz36_2:=zA BK263.out 2))
 go_ret
 exact ⟨by first|rfl|(simp [yt,yu] <;> rfl)|(simp [*,yt,yu] <;> rfl),by repeat (with_reducible first|exact HB.out|apply za|apply zb|apply zc|refine zd ?_ GE262.out|refine zd ?_ GE263.out)⟩

end Go.Proofs.Ytnppmokkdhgkgaa.Q
end
