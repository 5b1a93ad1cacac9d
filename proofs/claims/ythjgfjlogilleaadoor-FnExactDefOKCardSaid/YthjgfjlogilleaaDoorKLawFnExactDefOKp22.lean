/- Texts of this claim, merged by a program of this session. -/
import Derived.Lib.Strings
import Derived.Lib.Slices
import Derived.Lib.Walk
import Derived.Lib.Bytealg
import Derived.Test.YthjgfjlogilleaaDoorKLawFnExactDefOKp12
import Derived.Test.YthjgfjlogilleaaDoorKLawFnExactDefOKp14
import Derived.Test.YthjgfjlogilleaaDoorKLawFnExactDefOKp16
import Derived.Test.YthjgfjlogilleaaDoorKLawFnExactDefOKp17
import Derived.Test.YthjgfjlogilleaaDoorKLawFnExactDefOKp18
import Derived.Test.YthjgfjlogilleaaDoorKLawFnExactDefOKp20
import Derived.Test.YthjgfjlogilleaaDoorKLawFnExactDefOKp21
section
namespace Go.Proofs.YthjgfjlogilleaaDoor.Q
open Go.RowKit Go.Proofs.YthjgfjlogilleaaDoorW.PrintWords Go.Proofs.YthjgfjlogilleaaDoorW.PrintLast Go.Proofs.YthjgfjlogilleaaDoorW.PrintMore
attribute [local go_sem] max2_int min2_int max_two min_two max_three min_three max_four min_four max2_str min2_str str_geq str_gtr str_leq
set_option linter.unusedVariables false
set_option linter.unusedSimpArgs false



def errW : Option Int→Value
 | none => .nilIface
 | some c => .iface 0 (.int .i64 c)
theorem errW_none : errW none = .nilIface:=rfl
theorem errW_some (c : Int) : errW (some c) = .iface 0 (.int .i64 c):=rfl

theorem info9 : (Tryd.prog.info? 9).map (fun i => (i.zero,i.size,i.bytes))=some (some (.string ⟨#[]⟩),1,16):=by kernel_rfl
theorem info39 : (Tryd.prog.info? 39).map (fun i => (i.zero,i.size,i.bytes))=some (some (.agg #[(.int .i64 0),(.int .i64 0),(.string ⟨#[]⟩)]),3,32):=by kernel_rfl
theorem info62 : (Tryd.prog.info? 62).map (fun i => (i.zero,i.size,i.bytes))=some (some (.agg #[(.string ⟨#[]⟩),(.bool false)]),2,24):=by kernel_rfl
theorem info92 : (Tryd.prog.info? 92).map (fun i => (i.zero,i.size,i.bytes))=some (some (.agg #[(.string ⟨#[]⟩),(.int .i64 0),(.int .i64 0),(.string ⟨#[]⟩)]),4,48):=by kernel_rfl
-- the values' own types
structure S73 where
 f0 : ByteArray
 f1 : Bool
def z73 : S73:=⟨(⟨#[]⟩ : ByteArray),false⟩
def k73 : Kd S73:=Kd.iso (Kd.pair Kd.string Kd.bool) (fun x : S73 => (x.f0,x.f1))
theorem k73_open {w : World} {x : S73} {cs : List Value} (h : k73.K w x cs) : cs=[.string x.f0,.bool x.f1]:=by
 obtain ⟨_,_,rfl,rfl,rfl⟩:=h
 exact rfl
def rd_T73 (xs : List S73) (i : Int) : S73:=xs.getD i.toNat z73
theorem at_T73 {w : World} {A : Option Addr} {n : Nat} {xs : List S73} (h : Kd.C k73 w A n xs) (i : Int) (h0 : 0≤i) (h1 : i<n) : ∃ ad ,A=some ad∧w.cell? (ad.add (i.toNat * 2))=some (.string (rd_T73 xs i).f0)∧w.cell? ⟨(ad.add (i.toNat * 2)).block,(ad.add (i.toNat * 2)).off + 1,none⟩=some (.bool (rd_T73 xs i).f1):=by
 obtain ⟨ad,c,e,_,hK,hc0⟩:=Kd.C_get h z73 i h0 h1
 have hc : ∀ j u,c[j]? = some u→w.cell? (ad.add (i.toNat * 2 + j))=some u:=hc0
 obtain rfl:=k73_open hK
 exact ⟨ad,e,hc 0 _ rfl,by rw [← add_field _ _ 1 (by omega)];exact hc 1 _ rfl⟩

structure S62 where
 f0 : ByteArray
 f1 : Bool
def z62 : S62:=⟨(⟨#[]⟩ : ByteArray),false⟩
def k62 : Kd S62:=Kd.iso (Kd.pair Kd.string Kd.bool) (fun x : S62 => (x.f0,x.f1))
theorem k62_open {w : World} {x : S62} {cs : List Value} (h : k62.K w x cs) : cs=[.string x.f0,.bool x.f1]:=by
 obtain ⟨_,_,rfl,rfl,rfl⟩:=h
 exact rfl
theorem k62_openM {w : World} {base : Nat} {ok : Nat→Prop} {x : S62} {cs : List Value} (h : k62.M w base ok x cs) : cs=[.string x.f0,.bool x.f1]:=by
 obtain ⟨_,_,rfl,rfl,rfl⟩:=h
 exact rfl
theorem k62_mkM (w : World) (base : Nat) (ok : Nat→Prop) (x : S62)  : k62.M w base ok x [.string x.f0,.bool x.f1]:=⟨[.string x.f0],[.bool x.f1],rfl,rfl,rfl⟩
def rd_T62 (xs : List S62) (i : Int) : S62:=xs.getD i.toNat z62
theorem at_T62 {w : World} {A : Option Addr} {n : Nat} {xs : List S62} (h : Kd.C k62 w A n xs) (i : Int) (h0 : 0≤i) (h1 : i<n) : ∃ ad ,A=some ad∧w.cell? (ad.add (i.toNat * 2))=some (.string (rd_T62 xs i).f0)∧w.cell? ⟨(ad.add (i.toNat * 2)).block,(ad.add (i.toNat * 2)).off + 1,none⟩=some (.bool (rd_T62 xs i).f1):=by
 obtain ⟨ad,c,e,_,hK,hc0⟩:=Kd.C_get h z62 i h0 h1
 have hc : ∀ j u,c[j]? = some u→w.cell? (ad.add (i.toNat * 2 + j))=some u:=hc0
 obtain rfl:=k62_open hK
 exact ⟨ad,e,hc 0 _ rfl,by rw [← add_field _ _ 1 (by omega)];exact hc 1 _ rfl⟩

def rd_L4 (xs : List (List S73)) (i : Int) : (List S73):=xs.getD i.toNat ([] : List S73)
structure S24 where
 f0 : ByteArray
 f1 : (List S73)
def z24 : S24:=⟨(⟨#[]⟩ : ByteArray),([] : List S73)⟩
def k24 : Kd S24:=Kd.iso (Kd.pair Kd.string (Kd.slice 73 k73)) (fun x : S24 => (x.f0,x.f1))
theorem k24_open {w : World} {x : S24} {cs : List Value} (h : k24.K w x cs) : ∃ A1 c1,cs=[.string x.f0,.slice A1 x.f1.length c1]∧x.f1.length≤c1∧k73.C w A1 x.f1.length x.f1:=by
 obtain ⟨_,_,rfl,rfl,⟨A1,c1,rfl,l1,g1⟩⟩:=h
 exact ⟨A1,c1,rfl,l1,g1⟩
def rd_T24 (xs : List S24) (i : Int) : S24:=xs.getD i.toNat z24
structure S39 where
 f0 : Int
 f1 : Int
 f2 : ByteArray
def z39 : S39:=⟨(0 : Int),(0 : Int),(⟨#[]⟩ : ByteArray)⟩
def k39 : Kd S39:=Kd.iso (Kd.pair (Kd.int .i64) (Kd.pair (Kd.int .i64) Kd.string)) (fun x : S39 => (x.f0,x.f1,x.f2))
theorem k39_open {w : World} {x : S39} {cs : List Value} (h : k39.K w x cs) : cs=[.int .i64 x.f0,.int .i64 x.f1,.string x.f2]:=by
 obtain ⟨_,_,rfl,rfl,⟨_,_,rfl,rfl,rfl⟩⟩:=h
 exact rfl
theorem k39_mkM (w : World) (base : Nat) (ok : Nat→Prop) (x : S39)  : k39.M w base ok x [.int .i64 x.f0,.int .i64 x.f1,.string x.f2]:=⟨[.int .i64 x.f0],[.int .i64 x.f1,.string x.f2],rfl,rfl,⟨[.int .i64 x.f1],[.string x.f2],rfl,rfl,rfl⟩⟩
def rd_T39 (xs : List S39) (i : Int) : S39:=xs.getD i.toNat z39
theorem at_T39 {w : World} {A : Option Addr} {n : Nat} {xs : List S39} (h : Kd.C k39 w A n xs) (i : Int) (h0 : 0≤i) (h1 : i<n) : ∃ ad ,A=some ad∧w.cell? (ad.add (i.toNat * 3))=some (.int .i64 (rd_T39 xs i).f0)∧w.cell? ⟨(ad.add (i.toNat * 3)).block,(ad.add (i.toNat * 3)).off + 1,none⟩=some (.int .i64 (rd_T39 xs i).f1)∧w.cell? ⟨(ad.add (i.toNat * 3)).block,(ad.add (i.toNat * 3)).off + 2,none⟩=some (.string (rd_T39 xs i).f2):=by
 obtain ⟨ad,c,e,_,hK,hc0⟩:=Kd.C_get h z39 i h0 h1
 have hc : ∀ j u,c[j]? = some u→w.cell? (ad.add (i.toNat * 3 + j))=some u:=hc0
 obtain rfl:=k39_open hK
 exact ⟨ad,e,hc 0 _ rfl,by rw [← add_field _ _ 1 (by omega)];exact hc 1 _ rfl,by rw [← add_field _ _ 2 (by omega)];exact hc 2 _ rfl⟩

structure S92 where
 f0 : ByteArray
 f1 : S39
def z92 : S92:=⟨(⟨#[]⟩ : ByteArray),z39⟩
def k92 : Kd S92:=Kd.iso (Kd.pair Kd.string k39) (fun x : S92 => (x.f0,x.f1))
theorem k92_open {w : World} {x : S92} {cs : List Value} (h : k92.K w x cs) : cs=[.string x.f0,.int .i64 x.f1.f0,.int .i64 x.f1.f1,.string x.f1.f2]:=by
 obtain ⟨_,_,rfl,rfl,s1⟩:=h
 obtain rfl:=k39_open s1
 exact rfl
theorem k92_mkM (w : World) (base : Nat) (ok : Nat→Prop) (x : S92)  : k92.M w base ok x [.string x.f0,.int .i64 x.f1.f0,.int .i64 x.f1.f1,.string x.f1.f2]:=⟨[.string x.f0],[.int .i64 x.f1.f0,.int .i64 x.f1.f1,.string x.f1.f2],rfl,rfl,(k39_mkM w base ok x.f1 )⟩
def rd_T92 (xs : List S92) (i : Int) : S92:=xs.getD i.toNat z92
theorem at_T92 {w : World} {A : Option Addr} {n : Nat} {xs : List S92} (h : Kd.C k92 w A n xs) (i : Int) (h0 : 0≤i) (h1 : i<n) : ∃ ad ,A=some ad∧w.cell? (ad.add (i.toNat * 4))=some (.string (rd_T92 xs i).f0)∧w.cell? ⟨(ad.add (i.toNat * 4)).block,(ad.add (i.toNat * 4)).off + 1,none⟩=some (.int .i64 (rd_T92 xs i).f1.f0)∧w.cell? ⟨(ad.add (i.toNat * 4)).block,(ad.add (i.toNat * 4)).off + 2,none⟩=some (.int .i64 (rd_T92 xs i).f1.f1)∧w.cell? ⟨(ad.add (i.toNat * 4)).block,(ad.add (i.toNat * 4)).off + 3,none⟩=some (.string (rd_T92 xs i).f1.f2):=by
 obtain ⟨ad,c,e,_,hK,hc0⟩:=Kd.C_get h z92 i h0 h1
 have hc : ∀ j u,c[j]? = some u→w.cell? (ad.add (i.toNat * 4 + j))=some u:=hc0
 obtain rfl:=k92_open hK
 exact ⟨ad,e,hc 0 _ rfl,by rw [← add_field _ _ 1 (by omega)];exact hc 1 _ rfl,by rw [← add_field _ _ 2 (by omega)];exact hc 2 _ rfl,by rw [← add_field _ _ 3 (by omega)];exact hc 3 _ rfl⟩

structure S34 where
 f0 : Int
 f1 : Int
 f2 : ByteArray
def z34 : S34:=⟨(0 : Int),(0 : Int),(⟨#[]⟩ : ByteArray)⟩
def k34 : Kd S34:=Kd.iso (Kd.pair (Kd.int .i64) (Kd.pair (Kd.int .i64) Kd.string)) (fun x : S34 => (x.f0,x.f1,x.f2))
def rd_T34 (xs : List S34) (i : Int) : S34:=xs.getD i.toNat z34
structure S36 where
 f0 : Int
 f1 : ByteArray
 f2 : S34
def z36 : S36:=⟨(0 : Int),(⟨#[]⟩ : ByteArray),z34⟩
def k36 : Kd S36:=Kd.iso (Kd.pair (Kd.int .i64) (Kd.pair Kd.string k34)) (fun x : S36 => (x.f0,x.f1,x.f2))
def rd_T36 (xs : List S36) (i : Int) : S36:=xs.getD i.toNat z36
structure S44 where
 f0 : Int
 f1 : ByteArray
 f2 : S34
def z44 : S44:=⟨(0 : Int),(⟨#[]⟩ : ByteArray),z34⟩
def k44 : Kd S44:=Kd.iso (Kd.pair (Kd.int .i64) (Kd.pair Kd.string k34)) (fun x : S44 => (x.f0,x.f1,x.f2))
def rd_T44 (xs : List S44) (i : Int) : S44:=xs.getD i.toNat z44
abbrev bm_ (i n : Nat) : Array Bool:=(List.replicate i true ++ List.replicate (n - i) false).toArray
abbrev za:=@below_alloc
abbrev zb:=@pw_below_drewN
abbrev zc:=@below_drew1
abbrev zd:=@below_set
abbrev ze:=@blk_drewN
abbrev zf:=@blk_drew
abbrev zg:=@blk_alloc
abbrev zh:=@Aside0.mk
abbrev zi:=@List.setIfInBounds_toArray
abbrev zj:=@List.set_cons_zero
abbrev zk:=@List.set_cons_succ
abbrev zl:=@World.block_lt_of_cell?
abbrev zm:=@Kd.R_alloc
abbrev zn:=@Kd.R_drewN
abbrev zo:=@Kd.R_drew
abbrev zp:=@Kept.drewN
abbrev zq:=@Kept.drew
abbrev zr:=@Kept.alloc
abbrev zs:=@Kept.setCell
abbrev zt:=@List.map_toArray
abbrev zu:=@List.map_cons
abbrev zv:=@List.map_nil
abbrev zw:=@List.length_drop
abbrev zx:=@List.length_take
abbrev zy:=@of_decide_eq_true
abbrev zz:=@blk_cell
abbrev zA:=@blk_frozen
abbrev zB:=@below_size
abbrev zC:=@below_step
abbrev zD:=@blk_below
abbrev zE:=@Kd.R_far
abbrev zF:=@add_block
abbrev zG:=@i64_w
abbrev zH:=@i32_w
abbrev zI:=@box_event
abbrev zJ:=@gate_callee
abbrev zK:=@gate_dst
abbrev zL:=@blk_put
abbrev zM:=@Kd.R_mono
abbrev zN:=@LeO.none
abbrev zO:=@LeO.bind
abbrev zP:=@LeO.ite
abbrev zQ:=@LeO.refl
abbrev zR:=@cell_far
abbrev zS:=@blk_far
abbrev zT:=@Option.bind_eq_some_iff
abbrev zU:=@Option.some.inj
abbrev zV:=@Int.ofNat_lt
abbrev zW:=@Int.ofNat_le
abbrev zX:=@bne_eq_false_iff_eq
abbrev zY:=@beq_eq_false_iff_ne
abbrev zZ:=@bne_iff_ne
abbrev ya:=@beq_iff_eq
abbrev yb:=@Bool.eq_false_iff
abbrev yc:=@Nat.ne_of_lt
abbrev yd:=@Nat.ne_of_gt
abbrev ye:=@Nat.le_refl
abbrev yf:=@Kd.R_types
abbrev yg:=@Kd.R_below
abbrev yh:=@Kd.R_reads'
abbrev yi:=@blk_lt
abbrev yj:=@goesL_
abbrev yk:=@Kd.R_slice
abbrev yl:=@KeepBut.set_
abbrev ym:=@keep_drewN
abbrev yn:=@keep_alloc
abbrev yo:=@take_ofW
abbrev yp:=@Drawn0.refl
abbrev yq:=@Drawn0.step
abbrev yr:=@gt_iff_lt
abbrev ys:=@ge_iff_le
abbrev yt:=@errW_none
abbrev yu:=@errW_some
abbrev yv:=@Kd.R_away
abbrev yw:=@blk_grown
abbrev yx:=@keep_drew
abbrev yy:=@Kd.R_lower
abbrev yz:=@gate_guard
abbrev yA:=@Kept.of_grown
abbrev yB:=@gate_builtin

def impl_inRange.f (a0 : Int) (a1 : Int) (a2 : Int) : Option (Bool):=if a1≤a0 then (some (decide (a0≤a2))) else (some false)
set_option maxHeartbeats 8000000 in
set_option maxRecDepth 100000 in
theorem impl_inRange.calls (a0 : Int) (a1 : Int) (a2 : Int) (r : Bool) (w : World) (h : impl_inRange.f a0 a1 a2=some r) :
  Calls Tryd.prog 33 #[.int .i64 a0,.int .i64 a1,.int .i64 a2] w fun e w' => e = .returned (.bool r)∧Drawn0 w w':=by
 have H : (if a1≤a0 then (some (decide (a0≤a2))) else (some false))=some r:=h;clear h
 by_cases c4 : a1≤a0
 ·
  rw [if_pos c4] at H
  have c4b0 : decide (a1≤a0)=true:=decide_eq_true c4;clear c4;obtain rfl:=zU H
  go_enter Tryd.func33,Tryd.ntmps33
  go_wp2
  go_ret
  exact ⟨by first|rfl|(simp;done)|(simp [*];done),by repeat (first|exact yp _|apply yq)⟩
 rw [if_neg c4] at H;have c4b0 : decide (a1≤a0)=false:=decide_eq_false c4;clear c4;obtain rfl:=zU H
 go_enter Tryd.func33,Tryd.ntmps33
 go_wp2
 go_ret
 exact ⟨by first|rfl|(simp;done)|(simp [*];done),by repeat (first|exact yp _|apply yq)⟩


def impl_isLetter.f (a0 : Int) : Option (Bool):=if a0 ≥ 97 then (if a0≤122 then (some true) else (if a0 ≥ 65 then (if a0≤90 then (some true) else (some (a0 == 95))) else (some (a0 == 95)))) else (if a0 ≥ 65 then (if a0≤90 then (some true) else (some (a0 == 95))) else (some (a0 == 95)))
set_option maxHeartbeats 8000000 in
set_option maxRecDepth 100000 in
theorem impl_isLetter.calls (a0 : Int) (r : Bool) (w : World) (h : impl_isLetter.f a0=some r) :
  Calls Tryd.prog 64 #[.int .u8 a0] w fun e w' => e = .returned (.bool r)∧Drawn0 w w':=by
 have H : (if a0 ≥ 97 then (if a0≤122 then (some true) else (if a0 ≥ 65 then (if a0≤90 then (some true) else (some (a0 == 95))) else (some (a0 == 95)))) else (if a0 ≥ 65 then (if a0≤90 then (some true) else (some (a0 == 95))) else (some (a0 == 95))))=some r:=h;clear h
 by_cases c2 : a0 ≥ 97
 ·
  rw [if_pos c2] at H
  have c2b0 : decide (97≤a0)=true:=decide_eq_true c2;clear c2
  by_cases c3 : a0≤122
  ·
   rw [if_pos c3] at H
   have c3b0 : decide (a0≤122)=true:=decide_eq_true c3;clear c3;obtain rfl:=zU H
   go_enter Tryd.func64,Tryd.ntmps64
   go_wp2
   go_ret
   exact ⟨by first|rfl|(simp;done)|(simp [*];done),by repeat (first|exact yp _|apply yq)⟩
  rw [if_neg c3] at H;have c3b0 : decide (a0≤122)=false:=decide_eq_false c3;clear c3
  by_cases c4 : a0 ≥ 65
  ·
   rw [if_pos c4] at H
   have c4b0 : decide (65≤a0)=true:=decide_eq_true c4;clear c4
   by_cases c5 : a0≤90
   ·
    rw [if_pos c5] at H
    have c5b0 : decide (a0≤90)=true:=decide_eq_true c5;clear c5;obtain rfl:=zU H
    go_enter Tryd.func64,Tryd.ntmps64
    go_wp2
    go_ret
    exact ⟨by first|rfl|(simp;done)|(simp [*];done),by repeat (first|exact yp _|apply yq)⟩
   rw [if_neg c5] at H;have c5b0 : decide (a0≤90)=false:=decide_eq_false c5;clear c5;obtain rfl:=zU H
   go_enter Tryd.func64,Tryd.ntmps64
   go_wp2
   go_ret
   exact ⟨by first|rfl|(simp;done)|(simp [*];done),by repeat (first|exact yp _|apply yq)⟩
  rw [if_neg c4] at H;have c4b0 : decide (65≤a0)=false:=decide_eq_false c4;clear c4;obtain rfl:=zU H
  go_enter Tryd.func64,Tryd.ntmps64
  go_wp2
  go_ret
  exact ⟨by first|rfl|(simp;done)|(simp [*];done),by repeat (first|exact yp _|apply yq)⟩
 rw [if_neg c2] at H;have c2b0 : decide (97≤a0)=false:=decide_eq_false c2;clear c2
 by_cases c6 : a0 ≥ 65
 ·
  rw [if_pos c6] at H
  have c6b0 : decide (65≤a0)=true:=decide_eq_true c6;clear c6
  by_cases c7 : a0≤90
  ·
   rw [if_pos c7] at H
   have c7b0 : decide (a0≤90)=true:=decide_eq_true c7;clear c7;obtain rfl:=zU H
   go_enter Tryd.func64,Tryd.ntmps64
   go_wp2
   go_ret
   exact ⟨by first|rfl|(simp;done)|(simp [*];done),by repeat (first|exact yp _|apply yq)⟩
  rw [if_neg c7] at H;have c7b0 : decide (a0≤90)=false:=decide_eq_false c7;clear c7;obtain rfl:=zU H
  go_enter Tryd.func64,Tryd.ntmps64
  go_wp2
  go_ret
  exact ⟨by first|rfl|(simp;done)|(simp [*];done),by repeat (first|exact yp _|apply yq)⟩
 rw [if_neg c6] at H;have c6b0 : decide (65≤a0)=false:=decide_eq_false c6;clear c6;obtain rfl:=zU H
 go_enter Tryd.func64,Tryd.ntmps64
 go_wp2
 go_ret
 exact ⟨by first|rfl|(simp;done)|(simp [*];done),by repeat (first|exact yp _|apply yq)⟩


def impl_isDigit.f (a0 : Int) : Option (Bool):=if a0 ≥ 48 then (some (decide (a0≤57))) else (some false)
set_option maxHeartbeats 8000000 in
set_option maxRecDepth 100000 in
theorem impl_isDigit.calls (a0 : Int) (r : Bool) (w : World) (h : impl_isDigit.f a0=some r) :
  Calls Tryd.prog 65 #[.int .u8 a0] w fun e w' => e = .returned (.bool r)∧Drawn0 w w':=by
 have H : (if a0 ≥ 48 then (some (decide (a0≤57))) else (some false))=some r:=h;clear h
 by_cases c2 : a0 ≥ 48
 ·
  rw [if_pos c2] at H
  have c2b0 : decide (48≤a0)=true:=decide_eq_true c2;clear c2;obtain rfl:=zU H
  go_enter Tryd.func65,Tryd.ntmps65
  go_wp2
  go_ret
  exact ⟨by first|rfl|(simp;done)|(simp [*];done),by repeat (first|exact yp _|apply yq)⟩
 rw [if_neg c2] at H;have c2b0 : decide (48≤a0)=false:=decide_eq_false c2;clear c2;obtain rfl:=zU H
 go_enter Tryd.func65,Tryd.ntmps65
 go_wp2
 go_ret
 exact ⟨by first|rfl|(simp;done)|(simp [*];done),by repeat (first|exact yp _|apply yq)⟩


def impl_NameOK.l0 : Nat→ByteArray→Int→Int→Option (Bool)
 | 0,_,_,_ => none
 | k + 1,x0,x5,x6 => if x6<x5 then (if 0≤x6 then (if x6<(x0.size : Int) then ((impl_isLetter.f (bt x0 x6)).bind fun t149 => (if t149=true then (impl_NameOK.l0 k x0 x5 (wrap64 (x6 + 1))) else ((impl_isDigit.f (bt x0 x6)).bind fun t150 => (if t150=true then (if x6=0 then (some false) else (impl_NameOK.l0 k x0 x5 (wrap64 (x6 + 1)))) else (some false))))) else (none)) else (none)) else ((impl_inRange.f (x0.size : Int) 1 40).bind fun t148 => (some t148))
def impl_NameOK.f (k : Nat) (a0 : ByteArray) : Option (Bool):=impl_NameOK.l0 k a0 (a0.size : Int) 0
theorem impl_NameOK.mono_l : ∀ k,(∀ y0 y1 y2,LeO (impl_NameOK.l0 k y0 y1 y2) (impl_NameOK.l0 (k + 1) y0 y1 y2))
 | 0 => fun _ _ _ r h => by simp [impl_NameOK.l0] at h
 | k + 1 => by
  have ih0:=impl_NameOK.mono_l k;intro y0 y1 y2;unfold impl_NameOK.l0
  repeat' first|(with_reducible first|exact ih0 _ _ _|exact zQ _|exact zN _|refine zP ?_ ?_|refine zO ?_ (fun _ => ?_))|refine zP ?_ ?_|refine zO ?_ (fun _ => ?_)
theorem impl_NameOK.mono : ∀ a0 k,LeO (impl_NameOK.f k a0) (impl_NameOK.f (k + 1) a0):=by
 intro a0 k;have ih0:=impl_NameOK.mono_l k;unfold impl_NameOK.f
 repeat' first|(with_reducible first|exact ih0 _ _ _|exact zQ _|exact zN _|refine zP ?_ ?_|refine zO ?_ (fun _ => ?_))|refine zP ?_ ?_|refine zO ?_ (fun _ => ?_)
set_option maxHeartbeats 8000000 in
set_option maxRecDepth 100000 in
theorem impl_NameOK.calls (k : Nat) (a0 : ByteArray) (r : Bool) (w : World) (h : impl_NameOK.f k a0=some r) :
  Calls Tryd.prog 51 #[.string a0] w fun e w' => e = .returned (.bool r)∧Drawn0 w w':=by
 have H : (impl_NameOK.l0 k a0 (a0.size : Int) 0)=some r:=h;clear h;have H':=zh H;clear H
 go_enter Tryd.func51,Tryd.ntmps51
 go_wp2
 go_loopg [6] k (fun kq v6 w' => ∃ (x6_1 : Int),v6 = .int .i64 x6_1∧Aside0 (impl_NameOK.l0 kq a0 (a0.size : Int) x6_1=some r)∧Aside0 (kq≤k)∧Drawn0 w w')
 case atStart => exact ⟨(0),(by first|rfl|(simp;done)|(simp [*];done)),H',⟨ye _⟩,by repeat (first|exact yp _|apply yq)⟩
 case round =>
  clear H';obtain ⟨x6_1,rfl,HA,HK1,⟨m1,rfl⟩⟩:=hrel
  cases gk with
  | zero => exact absurd HA.out (by simp [impl_NameOK.l0])
  | succ k1 =>
   have H:=HA.out;clear HA;simp only [impl_NameOK.l0] at H
   by_cases c2 : x6_1<(a0.size : Int)
   ·
    rw [if_pos c2] at H
    have c2b0 : decide (x6_1<(a0.size : Int))=true:=decide_eq_true c2;clear c2
    by_cases c3 : 0≤x6_1
    ·
     rw [if_pos c3] at H
     have c3b0 : decide (0≤x6_1)=true:=decide_eq_true c3;clear c3
     by_cases c4 : x6_1<(a0.size : Int)
     ·
      rw [if_pos c4] at H
      have c4b0 : decide (x6_1<(a0.size : Int))=true:=decide_eq_true c4;clear c4;replace H:=zT.mp H;obtain ⟨t149,A60,H⟩:=H;replace H : (if t149=true then (impl_NameOK.l0 k1 a0 (a0.size : Int) (wrap64 (x6_1 + 1))) else ((impl_isDigit.f (bt a0 x6_1)).bind fun t150 => (if t150=true then (if x6_1=0 then (some false) else (impl_NameOK.l0 k1 a0 (a0.size : Int) (wrap64 (x6_1 + 1)))) else (some false))))=some r:=H;have A6:=zh A60;clear A60
      by_cases c7 : t149=true
      ·
       subst c7
       have H1 : (impl_NameOK.l0 k1 a0 (a0.size : Int) (wrap64 (x6_1 + 1)))=some r:=by rw [if_pos rfl] at H;exact H
       clear H;have H:=H1;clear H1;have H':=zh H;clear H;have p5 : 0≤(x6_1 : Int):=zy (by first|(with_reducible assumption)|assumption);have q5 : x6_1<(a0.size : Int):=zy (by first|(with_reducible assumption)|assumption);have hx5:=bt_at a0 x6_1;replace p5:=eq_true p5;replace q5:=eq_true q5
       go_wp2_with (first|((with_reducible refine zJ (f:=64) rfl ?_);refine yj (some 12) rfl rfl Tryd.func64 (by kernel_rfl) rfl #[.int .u8 (bt a0 x6_1)] rfl (by (try simp only [zt,zu,zv]);first|done|rfl|(simp only [zw,zx];rfl)|(simp only [yr,ys,zV,zW];rfl)) ?_;(with_reducible refine (impl_isLetter.calls  (bt a0 x6_1) true _ A6.out).mono ?_);rintro e w' ⟨rfl,⟨nd,rfl⟩⟩;refine ⟨_,rfl,?_⟩))
       go_roundg k1
       case measure => have:=HK1.out;omega
       case rel => exact ⟨(wrap64 (x6_1 + 1)),(by first|rfl|(simp;done)|(simp [*];done)),H',⟨by have:=HK1.out;omega⟩,by repeat (first|exact yp _|apply yq)⟩
      replace c7:=yb.mpr c7;subst c7;have H1 : ((impl_isDigit.f (bt a0 x6_1)).bind fun t150 => (if t150=true then (if x6_1=0 then (some false) else (impl_NameOK.l0 k1 a0 (a0.size : Int) (wrap64 (x6_1 + 1)))) else (some false)))=some r:=by rw [if_neg (show ¬ (false=true) by decide)] at H;exact H
      clear H;have H:=H1;clear H1;replace H:=zT.mp H;obtain ⟨t150,A90,H⟩:=H;replace H : (if t150=true then (if x6_1=0 then (some false) else (impl_NameOK.l0 k1 a0 (a0.size : Int) (wrap64 (x6_1 + 1)))) else (some false))=some r:=H;have A9:=zh A90;clear A90
      by_cases c10 : t150=true
      ·
       subst c10
       have H1 : (if x6_1=0 then (some false) else (impl_NameOK.l0 k1 a0 (a0.size : Int) (wrap64 (x6_1 + 1))))=some r:=by rw [if_pos rfl] at H;exact H
       clear H;have H:=H1;clear H1
       by_cases c11 : x6_1=0
       ·
        rw [if_pos c11] at H
        have c11b0 : (x6_1 == 0)=true:=ya.mpr c11;have c11b1 : (x6_1 != 0)=false:=zX.mpr c11;clear c11;obtain rfl:=zU H;have p5 : 0≤(x6_1 : Int):=zy (by first|(with_reducible assumption)|assumption);have q5 : x6_1<(a0.size : Int):=zy (by first|(with_reducible assumption)|assumption);have hx5:=bt_at a0 x6_1;replace p5:=eq_true p5;replace q5:=eq_true q5
        go_wp2_with (first|((with_reducible refine zJ (f:=64) rfl ?_);refine yj (some 12) rfl rfl Tryd.func64 (by kernel_rfl) rfl #[.int .u8 (bt a0 x6_1)] rfl (by (try simp only [zt,zu,zv]);first|done|rfl|(simp only [zw,zx];rfl)|(simp only [yr,ys,zV,zW];rfl)) ?_;(with_reducible refine (impl_isLetter.calls  (bt a0 x6_1) false _ A6.out).mono ?_);rintro e w' ⟨rfl,⟨nd,rfl⟩⟩;refine ⟨_,rfl,?_⟩;have p8 : 0≤(x6_1 : Int):=zy (by first|(with_reducible assumption)|assumption);have q8 : x6_1<(a0.size : Int):=zy (by first|(with_reducible assumption)|assumption);have hx8:=bt_at a0 x6_1;replace p8:=eq_true p8;replace q8:=eq_true q8)|(go_at_call 65;(with_reducible refine (impl_isDigit.calls  (bt a0 x6_1) true _ A9.out).mono ?_);rintro e w' ⟨rfl,⟨nd,rfl⟩⟩))
        go_ret
        exact ⟨by first|rfl|(simp;done)|(simp [*];done),by repeat (first|exact yp _|apply yq)⟩
       rw [if_neg c11] at H;have c11b0 : (x6_1 == 0)=false:=zY.mpr c11;have c11b1 : (x6_1 != 0)=true:=zZ.mpr c11;have H':=zh H;clear H;have p5 : 0≤(x6_1 : Int):=zy (by first|(with_reducible assumption)|assumption);have q5 : x6_1<(a0.size : Int):=zy (by first|(with_reducible assumption)|assumption);have hx5:=bt_at a0 x6_1;replace p5:=eq_true p5;replace q5:=eq_true q5
       go_wp2_with (first|((with_reducible refine zJ (f:=64) rfl ?_);refine yj (some 12) rfl rfl Tryd.func64 (by kernel_rfl) rfl #[.int .u8 (bt a0 x6_1)] rfl (by (try simp only [zt,zu,zv]);first|done|rfl|(simp only [zw,zx];rfl)|(simp only [yr,ys,zV,zW];rfl)) ?_;(with_reducible refine (impl_isLetter.calls  (bt a0 x6_1) false _ A6.out).mono ?_);rintro e w' ⟨rfl,⟨nd,rfl⟩⟩;refine ⟨_,rfl,?_⟩;have p8 : 0≤(x6_1 : Int):=zy (by first|(with_reducible assumption)|assumption);have q8 : x6_1<(a0.size : Int):=zy (by first|(with_reducible assumption)|assumption);have hx8:=bt_at a0 x6_1;replace p8:=eq_true p8;replace q8:=eq_true q8)|(go_at_call 65;(with_reducible refine (impl_isDigit.calls  (bt a0 x6_1) true _ A9.out).mono ?_);rintro e w' ⟨rfl,⟨nd,rfl⟩⟩))
       go_roundg k1
       case measure => have:=HK1.out;omega
       case rel => exact ⟨(wrap64 (x6_1 + 1)),(by first|rfl|(simp;done)|(simp [*];done)),H',⟨by have:=HK1.out;omega⟩,by repeat (first|exact yp _|apply yq)⟩
      replace c10:=yb.mpr c10;subst c10;have H1 : (some false)=some r:=by rw [if_neg (show ¬ (false=true) by decide)] at H;exact H
      clear H;have H:=H1;clear H1;obtain rfl:=zU H;have p5 : 0≤(x6_1 : Int):=zy (by first|(with_reducible assumption)|assumption);have q5 : x6_1<(a0.size : Int):=zy (by first|(with_reducible assumption)|assumption);have hx5:=bt_at a0 x6_1;replace p5:=eq_true p5;replace q5:=eq_true q5
      go_wp2_with (first|((with_reducible refine zJ (f:=64) rfl ?_);refine yj (some 12) rfl rfl Tryd.func64 (by kernel_rfl) rfl #[.int .u8 (bt a0 x6_1)] rfl (by (try simp only [zt,zu,zv]);first|done|rfl|(simp only [zw,zx];rfl)|(simp only [yr,ys,zV,zW];rfl)) ?_;(with_reducible refine (impl_isLetter.calls  (bt a0 x6_1) false _ A6.out).mono ?_);rintro e w' ⟨rfl,⟨nd,rfl⟩⟩;refine ⟨_,rfl,?_⟩;have p8 : 0≤(x6_1 : Int):=zy (by first|(with_reducible assumption)|assumption);have q8 : x6_1<(a0.size : Int):=zy (by first|(with_reducible assumption)|assumption);have hx8:=bt_at a0 x6_1;replace p8:=eq_true p8;replace q8:=eq_true q8)|(go_at_call 65;(with_reducible refine (impl_isDigit.calls  (bt a0 x6_1) false _ A9.out).mono ?_);rintro e w' ⟨rfl,⟨nd,rfl⟩⟩))
      go_ret
      exact ⟨by first|rfl|(simp;done)|(simp [*];done),by repeat (first|exact yp _|apply yq)⟩
     rw [if_neg c4] at H;exact absurd H (by simp)
    rw [if_neg c3] at H;exact absurd H (by simp)
   rw [if_neg c2] at H;have c2b0 : decide (x6_1<(a0.size : Int))=false:=decide_eq_false c2;clear c2;replace H:=zT.mp H;obtain ⟨t148,A120,H⟩:=H;replace H : (some t148)=some r:=H;have A12:=zh A120;clear A120;obtain rfl:=zU H
   go_wp2_with (first|((with_reducible refine zJ (f:=33) rfl ?_);refine yj (some 28) rfl rfl Tryd.func33 (by kernel_rfl) rfl #[.int .i64 (a0.size : Int),.int .i64 1,.int .i64 40] rfl (by (try simp only [zt,zu,zv]);first|done|rfl|(simp only [zw,zx];rfl)|(simp only [yr,ys,zV,zW];rfl)) ?_;(with_reducible refine (impl_inRange.calls  (a0.size : Int) 1 40 t148 _ A12.out).mono ?_);rintro e w' ⟨rfl,⟨nd,rfl⟩⟩;refine ⟨_,rfl,?_⟩))
   go_ret
   exact ⟨by first|rfl|(simp;done)|(simp [*];done),by repeat (first|exact yp _|apply yq)⟩


def impl_isShort.f (k : Nat) (a0 : ByteArray) : Option (Bool):=if (a0.size : Int)≤12 then ((impl_NameOK.f k a0).bind fun t151 => (some t151)) else (some false)
theorem impl_isShort.mono : ∀ a0 k,LeO (impl_isShort.f k a0) (impl_isShort.f (k + 1) a0):=by
 intro a0 k;unfold impl_isShort.f
 repeat' first|(with_reducible first|exact impl_NameOK.mono _ _|exact zQ _|exact zN _|refine zP ?_ ?_|refine zO ?_ (fun _ => ?_))|refine zP ?_ ?_|refine zO ?_ (fun _ => ?_)
set_option maxHeartbeats 8000000 in
set_option maxRecDepth 100000 in
theorem impl_isShort.calls (k : Nat) (a0 : ByteArray) (r : Bool) (w : World) (h : impl_isShort.f k a0=some r) :
  Calls Tryd.prog 32 #[.string a0] w fun e w' => e = .returned (.bool r)∧Drawn0 w w':=by
 have H : (if (a0.size : Int)≤12 then ((impl_NameOK.f k a0).bind fun t151 => (some t151)) else (some false))=some r:=h;clear h
 by_cases c2 : (a0.size : Int)≤12
 ·
  rw [if_pos c2] at H
  have c2b0 : decide ((a0.size : Int)≤12)=true:=decide_eq_true c2;have c2b1 : decide (a0.size≤12)=true:=decide_eq_true (by omega);clear c2;replace H:=zT.mp H;obtain ⟨t151,A30,H⟩:=H;replace H : (some t151)=some r:=H;have A3:=zh A30;clear A30;obtain rfl:=zU H
  go_enter Tryd.func32,Tryd.ntmps32
  go_wp2_with (first|(go_at_call 51;(with_reducible refine (impl_NameOK.calls k  a0 t151 _ A3.out).mono ?_);rintro e w' ⟨rfl,⟨nd,rfl⟩⟩))
  go_ret
  exact ⟨by first|rfl|(simp;done)|(simp [*];done),by repeat (first|exact yp _|apply yq)⟩
 rw [if_neg c2] at H;have c2b0 : decide ((a0.size : Int)≤12)=false:=decide_eq_false c2;have c2b1 : decide (a0.size≤12)=false:=decide_eq_false (by omega);clear c2;obtain rfl:=zU H
 go_enter Tryd.func32,Tryd.ntmps32
 go_wp2
 go_ret
 exact ⟨by first|rfl|(simp;done)|(simp [*];done),by repeat (first|exact yp _|apply yq)⟩


def strings_Split.f (a0 : ByteArray) (a1 : ByteArray) : Option (List ByteArray):=if a1.size=1 then (if a0.size<4294967281 then (some (pieces a0 a1)) else (none)) else (none)
theorem strings_Split.calls (a0 : ByteArray) (a1 : ByteArray) (r : List ByteArray) (w : World) (h : strings_Split.f a0 a1=some r) :
  Calls Tryd.prog 55 #[.string a0,.string a1] w fun e w' => ∃ v0_ : Value,e = .returned (v0_)∧Kd.R Kd.string 9 w' w.heap.size (fun _ => True) v0_ r∧Below w.heap.size w w':=by
 unfold strings_Split.f at h
 by_cases h0 : a1.size=1
 ·
  rw [if_pos h0] at h
  by_cases h1 : a0.size<4294967281
  ·
   rw [if_pos h1] at h
   obtain rfl:=zU h;obtain ⟨c,rfl⟩:=Lib.one_byte a1 h0;exact split_one a0 c w h1
  rw [if_neg h1] at h;exact absurd h (by simp)
 rw [if_neg h0] at h;exact absurd h (by simp)


def impl_PathOK_1.f (k : Nat) (a0 : ByteArray) : Option (Bool):=(impl_isShort.f k a0).bind fun t152 => (some (!t152))
theorem impl_PathOK_1.mono : ∀ a0 k,LeO (impl_PathOK_1.f k a0) (impl_PathOK_1.f (k + 1) a0):=by
 intro a0 k;unfold impl_PathOK_1.f
 repeat' first|(with_reducible first|exact impl_isShort.mono _ _|exact zQ _|exact zN _|refine zP ?_ ?_|refine zO ?_ (fun _ => ?_))|refine zP ?_ ?_|refine zO ?_ (fun _ => ?_)
set_option maxHeartbeats 8000000 in
set_option maxRecDepth 100000 in
theorem impl_PathOK_1.calls (k : Nat) (a0 : ByteArray) (r : Bool) (w : World) (h : impl_PathOK_1.f k a0=some r) :
  Calls Tryd.prog 57 #[.string a0] w fun e w' => e = .returned (.bool r)∧Drawn0 w w':=by
 have H : ((impl_isShort.f k a0).bind fun t152 => (some (!t152)))=some r:=h;clear h;replace H:=zT.mp H;obtain ⟨t152,A20,H⟩:=H;replace H : (some (!t152))=some r:=H;have A2:=zh A20;clear A20;obtain rfl:=zU H
 go_enter Tryd.func57,Tryd.ntmps57
 go_wp2_with (first|((with_reducible refine zJ (f:=32) rfl ?_);refine yj (some 4) rfl rfl Tryd.func32 (by kernel_rfl) rfl #[.string a0] rfl (by (try simp only [zt,zu,zv]);first|done|rfl|(simp only [zw,zx];rfl)|(simp only [yr,ys,zV,zW];rfl)) ?_;(with_reducible refine (impl_isShort.calls k  a0 t152 _ A2.out).mono ?_);rintro e w' ⟨rfl,⟨nd,rfl⟩⟩;refine ⟨_,rfl,?_⟩))
 go_ret
 exact ⟨by first|rfl|(simp;done)|(simp [*];done),by repeat (first|exact yp _|apply yq)⟩


def slices_IndexFunc_string_string_at_PathOK_1.l0 : Nat→List ByteArray→Int→Int→Option (Int)
 | 0,_,_,_ => none
 | k + 1,x0,x7,x8 => if x8<x7 then (if 0≤x8 then (if x8<(x0.length : Int) then ((impl_PathOK_1.f k (rdOf ByteArray.empty x0 x8)).bind fun t154 => (if t154=true then (some x8) else (slices_IndexFunc_string_string_at_PathOK_1.l0 k x0 x7 (wrap64 (x8 + 1))))) else (none)) else (none)) else (some (-1))
def slices_IndexFunc_string_string_at_PathOK_1.f (k : Nat) (l0 : List ByteArray)  : Option (Int):=slices_IndexFunc_string_string_at_PathOK_1.l0 k l0 (l0.length : Int) 0
theorem slices_IndexFunc_string_string_at_PathOK_1.mono_l : ∀ k,(∀ y0 y1 y2,LeO (slices_IndexFunc_string_string_at_PathOK_1.l0 k y0 y1 y2) (slices_IndexFunc_string_string_at_PathOK_1.l0 (k + 1) y0 y1 y2))
 | 0 => fun _ _ _ r h => by simp [slices_IndexFunc_string_string_at_PathOK_1.l0] at h
 | k + 1 => by
  have ih0:=slices_IndexFunc_string_string_at_PathOK_1.mono_l k;intro y0 y1 y2;unfold slices_IndexFunc_string_string_at_PathOK_1.l0
  repeat' first|(with_reducible first|exact ih0 _ _ _|exact impl_PathOK_1.mono _ _|exact zQ _|exact zN _|refine zP ?_ ?_|refine zO ?_ (fun _ => ?_))|refine zP ?_ ?_|refine zO ?_ (fun _ => ?_)
theorem slices_IndexFunc_string_string_at_PathOK_1.mono : ∀ a0 k,LeO (slices_IndexFunc_string_string_at_PathOK_1.f k a0) (slices_IndexFunc_string_string_at_PathOK_1.f (k + 1) a0):=by
 intro a0 k;have ih0:=slices_IndexFunc_string_string_at_PathOK_1.mono_l k;unfold slices_IndexFunc_string_string_at_PathOK_1.f
 repeat' first|(with_reducible first|exact ih0 _ _ _|exact impl_PathOK_1.mono _ _|exact zQ _|exact zN _|refine zP ?_ ?_|refine zO ?_ (fun _ => ?_))|refine zP ?_ ?_|refine zO ?_ (fun _ => ?_)
set_option maxHeartbeats 8000000 in
set_option maxRecDepth 100000 in
theorem slices_IndexFunc_string_string_at_PathOK_1.calls (k : Nat) (A0 : Option Addr) (c0 : Nat) (l0 : List ByteArray)  (r : Int) (w : World) (hr0 : Kd.C Kd.string w A0 l0.length l0) (hc0 : l0.length≤c0) (h : slices_IndexFunc_string_string_at_PathOK_1.f k l0=some r) :
  Calls Tryd.prog 69 #[.slice A0 l0.length c0,.func (.func 57) #[] #[]] w fun e w' => e = .returned (.int .i64 r)∧Drawn0 w w':=by
 have HR0:=zh hr0;have HC0:=zh hc0;clear hr0 hc0;have H : (slices_IndexFunc_string_string_at_PathOK_1.l0 k l0 (l0.length : Int) 0)=some r:=h;clear h;have H':=zh H;clear H
 go_enter Tryd.func69,Tryd.ntmps69
 go_wp2
 go_loopg [8] k (fun kq v8 w' => ∃ (x8_1 : Int),v8 = .int .i64 x8_1∧Aside0 (slices_IndexFunc_string_string_at_PathOK_1.l0 kq l0 (l0.length : Int) x8_1=some r)∧Aside0 (kq≤k)∧Drawn0 w w')
 case atStart => exact ⟨(0),(by first|rfl|(simp;done)|(simp [*];done)),H',⟨ye _⟩,by repeat (first|exact yp _|apply yq)⟩
 case round =>
  clear H'
  try clear p2
  obtain ⟨x8_1,rfl,HA,HK1,⟨m1,rfl⟩⟩:=hrel
  cases gk with
  | zero => exact absurd HA.out (by simp [slices_IndexFunc_string_string_at_PathOK_1.l0])
  | succ k1 =>
   have H:=HA.out;clear HA;simp only [slices_IndexFunc_string_string_at_PathOK_1.l0] at H
   by_cases c3 : x8_1<(l0.length : Int)
   ·
    rw [if_pos c3] at H
    have c3b0 : decide (x8_1<(l0.length : Int))=true:=decide_eq_true c3;clear c3
    by_cases c4 : 0≤x8_1
    ·
     rw [if_pos c4] at H
     have c4b0 : decide (0≤x8_1)=true:=decide_eq_true c4;clear c4
     by_cases c5 : x8_1<(l0.length : Int)
     ·
      rw [if_pos c5] at H
      have c5b0 : decide (x8_1<(l0.length : Int))=true:=decide_eq_true c5;clear c5;replace H:=zT.mp H;obtain ⟨t154,A60,H⟩:=H;replace H : (if t154=true then (some x8_1) else (slices_IndexFunc_string_string_at_PathOK_1.l0 k1 l0 (l0.length : Int) (wrap64 (x8_1 + 1))))=some r:=H;have A6:=zh A60;clear A60
      by_cases c7 : t154=true
      ·
       subst c7
       have H1 : (some x8_1)=some r:=by rw [if_pos rfl] at H;exact H
       clear H;have H:=H1;clear H1;obtain rfl:=zU H;have p153 : 0≤(x8_1 : Int):=zy (by first|(with_reducible assumption)|assumption);have q153 : x8_1<(l0.length : Int):=zy (by first|(with_reducible assumption)|assumption);obtain ⟨ad153,e153,hx153_0⟩:=Kd.at_string HR0.out x8_1 p153 q153
       cases e153
       replace p153:=eq_true p153;replace q153:=eq_true q153
       go_wp2_with (first|(go_at_call 57;(with_reducible refine (impl_PathOK_1.calls k1  (rdOf ByteArray.empty l0 x8_1) true _ A6.out).mono ?_);rintro e w' ⟨rfl,⟨nd,rfl⟩⟩))
       go_ret
       exact ⟨by first|rfl|(simp;done)|(simp [*];done),by repeat (first|exact yp _|apply yq)⟩
      replace c7:=yb.mpr c7;subst c7;have H1 : (slices_IndexFunc_string_string_at_PathOK_1.l0 k1 l0 (l0.length : Int) (wrap64 (x8_1 + 1)))=some r:=by rw [if_neg (show ¬ (false=true) by decide)] at H;exact H
      clear H;have H:=H1;clear H1;have H':=zh H;clear H;have p153 : 0≤(x8_1 : Int):=zy (by first|(with_reducible assumption)|assumption);have q153 : x8_1<(l0.length : Int):=zy (by first|(with_reducible assumption)|assumption);obtain ⟨ad153,e153,hx153_0⟩:=Kd.at_string HR0.out x8_1 p153 q153
      cases e153
      replace p153:=eq_true p153;replace q153:=eq_true q153
      go_wp2_with (first|(go_at_call 57;(with_reducible refine (impl_PathOK_1.calls k1  (rdOf ByteArray.empty l0 x8_1) false _ A6.out).mono ?_);rintro e w' ⟨rfl,⟨nd,rfl⟩⟩))
      go_roundg k1
      case measure => have:=HK1.out;omega
      case rel => exact ⟨(wrap64 (x8_1 + 1)),(by first|rfl|(simp;done)|(simp [*];done)),H',⟨by have:=HK1.out;omega⟩,by repeat (first|exact yp _|apply yq)⟩
     rw [if_neg c5] at H;exact absurd H (by simp)
    rw [if_neg c4] at H;exact absurd H (by simp)
   rw [if_neg c3] at H;have c3b0 : decide (x8_1<(l0.length : Int))=false:=decide_eq_false c3;clear c3;obtain rfl:=zU H
   go_wp2
   go_ret
   exact ⟨by first|rfl|(simp;done)|(simp [*];done),by repeat (first|exact yp _|apply yq)⟩


def slices_ContainsFunc_string_string_at_PathOK_1.f (k : Nat) (l0 : List ByteArray)  : Option (Bool):=(slices_IndexFunc_string_string_at_PathOK_1.f k l0).bind fun t155 => (some (decide (t155 ≥ 0)))
theorem slices_ContainsFunc_string_string_at_PathOK_1.mono : ∀ a0 k,LeO (slices_ContainsFunc_string_string_at_PathOK_1.f k a0) (slices_ContainsFunc_string_string_at_PathOK_1.f (k + 1) a0):=by
 intro a0 k;unfold slices_ContainsFunc_string_string_at_PathOK_1.f
 repeat' first|(with_reducible first|exact slices_IndexFunc_string_string_at_PathOK_1.mono _ _|exact zQ _|exact zN _|refine zP ?_ ?_|refine zO ?_ (fun _ => ?_))|refine zP ?_ ?_|refine zO ?_ (fun _ => ?_)
set_option maxHeartbeats 8000000 in
set_option maxRecDepth 100000 in
theorem slices_ContainsFunc_string_string_at_PathOK_1.calls (k : Nat) (A0 : Option Addr) (c0 : Nat) (l0 : List ByteArray)  (r : Bool) (w : World) (hr0 : Kd.C Kd.string w A0 l0.length l0) (hc0 : l0.length≤c0) (h : slices_ContainsFunc_string_string_at_PathOK_1.f k l0=some r) :
  Calls Tryd.prog 56 #[.slice A0 l0.length c0,.func (.func 57) #[] #[]] w fun e w' => e = .returned (.bool r)∧Drawn0 w w':=by
 have HR0:=zh hr0;have HC0:=zh hc0;clear hr0 hc0;have H : ((slices_IndexFunc_string_string_at_PathOK_1.f k l0).bind fun t155 => (some (decide (t155 ≥ 0))))=some r:=h;clear h;replace H:=zT.mp H;obtain ⟨t155,A30,H⟩:=H;replace H : (some (decide (t155 ≥ 0)))=some r:=H;have A3:=zh A30;clear A30;obtain rfl:=zU H
 go_enter Tryd.func56,Tryd.ntmps56
 go_wp2_with (first|((with_reducible refine zJ (f:=69) rfl ?_);refine yj (some 7) rfl rfl Tryd.func69 (by kernel_rfl) rfl #[.slice A0 l0.length c0,.func (.func 57) #[] #[]] rfl (by (try simp only [zt,zu,zv]);first|done|rfl|(simp only [zw,zx];rfl)|(simp only [yr,ys,zV,zW];rfl)) ?_;(with_reducible refine (slices_IndexFunc_string_string_at_PathOK_1.calls k  _ _ l0  t155 _ ?side1 ?side2 A3.out).mono ?_);(case side1 => repeat (first|exact HR0.out|(with_reducible refine Kd.C_alloc ?_ _)|(with_reducible refine Kd.C_drewN ?_ _)|(with_reducible refine Kd.C_drew ?_)));(case side2 => exact HC0.out);rintro e w' ⟨rfl,⟨nd,rfl⟩⟩;refine ⟨_,rfl,?_⟩))
 go_ret
 exact ⟨by first|rfl|(simp;done)|(simp [*];done),by repeat (first|exact yp _|apply yq)⟩


def impl_PathOK.f (k : Nat) (a0 : ByteArray) : Option (Bool):=(strings_Split.f a0 (⟨#[46]⟩ : ByteArray)).bind fun t156 => (if (a0.size : Int)≤50 then (if (t156.length : Int)≤4 then ((slices_ContainsFunc_string_string_at_PathOK_1.f k t156).bind fun t159 => (some (!t159))) else (some false)) else (some false))
theorem impl_PathOK.mono : ∀ a0 k,LeO (impl_PathOK.f k a0) (impl_PathOK.f (k + 1) a0):=by
 intro a0 k;unfold impl_PathOK.f
 repeat' first|(with_reducible first|exact slices_ContainsFunc_string_string_at_PathOK_1.mono _ _|exact zQ _|exact zN _|refine zP ?_ ?_|refine zO ?_ (fun _ => ?_))|refine zP ?_ ?_|refine zO ?_ (fun _ => ?_)
set_option maxHeartbeats 8000000 in
set_option maxRecDepth 100000 in
theorem impl_PathOK.calls (k : Nat) (a0 : ByteArray) (r : Bool) (w : World) (h : impl_PathOK.f k a0=some r) :
  Calls Tryd.prog 39 #[.string a0] w fun e w' => e = .returned (.bool r)∧Below w.heap.size w w':=by
 have HB:=zh (Below.refl w.heap.size w);have H : ((strings_Split.f a0 (⟨#[46]⟩ : ByteArray)).bind fun t156 => (if (a0.size : Int)≤50 then (if (t156.length : Int)≤4 then ((slices_ContainsFunc_string_string_at_PathOK_1.f k t156).bind fun t159 => (some (!t159))) else (some false)) else (some false)))=some r:=h;clear h;replace H:=zT.mp H;obtain ⟨t156,A20,H⟩:=H;replace H : (if (a0.size : Int)≤50 then (if (t156.length : Int)≤4 then ((slices_ContainsFunc_string_string_at_PathOK_1.f k t156).bind fun t159 => (some (!t159))) else (some false)) else (some false))=some r:=H;have A2:=zh A20;clear A20
 by_cases c3 : (a0.size : Int)≤50
 ·
  rw [if_pos c3] at H
  have c3b0 : decide ((a0.size : Int)≤50)=true:=decide_eq_true c3;have c3b1 : decide (a0.size≤50)=true:=decide_eq_true (by omega);clear c3
  by_cases c4 : (t156.length : Int)≤4
  ·
   rw [if_pos c4] at H
   have c4b0 : decide ((t156.length : Int)≤4)=true:=decide_eq_true c4;have c4b1 : decide (t156.length≤4)=true:=decide_eq_true (by omega);clear c4;replace H:=zT.mp H;obtain ⟨t159,A50,H⟩:=H;replace H : (some (!t159))=some r:=H;have A5:=zh A50;clear A50;obtain rfl:=zU H
   go_enter Tryd.func39,Tryd.ntmps39
   go_wp2_with (first|((with_reducible refine zJ (f:=55) rfl ?_);refine yj (some 5) rfl rfl Tryd.func55 (by kernel_rfl) rfl #[.string a0,.string (⟨#[46]⟩ : ByteArray)] rfl (by (try simp only [zt,zu,zv]);first|done|rfl|(simp only [zw,zx];rfl)|(simp only [yr,ys,zV,zW];rfl)) ?_;(with_reducible refine (strings_Split.calls  a0 (⟨#[46]⟩ : ByteArray) t156 _ A2.out).mono ?_);rintro e w6 ⟨v157,rfl,ho0,hb⟩;refine ⟨_,rfl,?_⟩;have HO158:=zh (yy ho0 (zB (by repeat (with_reducible first|exact HB.out|apply za|apply zb|apply zc))));replace HB:=zh (zC (by repeat (with_reducible first|exact HB.out|apply za|apply zb|apply zc)) hb);(try clear hb);(try clear hb2);(try clear hk);(try clear hi);(try clear ho0);obtain ⟨Ao7,co7,eo7⟩:=yk HO158.out;subst eo7)|(go_at_call 56;(with_reducible refine (slices_ContainsFunc_string_string_at_PathOK_1.calls k  _ _ t156  t159 _ ?side1 ?side2 A5.out).mono ?_);(case side1 => repeat (first|exact (yh HO158.out).2.2|(with_reducible refine Kd.C_alloc ?_ _)|(with_reducible refine Kd.C_drewN ?_ _)|(with_reducible refine Kd.C_drew ?_)));(case side2 => exact (yh HO158.out).2.1);rintro e w' ⟨rfl,⟨nd,rfl⟩⟩))
   go_ret
   exact ⟨by first|rfl|(simp [yt,yu] <;> rfl)|(simp [*,yt,yu] <;> rfl),by repeat (with_reducible first|exact HB.out|apply za|apply zb|apply zc)⟩
  rw [if_neg c4] at H;have c4b0 : decide ((t156.length : Int)≤4)=false:=decide_eq_false c4;have c4b1 : decide (t156.length≤4)=false:=decide_eq_false (by omega);clear c4;obtain rfl:=zU H
  go_enter Tryd.func39,Tryd.ntmps39
  go_wp2_with (first|((with_reducible refine zJ (f:=55) rfl ?_);refine yj (some 5) rfl rfl Tryd.func55 (by kernel_rfl) rfl #[.string a0,.string (⟨#[46]⟩ : ByteArray)] rfl (by (try simp only [zt,zu,zv]);first|done|rfl|(simp only [zw,zx];rfl)|(simp only [yr,ys,zV,zW];rfl)) ?_;(with_reducible refine (strings_Split.calls  a0 (⟨#[46]⟩ : ByteArray) t156 _ A2.out).mono ?_);rintro e w8 ⟨v157,rfl,ho0,hb⟩;refine ⟨_,rfl,?_⟩;have HO158:=zh (yy ho0 (zB (by repeat (with_reducible first|exact HB.out|apply za|apply zb|apply zc))));replace HB:=zh (zC (by repeat (with_reducible first|exact HB.out|apply za|apply zb|apply zc)) hb);(try clear hb);(try clear hb2);(try clear hk);(try clear hi);(try clear ho0);obtain ⟨Ao9,co9,eo9⟩:=yk HO158.out;subst eo9))
  go_ret
  exact ⟨by first|rfl|(simp [yt,yu] <;> rfl)|(simp [*,yt,yu] <;> rfl),by repeat (with_reducible first|exact HB.out|apply za|apply zb|apply zc)⟩
 rw [if_neg c3] at H;have c3b0 : decide ((a0.size : Int)≤50)=false:=decide_eq_false c3;have c3b1 : decide (a0.size≤50)=false:=decide_eq_false (by omega);clear c3;obtain rfl:=zU H
 go_enter Tryd.func39,Tryd.ntmps39
 go_wp2_with (first|((with_reducible refine zJ (f:=55) rfl ?_);refine yj (some 5) rfl rfl Tryd.func55 (by kernel_rfl) rfl #[.string a0,.string (⟨#[46]⟩ : ByteArray)] rfl (by (try simp only [zt,zu,zv]);first|done|rfl|(simp only [zw,zx];rfl)|(simp only [yr,ys,zV,zW];rfl)) ?_;(with_reducible refine (strings_Split.calls  a0 (⟨#[46]⟩ : ByteArray) t156 _ A2.out).mono ?_);rintro e w10 ⟨v157,rfl,ho0,hb⟩;refine ⟨_,rfl,?_⟩;have HO158:=zh (yy ho0 (zB (by repeat (with_reducible first|exact HB.out|apply za|apply zb|apply zc))));replace HB:=zh (zC (by repeat (with_reducible first|exact HB.out|apply za|apply zb|apply zc)) hb);(try clear hb);(try clear hb2);(try clear hk);(try clear hi);(try clear ho0)))
 go_ret
 exact ⟨by first|rfl|(simp [yt,yu] <;> rfl)|(simp [*,yt,yu] <;> rfl),by repeat (with_reducible first|exact HB.out|apply za|apply zb|apply zc)⟩


def impl_partOK.f (k : Nat) (a0_0 : ByteArray) (a0_1 : Bool) : Option (Bool):=(impl_PathOK.f k a0_0).bind fun t161 => (some t161)
theorem impl_partOK.mono : ∀ a0 a1 k,LeO (impl_partOK.f k a0 a1) (impl_partOK.f (k + 1) a0 a1):=by
 intro a0 a1 k;unfold impl_partOK.f
 repeat' first|(with_reducible first|exact impl_PathOK.mono _ _|exact zQ _|exact zN _|refine zP ?_ ?_|refine zO ?_ (fun _ => ?_))|refine zP ?_ ?_|refine zO ?_ (fun _ => ?_)
set_option maxHeartbeats 8000000 in
set_option maxRecDepth 100000 in
theorem impl_partOK.calls (k : Nat) (a0_0 : ByteArray) (a0_1 : Bool) (r : Bool) (w : World) (h : impl_partOK.f k a0_0 a0_1=some r) :
  Calls Tryd.prog 36 #[.agg #[.string a0_0,.bool a0_1]] w fun e w' => e = .returned (.bool r)∧Below w.heap.size w w':=by
 have hu62:=Tryd.underlying62;have HB:=zh (Below.refl w.heap.size w);have H : ((impl_PathOK.f k a0_0).bind fun t161 => (some t161))=some r:=h;clear h;replace H:=zT.mp H;obtain ⟨t161,A20,H⟩:=H;replace H : (some t161)=some r:=H;have A2:=zh A20;clear A20;obtain rfl:=zU H
 go_enter Tryd.func36,Tryd.ntmps36
 go_wp2_with (first|((with_reducible refine zK (N:=1) rfl ?_);refine zI ?hg (N:=1) ?hd (cs:=#[.string a0_0,.bool a0_1]) (t:=62) ?hr ?_;(case hd => rfl);(case hg => rfl);(case hr => first|(go_simp;done)|(go_simp;rfl));intro gb160 hg w3 hbox hb;have BK160:=zh (hbox);have GW160:=zh ((by rw [hg];exact (zB (by repeat (with_reducible first|exact HB.out|apply za|apply zb|apply zc))) : w.heap.size≤gb160));have GE160:=zh ((by rw [hg];exact (zB (by repeat (with_reducible first|exact HB.out|apply za|apply zb|apply zc))) : w.heap.size≤gb160));replace HB:=zh (zC (by repeat (with_reducible first|exact HB.out|apply za|apply zb|apply zc)) hb);clear hb hbox hg;have hcz4_0 : w3.cell? ⟨gb160,0,none⟩=some (.string a0_0):=(zz BK160.out 0).trans rfl;have hcz4_1 : w3.cell? ⟨gb160,1,none⟩=some (.bool a0_1):=(zz BK160.out 1).trans rfl;have hfz4_0:=zA BK160.out 0;have hfz4_1:=zA BK160.out 1)|((with_reducible refine zJ (f:=39) rfl ?_);refine yj (some 5) rfl rfl Tryd.func39 (by kernel_rfl) rfl #[.string a0_0] rfl (by (try simp only [zt,zu,zv]);first|done|rfl|(simp only [zw,zx];rfl)|(simp only [yr,ys,zV,zW];rfl)) ?_;(with_reducible refine (impl_PathOK.calls k  a0_0 t161 _ A2.out).mono ?_);rintro e w5 ⟨rfl,hb⟩;refine ⟨_,rfl,?_⟩;replace BK160:=zh (zD (g:=gb160) (o:=.cells #[.string a0_0,.bool a0_1] 62 (0,0)) (by (with_reducible repeat (first|refine ze ?_ _|refine zf ?_|refine zg ?_ _));exact BK160.out) hb);replace HB:=zh (zC (by repeat (with_reducible first|exact HB.out|apply za|apply zb|apply zc|refine zd ?_ GE160.out)) hb);(try clear hb);(try clear hb2);(try clear hk);(try clear hi)))
 go_ret
 exact ⟨by first|rfl|(simp [yt,yu] <;> rfl)|(simp [*,yt,yu] <;> rfl),by repeat (with_reducible first|exact HB.out|apply za|apply zb|apply zc|refine zd ?_ GE160.out)⟩


def impl_DefOK_1.f (k : Nat) (a0_0 : ByteArray) (a0_1 : Bool) : Option (Bool):=(impl_partOK.f k a0_0 a0_1).bind fun t163 => (some (!t163))
theorem impl_DefOK_1.mono : ∀ a0 a1 k,LeO (impl_DefOK_1.f k a0 a1) (impl_DefOK_1.f (k + 1) a0 a1):=by
 intro a0 a1 k;unfold impl_DefOK_1.f
 repeat' first|(with_reducible first|exact impl_partOK.mono _ _ _|exact zQ _|exact zN _|refine zP ?_ ?_|refine zO ?_ (fun _ => ?_))|refine zP ?_ ?_|refine zO ?_ (fun _ => ?_)
set_option maxHeartbeats 8000000 in
set_option maxRecDepth 100000 in
theorem impl_DefOK_1.calls (k : Nat) (a0_0 : ByteArray) (a0_1 : Bool) (r : Bool) (w : World) (h : impl_DefOK_1.f k a0_0 a0_1=some r) :
  Calls Tryd.prog 35 #[.agg #[.string a0_0,.bool a0_1]] w fun e w' => e = .returned (.bool r)∧Below w.heap.size w w':=by
 have hu62:=Tryd.underlying62;have HB:=zh (Below.refl w.heap.size w);have H : ((impl_partOK.f k a0_0 a0_1).bind fun t163 => (some (!t163)))=some r:=h;clear h;replace H:=zT.mp H;obtain ⟨t163,A20,H⟩:=H;replace H : (some (!t163))=some r:=H;have A2:=zh A20;clear A20;obtain rfl:=zU H
 go_enter Tryd.func35,Tryd.ntmps35
 go_wp2_with (first|((with_reducible refine zK (N:=1) rfl ?_);refine zI ?hg (N:=1) ?hd (cs:=#[.string a0_0,.bool a0_1]) (t:=62) ?hr ?_;(case hd => rfl);(case hg => rfl);(case hr => first|(go_simp;done)|(go_simp;rfl));intro gb162 hg w3 hbox hb;have BK162:=zh (hbox);have GW162:=zh ((by rw [hg];exact (zB (by repeat (with_reducible first|exact HB.out|apply za|apply zb|apply zc))) : w.heap.size≤gb162));have GE162:=zh ((by rw [hg];exact (zB (by repeat (with_reducible first|exact HB.out|apply za|apply zb|apply zc))) : w.heap.size≤gb162));replace HB:=zh (zC (by repeat (with_reducible first|exact HB.out|apply za|apply zb|apply zc)) hb);clear hb hbox hg;have hcz4_0 : w3.cell? ⟨gb162,0,none⟩=some (.string a0_0):=(zz BK162.out 0).trans rfl;have hcz4_1 : w3.cell? ⟨gb162,1,none⟩=some (.bool a0_1):=(zz BK162.out 1).trans rfl;have hfz4_0:=zA BK162.out 0;have hfz4_1:=zA BK162.out 1)|((with_reducible refine zJ (f:=36) rfl ?_);refine yj (some 4) rfl rfl Tryd.func36 (by kernel_rfl) rfl #[.agg #[.string a0_0,.bool a0_1]] rfl (by (try simp only [zt,zu,zv]);first|done|rfl|(simp only [zw,zx];rfl)|(simp only [yr,ys,zV,zW];rfl)) ?_;(with_reducible refine (impl_partOK.calls k  a0_0 a0_1 t163 _ A2.out).mono ?_);rintro e w5 ⟨rfl,hb⟩;refine ⟨_,rfl,?_⟩;replace BK162:=zh (zD (g:=gb162) (o:=.cells #[.string a0_0,.bool a0_1] 62 (0,0)) (by (with_reducible repeat (first|refine ze ?_ _|refine zf ?_|refine zg ?_ _));exact BK162.out) hb);replace HB:=zh (zC (by repeat (with_reducible first|exact HB.out|apply za|apply zb|apply zc|refine zd ?_ GE162.out)) hb);(try clear hb);(try clear hb2);(try clear hk);(try clear hi)))
 go_ret
 exact ⟨by first|rfl|(simp [yt,yu] <;> rfl)|(simp [*,yt,yu] <;> rfl),by repeat (with_reducible first|exact HB.out|apply za|apply zb|apply zc|refine zd ?_ GE162.out)⟩


def impl_Part_at_DefOK_1_200003.l0 : Nat→List (S62)→Int→Int→Option (Int)
 | 0,_,_,_ => none
 | k + 1,x0,x7,x8 => if x8<x7 then (if 0≤x8 then (if x8<(x0.length : Int) then ((impl_DefOK_1.f k ((rd_T62 x0 x8).f0) ((rd_T62 x0 x8).f1)).bind fun t165 => (if t165=true then (some x8) else (impl_Part_at_DefOK_1_200003.l0 k x0 x7 (wrap64 (x8 + 1))))) else (none)) else (none)) else (some (-1))
def impl_Part_at_DefOK_1_200003.f (k : Nat) (l0 : List (S62))  : Option (Int):=impl_Part_at_DefOK_1_200003.l0 k l0 (l0.length : Int) 0
theorem impl_Part_at_DefOK_1_200003.mono_l : ∀ k,(∀ y0 y1 y2,LeO (impl_Part_at_DefOK_1_200003.l0 k y0 y1 y2) (impl_Part_at_DefOK_1_200003.l0 (k + 1) y0 y1 y2))
 | 0 => fun _ _ _ r h => by simp [impl_Part_at_DefOK_1_200003.l0] at h
 | k + 1 => by
  have ih0:=impl_Part_at_DefOK_1_200003.mono_l k;intro y0 y1 y2;unfold impl_Part_at_DefOK_1_200003.l0
  repeat' first|(with_reducible first|exact ih0 _ _ _|exact impl_DefOK_1.mono _ _ _|exact zQ _|exact zN _|refine zP ?_ ?_|refine zO ?_ (fun _ => ?_))|refine zP ?_ ?_|refine zO ?_ (fun _ => ?_)
theorem impl_Part_at_DefOK_1_200003.mono : ∀ a0 k,LeO (impl_Part_at_DefOK_1_200003.f k a0) (impl_Part_at_DefOK_1_200003.f (k + 1) a0):=by
 intro a0 k;have ih0:=impl_Part_at_DefOK_1_200003.mono_l k;unfold impl_Part_at_DefOK_1_200003.f
 repeat' first|(with_reducible first|exact ih0 _ _ _|exact impl_DefOK_1.mono _ _ _|exact zQ _|exact zN _|refine zP ?_ ?_|refine zO ?_ (fun _ => ?_))|refine zP ?_ ?_|refine zO ?_ (fun _ => ?_)
set_option maxHeartbeats 8000000 in
set_option maxRecDepth 100000 in
theorem impl_Part_at_DefOK_1_200003.calls (k : Nat) (A0 : Option Addr) (c0 : Nat) (l0 : List (S62))  (r : Int) (w : World) (hr0 : Kd.C k62 w A0 l0.length l0) (hc0 : l0.length≤c0) (h : impl_Part_at_DefOK_1_200003.f k l0=some r) :
  Calls Tryd.prog 52 #[.slice A0 l0.length c0,.func (.func 35) #[] #[]] w fun e w' => e = .returned (.int .i64 r)∧Below w.heap.size w w':=by
 have hu62:=Tryd.underlying62;have HR0:=zh hr0;have HC0:=zh hc0;clear hr0 hc0;have HB:=zh (Below.refl w.heap.size w);have H : (impl_Part_at_DefOK_1_200003.l0 k l0 (l0.length : Int) 0)=some r:=h;clear h;have H':=zh H;clear H
 go_enter Tryd.func52,Tryd.ntmps52
 go_wp2
 go_loopg [8] k (fun kq v8 w' => ∃ (x8_1 : Int),v8 = .int .i64 x8_1∧Aside0 (impl_Part_at_DefOK_1_200003.l0 kq l0 (l0.length : Int) x8_1=some r)∧Aside0 (kq≤k)∧Aside0 (Below w.heap.size w w'))
 case atStart => exact ⟨(0),(by first|rfl|(simp;done)|(simp [*];done)),H',⟨ye _⟩,⟨by repeat (with_reducible first|exact HB.out|apply za|apply zb|apply zc)⟩⟩
 case round =>
  clear H'
  try clear p2
  obtain ⟨x8_1,rfl,HA,HK1,HB⟩:=hrel
  cases gk with
  | zero => exact absurd HA.out (by simp [impl_Part_at_DefOK_1_200003.l0])
  | succ k1 =>
   have H:=HA.out;clear HA;simp only [impl_Part_at_DefOK_1_200003.l0] at H
   by_cases c3 : x8_1<(l0.length : Int)
   ·
    rw [if_pos c3] at H
    have c3b0 : decide (x8_1<(l0.length : Int))=true:=decide_eq_true c3;clear c3
    by_cases c4 : 0≤x8_1
    ·
     rw [if_pos c4] at H
     have c4b0 : decide (0≤x8_1)=true:=decide_eq_true c4;clear c4
     by_cases c5 : x8_1<(l0.length : Int)
     ·
      rw [if_pos c5] at H
      have c5b0 : decide (x8_1<(l0.length : Int))=true:=decide_eq_true c5;clear c5;replace H:=zT.mp H;obtain ⟨t165,A60,H⟩:=H;replace H : (if t165=true then (some x8_1) else (impl_Part_at_DefOK_1_200003.l0 k1 l0 (l0.length : Int) (wrap64 (x8_1 + 1))))=some r:=H;have A6:=zh A60;clear A60
      by_cases c7 : t165=true
      ·
       subst c7
       have H1 : (some x8_1)=some r:=by rw [if_pos rfl] at H;exact H
       clear H;have H:=H1;clear H1;obtain rfl:=zU H;have p164 : 0≤(x8_1 : Int):=zy (by first|(with_reducible assumption)|assumption);have q164 : x8_1<(l0.length : Int):=zy (by first|(with_reducible assumption)|assumption);obtain ⟨ad164,e164,hx164_0,hx164_1⟩:=at_T62 HR0.out x8_1 p164 q164
       cases e164
       replace hx164_0:=(HB.out.cell (zl w _ hx164_0)).trans hx164_0;replace hx164_1:=(HB.out.cell (zl w _ hx164_1)).trans hx164_1;replace p164:=eq_true p164;replace q164:=eq_true q164
       go_wp2_with (first|(go_at_call 35;(with_reducible refine (impl_DefOK_1.calls k1  ((rd_T62 l0 x8_1).f0) ((rd_T62 l0 x8_1).f1) true _ A6.out).mono ?_);rintro e w8 ⟨rfl,hb⟩;replace HB:=zh (zC (by repeat (with_reducible first|exact HB.out|apply za|apply zb|apply zc)) hb);(try clear hb);(try clear hb2);(try clear hk);(try clear hi)))
       go_ret
       exact ⟨by first|rfl|(simp [yt,yu] <;> rfl)|(simp [*,yt,yu] <;> rfl),by repeat (with_reducible first|exact HB.out|apply za|apply zb|apply zc)⟩
      replace c7:=yb.mpr c7;subst c7;have H1 : (impl_Part_at_DefOK_1_200003.l0 k1 l0 (l0.length : Int) (wrap64 (x8_1 + 1)))=some r:=by rw [if_neg (show ¬ (false=true) by decide)] at H;exact H
      clear H;have H:=H1;clear H1;have H':=zh H;clear H;have p164 : 0≤(x8_1 : Int):=zy (by first|(with_reducible assumption)|assumption);have q164 : x8_1<(l0.length : Int):=zy (by first|(with_reducible assumption)|assumption);obtain ⟨ad164,e164,hx164_0,hx164_1⟩:=at_T62 HR0.out x8_1 p164 q164
      cases e164
      replace hx164_0:=(HB.out.cell (zl w _ hx164_0)).trans hx164_0;replace hx164_1:=(HB.out.cell (zl w _ hx164_1)).trans hx164_1;replace p164:=eq_true p164;replace q164:=eq_true q164
      go_wp2_with (first|(go_at_call 35;(with_reducible refine (impl_DefOK_1.calls k1  ((rd_T62 l0 x8_1).f0) ((rd_T62 l0 x8_1).f1) false _ A6.out).mono ?_);rintro e w9 ⟨rfl,hb⟩;replace HB:=zh (zC (by repeat (with_reducible first|exact HB.out|apply za|apply zb|apply zc)) hb);(try clear hb);(try clear hb2);(try clear hk);(try clear hi)))
      go_roundg k1
      case measure => have:=HK1.out;omega
      case rel => exact ⟨(wrap64 (x8_1 + 1)),(by first|rfl|(simp;done)|(simp [*];done)),H',⟨by have:=HK1.out;omega⟩,⟨by repeat (with_reducible first|exact HB.out|apply za|apply zb|apply zc)⟩⟩
     rw [if_neg c5] at H;exact absurd H (by simp)
    rw [if_neg c4] at H;exact absurd H (by simp)
   rw [if_neg c3] at H;have c3b0 : decide (x8_1<(l0.length : Int))=false:=decide_eq_false c3;clear c3;obtain rfl:=zU H
   go_wp2
   go_ret
   exact ⟨by first|rfl|(simp [yt,yu] <;> rfl)|(simp [*,yt,yu] <;> rfl),by repeat (with_reducible first|exact HB.out|apply za|apply zb|apply zc)⟩


def impl_Part_at_DefOK_1.f (k : Nat) (l0 : List (S62))  : Option (Bool):=(impl_Part_at_DefOK_1_200003.f k l0).bind fun t166 => (some (decide (t166 ≥ 0)))
theorem impl_Part_at_DefOK_1.mono : ∀ a0 k,LeO (impl_Part_at_DefOK_1.f k a0) (impl_Part_at_DefOK_1.f (k + 1) a0):=by
 intro a0 k;unfold impl_Part_at_DefOK_1.f
 repeat' first|(with_reducible first|exact impl_Part_at_DefOK_1_200003.mono _ _|exact zQ _|exact zN _|refine zP ?_ ?_|refine zO ?_ (fun _ => ?_))|refine zP ?_ ?_|refine zO ?_ (fun _ => ?_)
set_option maxHeartbeats 8000000 in
set_option maxRecDepth 100000 in
theorem impl_Part_at_DefOK_1.calls (k : Nat) (A0 : Option Addr) (c0 : Nat) (l0 : List (S62))  (r : Bool) (w : World) (hr0 : Kd.C k62 w A0 l0.length l0) (hc0 : l0.length≤c0) (h : impl_Part_at_DefOK_1.f k l0=some r) :
  Calls Tryd.prog 34 #[.slice A0 l0.length c0,.func (.func 35) #[] #[]] w fun e w' => e = .returned (.bool r)∧Below w.heap.size w w':=by
 have HR0:=zh hr0;have HC0:=zh hc0;clear hr0 hc0;have HB:=zh (Below.refl w.heap.size w);have H : ((impl_Part_at_DefOK_1_200003.f k l0).bind fun t166 => (some (decide (t166 ≥ 0))))=some r:=h;clear h;replace H:=zT.mp H;obtain ⟨t166,A30,H⟩:=H;replace H : (some (decide (t166 ≥ 0)))=some r:=H;have A3:=zh A30;clear A30;obtain rfl:=zU H
 go_enter Tryd.func34,Tryd.ntmps34
 go_wp2_with (first|((with_reducible refine zJ (f:=52) rfl ?_);refine yj (some 7) rfl rfl Tryd.func52 (by kernel_rfl) rfl #[.slice A0 l0.length c0,.func (.func 35) #[] #[]] rfl (by (try simp only [zt,zu,zv]);first|done|rfl|(simp only [zw,zx];rfl)|(simp only [yr,ys,zV,zW];rfl)) ?_;(with_reducible refine (impl_Part_at_DefOK_1_200003.calls k  _ _ l0  t166 _ ?side1 ?side2 A3.out).mono ?_);(case side1 => repeat (first|exact HR0.out|(with_reducible refine Kd.C_alloc ?_ _)|(with_reducible refine Kd.C_drewN ?_ _)|(with_reducible refine Kd.C_drew ?_)));(case side2 => exact HC0.out);rintro e w4 ⟨rfl,hb⟩;refine ⟨_,rfl,?_⟩;replace HB:=zh (zC (by repeat (with_reducible first|exact HB.out|apply za|apply zb|apply zc)) hb);(try clear hb);(try clear hb2);(try clear hk);(try clear hi)))
 go_ret
 exact ⟨by first|rfl|(simp [yt,yu] <;> rfl)|(simp [*,yt,yu] <;> rfl),by repeat (with_reducible first|exact HB.out|apply za|apply zb|apply zc)⟩


def impl_DefOK.f (k : Nat) (a0_0 : ByteArray) (l0_1 : List (S62)) : Option (Bool):=(impl_isShort.f k a0_0).bind fun t168 => (if t168=true then ((impl_inRange.f (l0_1.length : Int) 1 2).bind fun t169 => (if t169=true then ((impl_Part_at_DefOK_1.f k l0_1).bind fun t170 => (if t170=true then (some false) else (if (l0_1.length : Int)=1 then (some true) else (if 0<(l0_1.length : Int) then (if 1<(l0_1.length : Int) then (some (((rd_T62 l0_1 0).f0).toList != ((rd_T62 l0_1 1).f0).toList)) else (none)) else (none))))) else (some false))) else (some false))
theorem impl_DefOK.mono : ∀ a0 a1 k,LeO (impl_DefOK.f k a0 a1) (impl_DefOK.f (k + 1) a0 a1):=by
 intro a0 a1 k;unfold impl_DefOK.f
 repeat' first|(with_reducible first|exact impl_isShort.mono _ _|exact impl_Part_at_DefOK_1.mono _ _|exact zQ _|exact zN _|refine zP ?_ ?_|refine zO ?_ (fun _ => ?_))|refine zP ?_ ?_|refine zO ?_ (fun _ => ?_)
set_option maxHeartbeats 8000000 in
set_option maxRecDepth 100000 in
theorem impl_DefOK.calls (k : Nat) (a0_0 : ByteArray) (A0_1 : Option Addr) (c0_1 : Nat) (l0_1 : List (S62)) (r : Bool) (w : World) (hr0_1 : Kd.C k62 w A0_1 l0_1.length l0_1) (hc0_1 : l0_1.length≤c0_1) (h : impl_DefOK.f k a0_0 l0_1=some r) :
  Calls Tryd.prog 10 #[.agg #[.string a0_0,.slice A0_1 l0_1.length c0_1]] w fun e w' => e = .returned (.bool r)∧Below w.heap.size w w':=by
 have hu29:=Tryd.underlying29;have HR0_1:=zh hr0_1;have HC0_1:=zh hc0_1;clear hr0_1 hc0_1;have HB:=zh (Below.refl w.heap.size w);have H : ((impl_isShort.f k a0_0).bind fun t168 => (if t168=true then ((impl_inRange.f (l0_1.length : Int) 1 2).bind fun t169 => (if t169=true then ((impl_Part_at_DefOK_1.f k l0_1).bind fun t170 => (if t170=true then (some false) else (if (l0_1.length : Int)=1 then (some true) else (if 0<(l0_1.length : Int) then (if 1<(l0_1.length : Int) then (some (((rd_T62 l0_1 0).f0).toList != ((rd_T62 l0_1 1).f0).toList)) else (none)) else (none))))) else (some false))) else (some false)))=some r:=h;clear h;replace H:=zT.mp H;obtain ⟨t168,A20,H⟩:=H;replace H : (if t168=true then ((impl_inRange.f (l0_1.length : Int) 1 2).bind fun t169 => (if t169=true then ((impl_Part_at_DefOK_1.f k l0_1).bind fun t170 => (if t170=true then (some false) else (if (l0_1.length : Int)=1 then (some true) else (if 0<(l0_1.length : Int) then (if 1<(l0_1.length : Int) then (some (((rd_T62 l0_1 0).f0).toList != ((rd_T62 l0_1 1).f0).toList)) else (none)) else (none))))) else (some false))) else (some false))=some r:=H;have A2:=zh A20;clear A20
 by_cases c3 : t168=true
 ·
  subst c3
  have H1 : ((impl_inRange.f (l0_1.length : Int) 1 2).bind fun t169 => (if t169=true then ((impl_Part_at_DefOK_1.f k l0_1).bind fun t170 => (if t170=true then (some false) else (if (l0_1.length : Int)=1 then (some true) else (if 0<(l0_1.length : Int) then (if 1<(l0_1.length : Int) then (some (((rd_T62 l0_1 0).f0).toList != ((rd_T62 l0_1 1).f0).toList)) else (none)) else (none))))) else (some false)))=some r:=by rw [if_pos rfl] at H;exact H
  clear H;have H:=H1;clear H1;replace H:=zT.mp H;obtain ⟨t169,A40,H⟩:=H;replace H : (if t169=true then ((impl_Part_at_DefOK_1.f k l0_1).bind fun t170 => (if t170=true then (some false) else (if (l0_1.length : Int)=1 then (some true) else (if 0<(l0_1.length : Int) then (if 1<(l0_1.length : Int) then (some (((rd_T62 l0_1 0).f0).toList != ((rd_T62 l0_1 1).f0).toList)) else (none)) else (none))))) else (some false))=some r:=H;have A4:=zh A40;clear A40
  by_cases c5 : t169=true
  ·
   subst c5
   have H1 : ((impl_Part_at_DefOK_1.f k l0_1).bind fun t170 => (if t170=true then (some false) else (if (l0_1.length : Int)=1 then (some true) else (if 0<(l0_1.length : Int) then (if 1<(l0_1.length : Int) then (some (((rd_T62 l0_1 0).f0).toList != ((rd_T62 l0_1 1).f0).toList)) else (none)) else (none)))))=some r:=by rw [if_pos rfl] at H;exact H
   clear H;have H:=H1;clear H1;replace H:=zT.mp H;obtain ⟨t170,A60,H⟩:=H;replace H : (if t170=true then (some false) else (if (l0_1.length : Int)=1 then (some true) else (if 0<(l0_1.length : Int) then (if 1<(l0_1.length : Int) then (some (((rd_T62 l0_1 0).f0).toList != ((rd_T62 l0_1 1).f0).toList)) else (none)) else (none))))=some r:=H;have A6:=zh A60;clear A60
   by_cases c7 : t170=true
   ·
    subst c7
    have H1 : (some false)=some r:=by rw [if_pos rfl] at H;exact H
    clear H;have H:=H1;clear H1;obtain rfl:=zU H
    go_enter Tryd.func10,Tryd.ntmps10
    go_wp2_with (first|((with_reducible refine zK (N:=1) rfl ?_);(try (refine yz (by rfl) ?_;dsimp only));refine zI ?hg (N:=1) ?hd (cs:=#[.string a0_0,.slice A0_1 l0_1.length c0_1]) (t:=29) ?hr ?_;(case hd => rfl);(case hg => rfl);(case hr => first|(go_simp;done)|(go_simp;rfl));intro gb167 hg w8 hbox hb;have BK167:=zh (hbox);have GW167:=zh ((by rw [hg];exact (zB (by repeat (with_reducible first|exact HB.out|apply za|apply zb|apply zc))) : w.heap.size≤gb167));have GE167:=zh ((by rw [hg];exact (zB (by repeat (with_reducible first|exact HB.out|apply za|apply zb|apply zc))) : w.heap.size≤gb167));replace HB:=zh (zC (by repeat (with_reducible first|exact HB.out|apply za|apply zb|apply zc)) hb);clear hb hbox hg;have hcz9_0 : w8.cell? ⟨gb167,0,none⟩=some (.string a0_0):=(zz BK167.out 0).trans rfl;have hcz9_1 : w8.cell? ⟨gb167,1,none⟩=some (.slice A0_1 l0_1.length c0_1):=(zz BK167.out 1).trans rfl;have hfz9_0:=zA BK167.out 0;have hfz9_1:=zA BK167.out 1)|(go_at_call 32;(with_reducible refine (impl_isShort.calls k  a0_0 true _ A2.out).mono ?_);rintro e w' ⟨rfl,⟨nd,rfl⟩⟩;(try first|exact ⟨rfl,_,World.drewN_drewN _ _ _⟩|exact ⟨rfl,_,Eq.trans (World.drewN_drewN _ _ _) (congrArg (World.drewN _) (Nat.add_assoc _ _ _))⟩))|(go_at_call 33;(with_reducible refine (impl_inRange.calls  (l0_1.length : Int) 1 2 true _ A4.out).mono ?_);rintro e w' ⟨rfl,⟨nd,rfl⟩⟩;(try first|exact ⟨rfl,_,World.drewN_drewN _ _ _⟩|exact ⟨rfl,_,Eq.trans (World.drewN_drewN _ _ _) (congrArg (World.drewN _) (Nat.add_assoc _ _ _))⟩))|(go_at_call 34;(with_reducible refine (impl_Part_at_DefOK_1.calls k  _ _ l0_1  true _ ?side1 ?side2 A6.out).mono ?_);(case side1 => repeat (first|exact (Kd.C_below HR0_1.out (by repeat (with_reducible first|exact HB.out|apply za|apply zb|apply zc|refine zd ?_ GE167.out)))|(with_reducible refine Kd.C_alloc ?_ _)|(with_reducible refine Kd.C_drewN ?_ _)|(with_reducible refine Kd.C_drew ?_)));(case side2 => exact HC0_1.out);rintro e w10 ⟨rfl,hb⟩;replace BK167:=zh (zD (g:=gb167) (o:=.cells #[.string a0_0,.slice A0_1 l0_1.length c0_1] 29 (0,0)) (by (with_reducible repeat (first|refine ze ?_ _|refine zf ?_|refine zg ?_ _));exact BK167.out) hb);replace HB:=zh (zC (by repeat (with_reducible first|exact HB.out|apply za|apply zb|apply zc|refine zd ?_ GE167.out)) hb);(try clear hb);(try clear hb2);(try clear hk);(try clear hi)))
    repeat (go_quiet (first|((with_reducible refine zK (N:=1) rfl ?_);(try (refine yz (by rfl) ?_;dsimp only));refine zI ?hg (N:=1) ?hd (cs:=#[.string a0_0,.slice A0_1 l0_1.length c0_1]) (t:=29) ?hr ?_;(case hd => rfl);(case hg => rfl);(case hr => first|(go_simp;done)|(go_simp;rfl));intro gb167 hg w8 hbox hb;have BK167:=zh (hbox);have GW167:=zh ((by rw [hg];exact (zB (by repeat (with_reducible first|exact HB.out|apply za|apply zb|apply zc))) : w.heap.size≤gb167));have GE167:=zh ((by rw [hg];exact (zB (by repeat (with_reducible first|exact HB.out|apply za|apply zb|apply zc))) : w.heap.size≤gb167));replace HB:=zh (zC (by repeat (with_reducible first|exact HB.out|apply za|apply zb|apply zc)) hb);clear hb hbox hg;have hcz9_0 : w8.cell? ⟨gb167,0,none⟩=some (.string a0_0):=(zz BK167.out 0).trans rfl;have hcz9_1 : w8.cell? ⟨gb167,1,none⟩=some (.slice A0_1 l0_1.length c0_1):=(zz BK167.out 1).trans rfl;have hfz9_0:=zA BK167.out 0;have hfz9_1:=zA BK167.out 1)|(go_at_call 32;(with_reducible refine (impl_isShort.calls k  a0_0 true _ A2.out).mono ?_);rintro e w' ⟨rfl,⟨nd,rfl⟩⟩;(try first|exact ⟨rfl,_,World.drewN_drewN _ _ _⟩|exact ⟨rfl,_,Eq.trans (World.drewN_drewN _ _ _) (congrArg (World.drewN _) (Nat.add_assoc _ _ _))⟩))|(go_at_call 33;(with_reducible refine (impl_inRange.calls  (l0_1.length : Int) 1 2 true _ A4.out).mono ?_);rintro e w' ⟨rfl,⟨nd,rfl⟩⟩;(try first|exact ⟨rfl,_,World.drewN_drewN _ _ _⟩|exact ⟨rfl,_,Eq.trans (World.drewN_drewN _ _ _) (congrArg (World.drewN _) (Nat.add_assoc _ _ _))⟩))|(go_at_call 34;(with_reducible refine (impl_Part_at_DefOK_1.calls k  _ _ l0_1  true _ ?side1 ?side2 A6.out).mono ?_);(case side1 => repeat (first|exact (Kd.C_below HR0_1.out (by repeat (with_reducible first|exact HB.out|apply za|apply zb|apply zc|refine zd ?_ GE167.out)))|(with_reducible refine Kd.C_alloc ?_ _)|(with_reducible refine Kd.C_drewN ?_ _)|(with_reducible refine Kd.C_drew ?_)));(case side2 => exact HC0_1.out);rintro e w10 ⟨rfl,hb⟩;replace BK167:=zh (zD (g:=gb167) (o:=.cells #[.string a0_0,.slice A0_1 l0_1.length c0_1] 29 (0,0)) (by (with_reducible repeat (first|refine ze ?_ _|refine zf ?_|refine zg ?_ _));exact BK167.out) hb);replace HB:=zh (zC (by repeat (with_reducible first|exact HB.out|apply za|apply zb|apply zc|refine zd ?_ GE167.out)) hb);(try clear hb);(try clear hb2);(try clear hk);(try clear hi)));try go_wp2_with (first|((with_reducible refine zK (N:=1) rfl ?_);(try (refine yz (by rfl) ?_;dsimp only));refine zI ?hg (N:=1) ?hd (cs:=#[.string a0_0,.slice A0_1 l0_1.length c0_1]) (t:=29) ?hr ?_;(case hd => rfl);(case hg => rfl);(case hr => first|(go_simp;done)|(go_simp;rfl));intro gb167 hg w8 hbox hb;have BK167:=zh (hbox);have GW167:=zh ((by rw [hg];exact (zB (by repeat (with_reducible first|exact HB.out|apply za|apply zb|apply zc))) : w.heap.size≤gb167));have GE167:=zh ((by rw [hg];exact (zB (by repeat (with_reducible first|exact HB.out|apply za|apply zb|apply zc))) : w.heap.size≤gb167));replace HB:=zh (zC (by repeat (with_reducible first|exact HB.out|apply za|apply zb|apply zc)) hb);clear hb hbox hg;have hcz9_0 : w8.cell? ⟨gb167,0,none⟩=some (.string a0_0):=(zz BK167.out 0).trans rfl;have hcz9_1 : w8.cell? ⟨gb167,1,none⟩=some (.slice A0_1 l0_1.length c0_1):=(zz BK167.out 1).trans rfl;have hfz9_0:=zA BK167.out 0;have hfz9_1:=zA BK167.out 1)|(go_at_call 32;(with_reducible refine (impl_isShort.calls k  a0_0 true _ A2.out).mono ?_);rintro e w' ⟨rfl,⟨nd,rfl⟩⟩;(try first|exact ⟨rfl,_,World.drewN_drewN _ _ _⟩|exact ⟨rfl,_,Eq.trans (World.drewN_drewN _ _ _) (congrArg (World.drewN _) (Nat.add_assoc _ _ _))⟩))|(go_at_call 33;(with_reducible refine (impl_inRange.calls  (l0_1.length : Int) 1 2 true _ A4.out).mono ?_);rintro e w' ⟨rfl,⟨nd,rfl⟩⟩;(try first|exact ⟨rfl,_,World.drewN_drewN _ _ _⟩|exact ⟨rfl,_,Eq.trans (World.drewN_drewN _ _ _) (congrArg (World.drewN _) (Nat.add_assoc _ _ _))⟩))|(go_at_call 34;(with_reducible refine (impl_Part_at_DefOK_1.calls k  _ _ l0_1  true _ ?side1 ?side2 A6.out).mono ?_);(case side1 => repeat (first|exact (Kd.C_below HR0_1.out (by repeat (with_reducible first|exact HB.out|apply za|apply zb|apply zc|refine zd ?_ GE167.out)))|(with_reducible refine Kd.C_alloc ?_ _)|(with_reducible refine Kd.C_drewN ?_ _)|(with_reducible refine Kd.C_drew ?_)));(case side2 => exact HC0_1.out);rintro e w10 ⟨rfl,hb⟩;replace BK167:=zh (zD (g:=gb167) (o:=.cells #[.string a0_0,.slice A0_1 l0_1.length c0_1] 29 (0,0)) (by (with_reducible repeat (first|refine ze ?_ _|refine zf ?_|refine zg ?_ _));exact BK167.out) hb);replace HB:=zh (zC (by repeat (with_reducible first|exact HB.out|apply za|apply zb|apply zc|refine zd ?_ GE167.out)) hb);(try clear hb);(try clear hb2);(try clear hk);(try clear hi))))
    go_ret
    exact ⟨by first|rfl|(simp [yt,yu] <;> rfl)|(simp [*,yt,yu] <;> rfl),by repeat (with_reducible first|exact HB.out|apply za|apply zb|apply zc|refine zd ?_ GE167.out)⟩
   replace c7:=yb.mpr c7;subst c7;have H1 : (if (l0_1.length : Int)=1 then (some true) else (if 0<(l0_1.length : Int) then (if 1<(l0_1.length : Int) then (some (((rd_T62 l0_1 0).f0).toList != ((rd_T62 l0_1 1).f0).toList)) else (none)) else (none)))=some r:=by rw [if_neg (show ¬ (false=true) by decide)] at H;exact H
   clear H;have H:=H1;clear H1
   by_cases c11 : (l0_1.length : Int)=1
   ·
    rw [if_pos c11] at H
    have c11b0 : ((l0_1.length : Int) == 1)=true:=ya.mpr c11;have c11b1 : ((l0_1.length : Int) != 1)=false:=zX.mpr c11;clear c11;obtain rfl:=zU H
    go_enter Tryd.func10,Tryd.ntmps10
    go_wp2_with (first|((with_reducible refine zK (N:=1) rfl ?_);(try (refine yz (by rfl) ?_;dsimp only));refine zI ?hg (N:=1) ?hd (cs:=#[.string a0_0,.slice A0_1 l0_1.length c0_1]) (t:=29) ?hr ?_;(case hd => rfl);(case hg => rfl);(case hr => first|(go_simp;done)|(go_simp;rfl));intro gb167 hg w12 hbox hb;have BK167:=zh (hbox);have GW167:=zh ((by rw [hg];exact (zB (by repeat (with_reducible first|exact HB.out|apply za|apply zb|apply zc))) : w.heap.size≤gb167));have GE167:=zh ((by rw [hg];exact (zB (by repeat (with_reducible first|exact HB.out|apply za|apply zb|apply zc))) : w.heap.size≤gb167));replace HB:=zh (zC (by repeat (with_reducible first|exact HB.out|apply za|apply zb|apply zc)) hb);clear hb hbox hg;have hcz13_0 : w12.cell? ⟨gb167,0,none⟩=some (.string a0_0):=(zz BK167.out 0).trans rfl;have hcz13_1 : w12.cell? ⟨gb167,1,none⟩=some (.slice A0_1 l0_1.length c0_1):=(zz BK167.out 1).trans rfl;have hfz13_0:=zA BK167.out 0;have hfz13_1:=zA BK167.out 1)|(go_at_call 32;(with_reducible refine (impl_isShort.calls k  a0_0 true _ A2.out).mono ?_);rintro e w' ⟨rfl,⟨nd,rfl⟩⟩;(try first|exact ⟨rfl,_,World.drewN_drewN _ _ _⟩|exact ⟨rfl,_,Eq.trans (World.drewN_drewN _ _ _) (congrArg (World.drewN _) (Nat.add_assoc _ _ _))⟩))|(go_at_call 33;(with_reducible refine (impl_inRange.calls  (l0_1.length : Int) 1 2 true _ A4.out).mono ?_);rintro e w' ⟨rfl,⟨nd,rfl⟩⟩;(try first|exact ⟨rfl,_,World.drewN_drewN _ _ _⟩|exact ⟨rfl,_,Eq.trans (World.drewN_drewN _ _ _) (congrArg (World.drewN _) (Nat.add_assoc _ _ _))⟩))|(go_at_call 34;(with_reducible refine (impl_Part_at_DefOK_1.calls k  _ _ l0_1  false _ ?side1 ?side2 A6.out).mono ?_);(case side1 => repeat (first|exact (Kd.C_below HR0_1.out (by repeat (with_reducible first|exact HB.out|apply za|apply zb|apply zc|refine zd ?_ GE167.out)))|(with_reducible refine Kd.C_alloc ?_ _)|(with_reducible refine Kd.C_drewN ?_ _)|(with_reducible refine Kd.C_drew ?_)));(case side2 => exact HC0_1.out);rintro e w14 ⟨rfl,hb⟩;replace BK167:=zh (zD (g:=gb167) (o:=.cells #[.string a0_0,.slice A0_1 l0_1.length c0_1] 29 (0,0)) (by (with_reducible repeat (first|refine ze ?_ _|refine zf ?_|refine zg ?_ _));exact BK167.out) hb);replace HB:=zh (zC (by repeat (with_reducible first|exact HB.out|apply za|apply zb|apply zc|refine zd ?_ GE167.out)) hb);(try clear hb);(try clear hb2);(try clear hk);(try clear hi);have hcz15_0 : w14.cell? ⟨gb167,0,none⟩=some (.string a0_0):=(zz BK167.out 0).trans rfl;have hcz15_1 : w14.cell? ⟨gb167,1,none⟩=some (.slice A0_1 l0_1.length c0_1):=(zz BK167.out 1).trans rfl;have hfz15_0:=zA BK167.out 0;have hfz15_1:=zA BK167.out 1))
    repeat (go_quiet (first|((with_reducible refine zK (N:=1) rfl ?_);(try (refine yz (by rfl) ?_;dsimp only));refine zI ?hg (N:=1) ?hd (cs:=#[.string a0_0,.slice A0_1 l0_1.length c0_1]) (t:=29) ?hr ?_;(case hd => rfl);(case hg => rfl);(case hr => first|(go_simp;done)|(go_simp;rfl));intro gb167 hg w12 hbox hb;have BK167:=zh (hbox);have GW167:=zh ((by rw [hg];exact (zB (by repeat (with_reducible first|exact HB.out|apply za|apply zb|apply zc))) : w.heap.size≤gb167));have GE167:=zh ((by rw [hg];exact (zB (by repeat (with_reducible first|exact HB.out|apply za|apply zb|apply zc))) : w.heap.size≤gb167));replace HB:=zh (zC (by repeat (with_reducible first|exact HB.out|apply za|apply zb|apply zc)) hb);clear hb hbox hg;have hcz13_0 : w12.cell? ⟨gb167,0,none⟩=some (.string a0_0):=(zz BK167.out 0).trans rfl;have hcz13_1 : w12.cell? ⟨gb167,1,none⟩=some (.slice A0_1 l0_1.length c0_1):=(zz BK167.out 1).trans rfl;have hfz13_0:=zA BK167.out 0;have hfz13_1:=zA BK167.out 1)|(go_at_call 32;(with_reducible refine (impl_isShort.calls k  a0_0 true _ A2.out).mono ?_);rintro e w' ⟨rfl,⟨nd,rfl⟩⟩;(try first|exact ⟨rfl,_,World.drewN_drewN _ _ _⟩|exact ⟨rfl,_,Eq.trans (World.drewN_drewN _ _ _) (congrArg (World.drewN _) (Nat.add_assoc _ _ _))⟩))|(go_at_call 33;(with_reducible refine (impl_inRange.calls  (l0_1.length : Int) 1 2 true _ A4.out).mono ?_);rintro e w' ⟨rfl,⟨nd,rfl⟩⟩;(try first|exact ⟨rfl,_,World.drewN_drewN _ _ _⟩|exact ⟨rfl,_,Eq.trans (World.drewN_drewN _ _ _) (congrArg (World.drewN _) (Nat.add_assoc _ _ _))⟩))|(go_at_call 34;(with_reducible refine (impl_Part_at_DefOK_1.calls k  _ _ l0_1  false _ ?side1 ?side2 A6.out).mono ?_);(case side1 => repeat (first|exact (Kd.C_below HR0_1.out (by repeat (with_reducible first|exact HB.out|apply za|apply zb|apply zc|refine zd ?_ GE167.out)))|(with_reducible refine Kd.C_alloc ?_ _)|(with_reducible refine Kd.C_drewN ?_ _)|(with_reducible refine Kd.C_drew ?_)));(case side2 => exact HC0_1.out);rintro e w14 ⟨rfl,hb⟩;replace BK167:=zh (zD (g:=gb167) (o:=.cells #[.string a0_0,.slice A0_1 l0_1.length c0_1] 29 (0,0)) (by (with_reducible repeat (first|refine ze ?_ _|refine zf ?_|refine zg ?_ _));exact BK167.out) hb);replace HB:=zh (zC (by repeat (with_reducible first|exact HB.out|apply za|apply zb|apply zc|refine zd ?_ GE167.out)) hb);(try clear hb);(try clear hb2);(try clear hk);(try clear hi);have hcz15_0 : w14.cell? ⟨gb167,0,none⟩=some (.string a0_0):=(zz BK167.out 0).trans rfl;have hcz15_1 : w14.cell? ⟨gb167,1,none⟩=some (.slice A0_1 l0_1.length c0_1):=(zz BK167.out 1).trans rfl;have hfz15_0:=zA BK167.out 0;have hfz15_1:=zA BK167.out 1));try go_wp2_with (first|((with_reducible refine zK (N:=1) rfl ?_);(try (refine yz (by rfl) ?_;dsimp only));refine zI ?hg (N:=1) ?hd (cs:=#[.string a0_0,.slice A0_1 l0_1.length c0_1]) (t:=29) ?hr ?_;(case hd => rfl);(case hg => rfl);(case hr => first|(go_simp;done)|(go_simp;rfl));intro gb167 hg w12 hbox hb;have BK167:=zh (hbox);have GW167:=zh ((by rw [hg];exact (zB (by repeat (with_reducible first|exact HB.out|apply za|apply zb|apply zc))) : w.heap.size≤gb167));have GE167:=zh ((by rw [hg];exact (zB (by repeat (with_reducible first|exact HB.out|apply za|apply zb|apply zc))) : w.heap.size≤gb167));replace HB:=zh (zC (by repeat (with_reducible first|exact HB.out|apply za|apply zb|apply zc)) hb);clear hb hbox hg;have hcz13_0 : w12.cell? ⟨gb167,0,none⟩=some (.string a0_0):=(zz BK167.out 0).trans rfl;have hcz13_1 : w12.cell? ⟨gb167,1,none⟩=some (.slice A0_1 l0_1.length c0_1):=(zz BK167.out 1).trans rfl;have hfz13_0:=zA BK167.out 0;have hfz13_1:=zA BK167.out 1)|(go_at_call 32;(with_reducible refine (impl_isShort.calls k  a0_0 true _ A2.out).mono ?_);rintro e w' ⟨rfl,⟨nd,rfl⟩⟩;(try first|exact ⟨rfl,_,World.drewN_drewN _ _ _⟩|exact ⟨rfl,_,Eq.trans (World.drewN_drewN _ _ _) (congrArg (World.drewN _) (Nat.add_assoc _ _ _))⟩))|(go_at_call 33;(with_reducible refine (impl_inRange.calls  (l0_1.length : Int) 1 2 true _ A4.out).mono ?_);rintro e w' ⟨rfl,⟨nd,rfl⟩⟩;(try first|exact ⟨rfl,_,World.drewN_drewN _ _ _⟩|exact ⟨rfl,_,Eq.trans (World.drewN_drewN _ _ _) (congrArg (World.drewN _) (Nat.add_assoc _ _ _))⟩))|(go_at_call 34;(with_reducible refine (impl_Part_at_DefOK_1.calls k  _ _ l0_1  false _ ?side1 ?side2 A6.out).mono ?_);(case side1 => repeat (first|exact (Kd.C_below HR0_1.out (by repeat (with_reducible first|exact HB.out|apply za|apply zb|apply zc|refine zd ?_ GE167.out)))|(with_reducible refine Kd.C_alloc ?_ _)|(with_reducible refine Kd.C_drewN ?_ _)|(with_reducible refine Kd.C_drew ?_)));(case side2 => exact HC0_1.out);rintro e w14 ⟨rfl,hb⟩;replace BK167:=zh (zD (g:=gb167) (o:=.cells #[.string a0_0,.slice A0_1 l0_1.length c0_1] 29 (0,0)) (by (with_reducible repeat (first|refine ze ?_ _|refine zf ?_|refine zg ?_ _));exact BK167.out) hb);replace HB:=zh (zC (by repeat (with_reducible first|exact HB.out|apply za|apply zb|apply zc|refine zd ?_ GE167.out)) hb);(try clear hb);(try clear hb2);(try clear hk);(try clear hi);have hcz15_0 : w14.cell? ⟨gb167,0,none⟩=some (.string a0_0):=(zz BK167.out 0).trans rfl;have hcz15_1 : w14.cell? ⟨gb167,1,none⟩=some (.slice A0_1 l0_1.length c0_1):=(zz BK167.out 1).trans rfl;have hfz15_0:=zA BK167.out 0;have hfz15_1:=zA BK167.out 1)))
    go_ret
    exact ⟨by first|rfl|(simp [yt,yu] <;> rfl)|(simp [*,yt,yu] <;> rfl),by repeat (with_reducible first|exact HB.out|apply za|apply zb|apply zc|refine zd ?_ GE167.out)⟩
   rw [if_neg c11] at H;have c11b0 : ((l0_1.length : Int) == 1)=false:=zY.mpr c11;have c11b1 : ((l0_1.length : Int) != 1)=true:=zZ.mpr c11
   by_cases c16 : 0<(l0_1.length : Int)
   ·
    rw [if_pos c16] at H
    have c16b0 : decide (0<(l0_1.length : Int))=true:=decide_eq_true c16;have c16b1 : decide (0<l0_1.length)=true:=decide_eq_true (by omega);clear c16
    by_cases c17 : 1<(l0_1.length : Int)
    ·
     rw [if_pos c17] at H
     have c17b0 : decide (1<(l0_1.length : Int))=true:=decide_eq_true c17;have c17b1 : decide (1<l0_1.length)=true:=decide_eq_true (by omega);clear c17;obtain rfl:=zU H
     go_enter Tryd.func10,Tryd.ntmps10
     go_wp2_with (first|((with_reducible refine zK (N:=1) rfl ?_);(try (refine yz (by rfl) ?_;dsimp only));refine zI ?hg (N:=1) ?hd (cs:=#[.string a0_0,.slice A0_1 l0_1.length c0_1]) (t:=29) ?hr ?_;(case hd => rfl);(case hg => rfl);(case hr => first|(go_simp;done)|(go_simp;rfl));intro gb167 hg w18 hbox hb;have BK167:=zh (hbox);have GW167:=zh ((by rw [hg];exact (zB (by repeat (with_reducible first|exact HB.out|apply za|apply zb|apply zc))) : w.heap.size≤gb167));have GE167:=zh ((by rw [hg];exact (zB (by repeat (with_reducible first|exact HB.out|apply za|apply zb|apply zc))) : w.heap.size≤gb167));replace HB:=zh (zC (by repeat (with_reducible first|exact HB.out|apply za|apply zb|apply zc)) hb);clear hb hbox hg;have hcz19_0 : w18.cell? ⟨gb167,0,none⟩=some (.string a0_0):=(zz BK167.out 0).trans rfl;have hcz19_1 : w18.cell? ⟨gb167,1,none⟩=some (.slice A0_1 l0_1.length c0_1):=(zz BK167.out 1).trans rfl;have hfz19_0:=zA BK167.out 0;have hfz19_1:=zA BK167.out 1)|(go_at_call 32;(with_reducible refine (impl_isShort.calls k  a0_0 true _ A2.out).mono ?_);rintro e w' ⟨rfl,⟨nd,rfl⟩⟩;(try first|exact ⟨rfl,_,World.drewN_drewN _ _ _⟩|exact ⟨rfl,_,Eq.trans (World.drewN_drewN _ _ _) (congrArg (World.drewN _) (Nat.add_assoc _ _ _))⟩))|(go_at_call 33;(with_reducible refine (impl_inRange.calls  (l0_1.length : Int) 1 2 true _ A4.out).mono ?_);rintro e w' ⟨rfl,⟨nd,rfl⟩⟩;(try first|exact ⟨rfl,_,World.drewN_drewN _ _ _⟩|exact ⟨rfl,_,Eq.trans (World.drewN_drewN _ _ _) (congrArg (World.drewN _) (Nat.add_assoc _ _ _))⟩))|(go_at_call 34;(with_reducible refine (impl_Part_at_DefOK_1.calls k  _ _ l0_1  false _ ?side1 ?side2 A6.out).mono ?_);(case side1 => repeat (first|exact (Kd.C_below HR0_1.out (by repeat (with_reducible first|exact HB.out|apply za|apply zb|apply zc|refine zd ?_ GE167.out)))|(with_reducible refine Kd.C_alloc ?_ _)|(with_reducible refine Kd.C_drewN ?_ _)|(with_reducible refine Kd.C_drew ?_)));(case side2 => exact HC0_1.out);rintro e w20 ⟨rfl,hb⟩;replace BK167:=zh (zD (g:=gb167) (o:=.cells #[.string a0_0,.slice A0_1 l0_1.length c0_1] 29 (0,0)) (by (with_reducible repeat (first|refine ze ?_ _|refine zf ?_|refine zg ?_ _));exact BK167.out) hb);replace HB:=zh (zC (by repeat (with_reducible first|exact HB.out|apply za|apply zb|apply zc|refine zd ?_ GE167.out)) hb);(try clear hb);(try clear hb2);(try clear hk);(try clear hi);have hcz21_0 : w20.cell? ⟨gb167,0,none⟩=some (.string a0_0):=(zz BK167.out 0).trans rfl;have hcz21_1 : w20.cell? ⟨gb167,1,none⟩=some (.slice A0_1 l0_1.length c0_1):=(zz BK167.out 1).trans rfl;have hfz21_0:=zA BK167.out 0;have hfz21_1:=zA BK167.out 1;have p171 : 0≤(0 : Int):=(by omega);have q171 : 0<(l0_1.length : Int):=zy (by first|(with_reducible assumption)|assumption);obtain ⟨ad171,e171,hx171_0,hx171_1⟩:=at_T62 HR0_1.out 0 p171 q171;cases e171;have qi171 : (0<l0_1.length)=True:=eq_true (by omega);(try rw [show ((0 : Int)).toNat=0 from rfl] at hx171_0);(try rw [show 0 * 2=0 from rfl] at hx171_0);(try rw [Addr.add_zero'] at hx171_0);(try rw [show ((0 : Int)).toNat=0 from rfl] at hx171_1);(try rw [show 0 * 2=0 from rfl] at hx171_1);(try rw [Addr.add_zero'] at hx171_1);replace hx171_0:=(HB.out.cell (zl w _ hx171_0)).trans hx171_0;replace hx171_1:=(HB.out.cell (zl w _ hx171_1)).trans hx171_1;replace p171:=eq_true p171;replace q171:=eq_true q171;have p172 : 0≤(1 : Int):=(by omega);have q172 : 1<(l0_1.length : Int):=zy (by first|(with_reducible assumption)|assumption);obtain ⟨ad172,e172,hx172_0,hx172_1⟩:=at_T62 HR0_1.out 1 p172 q172;obtain rfl : ad171=ad172:=(by injection e172);(try simp only [show (1 : Int).toNat=1 from rfl,Nat.reduceMul,Nat.reduceEqDiff,Go.Addr.add,↓reduceIte] at hx172_0);(try simp only [show (1 : Int).toNat=1 from rfl,Nat.reduceMul,Nat.reduceEqDiff,Go.Addr.add,↓reduceIte] at hx172_1);have qi172 : (1<l0_1.length)=True:=eq_true (by omega);(try rw [show ((1 : Int)).toNat=1 from rfl] at hx172_0);(try rw [show 1 * 2=2 from rfl] at hx172_0);(try rw [show ((1 : Int)).toNat=1 from rfl] at hx172_1);(try rw [show 1 * 2=2 from rfl] at hx172_1);replace hx172_0:=(HB.out.cell (zl w _ hx172_0)).trans hx172_0;replace hx172_1:=(HB.out.cell (zl w _ hx172_1)).trans hx172_1;replace p172:=eq_true p172;replace q172:=eq_true q172))
     repeat (go_quiet (first|((with_reducible refine zK (N:=1) rfl ?_);(try (refine yz (by rfl) ?_;dsimp only));refine zI ?hg (N:=1) ?hd (cs:=#[.string a0_0,.slice A0_1 l0_1.length c0_1]) (t:=29) ?hr ?_;(case hd => rfl);(case hg => rfl);(case hr => first|(go_simp;done)|(go_simp;rfl));intro gb167 hg w18 hbox hb;have BK167:=zh (hbox);have GW167:=zh ((by rw [hg];exact (zB (by repeat (with_reducible first|exact HB.out|apply za|apply zb|apply zc))) : w.heap.size≤gb167));have GE167:=zh ((by rw [hg];exact (zB (by repeat (with_reducible first|exact HB.out|apply za|apply zb|apply zc))) : w.heap.size≤gb167));replace HB:=zh (zC (by repeat (with_reducible first|exact HB.out|apply za|apply zb|apply zc)) hb);clear hb hbox hg;have hcz19_0 : w18.cell? ⟨gb167,0,none⟩=some (.string a0_0):=(zz BK167.out 0).trans rfl;have hcz19_1 : w18.cell? ⟨gb167,1,none⟩=some (.slice A0_1 l0_1.length c0_1):=(zz BK167.out 1).trans rfl;have hfz19_0:=zA BK167.out 0;have hfz19_1:=zA BK167.out 1)|(go_at_call 32;(with_reducible refine (impl_isShort.calls k  a0_0 true _ A2.out).mono ?_);rintro e w' ⟨rfl,⟨nd,rfl⟩⟩;(try first|exact ⟨rfl,_,World.drewN_drewN _ _ _⟩|exact ⟨rfl,_,Eq.trans (World.drewN_drewN _ _ _) (congrArg (World.drewN _) (Nat.add_assoc _ _ _))⟩))|(go_at_call 33;(with_reducible refine (impl_inRange.calls  (l0_1.length : Int) 1 2 true _ A4.out).mono ?_);rintro e w' ⟨rfl,⟨nd,rfl⟩⟩;(try first|exact ⟨rfl,_,World.drewN_drewN _ _ _⟩|exact ⟨rfl,_,Eq.trans (World.drewN_drewN _ _ _) (congrArg (World.drewN _) (Nat.add_assoc _ _ _))⟩))|(go_at_call 34;(with_reducible refine (impl_Part_at_DefOK_1.calls k  _ _ l0_1  false _ ?side1 ?side2 A6.out).mono ?_);(case side1 => repeat (first|exact (Kd.C_below HR0_1.out (by repeat (with_reducible first|exact HB.out|apply za|apply zb|apply zc|refine zd ?_ GE167.out)))|(with_reducible refine Kd.C_alloc ?_ _)|(with_reducible refine Kd.C_drewN ?_ _)|(with_reducible refine Kd.C_drew ?_)));(case side2 => exact HC0_1.out);rintro e w20 ⟨rfl,hb⟩;replace BK167:=zh (zD (g:=gb167) (o:=.cells #[.string a0_0,.slice A0_1 l0_1.length c0_1] 29 (0,0)) (by (with_reducible repeat (first|refine ze ?_ _|refine zf ?_|refine zg ?_ _));exact BK167.out) hb);replace HB:=zh (zC (by repeat (with_reducible first|exact HB.out|apply za|apply zb|apply zc|refine zd ?_ GE167.out)) hb);(try clear hb);(try clear hb2);(try clear hk);(try clear hi);have hcz21_0 : w20.cell? ⟨gb167,0,none⟩=some (.string a0_0):=(zz BK167.out 0).trans rfl;have hcz21_1 : w20.cell? ⟨gb167,1,none⟩=some (.slice A0_1 l0_1.length c0_1):=(zz BK167.out 1).trans rfl;have hfz21_0:=zA BK167.out 0;have hfz21_1:=zA BK167.out 1;have p171 : 0≤(0 : Int):=(by omega);have q171 : 0<(l0_1.length : Int):=zy (by first|(with_reducible assumption)|assumption);obtain ⟨ad171,e171,hx171_0,hx171_1⟩:=at_T62 HR0_1.out 0 p171 q171;cases e171;have qi171 : (0<l0_1.length)=True:=eq_true (by omega);(try rw [show ((0 : Int)).toNat=0 from rfl] at hx171_0);(try rw [show 0 * 2=0 from rfl] at hx171_0);(try rw [Addr.add_zero'] at hx171_0);(try rw [show ((0 : Int)).toNat=0 from rfl] at hx171_1);(try rw [show 0 * 2=0 from rfl] at hx171_1);(try rw [Addr.add_zero'] at hx171_1);replace hx171_0:=(HB.out.cell (zl w _ hx171_0)).trans hx171_0;replace hx171_1:=(HB.out.cell (zl w _ hx171_1)).trans hx171_1;replace p171:=eq_true p171;replace q171:=eq_true q171;have p172 : 0≤(1 : Int):=(by omega);have q172 : 1<(l0_1.length : Int):=zy (by first|(with_reducible assumption)|assumption);obtain ⟨ad172,e172,hx172_0,hx172_1⟩:=at_T62 HR0_1.out 1 p172 q172;obtain rfl : ad171=ad172:=(by injection e172);(try simp only [show (1 : Int).toNat=1 from rfl,Nat.reduceMul,Nat.reduceEqDiff,Go.Addr.add,↓reduceIte] at hx172_0);(try simp only [show (1 : Int).toNat=1 from rfl,Nat.reduceMul,Nat.reduceEqDiff,Go.Addr.add,↓reduceIte] at hx172_1);have qi172 : (1<l0_1.length)=True:=eq_true (by omega);(try rw [show ((1 : Int)).toNat=1 from rfl] at hx172_0);(try rw [show 1 * 2=2 from rfl] at hx172_0);(try rw [show ((1 : Int)).toNat=1 from rfl] at hx172_1);(try rw [show 1 * 2=2 from rfl] at hx172_1);replace hx172_0:=(HB.out.cell (zl w _ hx172_0)).trans hx172_0;replace hx172_1:=(HB.out.cell (zl w _ hx172_1)).trans hx172_1;replace p172:=eq_true p172;replace q172:=eq_true q172));try go_wp2_with (first|((with_reducible refine zK (N:=1) rfl ?_);(try (refine yz (by rfl) ?_;dsimp only));refine zI ?hg (N:=1) ?hd (cs:=#[.string a0_0,.slice A0_1 l0_1.length c0_1]) (t:=29) ?hr ?_;(case hd => rfl);(case hg => rfl);(case hr => first|(go_simp;done)|(go_simp;rfl));intro gb167 hg w18 hbox hb;have BK167:=zh (hbox);have GW167:=zh ((by rw [hg];exact (zB (by repeat (with_reducible first|exact HB.out|apply za|apply zb|apply zc))) : w.heap.size≤gb167));have GE167:=zh ((by rw [hg];exact (zB (by repeat (with_reducible first|exact HB.out|apply za|apply zb|apply zc))) : w.heap.size≤gb167));replace HB:=zh (zC (by repeat (with_reducible first|exact HB.out|apply za|apply zb|apply zc)) hb);clear hb hbox hg;have hcz19_0 : w18.cell? ⟨gb167,0,none⟩=some (.string a0_0):=(zz BK167.out 0).trans rfl;have hcz19_1 : w18.cell? ⟨gb167,1,none⟩=some (.slice A0_1 l0_1.length c0_1):=(zz BK167.out 1).trans rfl;have hfz19_0:=zA BK167.out 0;have hfz19_1:=zA BK167.out 1)|(go_at_call 32;(with_reducible refine (impl_isShort.calls k  a0_0 true _ A2.out).mono ?_);rintro e w' ⟨rfl,⟨nd,rfl⟩⟩;(try first|exact ⟨rfl,_,World.drewN_drewN _ _ _⟩|exact ⟨rfl,_,Eq.trans (World.drewN_drewN _ _ _) (congrArg (World.drewN _) (Nat.add_assoc _ _ _))⟩))|(go_at_call 33;(with_reducible refine (impl_inRange.calls  (l0_1.length : Int) 1 2 true _ A4.out).mono ?_);rintro e w' ⟨rfl,⟨nd,rfl⟩⟩;(try first|exact ⟨rfl,_,World.drewN_drewN _ _ _⟩|exact ⟨rfl,_,Eq.trans (World.drewN_drewN _ _ _) (congrArg (World.drewN _) (Nat.add_assoc _ _ _))⟩))|(go_at_call 34;(with_reducible refine (impl_Part_at_DefOK_1.calls k  _ _ l0_1  false _ ?side1 ?side2 A6.out).mono ?_);(case side1 => repeat (first|exact (Kd.C_below HR0_1.out (by repeat (with_reducible first|exact HB.out|apply za|apply zb|apply zc|refine zd ?_ GE167.out)))|(with_reducible refine Kd.C_alloc ?_ _)|(with_reducible refine Kd.C_drewN ?_ _)|(with_reducible refine Kd.C_drew ?_)));(case side2 => exact HC0_1.out);rintro e w20 ⟨rfl,hb⟩;replace BK167:=zh (zD (g:=gb167) (o:=.cells #[.string a0_0,.slice A0_1 l0_1.length c0_1] 29 (0,0)) (by (with_reducible repeat (first|refine ze ?_ _|refine zf ?_|refine zg ?_ _));exact BK167.out) hb);replace HB:=zh (zC (by repeat (with_reducible first|exact HB.out|apply za|apply zb|apply zc|refine zd ?_ GE167.out)) hb);(try clear hb);(try clear hb2);(try clear hk);(try clear hi);have hcz21_0 : w20.cell? ⟨gb167,0,none⟩=some (.string a0_0):=(zz BK167.out 0).trans rfl;have hcz21_1 : w20.cell? ⟨gb167,1,none⟩=some (.slice A0_1 l0_1.length c0_1):=(zz BK167.out 1).trans rfl;have hfz21_0:=zA BK167.out 0;have hfz21_1:=zA BK167.out 1;have p171 : 0≤(0 : Int):=(by omega);have q171 : 0<(l0_1.length : Int):=zy (by first|(with_reducible assumption)|assumption);obtain ⟨ad171,e171,hx171_0,hx171_1⟩:=at_T62 HR0_1.out 0 p171 q171;cases e171;have qi171 : (0<l0_1.length)=True:=eq_true (by omega);(try rw [show ((0 : Int)).toNat=0 from rfl] at hx171_0);(try rw [show 0 * 2=0 from rfl] at hx171_0);(try rw [Addr.add_zero'] at hx171_0);(try rw [show ((0 : Int)).toNat=0 from rfl] at hx171_1);(try rw [show 0 * 2=0 from rfl] at hx171_1);(try rw [Addr.add_zero'] at hx171_1);replace hx171_0:=(HB.out.cell (zl w _ hx171_0)).trans hx171_0;replace hx171_1:=(HB.out.cell (zl w _ hx171_1)).trans hx171_1;replace p171:=eq_true p171;replace q171:=eq_true q171;have p172 : 0≤(1 : Int):=(by omega);have q172 : 1<(l0_1.length : Int):=zy (by first|(with_reducible assumption)|assumption);obtain ⟨ad172,e172,hx172_0,hx172_1⟩:=at_T62 HR0_1.out 1 p172 q172;obtain rfl : ad171=ad172:=(by injection e172);(try simp only [show (1 : Int).toNat=1 from rfl,Nat.reduceMul,Nat.reduceEqDiff,Go.Addr.add,↓reduceIte] at hx172_0);(try simp only [show (1 : Int).toNat=1 from rfl,Nat.reduceMul,Nat.reduceEqDiff,Go.Addr.add,↓reduceIte] at hx172_1);have qi172 : (1<l0_1.length)=True:=eq_true (by omega);(try rw [show ((1 : Int)).toNat=1 from rfl] at hx172_0);(try rw [show 1 * 2=2 from rfl] at hx172_0);(try rw [show ((1 : Int)).toNat=1 from rfl] at hx172_1);(try rw [show 1 * 2=2 from rfl] at hx172_1);replace hx172_0:=(HB.out.cell (zl w _ hx172_0)).trans hx172_0;replace hx172_1:=(HB.out.cell (zl w _ hx172_1)).trans hx172_1;replace p172:=eq_true p172;replace q172:=eq_true q172)))
     go_ret
     exact ⟨by first|rfl|(simp [yt,yu] <;> rfl)|(simp [*,yt,yu] <;> rfl),by repeat (with_reducible first|exact HB.out|apply za|apply zb|apply zc|refine zd ?_ GE167.out)⟩
    rw [if_neg c17] at H;exact absurd H (by simp)
   rw [if_neg c16] at H;exact absurd H (by simp)
  replace c5:=yb.mpr c5;subst c5;have H1 : (some false)=some r:=by rw [if_neg (show ¬ (false=true) by decide)] at H;exact H
  clear H;have H:=H1;clear H1;obtain rfl:=zU H
  go_enter Tryd.func10,Tryd.ntmps10
  go_wp2_with (first|((with_reducible refine zK (N:=1) rfl ?_);(try (refine yz (by rfl) ?_;dsimp only));refine zI ?hg (N:=1) ?hd (cs:=#[.string a0_0,.slice A0_1 l0_1.length c0_1]) (t:=29) ?hr ?_;(case hd => rfl);(case hg => rfl);(case hr => first|(go_simp;done)|(go_simp;rfl));intro gb167 hg w22 hbox hb;have BK167:=zh (hbox);have GW167:=zh ((by rw [hg];exact (zB (by repeat (with_reducible first|exact HB.out|apply za|apply zb|apply zc))) : w.heap.size≤gb167));have GE167:=zh ((by rw [hg];exact (zB (by repeat (with_reducible first|exact HB.out|apply za|apply zb|apply zc))) : w.heap.size≤gb167));replace HB:=zh (zC (by repeat (with_reducible first|exact HB.out|apply za|apply zb|apply zc)) hb);clear hb hbox hg;have hcz23_0 : w22.cell? ⟨gb167,0,none⟩=some (.string a0_0):=(zz BK167.out 0).trans rfl;have hcz23_1 : w22.cell? ⟨gb167,1,none⟩=some (.slice A0_1 l0_1.length c0_1):=(zz BK167.out 1).trans rfl;have hfz23_0:=zA BK167.out 0;have hfz23_1:=zA BK167.out 1)|(go_at_call 32;(with_reducible refine (impl_isShort.calls k  a0_0 true _ A2.out).mono ?_);rintro e w' ⟨rfl,⟨nd,rfl⟩⟩;(try first|exact ⟨rfl,_,World.drewN_drewN _ _ _⟩|exact ⟨rfl,_,Eq.trans (World.drewN_drewN _ _ _) (congrArg (World.drewN _) (Nat.add_assoc _ _ _))⟩))|(go_at_call 33;(with_reducible refine (impl_inRange.calls  (l0_1.length : Int) 1 2 false _ A4.out).mono ?_);rintro e w' ⟨rfl,⟨nd,rfl⟩⟩;(try first|exact ⟨rfl,_,World.drewN_drewN _ _ _⟩|exact ⟨rfl,_,Eq.trans (World.drewN_drewN _ _ _) (congrArg (World.drewN _) (Nat.add_assoc _ _ _))⟩)))
  repeat (go_quiet (first|((with_reducible refine zK (N:=1) rfl ?_);(try (refine yz (by rfl) ?_;dsimp only));refine zI ?hg (N:=1) ?hd (cs:=#[.string a0_0,.slice A0_1 l0_1.length c0_1]) (t:=29) ?hr ?_;(case hd => rfl);(case hg => rfl);(case hr => first|(go_simp;done)|(go_simp;rfl));intro gb167 hg w22 hbox hb;have BK167:=zh (hbox);have GW167:=zh ((by rw [hg];exact (zB (by repeat (with_reducible first|exact HB.out|apply za|apply zb|apply zc))) : w.heap.size≤gb167));have GE167:=zh ((by rw [hg];exact (zB (by repeat (with_reducible first|exact HB.out|apply za|apply zb|apply zc))) : w.heap.size≤gb167));replace HB:=zh (zC (by repeat (with_reducible first|exact HB.out|apply za|apply zb|apply zc)) hb);clear hb hbox hg;have hcz23_0 : w22.cell? ⟨gb167,0,none⟩=some (.string a0_0):=(zz BK167.out 0).trans rfl;have hcz23_1 : w22.cell? ⟨gb167,1,none⟩=some (.slice A0_1 l0_1.length c0_1):=(zz BK167.out 1).trans rfl;have hfz23_0:=zA BK167.out 0;have hfz23_1:=zA BK167.out 1)|(go_at_call 32;(with_reducible refine (impl_isShort.calls k  a0_0 true _ A2.out).mono ?_);rintro e w' ⟨rfl,⟨nd,rfl⟩⟩;(try first|exact ⟨rfl,_,World.drewN_drewN _ _ _⟩|exact ⟨rfl,_,Eq.trans (World.drewN_drewN _ _ _) (congrArg (World.drewN _) (Nat.add_assoc _ _ _))⟩))|(go_at_call 33;(with_reducible refine (impl_inRange.calls  (l0_1.length : Int) 1 2 false _ A4.out).mono ?_);rintro e w' ⟨rfl,⟨nd,rfl⟩⟩;(try first|exact ⟨rfl,_,World.drewN_drewN _ _ _⟩|exact ⟨rfl,_,Eq.trans (World.drewN_drewN _ _ _) (congrArg (World.drewN _) (Nat.add_assoc _ _ _))⟩)));try go_wp2_with (first|((with_reducible refine zK (N:=1) rfl ?_);(try (refine yz (by rfl) ?_;dsimp only));refine zI ?hg (N:=1) ?hd (cs:=#[.string a0_0,.slice A0_1 l0_1.length c0_1]) (t:=29) ?hr ?_;(case hd => rfl);(case hg => rfl);(case hr => first|(go_simp;done)|(go_simp;rfl));intro gb167 hg w22 hbox hb;have BK167:=zh (hbox);have GW167:=zh ((by rw [hg];exact (zB (by repeat (with_reducible first|exact HB.out|apply za|apply zb|apply zc))) : w.heap.size≤gb167));have GE167:=zh ((by rw [hg];exact (zB (by repeat (with_reducible first|exact HB.out|apply za|apply zb|apply zc))) : w.heap.size≤gb167));replace HB:=zh (zC (by repeat (with_reducible first|exact HB.out|apply za|apply zb|apply zc)) hb);clear hb hbox hg;have hcz23_0 : w22.cell? ⟨gb167,0,none⟩=some (.string a0_0):=(zz BK167.out 0).trans rfl;have hcz23_1 : w22.cell? ⟨gb167,1,none⟩=some (.slice A0_1 l0_1.length c0_1):=(zz BK167.out 1).trans rfl;have hfz23_0:=zA BK167.out 0;have hfz23_1:=zA BK167.out 1)|(go_at_call 32;(with_reducible refine (impl_isShort.calls k  a0_0 true _ A2.out).mono ?_);rintro e w' ⟨rfl,⟨nd,rfl⟩⟩;(try first|exact ⟨rfl,_,World.drewN_drewN _ _ _⟩|exact ⟨rfl,_,Eq.trans (World.drewN_drewN _ _ _) (congrArg (World.drewN _) (Nat.add_assoc _ _ _))⟩))|(go_at_call 33;(with_reducible refine (impl_inRange.calls  (l0_1.length : Int) 1 2 false _ A4.out).mono ?_);rintro e w' ⟨rfl,⟨nd,rfl⟩⟩;(try first|exact ⟨rfl,_,World.drewN_drewN _ _ _⟩|exact ⟨rfl,_,Eq.trans (World.drewN_drewN _ _ _) (congrArg (World.drewN _) (Nat.add_assoc _ _ _))⟩))))
  go_ret
  exact ⟨by first|rfl|(simp [yt,yu] <;> rfl)|(simp [*,yt,yu] <;> rfl),by repeat (with_reducible first|exact HB.out|apply za|apply zb|apply zc|refine zd ?_ GE167.out)⟩
 replace c3:=yb.mpr c3;subst c3;have H1 : (some false)=some r:=by rw [if_neg (show ¬ (false=true) by decide)] at H;exact H
 clear H;have H:=H1;clear H1;obtain rfl:=zU H
 go_enter Tryd.func10,Tryd.ntmps10
 go_wp2_with (first|((with_reducible refine zK (N:=1) rfl ?_);(try (refine yz (by rfl) ?_;dsimp only));refine zI ?hg (N:=1) ?hd (cs:=#[.string a0_0,.slice A0_1 l0_1.length c0_1]) (t:=29) ?hr ?_;(case hd => rfl);(case hg => rfl);(case hr => first|(go_simp;done)|(go_simp;rfl));intro gb167 hg w24 hbox hb;have BK167:=zh (hbox);have GW167:=zh ((by rw [hg];exact (zB (by repeat (with_reducible first|exact HB.out|apply za|apply zb|apply zc))) : w.heap.size≤gb167));have GE167:=zh ((by rw [hg];exact (zB (by repeat (with_reducible first|exact HB.out|apply za|apply zb|apply zc))) : w.heap.size≤gb167));replace HB:=zh (zC (by repeat (with_reducible first|exact HB.out|apply za|apply zb|apply zc)) hb);clear hb hbox hg;have hcz25_0 : w24.cell? ⟨gb167,0,none⟩=some (.string a0_0):=(zz BK167.out 0).trans rfl;have hcz25_1 : w24.cell? ⟨gb167,1,none⟩=some (.slice A0_1 l0_1.length c0_1):=(zz BK167.out 1).trans rfl;have hfz25_0:=zA BK167.out 0;have hfz25_1:=zA BK167.out 1)|(go_at_call 32;(with_reducible refine (impl_isShort.calls k  a0_0 false _ A2.out).mono ?_);rintro e w' ⟨rfl,⟨nd,rfl⟩⟩;(try first|exact ⟨rfl,_,World.drewN_drewN _ _ _⟩|exact ⟨rfl,_,Eq.trans (World.drewN_drewN _ _ _) (congrArg (World.drewN _) (Nat.add_assoc _ _ _))⟩)))
 repeat (go_quiet (first|((with_reducible refine zK (N:=1) rfl ?_);(try (refine yz (by rfl) ?_;dsimp only));refine zI ?hg (N:=1) ?hd (cs:=#[.string a0_0,.slice A0_1 l0_1.length c0_1]) (t:=29) ?hr ?_;(case hd => rfl);(case hg => rfl);(case hr => first|(go_simp;done)|(go_simp;rfl));intro gb167 hg w24 hbox hb;have BK167:=zh (hbox);have GW167:=zh ((by rw [hg];exact (zB (by repeat (with_reducible first|exact HB.out|apply za|apply zb|apply zc))) : w.heap.size≤gb167));have GE167:=zh ((by rw [hg];exact (zB (by repeat (with_reducible first|exact HB.out|apply za|apply zb|apply zc))) : w.heap.size≤gb167));replace HB:=zh (zC (by repeat (with_reducible first|exact HB.out|apply za|apply zb|apply zc)) hb);clear hb hbox hg;have hcz25_0 : w24.cell? ⟨gb167,0,none⟩=some (.string a0_0):=(zz BK167.out 0).trans rfl;have hcz25_1 : w24.cell? ⟨gb167,1,none⟩=some (.slice A0_1 l0_1.length c0_1):=(zz BK167.out 1).trans rfl;have hfz25_0:=zA BK167.out 0;have hfz25_1:=zA BK167.out 1)|(go_at_call 32;(with_reducible refine (impl_isShort.calls k  a0_0 false _ A2.out).mono ?_);rintro e w' ⟨rfl,⟨nd,rfl⟩⟩;(try first|exact ⟨rfl,_,World.drewN_drewN _ _ _⟩|exact ⟨rfl,_,Eq.trans (World.drewN_drewN _ _ _) (congrArg (World.drewN _) (Nat.add_assoc _ _ _))⟩)));try go_wp2_with (first|((with_reducible refine zK (N:=1) rfl ?_);(try (refine yz (by rfl) ?_;dsimp only));refine zI ?hg (N:=1) ?hd (cs:=#[.string a0_0,.slice A0_1 l0_1.length c0_1]) (t:=29) ?hr ?_;(case hd => rfl);(case hg => rfl);(case hr => first|(go_simp;done)|(go_simp;rfl));intro gb167 hg w24 hbox hb;have BK167:=zh (hbox);have GW167:=zh ((by rw [hg];exact (zB (by repeat (with_reducible first|exact HB.out|apply za|apply zb|apply zc))) : w.heap.size≤gb167));have GE167:=zh ((by rw [hg];exact (zB (by repeat (with_reducible first|exact HB.out|apply za|apply zb|apply zc))) : w.heap.size≤gb167));replace HB:=zh (zC (by repeat (with_reducible first|exact HB.out|apply za|apply zb|apply zc)) hb);clear hb hbox hg;have hcz25_0 : w24.cell? ⟨gb167,0,none⟩=some (.string a0_0):=(zz BK167.out 0).trans rfl;have hcz25_1 : w24.cell? ⟨gb167,1,none⟩=some (.slice A0_1 l0_1.length c0_1):=(zz BK167.out 1).trans rfl;have hfz25_0:=zA BK167.out 0;have hfz25_1:=zA BK167.out 1)|(go_at_call 32;(with_reducible refine (impl_isShort.calls k  a0_0 false _ A2.out).mono ?_);rintro e w' ⟨rfl,⟨nd,rfl⟩⟩;(try first|exact ⟨rfl,_,World.drewN_drewN _ _ _⟩|exact ⟨rfl,_,Eq.trans (World.drewN_drewN _ _ _) (congrArg (World.drewN _) (Nat.add_assoc _ _ _))⟩))))
 go_ret
 exact ⟨by first|rfl|(simp [yt,yu] <;> rfl)|(simp [*,yt,yu] <;> rfl),by repeat (with_reducible first|exact HB.out|apply za|apply zb|apply zc|refine zd ?_ GE167.out)⟩


def laws_eqPart.f (a0_0 : ByteArray) (a0_1 : Bool) (a1_0 : ByteArray) (a1_1 : Bool) : Option (Bool):=if a0_0.toList=a1_0.toList then (if (a0_1 != a1_1)=true then (some false) else (some true)) else (some false)
set_option maxHeartbeats 8000000 in
set_option maxRecDepth 100000 in
theorem laws_eqPart.calls (a0_0 : ByteArray) (a0_1 : Bool) (a1_0 : ByteArray) (a1_1 : Bool) (r : Bool) (w : World) (h : laws_eqPart.f a0_0 a0_1 a1_0 a1_1=some r) :
  Calls Tryd.prog 53 #[.agg #[.string a0_0,.bool a0_1],.agg #[.string a1_0,.bool a1_1]] w fun e w' => e = .returned (.bool r)∧Below w.heap.size w w':=by
 have hu62:=Tryd.underlying62;have HB:=zh (Below.refl w.heap.size w);have H : (if a0_0.toList=a1_0.toList then (if (a0_1 != a1_1)=true then (some false) else (some true)) else (some false))=some r:=h;clear h
 by_cases c3 : a0_0.toList=a1_0.toList
 ·
  rw [if_pos c3] at H
  have c3b0 : (a0_0.toList == a1_0.toList)=true:=ya.mpr c3;have c3b1 : (a0_0.toList != a1_0.toList)=false:=zX.mpr c3;clear c3
  by_cases c4 : (a0_1 != a1_1)=true
  ·
   rw [if_pos c4] at H
   have c4b0 : (a0_1 != a1_1)=true:=c4;(try (have c4b1 : decide (a0_1=a1_1)=false:=by simpa using c4));(try (have c4b2 : (a0_1 == a1_1)=false:=by simpa using c4));(try (have c4b3 : ¬ (a0_1=a1_1):=by simpa using c4));clear c4;obtain rfl:=zU H
   go_enter Tryd.func53,Tryd.ntmps53
   go_wp2_with (first|((with_reducible refine zK (N:=2) rfl ?_);refine zI ?hg (N:=2) ?hd (cs:=#[.string a0_0,.bool a0_1]) (t:=62) ?hr ?_;(case hd => rfl);(case hg => rfl);(case hr => first|(go_simp;done)|(go_simp;rfl));intro gb173 hg w5 hbox hb;have BK173:=zh (hbox);have GW173:=zh ((by rw [hg];exact (zB (by repeat (with_reducible first|exact HB.out|apply za|apply zb|apply zc))) : w.heap.size≤gb173));have GE173:=zh ((by rw [hg];exact (zB (by repeat (with_reducible first|exact HB.out|apply za|apply zb|apply zc))) : w.heap.size≤gb173));replace HB:=zh (zC (by repeat (with_reducible first|exact HB.out|apply za|apply zb|apply zc)) hb);clear hb hbox hg)|((with_reducible refine zK (N:=3) rfl ?_);refine zI ?hg (N:=3) ?hd (cs:=#[.string a1_0,.bool a1_1]) (t:=62) ?hr ?_;(case hd => rfl);(case hg => rfl);(case hr => first|(go_simp;done)|(go_simp;rfl));intro gb174 hg w6 hbox hb;have BK174:=zh (hbox);have GW174:=zh ((by rw [hg];exact (zB (by repeat (with_reducible first|exact HB.out|apply za|apply zb|apply zc|refine zd ?_ GE173.out))) : w.heap.size≤gb174));have GE174:=zh ((by rw [hg];exact (zB (by repeat (with_reducible first|exact HB.out|apply za|apply zb|apply zc|refine zd ?_ GE173.out))) : w.heap.size≤gb174));replace HB:=zh (zC (by repeat (with_reducible first|exact HB.out|apply za|apply zb|apply zc|refine zd ?_ GE173.out)) hb);have NB173_174:=zh ((by rw [hg];exact yc (yi (g:=gb173) (o:=.cells #[.string a0_0,.bool a0_1] 62 (0,0)) (by (with_reducible repeat (first|refine ze ?_ _|refine zf ?_|refine zg ?_ _));exact BK173.out)) : gb173≠gb174));have NB174_173:=zh ((by rw [hg];exact yd (yi (g:=gb173) (o:=.cells #[.string a0_0,.bool a0_1] 62 (0,0)) (by (with_reducible repeat (first|refine ze ?_ _|refine zf ?_|refine zg ?_ _));exact BK173.out)) : gb174≠gb173));replace BK173:=zh (zD (g:=gb173) (o:=.cells #[.string a0_0,.bool a0_1] 62 (0,0)) (by (with_reducible repeat (first|refine ze ?_ _|refine zf ?_|refine zg ?_ _));exact BK173.out) hb);clear hb hbox hg;have hnb7:=NB173_174.out;have hnc7:=NB174_173.out;have hcz8_0 : w6.cell? ⟨gb173,0,none⟩=some (.string a0_0):=(zz BK173.out 0).trans rfl;have hcz8_1 : w6.cell? ⟨gb173,1,none⟩=some (.bool a0_1):=(zz BK173.out 1).trans rfl;have hfz8_0:=zA BK173.out 0;have hfz8_1:=zA BK173.out 1;have hcz9_0 : w6.cell? ⟨gb174,0,none⟩=some (.string a1_0):=(zz BK174.out 0).trans rfl;have hcz9_1 : w6.cell? ⟨gb174,1,none⟩=some (.bool a1_1):=(zz BK174.out 1).trans rfl;have hfz9_0:=zA BK174.out 0;have hfz9_1:=zA BK174.out 1))
   go_ret
   exact ⟨by first|rfl|(simp [yt,yu] <;> rfl)|(simp [*,yt,yu] <;> rfl),by repeat (with_reducible first|exact HB.out|apply za|apply zb|apply zc|refine zd ?_ GE173.out|refine zd ?_ GE174.out)⟩
  rw [if_neg c4] at H;have c4b0 : (a0_1 != a1_1)=false:=by simpa using c4
  (try (have c4b1 : decide (a0_1=a1_1)=true:=by simpa using c4));(try (have c4b2 : (a0_1 == a1_1)=true:=by simpa using c4));clear c4;obtain rfl:=zU H
  go_enter Tryd.func53,Tryd.ntmps53
  go_wp2_with (first|((with_reducible refine zK (N:=2) rfl ?_);refine zI ?hg (N:=2) ?hd (cs:=#[.string a0_0,.bool a0_1]) (t:=62) ?hr ?_;(case hd => rfl);(case hg => rfl);(case hr => first|(go_simp;done)|(go_simp;rfl));intro gb173 hg w10 hbox hb;have BK173:=zh (hbox);have GW173:=zh ((by rw [hg];exact (zB (by repeat (with_reducible first|exact HB.out|apply za|apply zb|apply zc))) : w.heap.size≤gb173));have GE173:=zh ((by rw [hg];exact (zB (by repeat (with_reducible first|exact HB.out|apply za|apply zb|apply zc))) : w.heap.size≤gb173));replace HB:=zh (zC (by repeat (with_reducible first|exact HB.out|apply za|apply zb|apply zc)) hb);clear hb hbox hg)|((with_reducible refine zK (N:=3) rfl ?_);refine zI ?hg (N:=3) ?hd (cs:=#[.string a1_0,.bool a1_1]) (t:=62) ?hr ?_;(case hd => rfl);(case hg => rfl);(case hr => first|(go_simp;done)|(go_simp;rfl));intro gb174 hg w11 hbox hb;have BK174:=zh (hbox);have GW174:=zh ((by rw [hg];exact (zB (by repeat (with_reducible first|exact HB.out|apply za|apply zb|apply zc|refine zd ?_ GE173.out))) : w.heap.size≤gb174));have GE174:=zh ((by rw [hg];exact (zB (by repeat (with_reducible first|exact HB.out|apply za|apply zb|apply zc|refine zd ?_ GE173.out))) : w.heap.size≤gb174));replace HB:=zh (zC (by repeat (with_reducible first|exact HB.out|apply za|apply zb|apply zc|refine zd ?_ GE173.out)) hb);have NB173_174:=zh ((by rw [hg];exact yc (yi (g:=gb173) (o:=.cells #[.string a0_0,.bool a0_1] 62 (0,0)) (by (with_reducible repeat (first|refine ze ?_ _|refine zf ?_|refine zg ?_ _));exact BK173.out)) : gb173≠gb174));have NB174_173:=zh ((by rw [hg];exact yd (yi (g:=gb173) (o:=.cells #[.string a0_0,.bool a0_1] 62 (0,0)) (by (with_reducible repeat (first|refine ze ?_ _|refine zf ?_|refine zg ?_ _));exact BK173.out)) : gb174≠gb173));replace BK173:=zh (zD (g:=gb173) (o:=.cells #[.string a0_0,.bool a0_1] 62 (0,0)) (by (with_reducible repeat (first|refine ze ?_ _|refine zf ?_|refine zg ?_ _));exact BK173.out) hb);clear hb hbox hg;have hnb12:=NB173_174.out;have hnc12:=NB174_173.out;have hcz13_0 : w11.cell? ⟨gb173,0,none⟩=some (.string a0_0):=(zz BK173.out 0).trans rfl;have hcz13_1 : w11.cell? ⟨gb173,1,none⟩=some (.bool a0_1):=(zz BK173.out 1).trans rfl;have hfz13_0:=zA BK173.out 0;have hfz13_1:=zA BK173.out 1;have hcz14_0 : w11.cell? ⟨gb174,0,none⟩=some (.string a1_0):=(zz BK174.out 0).trans rfl;have hcz14_1 : w11.cell? ⟨gb174,1,none⟩=some (.bool a1_1):=(zz BK174.out 1).trans rfl;have hfz14_0:=zA BK174.out 0;have hfz14_1:=zA BK174.out 1))
  go_ret
  exact ⟨by first|rfl|(simp [yt,yu] <;> rfl)|(simp [*,yt,yu] <;> rfl),by repeat (with_reducible first|exact HB.out|apply za|apply zb|apply zc|refine zd ?_ GE173.out|refine zd ?_ GE174.out)⟩
 rw [if_neg c3] at H;have c3b0 : (a0_0.toList == a1_0.toList)=false:=zY.mpr c3;have c3b1 : (a0_0.toList != a1_0.toList)=true:=zZ.mpr c3;obtain rfl:=zU H
 go_enter Tryd.func53,Tryd.ntmps53
 go_wp2_with (first|((with_reducible refine zK (N:=2) rfl ?_);refine zI ?hg (N:=2) ?hd (cs:=#[.string a0_0,.bool a0_1]) (t:=62) ?hr ?_;(case hd => rfl);(case hg => rfl);(case hr => first|(go_simp;done)|(go_simp;rfl));intro gb173 hg w15 hbox hb;have BK173:=zh (hbox);have GW173:=zh ((by rw [hg];exact (zB (by repeat (with_reducible first|exact HB.out|apply za|apply zb|apply zc))) : w.heap.size≤gb173));have GE173:=zh ((by rw [hg];exact (zB (by repeat (with_reducible first|exact HB.out|apply za|apply zb|apply zc))) : w.heap.size≤gb173));replace HB:=zh (zC (by repeat (with_reducible first|exact HB.out|apply za|apply zb|apply zc)) hb);clear hb hbox hg)|((with_reducible refine zK (N:=3) rfl ?_);refine zI ?hg (N:=3) ?hd (cs:=#[.string a1_0,.bool a1_1]) (t:=62) ?hr ?_;(case hd => rfl);(case hg => rfl);(case hr => first|(go_simp;done)|(go_simp;rfl));intro gb174 hg w16 hbox hb;have BK174:=zh (hbox);have GW174:=zh ((by rw [hg];exact (zB (by repeat (with_reducible first|exact HB.out|apply za|apply zb|apply zc|refine zd ?_ GE173.out))) : w.heap.size≤gb174));have GE174:=zh ((by rw [hg];exact (zB (by repeat (with_reducible first|exact HB.out|apply za|apply zb|apply zc|refine zd ?_ GE173.out))) : w.heap.size≤gb174));replace HB:=zh (zC (by repeat (with_reducible first|exact HB.out|apply za|apply zb|apply zc|refine zd ?_ GE173.out)) hb);have NB173_174:=zh ((by rw [hg];exact yc (yi (g:=gb173) (o:=.cells #[.string a0_0,.bool a0_1] 62 (0,0)) (by (with_reducible repeat (first|refine ze ?_ _|refine zf ?_|refine zg ?_ _));exact BK173.out)) : gb173≠gb174));have NB174_173:=zh ((by rw [hg];exact yd (yi (g:=gb173) (o:=.cells #[.string a0_0,.bool a0_1] 62 (0,0)) (by (with_reducible repeat (first|refine ze ?_ _|refine zf ?_|refine zg ?_ _));exact BK173.out)) : gb174≠gb173));replace BK173:=zh (zD (g:=gb173) (o:=.cells #[.string a0_0,.bool a0_1] 62 (0,0)) (by (with_reducible repeat (first|refine ze ?_ _|refine zf ?_|refine zg ?_ _));exact BK173.out) hb);clear hb hbox hg;have hnb17:=NB173_174.out;have hnc17:=NB174_173.out;have hcz18_0 : w16.cell? ⟨gb173,0,none⟩=some (.string a0_0):=(zz BK173.out 0).trans rfl;have hcz18_1 : w16.cell? ⟨gb173,1,none⟩=some (.bool a0_1):=(zz BK173.out 1).trans rfl;have hfz18_0:=zA BK173.out 0;have hfz18_1:=zA BK173.out 1;have hcz19_0 : w16.cell? ⟨gb174,0,none⟩=some (.string a1_0):=(zz BK174.out 0).trans rfl;have hcz19_1 : w16.cell? ⟨gb174,1,none⟩=some (.bool a1_1):=(zz BK174.out 1).trans rfl;have hfz19_0:=zA BK174.out 0;have hfz19_1:=zA BK174.out 1))
 go_ret
 exact ⟨by first|rfl|(simp [yt,yu] <;> rfl)|(simp [*,yt,yu] <;> rfl),by repeat (with_reducible first|exact HB.out|apply za|apply zb|apply zc|refine zd ?_ GE173.out|refine zd ?_ GE174.out)⟩


def laws_eqPartS.l0 : Nat→List (S62)→List (S62)→Int→Option (Bool)
 | 0,_,_,_ => none
 | k + 1,x0,x1,x5 => if x5<(x0.length : Int) then (if 0≤x5 then (if x5<(x1.length : Int) then ((laws_eqPart.f ((rd_T62 x0 x5).f0) ((rd_T62 x0 x5).f1) ((rd_T62 x1 x5).f0) ((rd_T62 x1 x5).f1)).bind fun t177 => (if t177=true then (laws_eqPartS.l0 k x0 x1 (wrap64 (x5 + 1))) else (some false))) else (none)) else (none)) else (some true)
def laws_eqPartS.f (k : Nat) (l0 : List (S62)) (l1 : List (S62)) : Option (Bool):=if (l0.length : Int)=(l1.length : Int) then (laws_eqPartS.l0 k l0 l1 0) else (some false)
theorem laws_eqPartS.mono_l : ∀ k,(∀ y0 y1 y2,LeO (laws_eqPartS.l0 k y0 y1 y2) (laws_eqPartS.l0 (k + 1) y0 y1 y2))
 | 0 => fun _ _ _ r h => by simp [laws_eqPartS.l0] at h
 | k + 1 => by
  have ih0:=laws_eqPartS.mono_l k;intro y0 y1 y2;unfold laws_eqPartS.l0
  repeat' first|(with_reducible first|exact ih0 _ _ _|exact zQ _|exact zN _|refine zP ?_ ?_|refine zO ?_ (fun _ => ?_))|refine zP ?_ ?_|refine zO ?_ (fun _ => ?_)
theorem laws_eqPartS.mono : ∀ a0 a1 k,LeO (laws_eqPartS.f k a0 a1) (laws_eqPartS.f (k + 1) a0 a1):=by
 intro a0 a1 k;have ih0:=laws_eqPartS.mono_l k;unfold laws_eqPartS.f
 repeat' first|(with_reducible first|exact ih0 _ _ _|exact zQ _|exact zN _|refine zP ?_ ?_|refine zO ?_ (fun _ => ?_))|refine zP ?_ ?_|refine zO ?_ (fun _ => ?_)
def laws_eqPartS.T6 : Bool×List (List Nat×List Nat):=(true,[([],[]),([],[]),([0,1],[0,1]),([2],[2]),([],[]),([],[]),([4,5],[4,5]),([6],[6]),([3,7],[3,7]),([8],[8])])
def laws_eqPartS.B6 : List Nat:=[0,0,3,7,0,0,48,112,255,511]
theorem laws_eqPartS.tab6 : rtab .any (opsOf Tryd.f37 6)=laws_eqPartS.T6:=by kernel_rfl
theorem laws_eqPartS.bits6 : waitsOk laws_eqPartS.T6.2 laws_eqPartS.B6=true:=by kernel_rfl
set_option maxHeartbeats 8000000 in
set_option maxRecDepth 100000 in
theorem laws_eqPartS.calls (k : Nat) (A0 : Option Addr) (c0 : Nat) (l0 : List (S62)) (A1 : Option Addr) (c1 : Nat) (l1 : List (S62)) (r : Bool) (w : World) (hr0 : Kd.C k62 w A0 l0.length l0) (hc0 : l0.length≤c0) (hr1 : Kd.C k62 w A1 l1.length l1) (hc1 : l1.length≤c1) (h : laws_eqPartS.f k l0 l1=some r) :
  Calls Tryd.prog 37 #[.slice A0 l0.length c0,.slice A1 l1.length c1] w fun e w' => e = .returned (.bool r)∧Below w.heap.size w w':=by
 have hu62:=Tryd.underlying62;have HR0:=zh hr0;have HC0:=zh hc0;clear hr0 hc0;have HR1:=zh hr1;have HC1:=zh hc1;clear hr1 hc1;have HB:=zh (Below.refl w.heap.size w);have H : (if (l0.length : Int)=(l1.length : Int) then (laws_eqPartS.l0 k l0 l1 0) else (some false))=some r:=h;clear h
 by_cases c3 : (l0.length : Int)=(l1.length : Int)
 ·
  rw [if_pos c3] at H
  have c3b0 : ((l0.length : Int) == (l1.length : Int))=true:=ya.mpr c3;have c3b1 : ((l0.length : Int) != (l1.length : Int))=false:=zX.mpr c3;have c3b2 : (l0.length == l1.length)=true:=by first|simpa using c3|(simp at c3 ⊢;omega)
  clear c3;have H':=zh H;clear H
  go_enter Tryd.func37,Tryd.ntmps37
  go_wp2
  go_loopg [5] k (fun kq v5 w' => ∃ (x5_1 : Int),v5 = .int .i64 x5_1∧Aside0 (laws_eqPartS.l0 kq l0 l1 x5_1=some r)∧Aside0 (kq≤k)∧Aside0 (Below w.heap.size w w'))
  case atStart => exact ⟨(0),(by first|rfl|(simp;done)|(simp [*];done)),H',⟨ye _⟩,⟨by repeat (with_reducible first|exact HB.out|apply za|apply zb|apply zc)⟩⟩
  case round =>
   clear H'
   try clear c1
   try clear p2
   try clear c3
   try clear c3b0
   try clear c3b1
   try clear c3b2
   obtain ⟨x5_1,rfl,HA,HK1,HB⟩:=hrel
   cases gk with
   | zero => exact absurd HA.out (by simp [laws_eqPartS.l0])
   | succ k1 =>
    have H:=HA.out;clear HA;simp only [laws_eqPartS.l0] at H
    by_cases c4 : x5_1<(l0.length : Int)
    ·
     rw [if_pos c4] at H
     have c4b0 : decide (x5_1<(l0.length : Int))=true:=decide_eq_true c4;clear c4
     by_cases c5 : 0≤x5_1
     ·
      rw [if_pos c5] at H
      have c5b0 : decide (0≤x5_1)=true:=decide_eq_true c5;clear c5
      by_cases c6 : x5_1<(l1.length : Int)
      ·
       rw [if_pos c6] at H
       have c6b0 : decide (x5_1<(l1.length : Int))=true:=decide_eq_true c6;clear c6;replace H:=zT.mp H;obtain ⟨t177,A70,H⟩:=H;replace H : (if t177=true then (laws_eqPartS.l0 k1 l0 l1 (wrap64 (x5_1 + 1))) else (some false))=some r:=H;have A7:=zh A70;clear A70
       by_cases c8 : t177=true
       ·
        subst c8
        have H1 : (laws_eqPartS.l0 k1 l0 l1 (wrap64 (x5_1 + 1)))=some r:=by rw [if_pos rfl] at H;exact H
        clear H;have H:=H1;clear H1;have H':=zh H;clear H
        try go_wp2
        replace HB:=zh (zc HB.out);have p175 : 0≤(x5_1 : Int):=zy (by first|(with_reducible assumption)|assumption);have q175 : x5_1<(l0.length : Int):=zy (by first|(with_reducible assumption)|assumption);obtain ⟨ad175,e175,hx175_0,hx175_1⟩:=at_T62 HR0.out x5_1 p175 q175;have hw175_1:=hx175_1;have hw175_0:=hx175_0
        cases e175
        replace hx175_0:=(HB.out.cell (zl w _ hx175_0)).trans hx175_0;replace hx175_1:=(HB.out.cell (zl w _ hx175_1)).trans hx175_1;replace p175:=eq_true p175;replace q175:=eq_true q175;have p176 : 0≤(x5_1 : Int):=zy (by first|(with_reducible assumption)|assumption);have q176 : x5_1<(l1.length : Int):=zy (by first|(with_reducible assumption)|assumption);obtain ⟨ad176,e176,hx176_0,hx176_1⟩:=at_T62 HR1.out x5_1 p176 q176;have hw176_1:=hx176_1;have hw176_0:=hx176_0
        cases e176
        replace hx176_0:=(HB.out.cell (zl w _ hx176_0)).trans hx176_0;replace hx176_1:=(HB.out.cell (zl w _ hx176_1)).trans hx176_1;replace p176:=eq_true p176;replace q176:=eq_true q176;refine start_ (n:=10) (S:=fun w' => w'.cell? (ad175.add ((x5_1).toNat * 2))=some (.string ((rd_T62 l0 x5_1).f0))∧w'.cell? ⟨(ad175.add ((x5_1).toNat * 2)).block,(ad175.add ((x5_1).toNat * 2)).off + 1,none⟩=some (.bool ((rd_T62 l0 x5_1).f1))∧w'.cell? (ad176.add ((x5_1).toNat * 2))=some (.string ((rd_T62 l1 x5_1).f0))∧w'.cell? ⟨(ad176.add ((x5_1).toNat * 2)).block,(ad176.add ((x5_1).toNat * 2)).off + 1,none⟩=some (.bool ((rd_T62 l1 x5_1).f1))) (ds:=[]) (bm_ 0 10) (by kernel_rfl) rfl rfl ⟨((HB.out.cell (zl w _ hw175_0)).trans hw175_0),((HB.out.cell (zl w _ hw175_1)).trans hw175_1),((HB.out.cell (zl w _ hw176_0)).trans hw176_0),((HB.out.cell (zl w _ hw176_1)).trans hw176_1)⟩ (fun hHeld => ?_);refine with_tabW laws_eqPartS.tab6 laws_eqPartS.bits6 (fun HT_ HW_ => ?_);generalize wr.drew=w9 at HB hx175_0 hx175_1 hx176_0 hx176_1 hHeld ⊢;refine pure_ (i:=0) (N:=some 17) (v:=?_) (a':=?_) (bm_ 1 10) rfl rfl (any_of HT_.out (by kernel_rfl)) (fun _ _ _ h => h) (Or.inl ⟨by rfl,?_⟩) ?_ ?_;rotate_left
        ·
         intro w'
         go_simp
         with_reducible rfl
        rotate_left
        ·
         simp only [Act.put,zi,zj,zk,zG,zH]
         rfl
        refine pure_ (i:=1) (N:=some 18) (v:=?_) (a':=?_) (bm_ 2 10) rfl rfl (any_of HT_.out (by kernel_rfl)) (fun _ _ _ h => h) (Or.inl ⟨by rfl,?_⟩) ?_ ?_;rotate_left
        ·
         intro w'
         go_simp
         with_reducible rfl
        rotate_left
        ·
         simp only [Act.put,zi,zj,zk,zG,zH]
         rfl
        refine pure_ (i:=2) (N:=some 19) (v:=?_) (a':=?_) (bm_ 3 10) rfl rfl (any_of HT_.out (by kernel_rfl)) (fun _ _ _ h => h) (Or.inl ⟨by rfl,?_⟩) ?_ ?_;rotate_left
        ·
         intro w'
         go_simp
         with_reducible rfl
        rotate_left
        ·
         simp only [Act.put,zi,zj,zk,zG,zH]
         rfl
        refine pure_ (i:=4) (N:=some 21) (v:=?_) (a':=?_) #[true,true,true,false,true,false,false,false,false,false] rfl rfl (any_of HT_.out (by kernel_rfl)) (fun _ _ _ h => h) (Or.inl ⟨by rfl,?_⟩) ?_ ?_;rotate_left
        ·
         intro w'
         go_simp
         with_reducible rfl
        rotate_left
        ·
         simp only [Act.put,zi,zj,zk,zG,zH]
         rfl
        refine pure_ (i:=5) (N:=some 22) (v:=?_) (a':=?_) #[true,true,true,false,true,true,false,false,false,false] rfl rfl (any_of HT_.out (by kernel_rfl)) (fun _ _ _ h => h) (Or.inl ⟨by rfl,?_⟩) ?_ ?_;rotate_left
        ·
         intro w'
         go_simp
         with_reducible rfl
        rotate_left
        ·
         simp only [Act.put,zi,zj,zk,zG,zH]
         rfl
        refine pure_ (i:=6) (N:=some 23) (v:=?_) (a':=?_) #[true,true,true,false,true,true,true,false,false,false] rfl rfl (any_of HT_.out (by kernel_rfl)) (fun _ _ _ h => h) (Or.inl ⟨by rfl,?_⟩) ?_ ?_;rotate_left
        ·
         intro w'
         go_simp
         with_reducible rfl
        rotate_left
        ·
         simp only [Act.put,zi,zj,zk,zG,zH]
         rfl
        refine take_ (i:=3) (N:=some 20) (v:=?_) (a':=?_) (bm_ 7 10) rfl rfl (yo HT_.out HW_.out (by kernel_rfl)) (fun _ _ _ h => h) (Or.inl ⟨by rfl,?_⟩) hHeld ?_ ?_;rotate_left
        ·
         rintro w' ⟨s0,s1,s2,s3⟩
         go_simp
         with_reducible rfl
        rotate_left
        ·
         simp only [Act.put,zi,zj,zk,zG,zH]
         rfl
        refine take_ (i:=7) (N:=some 24) (v:=?_) (a':=?_) (bm_ 8 10) rfl rfl (yo HT_.out HW_.out (by kernel_rfl)) (fun _ _ _ h => h) (Or.inl ⟨by rfl,?_⟩) hHeld ?_ ?_;rotate_left
        ·
         rintro w' ⟨s0,s1,s2,s3⟩
         go_simp
         with_reducible rfl
        rotate_left
        ·
         simp only [Act.put,zi,zj,zk,zG,zH]
         rfl
        refine one_ (i:=8) (N:=some 25) (bm_ 9 10) rfl rfl (one_of HT_.out (by kernel_rfl)) (by decide) (fun K hK => ?_);refine goes_ Tryd.func53 (by kernel_rfl) rfl #[.agg #[.string ((rd_T62 l0 x5_1).f0),.bool ((rd_T62 l0 x5_1).f1)],.agg #[.string ((rd_T62 l1 x5_1).f0),.bool ((rd_T62 l1 x5_1).f1)]] (by rfl) rfl rfl (by (try simp only [zt,zu,zv]);first|done|rfl|(simp only [zw,zx];rfl)|(simp only [yr,ys,zV,zW];rfl)) ?_
        with_reducible refine (laws_eqPart.calls  ((rd_T62 l0 x5_1).f0) ((rd_T62 l0 x5_1).f1) ((rd_T62 l1 x5_1).f0) ((rd_T62 l1 x5_1).f1) true _ A7.out).mono ?_
        rintro e w10 ⟨rfl,hb⟩;refine ⟨_,rfl,?_⟩;replace HB:=zh (zC (by repeat (with_reducible first|exact HB.out|apply za|apply zb|apply zc)) hb);(try clear hb);(try clear hb2);(try clear hk);(try clear hi);refine hK.out _ _ ⟨((HB.out.cell (zl w _ hw175_0)).trans hw175_0),((HB.out.cell (zl w _ hw175_1)).trans hw175_1),((HB.out.cell (zl w _ hw176_0)).trans hw176_0),((HB.out.cell (zl w _ hw176_1)).trans hw176_1)⟩ (fun hHeld => ?_);clear hK K;refine norm_ (a':=?_) ?_ ?_;rotate_left
        ·
         show Act.put _ (some 25) _=_
         simp only [Act.put,zi,zj,zk,zG,zH]
         rfl
        refine pure_ (i:=9) (N:=some 26) (v:=?_) (a':=?_) (bm_ 10 10) rfl rfl (any_of HT_.out (by kernel_rfl)) (fun _ _ _ h => h) (Or.inl ⟨by rfl,?_⟩) ?_ ?_;rotate_left
        ·
         intro w'
         go_simp
         with_reducible rfl
        rotate_left
        ·
         simp only [Act.put,zi,zj,zk,zG,zH]
         rfl
        refine done_ (done_of HT_.out (by kernel_rfl)) ?_
        try go_wp2
        go_roundg k1
        case measure => have:=HK1.out;omega
        case rel => exact ⟨(wrap64 (x5_1 + 1)),(by first|rfl|(simp;done)|(simp [*];done)),H',⟨by have:=HK1.out;omega⟩,⟨by repeat (with_reducible first|exact HB.out|apply za|apply zb|apply zc)⟩⟩
       replace c8:=yb.mpr c8;subst c8;have H1 : (some false)=some r:=by rw [if_neg (show ¬ (false=true) by decide)] at H;exact H
       clear H;have H:=H1;clear H1;obtain rfl:=zU H
       try go_wp2
       replace HB:=zh (zc HB.out);have p175 : 0≤(x5_1 : Int):=zy (by first|(with_reducible assumption)|assumption);have q175 : x5_1<(l0.length : Int):=zy (by first|(with_reducible assumption)|assumption);obtain ⟨ad175,e175,hx175_0,hx175_1⟩:=at_T62 HR0.out x5_1 p175 q175;have hw175_1:=hx175_1;have hw175_0:=hx175_0
       cases e175
       replace hx175_0:=(HB.out.cell (zl w _ hx175_0)).trans hx175_0;replace hx175_1:=(HB.out.cell (zl w _ hx175_1)).trans hx175_1;replace p175:=eq_true p175;replace q175:=eq_true q175;have p176 : 0≤(x5_1 : Int):=zy (by first|(with_reducible assumption)|assumption);have q176 : x5_1<(l1.length : Int):=zy (by first|(with_reducible assumption)|assumption);obtain ⟨ad176,e176,hx176_0,hx176_1⟩:=at_T62 HR1.out x5_1 p176 q176;have hw176_1:=hx176_1;have hw176_0:=hx176_0
       cases e176
       replace hx176_0:=(HB.out.cell (zl w _ hx176_0)).trans hx176_0;replace hx176_1:=(HB.out.cell (zl w _ hx176_1)).trans hx176_1;replace p176:=eq_true p176;replace q176:=eq_true q176;refine start_ (n:=10) (S:=fun w' => w'.cell? (ad175.add ((x5_1).toNat * 2))=some (.string ((rd_T62 l0 x5_1).f0))∧w'.cell? ⟨(ad175.add ((x5_1).toNat * 2)).block,(ad175.add ((x5_1).toNat * 2)).off + 1,none⟩=some (.bool ((rd_T62 l0 x5_1).f1))∧w'.cell? (ad176.add ((x5_1).toNat * 2))=some (.string ((rd_T62 l1 x5_1).f0))∧w'.cell? ⟨(ad176.add ((x5_1).toNat * 2)).block,(ad176.add ((x5_1).toNat * 2)).off + 1,none⟩=some (.bool ((rd_T62 l1 x5_1).f1))) (ds:=[]) (bm_ 0 10) (by kernel_rfl) rfl rfl ⟨((HB.out.cell (zl w _ hw175_0)).trans hw175_0),((HB.out.cell (zl w _ hw175_1)).trans hw175_1),((HB.out.cell (zl w _ hw176_0)).trans hw176_0),((HB.out.cell (zl w _ hw176_1)).trans hw176_1)⟩ (fun hHeld => ?_);refine with_tabW laws_eqPartS.tab6 laws_eqPartS.bits6 (fun HT_ HW_ => ?_);generalize wr.drew=w11 at HB hx175_0 hx175_1 hx176_0 hx176_1 hHeld ⊢;refine pure_ (i:=0) (N:=some 17) (v:=?_) (a':=?_) (bm_ 1 10) rfl rfl (any_of HT_.out (by kernel_rfl)) (fun _ _ _ h => h) (Or.inl ⟨by rfl,?_⟩) ?_ ?_;rotate_left
       ·
        intro w'
        go_simp
        with_reducible rfl
       rotate_left
       ·
        simp only [Act.put,zi,zj,zk,zG,zH]
        rfl
       refine pure_ (i:=1) (N:=some 18) (v:=?_) (a':=?_) (bm_ 2 10) rfl rfl (any_of HT_.out (by kernel_rfl)) (fun _ _ _ h => h) (Or.inl ⟨by rfl,?_⟩) ?_ ?_;rotate_left
       ·
        intro w'
        go_simp
        with_reducible rfl
       rotate_left
       ·
        simp only [Act.put,zi,zj,zk,zG,zH]
        rfl
       refine pure_ (i:=2) (N:=some 19) (v:=?_) (a':=?_) (bm_ 3 10) rfl rfl (any_of HT_.out (by kernel_rfl)) (fun _ _ _ h => h) (Or.inl ⟨by rfl,?_⟩) ?_ ?_;rotate_left
       ·
        intro w'
        go_simp
        with_reducible rfl
       rotate_left
       ·
        simp only [Act.put,zi,zj,zk,zG,zH]
        rfl
       refine pure_ (i:=4) (N:=some 21) (v:=?_) (a':=?_) #[true,true,true,false,true,false,false,false,false,false] rfl rfl (any_of HT_.out (by kernel_rfl)) (fun _ _ _ h => h) (Or.inl ⟨by rfl,?_⟩) ?_ ?_;rotate_left
       ·
        intro w'
        go_simp
        with_reducible rfl
       rotate_left
       ·
        simp only [Act.put,zi,zj,zk,zG,zH]
        rfl
       refine pure_ (i:=5) (N:=some 22) (v:=?_) (a':=?_) #[true,true,true,false,true,true,false,false,false,false] rfl rfl (any_of HT_.out (by kernel_rfl)) (fun _ _ _ h => h) (Or.inl ⟨by rfl,?_⟩) ?_ ?_;rotate_left
       ·
        intro w'
        go_simp
        with_reducible rfl
       rotate_left
       ·
        simp only [Act.put,zi,zj,zk,zG,zH]
        rfl
       refine pure_ (i:=6) (N:=some 23) (v:=?_) (a':=?_) #[true,true,true,false,true,true,true,false,false,false] rfl rfl (any_of HT_.out (by kernel_rfl)) (fun _ _ _ h => h) (Or.inl ⟨by rfl,?_⟩) ?_ ?_;rotate_left
       ·
        intro w'
        go_simp
        with_reducible rfl
       rotate_left
       ·
        simp only [Act.put,zi,zj,zk,zG,zH]
        rfl
       refine take_ (i:=3) (N:=some 20) (v:=?_) (a':=?_) (bm_ 7 10) rfl rfl (yo HT_.out HW_.out (by kernel_rfl)) (fun _ _ _ h => h) (Or.inl ⟨by rfl,?_⟩) hHeld ?_ ?_;rotate_left
       ·
        rintro w' ⟨s0,s1,s2,s3⟩
        go_simp
        with_reducible rfl
       rotate_left
       ·
        simp only [Act.put,zi,zj,zk,zG,zH]
        rfl
       refine take_ (i:=7) (N:=some 24) (v:=?_) (a':=?_) (bm_ 8 10) rfl rfl (yo HT_.out HW_.out (by kernel_rfl)) (fun _ _ _ h => h) (Or.inl ⟨by rfl,?_⟩) hHeld ?_ ?_;rotate_left
       ·
        rintro w' ⟨s0,s1,s2,s3⟩
        go_simp
        with_reducible rfl
       rotate_left
       ·
        simp only [Act.put,zi,zj,zk,zG,zH]
        rfl
       refine one_ (i:=8) (N:=some 25) (bm_ 9 10) rfl rfl (one_of HT_.out (by kernel_rfl)) (by decide) (fun K hK => ?_);refine goes_ Tryd.func53 (by kernel_rfl) rfl #[.agg #[.string ((rd_T62 l0 x5_1).f0),.bool ((rd_T62 l0 x5_1).f1)],.agg #[.string ((rd_T62 l1 x5_1).f0),.bool ((rd_T62 l1 x5_1).f1)]] (by rfl) rfl rfl (by (try simp only [zt,zu,zv]);first|done|rfl|(simp only [zw,zx];rfl)|(simp only [yr,ys,zV,zW];rfl)) ?_
       with_reducible refine (laws_eqPart.calls  ((rd_T62 l0 x5_1).f0) ((rd_T62 l0 x5_1).f1) ((rd_T62 l1 x5_1).f0) ((rd_T62 l1 x5_1).f1) false _ A7.out).mono ?_
       rintro e w12 ⟨rfl,hb⟩;refine ⟨_,rfl,?_⟩;replace HB:=zh (zC (by repeat (with_reducible first|exact HB.out|apply za|apply zb|apply zc)) hb);(try clear hb);(try clear hb2);(try clear hk);(try clear hi);refine hK.out _ _ ⟨((HB.out.cell (zl w _ hw175_0)).trans hw175_0),((HB.out.cell (zl w _ hw175_1)).trans hw175_1),((HB.out.cell (zl w _ hw176_0)).trans hw176_0),((HB.out.cell (zl w _ hw176_1)).trans hw176_1)⟩ (fun hHeld => ?_);clear hK K;refine norm_ (a':=?_) ?_ ?_;rotate_left
       ·
        show Act.put _ (some 25) _=_
        simp only [Act.put,zi,zj,zk,zG,zH]
        rfl
       refine pure_ (i:=9) (N:=some 26) (v:=?_) (a':=?_) (bm_ 10 10) rfl rfl (any_of HT_.out (by kernel_rfl)) (fun _ _ _ h => h) (Or.inl ⟨by rfl,?_⟩) ?_ ?_;rotate_left
       ·
        intro w'
        go_simp
        with_reducible rfl
       rotate_left
       ·
        simp only [Act.put,zi,zj,zk,zG,zH]
        rfl
       refine done_ (done_of HT_.out (by kernel_rfl)) ?_
       try go_wp2
       go_ret
       exact ⟨by first|rfl|(simp [yt,yu] <;> rfl)|(simp [*,yt,yu] <;> rfl),by repeat (with_reducible first|exact HB.out|apply za|apply zb|apply zc)⟩
      rw [if_neg c6] at H;exact absurd H (by simp)
     rw [if_neg c5] at H;exact absurd H (by simp)
    rw [if_neg c4] at H;have c4b0 : decide (x5_1<(l0.length : Int))=false:=decide_eq_false c4;clear c4;obtain rfl:=zU H
    go_wp2
    go_ret
    exact ⟨by first|rfl|(simp [yt,yu] <;> rfl)|(simp [*,yt,yu] <;> rfl),by repeat (with_reducible first|exact HB.out|apply za|apply zb|apply zc)⟩
 rw [if_neg c3] at H;have c3b0 : ((l0.length : Int) == (l1.length : Int))=false:=zY.mpr c3;have c3b1 : ((l0.length : Int) != (l1.length : Int))=true:=zZ.mpr c3;have c3b2 : (l0.length == l1.length)=false:=by first|simpa using c3|(simp at c3 ⊢;omega)
 obtain rfl:=zU H
 go_enter Tryd.func37,Tryd.ntmps37
 go_wp2
 go_ret
 exact ⟨by first|rfl|(simp [yt,yu] <;> rfl)|(simp [*,yt,yu] <;> rfl),by repeat (with_reducible first|exact HB.out|apply za|apply zb|apply zc)⟩


def laws_eqDef.f (k : Nat) (a0_0 : ByteArray) (l0_1 : List (S62)) (a1_0 : ByteArray) (l1_1 : List (S62)) : Option (Bool):=if a0_0.toList=a1_0.toList then ((laws_eqPartS.f k l0_1 l1_1).bind fun t180 => (if t180=true then (some true) else (some false))) else (some false)
theorem laws_eqDef.mono : ∀ a0 a1 a2 a3 k,LeO (laws_eqDef.f k a0 a1 a2 a3) (laws_eqDef.f (k + 1) a0 a1 a2 a3):=by
 intro a0 a1 a2 a3 k;unfold laws_eqDef.f
 repeat' first|(with_reducible first|exact laws_eqPartS.mono _ _ _|exact zQ _|exact zN _|refine zP ?_ ?_|refine zO ?_ (fun _ => ?_))|refine zP ?_ ?_|refine zO ?_ (fun _ => ?_)
set_option maxHeartbeats 8000000 in
set_option maxRecDepth 100000 in
theorem laws_eqDef.calls (k : Nat) (a0_0 : ByteArray) (A0_1 : Option Addr) (c0_1 : Nat) (l0_1 : List (S62)) (a1_0 : ByteArray) (A1_1 : Option Addr) (c1_1 : Nat) (l1_1 : List (S62)) (r : Bool) (w : World) (hr0_1 : Kd.C k62 w A0_1 l0_1.length l0_1) (hc0_1 : l0_1.length≤c0_1) (hr1_1 : Kd.C k62 w A1_1 l1_1.length l1_1) (hc1_1 : l1_1.length≤c1_1) (h : laws_eqDef.f k a0_0 l0_1 a1_0 l1_1=some r) :
  Calls Tryd.prog 11 #[.agg #[.string a0_0,.slice A0_1 l0_1.length c0_1],.agg #[.string a1_0,.slice A1_1 l1_1.length c1_1]] w fun e w' => e = .returned (.bool r)∧Below w.heap.size w w':=by
 have hu29:=Tryd.underlying29;have HR0_1:=zh hr0_1;have HC0_1:=zh hc0_1;clear hr0_1 hc0_1;have HR1_1:=zh hr1_1;have HC1_1:=zh hc1_1;clear hr1_1 hc1_1;have HB:=zh (Below.refl w.heap.size w);have H : (if a0_0.toList=a1_0.toList then ((laws_eqPartS.f k l0_1 l1_1).bind fun t180 => (if t180=true then (some true) else (some false))) else (some false))=some r:=h;clear h
 by_cases c3 : a0_0.toList=a1_0.toList
 ·
  rw [if_pos c3] at H
  have c3b0 : (a0_0.toList == a1_0.toList)=true:=ya.mpr c3;have c3b1 : (a0_0.toList != a1_0.toList)=false:=zX.mpr c3;clear c3;replace H:=zT.mp H;obtain ⟨t180,A40,H⟩:=H;replace H : (if t180=true then (some true) else (some false))=some r:=H;have A4:=zh A40;clear A40
  by_cases c5 : t180=true
  ·
   subst c5
   have H1 : (some true)=some r:=by rw [if_pos rfl] at H;exact H
   clear H;have H:=H1;clear H1;obtain rfl:=zU H
   go_enter Tryd.func11,Tryd.ntmps11
   go_wp2_with (first|((with_reducible refine zK (N:=2) rfl ?_);refine zI ?hg (N:=2) ?hd (cs:=#[.string a0_0,.slice A0_1 l0_1.length c0_1]) (t:=29) ?hr ?_;(case hd => rfl);(case hg => rfl);(case hr => first|(go_simp;done)|(go_simp;rfl));intro gb178 hg w6 hbox hb;have BK178:=zh (hbox);have GW178:=zh ((by rw [hg];exact (zB (by repeat (with_reducible first|exact HB.out|apply za|apply zb|apply zc))) : w.heap.size≤gb178));have GE178:=zh ((by rw [hg];exact (zB (by repeat (with_reducible first|exact HB.out|apply za|apply zb|apply zc))) : w.heap.size≤gb178));replace HB:=zh (zC (by repeat (with_reducible first|exact HB.out|apply za|apply zb|apply zc)) hb);clear hb hbox hg)|((with_reducible refine zK (N:=3) rfl ?_);refine zI ?hg (N:=3) ?hd (cs:=#[.string a1_0,.slice A1_1 l1_1.length c1_1]) (t:=29) ?hr ?_;(case hd => rfl);(case hg => rfl);(case hr => first|(go_simp;done)|(go_simp;rfl));intro gb179 hg w7 hbox hb;have BK179:=zh (hbox);have GW179:=zh ((by rw [hg];exact (zB (by repeat (with_reducible first|exact HB.out|apply za|apply zb|apply zc|refine zd ?_ GE178.out))) : w.heap.size≤gb179));have GE179:=zh ((by rw [hg];exact (zB (by repeat (with_reducible first|exact HB.out|apply za|apply zb|apply zc|refine zd ?_ GE178.out))) : w.heap.size≤gb179));replace HB:=zh (zC (by repeat (with_reducible first|exact HB.out|apply za|apply zb|apply zc|refine zd ?_ GE178.out)) hb);have NB178_179:=zh ((by rw [hg];exact yc (yi (g:=gb178) (o:=.cells #[.string a0_0,.slice A0_1 l0_1.length c0_1] 29 (0,0)) (by (with_reducible repeat (first|refine ze ?_ _|refine zf ?_|refine zg ?_ _));exact BK178.out)) : gb178≠gb179));have NB179_178:=zh ((by rw [hg];exact yd (yi (g:=gb178) (o:=.cells #[.string a0_0,.slice A0_1 l0_1.length c0_1] 29 (0,0)) (by (with_reducible repeat (first|refine ze ?_ _|refine zf ?_|refine zg ?_ _));exact BK178.out)) : gb179≠gb178));replace BK178:=zh (zD (g:=gb178) (o:=.cells #[.string a0_0,.slice A0_1 l0_1.length c0_1] 29 (0,0)) (by (with_reducible repeat (first|refine ze ?_ _|refine zf ?_|refine zg ?_ _));exact BK178.out) hb);clear hb hbox hg;have hnb8:=NB178_179.out;have hnc8:=NB179_178.out;have hcz9_0 : w7.cell? ⟨gb178,0,none⟩=some (.string a0_0):=(zz BK178.out 0).trans rfl;have hcz9_1 : w7.cell? ⟨gb178,1,none⟩=some (.slice A0_1 l0_1.length c0_1):=(zz BK178.out 1).trans rfl;have hfz9_0:=zA BK178.out 0;have hfz9_1:=zA BK178.out 1;have hcz10_0 : w7.cell? ⟨gb179,0,none⟩=some (.string a1_0):=(zz BK179.out 0).trans rfl;have hcz10_1 : w7.cell? ⟨gb179,1,none⟩=some (.slice A1_1 l1_1.length c1_1):=(zz BK179.out 1).trans rfl;have hfz10_0:=zA BK179.out 0;have hfz10_1:=zA BK179.out 1)|((with_reducible refine zJ (f:=37) rfl ?_);refine yj (some 14) rfl rfl Tryd.func37 (by kernel_rfl) rfl #[.slice A0_1 l0_1.length c0_1,.slice A1_1 l1_1.length c1_1] rfl (by (try simp only [zt,zu,zv]);first|done|rfl|(simp only [zw,zx];rfl)|(simp only [yr,ys,zV,zW];rfl)) ?_;(with_reducible refine (laws_eqPartS.calls k  _ _ l0_1 _ _ l1_1 true _ ?side1 ?side2 ?side3 ?side4 A4.out).mono ?_);(case side1 => repeat (first|exact (Kd.C_below HR0_1.out HB.out)|(with_reducible refine Kd.C_alloc ?_ _)|(with_reducible refine Kd.C_drewN ?_ _)|(with_reducible refine Kd.C_drew ?_)));(case side2 => exact HC0_1.out);(case side3 => repeat (first|exact (Kd.C_below HR1_1.out HB.out)|(with_reducible refine Kd.C_alloc ?_ _)|(with_reducible refine Kd.C_drewN ?_ _)|(with_reducible refine Kd.C_drew ?_)));(case side4 => exact HC1_1.out);rintro e w11 ⟨rfl,hb⟩;refine ⟨_,rfl,?_⟩;replace BK178:=zh (zD (g:=gb178) (o:=.cells #[.string a0_0,.slice A0_1 l0_1.length c0_1] 29 (0,0)) (by (with_reducible repeat (first|refine ze ?_ _|refine zf ?_|refine zg ?_ _));exact BK178.out) hb);replace BK179:=zh (zD (g:=gb179) (o:=.cells #[.string a1_0,.slice A1_1 l1_1.length c1_1] 29 (0,0)) (by (with_reducible repeat (first|refine ze ?_ _|refine zf ?_|refine zg ?_ _));exact BK179.out) hb);replace HB:=zh (zC (by repeat (with_reducible first|exact HB.out|apply za|apply zb|apply zc|refine zd ?_ GE178.out|refine zd ?_ GE179.out)) hb);(try clear hb);(try clear hb2);(try clear hk);(try clear hi)))
   go_ret
   exact ⟨by first|rfl|(simp [yt,yu] <;> rfl)|(simp [*,yt,yu] <;> rfl),by repeat (with_reducible first|exact HB.out|apply za|apply zb|apply zc|refine zd ?_ GE178.out|refine zd ?_ GE179.out)⟩
  replace c5:=yb.mpr c5;subst c5;have H1 : (some false)=some r:=by rw [if_neg (show ¬ (false=true) by decide)] at H;exact H
  clear H;have H:=H1;clear H1;obtain rfl:=zU H
  go_enter Tryd.func11,Tryd.ntmps11
  go_wp2_with (first|((with_reducible refine zK (N:=2) rfl ?_);refine zI ?hg (N:=2) ?hd (cs:=#[.string a0_0,.slice A0_1 l0_1.length c0_1]) (t:=29) ?hr ?_;(case hd => rfl);(case hg => rfl);(case hr => first|(go_simp;done)|(go_simp;rfl));intro gb178 hg w12 hbox hb;have BK178:=zh (hbox);have GW178:=zh ((by rw [hg];exact (zB (by repeat (with_reducible first|exact HB.out|apply za|apply zb|apply zc))) : w.heap.size≤gb178));have GE178:=zh ((by rw [hg];exact (zB (by repeat (with_reducible first|exact HB.out|apply za|apply zb|apply zc))) : w.heap.size≤gb178));replace HB:=zh (zC (by repeat (with_reducible first|exact HB.out|apply za|apply zb|apply zc)) hb);clear hb hbox hg)|((with_reducible refine zK (N:=3) rfl ?_);refine zI ?hg (N:=3) ?hd (cs:=#[.string a1_0,.slice A1_1 l1_1.length c1_1]) (t:=29) ?hr ?_;(case hd => rfl);(case hg => rfl);(case hr => first|(go_simp;done)|(go_simp;rfl));intro gb179 hg w13 hbox hb;have BK179:=zh (hbox);have GW179:=zh ((by rw [hg];exact (zB (by repeat (with_reducible first|exact HB.out|apply za|apply zb|apply zc|refine zd ?_ GE178.out))) : w.heap.size≤gb179));have GE179:=zh ((by rw [hg];exact (zB (by repeat (with_reducible first|exact HB.out|apply za|apply zb|apply zc|refine zd ?_ GE178.out))) : w.heap.size≤gb179));replace HB:=zh (zC (by repeat (with_reducible first|exact HB.out|apply za|apply zb|apply zc|refine zd ?_ GE178.out)) hb);have NB178_179:=zh ((by rw [hg];exact yc (yi (g:=gb178) (o:=.cells #[.string a0_0,.slice A0_1 l0_1.length c0_1] 29 (0,0)) (by (with_reducible repeat (first|refine ze ?_ _|refine zf ?_|refine zg ?_ _));exact BK178.out)) : gb178≠gb179));have NB179_178:=zh ((by rw [hg];exact yd (yi (g:=gb178) (o:=.cells #[.string a0_0,.slice A0_1 l0_1.length c0_1] 29 (0,0)) (by (with_reducible repeat (first|refine ze ?_ _|refine zf ?_|refine zg ?_ _));exact BK178.out)) : gb179≠gb178));replace BK178:=zh (zD (g:=gb178) (o:=.cells #[.string a0_0,.slice A0_1 l0_1.length c0_1] 29 (0,0)) (by (with_reducible repeat (first|refine ze ?_ _|refine zf ?_|refine zg ?_ _));exact BK178.out) hb);clear hb hbox hg;have hnb14:=NB178_179.out;have hnc14:=NB179_178.out;have hcz15_0 : w13.cell? ⟨gb178,0,none⟩=some (.string a0_0):=(zz BK178.out 0).trans rfl;have hcz15_1 : w13.cell? ⟨gb178,1,none⟩=some (.slice A0_1 l0_1.length c0_1):=(zz BK178.out 1).trans rfl;have hfz15_0:=zA BK178.out 0;have hfz15_1:=zA BK178.out 1;have hcz16_0 : w13.cell? ⟨gb179,0,none⟩=some (.string a1_0):=(zz BK179.out 0).trans rfl;have hcz16_1 : w13.cell? ⟨gb179,1,none⟩=some (.slice A1_1 l1_1.length c1_1):=(zz BK179.out 1).trans rfl;have hfz16_0:=zA BK179.out 0;have hfz16_1:=zA BK179.out 1)|((with_reducible refine zJ (f:=37) rfl ?_);refine yj (some 14) rfl rfl Tryd.func37 (by kernel_rfl) rfl #[.slice A0_1 l0_1.length c0_1,.slice A1_1 l1_1.length c1_1] rfl (by (try simp only [zt,zu,zv]);first|done|rfl|(simp only [zw,zx];rfl)|(simp only [yr,ys,zV,zW];rfl)) ?_;(with_reducible refine (laws_eqPartS.calls k  _ _ l0_1 _ _ l1_1 false _ ?side1 ?side2 ?side3 ?side4 A4.out).mono ?_);(case side1 => repeat (first|exact (Kd.C_below HR0_1.out HB.out)|(with_reducible refine Kd.C_alloc ?_ _)|(with_reducible refine Kd.C_drewN ?_ _)|(with_reducible refine Kd.C_drew ?_)));(case side2 => exact HC0_1.out);(case side3 => repeat (first|exact (Kd.C_below HR1_1.out HB.out)|(with_reducible refine Kd.C_alloc ?_ _)|(with_reducible refine Kd.C_drewN ?_ _)|(with_reducible refine Kd.C_drew ?_)));(case side4 => exact HC1_1.out);rintro e w17 ⟨rfl,hb⟩;refine ⟨_,rfl,?_⟩;replace BK178:=zh (zD (g:=gb178) (o:=.cells #[.string a0_0,.slice A0_1 l0_1.length c0_1] 29 (0,0)) (by (with_reducible repeat (first|refine ze ?_ _|refine zf ?_|refine zg ?_ _));exact BK178.out) hb);replace BK179:=zh (zD (g:=gb179) (o:=.cells #[.string a1_0,.slice A1_1 l1_1.length c1_1] 29 (0,0)) (by (with_reducible repeat (first|refine ze ?_ _|refine zf ?_|refine zg ?_ _));exact BK179.out) hb);replace HB:=zh (zC (by repeat (with_reducible first|exact HB.out|apply za|apply zb|apply zc|refine zd ?_ GE178.out|refine zd ?_ GE179.out)) hb);(try clear hb);(try clear hb2);(try clear hk);(try clear hi)))
  go_ret
  exact ⟨by first|rfl|(simp [yt,yu] <;> rfl)|(simp [*,yt,yu] <;> rfl),by repeat (with_reducible first|exact HB.out|apply za|apply zb|apply zc|refine zd ?_ GE178.out|refine zd ?_ GE179.out)⟩
 rw [if_neg c3] at H;have c3b0 : (a0_0.toList == a1_0.toList)=false:=zY.mpr c3;have c3b1 : (a0_0.toList != a1_0.toList)=true:=zZ.mpr c3;obtain rfl:=zU H
 go_enter Tryd.func11,Tryd.ntmps11
 go_wp2_with (first|((with_reducible refine zK (N:=2) rfl ?_);refine zI ?hg (N:=2) ?hd (cs:=#[.string a0_0,.slice A0_1 l0_1.length c0_1]) (t:=29) ?hr ?_;(case hd => rfl);(case hg => rfl);(case hr => first|(go_simp;done)|(go_simp;rfl));intro gb178 hg w18 hbox hb;have BK178:=zh (hbox);have GW178:=zh ((by rw [hg];exact (zB (by repeat (with_reducible first|exact HB.out|apply za|apply zb|apply zc))) : w.heap.size≤gb178));have GE178:=zh ((by rw [hg];exact (zB (by repeat (with_reducible first|exact HB.out|apply za|apply zb|apply zc))) : w.heap.size≤gb178));replace HB:=zh (zC (by repeat (with_reducible first|exact HB.out|apply za|apply zb|apply zc)) hb);clear hb hbox hg)|((with_reducible refine zK (N:=3) rfl ?_);refine zI ?hg (N:=3) ?hd (cs:=#[.string a1_0,.slice A1_1 l1_1.length c1_1]) (t:=29) ?hr ?_;(case hd => rfl);(case hg => rfl);(case hr => first|(go_simp;done)|(go_simp;rfl));intro gb179 hg w19 hbox hb;have BK179:=zh (hbox);have GW179:=zh ((by rw [hg];exact (zB (by repeat (with_reducible first|exact HB.out|apply za|apply zb|apply zc|refine zd ?_ GE178.out))) : w.heap.size≤gb179));have GE179:=zh ((by rw [hg];exact (zB (by repeat (with_reducible first|exact HB.out|apply za|apply zb|apply zc|refine zd ?_ GE178.out))) : w.heap.size≤gb179));replace HB:=zh (zC (by repeat (with_reducible first|exact HB.out|apply za|apply zb|apply zc|refine zd ?_ GE178.out)) hb);have NB178_179:=zh ((by rw [hg];exact yc (yi (g:=gb178) (o:=.cells #[.string a0_0,.slice A0_1 l0_1.length c0_1] 29 (0,0)) (by (with_reducible repeat (first|refine ze ?_ _|refine zf ?_|refine zg ?_ _));exact BK178.out)) : gb178≠gb179));have NB179_178:=zh ((by rw [hg];exact yd (yi (g:=gb178) (o:=.cells #[.string a0_0,.slice A0_1 l0_1.length c0_1] 29 (0,0)) (by (with_reducible repeat (first|refine ze ?_ _|refine zf ?_|refine zg ?_ _));exact BK178.out)) : gb179≠gb178));replace BK178:=zh (zD (g:=gb178) (o:=.cells #[.string a0_0,.slice A0_1 l0_1.length c0_1] 29 (0,0)) (by (with_reducible repeat (first|refine ze ?_ _|refine zf ?_|refine zg ?_ _));exact BK178.out) hb);clear hb hbox hg;have hnb20:=NB178_179.out;have hnc20:=NB179_178.out;have hcz21_0 : w19.cell? ⟨gb178,0,none⟩=some (.string a0_0):=(zz BK178.out 0).trans rfl;have hcz21_1 : w19.cell? ⟨gb178,1,none⟩=some (.slice A0_1 l0_1.length c0_1):=(zz BK178.out 1).trans rfl;have hfz21_0:=zA BK178.out 0;have hfz21_1:=zA BK178.out 1;have hcz22_0 : w19.cell? ⟨gb179,0,none⟩=some (.string a1_0):=(zz BK179.out 0).trans rfl;have hcz22_1 : w19.cell? ⟨gb179,1,none⟩=some (.slice A1_1 l1_1.length c1_1):=(zz BK179.out 1).trans rfl;have hfz22_0:=zA BK179.out 0;have hfz22_1:=zA BK179.out 1))
 go_ret
 exact ⟨by first|rfl|(simp [yt,yu] <;> rfl)|(simp [*,yt,yu] <;> rfl),by repeat (with_reducible first|exact HB.out|apply za|apply zb|apply zc|refine zd ?_ GE178.out|refine zd ?_ GE179.out)⟩


def laws_szPart.f (a0_0 : ByteArray) (a0_1 : Bool) (a1 : Int) : Option (Int):=if (wrap64 (a1 - (a0_0.size : Int)))<0 then (some (-1)) else (some (wrap64 (a1 - (a0_0.size : Int))))
set_option maxHeartbeats 8000000 in
set_option maxRecDepth 100000 in
theorem laws_szPart.calls (a0_0 : ByteArray) (a0_1 : Bool) (a1 : Int) (r : Int) (w : World) (h : laws_szPart.f a0_0 a0_1 a1=some r) :
  Calls Tryd.prog 47 #[.agg #[.string a0_0,.bool a0_1],.int .i64 a1] w fun e w' => e = .returned (.int .i64 r)∧Below w.heap.size w w':=by
 have hu73:=Tryd.underlying73;have HB:=zh (Below.refl w.heap.size w);have H : (if (wrap64 (a1 - (a0_0.size : Int)))<0 then (some (-1)) else (some (wrap64 (a1 - (a0_0.size : Int)))))=some r:=h;clear h
 by_cases c3 : (wrap64 (a1 - (a0_0.size : Int)))<0
 ·
  rw [if_pos c3] at H
  have c3b0 : decide ((wrap64 (a1 - (a0_0.size : Int)))<0)=true:=decide_eq_true c3;clear c3;obtain rfl:=zU H
  go_enter Tryd.func47,Tryd.ntmps47
  go_wp2_with (first|((with_reducible refine zK (N:=2) rfl ?_);refine zI ?hg (N:=2) ?hd (cs:=#[.string a0_0,.bool a0_1]) (t:=73) ?hr ?_;(case hd => rfl);(case hg => rfl);(case hr => first|(go_simp;done)|(go_simp;rfl));intro gb101 hg w4 hbox hb;have BK101:=zh (hbox);have GW101:=zh ((by rw [hg];exact (zB (by repeat (with_reducible first|exact HB.out|apply za|apply zb|apply zc))) : w.heap.size≤gb101));have GE101:=zh ((by rw [hg];exact (zB (by repeat (with_reducible first|exact HB.out|apply za|apply zb|apply zc))) : w.heap.size≤gb101));replace HB:=zh (zC (by repeat (with_reducible first|exact HB.out|apply za|apply zb|apply zc)) hb);clear hb hbox hg;have hcz5_0 : w4.cell? ⟨gb101,0,none⟩=some (.string a0_0):=(zz BK101.out 0).trans rfl;have hcz5_1 : w4.cell? ⟨gb101,1,none⟩=some (.bool a0_1):=(zz BK101.out 1).trans rfl;have hfz5_0:=zA BK101.out 0;have hfz5_1:=zA BK101.out 1))
  go_ret
  exact ⟨by first|rfl|(simp [yt,yu] <;> rfl)|(simp [*,yt,yu] <;> rfl),by repeat (with_reducible first|exact HB.out|apply za|apply zb|apply zc|refine zd ?_ GE101.out)⟩
 rw [if_neg c3] at H;have c3b0 : decide ((wrap64 (a1 - (a0_0.size : Int)))<0)=false:=decide_eq_false c3;clear c3;obtain rfl:=zU H
 go_enter Tryd.func47,Tryd.ntmps47
 go_wp2_with (first|((with_reducible refine zK (N:=2) rfl ?_);refine zI ?hg (N:=2) ?hd (cs:=#[.string a0_0,.bool a0_1]) (t:=73) ?hr ?_;(case hd => rfl);(case hg => rfl);(case hr => first|(go_simp;done)|(go_simp;rfl));intro gb101 hg w6 hbox hb;have BK101:=zh (hbox);have GW101:=zh ((by rw [hg];exact (zB (by repeat (with_reducible first|exact HB.out|apply za|apply zb|apply zc))) : w.heap.size≤gb101));have GE101:=zh ((by rw [hg];exact (zB (by repeat (with_reducible first|exact HB.out|apply za|apply zb|apply zc))) : w.heap.size≤gb101));replace HB:=zh (zC (by repeat (with_reducible first|exact HB.out|apply za|apply zb|apply zc)) hb);clear hb hbox hg;have hcz7_0 : w6.cell? ⟨gb101,0,none⟩=some (.string a0_0):=(zz BK101.out 0).trans rfl;have hcz7_1 : w6.cell? ⟨gb101,1,none⟩=some (.bool a0_1):=(zz BK101.out 1).trans rfl;have hfz7_0:=zA BK101.out 0;have hfz7_1:=zA BK101.out 1))
 go_ret
 exact ⟨by first|rfl|(simp [yt,yu] <;> rfl)|(simp [*,yt,yu] <;> rfl),by repeat (with_reducible first|exact HB.out|apply za|apply zb|apply zc|refine zd ?_ GE101.out)⟩


def laws_szPartS.l0 : Nat→List (S73)→Int→Int→Option (Int)
 | 0,_,_,_ => none
 | k + 1,x0,x1,x5 => if x5<(x0.length : Int) then (if 0≤x5 then ((laws_szPart.f ((rd_T73 x0 x5).f0) ((rd_T73 x0 x5).f1) x1).bind fun t103 => (if t103<0 then (some (-1)) else (laws_szPartS.l0 k x0 t103 (wrap64 (x5 + 1))))) else (none)) else (some x1)
def laws_szPartS.f (k : Nat) (l0 : List (S73)) (a1 : Int) : Option (Int):=if (wrap64 (a1 - (l0.length : Int)))<0 then (some (-1)) else (laws_szPartS.l0 k l0 (wrap64 (a1 - (l0.length : Int))) 0)
theorem laws_szPartS.mono_l : ∀ k,(∀ y0 y1 y2,LeO (laws_szPartS.l0 k y0 y1 y2) (laws_szPartS.l0 (k + 1) y0 y1 y2))
 | 0 => fun _ _ _ r h => by simp [laws_szPartS.l0] at h
 | k + 1 => by
  have ih0:=laws_szPartS.mono_l k;intro y0 y1 y2;unfold laws_szPartS.l0
  repeat' first|(with_reducible first|exact ih0 _ _ _|exact zQ _|exact zN _|refine zP ?_ ?_|refine zO ?_ (fun _ => ?_))|refine zP ?_ ?_|refine zO ?_ (fun _ => ?_)
theorem laws_szPartS.mono : ∀ a0 a1 k,LeO (laws_szPartS.f k a0 a1) (laws_szPartS.f (k + 1) a0 a1):=by
 intro a0 a1 k;have ih0:=laws_szPartS.mono_l k;unfold laws_szPartS.f
 repeat' first|(with_reducible first|exact ih0 _ _ _|exact zQ _|exact zN _|refine zP ?_ ?_|refine zO ?_ (fun _ => ?_))|refine zP ?_ ?_|refine zO ?_ (fun _ => ?_)
set_option maxHeartbeats 8000000 in
set_option maxRecDepth 100000 in
theorem laws_szPartS.calls (k : Nat) (A0 : Option Addr) (c0 : Nat) (l0 : List (S73)) (a1 : Int) (r : Int) (w : World) (hr0 : Kd.C k73 w A0 l0.length l0) (hc0 : l0.length≤c0) (h : laws_szPartS.f k l0 a1=some r) :
  Calls Tryd.prog 27 #[.slice A0 l0.length c0,.int .i64 a1] w fun e w' => e = .returned (.int .i64 r)∧Below w.heap.size w w':=by
 have hu73:=Tryd.underlying73;have HR0:=zh hr0;have HC0:=zh hc0;clear hr0 hc0;have HB:=zh (Below.refl w.heap.size w);have H : (if (wrap64 (a1 - (l0.length : Int)))<0 then (some (-1)) else (laws_szPartS.l0 k l0 (wrap64 (a1 - (l0.length : Int))) 0))=some r:=h;clear h
 by_cases c3 : (wrap64 (a1 - (l0.length : Int)))<0
 ·
  rw [if_pos c3] at H
  have c3b0 : decide ((wrap64 (a1 - (l0.length : Int)))<0)=true:=decide_eq_true c3;clear c3;obtain rfl:=zU H
  go_enter Tryd.func27,Tryd.ntmps27
  go_wp2
  go_ret
  exact ⟨by first|rfl|(simp [yt,yu] <;> rfl)|(simp [*,yt,yu] <;> rfl),by repeat (with_reducible first|exact HB.out|apply za|apply zb|apply zc)⟩
 rw [if_neg c3] at H;have c3b0 : decide ((wrap64 (a1 - (l0.length : Int)))<0)=false:=decide_eq_false c3;clear c3;have H':=zh H;clear H
 go_enter Tryd.func27,Tryd.ntmps27
 go_wp2
 go_loopg [1,5] k (fun kq v1 v5 w' => ∃ (x1_1 : Int) (x5_1 : Int),v1 = .int .i64 x1_1∧v5 = .int .i64 x5_1∧Aside0 (laws_szPartS.l0 kq l0 x1_1 x5_1=some r)∧Aside0 (kq≤k)∧Aside0 (Below w.heap.size w w'))
 case atStart => exact ⟨(wrap64 (a1 - (l0.length : Int))),(0),(by first|rfl|(simp;done)|(simp [*];done)),(by first|rfl|(simp;done)|(simp [*];done)),H',⟨ye _⟩,⟨by repeat (with_reducible first|exact HB.out|apply za|apply zb|apply zc)⟩⟩
 case round =>
  clear H'
  try clear c2
  try clear p2
  try clear c3
  try clear c3b0
  obtain ⟨x1_1,x5_1,rfl,rfl,HA,HK1,HB⟩:=hrel
  cases gk with
  | zero => exact absurd HA.out (by simp [laws_szPartS.l0])
  | succ k1 =>
   have H:=HA.out;clear HA;simp only [laws_szPartS.l0] at H
   by_cases c4 : x5_1<(l0.length : Int)
   ·
    rw [if_pos c4] at H
    have c4b0 : decide (x5_1<(l0.length : Int))=true:=decide_eq_true c4;clear c4
    by_cases c5 : 0≤x5_1
    ·
     rw [if_pos c5] at H
     have c5b0 : decide (0≤x5_1)=true:=decide_eq_true c5;clear c5;replace H:=zT.mp H;obtain ⟨t103,A60,H⟩:=H;replace H : (if t103<0 then (some (-1)) else (laws_szPartS.l0 k1 l0 t103 (wrap64 (x5_1 + 1))))=some r:=H;have A6:=zh A60;clear A60
     by_cases c7 : t103<0
     ·
      rw [if_pos c7] at H
      have c7b0 : decide (t103<0)=true:=decide_eq_true c7;clear c7;obtain rfl:=zU H;have p102 : 0≤(x5_1 : Int):=zy (by first|(with_reducible assumption)|assumption);have q102 : x5_1<(l0.length : Int):=zy (by first|(with_reducible assumption)|assumption);obtain ⟨ad102,e102,hx102_0,hx102_1⟩:=at_T73 HR0.out x5_1 p102 q102
      cases e102
      replace hx102_0:=(HB.out.cell (zl w _ hx102_0)).trans hx102_0;replace hx102_1:=(HB.out.cell (zl w _ hx102_1)).trans hx102_1;replace p102:=eq_true p102;replace q102:=eq_true q102
      go_wp2_with (first|((with_reducible refine zJ (f:=47) rfl ?_);refine yj (some 23) rfl rfl Tryd.func47 (by kernel_rfl) rfl #[.agg #[.string ((rd_T73 l0 x5_1).f0),.bool ((rd_T73 l0 x5_1).f1)],.int .i64 x1_1] rfl (by (try simp only [zt,zu,zv]);first|done|rfl|(simp only [zw,zx];rfl)|(simp only [yr,ys,zV,zW];rfl)) ?_;(with_reducible refine (laws_szPart.calls  ((rd_T73 l0 x5_1).f0) ((rd_T73 l0 x5_1).f1) x1_1 t103 _ A6.out).mono ?_);rintro e w8 ⟨rfl,hb⟩;refine ⟨_,rfl,?_⟩;replace HB:=zh (zC (by repeat (with_reducible first|exact HB.out|apply za|apply zb|apply zc)) hb);(try clear hb);(try clear hb2);(try clear hk);(try clear hi)))
      go_ret
      exact ⟨by first|rfl|(simp [yt,yu] <;> rfl)|(simp [*,yt,yu] <;> rfl),by repeat (with_reducible first|exact HB.out|apply za|apply zb|apply zc)⟩
     rw [if_neg c7] at H;have c7b0 : decide (t103<0)=false:=decide_eq_false c7;clear c7;have H':=zh H;clear H;have p102 : 0≤(x5_1 : Int):=zy (by first|(with_reducible assumption)|assumption);have q102 : x5_1<(l0.length : Int):=zy (by first|(with_reducible assumption)|assumption);obtain ⟨ad102,e102,hx102_0,hx102_1⟩:=at_T73 HR0.out x5_1 p102 q102
     cases e102
     replace hx102_0:=(HB.out.cell (zl w _ hx102_0)).trans hx102_0;replace hx102_1:=(HB.out.cell (zl w _ hx102_1)).trans hx102_1;replace p102:=eq_true p102;replace q102:=eq_true q102
     go_wp2_with (first|((with_reducible refine zJ (f:=47) rfl ?_);refine yj (some 23) rfl rfl Tryd.func47 (by kernel_rfl) rfl #[.agg #[.string ((rd_T73 l0 x5_1).f0),.bool ((rd_T73 l0 x5_1).f1)],.int .i64 x1_1] rfl (by (try simp only [zt,zu,zv]);first|done|rfl|(simp only [zw,zx];rfl)|(simp only [yr,ys,zV,zW];rfl)) ?_;(with_reducible refine (laws_szPart.calls  ((rd_T73 l0 x5_1).f0) ((rd_T73 l0 x5_1).f1) x1_1 t103 _ A6.out).mono ?_);rintro e w9 ⟨rfl,hb⟩;refine ⟨_,rfl,?_⟩;replace HB:=zh (zC (by repeat (with_reducible first|exact HB.out|apply za|apply zb|apply zc)) hb);(try clear hb);(try clear hb2);(try clear hk);(try clear hi)))
     go_roundg k1
     case measure => have:=HK1.out;omega
     case rel => exact ⟨(t103),(wrap64 (x5_1 + 1)),(by first|rfl|(simp;done)|(simp [*];done)),(by first|rfl|(simp;done)|(simp [*];done)),H',⟨by have:=HK1.out;omega⟩,⟨by repeat (with_reducible first|exact HB.out|apply za|apply zb|apply zc)⟩⟩
    rw [if_neg c5] at H;exact absurd H (by simp)
   rw [if_neg c4] at H;have c4b0 : decide (x5_1<(l0.length : Int))=false:=decide_eq_false c4;clear c4;obtain rfl:=zU H
   go_wp2
   go_ret
   exact ⟨by first|rfl|(simp [yt,yu] <;> rfl)|(simp [*,yt,yu] <;> rfl),by repeat (with_reducible first|exact HB.out|apply za|apply zb|apply zc)⟩


def laws_szDef.f (k : Nat) (a0_0 : ByteArray) (l0_1 : List (S73)) (a1 : Int) : Option (Int):=if (wrap64 (a1 - (a0_0.size : Int)))<0 then (some (-1)) else ((laws_szPartS.f k l0_1 (wrap64 (a1 - (a0_0.size : Int)))).bind fun t105 => (if t105<0 then (some (-1)) else (some t105)))
theorem laws_szDef.mono : ∀ a0 a1 a2 k,LeO (laws_szDef.f k a0 a1 a2) (laws_szDef.f (k + 1) a0 a1 a2):=by
 intro a0 a1 a2 k;unfold laws_szDef.f
 repeat' first|(with_reducible first|exact laws_szPartS.mono _ _ _|exact zQ _|exact zN _|refine zP ?_ ?_|refine zO ?_ (fun _ => ?_))|refine zP ?_ ?_|refine zO ?_ (fun _ => ?_)
set_option maxHeartbeats 8000000 in
set_option maxRecDepth 100000 in
theorem laws_szDef.calls (k : Nat) (a0_0 : ByteArray) (A0_1 : Option Addr) (c0_1 : Nat) (l0_1 : List (S73)) (a1 : Int) (r : Int) (w : World) (hr0_1 : Kd.C k73 w A0_1 l0_1.length l0_1) (hc0_1 : l0_1.length≤c0_1) (h : laws_szDef.f k a0_0 l0_1 a1=some r) :
  Calls Tryd.prog 7 #[.agg #[.string a0_0,.slice A0_1 l0_1.length c0_1],.int .i64 a1] w fun e w' => e = .returned (.int .i64 r)∧Below w.heap.size w w':=by
 have hu24:=Tryd.underlying24;have HR0_1:=zh hr0_1;have HC0_1:=zh hc0_1;clear hr0_1 hc0_1;have HB:=zh (Below.refl w.heap.size w);have H : (if (wrap64 (a1 - (a0_0.size : Int)))<0 then (some (-1)) else ((laws_szPartS.f k l0_1 (wrap64 (a1 - (a0_0.size : Int)))).bind fun t105 => (if t105<0 then (some (-1)) else (some t105))))=some r:=h;clear h
 by_cases c3 : (wrap64 (a1 - (a0_0.size : Int)))<0
 ·
  rw [if_pos c3] at H
  have c3b0 : decide ((wrap64 (a1 - (a0_0.size : Int)))<0)=true:=decide_eq_true c3;clear c3;obtain rfl:=zU H
  go_enter Tryd.func7,Tryd.ntmps7
  go_wp2_with (first|((with_reducible refine zK (N:=2) rfl ?_);refine zI ?hg (N:=2) ?hd (cs:=#[.string a0_0,.slice A0_1 l0_1.length c0_1]) (t:=24) ?hr ?_;(case hd => rfl);(case hg => rfl);(case hr => first|(go_simp;done)|(go_simp;rfl));intro gb104 hg w4 hbox hb;have BK104:=zh (hbox);have GW104:=zh ((by rw [hg];exact (zB (by repeat (with_reducible first|exact HB.out|apply za|apply zb|apply zc))) : w.heap.size≤gb104));have GE104:=zh ((by rw [hg];exact (zB (by repeat (with_reducible first|exact HB.out|apply za|apply zb|apply zc))) : w.heap.size≤gb104));replace HB:=zh (zC (by repeat (with_reducible first|exact HB.out|apply za|apply zb|apply zc)) hb);clear hb hbox hg;have hcz5_0 : w4.cell? ⟨gb104,0,none⟩=some (.string a0_0):=(zz BK104.out 0).trans rfl;have hcz5_1 : w4.cell? ⟨gb104,1,none⟩=some (.slice A0_1 l0_1.length c0_1):=(zz BK104.out 1).trans rfl;have hfz5_0:=zA BK104.out 0;have hfz5_1:=zA BK104.out 1))
  go_ret
  exact ⟨by first|rfl|(simp [yt,yu] <;> rfl)|(simp [*,yt,yu] <;> rfl),by repeat (with_reducible first|exact HB.out|apply za|apply zb|apply zc|refine zd ?_ GE104.out)⟩
 rw [if_neg c3] at H;have c3b0 : decide ((wrap64 (a1 - (a0_0.size : Int)))<0)=false:=decide_eq_false c3;clear c3;replace H:=zT.mp H;obtain ⟨t105,A60,H⟩:=H;replace H : (if t105<0 then (some (-1)) else (some t105))=some r:=H;have A6:=zh A60;clear A60
 by_cases c7 : t105<0
 ·
  rw [if_pos c7] at H
  have c7b0 : decide (t105<0)=true:=decide_eq_true c7;clear c7;obtain rfl:=zU H
  go_enter Tryd.func7,Tryd.ntmps7
  go_wp2_with (first|((with_reducible refine zK (N:=2) rfl ?_);refine zI ?hg (N:=2) ?hd (cs:=#[.string a0_0,.slice A0_1 l0_1.length c0_1]) (t:=24) ?hr ?_;(case hd => rfl);(case hg => rfl);(case hr => first|(go_simp;done)|(go_simp;rfl));intro gb104 hg w8 hbox hb;have BK104:=zh (hbox);have GW104:=zh ((by rw [hg];exact (zB (by repeat (with_reducible first|exact HB.out|apply za|apply zb|apply zc))) : w.heap.size≤gb104));have GE104:=zh ((by rw [hg];exact (zB (by repeat (with_reducible first|exact HB.out|apply za|apply zb|apply zc))) : w.heap.size≤gb104));replace HB:=zh (zC (by repeat (with_reducible first|exact HB.out|apply za|apply zb|apply zc)) hb);clear hb hbox hg;have hcz9_0 : w8.cell? ⟨gb104,0,none⟩=some (.string a0_0):=(zz BK104.out 0).trans rfl;have hcz9_1 : w8.cell? ⟨gb104,1,none⟩=some (.slice A0_1 l0_1.length c0_1):=(zz BK104.out 1).trans rfl;have hfz9_0:=zA BK104.out 0;have hfz9_1:=zA BK104.out 1)|((with_reducible refine zJ (f:=27) rfl ?_);refine yj (some 15) rfl rfl Tryd.func27 (by kernel_rfl) rfl #[.slice A0_1 l0_1.length c0_1,.int .i64 (wrap64 (a1 - (a0_0.size : Int)))] rfl (by (try simp only [zt,zu,zv]);first|done|rfl|(simp only [zw,zx];rfl)|(simp only [yr,ys,zV,zW];rfl)) ?_;(with_reducible refine (laws_szPartS.calls k  _ _ l0_1 (wrap64 (a1 - (a0_0.size : Int))) t105 _ ?side1 ?side2 A6.out).mono ?_);(case side1 => repeat (first|exact (Kd.C_below HR0_1.out HB.out)|(with_reducible refine Kd.C_alloc ?_ _)|(with_reducible refine Kd.C_drewN ?_ _)|(with_reducible refine Kd.C_drew ?_)));(case side2 => exact HC0_1.out);rintro e w10 ⟨rfl,hb⟩;refine ⟨_,rfl,?_⟩;replace BK104:=zh (zD (g:=gb104) (o:=.cells #[.string a0_0,.slice A0_1 l0_1.length c0_1] 24 (0,0)) (by (with_reducible repeat (first|refine ze ?_ _|refine zf ?_|refine zg ?_ _));exact BK104.out) hb);replace HB:=zh (zC (by repeat (with_reducible first|exact HB.out|apply za|apply zb|apply zc|refine zd ?_ GE104.out)) hb);(try clear hb);(try clear hb2);(try clear hk);(try clear hi)))
  go_ret
  exact ⟨by first|rfl|(simp [yt,yu] <;> rfl)|(simp [*,yt,yu] <;> rfl),by repeat (with_reducible first|exact HB.out|apply za|apply zb|apply zc|refine zd ?_ GE104.out)⟩
 rw [if_neg c7] at H;have c7b0 : decide (t105<0)=false:=decide_eq_false c7;clear c7;obtain rfl:=zU H
 go_enter Tryd.func7,Tryd.ntmps7
 go_wp2_with (first|((with_reducible refine zK (N:=2) rfl ?_);refine zI ?hg (N:=2) ?hd (cs:=#[.string a0_0,.slice A0_1 l0_1.length c0_1]) (t:=24) ?hr ?_;(case hd => rfl);(case hg => rfl);(case hr => first|(go_simp;done)|(go_simp;rfl));intro gb104 hg w11 hbox hb;have BK104:=zh (hbox);have GW104:=zh ((by rw [hg];exact (zB (by repeat (with_reducible first|exact HB.out|apply za|apply zb|apply zc))) : w.heap.size≤gb104));have GE104:=zh ((by rw [hg];exact (zB (by repeat (with_reducible first|exact HB.out|apply za|apply zb|apply zc))) : w.heap.size≤gb104));replace HB:=zh (zC (by repeat (with_reducible first|exact HB.out|apply za|apply zb|apply zc)) hb);clear hb hbox hg;have hcz12_0 : w11.cell? ⟨gb104,0,none⟩=some (.string a0_0):=(zz BK104.out 0).trans rfl;have hcz12_1 : w11.cell? ⟨gb104,1,none⟩=some (.slice A0_1 l0_1.length c0_1):=(zz BK104.out 1).trans rfl;have hfz12_0:=zA BK104.out 0;have hfz12_1:=zA BK104.out 1)|((with_reducible refine zJ (f:=27) rfl ?_);refine yj (some 15) rfl rfl Tryd.func27 (by kernel_rfl) rfl #[.slice A0_1 l0_1.length c0_1,.int .i64 (wrap64 (a1 - (a0_0.size : Int)))] rfl (by (try simp only [zt,zu,zv]);first|done|rfl|(simp only [zw,zx];rfl)|(simp only [yr,ys,zV,zW];rfl)) ?_;(with_reducible refine (laws_szPartS.calls k  _ _ l0_1 (wrap64 (a1 - (a0_0.size : Int))) t105 _ ?side1 ?side2 A6.out).mono ?_);(case side1 => repeat (first|exact (Kd.C_below HR0_1.out HB.out)|(with_reducible refine Kd.C_alloc ?_ _)|(with_reducible refine Kd.C_drewN ?_ _)|(with_reducible refine Kd.C_drew ?_)));(case side2 => exact HC0_1.out);rintro e w13 ⟨rfl,hb⟩;refine ⟨_,rfl,?_⟩;replace BK104:=zh (zD (g:=gb104) (o:=.cells #[.string a0_0,.slice A0_1 l0_1.length c0_1] 24 (0,0)) (by (with_reducible repeat (first|refine ze ?_ _|refine zf ?_|refine zg ?_ _));exact BK104.out) hb);replace HB:=zh (zC (by repeat (with_reducible first|exact HB.out|apply za|apply zb|apply zc|refine zd ?_ GE104.out)) hb);(try clear hb);(try clear hb2);(try clear hk);(try clear hi)))
 go_ret
 exact ⟨by first|rfl|(simp [yt,yu] <;> rfl)|(simp [*,yt,yu] <;> rfl),by repeat (with_reducible first|exact HB.out|apply za|apply zb|apply zc|refine zd ?_ GE104.out)⟩


def spec_l00Letter.f (a0 : Int) : Option (Bool):=if a0 ≥ 97 then (if a0≤122 then (some true) else (if a0 ≥ 65 then (if a0≤90 then (some true) else (some (a0 == 95))) else (some (a0 == 95)))) else (if a0 ≥ 65 then (if a0≤90 then (some true) else (some (a0 == 95))) else (some (a0 == 95)))
set_option maxHeartbeats 8000000 in
set_option maxRecDepth 100000 in
theorem spec_l00Letter.calls (a0 : Int) (r : Bool) (w : World) (h : spec_l00Letter.f a0=some r) :
  Calls Tryd.prog 78 #[.int .u8 a0] w fun e w' => e = .returned (.bool r)∧Drawn0 w w':=by
 have H : (if a0 ≥ 97 then (if a0≤122 then (some true) else (if a0 ≥ 65 then (if a0≤90 then (some true) else (some (a0 == 95))) else (some (a0 == 95)))) else (if a0 ≥ 65 then (if a0≤90 then (some true) else (some (a0 == 95))) else (some (a0 == 95))))=some r:=h;clear h
 by_cases c2 : a0 ≥ 97
 ·
  rw [if_pos c2] at H
  have c2b0 : decide (97≤a0)=true:=decide_eq_true c2;clear c2
  by_cases c3 : a0≤122
  ·
   rw [if_pos c3] at H
   have c3b0 : decide (a0≤122)=true:=decide_eq_true c3;clear c3;obtain rfl:=zU H
   go_enter Tryd.func78,Tryd.ntmps78
   go_wp2
   go_ret
   exact ⟨by first|rfl|(simp;done)|(simp [*];done),by repeat (first|exact yp _|apply yq)⟩
  rw [if_neg c3] at H;have c3b0 : decide (a0≤122)=false:=decide_eq_false c3;clear c3
  by_cases c4 : a0 ≥ 65
  ·
   rw [if_pos c4] at H
   have c4b0 : decide (65≤a0)=true:=decide_eq_true c4;clear c4
   by_cases c5 : a0≤90
   ·
    rw [if_pos c5] at H
    have c5b0 : decide (a0≤90)=true:=decide_eq_true c5;clear c5;obtain rfl:=zU H
    go_enter Tryd.func78,Tryd.ntmps78
    go_wp2
    go_ret
    exact ⟨by first|rfl|(simp;done)|(simp [*];done),by repeat (first|exact yp _|apply yq)⟩
   rw [if_neg c5] at H;have c5b0 : decide (a0≤90)=false:=decide_eq_false c5;clear c5;obtain rfl:=zU H
   go_enter Tryd.func78,Tryd.ntmps78
   go_wp2
   go_ret
   exact ⟨by first|rfl|(simp;done)|(simp [*];done),by repeat (first|exact yp _|apply yq)⟩
  rw [if_neg c4] at H;have c4b0 : decide (65≤a0)=false:=decide_eq_false c4;clear c4;obtain rfl:=zU H
  go_enter Tryd.func78,Tryd.ntmps78
  go_wp2
  go_ret
  exact ⟨by first|rfl|(simp;done)|(simp [*];done),by repeat (first|exact yp _|apply yq)⟩
 rw [if_neg c2] at H;have c2b0 : decide (97≤a0)=false:=decide_eq_false c2;clear c2
 by_cases c6 : a0 ≥ 65
 ·
  rw [if_pos c6] at H
  have c6b0 : decide (65≤a0)=true:=decide_eq_true c6;clear c6
  by_cases c7 : a0≤90
  ·
   rw [if_pos c7] at H
   have c7b0 : decide (a0≤90)=true:=decide_eq_true c7;clear c7;obtain rfl:=zU H
   go_enter Tryd.func78,Tryd.ntmps78
   go_wp2
   go_ret
   exact ⟨by first|rfl|(simp;done)|(simp [*];done),by repeat (first|exact yp _|apply yq)⟩
  rw [if_neg c7] at H;have c7b0 : decide (a0≤90)=false:=decide_eq_false c7;clear c7;obtain rfl:=zU H
  go_enter Tryd.func78,Tryd.ntmps78
  go_wp2
  go_ret
  exact ⟨by first|rfl|(simp;done)|(simp [*];done),by repeat (first|exact yp _|apply yq)⟩
 rw [if_neg c6] at H;have c6b0 : decide (65≤a0)=false:=decide_eq_false c6;clear c6;obtain rfl:=zU H
 go_enter Tryd.func78,Tryd.ntmps78
 go_wp2
 go_ret
 exact ⟨by first|rfl|(simp;done)|(simp [*];done),by repeat (first|exact yp _|apply yq)⟩


def spec_l00Digit.f (a0 : Int) : Option (Bool):=if a0 ≥ 48 then (some (decide (a0≤57))) else (some false)
set_option maxHeartbeats 8000000 in
set_option maxRecDepth 100000 in
theorem spec_l00Digit.calls (a0 : Int) (r : Bool) (w : World) (h : spec_l00Digit.f a0=some r) :
  Calls Tryd.prog 79 #[.int .u8 a0] w fun e w' => e = .returned (.bool r)∧Drawn0 w w':=by
 have H : (if a0 ≥ 48 then (some (decide (a0≤57))) else (some false))=some r:=h;clear h
 by_cases c2 : a0 ≥ 48
 ·
  rw [if_pos c2] at H
  have c2b0 : decide (48≤a0)=true:=decide_eq_true c2;clear c2;obtain rfl:=zU H
  go_enter Tryd.func79,Tryd.ntmps79
  go_wp2
  go_ret
  exact ⟨by first|rfl|(simp;done)|(simp [*];done),by repeat (first|exact yp _|apply yq)⟩
 rw [if_neg c2] at H;have c2b0 : decide (48≤a0)=false:=decide_eq_false c2;clear c2;obtain rfl:=zU H
 go_enter Tryd.func79,Tryd.ntmps79
 go_wp2
 go_ret
 exact ⟨by first|rfl|(simp;done)|(simp [*];done),by repeat (first|exact yp _|apply yq)⟩

end Go.Proofs.YthjgfjlogilleaaDoor.Q
end
section
namespace Go.Proofs.YthjgfjlogilleaaDoor.Q
open Go.RowKit Go.Proofs.YthjgfjlogilleaaDoorW.PrintWords Go.Proofs.YthjgfjlogilleaaDoorW.PrintLast Go.Proofs.YthjgfjlogilleaaDoorW.PrintMore
attribute [local go_sem] max2_int min2_int max_two min_two max_three min_three max_four min_four max2_str min2_str str_geq str_gtr str_leq   -- for this text's walks alone
set_option linter.unusedVariables false
set_option linter.unusedSimpArgs false

mutual
def spec_l00Word.j0 : Nat→ByteArray→Bool→Option (Bool)
 | 0,_,_ => none
 | k + 1,x0,x17 => if x17=true then (some false) else (spec_l00Word.l0 k x0 1)
def spec_l00Word.l0 : Nat→ByteArray→Int→Option (Bool)
 | 0,_,_ => none
 | k + 1,x0,x3 => if x3<(x0.size : Int) then (if 0≤x3 then ((spec_l00Letter.f (bt x0 x3)).bind fun t107 => (if t107=true then (spec_l00Word.l0 k x0 (wrap64 (x3 + 1))) else ((spec_l00Digit.f (bt x0 x3)).bind fun t108 => (if t108=true then (spec_l00Word.l0 k x0 (wrap64 (x3 + 1))) else (some false))))) else (none)) else (some true)
end
def spec_l00Word.f (k : Nat) (a0 : ByteArray) : Option (Bool):=if (a0.size : Int)<1 then (spec_l00Word.j0 k a0 true) else (if (a0.size : Int) > 40 then (spec_l00Word.j0 k a0 true) else (if 0<(a0.size : Int) then ((spec_l00Letter.f (bt a0 0)).bind fun t106 => (spec_l00Word.j0 k a0 (!t106))) else (none)))
theorem spec_l00Word.mono_l : ∀ k,(∀ y0 y1,LeO (spec_l00Word.j0 k y0 y1) (spec_l00Word.j0 (k + 1) y0 y1))∧(∀ y0 y1,LeO (spec_l00Word.l0 k y0 y1) (spec_l00Word.l0 (k + 1) y0 y1))
 | 0 => ⟨fun _ _ r h => by simp [spec_l00Word.j0] at h,fun _ _ r h => by simp [spec_l00Word.l0] at h⟩
 | k + 1 => by
  obtain ⟨ih0,ih1⟩:=spec_l00Word.mono_l k;refine ⟨?_,?_⟩
  ·
   intro y0 y1
   unfold spec_l00Word.j0
   repeat' first|(with_reducible first|exact ih0 _ _|exact ih1 _ _|exact zQ _|exact zN _|refine zP ?_ ?_|refine zO ?_ (fun _ => ?_))|refine zP ?_ ?_|refine zO ?_ (fun _ => ?_)
  intro y0 y1;unfold spec_l00Word.l0
  repeat' first|(with_reducible first|exact ih0 _ _|exact ih1 _ _|exact zQ _|exact zN _|refine zP ?_ ?_|refine zO ?_ (fun _ => ?_))|refine zP ?_ ?_|refine zO ?_ (fun _ => ?_)
theorem spec_l00Word.mono : ∀ a0 k,LeO (spec_l00Word.f k a0) (spec_l00Word.f (k + 1) a0):=by
 intro a0 k;obtain ⟨ih0,ih1⟩:=spec_l00Word.mono_l k;unfold spec_l00Word.f
 repeat' first|(with_reducible first|exact ih0 _ _|exact ih1 _ _|exact zQ _|exact zN _|refine zP ?_ ?_|refine zO ?_ (fun _ => ?_))|refine zP ?_ ?_|refine zO ?_ (fun _ => ?_)
set_option maxHeartbeats 8000000 in
set_option maxRecDepth 100000 in
theorem spec_l00Word.calls (k : Nat) (a0 : ByteArray) (r : Bool) (w : World) (h : spec_l00Word.f k a0=some r) :
  Calls Tryd.prog 63 #[.string a0] w fun e w' => e = .returned (.bool r)∧Drawn0 w w':=by
 have H : (if (a0.size : Int)<1 then (spec_l00Word.j0 k a0 true) else (if (a0.size : Int) > 40 then (spec_l00Word.j0 k a0 true) else (if 0<(a0.size : Int) then ((spec_l00Letter.f (bt a0 0)).bind fun t106 => (spec_l00Word.j0 k a0 (!t106))) else (none))))=some r:=h;clear h;have HC2:=zh H;clear H
 go_enter Tryd.func63,Tryd.ntmps63
 go_upto_region 1 with (fail)
 go_cut [17] (fun v17 wc => ∃ (kq : Nat) (x17_1 : Bool),v17 = .bool x17_1∧Aside0 (spec_l00Word.j0 kq a0 x17_1=some r)∧Aside0 (kq≤k)∧Drawn0 w wc)
 case first =>
  have H:=HC2.out;clear HC2
  by_cases c3 : (a0.size : Int)<1
  ·
   rw [if_pos c3] at H
   have c3b0 : decide ((a0.size : Int)<1)=true:=decide_eq_true c3;have c3b1 : decide (a0.size<1)=true:=decide_eq_true (by omega);clear c3;(first|rw [c3b0]|(simp only [zG,zH];rw [c3b0])|skip);have H':=zh H;clear H
   go_wp2
   go_meet
   case rel => exact ⟨_,(true),(by first|rfl|(simp;done)|(simp [*];done)),H',⟨by first|omega|exact ye _⟩,by repeat (first|exact yp _|apply yq)⟩
  rw [if_neg c3] at H;have c3b0 : decide ((a0.size : Int)<1)=false:=decide_eq_false c3;have c3b1 : decide (a0.size<1)=false:=decide_eq_false (by omega);clear c3;(first|rw [c3b0]|(simp only [zG,zH];rw [c3b0])|skip)
  by_cases c4 : (a0.size : Int) > 40
  ·
   rw [if_pos c4] at H
   have c4b0 : decide (40<(a0.size : Int))=true:=decide_eq_true c4;have c4b1 : decide (40<a0.size)=true:=decide_eq_true (by omega);clear c4;have H':=zh H;clear H
   go_wp2
   go_meet
   case rel => exact ⟨_,(true),(by first|rfl|(simp;done)|(simp [*];done)),H',⟨by first|omega|exact ye _⟩,by repeat (first|exact yp _|apply yq)⟩
  rw [if_neg c4] at H;have c4b0 : decide (40<(a0.size : Int))=false:=decide_eq_false c4;have c4b1 : decide (40<a0.size)=false:=decide_eq_false (by omega);clear c4
  by_cases c5 : 0<(a0.size : Int)
  ·
   rw [if_pos c5] at H
   have c5b0 : decide (0<(a0.size : Int))=true:=decide_eq_true c5;have c5b1 : decide (0<a0.size)=true:=decide_eq_true (by omega);clear c5;replace H:=zT.mp H;obtain ⟨t106,A70,H⟩:=H;replace H : (spec_l00Word.j0 k a0 (!t106))=some r:=H;have A7:=zh A70;clear A70;have H':=zh H;clear H;have p6 : 0≤(0 : Int):=(by omega);have q6 : 0<a0.size:=(by have : (0 : Int)<(a0.size : Int):=zy (by first|(with_reducible assumption)|assumption);omega);have hx6 : ∀ h : 0<a0.size,((a0[0]'h).toNat : Int)=bt a0 0:=bt_at a0 0;clear p6;have qi6 : (0<(a0.size : Int))=True:=eq_true (zy (by first|(with_reducible assumption)|assumption));replace q6:=eq_true q6
   go_wp2_with (first|(go_at_call 78;(with_reducible refine (spec_l00Letter.calls  (bt a0 0) t106 _ A7.out).mono ?_);rintro e w' ⟨rfl,⟨nd,rfl⟩⟩))
   go_meet
   case rel => exact ⟨_,(!t106),(by first|rfl|(simp;done)|(simp [*];done)),H',⟨by first|omega|exact ye _⟩,by repeat (first|exact yp _|apply yq)⟩
  rw [if_neg c5] at H;exact absurd H (by simp)
 case rest =>
  clear HC2
  try clear p2
  try clear c3
  try clear c3b0
  try clear c3b1
  try clear c4
  try clear c4b0
  try clear c4b1
  try clear c5
  try clear c5b0
  try clear c5b1
  try clear c6
  try clear p6
  try clear q6
  try clear hx6
  try clear qi6
  try clear p6
  try clear q6
  obtain ⟨kq,x17_1,rfl,HA,HJ1,⟨mc1,rfl⟩⟩:=hcut
  cases kq with
  | zero => exact absurd HA.out (by simp [spec_l00Word.j0])
  | succ kj1 =>
   have H:=HA.out;clear HA;simp only [spec_l00Word.j0] at H
   by_cases c8 : x17_1=true
   ·
    subst c8
    have H1 : (some false)=some r:=by rw [if_pos rfl] at H;exact H
    clear H;have H:=H1;clear H1;obtain rfl:=zU H
    go_wp2
    go_ret
    exact ⟨by first|rfl|(simp;done)|(simp [*];done),by repeat (first|exact yp _|apply yq)⟩
   replace c8:=yb.mpr c8;subst c8;have H1 : (spec_l00Word.l0 kj1 a0 1)=some r:=by rw [if_neg (show ¬ (false=true) by decide)] at H;exact H
   clear H;have H:=H1;clear H1;have H':=zh H;clear H
   go_wp2
   go_loopg [3] kj1 (fun kq v3 w' => ∃ (x3_2 : Int),v3 = .int .i64 x3_2∧Aside0 (spec_l00Word.l0 kq a0 x3_2=some r)∧Aside0 (kq≤kj1)∧Drawn0 w w')
   case atStart => exact ⟨(1),(by first|rfl|(simp;done)|(simp [*];done)),H',⟨ye _⟩,by repeat (first|exact yp _|apply yq)⟩
   case round =>
    clear H'
    try clear c1
    try clear p2
    try clear c3
    try clear c3b0
    try clear c3b1
    try clear c4
    try clear c4b0
    try clear c4b1
    try clear c5
    try clear c5b0
    try clear c5b1
    try clear c6
    try clear p6
    try clear q6
    try clear hx6
    try clear qi6
    try clear c8
    try clear p2
    try clear p6
    try clear q6
    obtain ⟨x3_2,rfl,HA,HK2,⟨m2,rfl⟩⟩:=hrel
    cases gk with
    | zero => exact absurd HA.out (by simp [spec_l00Word.l0])
    | succ k2 =>
     have H:=HA.out;clear HA;simp only [spec_l00Word.l0] at H
     by_cases c9 : x3_2<(a0.size : Int)
     ·
      rw [if_pos c9] at H
      have c9b0 : decide (x3_2<(a0.size : Int))=true:=decide_eq_true c9;clear c9
      by_cases c10 : 0≤x3_2
      ·
       rw [if_pos c10] at H
       have c10b0 : decide (0≤x3_2)=true:=decide_eq_true c10;clear c10;replace H:=zT.mp H;obtain ⟨t107,A120,H⟩:=H;replace H : (if t107=true then (spec_l00Word.l0 k2 a0 (wrap64 (x3_2 + 1))) else ((spec_l00Digit.f (bt a0 x3_2)).bind fun t108 => (if t108=true then (spec_l00Word.l0 k2 a0 (wrap64 (x3_2 + 1))) else (some false))))=some r:=H;have A12:=zh A120;clear A120
       by_cases c13 : t107=true
       ·
        subst c13
        have H1 : (spec_l00Word.l0 k2 a0 (wrap64 (x3_2 + 1)))=some r:=by rw [if_pos rfl] at H;exact H
        clear H;have H:=H1;clear H1;have H':=zh H;clear H;have p11 : 0≤(x3_2 : Int):=zy (by first|(with_reducible assumption)|assumption);have q11 : x3_2<(a0.size : Int):=zy (by first|(with_reducible assumption)|assumption);have hx11:=bt_at a0 x3_2;replace p11:=eq_true p11;replace q11:=eq_true q11
        go_wp2_with (first|((with_reducible refine zJ (f:=78) rfl ?_);refine yj (some 27) rfl rfl Tryd.func78 (by kernel_rfl) rfl #[.int .u8 (bt a0 x3_2)] rfl (by (try simp only [zt,zu,zv]);first|done|rfl|(simp only [zw,zx];rfl)|(simp only [yr,ys,zV,zW];rfl)) ?_;(with_reducible refine (spec_l00Letter.calls  (bt a0 x3_2) true _ A12.out).mono ?_);rintro e w' ⟨rfl,⟨nd,rfl⟩⟩;refine ⟨_,rfl,?_⟩))
        go_roundg k2
        case measure => have:=HJ1.out;have:=HK2.out;omega
        case rel => exact ⟨(wrap64 (x3_2 + 1)),(by first|rfl|(simp;done)|(simp [*];done)),H',⟨by have:=HJ1.out;have:=HK2.out;omega⟩,by repeat (first|exact yp _|apply yq)⟩
       replace c13:=yb.mpr c13;subst c13;have H1 : ((spec_l00Digit.f (bt a0 x3_2)).bind fun t108 => (if t108=true then (spec_l00Word.l0 k2 a0 (wrap64 (x3_2 + 1))) else (some false)))=some r:=by rw [if_neg (show ¬ (false=true) by decide)] at H;exact H
       clear H;have H:=H1;clear H1;replace H:=zT.mp H;obtain ⟨t108,A150,H⟩:=H;replace H : (if t108=true then (spec_l00Word.l0 k2 a0 (wrap64 (x3_2 + 1))) else (some false))=some r:=H;have A15:=zh A150;clear A150
       by_cases c16 : t108=true
       ·
        subst c16
        have H1 : (spec_l00Word.l0 k2 a0 (wrap64 (x3_2 + 1)))=some r:=by rw [if_pos rfl] at H;exact H
        clear H;have H:=H1;clear H1;have H':=zh H;clear H;have p11 : 0≤(x3_2 : Int):=zy (by first|(with_reducible assumption)|assumption);have q11 : x3_2<(a0.size : Int):=zy (by first|(with_reducible assumption)|assumption);have hx11:=bt_at a0 x3_2;replace p11:=eq_true p11;replace q11:=eq_true q11
        go_wp2_with (first|((with_reducible refine zJ (f:=78) rfl ?_);refine yj (some 27) rfl rfl Tryd.func78 (by kernel_rfl) rfl #[.int .u8 (bt a0 x3_2)] rfl (by (try simp only [zt,zu,zv]);first|done|rfl|(simp only [zw,zx];rfl)|(simp only [yr,ys,zV,zW];rfl)) ?_;(with_reducible refine (spec_l00Letter.calls  (bt a0 x3_2) false _ A12.out).mono ?_);rintro e w' ⟨rfl,⟨nd,rfl⟩⟩;refine ⟨_,rfl,?_⟩;have p14 : 0≤(x3_2 : Int):=zy (by first|(with_reducible assumption)|assumption);have q14 : x3_2<(a0.size : Int):=zy (by first|(with_reducible assumption)|assumption);have hx14:=bt_at a0 x3_2;replace p14:=eq_true p14;replace q14:=eq_true q14)|(go_at_call 79;(with_reducible refine (spec_l00Digit.calls  (bt a0 x3_2) true _ A15.out).mono ?_);rintro e w' ⟨rfl,⟨nd,rfl⟩⟩))
        go_roundg k2
        case measure => have:=HJ1.out;have:=HK2.out;omega
        case rel => exact ⟨(wrap64 (x3_2 + 1)),(by first|rfl|(simp;done)|(simp [*];done)),H',⟨by have:=HJ1.out;have:=HK2.out;omega⟩,by repeat (first|exact yp _|apply yq)⟩
       replace c16:=yb.mpr c16;subst c16;have H1 : (some false)=some r:=by rw [if_neg (show ¬ (false=true) by decide)] at H;exact H
       clear H;have H:=H1;clear H1;obtain rfl:=zU H;have p11 : 0≤(x3_2 : Int):=zy (by first|(with_reducible assumption)|assumption);have q11 : x3_2<(a0.size : Int):=zy (by first|(with_reducible assumption)|assumption);have hx11:=bt_at a0 x3_2;replace p11:=eq_true p11;replace q11:=eq_true q11
       go_wp2_with (first|((with_reducible refine zJ (f:=78) rfl ?_);refine yj (some 27) rfl rfl Tryd.func78 (by kernel_rfl) rfl #[.int .u8 (bt a0 x3_2)] rfl (by (try simp only [zt,zu,zv]);first|done|rfl|(simp only [zw,zx];rfl)|(simp only [yr,ys,zV,zW];rfl)) ?_;(with_reducible refine (spec_l00Letter.calls  (bt a0 x3_2) false _ A12.out).mono ?_);rintro e w' ⟨rfl,⟨nd,rfl⟩⟩;refine ⟨_,rfl,?_⟩;have p14 : 0≤(x3_2 : Int):=zy (by first|(with_reducible assumption)|assumption);have q14 : x3_2<(a0.size : Int):=zy (by first|(with_reducible assumption)|assumption);have hx14:=bt_at a0 x3_2;replace p14:=eq_true p14;replace q14:=eq_true q14)|(go_at_call 79;(with_reducible refine (spec_l00Digit.calls  (bt a0 x3_2) false _ A15.out).mono ?_);rintro e w' ⟨rfl,⟨nd,rfl⟩⟩))
       go_ret
       exact ⟨by first|rfl|(simp;done)|(simp [*];done),by repeat (first|exact yp _|apply yq)⟩
      rw [if_neg c10] at H;exact absurd H (by simp)
     rw [if_neg c9] at H;have c9b0 : decide (x3_2<(a0.size : Int))=false:=decide_eq_false c9;clear c9;obtain rfl:=zU H
     go_wp2
     go_ret
     exact ⟨by first|rfl|(simp;done)|(simp [*];done),by repeat (first|exact yp _|apply yq)⟩

end Go.Proofs.YthjgfjlogilleaaDoor.Q
end
section
namespace Go.Proofs.YthjgfjlogilleaaDoor.Q
open Go.RowKit Go.Proofs.YthjgfjlogilleaaDoorW.PrintWords Go.Proofs.YthjgfjlogilleaaDoorW.PrintLast Go.Proofs.YthjgfjlogilleaaDoorW.PrintMore
attribute [local go_sem] max2_int min2_int max_two min_two max_three min_three max_four min_four max2_str min2_str str_geq str_gtr str_leq
set_option linter.unusedVariables false
set_option linter.unusedSimpArgs false

def spec_NameOK.f (k : Nat) (a0 : ByteArray) : Option (Bool):=(spec_l00Word.f k a0).bind fun t109 => (some t109)
theorem spec_NameOK.mono : ∀ a0 k,LeO (spec_NameOK.f k a0) (spec_NameOK.f (k + 1) a0):=by
 intro a0 k;unfold spec_NameOK.f
 repeat' first|(with_reducible first|exact spec_l00Word.mono _ _|exact zQ _|exact zN _|refine zP ?_ ?_|refine zO ?_ (fun _ => ?_))|refine zP ?_ ?_|refine zO ?_ (fun _ => ?_)
set_option maxHeartbeats 8000000 in
set_option maxRecDepth 100000 in
theorem spec_NameOK.calls (k : Nat) (a0 : ByteArray) (r : Bool) (w : World) (h : spec_NameOK.f k a0=some r) :
  Calls Tryd.prog 48 #[.string a0] w fun e w' => e = .returned (.bool r)∧Drawn0 w w':=by
 have H : ((spec_l00Word.f k a0).bind fun t109 => (some t109))=some r:=h;clear h;replace H:=zT.mp H;obtain ⟨t109,A20,H⟩:=H;replace H : (some t109)=some r:=H;have A2:=zh A20;clear A20;obtain rfl:=zU H
 go_enter Tryd.func48,Tryd.ntmps48
 go_wp2_with (first|((with_reducible refine zJ (f:=63) rfl ?_);refine yj (some 4) rfl rfl Tryd.func63 (by kernel_rfl) rfl #[.string a0] rfl (by (try simp only [zt,zu,zv]);first|done|rfl|(simp only [zw,zx];rfl)|(simp only [yr,ys,zV,zW];rfl)) ?_;(with_reducible refine (spec_l00Word.calls k  a0 t109 _ A2.out).mono ?_);rintro e w' ⟨rfl,⟨nd,rfl⟩⟩;refine ⟨_,rfl,?_⟩))
 go_ret
 exact ⟨by first|rfl|(simp;done)|(simp [*];done),by repeat (first|exact yp _|apply yq)⟩


def spec_l01Name.f (k : Nat) (a0 : ByteArray) : Option (Bool):=(spec_NameOK.f k a0).bind fun t110 => (if t110=true then (some (decide ((a0.size : Int)≤12))) else (some false))
theorem spec_l01Name.mono : ∀ a0 k,LeO (spec_l01Name.f k a0) (spec_l01Name.f (k + 1) a0):=by
 intro a0 k;unfold spec_l01Name.f
 repeat' first|(with_reducible first|exact spec_NameOK.mono _ _|exact zQ _|exact zN _|refine zP ?_ ?_|refine zO ?_ (fun _ => ?_))|refine zP ?_ ?_|refine zO ?_ (fun _ => ?_)
set_option maxHeartbeats 8000000 in
set_option maxRecDepth 100000 in
theorem spec_l01Name.calls (k : Nat) (a0 : ByteArray) (r : Bool) (w : World) (h : spec_l01Name.f k a0=some r) :
  Calls Tryd.prog 28 #[.string a0] w fun e w' => e = .returned (.bool r)∧Drawn0 w w':=by
 have H : ((spec_NameOK.f k a0).bind fun t110 => (if t110=true then (some (decide ((a0.size : Int)≤12))) else (some false)))=some r:=h;clear h;replace H:=zT.mp H;obtain ⟨t110,A20,H⟩:=H;replace H : (if t110=true then (some (decide ((a0.size : Int)≤12))) else (some false))=some r:=H;have A2:=zh A20;clear A20
 by_cases c3 : t110=true
 ·
  subst c3
  have H1 : (some (decide ((a0.size : Int)≤12)))=some r:=by rw [if_pos rfl] at H;exact H
  clear H;have H:=H1;clear H1;obtain rfl:=zU H
  go_enter Tryd.func28,Tryd.ntmps28
  go_wp2_with (first|((with_reducible refine zJ (f:=48) rfl ?_);refine yj (some 4) rfl rfl Tryd.func48 (by kernel_rfl) rfl #[.string a0] rfl (by (try simp only [zt,zu,zv]);first|done|rfl|(simp only [zw,zx];rfl)|(simp only [yr,ys,zV,zW];rfl)) ?_;(with_reducible refine (spec_NameOK.calls k  a0 true _ A2.out).mono ?_);rintro e w' ⟨rfl,⟨nd,rfl⟩⟩;refine ⟨_,rfl,?_⟩))
  go_ret
  exact ⟨by first|rfl|(simp;done)|(simp [*];done),by repeat (first|exact yp _|apply yq)⟩
 replace c3:=yb.mpr c3;subst c3;have H1 : (some false)=some r:=by rw [if_neg (show ¬ (false=true) by decide)] at H;exact H
 clear H;have H:=H1;clear H1;obtain rfl:=zU H
 go_enter Tryd.func28,Tryd.ntmps28
 go_wp2_with (first|((with_reducible refine zJ (f:=48) rfl ?_);refine yj (some 4) rfl rfl Tryd.func48 (by kernel_rfl) rfl #[.string a0] rfl (by (try simp only [zt,zu,zv]);first|done|rfl|(simp only [zw,zx];rfl)|(simp only [yr,ys,zV,zW];rfl)) ?_;(with_reducible refine (spec_NameOK.calls k  a0 false _ A2.out).mono ?_);rintro e w' ⟨rfl,⟨nd,rfl⟩⟩;refine ⟨_,rfl,?_⟩))
 go_ret
 exact ⟨by first|rfl|(simp;done)|(simp [*];done),by repeat (first|exact yp _|apply yq)⟩


def spec_l01In.f (a0 : Int) (a1 : Int) (a2 : Int) : Option (Bool):=if a1≤a0 then (some (decide (a0≤a2))) else (some false)
set_option maxHeartbeats 8000000 in
set_option maxRecDepth 100000 in
theorem spec_l01In.calls (a0 : Int) (a1 : Int) (a2 : Int) (r : Bool) (w : World) (h : spec_l01In.f a0 a1 a2=some r) :
  Calls Tryd.prog 29 #[.int .i64 a0,.int .i64 a1,.int .i64 a2] w fun e w' => e = .returned (.bool r)∧Drawn0 w w':=by
 have H : (if a1≤a0 then (some (decide (a0≤a2))) else (some false))=some r:=h;clear h
 by_cases c4 : a1≤a0
 ·
  rw [if_pos c4] at H
  have c4b0 : decide (a1≤a0)=true:=decide_eq_true c4;clear c4;obtain rfl:=zU H
  go_enter Tryd.func29,Tryd.ntmps29
  go_wp2
  go_ret
  exact ⟨by first|rfl|(simp;done)|(simp [*];done),by repeat (first|exact yp _|apply yq)⟩
 rw [if_neg c4] at H;have c4b0 : decide (a1≤a0)=false:=decide_eq_false c4;clear c4;obtain rfl:=zU H
 go_enter Tryd.func29,Tryd.ntmps29
 go_wp2
 go_ret
 exact ⟨by first|rfl|(simp;done)|(simp [*];done),by repeat (first|exact yp _|apply yq)⟩


def spec_l00Cut.l0 : Nat→ByteArray→Int→List ByteArray→Int→Int→Option (List ByteArray)
 | 0,_,_,_,_,_ => none
 | k + 1,x0,x1,x5,x6,x7 => if x7<(x0.size : Int) then (if 0≤x7 then (if (bt x0 x7)=x1 then (if 0≤x6 then (if x6≤x7 then (if x7≤(x0.size : Int) then (if x5.length<8796093022208 then (spec_l00Cut.l0 k x0 x1 (x5 ++ [x0.extract (x6 : Int).toNat (x7 : Int).toNat]) (wrap64 (x7 + 1)) (wrap64 (x7 + 1))) else (none)) else (none)) else (none)) else (none)) else (spec_l00Cut.l0 k x0 x1 x5 x6 (wrap64 (x7 + 1)))) else (none)) else (if 0≤x6 then (if x6≤(x0.size : Int) then (if x5.length<8796093022208 then (some (x5 ++ [x0.extract (x6 : Int).toNat x0.size])) else (none)) else (none)) else (none))
def spec_l00Cut.f (k : Nat) (a0 : ByteArray) (a1 : Int) : Option (List ByteArray):=spec_l00Cut.l0 k a0 a1 (([] : List ByteArray)) 0 0
theorem spec_l00Cut.mono_l : ∀ k,(∀ y0 y1 y2 y3 y4,LeO (spec_l00Cut.l0 k y0 y1 y2 y3 y4) (spec_l00Cut.l0 (k + 1) y0 y1 y2 y3 y4))
 | 0 => fun _ _ _ _ _ r h => by simp [spec_l00Cut.l0] at h
 | k + 1 => by
  have ih0:=spec_l00Cut.mono_l k;intro y0 y1 y2 y3 y4;unfold spec_l00Cut.l0
  repeat' first|(with_reducible first|exact ih0 _ _ _ _ _|exact zQ _|exact zN _|refine zP ?_ ?_|refine zO ?_ (fun _ => ?_))|refine zP ?_ ?_|refine zO ?_ (fun _ => ?_)
theorem spec_l00Cut.mono : ∀ a0 a1 k,LeO (spec_l00Cut.f k a0 a1) (spec_l00Cut.f (k + 1) a0 a1):=by
 intro a0 a1 k;have ih0:=spec_l00Cut.mono_l k;unfold spec_l00Cut.f
 repeat' first|(with_reducible first|exact ih0 _ _ _ _ _|exact zQ _|exact zN _|refine zP ?_ ?_|refine zO ?_ (fun _ => ?_))|refine zP ?_ ?_|refine zO ?_ (fun _ => ?_)
set_option maxHeartbeats 8000000 in
set_option maxRecDepth 100000 in
theorem spec_l00Cut.calls (k : Nat) (a0 : ByteArray) (a1 : Int) (r : List ByteArray) (w : World) (h : spec_l00Cut.f k a0 a1=some r) :
  Calls Tryd.prog 49 #[.string a0,.int .u8 a1] w fun e w' => ∃ v0_ : Value,e = .returned (v0_)∧Kd.R Kd.string 9 w' w.heap.size (fun _ => True) v0_ r∧Below w.heap.size w w':=by
 have HB:=zh (Below.refl w.heap.size w);have H : (spec_l00Cut.l0 k a0 a1 (([] : List ByteArray)) 0 0)=some r:=h;clear h;obtain ⟨y111,hy111⟩ : ∃ y_ : List ByteArray,y_=(([] : List ByteArray)):=⟨_,rfl⟩;replace H : (spec_l00Cut.l0 k a0 a1 y111 0 0)=some r:=by first|(rw [hy111];with_reducible exact H)|(have H2_:=(Option.bind_some _ _).symm.trans H;rw [hy111];with_reducible exact H2_)|(have H2_:=(Option.bind_some _ _).symm.trans H;with_reducible exact H2_)|with_reducible exact H|(rw [hy111];exact H)|exact H
 have Ny111:=zh hy111;clear hy111;have H':=zh H;clear H
 go_enter Tryd.func49,Tryd.ntmps49
 go_wp2_with (first|((with_reducible refine zK (N:=8) rfl ?_);refine Kd.R_lit Kd.string _ 9 ?hg (N:=8) ?hd (xs:=([] : List ByteArray)) (inner:=[]) (ok:=fun _ => True) (okp:=fun _ => True) ?hr ?hp (fun _ hk => hk) trivial (Below.refl _ _) (ye _) (by simp) ?_;(case hd => rfl);(case hg => rfl);(case hr => first|(go_simp;done)|(go_simp;rfl));(case hp => exact (Reps.none _ _));intro v112 w3 ho4 hb hg_ hnew_;clear hg_ hnew_;(first|rw [← Ny111.out] at ho4|(simp only [Int.reduceToNat] at ho4;rw [← Ny111.out] at ho4));have HO113:=zh (yy ho4 (zB (by repeat (with_reducible first|exact HB.out|apply za|apply zb|apply zc))));replace HB:=zh (zC (by repeat (with_reducible first|exact HB.out|apply za|apply zb|apply zc)) hb);clear hb ho4))
 go_loopg [5,6,7] k (fun kq v5 v6 v7 w' => ∃ (x5_1 : List ByteArray) (x6_1 : Int) (x7_1 : Int),v6 = .int .i64 x6_1∧v7 = .int .i64 x7_1∧Aside0 (spec_l00Cut.l0 kq a0 a1 x5_1 x6_1 x7_1=some r)∧Aside0 (kq≤k)∧Aside0 (Kd.R Kd.string 9 w' w.heap.size (fun _ => True) v5 x5_1)∧Aside0 (Below w.heap.size w w'))
 case atStart => exact ⟨(y111),(0),(0),(by first|rfl|(simp;done)|(simp [*];done)),(by first|rfl|(simp;done)|(simp [*];done)),H',⟨ye _⟩,⟨by (with_reducible repeat (first|apply zm|apply zn|apply zo));exact HO113.out⟩,⟨by repeat (with_reducible first|exact HB.out|apply za|apply zb|apply zc)⟩⟩
 case round =>
  clear H'
  try clear p2
  try clear c4
  obtain ⟨x5_1,x6_1,x7_1,rfl,rfl,HA,HK1,HO_5,HB⟩:=hrel
  cases gk with
  | zero => exact absurd HA.out (by simp [spec_l00Cut.l0])
  | succ k1 =>
   have H:=HA.out;clear HA;simp only [spec_l00Cut.l0] at H
   by_cases c5 : x7_1<(a0.size : Int)
   ·
    rw [if_pos c5] at H
    have c5b0 : decide (x7_1<(a0.size : Int))=true:=decide_eq_true c5;clear c5
    by_cases c6 : 0≤x7_1
    ·
     rw [if_pos c6] at H
     have c6b0 : decide (0≤x7_1)=true:=decide_eq_true c6;clear c6
     by_cases c8 : (bt a0 x7_1)=a1
     ·
      rw [if_pos c8] at H
      have c8b0 : ((bt a0 x7_1) == a1)=true:=ya.mpr c8;have c8b1 : ((bt a0 x7_1) != a1)=false:=zX.mpr c8;clear c8
      by_cases c9 : 0≤x6_1
      ·
       rw [if_pos c9] at H
       have c9b0:=eq_true c9;have c9b1 : decide (0≤x6_1)=true:=decide_eq_true c9;clear c9
       by_cases c10 : x6_1≤x7_1
       ·
        rw [if_pos c10] at H
        have c10b0:=eq_true c10;have c10b1 : decide (x6_1≤x7_1)=true:=decide_eq_true c10;clear c10
        by_cases c11 : x7_1≤(a0.size : Int)
        ·
         rw [if_pos c11] at H
         have c11b0:=eq_true c11;have c11b1 : decide (x7_1≤(a0.size : Int))=true:=decide_eq_true c11;clear c11
         by_cases c12 : x5_1.length<8796093022208
         ·
          rw [if_pos c12] at H
          have LMc12:=zh c12;clear c12;obtain ⟨y114,hy114⟩ : ∃ y_ : List ByteArray,y_=(x5_1 ++ [a0.extract (x6_1 : Int).toNat (x7_1 : Int).toNat]):=⟨_,rfl⟩;replace H : (spec_l00Cut.l0 k1 a0 a1 y114 (wrap64 (x7_1 + 1)) (wrap64 (x7_1 + 1)))=some r:=by first|(rw [hy114];with_reducible exact H)|(have H2_:=(Option.bind_some _ _).symm.trans H;rw [hy114];with_reducible exact H2_)|(have H2_:=(Option.bind_some _ _).symm.trans H;with_reducible exact H2_)|with_reducible exact H|(rw [hy114];exact H)|exact H
          have Ny114:=zh hy114;clear hy114;have H':=zh H;clear H;have p7 : 0≤(x7_1 : Int):=zy (by first|(with_reducible assumption)|assumption);have q7 : x7_1<(a0.size : Int):=zy (by first|(with_reducible assumption)|assumption);have hx7:=bt_at a0 x7_1;replace p7:=eq_true p7;replace q7:=eq_true q7
          go_wp2_with (first|((with_reducible refine yB (b:=.append) (xs:=#[.tmp 20,.tmp 25]) rfl ?_);at_builtin;refine Kd.R_append Kd.string (w0:=w) w.heap.size rfl (.tmp 20) (.tmp 25) 74 9 (.string ⟨#[]⟩) 16 rfl Tryd.underlying74 info9 rfl (by decide) (by omega) u5 x5_1 (a0.extract (x6_1 : Int).toNat (x7_1 : Int).toNat) [.string (a0.extract (x6_1 : Int).toNat (x7_1 : Int).toNat)] (fun _ => True) (fun _ => False) rfl rfl ?aP (fun _ hk => hk.elim) ?aF ?aO ?aB ?aS ?aL ?_;(case aP => exact rfl);(case aB => exact (by repeat (with_reducible first|exact HB.out|apply za|apply zb|apply zc)));(case aF => exact (fun _ _ => trivial));(case aO => exact (by (with_reducible repeat (first|apply zm|apply zn|apply zo));exact HO_5.out));(case aS => exact (zB (by repeat (with_reducible first|exact HB.out|apply za|apply zb|apply zc))));(case aL => have:=LMc12.out;omega);intro v115 w13 ho hb hg hat;rw [← Ny114.out] at ho;replace HB:=zh (hb);have HO116:=zh (ho);clear HO_5 ho hb hg hat))
          go_roundg k1
          case measure => have:=HK1.out;omega
          case rel => exact ⟨(y114),(wrap64 (x7_1 + 1)),(wrap64 (x7_1 + 1)),(by first|rfl|(simp;done)|(simp [*];done)),(by first|rfl|(simp;done)|(simp [*];done)),H',⟨by have:=HK1.out;omega⟩,⟨by (with_reducible repeat (first|apply zm|apply zn|apply zo));exact HO116.out⟩,⟨by repeat (with_reducible first|exact HB.out|apply za|apply zb|apply zc)⟩⟩
         rw [if_neg c12] at H;exact absurd H (by simp)
        rw [if_neg c11] at H;exact absurd H (by simp)
       rw [if_neg c10] at H;exact absurd H (by simp)
      rw [if_neg c9] at H;exact absurd H (by simp)
     rw [if_neg c8] at H;have c8b0 : ((bt a0 x7_1) == a1)=false:=zY.mpr c8;have c8b1 : ((bt a0 x7_1) != a1)=true:=zZ.mpr c8;have H':=zh H;clear H;have p7 : 0≤(x7_1 : Int):=zy (by first|(with_reducible assumption)|assumption);have q7 : x7_1<(a0.size : Int):=zy (by first|(with_reducible assumption)|assumption);have hx7:=bt_at a0 x7_1;replace p7:=eq_true p7;replace q7:=eq_true q7
     go_wp2
     go_roundg k1
     case measure => have:=HK1.out;omega
     case rel => exact ⟨(x5_1),(x6_1),(wrap64 (x7_1 + 1)),(by first|rfl|(simp;done)|(simp [*];done)),(by first|rfl|(simp;done)|(simp [*];done)),H',⟨by have:=HK1.out;omega⟩,⟨by (with_reducible repeat (first|apply zm|apply zn|apply zo));exact HO_5.out⟩,⟨by repeat (with_reducible first|exact HB.out|apply za|apply zb|apply zc)⟩⟩
    rw [if_neg c6] at H;exact absurd H (by simp)
   rw [if_neg c5] at H;have c5b0 : decide (x7_1<(a0.size : Int))=false:=decide_eq_false c5;clear c5
   by_cases c14 : 0≤x6_1
   ·
    rw [if_pos c14] at H
    have c14b0:=eq_true c14;have c14b1 : decide (0≤x6_1)=true:=decide_eq_true c14;clear c14
    by_cases c15 : x6_1≤(a0.size : Int)
    ·
     rw [if_pos c15] at H
     have c15b0:=eq_true c15;have c15b1 : decide (x6_1≤(a0.size : Int))=true:=decide_eq_true c15;clear c15
     by_cases c16 : x5_1.length<8796093022208
     ·
      rw [if_pos c16] at H
      have LMc16:=zh c16;clear c16;obtain ⟨y117,hy117⟩ : ∃ y_ : List ByteArray,y_=(x5_1 ++ [a0.extract (x6_1 : Int).toNat a0.size]):=⟨_,rfl⟩;replace H : (some y117)=some r:=by first|(rw [hy117];with_reducible exact H)|(have H2_:=(Option.bind_some _ _).symm.trans H;rw [hy117];with_reducible exact H2_)|(have H2_:=(Option.bind_some _ _).symm.trans H;with_reducible exact H2_)|with_reducible exact H|(rw [hy117];exact H)|exact H
      have Ny117:=zh hy117;clear hy117;obtain rfl:=zU H
      go_wp2_with (first|((with_reducible refine yB (b:=.append) (xs:=#[.tmp 29,.tmp 33]) rfl ?_);at_builtin;refine Kd.R_append Kd.string (w0:=w) w.heap.size rfl (.tmp 29) (.tmp 33) 74 9 (.string ⟨#[]⟩) 16 rfl Tryd.underlying74 info9 rfl (by decide) (by omega) u5 x5_1 (a0.extract (x6_1 : Int).toNat a0.size) [.string (a0.extract (x6_1 : Int).toNat a0.size)] (fun _ => True) (fun _ => False) rfl rfl ?aP (fun _ hk => hk.elim) ?aF ?aO ?aB ?aS ?aL ?_;(case aP => exact rfl);(case aB => exact (by repeat (with_reducible first|exact HB.out|apply za|apply zb|apply zc)));(case aF => exact (fun _ _ => trivial));(case aO => exact (by (with_reducible repeat (first|apply zm|apply zn|apply zo));exact HO_5.out));(case aS => exact (zB (by repeat (with_reducible first|exact HB.out|apply za|apply zb|apply zc))));(case aL => have:=LMc16.out;omega);intro v118 w17 ho hb hg hat;rw [← Ny117.out] at ho;replace HB:=zh (hb);have HO119:=zh (ho);clear HO_5 ho hb hg hat))
      go_ret
      exact ⟨_,by first|rfl|(simp [yt,yu] <;> rfl)|(simp [*,yt,yu] <;> rfl),by (with_reducible repeat (first|apply zm|apply zn|apply zo));exact HO119.out,by repeat (with_reducible first|exact HB.out|apply za|apply zb|apply zc)⟩
     rw [if_neg c16] at H;exact absurd H (by simp)
    rw [if_neg c15] at H;exact absurd H (by simp)
   rw [if_neg c14] at H;exact absurd H (by simp)

end Go.Proofs.YthjgfjlogilleaaDoor.Q
end
section
namespace Go.Proofs.YthjgfjlogilleaaDoor.Q
open Go.RowKit Go.Proofs.YthjgfjlogilleaaDoorW.PrintWords Go.Proofs.YthjgfjlogilleaaDoorW.PrintLast Go.Proofs.YthjgfjlogilleaaDoorW.PrintMore
attribute [local go_sem] max2_int min2_int max_two min_two max_three min_three max_four min_four max2_str min2_str str_geq str_gtr str_leq   -- for this text's walks alone
set_option linter.unusedVariables false
set_option linter.unusedSimpArgs false

mutual
def spec_PathOK.j0 : Nat→List ByteArray→Bool→Option (Bool)
 | 0,_,_ => none
 | k + 1,x3,x17 => if x17=true then (some false) else (spec_PathOK.l0 k x3 0)
def spec_PathOK.l0 : Nat→List ByteArray→Int→Option (Bool)
 | 0,_,_ => none
 | k + 1,x3,x4 => if x4<(x3.length : Int) then (if 0≤x4 then ((spec_l01Name.f k (rdOf ByteArray.empty x3 x4)).bind fun t124 => (if t124=true then (spec_PathOK.l0 k x3 (wrap64 (x4 + 1))) else (some false))) else (none)) else (some true)
end
def spec_PathOK.f (k : Nat) (a0 : ByteArray) : Option (Bool):=if (a0.size : Int) > 65536 then (some false) else ((spec_l00Cut.f k a0 46).bind fun t120 => (if (t120.length : Int) > 4 then (spec_PathOK.j0 k t120 true) else (spec_PathOK.j0 k t120 (decide ((a0.size : Int) > 50)))))
theorem spec_PathOK.mono_l : ∀ k,(∀ y0 y1,LeO (spec_PathOK.j0 k y0 y1) (spec_PathOK.j0 (k + 1) y0 y1))∧(∀ y0 y1,LeO (spec_PathOK.l0 k y0 y1) (spec_PathOK.l0 (k + 1) y0 y1))
 | 0 => ⟨fun _ _ r h => by simp [spec_PathOK.j0] at h,fun _ _ r h => by simp [spec_PathOK.l0] at h⟩
 | k + 1 => by
  obtain ⟨ih0,ih1⟩:=spec_PathOK.mono_l k;refine ⟨?_,?_⟩
  ·
   intro y0 y1
   unfold spec_PathOK.j0
   repeat' first|(with_reducible first|exact ih0 _ _|exact ih1 _ _|exact spec_l01Name.mono _ _|exact spec_l00Cut.mono _ _ _|exact zQ _|exact zN _|refine zP ?_ ?_|refine zO ?_ (fun _ => ?_))|refine zP ?_ ?_|refine zO ?_ (fun _ => ?_)
  intro y0 y1;unfold spec_PathOK.l0
  repeat' first|(with_reducible first|exact ih0 _ _|exact ih1 _ _|exact spec_l01Name.mono _ _|exact spec_l00Cut.mono _ _ _|exact zQ _|exact zN _|refine zP ?_ ?_|refine zO ?_ (fun _ => ?_))|refine zP ?_ ?_|refine zO ?_ (fun _ => ?_)
theorem spec_PathOK.mono : ∀ a0 k,LeO (spec_PathOK.f k a0) (spec_PathOK.f (k + 1) a0):=by
 intro a0 k;obtain ⟨ih0,ih1⟩:=spec_PathOK.mono_l k;unfold spec_PathOK.f
 repeat' first|(with_reducible first|exact ih0 _ _|exact ih1 _ _|exact spec_l01Name.mono _ _|exact spec_l00Cut.mono _ _ _|exact zQ _|exact zN _|refine zP ?_ ?_|refine zO ?_ (fun _ => ?_))|refine zP ?_ ?_|refine zO ?_ (fun _ => ?_)
set_option maxHeartbeats 8000000 in
set_option maxRecDepth 100000 in
theorem spec_PathOK.calls (k : Nat) (a0 : ByteArray) (r : Bool) (w : World) (h : spec_PathOK.f k a0=some r) :
  Calls Tryd.prog 30 #[.string a0] w fun e w' => e = .returned (.bool r)∧Below w.heap.size w w':=by
 have HB:=zh (Below.refl w.heap.size w);have H : (if (a0.size : Int) > 65536 then (some false) else ((spec_l00Cut.f k a0 46).bind fun t120 => (if (t120.length : Int) > 4 then (spec_PathOK.j0 k t120 true) else (spec_PathOK.j0 k t120 (decide ((a0.size : Int) > 50))))))=some r:=h;clear h
 by_cases c2 : (a0.size : Int) > 65536
 ·
  rw [if_pos c2] at H
  have c2b0 : decide (65536<(a0.size : Int))=true:=decide_eq_true c2;have c2b1 : decide (65536<a0.size)=true:=decide_eq_true (by omega);clear c2;obtain rfl:=zU H
  go_enter Tryd.func30,Tryd.ntmps30
  go_wp2
  go_ret
  exact ⟨by first|rfl|(simp [yt,yu] <;> rfl)|(simp [*,yt,yu] <;> rfl),by repeat (with_reducible first|exact HB.out|apply za|apply zb|apply zc)⟩
 rw [if_neg c2] at H;have c2b0 : decide (65536<(a0.size : Int))=false:=decide_eq_false c2;have c2b1 : decide (65536<a0.size)=false:=decide_eq_false (by omega);clear c2;replace H:=zT.mp H;obtain ⟨t120,A30,H⟩:=H;replace H : (if (t120.length : Int) > 4 then (spec_PathOK.j0 k t120 true) else (spec_PathOK.j0 k t120 (decide ((a0.size : Int) > 50))))=some r:=H;have A3:=zh A30;clear A30;have HC4:=zh H;clear H
 go_enter Tryd.func30,Tryd.ntmps30
 go_upto_region 4 with (first|((with_reducible refine zJ (f:=49) rfl ?_);refine yj (some 9) rfl rfl Tryd.func49 (by kernel_rfl) rfl #[.string a0,.int .u8 46] rfl (by (try simp only [zt,zu,zv]);first|done|rfl|(simp only [zw,zx];rfl)|(simp only [yr,ys,zV,zW];rfl)) ?_;(with_reducible refine (spec_l00Cut.calls k  a0 46 t120 _ A3.out).mono ?_);rintro e w5 ⟨v121,rfl,ho0,hb⟩;refine ⟨_,rfl,?_⟩;have HO122:=zh (yy ho0 (zB (by repeat (with_reducible first|exact HB.out|apply za|apply zb|apply zc))));replace HB:=zh (zC (by repeat (with_reducible first|exact HB.out|apply za|apply zb|apply zc)) hb);(try clear hb);(try clear hb2);(try clear hk);(try clear hi);(try clear ho0)))
 (try simp only [Act.put,zi,zj,zk])
 go_cut [17] (fun v17 wc => ∃ (kq : Nat) (x17_3 : Bool),v17 = .bool x17_3∧Aside0 (spec_PathOK.j0 kq t120 x17_3=some r)∧Aside0 (kq≤k)∧Aside0 (Kd.R Kd.string 9 wc w.heap.size (fun _ => True) v121 t120)∧Aside0 (Below w.heap.size w wc))
 case first =>
  have H:=HC4.out;clear HC4
  by_cases c6 : (t120.length : Int) > 4
  ·
   rw [if_pos c6] at H
   have c6b0 : decide (4<(t120.length : Int))=true:=decide_eq_true c6;have c6b1 : decide (4<t120.length)=true:=decide_eq_true (by omega);clear c6;(first|rw [c6b0]|(simp only [zG,zH];rw [c6b0])|skip);have H':=zh H;clear H;obtain ⟨Ao7,co7,eo7⟩:=yk HO122.out;subst eo7
   go_wp2
   go_meet
   case rel => exact ⟨_,(true),(by first|rfl|(simp;done)|(simp [*];done)),H',⟨by first|omega|exact ye _⟩,⟨by (with_reducible repeat (first|apply zm|apply zn|apply zo));exact HO122.out⟩,⟨by repeat (with_reducible first|exact HB.out|apply za|apply zb|apply zc)⟩⟩
  rw [if_neg c6] at H;have c6b0 : decide (4<(t120.length : Int))=false:=decide_eq_false c6;have c6b1 : decide (4<t120.length)=false:=decide_eq_false (by omega);clear c6;(first|rw [c6b0]|(simp only [zG,zH];rw [c6b0])|skip);have H':=zh H;clear H;obtain ⟨Ao8,co8,eo8⟩:=yk HO122.out;subst eo8
  go_wp2
  go_meet
  case rel => exact ⟨_,(decide ((a0.size : Int) > 50)),(by first|rfl|(simp;done)|(simp [*];done)),H',⟨by first|omega|exact ye _⟩,⟨by (with_reducible repeat (first|apply zm|apply zn|apply zo));exact HO122.out⟩,⟨by repeat (with_reducible first|exact HB.out|apply za|apply zb|apply zc)⟩⟩
 case rest =>
  clear HC4
  try clear c2
  try clear c2b0
  try clear c2b1
  try clear p2
  try clear c3
  try clear c4
  try clear c6
  try clear c6b0
  try clear c6b1
  obtain ⟨kq,x17_3,rfl,HA,HJ3,HO_3,HB⟩:=hcut
  cases kq with
  | zero => exact absurd HA.out (by simp [spec_PathOK.j0])
  | succ kj3 =>
   have H:=HA.out;clear HA;simp only [spec_PathOK.j0] at H
   by_cases c9 : x17_3=true
   ·
    subst c9
    have H1 : (some false)=some r:=by rw [if_pos rfl] at H;exact H
    clear H;have H:=H1;clear H1;obtain rfl:=zU H
    go_wp2
    go_ret
    exact ⟨by first|rfl|(simp [yt,yu] <;> rfl)|(simp [*,yt,yu] <;> rfl),by repeat (with_reducible first|exact HB.out|apply za|apply zb|apply zc)⟩
   replace c9:=yb.mpr c9;subst c9;have H1 : (spec_PathOK.l0 kj3 t120 0)=some r:=by rw [if_neg (show ¬ (false=true) by decide)] at H;exact H
   clear H;have H:=H1;clear H1;have H':=zh H;clear H
   go_wp2
   go_loopg [4] kj3 (fun kq v4 w' => ∃ (x4_2 : Int),v4 = .int .i64 x4_2∧Aside0 (spec_PathOK.l0 kq t120 x4_2=some r)∧Aside0 (kq≤kj3)∧Aside0 (Kd.R Kd.string 9 w' w.heap.size (fun _ => True) v121 t120)∧Aside0 (Below w.heap.size w w'))
   case atStart => exact ⟨(0),(by first|rfl|(simp;done)|(simp [*];done)),H',⟨ye _⟩,⟨by (with_reducible repeat (first|apply zm|apply zn|apply zo));exact HO_3.out⟩,⟨by repeat (with_reducible first|exact HB.out|apply za|apply zb|apply zc)⟩⟩
   case round =>
    clear H'
    try clear c2
    try clear c2b0
    try clear c2b1
    try clear p2
    try clear c3
    try clear c4
    try clear c6
    try clear c6b0
    try clear c6b1
    try clear c9
    try clear p2
    obtain ⟨x4_2,rfl,HA,HK2,HO_3,HB⟩:=hrel
    cases gk with
    | zero => exact absurd HA.out (by simp [spec_PathOK.l0])
    | succ k2 =>
     have H:=HA.out;clear HA;simp only [spec_PathOK.l0] at H
     by_cases c10 : x4_2<(t120.length : Int)
     ·
      rw [if_pos c10] at H
      have c10b0 : decide (x4_2<(t120.length : Int))=true:=decide_eq_true c10;clear c10
      by_cases c11 : 0≤x4_2
      ·
       rw [if_pos c11] at H
       have c11b0 : decide (0≤x4_2)=true:=decide_eq_true c11;clear c11;replace H:=zT.mp H;obtain ⟨t124,A120,H⟩:=H;replace H : (if t124=true then (spec_PathOK.l0 k2 t120 (wrap64 (x4_2 + 1))) else (some false))=some r:=H;have A12:=zh A120;clear A120
       by_cases c13 : t124=true
       ·
        subst c13
        have H1 : (spec_PathOK.l0 k2 t120 (wrap64 (x4_2 + 1)))=some r:=by rw [if_pos rfl] at H;exact H
        clear H;have H:=H1;clear H1;have H':=zh H;clear H;obtain ⟨Ao14,co14,eo14⟩:=yk HO_3.out;subst eo14;have p123 : 0≤(x4_2 : Int):=zy (by first|(with_reducible assumption)|assumption);have q123 : x4_2<(t120.length : Int):=zy (by first|(with_reducible assumption)|assumption);obtain ⟨ad123,e123,hx123_0⟩:=Kd.at_string (yh HO_3.out).2.2 x4_2 p123 q123
        cases e123
        replace p123:=eq_true p123;replace q123:=eq_true q123
        go_wp2_with (first|((with_reducible refine zJ (f:=28) rfl ?_);refine yj (some 28) rfl rfl Tryd.func28 (by kernel_rfl) rfl #[.string (rdOf ByteArray.empty t120 x4_2)] rfl (by (try simp only [zt,zu,zv]);first|done|rfl|(simp only [zw,zx];rfl)|(simp only [yr,ys,zV,zW];rfl)) ?_;(with_reducible refine (spec_l01Name.calls k2  (rdOf ByteArray.empty t120 x4_2) true _ A12.out).mono ?_);rintro e w' ⟨rfl,⟨nd,rfl⟩⟩;refine ⟨_,rfl,?_⟩))
        go_roundg k2
        case measure => have:=HJ3.out;have:=HK2.out;omega
        case rel => exact ⟨(wrap64 (x4_2 + 1)),(by first|rfl|(simp;done)|(simp [*];done)),H',⟨by have:=HJ3.out;have:=HK2.out;omega⟩,⟨by (with_reducible repeat (first|apply zm|apply zn|apply zo));exact HO_3.out⟩,⟨by repeat (with_reducible first|exact HB.out|apply za|apply zb|apply zc)⟩⟩
       replace c13:=yb.mpr c13;subst c13;have H1 : (some false)=some r:=by rw [if_neg (show ¬ (false=true) by decide)] at H;exact H
       clear H;have H:=H1;clear H1;obtain rfl:=zU H;obtain ⟨Ao15,co15,eo15⟩:=yk HO_3.out;subst eo15;have p123 : 0≤(x4_2 : Int):=zy (by first|(with_reducible assumption)|assumption);have q123 : x4_2<(t120.length : Int):=zy (by first|(with_reducible assumption)|assumption);obtain ⟨ad123,e123,hx123_0⟩:=Kd.at_string (yh HO_3.out).2.2 x4_2 p123 q123
       cases e123
       replace p123:=eq_true p123;replace q123:=eq_true q123
       go_wp2_with (first|((with_reducible refine zJ (f:=28) rfl ?_);refine yj (some 28) rfl rfl Tryd.func28 (by kernel_rfl) rfl #[.string (rdOf ByteArray.empty t120 x4_2)] rfl (by (try simp only [zt,zu,zv]);first|done|rfl|(simp only [zw,zx];rfl)|(simp only [yr,ys,zV,zW];rfl)) ?_;(with_reducible refine (spec_l01Name.calls k2  (rdOf ByteArray.empty t120 x4_2) false _ A12.out).mono ?_);rintro e w' ⟨rfl,⟨nd,rfl⟩⟩;refine ⟨_,rfl,?_⟩))
       go_ret
       exact ⟨by first|rfl|(simp [yt,yu] <;> rfl)|(simp [*,yt,yu] <;> rfl),by repeat (with_reducible first|exact HB.out|apply za|apply zb|apply zc)⟩
      rw [if_neg c11] at H;exact absurd H (by simp)
     rw [if_neg c10] at H;have c10b0 : decide (x4_2<(t120.length : Int))=false:=decide_eq_false c10;clear c10;obtain rfl:=zU H;obtain ⟨Ao16,co16,eo16⟩:=yk HO_3.out;subst eo16
     go_wp2
     go_ret
     exact ⟨by first|rfl|(simp [yt,yu] <;> rfl)|(simp [*,yt,yu] <;> rfl),by repeat (with_reducible first|exact HB.out|apply za|apply zb|apply zc)⟩

end Go.Proofs.YthjgfjlogilleaaDoor.Q
end
section
namespace Go.Proofs.YthjgfjlogilleaaDoor.Q
open Go.RowKit Go.Proofs.YthjgfjlogilleaaDoorW.PrintWords Go.Proofs.YthjgfjlogilleaaDoorW.PrintLast Go.Proofs.YthjgfjlogilleaaDoorW.PrintMore
attribute [local go_sem] max2_int min2_int max_two min_two max_three min_three max_four min_four max2_str min2_str str_geq str_gtr str_leq   -- for this text's walks alone
set_option linter.unusedVariables false
set_option linter.unusedSimpArgs false

mutual
def spec_DefOK.j0 : Nat→Bool→ByteArray→List (S62)→Option (Bool)
 | 0,_,_,_ => none
 | k + 1,x14,x126000,x126001 => if x14=true then (some false) else (spec_DefOK.l0 k 0 x126000 x126001)
def spec_DefOK.l0 : Nat→Int→ByteArray→List (S62)→Option (Bool)
 | 0,_,_,_ => none
 | k + 1,x3,x126000,x126001 => if x3<(x126001.length : Int) then (if 0≤x3 then ((spec_PathOK.f k ((rd_T62 x126001 x3).f0)).bind fun t129 => (if t129=true then (spec_DefOK.l0 k (wrap64 (x3 + 1)) x126000 x126001) else (some false))) else (none)) else (if (x126001.length : Int)=1 then (some true) else (if 0<(x126001.length : Int) then (if 1<(x126001.length : Int) then (some (((rd_T62 x126001 0).f0).toList != ((rd_T62 x126001 1).f0).toList)) else (none)) else (none)))
end
def spec_DefOK.f (k : Nat) (a0_0 : ByteArray) (l0_1 : List (S62)) : Option (Bool):=(spec_l01Name.f k a0_0).bind fun t126 => (if t126=true then ((spec_l01In.f (l0_1.length : Int) 1 2).bind fun t127 => (spec_DefOK.j0 k (!t127) a0_0 l0_1)) else (spec_DefOK.j0 k true a0_0 l0_1))
theorem spec_DefOK.mono_l : ∀ k,(∀ y0 y1 y2,LeO (spec_DefOK.j0 k y0 y1 y2) (spec_DefOK.j0 (k + 1) y0 y1 y2))∧(∀ y0 y1 y2,LeO (spec_DefOK.l0 k y0 y1 y2) (spec_DefOK.l0 (k + 1) y0 y1 y2))
 | 0 => ⟨fun _ _ _ r h => by simp [spec_DefOK.j0] at h,fun _ _ _ r h => by simp [spec_DefOK.l0] at h⟩
 | k + 1 => by
  obtain ⟨ih0,ih1⟩:=spec_DefOK.mono_l k;refine ⟨?_,?_⟩
  ·
   intro y0 y1 y2
   unfold spec_DefOK.j0
   repeat' first|(with_reducible first|exact ih0 _ _ _|exact ih1 _ _ _|exact spec_l01Name.mono _ _|exact spec_PathOK.mono _ _|exact zQ _|exact zN _|refine zP ?_ ?_|refine zO ?_ (fun _ => ?_))|refine zP ?_ ?_|refine zO ?_ (fun _ => ?_)
  intro y0 y1 y2;unfold spec_DefOK.l0
  repeat' first|(with_reducible first|exact ih0 _ _ _|exact ih1 _ _ _|exact spec_l01Name.mono _ _|exact spec_PathOK.mono _ _|exact zQ _|exact zN _|refine zP ?_ ?_|refine zO ?_ (fun _ => ?_))|refine zP ?_ ?_|refine zO ?_ (fun _ => ?_)
theorem spec_DefOK.mono : ∀ a0 a1 k,LeO (spec_DefOK.f k a0 a1) (spec_DefOK.f (k + 1) a0 a1):=by
 intro a0 a1 k;obtain ⟨ih0,ih1⟩:=spec_DefOK.mono_l k;unfold spec_DefOK.f
 repeat' first|(with_reducible first|exact ih0 _ _ _|exact ih1 _ _ _|exact spec_l01Name.mono _ _|exact spec_PathOK.mono _ _|exact zQ _|exact zN _|refine zP ?_ ?_|refine zO ?_ (fun _ => ?_))|refine zP ?_ ?_|refine zO ?_ (fun _ => ?_)
set_option maxHeartbeats 8000000 in
set_option maxRecDepth 100000 in
theorem spec_DefOK.calls (k : Nat) (a0_0 : ByteArray) (A0_1 : Option Addr) (c0_1 : Nat) (l0_1 : List (S62)) (r : Bool) (w : World) (hr0_1 : Kd.C k62 w A0_1 l0_1.length l0_1) (hc0_1 : l0_1.length≤c0_1) (h : spec_DefOK.f k a0_0 l0_1=some r) :
  Calls Tryd.prog 8 #[.agg #[.string a0_0,.slice A0_1 l0_1.length c0_1]] w fun e w' => e = .returned (.bool r)∧Below w.heap.size w w':=by
 have hu29:=Tryd.underlying29;have HR0_1:=zh hr0_1;have HC0_1:=zh hc0_1;clear hr0_1 hc0_1;have HB:=zh (Below.refl w.heap.size w);have H : ((spec_l01Name.f k a0_0).bind fun t126 => (if t126=true then ((spec_l01In.f (l0_1.length : Int) 1 2).bind fun t127 => (spec_DefOK.j0 k (!t127) a0_0 l0_1)) else (spec_DefOK.j0 k true a0_0 l0_1)))=some r:=h;clear h;have HC2:=zh H;clear H
 go_enter Tryd.func8,Tryd.ntmps8
 go_upto_region 1 with (first|((with_reducible refine zK (N:=1) rfl ?_);(try (refine yz (by rfl) ?_;dsimp only));refine zI ?hg (N:=1) ?hd (cs:=#[.string a0_0,.slice A0_1 l0_1.length c0_1]) (t:=29) ?hr ?_;(case hd => rfl);(case hg => rfl);(case hr => first|(go_simp;done)|(go_simp;rfl));intro gb125 hg w3 hbox hb;have BK125:=zh (hbox);have GW125:=zh ((by rw [hg];exact (zB (by repeat (with_reducible first|exact HB.out|apply za|apply zb|apply zc))) : w.heap.size≤gb125));have GE125:=zh ((by rw [hg];exact (zB (by repeat (with_reducible first|exact HB.out|apply za|apply zb|apply zc))) : w.heap.size≤gb125));replace HB:=zh (zC (by repeat (with_reducible first|exact HB.out|apply za|apply zb|apply zc)) hb);clear hb hbox hg))
 repeat (go_quiet (first|((with_reducible refine zK (N:=1) rfl ?_);(try (refine yz (by rfl) ?_;dsimp only));refine zI ?hg (N:=1) ?hd (cs:=#[.string a0_0,.slice A0_1 l0_1.length c0_1]) (t:=29) ?hr ?_;(case hd => rfl);(case hg => rfl);(case hr => first|(go_simp;done)|(go_simp;rfl));intro gb125 hg w3 hbox hb;have BK125:=zh (hbox);have GW125:=zh ((by rw [hg];exact (zB (by repeat (with_reducible first|exact HB.out|apply za|apply zb|apply zc))) : w.heap.size≤gb125));have GE125:=zh ((by rw [hg];exact (zB (by repeat (with_reducible first|exact HB.out|apply za|apply zb|apply zc))) : w.heap.size≤gb125));replace HB:=zh (zC (by repeat (with_reducible first|exact HB.out|apply za|apply zb|apply zc)) hb);clear hb hbox hg));go_upto_region 1 with (first|((with_reducible refine zK (N:=1) rfl ?_);(try (refine yz (by rfl) ?_;dsimp only));refine zI ?hg (N:=1) ?hd (cs:=#[.string a0_0,.slice A0_1 l0_1.length c0_1]) (t:=29) ?hr ?_;(case hd => rfl);(case hg => rfl);(case hr => first|(go_simp;done)|(go_simp;rfl));intro gb125 hg w3 hbox hb;have BK125:=zh (hbox);have GW125:=zh ((by rw [hg];exact (zB (by repeat (with_reducible first|exact HB.out|apply za|apply zb|apply zc))) : w.heap.size≤gb125));have GE125:=zh ((by rw [hg];exact (zB (by repeat (with_reducible first|exact HB.out|apply za|apply zb|apply zc))) : w.heap.size≤gb125));replace HB:=zh (zC (by repeat (with_reducible first|exact HB.out|apply za|apply zb|apply zc)) hb);clear hb hbox hg)))
 (try simp only [Act.put,zi,zj,zk])
 go_cut [14] (fun v14 wc => ∃ (kq : Nat) (x14_1 : Bool),v14 = .bool x14_1∧Aside0 (spec_DefOK.j0 kq x14_1 a0_0 l0_1=some r)∧Aside0 (kq≤k)∧Aside0 (wc.heap[gb125]? = some (.cells #[.string a0_0,(.slice A0_1 l0_1.length c0_1)] 29 (0,0)))∧Aside0 (Below w.heap.size w wc))
 case first =>
  have H:=HC2.out;clear HC2;replace H:=zT.mp H;obtain ⟨t126,A40,H⟩:=H;replace H : (if t126=true then ((spec_l01In.f (l0_1.length : Int) 1 2).bind fun t127 => (spec_DefOK.j0 k (!t127) a0_0 l0_1)) else (spec_DefOK.j0 k true a0_0 l0_1))=some r:=H;have A4:=zh A40;clear A40
  by_cases c5 : t126=true
  ·
   subst c5
   have H1 : ((spec_l01In.f (l0_1.length : Int) 1 2).bind fun t127 => (spec_DefOK.j0 k (!t127) a0_0 l0_1))=some r:=by rw [if_pos rfl] at H;exact H
   clear H;have H:=H1;clear H1;replace H:=zT.mp H;obtain ⟨t127,A60,H⟩:=H;replace H : (spec_DefOK.j0 k (!t127) a0_0 l0_1)=some r:=H;have A6:=zh A60;clear A60;have H':=zh H;clear H;have hcz7_0 : w3.cell? ⟨gb125,0,none⟩=some (.string a0_0):=(zz BK125.out 0).trans rfl;have hcz7_1 : w3.cell? ⟨gb125,1,none⟩=some (.slice A0_1 l0_1.length c0_1):=(zz BK125.out 1).trans rfl;have hfz7_0:=zA BK125.out 0;have hfz7_1:=zA BK125.out 1
   go_wp2_with (first|(go_at_call 28;(with_reducible refine (spec_l01Name.calls k  a0_0 true _ A4.out).mono ?_);rintro e w' ⟨rfl,⟨nd,rfl⟩⟩;(try first|exact ⟨rfl,_,World.drewN_drewN _ _ _⟩|exact ⟨rfl,_,Eq.trans (World.drewN_drewN _ _ _) (congrArg (World.drewN _) (Nat.add_assoc _ _ _))⟩))|(go_at_call 29;(with_reducible refine (spec_l01In.calls  (l0_1.length : Int) 1 2 t127 _ A6.out).mono ?_);rintro e w' ⟨rfl,⟨nd,rfl⟩⟩;(try first|exact ⟨rfl,_,World.drewN_drewN _ _ _⟩|exact ⟨rfl,_,Eq.trans (World.drewN_drewN _ _ _) (congrArg (World.drewN _) (Nat.add_assoc _ _ _))⟩)))
   repeat (go_quiet (first|(go_at_call 28;(with_reducible refine (spec_l01Name.calls k  a0_0 true _ A4.out).mono ?_);rintro e w' ⟨rfl,⟨nd,rfl⟩⟩;(try first|exact ⟨rfl,_,World.drewN_drewN _ _ _⟩|exact ⟨rfl,_,Eq.trans (World.drewN_drewN _ _ _) (congrArg (World.drewN _) (Nat.add_assoc _ _ _))⟩))|(go_at_call 29;(with_reducible refine (spec_l01In.calls  (l0_1.length : Int) 1 2 t127 _ A6.out).mono ?_);rintro e w' ⟨rfl,⟨nd,rfl⟩⟩;(try first|exact ⟨rfl,_,World.drewN_drewN _ _ _⟩|exact ⟨rfl,_,Eq.trans (World.drewN_drewN _ _ _) (congrArg (World.drewN _) (Nat.add_assoc _ _ _))⟩)));try go_wp2_with (first|(go_at_call 28;(with_reducible refine (spec_l01Name.calls k  a0_0 true _ A4.out).mono ?_);rintro e w' ⟨rfl,⟨nd,rfl⟩⟩;(try first|exact ⟨rfl,_,World.drewN_drewN _ _ _⟩|exact ⟨rfl,_,Eq.trans (World.drewN_drewN _ _ _) (congrArg (World.drewN _) (Nat.add_assoc _ _ _))⟩))|(go_at_call 29;(with_reducible refine (spec_l01In.calls  (l0_1.length : Int) 1 2 t127 _ A6.out).mono ?_);rintro e w' ⟨rfl,⟨nd,rfl⟩⟩;(try first|exact ⟨rfl,_,World.drewN_drewN _ _ _⟩|exact ⟨rfl,_,Eq.trans (World.drewN_drewN _ _ _) (congrArg (World.drewN _) (Nat.add_assoc _ _ _))⟩))))
   go_meet
   case rel => exact ⟨_,(!t127),(by first|rfl|(simp;done)|(simp [*];done)),H',⟨by first|omega|exact ye _⟩,⟨by (with_reducible repeat (first|refine ze ?_ _|refine zf ?_|refine zg ?_ _));exact BK125.out⟩,⟨by repeat (with_reducible first|exact HB.out|apply za|apply zb|apply zc|refine zd ?_ GE125.out)⟩⟩
  replace c5:=yb.mpr c5;subst c5;have H1 : (spec_DefOK.j0 k true a0_0 l0_1)=some r:=by rw [if_neg (show ¬ (false=true) by decide)] at H;exact H
  clear H;have H:=H1;clear H1;have H':=zh H;clear H;have hcz8_0 : w3.cell? ⟨gb125,0,none⟩=some (.string a0_0):=(zz BK125.out 0).trans rfl;have hcz8_1 : w3.cell? ⟨gb125,1,none⟩=some (.slice A0_1 l0_1.length c0_1):=(zz BK125.out 1).trans rfl;have hfz8_0:=zA BK125.out 0;have hfz8_1:=zA BK125.out 1
  go_wp2_with (first|(go_at_call 28;(with_reducible refine (spec_l01Name.calls k  a0_0 false _ A4.out).mono ?_);rintro e w' ⟨rfl,⟨nd,rfl⟩⟩;(try first|exact ⟨rfl,_,World.drewN_drewN _ _ _⟩|exact ⟨rfl,_,Eq.trans (World.drewN_drewN _ _ _) (congrArg (World.drewN _) (Nat.add_assoc _ _ _))⟩)))
  repeat (go_quiet (first|(go_at_call 28;(with_reducible refine (spec_l01Name.calls k  a0_0 false _ A4.out).mono ?_);rintro e w' ⟨rfl,⟨nd,rfl⟩⟩;(try first|exact ⟨rfl,_,World.drewN_drewN _ _ _⟩|exact ⟨rfl,_,Eq.trans (World.drewN_drewN _ _ _) (congrArg (World.drewN _) (Nat.add_assoc _ _ _))⟩)));try go_wp2_with (first|(go_at_call 28;(with_reducible refine (spec_l01Name.calls k  a0_0 false _ A4.out).mono ?_);rintro e w' ⟨rfl,⟨nd,rfl⟩⟩;(try first|exact ⟨rfl,_,World.drewN_drewN _ _ _⟩|exact ⟨rfl,_,Eq.trans (World.drewN_drewN _ _ _) (congrArg (World.drewN _) (Nat.add_assoc _ _ _))⟩))))
  go_meet
  case rel => exact ⟨_,(true),(by first|rfl|(simp;done)|(simp [*];done)),H',⟨by first|omega|exact ye _⟩,⟨by (with_reducible repeat (first|refine ze ?_ _|refine zf ?_|refine zg ?_ _));exact BK125.out⟩,⟨by repeat (with_reducible first|exact HB.out|apply za|apply zb|apply zc|refine zd ?_ GE125.out)⟩⟩
 case rest =>
  clear HC2
  try clear p2
  try clear c5
  try clear c8
  try clear hcz7_0
  try clear hcz7_1
  try clear hcz8_0
  try clear hcz8_1
  try clear hfz7_0
  try clear hfz7_1
  try clear hfz8_0
  try clear hfz8_1
  obtain ⟨kq,x14_1,rfl,HA,HJ1,BK125,HB⟩:=hcut
  cases kq with
  | zero => exact absurd HA.out (by simp [spec_DefOK.j0])
  | succ kj1 =>
   have H:=HA.out;clear HA;simp only [spec_DefOK.j0] at H
   by_cases c9 : x14_1=true
   ·
    subst c9
    have H1 : (some false)=some r:=by rw [if_pos rfl] at H;exact H
    clear H;have H:=H1;clear H1;obtain rfl:=zU H
    go_wp2
    repeat (go_quiet (fail);try go_wp2)
    go_ret
    exact ⟨by first|rfl|(simp [yt,yu] <;> rfl)|(simp [*,yt,yu] <;> rfl),by repeat (with_reducible first|exact HB.out|apply za|apply zb|apply zc|refine zd ?_ GE125.out)⟩
   replace c9:=yb.mpr c9;subst c9;have H1 : (spec_DefOK.l0 kj1 0 a0_0 l0_1)=some r:=by rw [if_neg (show ¬ (false=true) by decide)] at H;exact H
   clear H;have H:=H1;clear H1;have H':=zh H;clear H
   go_wp2
   repeat (go_quiet (fail);try go_wp2)
   go_loopg [3] kj1 (fun kq v3 w' => ∃ (x3_2 : Int),v3 = .int .i64 x3_2∧Aside0 (spec_DefOK.l0 kq x3_2 a0_0 l0_1=some r)∧Aside0 (kq≤kj1)∧Aside0 (w'.heap[gb125]? = some (.cells #[.string a0_0,(.slice A0_1 l0_1.length c0_1)] 29 (0,0)))∧Aside0 (Below w.heap.size w w'))
   case atStart => exact ⟨(0),(by first|rfl|(simp;done)|(simp [*];done)),H',⟨ye _⟩,⟨by (with_reducible repeat (first|refine ze ?_ _|refine zf ?_|refine zg ?_ _));exact BK125.out⟩,⟨by repeat (with_reducible first|exact HB.out|apply za|apply zb|apply zc|refine zd ?_ GE125.out)⟩⟩
   case round =>
    clear H'
    try clear p2
    try clear c5
    try clear c8
    try clear c9
    try clear hcz7_0
    try clear hcz7_1
    try clear hcz8_0
    try clear hcz8_1
    try clear hfz7_0
    try clear hfz7_1
    try clear hfz8_0
    try clear hfz8_1
    try clear p2
    obtain ⟨x3_2,rfl,HA,HK2,BK125,HB⟩:=hrel
    cases gk with
    | zero => exact absurd HA.out (by simp [spec_DefOK.l0])
    | succ k2 =>
     have H:=HA.out;clear HA;simp only [spec_DefOK.l0] at H
     by_cases c10 : x3_2<(l0_1.length : Int)
     ·
      rw [if_pos c10] at H
      have c10b0 : decide (x3_2<(l0_1.length : Int))=true:=decide_eq_true c10;clear c10
      by_cases c11 : 0≤x3_2
      ·
       rw [if_pos c11] at H
       have c11b0 : decide (0≤x3_2)=true:=decide_eq_true c11;clear c11;replace H:=zT.mp H;obtain ⟨t129,A120,H⟩:=H;replace H : (if t129=true then (spec_DefOK.l0 k2 (wrap64 (x3_2 + 1)) a0_0 l0_1) else (some false))=some r:=H;have A12:=zh A120;clear A120
       by_cases c13 : t129=true
       ·
        subst c13
        have H1 : (spec_DefOK.l0 k2 (wrap64 (x3_2 + 1)) a0_0 l0_1)=some r:=by rw [if_pos rfl] at H;exact H
        clear H;have H:=H1;clear H1;have H':=zh H;clear H;have hcz14_0 : wr.cell? ⟨gb125,0,none⟩=some (.string a0_0):=(zz BK125.out 0).trans rfl;have hcz14_1 : wr.cell? ⟨gb125,1,none⟩=some (.slice A0_1 l0_1.length c0_1):=(zz BK125.out 1).trans rfl;have hfz14_0:=zA BK125.out 0;have hfz14_1:=zA BK125.out 1;have p128 : 0≤(x3_2 : Int):=zy (by first|(with_reducible assumption)|assumption);have q128 : x3_2<(l0_1.length : Int):=zy (by first|(with_reducible assumption)|assumption);obtain ⟨ad128,e128,hx128_0,hx128_1⟩:=at_T62 HR0_1.out x3_2 p128 q128
        cases e128
        replace hx128_0:=(HB.out.cell (zl w _ hx128_0)).trans hx128_0;replace hx128_1:=(HB.out.cell (zl w _ hx128_1)).trans hx128_1;replace p128:=eq_true p128;replace q128:=eq_true q128
        go_wp2_with (first|(go_at_call 30;(with_reducible refine (spec_PathOK.calls k2  ((rd_T62 l0_1 x3_2).f0) true _ A12.out).mono ?_);rintro e w15 ⟨rfl,hb⟩;replace BK125:=zh (zD (g:=gb125) (o:=.cells #[.string a0_0,.slice (some ad128) l0_1.length c0_1] 29 (0,0)) (by (with_reducible repeat (first|refine ze ?_ _|refine zf ?_|refine zg ?_ _));exact BK125.out) hb);replace HB:=zh (zC (by repeat (with_reducible first|exact HB.out|apply za|apply zb|apply zc|refine zd ?_ GE125.out)) hb);(try clear hb);(try clear hb2);(try clear hk);(try clear hi)))
        repeat (go_quiet (first|(go_at_call 30;(with_reducible refine (spec_PathOK.calls k2  ((rd_T62 l0_1 x3_2).f0) true _ A12.out).mono ?_);rintro e w15 ⟨rfl,hb⟩;replace BK125:=zh (zD (g:=gb125) (o:=.cells #[.string a0_0,.slice (some ad128) l0_1.length c0_1] 29 (0,0)) (by (with_reducible repeat (first|refine ze ?_ _|refine zf ?_|refine zg ?_ _));exact BK125.out) hb);replace HB:=zh (zC (by repeat (with_reducible first|exact HB.out|apply za|apply zb|apply zc|refine zd ?_ GE125.out)) hb);(try clear hb);(try clear hb2);(try clear hk);(try clear hi)));try go_wp2_with (first|(go_at_call 30;(with_reducible refine (spec_PathOK.calls k2  ((rd_T62 l0_1 x3_2).f0) true _ A12.out).mono ?_);rintro e w15 ⟨rfl,hb⟩;replace BK125:=zh (zD (g:=gb125) (o:=.cells #[.string a0_0,.slice (some ad128) l0_1.length c0_1] 29 (0,0)) (by (with_reducible repeat (first|refine ze ?_ _|refine zf ?_|refine zg ?_ _));exact BK125.out) hb);replace HB:=zh (zC (by repeat (with_reducible first|exact HB.out|apply za|apply zb|apply zc|refine zd ?_ GE125.out)) hb);(try clear hb);(try clear hb2);(try clear hk);(try clear hi))))
        go_roundg k2
        case measure => have:=HJ1.out;have:=HK2.out;omega
        case rel => exact ⟨(wrap64 (x3_2 + 1)),(by first|rfl|(simp;done)|(simp [*];done)),H',⟨by have:=HJ1.out;have:=HK2.out;omega⟩,⟨by (with_reducible repeat (first|refine ze ?_ _|refine zf ?_|refine zg ?_ _));exact BK125.out⟩,⟨by repeat (with_reducible first|exact HB.out|apply za|apply zb|apply zc|refine zd ?_ GE125.out)⟩⟩
       replace c13:=yb.mpr c13;subst c13;have H1 : (some false)=some r:=by rw [if_neg (show ¬ (false=true) by decide)] at H;exact H
       clear H;have H:=H1;clear H1;obtain rfl:=zU H;have hcz16_0 : wr.cell? ⟨gb125,0,none⟩=some (.string a0_0):=(zz BK125.out 0).trans rfl;have hcz16_1 : wr.cell? ⟨gb125,1,none⟩=some (.slice A0_1 l0_1.length c0_1):=(zz BK125.out 1).trans rfl;have hfz16_0:=zA BK125.out 0;have hfz16_1:=zA BK125.out 1;have p128 : 0≤(x3_2 : Int):=zy (by first|(with_reducible assumption)|assumption);have q128 : x3_2<(l0_1.length : Int):=zy (by first|(with_reducible assumption)|assumption);obtain ⟨ad128,e128,hx128_0,hx128_1⟩:=at_T62 HR0_1.out x3_2 p128 q128
       cases e128
       replace hx128_0:=(HB.out.cell (zl w _ hx128_0)).trans hx128_0;replace hx128_1:=(HB.out.cell (zl w _ hx128_1)).trans hx128_1;replace p128:=eq_true p128;replace q128:=eq_true q128
       go_wp2_with (first|(go_at_call 30;(with_reducible refine (spec_PathOK.calls k2  ((rd_T62 l0_1 x3_2).f0) false _ A12.out).mono ?_);rintro e w17 ⟨rfl,hb⟩;replace BK125:=zh (zD (g:=gb125) (o:=.cells #[.string a0_0,.slice (some ad128) l0_1.length c0_1] 29 (0,0)) (by (with_reducible repeat (first|refine ze ?_ _|refine zf ?_|refine zg ?_ _));exact BK125.out) hb);replace HB:=zh (zC (by repeat (with_reducible first|exact HB.out|apply za|apply zb|apply zc|refine zd ?_ GE125.out)) hb);(try clear hb);(try clear hb2);(try clear hk);(try clear hi)))
       repeat (go_quiet (first|(go_at_call 30;(with_reducible refine (spec_PathOK.calls k2  ((rd_T62 l0_1 x3_2).f0) false _ A12.out).mono ?_);rintro e w17 ⟨rfl,hb⟩;replace BK125:=zh (zD (g:=gb125) (o:=.cells #[.string a0_0,.slice (some ad128) l0_1.length c0_1] 29 (0,0)) (by (with_reducible repeat (first|refine ze ?_ _|refine zf ?_|refine zg ?_ _));exact BK125.out) hb);replace HB:=zh (zC (by repeat (with_reducible first|exact HB.out|apply za|apply zb|apply zc|refine zd ?_ GE125.out)) hb);(try clear hb);(try clear hb2);(try clear hk);(try clear hi)));try go_wp2_with (first|(go_at_call 30;(with_reducible refine (spec_PathOK.calls k2  ((rd_T62 l0_1 x3_2).f0) false _ A12.out).mono ?_);rintro e w17 ⟨rfl,hb⟩;replace BK125:=zh (zD (g:=gb125) (o:=.cells #[.string a0_0,.slice (some ad128) l0_1.length c0_1] 29 (0,0)) (by (with_reducible repeat (first|refine ze ?_ _|refine zf ?_|refine zg ?_ _));exact BK125.out) hb);replace HB:=zh (zC (by repeat (with_reducible first|exact HB.out|apply za|apply zb|apply zc|refine zd ?_ GE125.out)) hb);(try clear hb);(try clear hb2);(try clear hk);(try clear hi))))
       go_ret
       exact ⟨by first|rfl|(simp [yt,yu] <;> rfl)|(simp [*,yt,yu] <;> rfl),by repeat (with_reducible first|exact HB.out|apply za|apply zb|apply zc|refine zd ?_ GE125.out)⟩
      rw [if_neg c11] at H;exact absurd H (by simp)
     rw [if_neg c10] at H;have c10b0 : decide (x3_2<(l0_1.length : Int))=false:=decide_eq_false c10;clear c10
     by_cases c18 : (l0_1.length : Int)=1
     ·
      rw [if_pos c18] at H
      have c18b0 : ((l0_1.length : Int) == 1)=true:=ya.mpr c18;have c18b1 : ((l0_1.length : Int) != 1)=false:=zX.mpr c18;clear c18;obtain rfl:=zU H;have hcz19_0 : wr.cell? ⟨gb125,0,none⟩=some (.string a0_0):=(zz BK125.out 0).trans rfl;have hcz19_1 : wr.cell? ⟨gb125,1,none⟩=some (.slice A0_1 l0_1.length c0_1):=(zz BK125.out 1).trans rfl;have hfz19_0:=zA BK125.out 0;have hfz19_1:=zA BK125.out 1
      go_wp2
      repeat (go_quiet (fail);try go_wp2)
      go_ret
      exact ⟨by first|rfl|(simp [yt,yu] <;> rfl)|(simp [*,yt,yu] <;> rfl),by repeat (with_reducible first|exact HB.out|apply za|apply zb|apply zc|refine zd ?_ GE125.out)⟩
     rw [if_neg c18] at H;have c18b0 : ((l0_1.length : Int) == 1)=false:=zY.mpr c18;have c18b1 : ((l0_1.length : Int) != 1)=true:=zZ.mpr c18
     by_cases c20 : 0<(l0_1.length : Int)
     ·
      rw [if_pos c20] at H
      have c20b0 : decide (0<(l0_1.length : Int))=true:=decide_eq_true c20;have c20b1 : decide (0<l0_1.length)=true:=decide_eq_true (by omega);clear c20
      by_cases c21 : 1<(l0_1.length : Int)
      ·
       rw [if_pos c21] at H
       have c21b0 : decide (1<(l0_1.length : Int))=true:=decide_eq_true c21;have c21b1 : decide (1<l0_1.length)=true:=decide_eq_true (by omega);clear c21;obtain rfl:=zU H;have hcz22_0 : wr.cell? ⟨gb125,0,none⟩=some (.string a0_0):=(zz BK125.out 0).trans rfl;have hcz22_1 : wr.cell? ⟨gb125,1,none⟩=some (.slice A0_1 l0_1.length c0_1):=(zz BK125.out 1).trans rfl;have hfz22_0:=zA BK125.out 0;have hfz22_1:=zA BK125.out 1;have p130 : 0≤(0 : Int):=(by omega);have q130 : 0<(l0_1.length : Int):=zy (by first|(with_reducible assumption)|assumption);obtain ⟨ad130,e130,hx130_0,hx130_1⟩:=at_T62 HR0_1.out 0 p130 q130
       cases e130
       have qi130 : (0<l0_1.length)=True:=eq_true (by omega);(try rw [show ((0 : Int)).toNat=0 from rfl] at hx130_0);(try rw [show 0 * 2=0 from rfl] at hx130_0);(try rw [Addr.add_zero'] at hx130_0);(try rw [show ((0 : Int)).toNat=0 from rfl] at hx130_1);(try rw [show 0 * 2=0 from rfl] at hx130_1);(try rw [Addr.add_zero'] at hx130_1);replace hx130_0:=(HB.out.cell (zl w _ hx130_0)).trans hx130_0;replace hx130_1:=(HB.out.cell (zl w _ hx130_1)).trans hx130_1;replace p130:=eq_true p130;replace q130:=eq_true q130;have p131 : 0≤(1 : Int):=(by omega);have q131 : 1<(l0_1.length : Int):=zy (by first|(with_reducible assumption)|assumption);obtain ⟨ad131,e131,hx131_0,hx131_1⟩:=at_T62 HR0_1.out 1 p131 q131;obtain rfl : ad130=ad131:=(by injection e131);(try simp only [show (1 : Int).toNat=1 from rfl,Nat.reduceMul,Nat.reduceEqDiff,Go.Addr.add,↓reduceIte] at hx131_0);(try simp only [show (1 : Int).toNat=1 from rfl,Nat.reduceMul,Nat.reduceEqDiff,Go.Addr.add,↓reduceIte] at hx131_1);have qi131 : (1<l0_1.length)=True:=eq_true (by omega);(try rw [show ((1 : Int)).toNat=1 from rfl] at hx131_0);(try rw [show 1 * 2=2 from rfl] at hx131_0);(try rw [show ((1 : Int)).toNat=1 from rfl] at hx131_1);(try rw [show 1 * 2=2 from rfl] at hx131_1);replace hx131_0:=(HB.out.cell (zl w _ hx131_0)).trans hx131_0;replace hx131_1:=(HB.out.cell (zl w _ hx131_1)).trans hx131_1;replace p131:=eq_true p131;replace q131:=eq_true q131
       go_wp2
       repeat (go_quiet (fail);try go_wp2)
       go_ret
       exact ⟨by first|rfl|(simp [yt,yu] <;> rfl)|(simp [*,yt,yu] <;> rfl),by repeat (with_reducible first|exact HB.out|apply za|apply zb|apply zc|refine zd ?_ GE125.out)⟩
      rw [if_neg c21] at H;exact absurd H (by simp)
     rw [if_neg c20] at H;exact absurd H (by simp)

end Go.Proofs.YthjgfjlogilleaaDoor.Q
end
section
namespace Go.Proofs.YthjgfjlogilleaaDoor.Q
open Go.RowKit Go.Proofs.YthjgfjlogilleaaDoorW.PrintWords Go.Proofs.YthjgfjlogilleaaDoorW.PrintLast Go.Proofs.YthjgfjlogilleaaDoorW.PrintMore
attribute [local go_sem] max2_int min2_int max_two min_two max_three min_three max_four min_four max2_str min2_str str_geq str_gtr str_leq
set_option linter.unusedVariables false
set_option linter.unusedSimpArgs false

def laws_toPart.f (a0_0 : ByteArray) (a0_1 : Bool) : Option (ByteArray×Bool):=some (a0_0,a0_1)
set_option maxHeartbeats 8000000 in
set_option maxRecDepth 100000 in
theorem laws_toPart.calls (a0_0 : ByteArray) (a0_1 : Bool) (r1 : ByteArray) (r2 : Bool) (w : World) (h : laws_toPart.f a0_0 a0_1=some (r1,r2)) :
  Calls Tryd.prog 50 #[.agg #[.string a0_0,.bool a0_1]] w fun e w' => e = .returned (.agg #[.string r1,.bool r2])∧Below w.heap.size w w':=by
 have hu73:=Tryd.underlying73;have hu62:=Tryd.underlying62;have HB:=zh (Below.refl w.heap.size w);have H : (some (a0_0,a0_1))=some (r1,r2):=h;clear h;simp only [Option.some.injEq,Prod.mk.injEq] at H;obtain ⟨rfl,rfl⟩:=H
 go_enter Tryd.func50,Tryd.ntmps50
 go_wp2_with (first|((with_reducible refine zK (N:=1) rfl ?_);refine zI ?hg (N:=1) ?hd (cs:=#[.string a0_0,.bool a0_1]) (t:=73) ?hr ?_;(case hd => rfl);(case hg => rfl);(case hr => first|(go_simp;done)|(go_simp;rfl));intro gb132 hg w2 hbox hb;have BK132:=zh (hbox);have GW132:=zh ((by rw [hg];exact (zB (by repeat (with_reducible first|exact HB.out|apply za|apply zb|apply zc))) : w.heap.size≤gb132));have GE132:=zh ((by rw [hg];exact (zB (by repeat (with_reducible first|exact HB.out|apply za|apply zb|apply zc))) : w.heap.size≤gb132));replace HB:=zh (zC (by repeat (with_reducible first|exact HB.out|apply za|apply zb|apply zc)) hb);clear hb hbox hg)|((with_reducible refine zK (N:=2) rfl ?_);refine zI ?hg (N:=2) ?hd (cs:=#[.string (⟨#[]⟩ : ByteArray),.bool false]) (t:=62) ?hr ?_;(case hd => rfl);(case hg => rfl);(case hr => first|(go_simp;done)|(go_simp;rfl));intro gb133 hg w3 hbox hb;have BK133:=zh (hbox);have GW133:=zh ((by rw [hg];exact (zB (by repeat (with_reducible first|exact HB.out|apply za|apply zb|apply zc|refine zd ?_ GE132.out))) : w.heap.size≤gb133));have GE133:=zh ((by rw [hg];exact (zB (by repeat (with_reducible first|exact HB.out|apply za|apply zb|apply zc|refine zd ?_ GE132.out))) : w.heap.size≤gb133));replace HB:=zh (zC (by repeat (with_reducible first|exact HB.out|apply za|apply zb|apply zc|refine zd ?_ GE132.out)) hb);have NB132_133:=zh ((by rw [hg];exact yc (yi (g:=gb132) (o:=.cells #[.string a0_0,.bool a0_1] 73 (0,0)) (by (with_reducible repeat (first|refine ze ?_ _|refine zf ?_|refine zg ?_ _));exact BK132.out)) : gb132≠gb133));have NB133_132:=zh ((by rw [hg];exact yd (yi (g:=gb132) (o:=.cells #[.string a0_0,.bool a0_1] 73 (0,0)) (by (with_reducible repeat (first|refine ze ?_ _|refine zf ?_|refine zg ?_ _));exact BK132.out)) : gb133≠gb132));replace BK132:=zh (zD (g:=gb132) (o:=.cells #[.string a0_0,.bool a0_1] 73 (0,0)) (by (with_reducible repeat (first|refine ze ?_ _|refine zf ?_|refine zg ?_ _));exact BK132.out) hb);clear hb hbox hg)|((with_reducible refine zK (N:=3) rfl ?_);refine zI ?hg (N:=3) ?hd (cs:=#[.string (⟨#[]⟩ : ByteArray),.bool false]) (t:=62) ?hr ?_;(case hd => rfl);(case hg => rfl);(case hr => first|(go_simp;done)|(go_simp;rfl));intro gb134 hg w4 hbox hb;have BK134:=zh (hbox);have GW134:=zh ((by rw [hg];exact (zB (by repeat (with_reducible first|exact HB.out|apply za|apply zb|apply zc|refine zd ?_ GE132.out|refine zd ?_ GE133.out))) : w.heap.size≤gb134));have GE134:=zh ((by rw [hg];exact (zB (by repeat (with_reducible first|exact HB.out|apply za|apply zb|apply zc|refine zd ?_ GE132.out|refine zd ?_ GE133.out))) : w.heap.size≤gb134));replace HB:=zh (zC (by repeat (with_reducible first|exact HB.out|apply za|apply zb|apply zc|refine zd ?_ GE132.out|refine zd ?_ GE133.out)) hb);have NB132_134:=zh ((by rw [hg];exact yc (yi (g:=gb132) (o:=.cells #[.string a0_0,.bool a0_1] 73 (0,0)) (by (with_reducible repeat (first|refine ze ?_ _|refine zf ?_|refine zg ?_ _));exact BK132.out)) : gb132≠gb134));have NB134_132:=zh ((by rw [hg];exact yd (yi (g:=gb132) (o:=.cells #[.string a0_0,.bool a0_1] 73 (0,0)) (by (with_reducible repeat (first|refine ze ?_ _|refine zf ?_|refine zg ?_ _));exact BK132.out)) : gb134≠gb132));replace BK132:=zh (zD (g:=gb132) (o:=.cells #[.string a0_0,.bool a0_1] 73 (0,0)) (by (with_reducible repeat (first|refine ze ?_ _|refine zf ?_|refine zg ?_ _));exact BK132.out) hb);have NB133_134:=zh ((by rw [hg];exact yc (yi (g:=gb133) (o:=.cells #[.string (⟨#[]⟩ : ByteArray),.bool false] 62 (0,0)) (by (with_reducible repeat (first|refine ze ?_ _|refine zf ?_|refine zg ?_ _));exact BK133.out)) : gb133≠gb134));have NB134_133:=zh ((by rw [hg];exact yd (yi (g:=gb133) (o:=.cells #[.string (⟨#[]⟩ : ByteArray),.bool false] 62 (0,0)) (by (with_reducible repeat (first|refine ze ?_ _|refine zf ?_|refine zg ?_ _));exact BK133.out)) : gb134≠gb133));replace BK133:=zh (zD (g:=gb133) (o:=.cells #[.string (⟨#[]⟩ : ByteArray),.bool false] 62 (0,0)) (by (with_reducible repeat (first|refine ze ?_ _|refine zf ?_|refine zg ?_ _));exact BK133.out) hb);clear hb hbox hg;have hnb5:=NB132_133.out;have hnc5:=NB133_132.out;have hnb6:=NB132_134.out;have hnc6:=NB134_132.out;have hcz7_0 : w4.cell? ⟨gb132,0,none⟩=some (.string a0_0):=(zz BK132.out 0).trans rfl;have hcz7_1 : w4.cell? ⟨gb132,1,none⟩=some (.bool a0_1):=(zz BK132.out 1).trans rfl;have hfz7_0:=zA BK132.out 0;have hfz7_1:=zA BK132.out 1;have hnb8:=NB134_133.out;have hnc8:=NB133_134.out;have hcz9_0 : w4.cell? ⟨gb134,0,none⟩=some (.string (⟨#[]⟩ : ByteArray)):=(zz BK134.out 0).trans rfl;have hcz9_1 : w4.cell? ⟨gb134,1,none⟩=some (.bool false):=(zz BK134.out 1).trans rfl;have hfz9_0:=zA BK134.out 0;have hfz9_1:=zA BK134.out 1;have hcz10_0 : w4.cell? ⟨gb133,0,none⟩=some (.string (⟨#[]⟩ : ByteArray)):=(zz BK133.out 0).trans rfl;have hcz10_1 : w4.cell? ⟨gb133,1,none⟩=some (.bool false):=(zz BK133.out 1).trans rfl;have hfz10_0:=zA BK133.out 0;have hfz10_1:=zA BK133.out 1))
 refine bodyPost_ret (results_cell_row rfl _ _ gb133 62 #[.string a0_0,.bool a0_1] (0,0) _ rfl (by (with_reducible repeat (first|refine ze ?_ _|refine zf ?_|refine zg ?_ _));refine zL (cs:=#[.string a0_0,.bool false]) ?_ 1 _ rfl;(with_reducible repeat (first|refine ze ?_ _|refine zf ?_|refine zg ?_ _));refine zL (cs:=#[.string (⟨#[]⟩ : ByteArray),.bool false]) ?_ 0 _ rfl;(with_reducible repeat (first|refine ze ?_ _|refine zf ?_|refine zg ?_ _));refine zS ?_ NB133_134.out _;(with_reducible repeat (first|refine ze ?_ _|refine zf ?_|refine zg ?_ _));refine zS ?_ NB133_134.out _;(with_reducible repeat (first|refine ze ?_ _|refine zf ?_|refine zg ?_ _));exact BK133.out) Tryd.underlying62 rfl (by kernel_rfl)) rfl ?_;exact ⟨by first|rfl|(simp [yt,yu] <;> rfl)|(simp [*,yt,yu] <;> rfl),by repeat (with_reducible first|exact HB.out|apply za|apply zb|apply zc|refine zd ?_ GE132.out|refine zd ?_ GE133.out|refine zd ?_ GE134.out)⟩


def laws_toPartS.l0 : Nat→List (S73)→List (S62)→Int→Option ((List (S62)))
 | 0,_,_,_ => none
 | k + 1,x0,x3,x4 => if x4<(x0.length : Int) then (if 0≤x4 then ((laws_toPart.f ((rd_T73 x0 x4).f0) ((rd_T73 x0 x4).f1)).bind fun bt139 => (if x4<(x3.length : Int) then (laws_toPartS.l0 k x0 (x3.set (x4 : Int).toNat (⟨bt139.1,bt139.2⟩ : S62)) (wrap64 (x4 + 1))) else (none))) else (none)) else (some x3)
def laws_toPartS.f (k : Nat) (l0 : List (S73)) : Option ((List (S62))):=if 0≤(l0.length : Int) then (if ((l0.length : Int) : Int).toNat≤11728124029610 then (laws_toPartS.l0 k l0 (List.replicate ((l0.length : Int) : Int).toNat z62) 0) else (none)) else (none)
theorem laws_toPartS.mono_l : ∀ k,(∀ y0 y1 y2,LeO (laws_toPartS.l0 k y0 y1 y2) (laws_toPartS.l0 (k + 1) y0 y1 y2))
 | 0 => fun _ _ _ r h => by simp [laws_toPartS.l0] at h
 | k + 1 => by
  have ih0:=laws_toPartS.mono_l k;intro y0 y1 y2;unfold laws_toPartS.l0
  repeat' first|(with_reducible first|exact ih0 _ _ _|exact zQ _|exact zN _|refine zP ?_ ?_|refine zO ?_ (fun _ => ?_))|refine zP ?_ ?_|refine zO ?_ (fun _ => ?_)
theorem laws_toPartS.mono : ∀ a0 k,LeO (laws_toPartS.f k a0) (laws_toPartS.f (k + 1) a0):=by
 intro a0 k;have ih0:=laws_toPartS.mono_l k;unfold laws_toPartS.f
 repeat' first|(with_reducible first|exact ih0 _ _ _|exact zQ _|exact zN _|refine zP ?_ ?_|refine zO ?_ (fun _ => ?_))|refine zP ?_ ?_|refine zO ?_ (fun _ => ?_)
set_option maxHeartbeats 8000000 in
set_option maxRecDepth 100000 in
theorem laws_toPartS.calls (k : Nat) (A0 : Option Addr) (c0 : Nat) (l0 : List (S73)) (r : List (S62)) (w : World) (hr0 : Kd.C k73 w A0 l0.length l0) (hc0 : l0.length≤c0) (h : laws_toPartS.f k l0=some r) :
  Calls Tryd.prog 31 #[.slice A0 l0.length c0] w fun e w' => ∃ v0_ : Value,e = .returned (v0_)∧Kd.R k62 62 w' w.heap.size (fun _ => True) v0_ r∧Below w.heap.size w w':=by
 have hu73:=Tryd.underlying73;have hu62:=Tryd.underlying62;have HR0:=zh hr0;have HC0:=zh hc0;clear hr0 hc0;have HB:=zh (Below.refl w.heap.size w);have H : (if 0≤(l0.length : Int) then (if ((l0.length : Int) : Int).toNat≤11728124029610 then (laws_toPartS.l0 k l0 (List.replicate ((l0.length : Int) : Int).toNat z62) 0) else (none)) else (none))=some r:=h;clear h
 by_cases c2 : 0≤(l0.length : Int)
 ·
  rw [if_pos c2] at H
  have c2b0:=eq_true c2;have c2b1 : decide (0≤(l0.length : Int))=true:=decide_eq_true c2;clear c2
  by_cases c3 : ((l0.length : Int) : Int).toNat≤11728124029610
  ·
   rw [if_pos c3] at H
   have c3b0:=eq_true c3;have c3b1 : decide (((l0.length : Int) : Int).toNat≤11728124029610)=true:=decide_eq_true c3;clear c3;obtain ⟨y135,hy135⟩ : ∃ y_ : List (S62),y_=(List.replicate ((l0.length : Int) : Int).toNat z62):=⟨_,rfl⟩;replace H : (laws_toPartS.l0 k l0 y135 0)=some r:=by first|(rw [hy135];with_reducible exact H)|(have H2_:=(Option.bind_some _ _).symm.trans H;rw [hy135];with_reducible exact H2_)|(have H2_:=(Option.bind_some _ _).symm.trans H;with_reducible exact H2_)|with_reducible exact H|(rw [hy135];exact H)|exact H
   have Ny135:=zh hy135;clear hy135;have H':=zh H;clear H
   go_enter Tryd.func31,Tryd.ntmps31
   go_wp2_with (first|((with_reducible refine zK (N:=7) rfl ?_);refine Kd.R_make k62 _ 62 rfl (N:=7) rfl 27 _ _ rfl (l0.length : Int) rfl rfl Tryd.underlying27 (.agg #[(.string ⟨#[]⟩),(.bool false)]) 24 info62 rfl (by decide) (by omega) z62 (ok:=fun _ => True) (okp:=fun _ => True) (k62_mkM _ _ _ z62 ) (fun _ hk => hk) trivial (zy (by first|(with_reducible assumption)|assumption)) (Nat.le_trans (Nat.mul_le_mul_right _ (zy (by first|(with_reducible assumption)|assumption) : (l0.length : Int).toNat≤11728124029610)) (by omega)) (Below.refl _ _) (ye _) ?_;intro v136 w4 ho5 hb hg_ hnew_;clear hg_ hnew_;(first|rw [← Ny135.out] at ho5|(simp only [Int.reduceToNat] at ho5;rw [← Ny135.out] at ho5));have HO137:=zh (yy ho5 (zB (by repeat (with_reducible first|exact HB.out|apply za|apply zb|apply zc))));replace HB:=zh (zC (by repeat (with_reducible first|exact HB.out|apply za|apply zb|apply zc)) hb);clear hb ho5))
   go_loopg [4] k (fun kq v4 w' => ∃ (x3_1 : List (S62)) (x4_1 : Int),v4 = .int .i64 x4_1∧Aside0 (laws_toPartS.l0 kq l0 x3_1 x4_1=some r)∧Aside0 (kq≤k)∧Aside0 (Kd.R k62 62 w' w.heap.size (fun _ => True) v136 x3_1)∧Aside0 (Below w.heap.size w w'))
   case atStart => exact ⟨(y135),(0),(by first|rfl|(simp;done)|(simp [*];done)),H',⟨ye _⟩,⟨by (with_reducible repeat (first|apply zm|apply zn|apply zo));exact HO137.out⟩,⟨by repeat (with_reducible first|exact HB.out|apply za|apply zb|apply zc)⟩⟩
   case round =>
    clear H'
    try clear c2
    try clear c2b0
    try clear c2b1
    try clear p2
    try clear c3
    try clear c3b0
    try clear c3b1
    obtain ⟨x3_1,x4_1,rfl,HA,HK1,HO_3,HB⟩:=hrel
    cases gk with
    | zero => exact absurd HA.out (by simp [laws_toPartS.l0])
    | succ k1 =>
     have H:=HA.out;clear HA;simp only [laws_toPartS.l0] at H
     by_cases c6 : x4_1<(l0.length : Int)
     ·
      rw [if_pos c6] at H
      have c6b0 : decide (x4_1<(l0.length : Int))=true:=decide_eq_true c6;clear c6
      by_cases c7 : 0≤x4_1
      ·
       rw [if_pos c7] at H
       have c7b0 : decide (0≤x4_1)=true:=decide_eq_true c7;clear c7;replace H:=zT.mp H;obtain ⟨⟨t139,t140⟩,A80,H⟩:=H;replace H : (if x4_1<(x3_1.length : Int) then (laws_toPartS.l0 k1 l0 (x3_1.set (x4_1 : Int).toNat (⟨t139,t140⟩ : S62)) (wrap64 (x4_1 + 1))) else (none))=some r:=H;have A8:=zh A80;clear A80
       by_cases c9 : x4_1<(x3_1.length : Int)
       ·
        rw [if_pos c9] at H
        have c9b0 : decide (x4_1<(x3_1.length : Int))=true:=decide_eq_true c9;clear c9;obtain ⟨y141,hy141⟩ : ∃ y_ : List (S62),y_=(x3_1.set (x4_1 : Int).toNat (⟨t139,t140⟩ : S62)):=⟨_,rfl⟩;replace H : (laws_toPartS.l0 k1 l0 y141 (wrap64 (x4_1 + 1)))=some r:=by first|(rw [hy141];with_reducible exact H)|(have H2_:=(Option.bind_some _ _).symm.trans H;rw [hy141];with_reducible exact H2_)|(have H2_:=(Option.bind_some _ _).symm.trans H;with_reducible exact H2_)|with_reducible exact H|(rw [hy141];exact H)|exact H
        have Ny141:=zh hy141;clear hy141;have H':=zh H;clear H;have p138 : 0≤(x4_1 : Int):=zy (by first|(with_reducible assumption)|assumption);have q138 : x4_1<(l0.length : Int):=zy (by first|(with_reducible assumption)|assumption);obtain ⟨ad138,e138,hx138_0,hx138_1⟩:=at_T73 HR0.out x4_1 p138 q138
        cases e138
        replace hx138_0:=(HB.out.cell (zl w _ hx138_0)).trans hx138_0;replace hx138_1:=(HB.out.cell (zl w _ hx138_1)).trans hx138_1;replace p138:=eq_true p138;replace q138:=eq_true q138
        go_wp2_with (first|((with_reducible refine zJ (f:=50) rfl ?_);refine yj (some 20) rfl rfl Tryd.func50 (by kernel_rfl) rfl #[.agg #[.string ((rd_T73 l0 x4_1).f0),.bool ((rd_T73 l0 x4_1).f1)]] rfl (by (try simp only [zt,zu,zv]);first|done|rfl|(simp only [zw,zx];rfl)|(simp only [yr,ys,zV,zW];rfl)) ?_;(with_reducible refine (laws_toPart.calls  ((rd_T73 l0 x4_1).f0) ((rd_T73 l0 x4_1).f1) t139 t140 _ A8.out).mono ?_);rintro e w11 ⟨rfl,hb⟩;refine ⟨_,rfl,?_⟩;replace HO_3:=zh (yg (by (with_reducible repeat (first|apply zm|apply zn|apply zo));exact HO_3.out) hb);replace HB:=zh (zC (by repeat (with_reducible first|exact HB.out|apply za|apply zb|apply zc)) hb);(try clear hb);(try clear hb2);(try clear hk);(try clear hi);have p10 : 0≤(x4_1 : Int):=zy (by first|(with_reducible assumption)|assumption);have q10 : (x4_1 : Int)<((x3_1.length : Int) : Int):=zy (by first|(with_reducible assumption)|assumption);obtain ⟨go10,co10,eo10,gb10,gl10,cl10,HG10⟩:=Kd.R_form HO_3.out (by omega);(first|cases eo10|(injection eo10 with ea_ en_ ec_;(first|subst ea_|(injection ea_ with ea_;subst ea_));subst ec_;clear en_));have GB10:=zh gb10;have GG10:=zh HG10;clear gb10 gl10 HG10;obtain ⟨ce10,hcl10,hM10,hcc10,hfr10⟩:=Kd.R_elem HO_3.out z62 (x4_1 : Int) p10 q10;obtain rfl:=k62_openM hM10;have hx10_0 : w11.cell? ⟨go10,(x4_1 : Int).toNat * 2,none⟩=some (.string ((rd_T62 x3_1 x4_1).f0)):=hcc10 0 _ rfl;have hx10_1 : w11.cell? ⟨go10,(x4_1 : Int).toNat * 2 + 1,none⟩=some (.bool ((rd_T62 x3_1 x4_1).f1)):=hcc10 1 _ rfl;have hf10_0 : w11.frozen? ⟨go10,(x4_1 : Int).toNat * 2,none⟩=false:=hfr10 0;have hf10_1 : w11.frozen? ⟨go10,(x4_1 : Int).toNat * 2 + 1,none⟩=false:=hfr10 1;clear hcl10 hcc10 hfr10 hM10;replace p10:=eq_true p10;replace q10:=eq_true q10;have HX12:=zh (show Kd.R k62 62 w11 w.heap.size (fun _ => True) (.slice (some ⟨go10,0,none⟩) x3_1.length co10) x3_1 from (by (with_reducible repeat (first|apply zm|apply zn|apply zo));exact HO_3.out));obtain ⟨ce12,hcl12,hM12,hcc12,hfr12⟩:=Kd.R_elem HX12.out z62 (x4_1 : Int) (zy (by first|(with_reducible assumption)|assumption)) (by have h_ : (x4_1 : Int)<((x3_1.length : Int) : Int):=zy (by first|(with_reducible assumption)|assumption);first|exact h_|(have e_:=(yh HO_3.out).1;omega)|simpa using h_);obtain rfl:=k62_openM hM12;have HP12:=Kd.R_seg HX12.out (x4_1 : Int) (zy (by first|(with_reducible assumption)|assumption)) (by have h_ : (x4_1 : Int)<((x3_1.length : Int) : Int):=zy (by first|(with_reducible assumption)|assumption);first|exact h_|(have e_:=(yh HO_3.out).1;omega)|simpa using h_) (seg:=[.string t139,.bool t140]) (j:=0) hcl12 hcc12 (show 2≤2 from by decide) (x':=(⟨t139,t140⟩ : S62)) (k62_mkM _ _ _ (⟨t139,t140⟩ : S62) ) (fun _ hk => hk);have hx12_0:=hcc12 0 _ rfl;(try simp only [show (k62).sz=2 from rfl,Nat.mul_one,Nat.add_zero] at hx12_0);have hf12_0:=hfr12 0;(try simp only [show (k62).sz=2 from rfl,Nat.mul_one,Nat.add_zero] at hf12_0);have hx12_1:=hcc12 1 _ rfl;(try simp only [show (k62).sz=2 from rfl,Nat.mul_one,Nat.add_zero] at hx12_1);have hf12_1:=hfr12 1;(try simp only [show (k62).sz=2 from rfl,Nat.mul_one,Nat.add_zero] at hf12_1);clear hcl12 hcc12 hfr12 hM12)|((with_reducible refine gate_store (t:=62) (p:=21) rfl ?_);refine store_event (t:=62) (p:=21) (v:=?vo_w13) (w1:=((w11.setCell ⟨go10,(x4_1 : Int).toNat * 2,none⟩ (.string t139)).setCell ⟨go10,(x4_1 : Int).toNat * 2 + 1,none⟩ (.bool t140))) ?hg ?ho ?hn ?hr ?_;(case ho => rfl);(case hg => rfl);(case hn => rfl);(case hr => first|(go_simp;done)|(go_simp;rfl));intro w13 hw;have hg : w11.grownBy w13 (some go10):=(by rw [hw];exact HP12.2);have hp_ : Kd.R k62 62 w13 w.heap.size (fun _ => True) (.slice (some ⟨go10,0,none⟩) x3_1.length co10) y141:=(by rw [hw,Ny141.out];exact HP12.1);clear HP12;replace HO_3:=zh (hp_);replace HB:=zh ((by rw [hw];exact zd (zd (HB.out) GB10.out) GB10.out : Below w.heap.size w w13));clear hg hw hp_))
        go_roundg k1
        case measure => have:=HK1.out;omega
        case rel => exact ⟨(y141),(wrap64 (x4_1 + 1)),(by first|rfl|(simp;done)|(simp [*];done)),H',⟨by have:=HK1.out;omega⟩,⟨by (with_reducible repeat (first|apply zm|apply zn|apply zo));exact HO_3.out⟩,⟨by repeat (with_reducible first|exact HB.out|apply za|apply zb|apply zc)⟩⟩
       rw [if_neg c9] at H;exact absurd H (by simp)
      rw [if_neg c7] at H;exact absurd H (by simp)
     rw [if_neg c6] at H;have c6b0 : decide (x4_1<(l0.length : Int))=false:=decide_eq_false c6;clear c6;obtain rfl:=zU H
     go_wp2
     go_ret
     exact ⟨_,by first|rfl|(simp [yt,yu] <;> rfl)|(simp [*,yt,yu] <;> rfl),by (with_reducible repeat (first|apply zm|apply zn|apply zo));exact HO_3.out,by repeat (with_reducible first|exact HB.out|apply za|apply zb|apply zc)⟩
  rw [if_neg c3] at H;exact absurd H (by simp)
 rw [if_neg c2] at H;exact absurd H (by simp)


def laws_toDef.f (k : Nat) (a0_0 : ByteArray) (l0_1 : List (S73)) : Option (ByteArray×(List (S62))):=(laws_toPartS.f k l0_1).bind fun t145 => (some (a0_0,t145))
theorem laws_toDef.mono : ∀ a0 a1 k,LeO (laws_toDef.f k a0 a1) (laws_toDef.f (k + 1) a0 a1):=by
 intro a0 a1 k;unfold laws_toDef.f
 repeat' first|(with_reducible first|exact laws_toPartS.mono _ _|exact zQ _|exact zN _|refine zP ?_ ?_|refine zO ?_ (fun _ => ?_))|refine zP ?_ ?_|refine zO ?_ (fun _ => ?_)
set_option maxHeartbeats 8000000 in
set_option maxRecDepth 100000 in
theorem laws_toDef.calls (k : Nat) (a0_0 : ByteArray) (A0_1 : Option Addr) (c0_1 : Nat) (l0_1 : List (S73)) (r1 : ByteArray) (r2 : List (S62)) (w : World) (hr0_1 : Kd.C k73 w A0_1 l0_1.length l0_1) (hc0_1 : l0_1.length≤c0_1) (h : laws_toDef.f k a0_0 l0_1=some (r1,r2)) :
  Calls Tryd.prog 9 #[.agg #[.string a0_0,.slice A0_1 l0_1.length c0_1]] w fun e w' => ∃ v1_ : Value,e = .returned (.agg #[.string r1,v1_])∧Kd.R k62 62 w' w.heap.size (fun _ => True) v1_ r2∧Below w.heap.size w w':=by
 have hu24:=Tryd.underlying24;have hu29:=Tryd.underlying29;have HR0_1:=zh hr0_1;have HC0_1:=zh hc0_1;clear hr0_1 hc0_1;have HB:=zh (Below.refl w.heap.size w);have H : ((laws_toPartS.f k l0_1).bind fun t145 => (some (a0_0,t145)))=some (r1,r2):=h;clear h;replace H:=zT.mp H;obtain ⟨t145,A20,H⟩:=H;replace H : (some (a0_0,t145))=some (r1,r2):=H;have A2:=zh A20;clear A20;simp only [Option.some.injEq,Prod.mk.injEq] at H;obtain ⟨rfl,rfl⟩:=H
 go_enter Tryd.func9,Tryd.ntmps9
 go_wp2_with (first|((with_reducible refine zK (N:=1) rfl ?_);refine zI ?hg (N:=1) ?hd (cs:=#[.string a0_0,.slice A0_1 l0_1.length c0_1]) (t:=24) ?hr ?_;(case hd => rfl);(case hg => rfl);(case hr => first|(go_simp;done)|(go_simp;rfl));intro gb142 hg w3 hbox hb;have BK142:=zh (hbox);have GW142:=zh ((by rw [hg];exact (zB (by repeat (with_reducible first|exact HB.out|apply za|apply zb|apply zc))) : w.heap.size≤gb142));have GE142:=zh ((by rw [hg];exact (zB (by repeat (with_reducible first|exact HB.out|apply za|apply zb|apply zc))) : w.heap.size≤gb142));replace HB:=zh (zC (by repeat (with_reducible first|exact HB.out|apply za|apply zb|apply zc)) hb);clear hb hbox hg)|((with_reducible refine zK (N:=2) rfl ?_);refine zI ?hg (N:=2) ?hd (cs:=#[.string (⟨#[]⟩ : ByteArray),.slice none 0 0]) (t:=29) ?hr ?_;(case hd => rfl);(case hg => rfl);(case hr => first|(go_simp;done)|(go_simp;rfl));intro gb143 hg w4 hbox hb;have BK143:=zh (hbox);have GW143:=zh ((by rw [hg];exact (zB (by repeat (with_reducible first|exact HB.out|apply za|apply zb|apply zc|refine zd ?_ GE142.out))) : w.heap.size≤gb143));have GE143:=zh ((by rw [hg];exact (zB (by repeat (with_reducible first|exact HB.out|apply za|apply zb|apply zc|refine zd ?_ GE142.out))) : w.heap.size≤gb143));replace HB:=zh (zC (by repeat (with_reducible first|exact HB.out|apply za|apply zb|apply zc|refine zd ?_ GE142.out)) hb);have NB142_143:=zh ((by rw [hg];exact yc (yi (g:=gb142) (o:=.cells #[.string a0_0,.slice A0_1 l0_1.length c0_1] 24 (0,0)) (by (with_reducible repeat (first|refine ze ?_ _|refine zf ?_|refine zg ?_ _));exact BK142.out)) : gb142≠gb143));have NB143_142:=zh ((by rw [hg];exact yd (yi (g:=gb142) (o:=.cells #[.string a0_0,.slice A0_1 l0_1.length c0_1] 24 (0,0)) (by (with_reducible repeat (first|refine ze ?_ _|refine zf ?_|refine zg ?_ _));exact BK142.out)) : gb143≠gb142));replace BK142:=zh (zD (g:=gb142) (o:=.cells #[.string a0_0,.slice A0_1 l0_1.length c0_1] 24 (0,0)) (by (with_reducible repeat (first|refine ze ?_ _|refine zf ?_|refine zg ?_ _));exact BK142.out) hb);clear hb hbox hg)|((with_reducible refine zK (N:=3) rfl ?_);refine zI ?hg (N:=3) ?hd (cs:=#[.string (⟨#[]⟩ : ByteArray),.slice none 0 0]) (t:=29) ?hr ?_;(case hd => rfl);(case hg => rfl);(case hr => first|(go_simp;done)|(go_simp;rfl));intro gb144 hg w5 hbox hb;have BK144:=zh (hbox);have GW144:=zh ((by rw [hg];exact (zB (by repeat (with_reducible first|exact HB.out|apply za|apply zb|apply zc|refine zd ?_ GE142.out|refine zd ?_ GE143.out))) : w.heap.size≤gb144));have GE144:=zh ((by rw [hg];exact (zB (by repeat (with_reducible first|exact HB.out|apply za|apply zb|apply zc|refine zd ?_ GE142.out|refine zd ?_ GE143.out))) : w.heap.size≤gb144));replace HB:=zh (zC (by repeat (with_reducible first|exact HB.out|apply za|apply zb|apply zc|refine zd ?_ GE142.out|refine zd ?_ GE143.out)) hb);have NB142_144:=zh ((by rw [hg];exact yc (yi (g:=gb142) (o:=.cells #[.string a0_0,.slice A0_1 l0_1.length c0_1] 24 (0,0)) (by (with_reducible repeat (first|refine ze ?_ _|refine zf ?_|refine zg ?_ _));exact BK142.out)) : gb142≠gb144));have NB144_142:=zh ((by rw [hg];exact yd (yi (g:=gb142) (o:=.cells #[.string a0_0,.slice A0_1 l0_1.length c0_1] 24 (0,0)) (by (with_reducible repeat (first|refine ze ?_ _|refine zf ?_|refine zg ?_ _));exact BK142.out)) : gb144≠gb142));replace BK142:=zh (zD (g:=gb142) (o:=.cells #[.string a0_0,.slice A0_1 l0_1.length c0_1] 24 (0,0)) (by (with_reducible repeat (first|refine ze ?_ _|refine zf ?_|refine zg ?_ _));exact BK142.out) hb);have NB143_144:=zh ((by rw [hg];exact yc (yi (g:=gb143) (o:=.cells #[.string (⟨#[]⟩ : ByteArray),.slice none 0 0] 29 (0,0)) (by (with_reducible repeat (first|refine ze ?_ _|refine zf ?_|refine zg ?_ _));exact BK143.out)) : gb143≠gb144));have NB144_143:=zh ((by rw [hg];exact yd (yi (g:=gb143) (o:=.cells #[.string (⟨#[]⟩ : ByteArray),.slice none 0 0] 29 (0,0)) (by (with_reducible repeat (first|refine ze ?_ _|refine zf ?_|refine zg ?_ _));exact BK143.out)) : gb144≠gb143));replace BK143:=zh (zD (g:=gb143) (o:=.cells #[.string (⟨#[]⟩ : ByteArray),.slice none 0 0] 29 (0,0)) (by (with_reducible repeat (first|refine ze ?_ _|refine zf ?_|refine zg ?_ _));exact BK143.out) hb);clear hb hbox hg;have hnb6:=NB142_143.out;have hnc6:=NB143_142.out;have hnb7:=NB142_144.out;have hnc7:=NB144_142.out;have hcz8_0 : w5.cell? ⟨gb142,0,none⟩=some (.string a0_0):=(zz BK142.out 0).trans rfl;have hcz8_1 : w5.cell? ⟨gb142,1,none⟩=some (.slice A0_1 l0_1.length c0_1):=(zz BK142.out 1).trans rfl;have hfz8_0:=zA BK142.out 0;have hfz8_1:=zA BK142.out 1;have hnb9:=NB144_143.out;have hnc9:=NB143_144.out;have hcz10_0 : w5.cell? ⟨gb144,0,none⟩=some (.string (⟨#[]⟩ : ByteArray)):=(zz BK144.out 0).trans rfl;have hcz10_1 : w5.cell? ⟨gb144,1,none⟩=some (.slice none 0 0):=(zz BK144.out 1).trans rfl;have hfz10_0:=zA BK144.out 0;have hfz10_1:=zA BK144.out 1)|((with_reducible refine zJ (f:=31) rfl ?_);refine yj (some 9) rfl rfl Tryd.func31 (by kernel_rfl) rfl #[.slice A0_1 l0_1.length c0_1] rfl (by (try simp only [zt,zu,zv]);first|done|rfl|(simp only [zw,zx];rfl)|(simp only [yr,ys,zV,zW];rfl)) ?_;(with_reducible refine (laws_toPartS.calls k  _ _ l0_1 t145 _ ?side1 ?side2 A2.out).mono ?_);(case side1 => exact Kd.C_below HR0_1.out (by repeat (with_reducible first|exact HB.out|apply za|apply zb|apply zc|refine zd ?_ GE142.out|refine zd ?_ GE143.out|refine zd ?_ GE144.out)));(case side2 => exact HC0_1.out);rintro e w11 ⟨v146,rfl,ho0,hb⟩;refine ⟨_,rfl,?_⟩;have HO147:=zh (yy ho0 (zB (by repeat (with_reducible first|exact HB.out|apply za|apply zb|apply zc|refine zd ?_ GE142.out|refine zd ?_ GE143.out|refine zd ?_ GE144.out))));replace BK142:=zh (zD (g:=gb142) (o:=.cells #[.string a0_0,.slice A0_1 l0_1.length c0_1] 24 (0,0)) (by (with_reducible repeat (first|refine ze ?_ _|refine zf ?_|refine zg ?_ _));refine zS ?_ NB142_144.out _;(with_reducible repeat (first|refine ze ?_ _|refine zf ?_|refine zg ?_ _));exact BK142.out) hb);replace BK143:=zh (zD (g:=gb143) (o:=.cells #[.string (⟨#[]⟩ : ByteArray),.slice none 0 0] 29 (0,0)) (by (with_reducible repeat (first|refine ze ?_ _|refine zf ?_|refine zg ?_ _));refine zS ?_ NB143_144.out _;(with_reducible repeat (first|refine ze ?_ _|refine zf ?_|refine zg ?_ _));exact BK143.out) hb);replace BK144:=zh (zD (g:=gb144) (o:=.cells #[.string a0_0,.slice none 0 0] 29 (0,0)) (by (with_reducible repeat (first|refine ze ?_ _|refine zf ?_|refine zg ?_ _));refine zL (cs:=#[.string (⟨#[]⟩ : ByteArray),.slice none 0 0]) ?_ 0 _ rfl;(with_reducible repeat (first|refine ze ?_ _|refine zf ?_|refine zg ?_ _));exact BK144.out) hb);replace HB:=zh (zC (by repeat (with_reducible first|exact HB.out|apply za|apply zb|apply zc|refine zd ?_ GE142.out|refine zd ?_ GE143.out|refine zd ?_ GE144.out)) hb);(try clear hb);(try clear hb2);(try clear hk);(try clear hi);(try clear ho0);obtain ⟨Ao12,co12,eo12⟩:=yk HO147.out;subst eo12;have hcz13_0 : w11.cell? ⟨gb144,0,none⟩=some (.string a0_0):=(zz BK144.out 0).trans rfl;have hcz13_1 : w11.cell? ⟨gb144,1,none⟩=some (.slice none 0 0):=(zz BK144.out 1).trans rfl;have hfz13_0:=zA BK144.out 0;have hfz13_1:=zA BK144.out 1;have hcz14_0 : w11.cell? ⟨gb143,0,none⟩=some (.string (⟨#[]⟩ : ByteArray)):=(zz BK143.out 0).trans rfl;have hcz14_1 : w11.cell? ⟨gb143,1,none⟩=some (.slice none 0 0):=(zz BK143.out 1).trans rfl;have hfz14_0:=zA BK143.out 0;have hfz14_1:=zA BK143.out 1))
 refine bodyPost_ret (results_cell_row rfl _ _ gb143 29 #[.string a0_0,.slice Ao12 t145.length co12] (0,0) _ rfl (by (with_reducible repeat (first|refine ze ?_ _|refine zf ?_|refine zg ?_ _));refine zL (cs:=#[.string a0_0,.slice none 0 0]) ?_ 1 _ rfl;(with_reducible repeat (first|refine ze ?_ _|refine zf ?_|refine zg ?_ _));refine zL (cs:=#[.string (⟨#[]⟩ : ByteArray),.slice none 0 0]) ?_ 0 _ rfl;(with_reducible repeat (first|refine ze ?_ _|refine zf ?_|refine zg ?_ _));refine zS ?_ NB143_144.out _;(with_reducible repeat (first|refine ze ?_ _|refine zf ?_|refine zg ?_ _));exact BK143.out) Tryd.underlying29 rfl (by kernel_rfl)) rfl ?_;exact ⟨_,by first|rfl|(simp [yt,yu] <;> rfl)|(simp [*,yt,yu] <;> rfl),by (with_reducible repeat (first|apply zm|apply zn|apply zo));exact zM (zE (p:=⟨gb143,1,none⟩) (zE (p:=⟨gb143,0,none⟩) (zE (p:=⟨gb144,1,none⟩) (yf (yf HO147.out BK144.out (by decide)) BK143.out (by decide)) (fun _ hk => hk.1.2) (.slice Ao12 t145.length co12)) (fun _ hk => hk.2) (.string a0_0)) (fun _ hk => hk.2) (.slice Ao12 t145.length co12)) (fun _ hk => trivial),by repeat (with_reducible first|exact HB.out|apply za|apply zb|apply zc|refine zd ?_ GE142.out|refine zd ?_ GE143.out|refine zd ?_ GE144.out)⟩

end Go.Proofs.YthjgfjlogilleaaDoor.Q
end
