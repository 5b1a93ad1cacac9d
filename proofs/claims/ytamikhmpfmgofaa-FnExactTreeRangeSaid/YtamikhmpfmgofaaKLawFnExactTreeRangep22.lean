/- Texts of this claim, merged by a program of this session. -/
import Derived.Test.YtamikhmpfmgofaaProg
import Derived.Lib.Strings
import Derived.Lib.Slices
import Derived.Lib.Walk
import Derived.Lib.Bytealg
import Derived.Test.YtamikhmpfmgofaaKLawFnExactTreeRangep12
import Derived.Test.YtamikhmpfmgofaaKLawFnExactTreeRangep14
import Derived.Test.YtamikhmpfmgofaaKLawFnExactTreeRangep16
import Derived.Test.YtamikhmpfmgofaaKLawFnExactTreeRangep17
import Derived.Test.YtamikhmpfmgofaaKLawFnExactTreeRangep18
import Derived.Test.YtamikhmpfmgofaaKLawFnExactTreeRangep20
import Derived.Test.YtamikhmpfmgofaaKLawFnExactTreeRangep21
section
namespace Go.Proofs.Ytamikhmpfmgofaa.Q
open Go.RowKit Go.Proofs.YtamikhmpfmgofaaW.PrintWords Go.Proofs.YtamikhmpfmgofaaW.PrintLast Go.Proofs.YtamikhmpfmgofaaW.PrintMore
attribute [local go_sem] max2_int min2_int max_two min_two max_three min_three max_four min_four max2_str min2_str str_geq str_gtr str_leq
set_option linter.unusedVariables false
set_option linter.unusedSimpArgs false



def errW : Option Int→Value
 | none => .nilIface
 | some c => .iface 0 (.int .i64 c)
theorem errW_none : errW none = .nilIface:=rfl
theorem errW_some (c : Int) : errW (some c) = .iface 0 (.int .i64 c):=rfl

theorem info3 : (Try.prog.info? 3).map (fun i => (i.zero,i.size,i.bytes))=some (some (.int .i64 0),1,8):=by kernel_rfl
theorem info51 : (Try.prog.info? 51).map (fun i => (i.zero,i.size,i.bytes))=some (some (.agg #[(.string ⟨#[]⟩),(.int .i64 0)]),2,24):=by kernel_rfl
theorem info67 : (Try.prog.info? 67).map (fun i => (i.zero,i.size,i.bytes))=some (some (.agg #[(.int .i64 0),(.slice none 0 0)]),2,32):=by kernel_rfl
-- the values' own types
structure S47 where
 f0 : ByteArray
 f1 : Int
def z47 : S47:=⟨(⟨#[]⟩ : ByteArray),(0 : Int)⟩
def k47 : Kd S47:=Kd.iso (Kd.pair Kd.string (Kd.int .i64)) (fun x : S47 => (x.f0,x.f1))
theorem k47_open {w : World} {x : S47} {cs : List Value} (h : k47.K w x cs) : cs=[.string x.f0,.int .i64 x.f1]:=by
 obtain ⟨_,_,rfl,rfl,rfl⟩:=h
 exact rfl
def rd_T47 (xs : List S47) (i : Int) : S47:=xs.getD i.toNat z47
theorem at_T47 {w : World} {A : Option Addr} {n : Nat} {xs : List S47} (h : Kd.C k47 w A n xs) (i : Int) (h0 : 0≤i) (h1 : i<n) : ∃ ad ,A=some ad∧w.cell? (ad.add (i.toNat * 2))=some (.string (rd_T47 xs i).f0)∧w.cell? ⟨(ad.add (i.toNat * 2)).block,(ad.add (i.toNat * 2)).off + 1,none⟩=some (.int .i64 (rd_T47 xs i).f1):=by
 obtain ⟨ad,c,e,_,hK,hc0⟩:=Kd.C_get h z47 i h0 h1
 have hc : ∀ j u,c[j]? = some u→w.cell? (ad.add (i.toNat * 2 + j))=some u:=hc0
 obtain rfl:=k47_open hK
 exact ⟨ad,e,hc 0 _ rfl,by rw [← add_field _ _ 1 (by omega)];exact hc 1 _ rfl⟩

def rd_L3 (xs : List (List S47)) (i : Int) : (List S47):=xs.getD i.toNat ([] : List S47)
structure S79 where
 f0 : Int
 f1 : (List S47)
def z79 : S79:=⟨(0 : Int),([] : List S47)⟩
def k79 : Kd S79:=Kd.iso (Kd.pair (Kd.int .i64) (Kd.slice 47 k47)) (fun x : S79 => (x.f0,x.f1))
theorem k79_open {w : World} {x : S79} {cs : List Value} (h : k79.K w x cs) : ∃ A1 c1,cs=[.int .i64 x.f0,.slice A1 x.f1.length c1]∧x.f1.length≤c1∧k47.C w A1 x.f1.length x.f1:=by
 obtain ⟨_,_,rfl,rfl,⟨A1,c1,rfl,l1,g1⟩⟩:=h
 exact ⟨A1,c1,rfl,l1,g1⟩
def rd_T79 (xs : List S79) (i : Int) : S79:=xs.getD i.toNat z79
theorem at_T79 {w : World} {A : Option Addr} {n : Nat} {xs : List S79} (h : Kd.C k79 w A n xs) (i : Int) (h0 : 0≤i) (h1 : i<n) : ∃ ad A1 c1,A=some ad∧w.cell? (ad.add (i.toNat * 2))=some (.int .i64 (rd_T79 xs i).f0)∧w.cell? ⟨(ad.add (i.toNat * 2)).block,(ad.add (i.toNat * 2)).off + 1,none⟩=some (.slice A1 (rd_T79 xs i).f1.length c1)∧(rd_T79 xs i).f1.length≤c1∧k47.C w A1 (rd_T79 xs i).f1.length (rd_T79 xs i).f1:=by
 obtain ⟨ad,c,e,_,hK,hc0⟩:=Kd.C_get h z79 i h0 h1
 have hc : ∀ j u,c[j]? = some u→w.cell? (ad.add (i.toNat * 2 + j))=some u:=hc0
 obtain ⟨A1,c1,rfl,l1,g1⟩:=k79_open hK
 exact ⟨ad,A1,c1,e,hc 0 _ rfl,by rw [← add_field _ _ 1 (by omega)];exact hc 1 _ rfl,l1,g1⟩

structure S51 where
 f0 : ByteArray
 f1 : Int
def z51 : S51:=⟨(⟨#[]⟩ : ByteArray),(0 : Int)⟩
def k51 : Kd S51:=Kd.iso (Kd.pair Kd.string (Kd.int .i64)) (fun x : S51 => (x.f0,x.f1))
theorem k51_open {w : World} {x : S51} {cs : List Value} (h : k51.K w x cs) : cs=[.string x.f0,.int .i64 x.f1]:=by
 obtain ⟨_,_,rfl,rfl,rfl⟩:=h
 exact rfl
theorem k51_openM {w : World} {base : Nat} {ok : Nat→Prop} {x : S51} {cs : List Value} (h : k51.M w base ok x cs) : cs=[.string x.f0,.int .i64 x.f1]:=by
 obtain ⟨_,_,rfl,rfl,rfl⟩:=h
 exact rfl
theorem k51_mkM (w : World) (base : Nat) (ok : Nat→Prop) (x : S51)  : k51.M w base ok x [.string x.f0,.int .i64 x.f1]:=⟨[.string x.f0],[.int .i64 x.f1],rfl,rfl,rfl⟩
def rd_T51 (xs : List S51) (i : Int) : S51:=xs.getD i.toNat z51
theorem at_T51 {w : World} {A : Option Addr} {n : Nat} {xs : List S51} (h : Kd.C k51 w A n xs) (i : Int) (h0 : 0≤i) (h1 : i<n) : ∃ ad ,A=some ad∧w.cell? (ad.add (i.toNat * 2))=some (.string (rd_T51 xs i).f0)∧w.cell? ⟨(ad.add (i.toNat * 2)).block,(ad.add (i.toNat * 2)).off + 1,none⟩=some (.int .i64 (rd_T51 xs i).f1):=by
 obtain ⟨ad,c,e,_,hK,hc0⟩:=Kd.C_get h z51 i h0 h1
 have hc : ∀ j u,c[j]? = some u→w.cell? (ad.add (i.toNat * 2 + j))=some u:=hc0
 obtain rfl:=k51_open hK
 exact ⟨ad,e,hc 0 _ rfl,by rw [← add_field _ _ 1 (by omega)];exact hc 1 _ rfl⟩

def rd_L6 (xs : List (List S51)) (i : Int) : (List S51):=xs.getD i.toNat ([] : List S51)
structure S67 where
 f0 : Int
 f1 : (List S51)
def z67 : S67:=⟨(0 : Int),([] : List S51)⟩
def k67 : Kd S67:=Kd.iso (Kd.pair (Kd.int .i64) (Kd.slice 51 k51)) (fun x : S67 => (x.f0,x.f1))
theorem k67_open {w : World} {x : S67} {cs : List Value} (h : k67.K w x cs) : ∃ A1 c1,cs=[.int .i64 x.f0,.slice A1 x.f1.length c1]∧x.f1.length≤c1∧k51.C w A1 x.f1.length x.f1:=by
 obtain ⟨_,_,rfl,rfl,⟨A1,c1,rfl,l1,g1⟩⟩:=h
 exact ⟨A1,c1,rfl,l1,g1⟩
theorem k67_openM {w : World} {base : Nat} {ok : Nat→Prop} {x : S67} {cs : List Value} (h : k67.M w base ok x cs) : ∃ v1,cs=[.int .i64 x.f0,v1]∧k51.R 51 w base ok v1 x.f1:=by
 obtain ⟨_,_,rfl,rfl,⟨v1,rfl,g1⟩⟩:=h
 exact ⟨v1,rfl,g1⟩
theorem k67_mkM (w : World) (base : Nat) (ok : Nat→Prop) (x : S67) {v1 : Value} (g1 : k51.R 51 w base ok v1 x.f1) : k67.M w base ok x [.int .i64 x.f0,v1]:=⟨[.int .i64 x.f0],[v1],rfl,rfl,⟨v1,rfl,g1⟩⟩
def rd_T67 (xs : List S67) (i : Int) : S67:=xs.getD i.toNat z67
theorem at_T67 {w : World} {A : Option Addr} {n : Nat} {xs : List S67} (h : Kd.C k67 w A n xs) (i : Int) (h0 : 0≤i) (h1 : i<n) : ∃ ad A1 c1,A=some ad∧w.cell? (ad.add (i.toNat * 2))=some (.int .i64 (rd_T67 xs i).f0)∧w.cell? ⟨(ad.add (i.toNat * 2)).block,(ad.add (i.toNat * 2)).off + 1,none⟩=some (.slice A1 (rd_T67 xs i).f1.length c1)∧(rd_T67 xs i).f1.length≤c1∧k51.C w A1 (rd_T67 xs i).f1.length (rd_T67 xs i).f1:=by
 obtain ⟨ad,c,e,_,hK,hc0⟩:=Kd.C_get h z67 i h0 h1
 have hc : ∀ j u,c[j]? = some u→w.cell? (ad.add (i.toNat * 2 + j))=some u:=hc0
 obtain ⟨A1,c1,rfl,l1,g1⟩:=k67_open hK
 exact ⟨ad,A1,c1,e,hc 0 _ rfl,by rw [← add_field _ _ 1 (by omega)];exact hc 1 _ rfl,l1,g1⟩

def rd_L9 (xs : List (List S79)) (i : Int) : (List S79):=xs.getD i.toNat ([] : List S79)
structure S24 where
 f0 : (List S79)
 f1 : Int
def z24 : S24:=⟨([] : List S79),(0 : Int)⟩
def k24 : Kd S24:=Kd.iso (Kd.pair (Kd.slice 79 k79) (Kd.int .i64)) (fun x : S24 => (x.f0,x.f1))
theorem k24_open {w : World} {x : S24} {cs : List Value} (h : k24.K w x cs) : ∃ A0 c0,cs=[.slice A0 x.f0.length c0,.int .i64 x.f1]∧x.f0.length≤c0∧k79.C w A0 x.f0.length x.f0:=by
 obtain ⟨_,_,rfl,⟨A0,c0,rfl,l0,g0⟩,rfl⟩:=h
 exact ⟨A0,c0,rfl,l0,g0⟩
def rd_T24 (xs : List S24) (i : Int) : S24:=xs.getD i.toNat z24
structure S26 where
 f0 : ByteArray
 f1 : ByteArray
 f2 : Bool
def z26 : S26:=⟨(⟨#[]⟩ : ByteArray),(⟨#[]⟩ : ByteArray),false⟩
def k26 : Kd S26:=Kd.iso (Kd.pair Kd.string (Kd.pair Kd.string Kd.bool)) (fun x : S26 => (x.f0,x.f1,x.f2))
theorem k26_open {w : World} {x : S26} {cs : List Value} (h : k26.K w x cs) : cs=[.string x.f0,.string x.f1,.bool x.f2]:=by
 obtain ⟨_,_,rfl,rfl,⟨_,_,rfl,rfl,rfl⟩⟩:=h
 exact rfl
def rd_T26 (xs : List S26) (i : Int) : S26:=xs.getD i.toNat z26
abbrev bm_ (i n : Nat) : Array Bool:=(List.replicate i true ++ List.replicate (n - i) false).toArray
abbrev za:=@below_alloc
abbrev zb:=@pw_below_drewN
abbrev zc:=@below_drew1
abbrev zd:=@below_set
abbrev ze:=@blk_drewN
abbrev zf:=@blk_drew
abbrev zg:=@blk_alloc
abbrev zh:=@Aside0.mk
abbrev zi:=@List.setIfInBounds_toArray
abbrev zj:=@List.set_cons_zero
abbrev zk:=@List.set_cons_succ
abbrev zl:=@World.block_lt_of_cell?
abbrev zm:=@Kd.R_alloc
abbrev zn:=@Kd.R_drewN
abbrev zo:=@Kd.R_drew
abbrev zp:=@Kept.drewN
abbrev zq:=@Kept.drew
abbrev zr:=@Kept.alloc
abbrev zs:=@Kept.setCell
abbrev zt:=@List.map_toArray
abbrev zu:=@List.map_cons
abbrev zv:=@List.map_nil
abbrev zw:=@List.length_drop
abbrev zx:=@List.length_take
abbrev zy:=@of_decide_eq_true
abbrev zz:=@blk_cell
abbrev zA:=@blk_frozen
abbrev zB:=@below_size
abbrev zC:=@below_step
abbrev zD:=@blk_below
abbrev zE:=@Kd.R_far
abbrev zF:=@add_block
abbrev zG:=@i64_w
abbrev zH:=@i32_w
abbrev zI:=@box_event
abbrev zJ:=@gate_callee
abbrev zK:=@gate_dst
abbrev zL:=@blk_put
abbrev zM:=@Kd.R_mono
abbrev zN:=@LeO.none
abbrev zO:=@LeO.bind
abbrev zP:=@LeO.ite
abbrev zQ:=@LeO.refl
abbrev zR:=@cell_far
abbrev zS:=@blk_far
abbrev zT:=@Option.bind_eq_some_iff
abbrev zU:=@Option.some.inj
abbrev zV:=@Int.ofNat_lt
abbrev zW:=@Int.ofNat_le
abbrev zX:=@bne_eq_false_iff_eq
abbrev zY:=@beq_eq_false_iff_ne
abbrev zZ:=@bne_iff_ne
abbrev ya:=@beq_iff_eq
abbrev yb:=@Bool.eq_false_iff
abbrev yc:=@Nat.ne_of_lt
abbrev yd:=@Nat.ne_of_gt
abbrev ye:=@Nat.le_refl
abbrev yf:=@Kd.R_types
abbrev yg:=@Kd.R_below
abbrev yh:=@Kd.R_reads'
abbrev yi:=@blk_lt
abbrev yj:=@goesL_
abbrev yk:=@Kd.R_slice
abbrev yl:=@KeepBut.set_
abbrev ym:=@keep_drewN
abbrev yn:=@keep_alloc
abbrev yo:=@take_ofW
abbrev yp:=@Drawn0.refl
abbrev yq:=@Drawn0.step
abbrev yr:=@gt_iff_lt
abbrev ys:=@ge_iff_le
abbrev yt:=@errW_none
abbrev yu:=@errW_some
abbrev yv:=@blk_grown
abbrev yw:=@keep_drew
abbrev yx:=@Kd.R_lower
abbrev yy:=@gate_guard
abbrev yz:=@Kept.of_grown
abbrev yA:=@gate_builtin
theorem cB1 {w : World} {g : Nat} {t : TypeId} {a0 : Value} (h : w.heap[g]? = some (.cells #[a0] t (0, 0))) : w.cell? ⟨g, 0, none⟩ = some a0 ∧ w.frozen? ⟨g, 0, none⟩ = false := ⟨blk_cell h 0, blk_frozen h 0⟩
theorem cB2 {w : World} {g : Nat} {t : TypeId} {a0 a1 : Value} (h : w.heap[g]? = some (.cells #[a0, a1] t (0, 0))) : w.cell? ⟨g, 0, none⟩ = some a0 ∧ w.cell? ⟨g, 1, none⟩ = some a1 ∧ w.frozen? ⟨g, 0, none⟩ = false ∧ w.frozen? ⟨g, 1, none⟩ = false := ⟨blk_cell h 0, blk_cell h 1, blk_frozen h 0, blk_frozen h 1⟩
theorem cB3 {w : World} {g : Nat} {t : TypeId} {a0 a1 a2 : Value} (h : w.heap[g]? = some (.cells #[a0, a1, a2] t (0, 0))) : w.cell? ⟨g, 0, none⟩ = some a0 ∧ w.cell? ⟨g, 1, none⟩ = some a1 ∧ w.cell? ⟨g, 2, none⟩ = some a2 ∧ w.frozen? ⟨g, 0, none⟩ = false ∧ w.frozen? ⟨g, 1, none⟩ = false ∧ w.frozen? ⟨g, 2, none⟩ = false := ⟨blk_cell h 0, blk_cell h 1, blk_cell h 2, blk_frozen h 0, blk_frozen h 1, blk_frozen h 2⟩
theorem cB4 {w : World} {g : Nat} {t : TypeId} {a0 a1 a2 a3 : Value} (h : w.heap[g]? = some (.cells #[a0, a1, a2, a3] t (0, 0))) : w.cell? ⟨g, 0, none⟩ = some a0 ∧ w.cell? ⟨g, 1, none⟩ = some a1 ∧ w.cell? ⟨g, 2, none⟩ = some a2 ∧ w.cell? ⟨g, 3, none⟩ = some a3 ∧ w.frozen? ⟨g, 0, none⟩ = false ∧ w.frozen? ⟨g, 1, none⟩ = false ∧ w.frozen? ⟨g, 2, none⟩ = false ∧ w.frozen? ⟨g, 3, none⟩ = false := ⟨blk_cell h 0, blk_cell h 1, blk_cell h 2, blk_cell h 3, blk_frozen h 0, blk_frozen h 1, blk_frozen h 2, blk_frozen h 3⟩
theorem cB5 {w : World} {g : Nat} {t : TypeId} {a0 a1 a2 a3 a4 : Value} (h : w.heap[g]? = some (.cells #[a0, a1, a2, a3, a4] t (0, 0))) : w.cell? ⟨g, 0, none⟩ = some a0 ∧ w.cell? ⟨g, 1, none⟩ = some a1 ∧ w.cell? ⟨g, 2, none⟩ = some a2 ∧ w.cell? ⟨g, 3, none⟩ = some a3 ∧ w.cell? ⟨g, 4, none⟩ = some a4 ∧ w.frozen? ⟨g, 0, none⟩ = false ∧ w.frozen? ⟨g, 1, none⟩ = false ∧ w.frozen? ⟨g, 2, none⟩ = false ∧ w.frozen? ⟨g, 3, none⟩ = false ∧ w.frozen? ⟨g, 4, none⟩ = false := ⟨blk_cell h 0, blk_cell h 1, blk_cell h 2, blk_cell h 3, blk_cell h 4, blk_frozen h 0, blk_frozen h 1, blk_frozen h 2, blk_frozen h 3, blk_frozen h 4⟩
theorem cB6 {w : World} {g : Nat} {t : TypeId} {a0 a1 a2 a3 a4 a5 : Value} (h : w.heap[g]? = some (.cells #[a0, a1, a2, a3, a4, a5] t (0, 0))) : w.cell? ⟨g, 0, none⟩ = some a0 ∧ w.cell? ⟨g, 1, none⟩ = some a1 ∧ w.cell? ⟨g, 2, none⟩ = some a2 ∧ w.cell? ⟨g, 3, none⟩ = some a3 ∧ w.cell? ⟨g, 4, none⟩ = some a4 ∧ w.cell? ⟨g, 5, none⟩ = some a5 ∧ w.frozen? ⟨g, 0, none⟩ = false ∧ w.frozen? ⟨g, 1, none⟩ = false ∧ w.frozen? ⟨g, 2, none⟩ = false ∧ w.frozen? ⟨g, 3, none⟩ = false ∧ w.frozen? ⟨g, 4, none⟩ = false ∧ w.frozen? ⟨g, 5, none⟩ = false := ⟨blk_cell h 0, blk_cell h 1, blk_cell h 2, blk_cell h 3, blk_cell h 4, blk_cell h 5, blk_frozen h 0, blk_frozen h 1, blk_frozen h 2, blk_frozen h 3, blk_frozen h 4, blk_frozen h 5⟩
theorem cB7 {w : World} {g : Nat} {t : TypeId} {a0 a1 a2 a3 a4 a5 a6 : Value} (h : w.heap[g]? = some (.cells #[a0, a1, a2, a3, a4, a5, a6] t (0, 0))) : w.cell? ⟨g, 0, none⟩ = some a0 ∧ w.cell? ⟨g, 1, none⟩ = some a1 ∧ w.cell? ⟨g, 2, none⟩ = some a2 ∧ w.cell? ⟨g, 3, none⟩ = some a3 ∧ w.cell? ⟨g, 4, none⟩ = some a4 ∧ w.cell? ⟨g, 5, none⟩ = some a5 ∧ w.cell? ⟨g, 6, none⟩ = some a6 ∧ w.frozen? ⟨g, 0, none⟩ = false ∧ w.frozen? ⟨g, 1, none⟩ = false ∧ w.frozen? ⟨g, 2, none⟩ = false ∧ w.frozen? ⟨g, 3, none⟩ = false ∧ w.frozen? ⟨g, 4, none⟩ = false ∧ w.frozen? ⟨g, 5, none⟩ = false ∧ w.frozen? ⟨g, 6, none⟩ = false := ⟨blk_cell h 0, blk_cell h 1, blk_cell h 2, blk_cell h 3, blk_cell h 4, blk_cell h 5, blk_cell h 6, blk_frozen h 0, blk_frozen h 1, blk_frozen h 2, blk_frozen h 3, blk_frozen h 4, blk_frozen h 5, blk_frozen h 6⟩
theorem cB8 {w : World} {g : Nat} {t : TypeId} {a0 a1 a2 a3 a4 a5 a6 a7 : Value} (h : w.heap[g]? = some (.cells #[a0, a1, a2, a3, a4, a5, a6, a7] t (0, 0))) : w.cell? ⟨g, 0, none⟩ = some a0 ∧ w.cell? ⟨g, 1, none⟩ = some a1 ∧ w.cell? ⟨g, 2, none⟩ = some a2 ∧ w.cell? ⟨g, 3, none⟩ = some a3 ∧ w.cell? ⟨g, 4, none⟩ = some a4 ∧ w.cell? ⟨g, 5, none⟩ = some a5 ∧ w.cell? ⟨g, 6, none⟩ = some a6 ∧ w.cell? ⟨g, 7, none⟩ = some a7 ∧ w.frozen? ⟨g, 0, none⟩ = false ∧ w.frozen? ⟨g, 1, none⟩ = false ∧ w.frozen? ⟨g, 2, none⟩ = false ∧ w.frozen? ⟨g, 3, none⟩ = false ∧ w.frozen? ⟨g, 4, none⟩ = false ∧ w.frozen? ⟨g, 5, none⟩ = false ∧ w.frozen? ⟨g, 6, none⟩ = false ∧ w.frozen? ⟨g, 7, none⟩ = false := ⟨blk_cell h 0, blk_cell h 1, blk_cell h 2, blk_cell h 3, blk_cell h 4, blk_cell h 5, blk_cell h 6, blk_cell h 7, blk_frozen h 0, blk_frozen h 1, blk_frozen h 2, blk_frozen h 3, blk_frozen h 4, blk_frozen h 5, blk_frozen h 6, blk_frozen h 7⟩
theorem cD {w0 w w1 : World} {g : Nat} {o : Obj} (_ : w0.heap[g]? = some o) (h : w.heap[g]? = some o) (hb : Below w.heap.size w w1) : w1.heap[g]? = some o := blk_below h hb
theorem cH {w0 w w1 : World} {g : Nat} (h : Below w0.heap.size w0 w) (hb : Below w.heap.size w w1) (hg : g = w.heap.size) : w0.heap.size ≤ g ∧ Below w0.heap.size w0 w1 := ⟨hg ▸ h.size, below_step h hb⟩
theorem cS2 {w : World} {g b i0 i1 : Nat} {u0 u1 : Value} {t : TypeId} {cs : Array Value} (h : w.heap[g]? = some (.cells cs t (0, 0))) (hp : g ≠ b) : ((w.setCell ⟨b, i0, none⟩ u0).setCell ⟨b, i1, none⟩ u1).heap[g]? = some (.cells cs t (0, 0)) := blk_far (blk_far h hp u0) hp u1
theorem cS3 {w : World} {g b i0 i1 i2 : Nat} {u0 u1 u2 : Value} {t : TypeId} {cs : Array Value} (h : w.heap[g]? = some (.cells cs t (0, 0))) (hp : g ≠ b) : (((w.setCell ⟨b, i0, none⟩ u0).setCell ⟨b, i1, none⟩ u1).setCell ⟨b, i2, none⟩ u2).heap[g]? = some (.cells cs t (0, 0)) := blk_far (blk_far (blk_far h hp u0) hp u1) hp u2
theorem cS4 {w : World} {g b i0 i1 i2 i3 : Nat} {u0 u1 u2 u3 : Value} {t : TypeId} {cs : Array Value} (h : w.heap[g]? = some (.cells cs t (0, 0))) (hp : g ≠ b) : ((((w.setCell ⟨b, i0, none⟩ u0).setCell ⟨b, i1, none⟩ u1).setCell ⟨b, i2, none⟩ u2).setCell ⟨b, i3, none⟩ u3).heap[g]? = some (.cells cs t (0, 0)) := blk_far (blk_far (blk_far (blk_far h hp u0) hp u1) hp u2) hp u3
theorem cS5 {w : World} {g b i0 i1 i2 i3 i4 : Nat} {u0 u1 u2 u3 u4 : Value} {t : TypeId} {cs : Array Value} (h : w.heap[g]? = some (.cells cs t (0, 0))) (hp : g ≠ b) : (((((w.setCell ⟨b, i0, none⟩ u0).setCell ⟨b, i1, none⟩ u1).setCell ⟨b, i2, none⟩ u2).setCell ⟨b, i3, none⟩ u3).setCell ⟨b, i4, none⟩ u4).heap[g]? = some (.cells cs t (0, 0)) := blk_far (blk_far (blk_far (blk_far (blk_far h hp u0) hp u1) hp u2) hp u3) hp u4

def Fz.f (a0_0 : ByteArray) (a0_1 : ByteArray) (a0_2 : Bool) : Option (ByteArray×ByteArray×Bool):=some (a0_0,a0_1,a0_2)
set_option maxHeartbeats 8000000 in
set_option maxRecDepth 100000 in
theorem Fz.calls (a0_0 : ByteArray) (a0_1 : ByteArray) (a0_2 : Bool) (r1 : ByteArray) (r2 : ByteArray) (r3 : Bool) (w : World) (h : Fz.f a0_0 a0_1 a0_2=some (r1,r2,r3)) :
  Calls Try.prog 10 #[.agg #[.string a0_0,.string a0_1,.bool a0_2]] w fun e w' => e = .returned (.agg #[.string r1,.string r2,.bool r3])∧Below w.heap.size w w':=by
 have hu26:=Try.underlying26;have hu37:=Try.underlying37;have HB:=zh (Below.refl w.heap.size w);have H : (some (a0_0,a0_1,a0_2))=some (r1,r2,r3):=h;clear h;simp only [Option.some.injEq,Prod.mk.injEq] at H;obtain ⟨rfl,rfl,rfl⟩:=H
 go_enter Try.func10,Try.ntmps10
 go_wp2_with (first|((with_reducible refine zK (N:=1) rfl ?_);refine zI ?hg (N:=1) ?hd (cs:=#[.string a0_0,.string a0_1,.bool a0_2]) (t:=26) ?hr ?_;(case hd|hg => rfl);(case hr => go_simp <;> rfl);intro gb202 hg w2 hbox hb;have BK202:=zh (hbox);have hH_:=cH (by repeat (with_reducible first|exact HB.out|apply za|apply zb|apply zc)) hb hg;have GW202:=zh hH_.1;have GE202:=GW202;replace HB:=zh hH_.2;clear hb hbox hg hH_)|((with_reducible refine zK (N:=2) rfl ?_);refine zI ?hg (N:=2) ?hd (cs:=#[.string (⟨#[]⟩ : ByteArray),.string (⟨#[]⟩ : ByteArray),.bool false]) (t:=37) ?hr ?_;(case hd|hg => rfl);(case hr => go_simp <;> rfl);intro gb203 hg w3 hbox hb;have BK203:=zh (hbox);have hH_:=cH (by repeat (with_reducible first|exact HB.out|apply za|apply zb|apply zc|refine zd ?_ GE202.out)) hb hg;have GW203:=zh hH_.1;have GE203:=GW203;replace HB:=zh hH_.2;have NB202_203:=zh ((by rw [hg];exact yc (yi (g:=gb202) (o:=.cells #[.string a0_0,.string a0_1,.bool a0_2] 26 (0,0)) (by (with_reducible repeat first|apply ze|apply zf|apply zg);exact BK202.out)) : gb202≠gb203));have NB203_202:=zh NB202_203.out.symm;replace BK202:=zh (cD BK202.out (by (with_reducible repeat first|apply ze|apply zf|apply zg);exact BK202.out) hb);clear hb hbox hg hH_)|((with_reducible refine zK (N:=3) rfl ?_);refine zI ?hg (N:=3) ?hd (cs:=#[.string (⟨#[]⟩ : ByteArray),.string (⟨#[]⟩ : ByteArray),.bool false]) (t:=37) ?hr ?_;(case hd|hg => rfl);(case hr => go_simp <;> rfl);intro gb204 hg w4 hbox hb;have BK204:=zh (hbox);have hH_:=cH (by repeat (with_reducible first|exact HB.out|apply za|apply zb|apply zc|refine zd ?_ GE202.out|refine zd ?_ GE203.out)) hb hg;have GW204:=zh hH_.1;have GE204:=GW204;replace HB:=zh hH_.2;have NB202_204:=zh ((by rw [hg];exact yc (yi (g:=gb202) (o:=.cells #[.string a0_0,.string a0_1,.bool a0_2] 26 (0,0)) (by (with_reducible repeat first|apply ze|apply zf|apply zg);exact BK202.out)) : gb202≠gb204));have NB204_202:=zh NB202_204.out.symm;replace BK202:=zh (cD BK202.out (by (with_reducible repeat first|apply ze|apply zf|apply zg);exact BK202.out) hb);have NB203_204:=zh ((by rw [hg];exact yc (yi (g:=gb203) (o:=.cells #[.string (⟨#[]⟩ : ByteArray),.string (⟨#[]⟩ : ByteArray),.bool false] 37 (0,0)) (by (with_reducible repeat first|apply ze|apply zf|apply zg);exact BK203.out)) : gb203≠gb204));have NB204_203:=zh NB203_204.out.symm;replace BK203:=zh (cD BK203.out (by (with_reducible repeat first|apply ze|apply zf|apply zg);exact BK203.out) hb);clear hb hbox hg hH_;have hnb5:=NB202_203.out;have hnc5:=NB203_202.out;have hnb6:=NB202_204.out;have hnc6:=NB204_202.out;obtain ⟨hcz7_0,hcz7_1,hcz7_2,hfz7_0,hfz7_1,hfz7_2⟩:=cB3 BK202.out;have hnb8:=NB204_203.out;have hnc8:=NB203_204.out;obtain ⟨hcz9_0,hcz9_1,hcz9_2,hfz9_0,hfz9_1,hfz9_2⟩:=cB3 BK204.out;obtain ⟨hcz10_0,hcz10_1,hcz10_2,hfz10_0,hfz10_1,hfz10_2⟩:=cB3 BK203.out))
 refine bodyPost_ret (results_cell_row rfl _ _ gb203 37 #[.string a0_0,.string a0_1,.bool a0_2] (0,0) _ rfl (by (with_reducible repeat first|apply ze|apply zf|apply zg);refine zL (cs:=#[.string a0_0,.string a0_1,.bool false]) ?_ 2 _ rfl;(with_reducible repeat first|apply ze|apply zf|apply zg);refine zL (cs:=#[.string a0_0,.string (⟨#[]⟩ : ByteArray),.bool false]) ?_ 1 _ rfl;(with_reducible repeat first|apply ze|apply zf|apply zg);refine zL (cs:=#[.string (⟨#[]⟩ : ByteArray),.string (⟨#[]⟩ : ByteArray),.bool false]) ?_ 0 _ rfl;(with_reducible repeat first|apply ze|apply zf|apply zg);refine cS3 ?_ NB203_204.out;(with_reducible repeat first|apply ze|apply zf|apply zg);exact BK203.out) Try.underlying37 rfl (by kernel_rfl)) rfl ?_;exact ⟨by first|rfl|(simp [yt,yu] <;> rfl)|(simp [*,yt,yu] <;> rfl),by repeat (with_reducible first|exact HB.out|apply za|apply zb|apply zc|refine zd ?_ GE202.out|refine zd ?_ GE203.out|refine zd ?_ GE204.out)⟩


def Fj.l0 : Nat→List (S51)→List (S67)→Int→Int→Option ((List (S51)))
 | 0,_,_,_,_ => none
 | k + 1,x3,x8,x9,x10 => if x10<x9 then (if 0≤x10 then (if x10<(x8.length : Int) then (if x3.length + ((rd_T67 x8 x10).f1).length<5864062014805 then (Fj.l0 k (x3 ++ ((rd_T67 x8 x10).f1)) x8 x9 (wrap64 (x10 + 1))) else (none)) else (none)) else (none)) else (some x3)
def Fj.f (k : Nat) (l0_0 : List (S67)) (a0_1 : Int) : Option ((List (S51))):=Fj.l0 k (([] : List (S51))) l0_0 (l0_0.length : Int) 0
theorem Fj.mono_l : ∀ k,(∀ y0 y1 y2 y3,LeO (Fj.l0 k y0 y1 y2 y3) (Fj.l0 (k + 1) y0 y1 y2 y3))
 | 0 => fun _ _ _ _ r h => by simp [Fj.l0] at h
 | k + 1 => by
  have ih0:=Fj.mono_l k;intro y0 y1 y2 y3;unfold Fj.l0
  repeat' first|(with_reducible first|exact ih0 _ _ _ _|exact zQ _|exact zN _|refine zP ?_ ?_|refine zO ?_ (fun _ => ?_))|refine zP ?_ ?_|refine zO ?_ (fun _ => ?_)
theorem Fj.mono : ∀ a0 a1 k,LeO (Fj.f k a0 a1) (Fj.f (k + 1) a0 a1):=by
 intro a0 a1 k;have ih0:=Fj.mono_l k;unfold Fj.f
 repeat' first|(with_reducible first|exact ih0 _ _ _ _|exact zQ _|exact zN _|refine zP ?_ ?_|refine zO ?_ (fun _ => ?_))|refine zP ?_ ?_|refine zO ?_ (fun _ => ?_)
set_option maxHeartbeats 8000000 in
set_option maxRecDepth 100000 in
theorem Fj.calls (k : Nat) (A0_0 : Option Addr) (c0_0 : Nat) (l0_0 : List (S67)) (a0_1 : Int) (r : List (S51)) (w : World) (hr0_0 : Kd.C k67 w A0_0 l0_0.length l0_0) (hc0_0 : l0_0.length≤c0_0) (h : Fj.f k l0_0 a0_1=some r) :
  Calls Try.prog 33 #[.agg #[.slice A0_0 l0_0.length c0_0,.int .i64 a0_1]] w fun e w' => ∃ v0_ : Value,e = .returned (v0_)∧Kd.R k51 51 w' w.heap.size (fun _ => True) v0_ r∧Below w.heap.size w w':=by
 have hu35:=Try.underlying35;have hu67:=Try.underlying67;have HR0_0:=zh hr0_0;have HC0_0:=zh hc0_0;clear hr0_0 hc0_0;have HB:=zh (Below.refl w.heap.size w);have H : (Fj.l0 k (([] : List (S51))) l0_0 (l0_0.length : Int) 0)=some r:=h;clear h;obtain ⟨y206,hy206⟩ : ∃ y_ : List (S51),y_=(([] : List (S51))):=⟨_,rfl⟩;replace H : (Fj.l0 k y206 l0_0 (l0_0.length : Int) 0)=some r:=by first|(rw [hy206];with_reducible exact H)|(have H2_:=(Option.bind_some _ _).symm.trans H;rw [hy206];with_reducible exact H2_)|(have H2_:=(Option.bind_some _ _).symm.trans H;with_reducible exact H2_)|with_reducible exact H|(rw [hy206];exact H)|exact H
 have Ny206:=zh hy206;clear hy206;have H':=zh H;clear H
 go_enter Try.func33,Try.ntmps33
 go_wp2_with (first|((with_reducible refine zK (N:=1) rfl ?_);refine zI ?hg (N:=1) ?hd (cs:=#[.slice A0_0 l0_0.length c0_0,.int .i64 a0_1]) (t:=35) ?hr ?_;(case hd|hg => rfl);(case hr => go_simp <;> rfl);intro gb205 hg w2 hbox hb;have BK205:=zh (hbox);have hH_:=cH (by repeat (with_reducible first|exact HB.out|apply za|apply zb|apply zc)) hb hg;have GW205:=zh hH_.1;have GE205:=GW205;replace HB:=zh hH_.2;clear hb hbox hg hH_)|((with_reducible refine zK (N:=6) rfl ?_);refine Kd.R_lit k51 _ 51 ?hg (N:=6) ?hd (xs:=([] : List (S51))) (inner:=[]) (ok:=fun _ => True) (okp:=fun _ => True) ?hr ?hp (fun _ hk => hk) trivial (Below.refl _ _) (ye _) (by simp) ?_;(case hd|hg => rfl);(case hr => go_simp <;> rfl);(case hp => exact (Reps.none _ _));intro v207 w3 ho4 hb hg_ hnew_;clear hg_ hnew_;(first|rw [← Ny206.out] at ho4|(simp only [Int.reduceToNat] at ho4;rw [← Ny206.out] at ho4));have HO208:=zh (yx ho4 (zB (by repeat (with_reducible first|exact HB.out|apply za|apply zb|apply zc|refine zd ?_ GE205.out))));replace BK205:=zh (cD BK205.out (by (with_reducible repeat first|apply ze|apply zf|apply zg);exact BK205.out) hb);replace HB:=zh (zC (by repeat (with_reducible first|exact HB.out|apply za|apply zb|apply zc|refine zd ?_ GE205.out)) hb);clear hb ho4;obtain ⟨hcz5_0,hcz5_1,hfz5_0,hfz5_1⟩:=cB2 BK205.out))
 go_loopg [3,10] k (fun kq v3 v10 w' => ∃ (x3_1 : List (S51)) (x10_1 : Int),v10 = .int .i64 x10_1∧Aside0 (Fj.l0 kq x3_1 l0_0 (l0_0.length : Int) x10_1=some r)∧Aside0 (kq≤k)∧Aside0 (Kd.R k51 51 w' w.heap.size (fun _ => True) v3 x3_1)∧Aside0 (w'.heap[gb205]? = some (.cells #[(.slice A0_0 l0_0.length c0_0),.int .i64 a0_1] 35 (0,0)))∧Aside0 (Below w.heap.size w w'))
 case atStart => exact ⟨(y206),(0),(by first|rfl|(simp;done)|(simp [*];done)),H',⟨ye _⟩,⟨by (with_reducible repeat (first|apply zm|apply zn|apply zo));exact HO208.out⟩,⟨by (with_reducible repeat first|apply ze|apply zf|apply zg);exact BK205.out⟩,⟨by repeat (with_reducible first|exact HB.out|apply za|apply zb|apply zc|refine zd ?_ GE205.out)⟩⟩
 case round =>
  clear H'
  try clear p2
  try clear c3
  try clear hcz5_0 hcz5_1 hfz5_0 hfz5_1
  obtain ⟨x3_1,x10_1,rfl,HA,HK1,HO_3,BK205,HB⟩:=hrel
  cases gk with
  | zero => exact absurd HA.out (by simp [Fj.l0])
  | succ k1 =>
   have H:=HA.out;clear HA;simp only [Fj.l0] at H
   by_cases c6 : x10_1<(l0_0.length : Int)
   ·
    rw [if_pos c6] at H
    have c6b0 : decide (x10_1<(l0_0.length : Int))=true:=decide_eq_true c6;clear c6
    by_cases c7 : 0≤x10_1
    ·
     rw [if_pos c7] at H
     have c7b0 : decide (0≤x10_1)=true:=decide_eq_true c7;clear c7
     by_cases c8 : x10_1<(l0_0.length : Int)
     ·
      rw [if_pos c8] at H
      have c8b0 : decide (x10_1<(l0_0.length : Int))=true:=decide_eq_true c8;clear c8
      by_cases c9 : x3_1.length + ((rd_T67 l0_0 x10_1).f1).length<5864062014805
      ·
       rw [if_pos c9] at H
       have LMc9:=zh c9;clear c9;obtain ⟨y211,hy211⟩ : ∃ y_ : List (S51),y_=(x3_1 ++ ((rd_T67 l0_0 x10_1).f1)):=⟨_,rfl⟩;replace H : (Fj.l0 k1 y211 l0_0 (l0_0.length : Int) (wrap64 (x10_1 + 1)))=some r:=by first|(rw [hy211];with_reducible exact H)|(have H2_:=(Option.bind_some _ _).symm.trans H;rw [hy211];with_reducible exact H2_)|(have H2_:=(Option.bind_some _ _).symm.trans H;with_reducible exact H2_)|with_reducible exact H|(rw [hy211];exact H)|exact H
       have Ny211:=zh hy211;clear hy211;have H':=zh H;clear H;have p209 : 0≤(x10_1 : Int):=zy (by first|(with_reducible assumption)|assumption);have q209 : x10_1<(l0_0.length : Int):=zy (by first|(with_reducible assumption)|assumption);obtain ⟨ad209,A209_1,c209_1,e209,hx209_0,hx209_1,hl209_1,hi209_1⟩:=at_T67 HR0_0.out x10_1 p209 q209
       cases e209
       replace hx209_0:=(HB.out.cell (zl w _ hx209_0)).trans hx209_0;replace hx209_1:=(HB.out.cell (zl w _ hx209_1)).trans hx209_1;have HR209_1:=zh hi209_1;have HC209_1:=zh hl209_1;clear hi209_1 hl209_1;replace p209:=eq_true p209;replace q209:=eq_true q209
       go_wp2_with (first|((with_reducible refine zK (N:=5) rfl ?_);refine zI ?hg (N:=5) ?hd (cs:=#[.int .i64 0,.slice none 0 0]) (t:=67) ?hr ?_;(case hd|hg => rfl);(case hr => go_simp <;> rfl);intro gb210 hg w10 hbox hb;replace HO_3:=zh (yg (by (with_reducible repeat (first|apply zm|apply zn|apply zo));exact HO_3.out) hb);have BK210:=zh (hbox);have hH_:=cH (by repeat (with_reducible first|exact HB.out|apply za|apply zb|apply zc|refine zd ?_ GE205.out)) hb hg;have GW210:=zh hH_.1;have GE210:=GW210;replace HB:=zh hH_.2;have NB205_210:=zh ((by rw [hg];exact yc (yi (g:=gb205) (o:=.cells #[.slice (some ad209) l0_0.length c0_0,.int .i64 a0_1] 35 (0,0)) (by (with_reducible repeat first|apply ze|apply zf|apply zg);exact BK205.out)) : gb205≠gb210));have NB210_205:=zh NB205_210.out.symm;replace BK205:=zh (cD BK205.out (by (with_reducible repeat first|apply ze|apply zf|apply zg);exact BK205.out) hb);clear hb hbox hg hH_;have hnb11:=NB210_205.out;have hnc11:=NB205_210.out;obtain ⟨hcz12_0,hcz12_1,hfz12_0,hfz12_1⟩:=cB2 BK210.out)|((with_reducible refine yA (b:=.append) (xs:=#[.tmp 14,.tmp 16]) rfl ?_);at_builtin;refine Kd.R_append_rows k51 (w0:=w) w.heap.size rfl (.tmp 14) (.tmp 16) 29 51 (.agg #[(.string ⟨#[]⟩),(.int .i64 0)]) 24 rfl Try.underlying29 info51 rfl (by decide) (by omega) u3 x3_1 ((rd_T67 l0_0 x10_1).f1) _ _ _ (fun _ => True) (fun _ => False) rfl rfl ?aO ?aR (fun _ _ h => h) (fun _ h => h.elim) ?aF ?aB ?aS ?aL ?_;(case aR => exact Kd.C_below HR209_1.out (by repeat (with_reducible first|exact HB.out|apply za|apply zb|apply zc|refine zd ?_ GE205.out|refine zd ?_ GE210.out)));(case aB => exact (by repeat (with_reducible first|exact HB.out|apply za|apply zb|apply zc|refine zd ?_ GE205.out|refine zd ?_ GE210.out)));(case aF => exact (fun _ _ => trivial));(case aO => exact (by (with_reducible repeat (first|apply zm|apply zn|apply zo));exact zM (zE (p:=⟨gb210,1,none⟩) (zE (p:=⟨gb210,0,none⟩) (yf HO_3.out BK210.out (by decide)) (fun _ hk => hk.2) (.int .i64 ((rd_T67 l0_0 x10_1).f0))) (fun _ hk => hk.2) (.slice A209_1 ((rd_T67 l0_0 x10_1).f1).length c209_1)) (fun _ hk => trivial)));(case aS => exact (zB (by repeat (with_reducible first|exact HB.out|apply za|apply zb|apply zc|refine zd ?_ GE205.out|refine zd ?_ GE210.out))));(case aL => have:=LMc9.out;omega);intro v212 w13 ho hb hg hat;rw [← Ny211.out] at ho;replace BK205:=zh (yv (g:=gb205) (o:=.cells #[.slice (some ad209) l0_0.length c0_0,.int .i64 a0_1] 35 (0,0)) (by (with_reducible repeat first|apply ze|apply zf|apply zg);refine cS2 ?_ NB205_210.out;(with_reducible repeat first|apply ze|apply zf|apply zg);exact BK205.out) hg (Kd.R_ne HO_3.out BK205.out (by decide)));replace BK210:=zh (yv (g:=gb210) (o:=.cells #[.int .i64 ((rd_T67 l0_0 x10_1).f0),.slice A209_1 ((rd_T67 l0_0 x10_1).f1).length c209_1] 67 (0,0)) (by (with_reducible repeat first|apply ze|apply zf|apply zg);refine zL (cs:=#[.int .i64 ((rd_T67 l0_0 x10_1).f0),.slice none 0 0]) ?_ 1 _ rfl;(with_reducible repeat first|apply ze|apply zf|apply zg);refine zL (cs:=#[.int .i64 0,.slice none 0 0]) ?_ 0 _ rfl;(with_reducible repeat first|apply ze|apply zf|apply zg);exact BK210.out) hg (Kd.R_ne HO_3.out BK210.out (by decide)));replace HB:=zh (hb);have HO213:=zh (ho);clear HO_3 ho hb hg hat))
       go_roundg k1
       case measure => have:=HK1.out;omega
       case rel => exact ⟨(y211),(wrap64 (x10_1 + 1)),(by first|rfl|(simp;done)|(simp [*];done)),H',⟨by have:=HK1.out;omega⟩,⟨by (with_reducible repeat (first|apply zm|apply zn|apply zo));exact HO213.out⟩,⟨by (with_reducible repeat first|apply ze|apply zf|apply zg);exact BK205.out⟩,⟨by repeat (with_reducible first|exact HB.out|apply za|apply zb|apply zc|refine zd ?_ GE205.out|refine zd ?_ GE210.out)⟩⟩
      rw [if_neg c9] at H;exact absurd H (by simp)
     rw [if_neg c8] at H;exact absurd H (by simp)
    rw [if_neg c7] at H;exact absurd H (by simp)
   rw [if_neg c6] at H;have c6b0 : decide (x10_1<(l0_0.length : Int))=false:=decide_eq_false c6;clear c6;obtain rfl:=zU H
   go_wp2
   go_ret
   exact ⟨_,by first|rfl|(simp [yt,yu] <;> rfl)|(simp [*,yt,yu] <;> rfl),by (with_reducible repeat (first|apply zm|apply zn|apply zo));exact HO_3.out,by repeat (with_reducible first|exact HB.out|apply za|apply zb|apply zc|refine zd ?_ GE205.out)⟩


def F00.f (a0 : Int) (a1 : Int) (a2 : Int) : Option (Bool):=if a1≤a0 then (some (decide (a0≤a2))) else (some false)
set_option maxHeartbeats 8000000 in
set_option maxRecDepth 100000 in
theorem F00.calls (a0 : Int) (a1 : Int) (a2 : Int) (r : Bool) (w : World) (h : F00.f a0 a1 a2=some r) :
  Calls Try.prog 56 #[.int .i64 a0,.int .i64 a1,.int .i64 a2] w fun e w' => e = .returned (.bool r)∧Drawn0 w w':=by
 have H : (if a1≤a0 then (some (decide (a0≤a2))) else (some false))=some r:=h;clear h
 by_cases c4 : a1≤a0
 ·
  rw [if_pos c4] at H
  have c4b0 : decide (a1≤a0)=true:=decide_eq_true c4;clear c4;obtain rfl:=zU H
  go_enter Try.func56,Try.ntmps56
  go_wp2
  go_ret
  exact ⟨by first|rfl|(simp;done)|(simp [*];done),by repeat (first|exact yp _|apply yq)⟩
 rw [if_neg c4] at H;have c4b0 : decide (a1≤a0)=false:=decide_eq_false c4;clear c4;obtain rfl:=zU H
 go_enter Try.func56,Try.ntmps56
 go_wp2
 go_ret
 exact ⟨by first|rfl|(simp;done)|(simp [*];done),by repeat (first|exact yp _|apply yq)⟩


def F0c.f (a0_0 : ByteArray) (a0_1 : Int) : Option (Bool):=if (a0_0.size : Int)≤2000 then ((F00.f a0_1 0 9999).bind fun t215 => (some t215)) else (some false)
set_option maxHeartbeats 8000000 in
set_option maxRecDepth 100000 in
theorem F0c.calls (a0_0 : ByteArray) (a0_1 : Int) (r : Bool) (w : World) (h : F0c.f a0_0 a0_1=some r) :
  Calls Try.prog 44 #[.agg #[.string a0_0,.int .i64 a0_1]] w fun e w' => e = .returned (.bool r)∧Below w.heap.size w w':=by
 have hu51:=Try.underlying51;have HB:=zh (Below.refl w.heap.size w);have H : (if (a0_0.size : Int)≤2000 then ((F00.f a0_1 0 9999).bind fun t215 => (some t215)) else (some false))=some r:=h;clear h
 by_cases c2 : (a0_0.size : Int)≤2000
 ·
  rw [if_pos c2] at H
  have c2b0 : decide ((a0_0.size : Int)≤2000)=true:=decide_eq_true c2;have c2b1 : decide (a0_0.size≤2000)=true:=decide_eq_true (by omega);clear c2;replace H:=zT.mp H;obtain ⟨t215,A30,H⟩:=H;replace H : (some t215)=some r:=H;have A3:=zh A30;clear A30;obtain rfl:=zU H
  go_enter Try.func44,Try.ntmps44
  go_wp2_with (first|((with_reducible refine zK (N:=1) rfl ?_);refine zI ?hg (N:=1) ?hd (cs:=#[.string a0_0,.int .i64 a0_1]) (t:=51) ?hr ?_;(case hd|hg => rfl);(case hr => go_simp <;> rfl);intro gb214 hg w4 hbox hb;have BK214:=zh (hbox);have hH_:=cH (by repeat (with_reducible first|exact HB.out|apply za|apply zb|apply zc)) hb hg;have GW214:=zh hH_.1;have GE214:=GW214;replace HB:=zh hH_.2;clear hb hbox hg hH_;obtain ⟨hcz5_0,hcz5_1,hfz5_0,hfz5_1⟩:=cB2 BK214.out)|(go_at_call 56;(with_reducible refine (F00.calls  a0_1 0 9999 t215 _ A3.out).mono ?_);rintro e w' ⟨rfl,⟨nd,rfl⟩⟩))
  go_ret
  exact ⟨by first|rfl|(simp [yt,yu] <;> rfl)|(simp [*,yt,yu] <;> rfl),by repeat (with_reducible first|exact HB.out|apply za|apply zb|apply zc|refine zd ?_ GE214.out)⟩
 rw [if_neg c2] at H;have c2b0 : decide ((a0_0.size : Int)≤2000)=false:=decide_eq_false c2;have c2b1 : decide (a0_0.size≤2000)=false:=decide_eq_false (by omega);clear c2;obtain rfl:=zU H
 go_enter Try.func44,Try.ntmps44
 go_wp2_with (first|((with_reducible refine zK (N:=1) rfl ?_);refine zI ?hg (N:=1) ?hd (cs:=#[.string a0_0,.int .i64 a0_1]) (t:=51) ?hr ?_;(case hd|hg => rfl);(case hr => go_simp <;> rfl);intro gb214 hg w6 hbox hb;have BK214:=zh (hbox);have hH_:=cH (by repeat (with_reducible first|exact HB.out|apply za|apply zb|apply zc)) hb hg;have GW214:=zh hH_.1;have GE214:=GW214;replace HB:=zh hH_.2;clear hb hbox hg hH_;obtain ⟨hcz7_0,hcz7_1,hfz7_0,hfz7_1⟩:=cB2 BK214.out))
 go_ret
 exact ⟨by first|rfl|(simp [yt,yu] <;> rfl)|(simp [*,yt,yu] <;> rfl),by repeat (with_reducible first|exact HB.out|apply za|apply zb|apply zc|refine zd ?_ GE214.out)⟩


def Fx.l0 : Nat→List Int→Int→Int→Int→Option (Int)
 | 0,_,_,_,_ => none
 | k + 1,x0,x1,x7,x8 => if x8<x7 then (if 0≤x8 then (if x8<(x0.length : Int) then (if x1=(rd x0 x8) then (some x8) else (Fx.l0 k x0 x1 x7 (wrap64 (x8 + 1)))) else (none)) else (none)) else (some (-1))
def Fx.f (k : Nat) (l0 : List Int) (a1 : Int) : Option (Int):=Fx.l0 k l0 a1 (l0.length : Int) 0
theorem Fx.mono_l : ∀ k,(∀ y0 y1 y2 y3,LeO (Fx.l0 k y0 y1 y2 y3) (Fx.l0 (k + 1) y0 y1 y2 y3))
 | 0 => fun _ _ _ _ r h => by simp [Fx.l0] at h
 | k + 1 => by
  have ih0:=Fx.mono_l k;intro y0 y1 y2 y3;unfold Fx.l0
  repeat' first|(with_reducible first|exact ih0 _ _ _ _|exact zQ _|exact zN _|refine zP ?_ ?_|refine zO ?_ (fun _ => ?_))|refine zP ?_ ?_|refine zO ?_ (fun _ => ?_)
theorem Fx.mono : ∀ a0 a1 k,LeO (Fx.f k a0 a1) (Fx.f (k + 1) a0 a1):=by
 intro a0 a1 k;have ih0:=Fx.mono_l k;unfold Fx.f
 repeat' first|(with_reducible first|exact ih0 _ _ _ _|exact zQ _|exact zN _|refine zP ?_ ?_|refine zO ?_ (fun _ => ?_))|refine zP ?_ ?_|refine zO ?_ (fun _ => ?_)
set_option maxHeartbeats 8000000 in
set_option maxRecDepth 100000 in
theorem Fx.calls (k : Nat) (A0 : Option Addr) (c0 : Nat) (l0 : List Int) (a1 : Int) (r : Int) (w : World) (hr0 : Kd.C (Kd.int .i64) w A0 l0.length l0) (hc0 : l0.length≤c0) (h : Fx.f k l0 a1=some r) :
  Calls Try.prog 69 #[.slice A0 l0.length c0,.int .i64 a1] w fun e w' => e = .returned (.int .i64 r)∧Drawn0 w w':=by
 have HR0:=zh hr0;have HC0:=zh hc0;clear hr0 hc0;have H : (Fx.l0 k l0 a1 (l0.length : Int) 0)=some r:=h;clear h;have H':=zh H;clear H
 go_enter Try.func69,Try.ntmps69
 go_wp2
 go_loopg [8] k (fun kq v8 w' => ∃ (x8_1 : Int),v8 = .int .i64 x8_1∧Aside0 (Fx.l0 kq l0 a1 (l0.length : Int) x8_1=some r)∧Aside0 (kq≤k)∧Drawn0 w w')
 case atStart => exact ⟨(0),(by first|rfl|(simp;done)|(simp [*];done)),H',⟨ye _⟩,by repeat (first|exact yp _|apply yq)⟩
 case round =>
  clear H'
  try clear p2
  obtain ⟨x8_1,rfl,HA,HK1,⟨m1,rfl⟩⟩:=hrel
  cases gk with
  | zero => exact absurd HA.out (by simp [Fx.l0])
  | succ k1 =>
   have H:=HA.out;clear HA;simp only [Fx.l0] at H
   by_cases c3 : x8_1<(l0.length : Int)
   ·
    rw [if_pos c3] at H
    have c3b0 : decide (x8_1<(l0.length : Int))=true:=decide_eq_true c3;clear c3
    by_cases c4 : 0≤x8_1
    ·
     rw [if_pos c4] at H
     have c4b0 : decide (0≤x8_1)=true:=decide_eq_true c4;clear c4
     by_cases c5 : x8_1<(l0.length : Int)
     ·
      rw [if_pos c5] at H
      have c5b0 : decide (x8_1<(l0.length : Int))=true:=decide_eq_true c5;clear c5
      by_cases c6 : a1=(rd l0 x8_1)
      ·
       rw [if_pos c6] at H
       have c6b0 : (a1 == (rd l0 x8_1))=true:=ya.mpr c6;have c6b1 : (a1 != (rd l0 x8_1))=false:=zX.mpr c6;clear c6;obtain rfl:=zU H;have p216 : 0≤(x8_1 : Int):=zy (by first|(with_reducible assumption)|assumption);have q216 : x8_1<(l0.length : Int):=zy (by first|(with_reducible assumption)|assumption);obtain ⟨ad216,e216,hx216_0⟩:=Kd.at_int HR0.out x8_1 p216 q216
       cases e216
       replace p216:=eq_true p216;replace q216:=eq_true q216
       go_wp2
       go_ret
       exact ⟨by first|rfl|(simp;done)|(simp [*];done),by repeat (first|exact yp _|apply yq)⟩
      rw [if_neg c6] at H;have c6b0 : (a1 == (rd l0 x8_1))=false:=zY.mpr c6;have c6b1 : (a1 != (rd l0 x8_1))=true:=zZ.mpr c6;have H':=zh H;clear H;have p216 : 0≤(x8_1 : Int):=zy (by first|(with_reducible assumption)|assumption);have q216 : x8_1<(l0.length : Int):=zy (by first|(with_reducible assumption)|assumption);obtain ⟨ad216,e216,hx216_0⟩:=Kd.at_int HR0.out x8_1 p216 q216
      cases e216
      replace p216:=eq_true p216;replace q216:=eq_true q216
      go_wp2
      go_roundg k1
      case measure => have:=HK1.out;omega
      case rel => exact ⟨(wrap64 (x8_1 + 1)),(by first|rfl|(simp;done)|(simp [*];done)),H',⟨by have:=HK1.out;omega⟩,by repeat (first|exact yp _|apply yq)⟩
     rw [if_neg c5] at H;exact absurd H (by simp)
    rw [if_neg c4] at H;exact absurd H (by simp)
   rw [if_neg c3] at H;have c3b0 : decide (x8_1<(l0.length : Int))=false:=decide_eq_false c3;clear c3;obtain rfl:=zU H
   go_wp2
   go_ret
   exact ⟨by first|rfl|(simp;done)|(simp [*];done),by repeat (first|exact yp _|apply yq)⟩


def F04.f (k : Nat) (l0 : List Int) (a1 : Int) : Option (Bool):=(Fx.f k l0 a1).bind fun t217 => (some (decide (t217 ≥ 0)))
theorem F04.mono : ∀ a0 a1 k,LeO (F04.f k a0 a1) (F04.f (k + 1) a0 a1):=by
 intro a0 a1 k;unfold F04.f
 repeat' first|(with_reducible first|exact Fx.mono _ _ _|exact zQ _|exact zN _|refine zP ?_ ?_|refine zO ?_ (fun _ => ?_))|refine zP ?_ ?_|refine zO ?_ (fun _ => ?_)
set_option maxHeartbeats 8000000 in
set_option maxRecDepth 100000 in
theorem F04.calls (k : Nat) (A0 : Option Addr) (c0 : Nat) (l0 : List Int) (a1 : Int) (r : Bool) (w : World) (hr0 : Kd.C (Kd.int .i64) w A0 l0.length l0) (hc0 : l0.length≤c0) (h : F04.f k l0 a1=some r) :
  Calls Try.prog 57 #[.slice A0 l0.length c0,.int .i64 a1] w fun e w' => e = .returned (.bool r)∧Drawn0 w w':=by
 have HR0:=zh hr0;have HC0:=zh hc0;clear hr0 hc0;have H : ((Fx.f k l0 a1).bind fun t217 => (some (decide (t217 ≥ 0))))=some r:=h;clear h;replace H:=zT.mp H;obtain ⟨t217,A30,H⟩:=H;replace H : (some (decide (t217 ≥ 0)))=some r:=H;have A3:=zh A30;clear A30;obtain rfl:=zU H
 go_enter Try.func57,Try.ntmps57
 go_wp2_with (first|((with_reducible refine zJ (f:=69) rfl ?_);refine yj (some 7) rfl rfl Try.func69 (by kernel_rfl) rfl #[.slice A0 l0.length c0,.int .i64 a1] rfl (by (try simp only [zt,zu,zv]);first|done|rfl|(simp only [zw,zx];rfl)|(simp only [yr,ys,zV,zW];rfl)) ?_;(with_reducible refine (Fx.calls k  _ _ l0 a1 t217 _ ?side1 ?side2 A3.out).mono ?_);(case side1 => repeat (first|exact HR0.out|(with_reducible refine Kd.C_alloc ?_ _)|(with_reducible refine Kd.C_drewN ?_ _)|(with_reducible refine Kd.C_drew ?_)));(case side2 => exact HC0.out);rintro e w' ⟨rfl,⟨nd,rfl⟩⟩;refine ⟨_,rfl,?_⟩))
 go_ret
 exact ⟨by first|rfl|(simp;done)|(simp [*];done),by repeat (first|exact yp _|apply yq)⟩


def Fw.l0 : Nat→Int→List Int→Int→Int→Option (Int)
 | 0,_,_,_,_ => none
 | k + 1,x3,x6,x7,x8 => if x8<x7 then (if 0≤x8 then (if x8<(x6.length : Int) then (if (rd x6 x8)=x3 then (Fw.l0 k x3 x6 x7 (wrap64 (x8 + 1))) else (some (rd x6 x8))) else (none)) else (none)) else (some x3)
def Fw.f (k : Nat) (l0 : List Int) : Option (Int):=Fw.l0 k 0 l0 (l0.length : Int) 0
theorem Fw.mono_l : ∀ k,(∀ y0 y1 y2 y3,LeO (Fw.l0 k y0 y1 y2 y3) (Fw.l0 (k + 1) y0 y1 y2 y3))
 | 0 => fun _ _ _ _ r h => by simp [Fw.l0] at h
 | k + 1 => by
  have ih0:=Fw.mono_l k;intro y0 y1 y2 y3;unfold Fw.l0
  repeat' first|(with_reducible first|exact ih0 _ _ _ _|exact zQ _|exact zN _|refine zP ?_ ?_|refine zO ?_ (fun _ => ?_))|refine zP ?_ ?_|refine zO ?_ (fun _ => ?_)
theorem Fw.mono : ∀ a0 k,LeO (Fw.f k a0) (Fw.f (k + 1) a0):=by
 intro a0 k;have ih0:=Fw.mono_l k;unfold Fw.f
 repeat' first|(with_reducible first|exact ih0 _ _ _ _|exact zQ _|exact zN _|refine zP ?_ ?_|refine zO ?_ (fun _ => ?_))|refine zP ?_ ?_|refine zO ?_ (fun _ => ?_)
set_option maxHeartbeats 8000000 in
set_option maxRecDepth 100000 in
theorem Fw.calls (k : Nat) (A0 : Option Addr) (c0 : Nat) (l0 : List Int) (r : Int) (w : World) (hr0 : Kd.C (Kd.int .i64) w A0 l0.length l0) (hc0 : l0.length≤c0) (h : Fw.f k l0=some r) :
  Calls Try.prog 70 #[.slice A0 l0.length c0] w fun e w' => e = .returned (.int .i64 r)∧Drawn0 w w':=by
 have HR0:=zh hr0;have HC0:=zh hc0;clear hr0 hc0;have H : (Fw.l0 k 0 l0 (l0.length : Int) 0)=some r:=h;clear h;have H':=zh H;clear H
 go_enter Try.func70,Try.ntmps70
 go_wp2
 go_loopg [8] k (fun kq v8 w' => ∃ (x8_1 : Int),v8 = .int .i64 x8_1∧Aside0 (Fw.l0 kq 0 l0 (l0.length : Int) x8_1=some r)∧Aside0 (kq≤k)∧Drawn0 w w')
 case atStart => exact ⟨(0),(by first|rfl|(simp;done)|(simp [*];done)),H',⟨ye _⟩,by repeat (first|exact yp _|apply yq)⟩
 case round =>
  clear H';obtain ⟨x8_1,rfl,HA,HK1,⟨m1,rfl⟩⟩:=hrel
  cases gk with
  | zero => exact absurd HA.out (by simp [Fw.l0])
  | succ k1 =>
   have H:=HA.out;clear HA;simp only [Fw.l0] at H
   by_cases c2 : x8_1<(l0.length : Int)
   ·
    rw [if_pos c2] at H
    have c2b0 : decide (x8_1<(l0.length : Int))=true:=decide_eq_true c2;clear c2
    by_cases c3 : 0≤x8_1
    ·
     rw [if_pos c3] at H
     have c3b0 : decide (0≤x8_1)=true:=decide_eq_true c3;clear c3
     by_cases c4 : x8_1<(l0.length : Int)
     ·
      rw [if_pos c4] at H
      have c4b0 : decide (x8_1<(l0.length : Int))=true:=decide_eq_true c4;clear c4
      by_cases c5 : (rd l0 x8_1)=0
      ·
       rw [if_pos c5] at H
       have c5b0 : ((rd l0 x8_1) == 0)=true:=ya.mpr c5;have c5b1 : ((rd l0 x8_1) != 0)=false:=zX.mpr c5;clear c5;have H':=zh H;clear H;have p218 : 0≤(x8_1 : Int):=zy (by first|(with_reducible assumption)|assumption);have q218 : x8_1<(l0.length : Int):=zy (by first|(with_reducible assumption)|assumption);obtain ⟨ad218,e218,hx218_0⟩:=Kd.at_int HR0.out x8_1 p218 q218
       cases e218
       replace p218:=eq_true p218;replace q218:=eq_true q218
       go_wp2
       go_roundg k1
       case measure => have:=HK1.out;omega
       case rel => exact ⟨(wrap64 (x8_1 + 1)),(by first|rfl|(simp;done)|(simp [*];done)),H',⟨by have:=HK1.out;omega⟩,by repeat (first|exact yp _|apply yq)⟩
      rw [if_neg c5] at H;have c5b0 : ((rd l0 x8_1) == 0)=false:=zY.mpr c5;have c5b1 : ((rd l0 x8_1) != 0)=true:=zZ.mpr c5;obtain rfl:=zU H;have p218 : 0≤(x8_1 : Int):=zy (by first|(with_reducible assumption)|assumption);have q218 : x8_1<(l0.length : Int):=zy (by first|(with_reducible assumption)|assumption);obtain ⟨ad218,e218,hx218_0⟩:=Kd.at_int HR0.out x8_1 p218 q218
      cases e218
      replace p218:=eq_true p218;replace q218:=eq_true q218
      go_wp2
      go_ret
      exact ⟨by first|rfl|(simp;done)|(simp [*];done),by repeat (first|exact yp _|apply yq)⟩
     rw [if_neg c4] at H;exact absurd H (by simp)
    rw [if_neg c3] at H;exact absurd H (by simp)
   rw [if_neg c2] at H;have c2b0 : decide (x8_1<(l0.length : Int))=false:=decide_eq_false c2;clear c2;obtain rfl:=zU H
   go_wp2
   go_ret
   exact ⟨by first|rfl|(simp;done)|(simp [*];done),by repeat (first|exact yp _|apply yq)⟩


def strings_Compare.f (a0 : ByteArray) (a1 : ByteArray) : Option (Int):=some (Lib.compareBytes a0.data.toList a1.data.toList)
set_option maxHeartbeats 1000000 in
set_option maxRecDepth 100000 in
theorem strings_Compare.inner (a b : ByteArray) (w : World) :
  Calls Try.prog 78 #[.string a,.string b] w fun e w' => e = .returned (.int .i64 (Lib.compareBytes a.data.toList b.data.toList))∧w' = w:=by
 go_enter Try.func78,Try.ntmps78
 go_wp2
 rw [run_callFunc_extern Try.func82 (by kernel_rfl) (by kernel_rfl) (by kernel_rfl) (e:=Extern.BytealgCompare.compare) (by kernel_rfl),Lib.run_compareString];simp only [Result.andThen];rw [Oper.upon_value]
 go_wp2
 go_ret
 exact ⟨rfl,rfl⟩
set_option maxHeartbeats 1000000 in
theorem strings_Compare.calls (a0 : ByteArray) (a1 : ByteArray) (r : Int) (w : World) (h : strings_Compare.f a0 a1=some r) :
  Calls Try.prog 71 #[.string a0,.string a1] w fun e w' => e = .returned (.int .i64 r)∧Drawn0 w w':=by
 have h' : (some (Lib.compareBytes a0.data.toList a1.data.toList))=some r:=h;obtain rfl:=zU h';clear h h'
 go_enter Try.func71,Try.ntmps71
 go_wp2_with (go_at_call 78;refine (strings_Compare.inner _ _ _).mono ?_;rintro e w' ⟨rfl,rfl⟩)
 go_ret
 exact ⟨rfl,yp _⟩


def F02.f (a0 : Int) : Option (Bool):=some (a0 != a0)
set_option maxHeartbeats 8000000 in
set_option maxRecDepth 100000 in
theorem F02.calls (a0 : Int) (r : Bool) (w : World) (h : F02.f a0=some r) :
  Calls Try.prog 79 #[.int .i64 a0] w fun e w' => e = .returned (.bool r)∧Drawn0 w w':=by
 have H : (some (a0 != a0))=some r:=h;clear h;obtain rfl:=zU H
 go_enter Try.func79,Try.ntmps79
 go_wp2
 go_ret
 exact ⟨by first|rfl|(simp;done)|(simp [*];done),by repeat (first|exact yp _|apply yq)⟩


def F0a.f (a0 : Int) (a1 : Int) : Option (Int):=(F02.f a0).bind fun t219 => ((F02.f a1).bind fun t220 => (if t219=true then (if t220=true then (some 0) else (some (-1))) else (if t220=true then (some 1) else (if a0<a1 then (some (-1)) else (if a0 > a1 then (some 1) else (some 0))))))
set_option maxHeartbeats 8000000 in
set_option maxRecDepth 100000 in
theorem F0a.calls (a0 : Int) (a1 : Int) (r : Int) (w : World) (h : F0a.f a0 a1=some r) :
  Calls Try.prog 72 #[.int .i64 a0,.int .i64 a1] w fun e w' => e = .returned (.int .i64 r)∧Drawn0 w w':=by
 have H : ((F02.f a0).bind fun t219 => ((F02.f a1).bind fun t220 => (if t219=true then (if t220=true then (some 0) else (some (-1))) else (if t220=true then (some 1) else (if a0<a1 then (some (-1)) else (if a0 > a1 then (some 1) else (some 0)))))))=some r:=h;clear h;replace H:=zT.mp H;obtain ⟨t219,A30,H⟩:=H;replace H : ((F02.f a1).bind fun t220 => (if t219=true then (if t220=true then (some 0) else (some (-1))) else (if t220=true then (some 1) else (if a0<a1 then (some (-1)) else (if a0 > a1 then (some 1) else (some 0))))))=some r:=H;have A3:=zh A30;clear A30;replace H:=zT.mp H;obtain ⟨t220,A40,H⟩:=H;replace H : (if t219=true then (if t220=true then (some 0) else (some (-1))) else (if t220=true then (some 1) else (if a0<a1 then (some (-1)) else (if a0 > a1 then (some 1) else (some 0)))))=some r:=H;have A4:=zh A40;clear A40
 by_cases c5 : t219=true
 ·
  subst c5
  have H1 : (if t220=true then (some 0) else (some (-1)))=some r:=by rw [if_pos rfl] at H;exact H
  clear H;have H:=H1;clear H1
  by_cases c6 : t220=true
  ·
   subst c6
   have H1 : (some 0)=some r:=by rw [if_pos rfl] at H;exact H
   clear H;have H:=H1;clear H1;obtain rfl:=zU H
   go_enter Try.func72,Try.ntmps72
   go_wp2_with (first|((with_reducible refine zJ (f:=79) rfl ?_);refine yj (some 8) rfl rfl Try.func79 (by kernel_rfl) rfl #[.int .i64 a0] rfl (by (try simp only [zt,zu,zv]);first|done|rfl|(simp only [zw,zx];rfl)|(simp only [yr,ys,zV,zW];rfl)) ?_;(with_reducible refine (F02.calls  a0 true _ A3.out).mono ?_);rintro e w' ⟨rfl,⟨nd,rfl⟩⟩;refine ⟨_,rfl,?_⟩)|((with_reducible refine zJ (f:=79) rfl ?_);refine yj (some 10) rfl rfl Try.func79 (by kernel_rfl) rfl #[.int .i64 a1] rfl (by (try simp only [zt,zu,zv]);first|done|rfl|(simp only [zw,zx];rfl)|(simp only [yr,ys,zV,zW];rfl)) ?_;(with_reducible refine (F02.calls  a1 true _ A4.out).mono ?_);rintro e w' ⟨rfl,⟨nd,rfl⟩⟩;refine ⟨_,rfl,?_⟩))
   go_ret
   exact ⟨by first|rfl|(simp;done)|(simp [*];done),by repeat (first|exact yp _|apply yq)⟩
  replace c6:=yb.mpr c6;subst c6;have H1 : (some (-1))=some r:=by rw [if_neg (show ¬ (false=true) by decide)] at H;exact H
  clear H;have H:=H1;clear H1;obtain rfl:=zU H
  go_enter Try.func72,Try.ntmps72
  go_wp2_with (first|((with_reducible refine zJ (f:=79) rfl ?_);refine yj (some 8) rfl rfl Try.func79 (by kernel_rfl) rfl #[.int .i64 a0] rfl (by (try simp only [zt,zu,zv]);first|done|rfl|(simp only [zw,zx];rfl)|(simp only [yr,ys,zV,zW];rfl)) ?_;(with_reducible refine (F02.calls  a0 true _ A3.out).mono ?_);rintro e w' ⟨rfl,⟨nd,rfl⟩⟩;refine ⟨_,rfl,?_⟩)|((with_reducible refine zJ (f:=79) rfl ?_);refine yj (some 10) rfl rfl Try.func79 (by kernel_rfl) rfl #[.int .i64 a1] rfl (by (try simp only [zt,zu,zv]);first|done|rfl|(simp only [zw,zx];rfl)|(simp only [yr,ys,zV,zW];rfl)) ?_;(with_reducible refine (F02.calls  a1 false _ A4.out).mono ?_);rintro e w' ⟨rfl,⟨nd,rfl⟩⟩;refine ⟨_,rfl,?_⟩))
  go_ret
  exact ⟨by first|rfl|(simp;done)|(simp [*];done),by repeat (first|exact yp _|apply yq)⟩
 replace c5:=yb.mpr c5;subst c5;have H1 : (if t220=true then (some 1) else (if a0<a1 then (some (-1)) else (if a0 > a1 then (some 1) else (some 0))))=some r:=by rw [if_neg (show ¬ (false=true) by decide)] at H;exact H
 clear H;have H:=H1;clear H1
 by_cases c7 : t220=true
 ·
  subst c7
  have H1 : (some 1)=some r:=by rw [if_pos rfl] at H;exact H
  clear H;have H:=H1;clear H1;obtain rfl:=zU H
  go_enter Try.func72,Try.ntmps72
  go_wp2_with (first|((with_reducible refine zJ (f:=79) rfl ?_);refine yj (some 8) rfl rfl Try.func79 (by kernel_rfl) rfl #[.int .i64 a0] rfl (by (try simp only [zt,zu,zv]);first|done|rfl|(simp only [zw,zx];rfl)|(simp only [yr,ys,zV,zW];rfl)) ?_;(with_reducible refine (F02.calls  a0 false _ A3.out).mono ?_);rintro e w' ⟨rfl,⟨nd,rfl⟩⟩;refine ⟨_,rfl,?_⟩)|((with_reducible refine zJ (f:=79) rfl ?_);refine yj (some 10) rfl rfl Try.func79 (by kernel_rfl) rfl #[.int .i64 a1] rfl (by (try simp only [zt,zu,zv]);first|done|rfl|(simp only [zw,zx];rfl)|(simp only [yr,ys,zV,zW];rfl)) ?_;(with_reducible refine (F02.calls  a1 true _ A4.out).mono ?_);rintro e w' ⟨rfl,⟨nd,rfl⟩⟩;refine ⟨_,rfl,?_⟩))
  go_ret
  exact ⟨by first|rfl|(simp;done)|(simp [*];done),by repeat (first|exact yp _|apply yq)⟩
 replace c7:=yb.mpr c7;subst c7;have H1 : (if a0<a1 then (some (-1)) else (if a0 > a1 then (some 1) else (some 0)))=some r:=by rw [if_neg (show ¬ (false=true) by decide)] at H;exact H
 clear H;have H:=H1;clear H1
 by_cases c8 : a0<a1
 ·
  rw [if_pos c8] at H
  have c8b0 : decide (a0<a1)=true:=decide_eq_true c8;clear c8;obtain rfl:=zU H
  go_enter Try.func72,Try.ntmps72
  go_wp2_with (first|((with_reducible refine zJ (f:=79) rfl ?_);refine yj (some 8) rfl rfl Try.func79 (by kernel_rfl) rfl #[.int .i64 a0] rfl (by (try simp only [zt,zu,zv]);first|done|rfl|(simp only [zw,zx];rfl)|(simp only [yr,ys,zV,zW];rfl)) ?_;(with_reducible refine (F02.calls  a0 false _ A3.out).mono ?_);rintro e w' ⟨rfl,⟨nd,rfl⟩⟩;refine ⟨_,rfl,?_⟩)|((with_reducible refine zJ (f:=79) rfl ?_);refine yj (some 10) rfl rfl Try.func79 (by kernel_rfl) rfl #[.int .i64 a1] rfl (by (try simp only [zt,zu,zv]);first|done|rfl|(simp only [zw,zx];rfl)|(simp only [yr,ys,zV,zW];rfl)) ?_;(with_reducible refine (F02.calls  a1 false _ A4.out).mono ?_);rintro e w' ⟨rfl,⟨nd,rfl⟩⟩;refine ⟨_,rfl,?_⟩))
  go_ret
  exact ⟨by first|rfl|(simp;done)|(simp [*];done),by repeat (first|exact yp _|apply yq)⟩
 rw [if_neg c8] at H;have c8b0 : decide (a0<a1)=false:=decide_eq_false c8;clear c8
 by_cases c9 : a0 > a1
 ·
  rw [if_pos c9] at H
  have c9b0 : decide (a1<a0)=true:=decide_eq_true c9;clear c9;obtain rfl:=zU H
  go_enter Try.func72,Try.ntmps72
  go_wp2_with (first|((with_reducible refine zJ (f:=79) rfl ?_);refine yj (some 8) rfl rfl Try.func79 (by kernel_rfl) rfl #[.int .i64 a0] rfl (by (try simp only [zt,zu,zv]);first|done|rfl|(simp only [zw,zx];rfl)|(simp only [yr,ys,zV,zW];rfl)) ?_;(with_reducible refine (F02.calls  a0 false _ A3.out).mono ?_);rintro e w' ⟨rfl,⟨nd,rfl⟩⟩;refine ⟨_,rfl,?_⟩)|((with_reducible refine zJ (f:=79) rfl ?_);refine yj (some 10) rfl rfl Try.func79 (by kernel_rfl) rfl #[.int .i64 a1] rfl (by (try simp only [zt,zu,zv]);first|done|rfl|(simp only [zw,zx];rfl)|(simp only [yr,ys,zV,zW];rfl)) ?_;(with_reducible refine (F02.calls  a1 false _ A4.out).mono ?_);rintro e w' ⟨rfl,⟨nd,rfl⟩⟩;refine ⟨_,rfl,?_⟩))
  go_ret
  exact ⟨by first|rfl|(simp;done)|(simp [*];done),by repeat (first|exact yp _|apply yq)⟩
 rw [if_neg c9] at H;have c9b0 : decide (a1<a0)=false:=decide_eq_false c9;clear c9;obtain rfl:=zU H
 go_enter Try.func72,Try.ntmps72
 go_wp2_with (first|((with_reducible refine zJ (f:=79) rfl ?_);refine yj (some 8) rfl rfl Try.func79 (by kernel_rfl) rfl #[.int .i64 a0] rfl (by (try simp only [zt,zu,zv]);first|done|rfl|(simp only [zw,zx];rfl)|(simp only [yr,ys,zV,zW];rfl)) ?_;(with_reducible refine (F02.calls  a0 false _ A3.out).mono ?_);rintro e w' ⟨rfl,⟨nd,rfl⟩⟩;refine ⟨_,rfl,?_⟩)|((with_reducible refine zJ (f:=79) rfl ?_);refine yj (some 10) rfl rfl Try.func79 (by kernel_rfl) rfl #[.int .i64 a1] rfl (by (try simp only [zt,zu,zv]);first|done|rfl|(simp only [zw,zx];rfl)|(simp only [yr,ys,zV,zW];rfl)) ?_;(with_reducible refine (F02.calls  a1 false _ A4.out).mono ?_);rintro e w' ⟨rfl,⟨nd,rfl⟩⟩;refine ⟨_,rfl,?_⟩))
 go_ret
 exact ⟨by first|rfl|(simp;done)|(simp [*];done),by repeat (first|exact yp _|apply yq)⟩


def Fr.f (k : Nat) (a0_0 : ByteArray) (a0_1 : Int) (a1_0 : ByteArray) (a1_1 : Int) : Option (Int):=(strings_Compare.f a0_0 a1_0).bind fun t223 => ((F0a.f a0_1 a1_1).bind fun t224 => ((Fw.f k (([t223,t224] : List Int))).bind fun t228 => (some t228)))
theorem Fr.mono : ∀ a0 a1 a2 a3 k,LeO (Fr.f k a0 a1 a2 a3) (Fr.f (k + 1) a0 a1 a2 a3):=by
 intro a0 a1 a2 a3 k;unfold Fr.f
 repeat' first|(with_reducible first|exact Fw.mono _ _|exact zQ _|exact zN _|refine zP ?_ ?_|refine zO ?_ (fun _ => ?_))|refine zP ?_ ?_|refine zO ?_ (fun _ => ?_)
def Fr.T1 : Bool×List (List Nat×List Nat):=(true,[([],[]),([0],[0]),([],[]),([2],[2]),([1,3],[1,3]),([],[]),([5],[5]),([],[]),([7],[7]),([6,8,4],[6,8]),([4,9],[4,9]),([10,9],[10]),([11,11,0,1,2,3,4,5,6,7,8,9,10,11],[11])])
def Fr.B1 : List Nat:=[0,1,0,4,15,0,32,0,128,511,1023,2047,4095]
theorem Fr.tab1 : rtab .any (opsOf Try.f58 1)=Fr.T1:=by kernel_rfl
theorem Fr.bits1 : waitsOk Fr.T1.2 Fr.B1=true:=by kernel_rfl
set_option maxHeartbeats 8000000 in
set_option maxRecDepth 100000 in
theorem Fr.calls (k : Nat) (a0_0 : ByteArray) (a0_1 : Int) (a1_0 : ByteArray) (a1_1 : Int) (r : Int) (w : World) (h : Fr.f k a0_0 a0_1 a1_0 a1_1=some r) :
  Calls Try.prog 58 #[.agg #[.string a0_0,.int .i64 a0_1],.agg #[.string a1_0,.int .i64 a1_1]] w fun e w' => e = .returned (.int .i64 r)∧Below w.heap.size w w':=by
 have hu51:=Try.underlying51;have HB:=zh (Below.refl w.heap.size w);have H : ((strings_Compare.f a0_0 a1_0).bind fun t223 => ((F0a.f a0_1 a1_1).bind fun t224 => ((Fw.f k (([t223,t224] : List Int))).bind fun t228 => (some t228))))=some r:=h;clear h;replace H:=zT.mp H;obtain ⟨t223,A30,H⟩:=H;replace H : ((F0a.f a0_1 a1_1).bind fun t224 => ((Fw.f k (([t223,t224] : List Int))).bind fun t228 => (some t228)))=some r:=H;have A3:=zh A30;clear A30;replace H:=zT.mp H;obtain ⟨t224,A40,H⟩:=H;replace H : ((Fw.f k (([t223,t224] : List Int))).bind fun t228 => (some t228))=some r:=H;have A4:=zh A40;clear A40;obtain ⟨y225,hy225⟩ : ∃ y_ : List Int,y_=(([t223,t224] : List Int)):=⟨_,rfl⟩;replace H : ((Fw.f k y225).bind fun t228 => (some t228))=some r:=by first|(rw [hy225];with_reducible exact H)|(have H2_:=(Option.bind_some _ _).symm.trans H;rw [hy225];with_reducible exact H2_)|(have H2_:=(Option.bind_some _ _).symm.trans H;with_reducible exact H2_)|with_reducible exact H|(rw [hy225];exact H)|exact H
 have Ny225:=zh hy225;clear hy225;replace H:=zT.mp H;obtain ⟨t228,A50,H⟩:=H;replace H : (some t228)=some r:=H;have A5:=zh A50;clear A50;obtain rfl:=zU H
 go_enter Try.func58,Try.ntmps58
 try go_wp2_with (first|((with_reducible refine zK (N:=2) rfl ?_);refine zI ?hg (N:=2) ?hd (cs:=#[.string a0_0,.int .i64 a0_1]) (t:=51) ?hr ?_;(case hd|hg => rfl);(case hr => go_simp <;> rfl);intro gb221 hg w6 hbox hb;have BK221:=zh (hbox);have hH_:=cH (by repeat (with_reducible first|exact HB.out|apply za|apply zb|apply zc)) hb hg;have GW221:=zh hH_.1;have GE221:=GW221;replace HB:=zh hH_.2;clear hb hbox hg hH_)|((with_reducible refine zK (N:=3) rfl ?_);refine zI ?hg (N:=3) ?hd (cs:=#[.string a1_0,.int .i64 a1_1]) (t:=51) ?hr ?_;(case hd|hg => rfl);(case hr => go_simp <;> rfl);intro gb222 hg w7 hbox hb;have BK222:=zh (hbox);have hH_:=cH (by repeat (with_reducible first|exact HB.out|apply za|apply zb|apply zc|refine zd ?_ GE221.out)) hb hg;have GW222:=zh hH_.1;have GE222:=GW222;replace HB:=zh hH_.2;have NB221_222:=zh ((by rw [hg];exact yc (yi (g:=gb221) (o:=.cells #[.string a0_0,.int .i64 a0_1] 51 (0,0)) (by (with_reducible repeat first|apply ze|apply zf|apply zg);exact BK221.out)) : gb221≠gb222));have NB222_221:=zh NB221_222.out.symm;replace BK221:=zh (cD BK221.out (by (with_reducible repeat first|apply ze|apply zf|apply zg);exact BK221.out) hb);clear hb hbox hg hH_))
 replace BK221:=zh (zf BK221.out);replace BK222:=zh (zf BK222.out);replace HB:=zh (zc HB.out);refine start_ (n:=13) (S:=fun w' => w'.cell? ⟨gb221,0,none⟩=some (.string a0_0)∧w'.cell? ⟨gb221,1,none⟩=some (.int .i64 a0_1)∧w'.cell? ⟨gb222,0,none⟩=some (.string a1_0)∧w'.cell? ⟨gb222,1,none⟩=some (.int .i64 a1_1)) (ds:=[]) (bm_ 0 13) (by kernel_rfl) rfl rfl ⟨(zz BK221.out 0).trans rfl,(zz BK221.out 1).trans rfl,(zz BK222.out 0).trans rfl,(zz BK222.out 1).trans rfl⟩ (fun hHeld => ?_);refine with_tabW Fr.tab1 Fr.bits1 (fun HT_ HW_ => ?_);generalize w7.drew=w8 at BK221 BK222 HB hHeld ⊢;refine pure_ (i:=0) (N:=some 5) (v:=?_) (a':=?_) (bm_ 1 13) rfl rfl (any_of HT_.out (by kernel_rfl)) (fun _ _ _ h => h) (Or.inl ⟨by rfl,?_⟩) ?_ ?_;rotate_left
 ·
  intro w'
  go_simp
  with_reducible rfl
 rotate_left
 ·
  simp only [Act.put,zi,zj,zk,zG,zH]
  rfl
 refine pure_ (i:=2) (N:=some 7) (v:=?_) (a':=?_) #[true,false,true,false,false,false,false,false,false,false,false,false,false] rfl rfl (any_of HT_.out (by kernel_rfl)) (fun _ _ _ h => h) (Or.inl ⟨by rfl,?_⟩) ?_ ?_;rotate_left
 ·
  intro w'
  go_simp
  with_reducible rfl
 rotate_left
 ·
  simp only [Act.put,zi,zj,zk,zG,zH]
  rfl
 refine pure_ (i:=5) (N:=some 10) (v:=?_) (a':=?_) #[true,false,true,false,false,true,false,false,false,false,false,false,false] rfl rfl (any_of HT_.out (by kernel_rfl)) (fun _ _ _ h => h) (Or.inl ⟨by rfl,?_⟩) ?_ ?_;rotate_left
 ·
  intro w'
  go_simp
  with_reducible rfl
 rotate_left
 ·
  simp only [Act.put,zi,zj,zk,zG,zH]
  rfl
 refine pure_ (i:=7) (N:=some 12) (v:=?_) (a':=?_) #[true,false,true,false,false,true,false,true,false,false,false,false,false] rfl rfl (any_of HT_.out (by kernel_rfl)) (fun _ _ _ h => h) (Or.inl ⟨by rfl,?_⟩) ?_ ?_;rotate_left
 ·
  intro w'
  go_simp
  with_reducible rfl
 rotate_left
 ·
  simp only [Act.put,zi,zj,zk,zG,zH]
  rfl
 refine take_ (i:=1) (N:=some 6) (v:=?_) (a':=?_) #[true,true,true,false,false,true,false,true,false,false,false,false,false] rfl rfl (yo HT_.out HW_.out (by kernel_rfl)) (fun _ _ _ h => h) (Or.inl ⟨by rfl,?_⟩) hHeld ?_ ?_;rotate_left
 ·
  rintro w' ⟨s0,s1,s2,s3⟩
  go_simp
  with_reducible rfl
 rotate_left
 ·
  simp only [Act.put,zi,zj,zk,zG,zH]
  rfl
 refine take_ (i:=3) (N:=some 8) (v:=?_) (a':=?_) #[true,true,true,true,false,true,false,true,false,false,false,false,false] rfl rfl (yo HT_.out HW_.out (by kernel_rfl)) (fun _ _ _ h => h) (Or.inl ⟨by rfl,?_⟩) hHeld ?_ ?_;rotate_left
 ·
  rintro w' ⟨s0,s1,s2,s3⟩
  go_simp
  with_reducible rfl
 rotate_left
 ·
  simp only [Act.put,zi,zj,zk,zG,zH]
  rfl
 refine take_ (i:=6) (N:=some 11) (v:=?_) (a':=?_) #[true,true,true,true,false,true,true,true,false,false,false,false,false] rfl rfl (yo HT_.out HW_.out (by kernel_rfl)) (fun _ _ _ h => h) (Or.inl ⟨by rfl,?_⟩) hHeld ?_ ?_;rotate_left
 ·
  rintro w' ⟨s0,s1,s2,s3⟩
  go_simp
  with_reducible rfl
 rotate_left
 ·
  simp only [Act.put,zi,zj,zk,zG,zH]
  rfl
 refine take_ (i:=8) (N:=some 13) (v:=?_) (a':=?_) #[true,true,true,true,false,true,true,true,true,false,false,false,false] rfl rfl (yo HT_.out HW_.out (by kernel_rfl)) (fun _ _ _ h => h) (Or.inl ⟨by rfl,?_⟩) hHeld ?_ ?_;rotate_left
 ·
  rintro w' ⟨s0,s1,s2,s3⟩
  go_simp
  with_reducible rfl
 rotate_left
 ·
  simp only [Act.put,zi,zj,zk,zG,zH]
  rfl
 refine one_ (i:=4) (N:=some 9) (bm_ 9 13) rfl rfl (one_of HT_.out (by kernel_rfl)) (by decide) (fun K hK => ?_);refine goes_ Try.func71 (by kernel_rfl) rfl #[.string a0_0,.string a1_0] (by rfl) rfl rfl (by (try simp only [zt,zu,zv]);first|done|rfl|(simp only [zw,zx];rfl)|(simp only [yr,ys,zV,zW];rfl)) ?_
 with_reducible refine (strings_Compare.calls  a0_0 a1_0 t223 _ A3.out).mono ?_
 rintro e w' ⟨rfl,⟨nd,rfl⟩⟩;refine ⟨_,rfl,?_⟩;refine hK.out _ _ ⟨(zz BK221.out 0).trans rfl,(zz BK221.out 1).trans rfl,(zz BK222.out 0).trans rfl,(zz BK222.out 1).trans rfl⟩ (fun hHeld => ?_);clear hK K;refine norm_ (a':=?_) ?_ ?_;rotate_left
 ·
  show Act.put _ (some 9) _=_
  simp only [Act.put,zi,zj,zk,zG,zH]
  rfl
 refine one_ (i:=9) (N:=some 14) (bm_ 10 13) rfl rfl (one_of HT_.out (by kernel_rfl)) (by decide) (fun K hK => ?_);refine goes_ Try.func72 (by kernel_rfl) rfl #[.int .i64 a0_1,.int .i64 a1_1] (by rfl) rfl rfl (by (try simp only [zt,zu,zv]);first|done|rfl|(simp only [zw,zx];rfl)|(simp only [yr,ys,zV,zW];rfl)) ?_
 with_reducible refine (F0a.calls  a0_1 a1_1 t224 _ A4.out).mono ?_
 rintro e w' ⟨rfl,⟨nd,rfl⟩⟩;refine ⟨_,rfl,?_⟩;refine hK.out _ _ ⟨(zz BK221.out 0).trans rfl,(zz BK221.out 1).trans rfl,(zz BK222.out 0).trans rfl,(zz BK222.out 1).trans rfl⟩ (fun hHeld => ?_);clear hK K;refine norm_ (a':=?_) ?_ ?_;rotate_left
 ·
  show Act.put _ (some 14) _=_
  simp only [Act.put,zi,zj,zk,zG,zH]
  rfl
 refine one_ (i:=10) (N:=some 15) (bm_ 11 13) rfl rfl (one_of HT_.out (by kernel_rfl)) (by decide) (fun K hK => ?_);refine Kd.R_lit_step (Kd.int .i64) _ 3 ?hg (N:=15) ?hd (xs:=([t223,t224] : List Int)) (inner:=[.int .i64 t223,.int .i64 t224]) (ok:=fun _ => True) (okp:=fun _ => True) ?hr ?hp (fun _ hk => hk) trivial (Below.refl _ _) (ye _) (by simp) ?_;(case hd|hg => rfl);(case hr => go_simp <;> rfl);(case hp => exact (Reps.one (show Kd.M (Kd.int .i64) _ _ _ t223 [.int .i64 t223] from rfl) (Reps.one (show Kd.M (Kd.int .i64) _ _ _ t224 [.int .i64 t224] from rfl) (Reps.none _ _))));intro v226 w9 ho10 hb hg_ hnew_;clear hg_ hnew_;(first|rw [← Ny225.out] at ho10|(simp only [Int.reduceToNat] at ho10;rw [← Ny225.out] at ho10));have HO227:=zh (yx ho10 (zB (by repeat (with_reducible first|exact HB.out|apply za|apply zb|apply zc|refine zd ?_ GE221.out|refine zd ?_ GE222.out))));replace BK221:=zh (cD BK221.out (by (with_reducible repeat first|apply ze|apply zf|apply zg);exact BK221.out) hb);replace BK222:=zh (cD BK222.out (by (with_reducible repeat first|apply ze|apply zf|apply zg);exact BK222.out) hb);replace HB:=zh (zC (by repeat (with_reducible first|exact HB.out|apply za|apply zb|apply zc|refine zd ?_ GE221.out|refine zd ?_ GE222.out)) hb);clear hb ho10;obtain ⟨Ao11,co11,eo11⟩:=yk HO227.out;(first|subst eo11|(injection eo11 with f1_ f2_ f3_;have f4_:=f1_.symm;have f5_:=f3_.symm;clear f1_ f2_ f3_;subst f4_;subst f5_));refine hK.out _ _ ⟨(zz BK221.out 0).trans rfl,(zz BK221.out 1).trans rfl,(zz BK222.out 0).trans rfl,(zz BK222.out 1).trans rfl⟩ (fun hHeld => ?_);clear hK K;refine norm_ (a':=?_) ?_ ?_;rotate_left
 ·
  show Act.put _ (some 15) _=_
  simp only [Act.put,zi,zj,zk,zG,zH]
  rfl
 refine one_ (i:=11) (N:=some 16) (bm_ 12 13) rfl rfl (one_of HT_.out (by kernel_rfl)) (by decide) (fun K hK => ?_);refine goes_ Try.func70 (by kernel_rfl) rfl #[.slice Ao11 y225.length co11] (by rfl) rfl rfl (by (try simp only [zt,zu,zv]);first|done|rfl|(simp only [zw,zx];rfl)|(simp only [yr,ys,zV,zW];rfl)) ?_
 with_reducible refine (Fw.calls k  _ _ y225 t228 _ ?side1 ?side2 A5.out).mono ?_
 (case side1 => repeat (first|exact (yh HO227.out).2.2|(with_reducible refine Kd.C_alloc ?_ _)|(with_reducible refine Kd.C_drewN ?_ _)|(with_reducible refine Kd.C_drew ?_)))
 (case side2 => exact (yh HO227.out).2.1)
 rintro e w' ⟨rfl,⟨nd,rfl⟩⟩;refine ⟨_,rfl,?_⟩;refine hK.out _ _ ⟨(zz BK221.out 0).trans rfl,(zz BK221.out 1).trans rfl,(zz BK222.out 0).trans rfl,(zz BK222.out 1).trans rfl⟩ (fun hHeld => ?_);clear hK K;refine norm_ (a':=?_) ?_ ?_;rotate_left
 ·
  show Act.put _ (some 16) _=_
  simp only [Act.put,zi,zj,zk,zG,zH]
  rfl
 refine pure_ (i:=12) (N:=some 4) (v:=?_) (a':=?_) (bm_ 13 13) rfl rfl (any_of HT_.out (by kernel_rfl)) (fun _ _ _ h => h) (Or.inl ⟨by rfl,?_⟩) ?_ ?_;rotate_left
 ·
  intro w'
  go_simp
  with_reducible rfl
 rotate_left
 ·
  simp only [Act.put,zi,zj,zk,zG,zH]
  rfl
 refine done_ (done_of HT_.out (by kernel_rfl)) ?_
 try go_wp2
 go_ret
 exact ⟨by first|rfl|(simp [yt,yu] <;> rfl)|(simp [*,yt,yu] <;> rfl),by repeat (with_reducible first|exact HB.out|apply za|apply zb|apply zc|refine zd ?_ GE221.out|refine zd ?_ GE222.out)⟩

end Go.Proofs.Ytamikhmpfmgofaa.Q
end
section
namespace Go.Proofs.Ytamikhmpfmgofaa.Q
open Go.RowKit Go.Proofs.YtamikhmpfmgofaaW.PrintWords Go.Proofs.YtamikhmpfmgofaaW.PrintLast Go.Proofs.YtamikhmpfmgofaaW.PrintMore
attribute [local go_sem] max2_int min2_int max_two min_two max_three min_three max_four min_four max2_str min2_str str_geq str_gtr str_leq   -- for this text's walks alone
set_option linter.unusedVariables false
set_option linter.unusedSimpArgs false

mutual
def F4.j0 : Nat→Bool→List (S67)→Int→Option (Bool)
 | 0,_,_,_ => none
 | k + 1,x19,x230000,x230001 => if x19=true then (some false) else (F4.l0 k (([] : List Int)) x230000 (x230000.length : Int) 0 x230000 x230001)
def F4.l0 : Nat→List Int→List (S67)→Int→Int→List (S67)→Int→Option (Bool)
 | 0,_,_,_,_,_,_ => none
 | k + 1,x3,x22,x23,x24,x230000,x230001 => if x24<x23 then (if 0≤x24 then (if x24<(x22.length : Int) then ((F00.f ((rd_T67 x22 x24).f0) 1 (wrap64 (x230001 - 1))).bind fun t237 => (if t237=true then ((F04.f k x3 ((rd_T67 x22 x24).f0)).bind fun t238 => (if t238=true then (some false) else (if (((rd_T67 x22 x24).f1).length : Int) > 4 then (some false) else (if (((rd_T67 x22 x24).f1).length : Int)=0 then (if (x230000.length : Int) > 1 then (some false) else (if x3.length<17592186044416 then (F4.l0 k (x3 ++ [(rd_T67 x22 x24).f0]) x22 x23 (wrap64 (x24 + 1)) x230000 x230001) else (none))) else (if x3.length<17592186044416 then (F4.l0 k (x3 ++ [(rd_T67 x22 x24).f0]) x22 x23 (wrap64 (x24 + 1)) x230000 x230001) else (none)))))) else (some false))) else (none)) else (none)) else ((Fj.f k x230000 x230001).bind fun t245 => (F4.l1 k t245 t245 (t245.length : Int) 0))
def F4.l1 : Nat→List (S51)→List (S51)→Int→Int→Option (Bool)
 | 0,_,_,_,_ => none
 | k + 1,x6,x67,x68,x69 => if x69<x68 then (if 0≤x69 then (if x69<(x67.length : Int) then ((F0c.f ((rd_T51 x67 x69).f0) ((rd_T51 x67 x69).f1)).bind fun t250 => (if t250=true then (if x69 > 0 then (if 0≤(wrap64 (x69 - 1)) then (if (wrap64 (x69 - 1))<(x6.length : Int) then ((Fr.f k ((rd_T51 x6 (wrap64 (x69 - 1))).f0) ((rd_T51 x6 (wrap64 (x69 - 1))).f1) ((rd_T51 x67 x69).f0) ((rd_T51 x67 x69).f1)).bind fun t252 => (if t252 ≥ 0 then (some false) else (F4.l1 k x6 x67 x68 (wrap64 (x69 + 1))))) else (none)) else (none)) else (F4.l1 k x6 x67 x68 (wrap64 (x69 + 1)))) else (some false))) else (none)) else (none)) else (some true)
end
def F4.f (k : Nat) (l0_0 : List (S67)) (a0_1 : Int) : Option (Bool):=(F00.f (l0_0.length : Int) 1 60).bind fun t230 => (if t230=true then ((F00.f a0_1 2 100000).bind fun t231 => (F4.j0 k (!t231) l0_0 a0_1)) else (F4.j0 k true l0_0 a0_1))
theorem F4.mono_l : ∀ k,(∀ y0 y1 y2,LeO (F4.j0 k y0 y1 y2) (F4.j0 (k + 1) y0 y1 y2))∧(∀ y0 y1 y2 y3 y4 y5,LeO (F4.l0 k y0 y1 y2 y3 y4 y5) (F4.l0 (k + 1) y0 y1 y2 y3 y4 y5))∧(∀ y0 y1 y2 y3,LeO (F4.l1 k y0 y1 y2 y3) (F4.l1 (k + 1) y0 y1 y2 y3))
 | 0 => ⟨fun _ _ _ r h => by simp [F4.j0] at h,fun _ _ _ _ _ _ r h => by simp [F4.l0] at h,fun _ _ _ _ r h => by simp [F4.l1] at h⟩
 | k + 1 => by
  obtain ⟨ih0,ih1,ih2⟩:=F4.mono_l k;refine ⟨?_,?_,?_⟩
  ·
   intro y0 y1 y2
   unfold F4.j0
   repeat' first|(with_reducible first|exact ih0 _ _ _|exact ih1 _ _ _ _ _ _|exact ih2 _ _ _ _|exact Fj.mono _ _ _|exact F04.mono _ _ _|exact Fr.mono _ _ _ _ _|exact zQ _|exact zN _|refine zP ?_ ?_|refine zO ?_ (fun _ => ?_))|refine zP ?_ ?_|refine zO ?_ (fun _ => ?_)
  ·
   intro y0 y1 y2 y3 y4 y5
   unfold F4.l0
   repeat' first|(with_reducible first|exact ih0 _ _ _|exact ih1 _ _ _ _ _ _|exact ih2 _ _ _ _|exact Fj.mono _ _ _|exact F04.mono _ _ _|exact Fr.mono _ _ _ _ _|exact zQ _|exact zN _|refine zP ?_ ?_|refine zO ?_ (fun _ => ?_))|refine zP ?_ ?_|refine zO ?_ (fun _ => ?_)
  intro y0 y1 y2 y3;unfold F4.l1
  repeat' first|(with_reducible first|exact ih0 _ _ _|exact ih1 _ _ _ _ _ _|exact ih2 _ _ _ _|exact Fj.mono _ _ _|exact F04.mono _ _ _|exact Fr.mono _ _ _ _ _|exact zQ _|exact zN _|refine zP ?_ ?_|refine zO ?_ (fun _ => ?_))|refine zP ?_ ?_|refine zO ?_ (fun _ => ?_)
theorem F4.mono : ∀ a0 a1 k,LeO (F4.f k a0 a1) (F4.f (k + 1) a0 a1):=by
 intro a0 a1 k;obtain ⟨ih0,ih1,ih2⟩:=F4.mono_l k;unfold F4.f
 repeat' first|(with_reducible first|exact ih0 _ _ _|exact ih1 _ _ _ _ _ _|exact ih2 _ _ _ _|exact Fj.mono _ _ _|exact F04.mono _ _ _|exact Fr.mono _ _ _ _ _|exact zQ _|exact zN _|refine zP ?_ ?_|refine zO ?_ (fun _ => ?_))|refine zP ?_ ?_|refine zO ?_ (fun _ => ?_)
def F4.T15 : Bool×List (List Nat×List Nat):=(true,[([],[]),([0],[0]),([1],[1]),([2,1],[2]),([3],[3]),([4,3],[3,4]),([5,3,3],[3,5]),([6],[6]),([6],[6]),([8,6],[6,8]),([7,9,6],[6,7,9]),([10,6],[6,10]),([6],[6]),([11,12,6,6],[6,11,12]),([13,6],[6,13]),([6,14,3],[3,6,14]),([3,15],[3,15])])
def F4.B15 : List Nat:=[0,1,3,7,15,31,63,127,127,383,1023,2047,127,8191,16383,32767,65535]
theorem F4.tab15 : rtab .any (opsOf Try.f31 15)=F4.T15:=by kernel_rfl
theorem F4.bits15 : waitsOk F4.T15.2 F4.B15=true:=by kernel_rfl
set_option maxHeartbeats 8000000 in
set_option maxRecDepth 100000 in
theorem F4.calls (k : Nat) (A0_0 : Option Addr) (c0_0 : Nat) (l0_0 : List (S67)) (a0_1 : Int) (r : Bool) (w : World) (hr0_0 : Kd.C k67 w A0_0 l0_0.length l0_0) (hc0_0 : l0_0.length≤c0_0) (h : F4.f k l0_0 a0_1=some r) :
  Calls Try.prog 31 #[.agg #[.slice A0_0 l0_0.length c0_0,.int .i64 a0_1]] w fun e w' => e = .returned (.bool r)∧Below w.heap.size w w':=by
 have hu35:=Try.underlying35;have hu67:=Try.underlying67;have hu51:=Try.underlying51;have HR0_0:=zh hr0_0;have HC0_0:=zh hc0_0;clear hr0_0 hc0_0;have HB:=zh (Below.refl w.heap.size w);have H : ((F00.f (l0_0.length : Int) 1 60).bind fun t230 => (if t230=true then ((F00.f a0_1 2 100000).bind fun t231 => (F4.j0 k (!t231) l0_0 a0_1)) else (F4.j0 k true l0_0 a0_1)))=some r:=h;clear h;have HC2:=zh H;clear H
 go_enter Try.func31,Try.ntmps31
 go_upto_region 1 with (first|((with_reducible refine zK (N:=1) rfl ?_);(try (refine yy (by rfl) ?_;dsimp only));refine zI ?hg (N:=1) ?hd (cs:=#[.slice A0_0 l0_0.length c0_0,.int .i64 a0_1]) (t:=35) ?hr ?_;(case hd|hg => rfl);(case hr => go_simp <;> rfl);intro gb229 hg w3 hbox hb;have BK229:=zh (hbox);have hH_:=cH (by repeat (with_reducible first|exact HB.out|apply za|apply zb|apply zc)) hb hg;have GW229:=zh hH_.1;have GE229:=GW229;replace HB:=zh hH_.2;clear hb hbox hg hH_))
 (try simp only [Act.put,zi,zj,zk])
 go_cut [19] (fun v19 wc => ∃ (kq : Nat) (x19_1 : Bool),v19 = .bool x19_1∧Aside0 (F4.j0 kq x19_1 l0_0 a0_1=some r)∧Aside0 (kq≤k)∧Aside0 (wc.heap[gb229]? = some (.cells #[(.slice A0_0 l0_0.length c0_0),.int .i64 a0_1] 35 (0,0)))∧Aside0 (Below w.heap.size w wc))
 case first =>
  have H:=HC2.out;clear HC2;replace H:=zT.mp H;obtain ⟨t230,A40,H⟩:=H;replace H : (if t230=true then ((F00.f a0_1 2 100000).bind fun t231 => (F4.j0 k (!t231) l0_0 a0_1)) else (F4.j0 k true l0_0 a0_1))=some r:=H;have A4:=zh A40;clear A40
  by_cases c5 : t230=true
  ·
   subst c5
   have H1 : ((F00.f a0_1 2 100000).bind fun t231 => (F4.j0 k (!t231) l0_0 a0_1))=some r:=by rw [if_pos rfl] at H;exact H
   clear H;have H:=H1;clear H1;replace H:=zT.mp H;obtain ⟨t231,A60,H⟩:=H;replace H : (F4.j0 k (!t231) l0_0 a0_1)=some r:=H;have A6:=zh A60;clear A60;have H':=zh H;clear H;obtain ⟨hcz7_0,hcz7_1,hfz7_0,hfz7_1⟩:=cB2 BK229.out
   go_wp2_with (first|((with_reducible refine zJ (f:=56) rfl ?_);refine yj (some 12) rfl rfl Try.func56 (by kernel_rfl) rfl #[.int .i64 (l0_0.length : Int),.int .i64 1,.int .i64 60] rfl (by (try simp only [zt,zu,zv]);first|done|rfl|(simp only [zw,zx];rfl)|(simp only [yr,ys,zV,zW];rfl)) ?_;(with_reducible refine (F00.calls  (l0_0.length : Int) 1 60 true _ A4.out).mono ?_);rintro e w' ⟨rfl,⟨nd,rfl⟩⟩;refine ⟨_,rfl,?_⟩)|(go_at_call 56;(with_reducible refine (F00.calls  a0_1 2 100000 t231 _ A6.out).mono ?_);rintro e w' ⟨rfl,⟨nd,rfl⟩⟩))
   go_meet
   case rel => exact ⟨_,(!t231),(by first|rfl|(simp;done)|(simp [*];done)),H',⟨by first|omega|exact ye _⟩,⟨by (with_reducible repeat first|apply ze|apply zf|apply zg);exact BK229.out⟩,⟨by repeat (with_reducible first|exact HB.out|apply za|apply zb|apply zc|refine zd ?_ GE229.out)⟩⟩
  replace c5:=yb.mpr c5;subst c5;have H1 : (F4.j0 k true l0_0 a0_1)=some r:=by rw [if_neg (show ¬ (false=true) by decide)] at H;exact H
  clear H;have H:=H1;clear H1;have H':=zh H;clear H;obtain ⟨hcz8_0,hcz8_1,hfz8_0,hfz8_1⟩:=cB2 BK229.out
  go_wp2_with (first|((with_reducible refine zJ (f:=56) rfl ?_);refine yj (some 12) rfl rfl Try.func56 (by kernel_rfl) rfl #[.int .i64 (l0_0.length : Int),.int .i64 1,.int .i64 60] rfl (by (try simp only [zt,zu,zv]);first|done|rfl|(simp only [zw,zx];rfl)|(simp only [yr,ys,zV,zW];rfl)) ?_;(with_reducible refine (F00.calls  (l0_0.length : Int) 1 60 false _ A4.out).mono ?_);rintro e w' ⟨rfl,⟨nd,rfl⟩⟩;refine ⟨_,rfl,?_⟩))
  go_meet
  case rel => exact ⟨_,(true),(by first|rfl|(simp;done)|(simp [*];done)),H',⟨by first|omega|exact ye _⟩,⟨by (with_reducible repeat first|apply ze|apply zf|apply zg);exact BK229.out⟩,⟨by repeat (with_reducible first|exact HB.out|apply za|apply zb|apply zc|refine zd ?_ GE229.out)⟩⟩
 case rest =>
  clear HC2
  try clear p2
  try clear c3 c5
  try clear hcz7_0 hcz7_1
  try clear hcz8_0 hcz8_1
  try clear hfz7_0 hfz7_1
  try clear hfz8_0 hfz8_1
  obtain ⟨kq,x19_1,rfl,HA,HJ1,BK229,HB⟩:=hcut
  cases kq with
  | zero => exact absurd HA.out (by simp [F4.j0])
  | succ kj1 =>
   have H:=HA.out;clear HA;simp only [F4.j0] at H
   by_cases c9 : x19_1=true
   ·
    subst c9
    have H1 : (some false)=some r:=by rw [if_pos rfl] at H;exact H
    clear H;have H:=H1;clear H1;obtain rfl:=zU H
    go_wp2
    go_ret
    exact ⟨by first|rfl|(simp [yt,yu] <;> rfl)|(simp [*,yt,yu] <;> rfl),by repeat (with_reducible first|exact HB.out|apply za|apply zb|apply zc|refine zd ?_ GE229.out)⟩
   replace c9:=yb.mpr c9;subst c9;have H1 : (F4.l0 kj1 (([] : List Int)) l0_0 (l0_0.length : Int) 0 l0_0 a0_1)=some r:=by rw [if_neg (show ¬ (false=true) by decide)] at H;exact H
   clear H;have H:=H1;clear H1;obtain ⟨y232,hy232⟩ : ∃ y_ : List Int,y_=(([] : List Int)):=⟨_,rfl⟩;replace H : (F4.l0 kj1 y232 l0_0 (l0_0.length : Int) 0 l0_0 a0_1)=some r:=by first|(rw [hy232];with_reducible exact H)|(have H2_:=(Option.bind_some _ _).symm.trans H;rw [hy232];with_reducible exact H2_)|(have H2_:=(Option.bind_some _ _).symm.trans H;with_reducible exact H2_)|with_reducible exact H|(rw [hy232];exact H)|exact H
   have Ny232:=zh hy232;clear hy232;have H':=zh H;clear H
   go_wp2_with (first|((with_reducible refine zK (N:=20) rfl ?_);(try (refine yy (by rfl) ?_;dsimp only));refine Kd.R_lit (Kd.int .i64) _ 3 ?hg (N:=20) ?hd (xs:=([] : List Int)) (inner:=[]) (ok:=fun _ => True) (okp:=fun _ => True) ?hr ?hp (fun _ hk => hk) trivial (Below.refl _ _) (ye _) (by simp) ?_;(case hd|hg => rfl);(case hr => go_simp <;> rfl);(case hp => exact (Reps.none _ _));intro v233 w10 ho11 hb hg_ hnew_;clear hg_ hnew_;(first|rw [← Ny232.out] at ho11|(simp only [Int.reduceToNat] at ho11;rw [← Ny232.out] at ho11));have HO234:=zh (yx ho11 (zB (by repeat (with_reducible first|exact HB.out|apply za|apply zb|apply zc|refine zd ?_ GE229.out))));replace BK229:=zh (cD BK229.out (by (with_reducible repeat first|apply ze|apply zf|apply zg);exact BK229.out) hb);replace HB:=zh (zC (by repeat (with_reducible first|exact HB.out|apply za|apply zb|apply zc|refine zd ?_ GE229.out)) hb);clear hb ho11;obtain ⟨hcz12_0,hcz12_1,hfz12_0,hfz12_1⟩:=cB2 BK229.out))
   go_loopg [3,24] kj1 (fun kq v3 v24 w' => ∃ (x3_2 : List Int) (x24_2 : Int),v24 = .int .i64 x24_2∧Aside0 (F4.l0 kq x3_2 l0_0 (l0_0.length : Int) x24_2 l0_0 a0_1=some r)∧Aside0 (kq≤kj1)∧Aside0 (Kd.R (Kd.int .i64) 3 w' w.heap.size (fun _ => True) v3 x3_2)∧Aside0 (w'.heap[gb229]? = some (.cells #[(.slice A0_0 l0_0.length c0_0),.int .i64 a0_1] 35 (0,0)))∧Aside0 (Below w.heap.size w w'))
   case atStart => exact ⟨(y232),(0),(by first|rfl|(simp;done)|(simp [*];done)),H',⟨ye _⟩,⟨by (with_reducible repeat (first|apply zm|apply zn|apply zo));exact HO234.out⟩,⟨by (with_reducible repeat first|apply ze|apply zf|apply zg);exact BK229.out⟩,⟨by repeat (with_reducible first|exact HB.out|apply za|apply zb|apply zc|refine zd ?_ GE229.out)⟩⟩
   case round =>
    clear H'
    try clear p2
    try clear c3 c5 c9
    try clear hcz12_0 hcz12_1
    try clear hcz7_0 hcz7_1
    try clear hcz8_0 hcz8_1
    try clear hfz12_0 hfz12_1
    try clear hfz7_0 hfz7_1
    try clear hfz8_0 hfz8_1
    try clear p2
    obtain ⟨x3_2,x24_2,rfl,HA,HK2,HO_3,BK229,HB⟩:=hrel
    cases gk with
    | zero => exact absurd HA.out (by simp [F4.l0])
    | succ k2 =>
     have H:=HA.out;clear HA;simp only [F4.l0] at H
     by_cases c13 : x24_2<(l0_0.length : Int)
     ·
      rw [if_pos c13] at H
      have c13b0 : decide (x24_2<(l0_0.length : Int))=true:=decide_eq_true c13;clear c13
      by_cases c14 : 0≤x24_2
      ·
       rw [if_pos c14] at H
       have c14b0 : decide (0≤x24_2)=true:=decide_eq_true c14;clear c14
       by_cases c15 : x24_2<(l0_0.length : Int)
       ·
        rw [if_pos c15] at H
        have c15b0 : decide (x24_2<(l0_0.length : Int))=true:=decide_eq_true c15;clear c15;replace H:=zT.mp H;obtain ⟨t237,A160,H⟩:=H;replace H : (if t237=true then ((F04.f k2 x3_2 ((rd_T67 l0_0 x24_2).f0)).bind fun t238 => (if t238=true then (some false) else (if (((rd_T67 l0_0 x24_2).f1).length : Int) > 4 then (some false) else (if (((rd_T67 l0_0 x24_2).f1).length : Int)=0 then (if (l0_0.length : Int) > 1 then (some false) else (if x3_2.length<17592186044416 then (F4.l0 k2 (x3_2 ++ [(rd_T67 l0_0 x24_2).f0]) l0_0 (l0_0.length : Int) (wrap64 (x24_2 + 1)) l0_0 a0_1) else (none))) else (if x3_2.length<17592186044416 then (F4.l0 k2 (x3_2 ++ [(rd_T67 l0_0 x24_2).f0]) l0_0 (l0_0.length : Int) (wrap64 (x24_2 + 1)) l0_0 a0_1) else (none)))))) else (some false))=some r:=H;have A16:=zh A160;clear A160
        by_cases c17 : t237=true
        ·
         subst c17
         have H1 : ((F04.f k2 x3_2 ((rd_T67 l0_0 x24_2).f0)).bind fun t238 => (if t238=true then (some false) else (if (((rd_T67 l0_0 x24_2).f1).length : Int) > 4 then (some false) else (if (((rd_T67 l0_0 x24_2).f1).length : Int)=0 then (if (l0_0.length : Int) > 1 then (some false) else (if x3_2.length<17592186044416 then (F4.l0 k2 (x3_2 ++ [(rd_T67 l0_0 x24_2).f0]) l0_0 (l0_0.length : Int) (wrap64 (x24_2 + 1)) l0_0 a0_1) else (none))) else (if x3_2.length<17592186044416 then (F4.l0 k2 (x3_2 ++ [(rd_T67 l0_0 x24_2).f0]) l0_0 (l0_0.length : Int) (wrap64 (x24_2 + 1)) l0_0 a0_1) else (none))))))=some r:=by rw [if_pos rfl] at H;exact H
         clear H;have H:=H1;clear H1;replace H:=zT.mp H;obtain ⟨t238,A180,H⟩:=H;replace H : (if t238=true then (some false) else (if (((rd_T67 l0_0 x24_2).f1).length : Int) > 4 then (some false) else (if (((rd_T67 l0_0 x24_2).f1).length : Int)=0 then (if (l0_0.length : Int) > 1 then (some false) else (if x3_2.length<17592186044416 then (F4.l0 k2 (x3_2 ++ [(rd_T67 l0_0 x24_2).f0]) l0_0 (l0_0.length : Int) (wrap64 (x24_2 + 1)) l0_0 a0_1) else (none))) else (if x3_2.length<17592186044416 then (F4.l0 k2 (x3_2 ++ [(rd_T67 l0_0 x24_2).f0]) l0_0 (l0_0.length : Int) (wrap64 (x24_2 + 1)) l0_0 a0_1) else (none)))))=some r:=H;have A18:=zh A180;clear A180
         by_cases c19 : t238=true
         ·
          subst c19
          have H1 : (some false)=some r:=by rw [if_pos rfl] at H;exact H
          clear H;have H:=H1;clear H1;obtain rfl:=zU H;have p235 : 0≤(x24_2 : Int):=zy (by first|(with_reducible assumption)|assumption);have q235 : x24_2<(l0_0.length : Int):=zy (by first|(with_reducible assumption)|assumption);obtain ⟨ad235,A235_1,c235_1,e235,hx235_0,hx235_1,hl235_1,hi235_1⟩:=at_T67 HR0_0.out x24_2 p235 q235
          cases e235
          replace hx235_0:=(HB.out.cell (zl w _ hx235_0)).trans hx235_0;replace hx235_1:=(HB.out.cell (zl w _ hx235_1)).trans hx235_1;have HR235_1:=zh hi235_1;have HC235_1:=zh hl235_1;clear hi235_1 hl235_1;replace p235:=eq_true p235;replace q235:=eq_true q235
          go_wp2_with (first|((with_reducible refine zK (N:=5) rfl ?_);(try (refine yy (by rfl) ?_;dsimp only));refine zI ?hg (N:=5) ?hd (cs:=#[.int .i64 0,.slice none 0 0]) (t:=67) ?hr ?_;(case hd|hg => rfl);(case hr => go_simp <;> rfl);intro gb236 hg w20 hbox hb;replace HO_3:=zh (yg (by (with_reducible repeat (first|apply zm|apply zn|apply zo));exact HO_3.out) hb);have BK236:=zh (hbox);have hH_:=cH (by repeat (with_reducible first|exact HB.out|apply za|apply zb|apply zc|refine zd ?_ GE229.out)) hb hg;have GW236:=zh hH_.1;have GE236:=GW236;replace HB:=zh hH_.2;have NB229_236:=zh ((by rw [hg];exact yc (yi (g:=gb229) (o:=.cells #[.slice (some ad235) l0_0.length c0_0,.int .i64 a0_1] 35 (0,0)) (by (with_reducible repeat first|apply ze|apply zf|apply zg);exact BK229.out)) : gb229≠gb236));have NB236_229:=zh NB229_236.out.symm;replace BK229:=zh (cD BK229.out (by (with_reducible repeat first|apply ze|apply zf|apply zg);exact BK229.out) hb);clear hb hbox hg hH_;have hnb21:=NB236_229.out;have hnc21:=NB229_236.out;obtain ⟨hcz22_0,hcz22_1,hfz22_0,hfz22_1⟩:=cB2 BK236.out;obtain ⟨hcz23_0,hcz23_1,hfz23_0,hfz23_1⟩:=cB2 BK229.out)|((with_reducible refine zJ (f:=56) rfl ?_);refine yj (some 33) rfl rfl Try.func56 (by kernel_rfl) rfl #[.int .i64 ((rd_T67 l0_0 x24_2).f0),.int .i64 1,.int .i64 (wrap64 (a0_1 - 1))] rfl (by (try simp only [zt,zu,zv]);first|done|rfl|(simp only [zw,zx];rfl)|(simp only [yr,ys,zV,zW];rfl)) ?_;(with_reducible refine (F00.calls  ((rd_T67 l0_0 x24_2).f0) 1 (wrap64 (a0_1 - 1)) true _ A16.out).mono ?_);rintro e w' ⟨rfl,⟨nd,rfl⟩⟩;refine ⟨_,rfl,?_⟩;obtain ⟨Ao24,co24,eo24⟩:=yk HO_3.out;subst eo24)|(go_at_call 57;(with_reducible refine (F04.calls k2  _ _ x3_2 ((rd_T67 l0_0 x24_2).f0) true _ ?side1 ?side2 A18.out).mono ?_);(case side1 => refine (yh (e:=3) (base:=w.heap.size) (ok:=fun k_ => True) (n:=x3_2.length) (c:=co24) ?_).2.2;exact (by (with_reducible repeat (first|apply zm|apply zn|apply zo));exact (zM (zE (p:=⟨gb236,1,none⟩) (zE (p:=⟨gb236,0,none⟩) (yf HO_3.out BK236.out (by decide)) (fun _ hk => hk.2) (.int .i64 ((rd_T67 l0_0 x24_2).f0))) (fun _ hk => hk.2) (.slice A235_1 ((rd_T67 l0_0 x24_2).f1).length c235_1)) (fun _ h_ => h_.1))));(case side2 => exact (yh HO_3.out).2.1);rintro e w' ⟨rfl,⟨nd,rfl⟩⟩))
          go_ret
          exact ⟨by first|rfl|(simp [yt,yu] <;> rfl)|(simp [*,yt,yu] <;> rfl),by repeat (with_reducible first|exact HB.out|apply za|apply zb|apply zc|refine zd ?_ GE229.out|refine zd ?_ GE236.out)⟩
         replace c19:=yb.mpr c19;subst c19;have H1 : (if (((rd_T67 l0_0 x24_2).f1).length : Int) > 4 then (some false) else (if (((rd_T67 l0_0 x24_2).f1).length : Int)=0 then (if (l0_0.length : Int) > 1 then (some false) else (if x3_2.length<17592186044416 then (F4.l0 k2 (x3_2 ++ [(rd_T67 l0_0 x24_2).f0]) l0_0 (l0_0.length : Int) (wrap64 (x24_2 + 1)) l0_0 a0_1) else (none))) else (if x3_2.length<17592186044416 then (F4.l0 k2 (x3_2 ++ [(rd_T67 l0_0 x24_2).f0]) l0_0 (l0_0.length : Int) (wrap64 (x24_2 + 1)) l0_0 a0_1) else (none))))=some r:=by rw [if_neg (show ¬ (false=true) by decide)] at H;exact H
         clear H;have H:=H1;clear H1
         by_cases c25 : (((rd_T67 l0_0 x24_2).f1).length : Int) > 4
         ·
          rw [if_pos c25] at H
          have c25b0 : decide (4<(((rd_T67 l0_0 x24_2).f1).length : Int))=true:=decide_eq_true c25;have c25b1 : decide (4<((rd_T67 l0_0 x24_2).f1).length)=true:=decide_eq_true (by omega);clear c25;obtain rfl:=zU H;have p235 : 0≤(x24_2 : Int):=zy (by first|(with_reducible assumption)|assumption);have q235 : x24_2<(l0_0.length : Int):=zy (by first|(with_reducible assumption)|assumption);obtain ⟨ad235,A235_1,c235_1,e235,hx235_0,hx235_1,hl235_1,hi235_1⟩:=at_T67 HR0_0.out x24_2 p235 q235
          cases e235
          replace hx235_0:=(HB.out.cell (zl w _ hx235_0)).trans hx235_0;replace hx235_1:=(HB.out.cell (zl w _ hx235_1)).trans hx235_1;have HR235_1:=zh hi235_1;have HC235_1:=zh hl235_1;clear hi235_1 hl235_1;replace p235:=eq_true p235;replace q235:=eq_true q235
          go_wp2_with (first|((with_reducible refine zK (N:=5) rfl ?_);(try (refine yy (by rfl) ?_;dsimp only));refine zI ?hg (N:=5) ?hd (cs:=#[.int .i64 0,.slice none 0 0]) (t:=67) ?hr ?_;(case hd|hg => rfl);(case hr => go_simp <;> rfl);intro gb236 hg w26 hbox hb;replace HO_3:=zh (yg (by (with_reducible repeat (first|apply zm|apply zn|apply zo));exact HO_3.out) hb);have BK236:=zh (hbox);have hH_:=cH (by repeat (with_reducible first|exact HB.out|apply za|apply zb|apply zc|refine zd ?_ GE229.out)) hb hg;have GW236:=zh hH_.1;have GE236:=GW236;replace HB:=zh hH_.2;have NB229_236:=zh ((by rw [hg];exact yc (yi (g:=gb229) (o:=.cells #[.slice (some ad235) l0_0.length c0_0,.int .i64 a0_1] 35 (0,0)) (by (with_reducible repeat first|apply ze|apply zf|apply zg);exact BK229.out)) : gb229≠gb236));have NB236_229:=zh NB229_236.out.symm;replace BK229:=zh (cD BK229.out (by (with_reducible repeat first|apply ze|apply zf|apply zg);exact BK229.out) hb);clear hb hbox hg hH_;have hnb27:=NB236_229.out;have hnc27:=NB229_236.out;obtain ⟨hcz28_0,hcz28_1,hfz28_0,hfz28_1⟩:=cB2 BK236.out;obtain ⟨hcz29_0,hcz29_1,hfz29_0,hfz29_1⟩:=cB2 BK229.out)|((with_reducible refine zJ (f:=56) rfl ?_);refine yj (some 33) rfl rfl Try.func56 (by kernel_rfl) rfl #[.int .i64 ((rd_T67 l0_0 x24_2).f0),.int .i64 1,.int .i64 (wrap64 (a0_1 - 1))] rfl (by (try simp only [zt,zu,zv]);first|done|rfl|(simp only [zw,zx];rfl)|(simp only [yr,ys,zV,zW];rfl)) ?_;(with_reducible refine (F00.calls  ((rd_T67 l0_0 x24_2).f0) 1 (wrap64 (a0_1 - 1)) true _ A16.out).mono ?_);rintro e w' ⟨rfl,⟨nd,rfl⟩⟩;refine ⟨_,rfl,?_⟩;obtain ⟨Ao30,co30,eo30⟩:=yk HO_3.out;subst eo30)|(go_at_call 57;(with_reducible refine (F04.calls k2  _ _ x3_2 ((rd_T67 l0_0 x24_2).f0) false _ ?side1 ?side2 A18.out).mono ?_);(case side1 => refine (yh (e:=3) (base:=w.heap.size) (ok:=fun k_ => True) (n:=x3_2.length) (c:=co30) ?_).2.2;exact (by (with_reducible repeat (first|apply zm|apply zn|apply zo));exact (zM (zE (p:=⟨gb236,1,none⟩) (zE (p:=⟨gb236,0,none⟩) (yf HO_3.out BK236.out (by decide)) (fun _ hk => hk.2) (.int .i64 ((rd_T67 l0_0 x24_2).f0))) (fun _ hk => hk.2) (.slice A235_1 ((rd_T67 l0_0 x24_2).f1).length c235_1)) (fun _ h_ => h_.1))));(case side2 => exact (yh HO_3.out).2.1);rintro e w' ⟨rfl,⟨nd,rfl⟩⟩))
          go_ret
          exact ⟨by first|rfl|(simp [yt,yu] <;> rfl)|(simp [*,yt,yu] <;> rfl),by repeat (with_reducible first|exact HB.out|apply za|apply zb|apply zc|refine zd ?_ GE229.out|refine zd ?_ GE236.out)⟩
         rw [if_neg c25] at H;have c25b0 : decide (4<(((rd_T67 l0_0 x24_2).f1).length : Int))=false:=decide_eq_false c25;have c25b1 : decide (4<((rd_T67 l0_0 x24_2).f1).length)=false:=decide_eq_false (by omega);clear c25
         by_cases c31 : (((rd_T67 l0_0 x24_2).f1).length : Int)=0
         ·
          rw [if_pos c31] at H
          have c31b0 : ((((rd_T67 l0_0 x24_2).f1).length : Int) == 0)=true:=ya.mpr c31;have c31b1 : ((((rd_T67 l0_0 x24_2).f1).length : Int) != 0)=false:=zX.mpr c31;clear c31
          by_cases c32 : (l0_0.length : Int) > 1
          ·
           rw [if_pos c32] at H
           have c32b0 : decide (1<(l0_0.length : Int))=true:=decide_eq_true c32;have c32b1 : decide (1<l0_0.length)=true:=decide_eq_true (by omega);clear c32;obtain rfl:=zU H;have p235 : 0≤(x24_2 : Int):=zy (by first|(with_reducible assumption)|assumption);have q235 : x24_2<(l0_0.length : Int):=zy (by first|(with_reducible assumption)|assumption);obtain ⟨ad235,A235_1,c235_1,e235,hx235_0,hx235_1,hl235_1,hi235_1⟩:=at_T67 HR0_0.out x24_2 p235 q235
           cases e235
           replace hx235_0:=(HB.out.cell (zl w _ hx235_0)).trans hx235_0;replace hx235_1:=(HB.out.cell (zl w _ hx235_1)).trans hx235_1;have HR235_1:=zh hi235_1;have HC235_1:=zh hl235_1;clear hi235_1 hl235_1;replace p235:=eq_true p235;replace q235:=eq_true q235
           go_wp2_with (first|((with_reducible refine zK (N:=5) rfl ?_);(try (refine yy (by rfl) ?_;dsimp only));refine zI ?hg (N:=5) ?hd (cs:=#[.int .i64 0,.slice none 0 0]) (t:=67) ?hr ?_;(case hd|hg => rfl);(case hr => go_simp <;> rfl);intro gb236 hg w33 hbox hb;replace HO_3:=zh (yg (by (with_reducible repeat (first|apply zm|apply zn|apply zo));exact HO_3.out) hb);have BK236:=zh (hbox);have hH_:=cH (by repeat (with_reducible first|exact HB.out|apply za|apply zb|apply zc|refine zd ?_ GE229.out)) hb hg;have GW236:=zh hH_.1;have GE236:=GW236;replace HB:=zh hH_.2;have NB229_236:=zh ((by rw [hg];exact yc (yi (g:=gb229) (o:=.cells #[.slice (some ad235) l0_0.length c0_0,.int .i64 a0_1] 35 (0,0)) (by (with_reducible repeat first|apply ze|apply zf|apply zg);exact BK229.out)) : gb229≠gb236));have NB236_229:=zh NB229_236.out.symm;replace BK229:=zh (cD BK229.out (by (with_reducible repeat first|apply ze|apply zf|apply zg);exact BK229.out) hb);clear hb hbox hg hH_;have hnb34:=NB236_229.out;have hnc34:=NB229_236.out;obtain ⟨hcz35_0,hcz35_1,hfz35_0,hfz35_1⟩:=cB2 BK236.out;obtain ⟨hcz36_0,hcz36_1,hfz36_0,hfz36_1⟩:=cB2 BK229.out)|((with_reducible refine zJ (f:=56) rfl ?_);refine yj (some 33) rfl rfl Try.func56 (by kernel_rfl) rfl #[.int .i64 ((rd_T67 l0_0 x24_2).f0),.int .i64 1,.int .i64 (wrap64 (a0_1 - 1))] rfl (by (try simp only [zt,zu,zv]);first|done|rfl|(simp only [zw,zx];rfl)|(simp only [yr,ys,zV,zW];rfl)) ?_;(with_reducible refine (F00.calls  ((rd_T67 l0_0 x24_2).f0) 1 (wrap64 (a0_1 - 1)) true _ A16.out).mono ?_);rintro e w' ⟨rfl,⟨nd,rfl⟩⟩;refine ⟨_,rfl,?_⟩;obtain ⟨Ao37,co37,eo37⟩:=yk HO_3.out;subst eo37)|(go_at_call 57;(with_reducible refine (F04.calls k2  _ _ x3_2 ((rd_T67 l0_0 x24_2).f0) false _ ?side1 ?side2 A18.out).mono ?_);(case side1 => refine (yh (e:=3) (base:=w.heap.size) (ok:=fun k_ => True) (n:=x3_2.length) (c:=co37) ?_).2.2;exact (by (with_reducible repeat (first|apply zm|apply zn|apply zo));exact (zM (zE (p:=⟨gb236,1,none⟩) (zE (p:=⟨gb236,0,none⟩) (yf HO_3.out BK236.out (by decide)) (fun _ hk => hk.2) (.int .i64 ((rd_T67 l0_0 x24_2).f0))) (fun _ hk => hk.2) (.slice A235_1 ((rd_T67 l0_0 x24_2).f1).length c235_1)) (fun _ h_ => h_.1))));(case side2 => exact (yh HO_3.out).2.1);rintro e w' ⟨rfl,⟨nd,rfl⟩⟩))
           go_ret
           exact ⟨by first|rfl|(simp [yt,yu] <;> rfl)|(simp [*,yt,yu] <;> rfl),by repeat (with_reducible first|exact HB.out|apply za|apply zb|apply zc|refine zd ?_ GE229.out|refine zd ?_ GE236.out)⟩
          rw [if_neg c32] at H;have c32b0 : decide (1<(l0_0.length : Int))=false:=decide_eq_false c32;have c32b1 : decide (1<l0_0.length)=false:=decide_eq_false (by omega);clear c32
          by_cases c38 : x3_2.length<17592186044416
          ·
           rw [if_pos c38] at H
           have LMc38:=zh c38;clear c38;obtain ⟨y239,hy239⟩ : ∃ y_ : List Int,y_=(x3_2 ++ [(rd_T67 l0_0 x24_2).f0]):=⟨_,rfl⟩;replace H : (F4.l0 k2 y239 l0_0 (l0_0.length : Int) (wrap64 (x24_2 + 1)) l0_0 a0_1)=some r:=by first|(rw [hy239];with_reducible exact H)|(have H2_:=(Option.bind_some _ _).symm.trans H;rw [hy239];with_reducible exact H2_)|(have H2_:=(Option.bind_some _ _).symm.trans H;with_reducible exact H2_)|with_reducible exact H|(rw [hy239];exact H)|exact H
           have Ny239:=zh hy239;clear hy239;have H':=zh H;clear H;have p235 : 0≤(x24_2 : Int):=zy (by first|(with_reducible assumption)|assumption);have q235 : x24_2<(l0_0.length : Int):=zy (by first|(with_reducible assumption)|assumption);obtain ⟨ad235,A235_1,c235_1,e235,hx235_0,hx235_1,hl235_1,hi235_1⟩:=at_T67 HR0_0.out x24_2 p235 q235
           cases e235
           replace hx235_0:=(HB.out.cell (zl w _ hx235_0)).trans hx235_0;replace hx235_1:=(HB.out.cell (zl w _ hx235_1)).trans hx235_1;have HR235_1:=zh hi235_1;have HC235_1:=zh hl235_1;clear hi235_1 hl235_1;replace p235:=eq_true p235;replace q235:=eq_true q235
           go_wp2_with (first|((with_reducible refine zK (N:=5) rfl ?_);(try (refine yy (by rfl) ?_;dsimp only));refine zI ?hg (N:=5) ?hd (cs:=#[.int .i64 0,.slice none 0 0]) (t:=67) ?hr ?_;(case hd|hg => rfl);(case hr => go_simp <;> rfl);intro gb236 hg w39 hbox hb;replace HO_3:=zh (yg (by (with_reducible repeat (first|apply zm|apply zn|apply zo));exact HO_3.out) hb);have BK236:=zh (hbox);have hH_:=cH (by repeat (with_reducible first|exact HB.out|apply za|apply zb|apply zc|refine zd ?_ GE229.out)) hb hg;have GW236:=zh hH_.1;have GE236:=GW236;replace HB:=zh hH_.2;have NB229_236:=zh ((by rw [hg];exact yc (yi (g:=gb229) (o:=.cells #[.slice (some ad235) l0_0.length c0_0,.int .i64 a0_1] 35 (0,0)) (by (with_reducible repeat first|apply ze|apply zf|apply zg);exact BK229.out)) : gb229≠gb236));have NB236_229:=zh NB229_236.out.symm;replace BK229:=zh (cD BK229.out (by (with_reducible repeat first|apply ze|apply zf|apply zg);exact BK229.out) hb);clear hb hbox hg hH_;have hnb40:=NB236_229.out;have hnc40:=NB229_236.out;obtain ⟨hcz41_0,hcz41_1,hfz41_0,hfz41_1⟩:=cB2 BK236.out;obtain ⟨hcz42_0,hcz42_1,hfz42_0,hfz42_1⟩:=cB2 BK229.out)|((with_reducible refine zJ (f:=56) rfl ?_);refine yj (some 33) rfl rfl Try.func56 (by kernel_rfl) rfl #[.int .i64 ((rd_T67 l0_0 x24_2).f0),.int .i64 1,.int .i64 (wrap64 (a0_1 - 1))] rfl (by (try simp only [zt,zu,zv]);first|done|rfl|(simp only [zw,zx];rfl)|(simp only [yr,ys,zV,zW];rfl)) ?_;(with_reducible refine (F00.calls  ((rd_T67 l0_0 x24_2).f0) 1 (wrap64 (a0_1 - 1)) true _ A16.out).mono ?_);rintro e w' ⟨rfl,⟨nd,rfl⟩⟩;refine ⟨_,rfl,?_⟩;obtain ⟨Ao43,co43,eo43⟩:=yk HO_3.out;subst eo43)|(go_at_call 57;(with_reducible refine (F04.calls k2  _ _ x3_2 ((rd_T67 l0_0 x24_2).f0) false _ ?side1 ?side2 A18.out).mono ?_);(case side1 => refine (yh (e:=3) (base:=w.heap.size) (ok:=fun k_ => True) (n:=x3_2.length) (c:=co43) ?_).2.2;exact (by (with_reducible repeat (first|apply zm|apply zn|apply zo));exact (zM (zE (p:=⟨gb236,1,none⟩) (zE (p:=⟨gb236,0,none⟩) (yf HO_3.out BK236.out (by decide)) (fun _ hk => hk.2) (.int .i64 ((rd_T67 l0_0 x24_2).f0))) (fun _ hk => hk.2) (.slice A235_1 ((rd_T67 l0_0 x24_2).f1).length c235_1)) (fun _ h_ => h_.1))));(case side2 => exact (yh HO_3.out).2.1);rintro e w' ⟨rfl,⟨nd,rfl⟩⟩)|((with_reducible refine yA (b:=.append) (xs:=#[.tmp 59,.tmp 62]) rfl ?_);(try (refine yy (by rfl) ?_;dsimp only));at_builtin;refine Kd.R_append (Kd.int .i64) (w0:=w) w.heap.size rfl (.tmp 59) (.tmp 62) 30 3 (.int .i64 0) 8 rfl Try.underlying30 info3 rfl (by decide) (by omega) (.slice Ao43 x3_2.length co43) x3_2 ((rd_T67 l0_0 x24_2).f0) [.int .i64 ((rd_T67 l0_0 x24_2).f0)] (fun _ => True) (fun _ => False) rfl (by go_simp <;> rfl) ?aP (fun _ hk => hk.elim) ?aF ?aO ?aB ?aS ?aL ?_;(case aP => exact rfl);(case aB => exact (by repeat (with_reducible first|exact HB.out|apply za|apply zb|apply zc|refine zd ?_ GE229.out|refine zd ?_ GE236.out)));(case aF => exact (fun _ _ => trivial));(case aO => exact (by (with_reducible repeat (first|apply zm|apply zn|apply zo));exact zM (zE (p:=⟨gb236,1,none⟩) (zE (p:=⟨gb236,0,none⟩) (yf HO_3.out BK236.out (by decide)) (fun _ hk => hk.2) (.int .i64 ((rd_T67 l0_0 x24_2).f0))) (fun _ hk => hk.2) (.slice A235_1 ((rd_T67 l0_0 x24_2).f1).length c235_1)) (fun _ hk => trivial)));(case aS => exact (zB (by repeat (with_reducible first|exact HB.out|apply za|apply zb|apply zc|refine zd ?_ GE229.out|refine zd ?_ GE236.out))));(case aL => have:=LMc38.out;omega);intro v240 w44 ho hb hg hat;rw [← Ny239.out] at ho;replace BK229:=zh (yv (g:=gb229) (o:=.cells #[.slice (some ad235) l0_0.length c0_0,.int .i64 a0_1] 35 (0,0)) (by (with_reducible repeat first|apply ze|apply zf|apply zg);refine cS2 ?_ NB229_236.out;(with_reducible repeat first|apply ze|apply zf|apply zg);exact BK229.out) hg (Kd.R_ne HO_3.out BK229.out (by decide)));replace BK236:=zh (yv (g:=gb236) (o:=.cells #[.int .i64 ((rd_T67 l0_0 x24_2).f0),.slice A235_1 ((rd_T67 l0_0 x24_2).f1).length c235_1] 67 (0,0)) (by (with_reducible repeat first|apply ze|apply zf|apply zg);refine zL (cs:=#[.int .i64 ((rd_T67 l0_0 x24_2).f0),.slice none 0 0]) ?_ 1 _ rfl;(with_reducible repeat first|apply ze|apply zf|apply zg);refine zL (cs:=#[.int .i64 0,.slice none 0 0]) ?_ 0 _ rfl;(with_reducible repeat first|apply ze|apply zf|apply zg);exact BK236.out) hg (Kd.R_ne HO_3.out BK236.out (by decide)));replace HB:=zh (hb);have HO241:=zh (ho);clear HO_3 ho hb hg hat))
           go_roundg k2
           case measure => have:=HJ1.out;have:=HK2.out;omega
           case rel => exact ⟨(y239),(wrap64 (x24_2 + 1)),(by first|rfl|(simp;done)|(simp [*];done)),H',⟨by have:=HJ1.out;have:=HK2.out;omega⟩,⟨by (with_reducible repeat (first|apply zm|apply zn|apply zo));exact HO241.out⟩,⟨by (with_reducible repeat first|apply ze|apply zf|apply zg);exact BK229.out⟩,⟨by repeat (with_reducible first|exact HB.out|apply za|apply zb|apply zc|refine zd ?_ GE229.out|refine zd ?_ GE236.out)⟩⟩
          rw [if_neg c38] at H;exact absurd H (by simp)
         rw [if_neg c31] at H;have c31b0 : ((((rd_T67 l0_0 x24_2).f1).length : Int) == 0)=false:=zY.mpr c31;have c31b1 : ((((rd_T67 l0_0 x24_2).f1).length : Int) != 0)=true:=zZ.mpr c31;have c31b2 : ¬ (((rd_T67 l0_0 x24_2).f1)=[]):=fun h_ => c31 (by rw [h_];rfl)
         by_cases c45 : x3_2.length<17592186044416
         ·
          rw [if_pos c45] at H
          have LMc45:=zh c45;clear c45;obtain ⟨y242,hy242⟩ : ∃ y_ : List Int,y_=(x3_2 ++ [(rd_T67 l0_0 x24_2).f0]):=⟨_,rfl⟩;replace H : (F4.l0 k2 y242 l0_0 (l0_0.length : Int) (wrap64 (x24_2 + 1)) l0_0 a0_1)=some r:=by first|(rw [hy242];with_reducible exact H)|(have H2_:=(Option.bind_some _ _).symm.trans H;rw [hy242];with_reducible exact H2_)|(have H2_:=(Option.bind_some _ _).symm.trans H;with_reducible exact H2_)|with_reducible exact H|(rw [hy242];exact H)|exact H
          have Ny242:=zh hy242;clear hy242;have H':=zh H;clear H;have p235 : 0≤(x24_2 : Int):=zy (by first|(with_reducible assumption)|assumption);have q235 : x24_2<(l0_0.length : Int):=zy (by first|(with_reducible assumption)|assumption);obtain ⟨ad235,A235_1,c235_1,e235,hx235_0,hx235_1,hl235_1,hi235_1⟩:=at_T67 HR0_0.out x24_2 p235 q235
          cases e235
          replace hx235_0:=(HB.out.cell (zl w _ hx235_0)).trans hx235_0;replace hx235_1:=(HB.out.cell (zl w _ hx235_1)).trans hx235_1;have HR235_1:=zh hi235_1;have HC235_1:=zh hl235_1;clear hi235_1 hl235_1;replace p235:=eq_true p235;replace q235:=eq_true q235
          go_wp2_with (first|((with_reducible refine zK (N:=5) rfl ?_);(try (refine yy (by rfl) ?_;dsimp only));refine zI ?hg (N:=5) ?hd (cs:=#[.int .i64 0,.slice none 0 0]) (t:=67) ?hr ?_;(case hd|hg => rfl);(case hr => go_simp <;> rfl);intro gb236 hg w46 hbox hb;replace HO_3:=zh (yg (by (with_reducible repeat (first|apply zm|apply zn|apply zo));exact HO_3.out) hb);have BK236:=zh (hbox);have hH_:=cH (by repeat (with_reducible first|exact HB.out|apply za|apply zb|apply zc|refine zd ?_ GE229.out)) hb hg;have GW236:=zh hH_.1;have GE236:=GW236;replace HB:=zh hH_.2;have NB229_236:=zh ((by rw [hg];exact yc (yi (g:=gb229) (o:=.cells #[.slice (some ad235) l0_0.length c0_0,.int .i64 a0_1] 35 (0,0)) (by (with_reducible repeat first|apply ze|apply zf|apply zg);exact BK229.out)) : gb229≠gb236));have NB236_229:=zh NB229_236.out.symm;replace BK229:=zh (cD BK229.out (by (with_reducible repeat first|apply ze|apply zf|apply zg);exact BK229.out) hb);clear hb hbox hg hH_;have hnb47:=NB236_229.out;have hnc47:=NB229_236.out;obtain ⟨hcz48_0,hcz48_1,hfz48_0,hfz48_1⟩:=cB2 BK236.out;obtain ⟨hcz49_0,hcz49_1,hfz49_0,hfz49_1⟩:=cB2 BK229.out)|((with_reducible refine zJ (f:=56) rfl ?_);refine yj (some 33) rfl rfl Try.func56 (by kernel_rfl) rfl #[.int .i64 ((rd_T67 l0_0 x24_2).f0),.int .i64 1,.int .i64 (wrap64 (a0_1 - 1))] rfl (by (try simp only [zt,zu,zv]);first|done|rfl|(simp only [zw,zx];rfl)|(simp only [yr,ys,zV,zW];rfl)) ?_;(with_reducible refine (F00.calls  ((rd_T67 l0_0 x24_2).f0) 1 (wrap64 (a0_1 - 1)) true _ A16.out).mono ?_);rintro e w' ⟨rfl,⟨nd,rfl⟩⟩;refine ⟨_,rfl,?_⟩;obtain ⟨Ao50,co50,eo50⟩:=yk HO_3.out;subst eo50)|(go_at_call 57;(with_reducible refine (F04.calls k2  _ _ x3_2 ((rd_T67 l0_0 x24_2).f0) false _ ?side1 ?side2 A18.out).mono ?_);(case side1 => refine (yh (e:=3) (base:=w.heap.size) (ok:=fun k_ => True) (n:=x3_2.length) (c:=co50) ?_).2.2;exact (by (with_reducible repeat (first|apply zm|apply zn|apply zo));exact (zM (zE (p:=⟨gb236,1,none⟩) (zE (p:=⟨gb236,0,none⟩) (yf HO_3.out BK236.out (by decide)) (fun _ hk => hk.2) (.int .i64 ((rd_T67 l0_0 x24_2).f0))) (fun _ hk => hk.2) (.slice A235_1 ((rd_T67 l0_0 x24_2).f1).length c235_1)) (fun _ h_ => h_.1))));(case side2 => exact (yh HO_3.out).2.1);rintro e w' ⟨rfl,⟨nd,rfl⟩⟩)|((with_reducible refine yA (b:=.append) (xs:=#[.tmp 59,.tmp 62]) rfl ?_);(try (refine yy (by rfl) ?_;dsimp only));at_builtin;refine Kd.R_append (Kd.int .i64) (w0:=w) w.heap.size rfl (.tmp 59) (.tmp 62) 30 3 (.int .i64 0) 8 rfl Try.underlying30 info3 rfl (by decide) (by omega) (.slice Ao50 x3_2.length co50) x3_2 ((rd_T67 l0_0 x24_2).f0) [.int .i64 ((rd_T67 l0_0 x24_2).f0)] (fun _ => True) (fun _ => False) rfl (by go_simp <;> rfl) ?aP (fun _ hk => hk.elim) ?aF ?aO ?aB ?aS ?aL ?_;(case aP => exact rfl);(case aB => exact (by repeat (with_reducible first|exact HB.out|apply za|apply zb|apply zc|refine zd ?_ GE229.out|refine zd ?_ GE236.out)));(case aF => exact (fun _ _ => trivial));(case aO => exact (by (with_reducible repeat (first|apply zm|apply zn|apply zo));exact zM (zE (p:=⟨gb236,1,none⟩) (zE (p:=⟨gb236,0,none⟩) (yf HO_3.out BK236.out (by decide)) (fun _ hk => hk.2) (.int .i64 ((rd_T67 l0_0 x24_2).f0))) (fun _ hk => hk.2) (.slice A235_1 ((rd_T67 l0_0 x24_2).f1).length c235_1)) (fun _ hk => trivial)));(case aS => exact (zB (by repeat (with_reducible first|exact HB.out|apply za|apply zb|apply zc|refine zd ?_ GE229.out|refine zd ?_ GE236.out))));(case aL => have:=LMc45.out;omega);intro v243 w51 ho hb hg hat;rw [← Ny242.out] at ho;replace BK229:=zh (yv (g:=gb229) (o:=.cells #[.slice (some ad235) l0_0.length c0_0,.int .i64 a0_1] 35 (0,0)) (by (with_reducible repeat first|apply ze|apply zf|apply zg);refine cS2 ?_ NB229_236.out;(with_reducible repeat first|apply ze|apply zf|apply zg);exact BK229.out) hg (Kd.R_ne HO_3.out BK229.out (by decide)));replace BK236:=zh (yv (g:=gb236) (o:=.cells #[.int .i64 ((rd_T67 l0_0 x24_2).f0),.slice A235_1 ((rd_T67 l0_0 x24_2).f1).length c235_1] 67 (0,0)) (by (with_reducible repeat first|apply ze|apply zf|apply zg);refine zL (cs:=#[.int .i64 ((rd_T67 l0_0 x24_2).f0),.slice none 0 0]) ?_ 1 _ rfl;(with_reducible repeat first|apply ze|apply zf|apply zg);refine zL (cs:=#[.int .i64 0,.slice none 0 0]) ?_ 0 _ rfl;(with_reducible repeat first|apply ze|apply zf|apply zg);exact BK236.out) hg (Kd.R_ne HO_3.out BK236.out (by decide)));replace HB:=zh (hb);have HO244:=zh (ho);clear HO_3 ho hb hg hat))
          go_roundg k2
          case measure => have:=HJ1.out;have:=HK2.out;omega
          case rel => exact ⟨(y242),(wrap64 (x24_2 + 1)),(by first|rfl|(simp;done)|(simp [*];done)),H',⟨by have:=HJ1.out;have:=HK2.out;omega⟩,⟨by (with_reducible repeat (first|apply zm|apply zn|apply zo));exact HO244.out⟩,⟨by (with_reducible repeat first|apply ze|apply zf|apply zg);exact BK229.out⟩,⟨by repeat (with_reducible first|exact HB.out|apply za|apply zb|apply zc|refine zd ?_ GE229.out|refine zd ?_ GE236.out)⟩⟩
         rw [if_neg c45] at H;exact absurd H (by simp)
        replace c17:=yb.mpr c17;subst c17;have H1 : (some false)=some r:=by rw [if_neg (show ¬ (false=true) by decide)] at H;exact H
        clear H;have H:=H1;clear H1;obtain rfl:=zU H;have p235 : 0≤(x24_2 : Int):=zy (by first|(with_reducible assumption)|assumption);have q235 : x24_2<(l0_0.length : Int):=zy (by first|(with_reducible assumption)|assumption);obtain ⟨ad235,A235_1,c235_1,e235,hx235_0,hx235_1,hl235_1,hi235_1⟩:=at_T67 HR0_0.out x24_2 p235 q235
        cases e235
        replace hx235_0:=(HB.out.cell (zl w _ hx235_0)).trans hx235_0;replace hx235_1:=(HB.out.cell (zl w _ hx235_1)).trans hx235_1;have HR235_1:=zh hi235_1;have HC235_1:=zh hl235_1;clear hi235_1 hl235_1;replace p235:=eq_true p235;replace q235:=eq_true q235
        go_wp2_with (first|((with_reducible refine zK (N:=5) rfl ?_);(try (refine yy (by rfl) ?_;dsimp only));refine zI ?hg (N:=5) ?hd (cs:=#[.int .i64 0,.slice none 0 0]) (t:=67) ?hr ?_;(case hd|hg => rfl);(case hr => go_simp <;> rfl);intro gb236 hg w52 hbox hb;replace HO_3:=zh (yg (by (with_reducible repeat (first|apply zm|apply zn|apply zo));exact HO_3.out) hb);have BK236:=zh (hbox);have hH_:=cH (by repeat (with_reducible first|exact HB.out|apply za|apply zb|apply zc|refine zd ?_ GE229.out)) hb hg;have GW236:=zh hH_.1;have GE236:=GW236;replace HB:=zh hH_.2;have NB229_236:=zh ((by rw [hg];exact yc (yi (g:=gb229) (o:=.cells #[.slice (some ad235) l0_0.length c0_0,.int .i64 a0_1] 35 (0,0)) (by (with_reducible repeat first|apply ze|apply zf|apply zg);exact BK229.out)) : gb229≠gb236));have NB236_229:=zh NB229_236.out.symm;replace BK229:=zh (cD BK229.out (by (with_reducible repeat first|apply ze|apply zf|apply zg);exact BK229.out) hb);clear hb hbox hg hH_;have hnb53:=NB236_229.out;have hnc53:=NB229_236.out;obtain ⟨hcz54_0,hcz54_1,hfz54_0,hfz54_1⟩:=cB2 BK236.out;obtain ⟨hcz55_0,hcz55_1,hfz55_0,hfz55_1⟩:=cB2 BK229.out)|((with_reducible refine zJ (f:=56) rfl ?_);refine yj (some 33) rfl rfl Try.func56 (by kernel_rfl) rfl #[.int .i64 ((rd_T67 l0_0 x24_2).f0),.int .i64 1,.int .i64 (wrap64 (a0_1 - 1))] rfl (by (try simp only [zt,zu,zv]);first|done|rfl|(simp only [zw,zx];rfl)|(simp only [yr,ys,zV,zW];rfl)) ?_;(with_reducible refine (F00.calls  ((rd_T67 l0_0 x24_2).f0) 1 (wrap64 (a0_1 - 1)) false _ A16.out).mono ?_);rintro e w' ⟨rfl,⟨nd,rfl⟩⟩;refine ⟨_,rfl,?_⟩))
        go_ret
        exact ⟨by first|rfl|(simp [yt,yu] <;> rfl)|(simp [*,yt,yu] <;> rfl),by repeat (with_reducible first|exact HB.out|apply za|apply zb|apply zc|refine zd ?_ GE229.out|refine zd ?_ GE236.out)⟩
       rw [if_neg c15] at H;exact absurd H (by simp)
      rw [if_neg c14] at H;exact absurd H (by simp)
     rw [if_neg c13] at H;have c13b0 : decide (x24_2<(l0_0.length : Int))=false:=decide_eq_false c13;clear c13;replace H:=zT.mp H;obtain ⟨t245,A560,H⟩:=H;replace H : (F4.l1 k2 t245 t245 (t245.length : Int) 0)=some r:=H;have A56:=zh A560;clear A560;have H':=zh H;clear H;obtain ⟨hcz57_0,hcz57_1,hfz57_0,hfz57_1⟩:=cB2 BK229.out
     go_wp2_with (first|((with_reducible refine zJ (f:=33) rfl ?_);refine yj (some 66) rfl rfl Try.func33 (by kernel_rfl) rfl #[.agg #[.slice A0_0 l0_0.length c0_0,.int .i64 a0_1]] rfl (by (try simp only [zt,zu,zv]);first|done|rfl|(simp only [zw,zx];rfl)|(simp only [yr,ys,zV,zW];rfl)) ?_;(with_reducible refine (Fj.calls k2  _ _ l0_0 a0_1 t245 _ ?side1 ?side2 A56.out).mono ?_);(case side1 => repeat (first|exact (Kd.C_below HR0_0.out HB.out)|(with_reducible refine Kd.C_alloc ?_ _)|(with_reducible refine Kd.C_drewN ?_ _)|(with_reducible refine Kd.C_drew ?_)));(case side2 => exact HC0_0.out);rintro e w58 ⟨v246,rfl,ho0,hb⟩;refine ⟨_,rfl,?_⟩;replace HO_3:=zh (yg (by (with_reducible repeat (first|apply zm|apply zn|apply zo));exact HO_3.out) hb);have HO247:=zh (yx ho0 (zB (by repeat (with_reducible first|exact HB.out|apply za|apply zb|apply zc|refine zd ?_ GE229.out))));replace BK229:=zh (cD BK229.out (by (with_reducible repeat first|apply ze|apply zf|apply zg);exact BK229.out) hb);replace HB:=zh (zC (by repeat (with_reducible first|exact HB.out|apply za|apply zb|apply zc|refine zd ?_ GE229.out)) hb);(try clear hb);(try clear hb2);(try clear hk);(try clear hi);(try clear ho0);obtain ⟨Ao59,co59,eo59⟩:=yk HO247.out;subst eo59))
     go_loopg [69] k2 (fun kq v69 w' => ∃ (x69_3 : Int),v69 = .int .i64 x69_3∧Aside0 (F4.l1 kq t245 t245 (t245.length : Int) x69_3=some r)∧Aside0 (kq≤k2)∧Aside0 (Kd.R k51 51 w' w.heap.size (fun _ => True) (.slice Ao59 t245.length co59) t245)∧Aside0 (Kd.R k51 51 w' w.heap.size (fun _ => True) (.slice Ao59 t245.length co59) t245)∧Aside0 (w'.heap[gb229]? = some (.cells #[(.slice A0_0 l0_0.length c0_0),.int .i64 a0_1] 35 (0,0)))∧Aside0 (Below w.heap.size w w'))
     case atStart => exact ⟨(0),(by first|rfl|(simp;done)|(simp [*];done)),H',⟨ye _⟩,⟨by (with_reducible repeat (first|apply zm|apply zn|apply zo));exact HO247.out⟩,⟨by (with_reducible repeat (first|apply zm|apply zn|apply zo));exact HO247.out⟩,⟨by (with_reducible repeat first|apply ze|apply zf|apply zg);exact BK229.out⟩,⟨by repeat (with_reducible first|exact HB.out|apply za|apply zb|apply zc|refine zd ?_ GE229.out)⟩⟩
     case round =>
      clear H'
      try clear c1 c2
      try clear p2
      try clear q2
      try clear hx2
      try clear c3 c4 c5
      try clear p6
      try clear c9 c13 c13b0 c14 c14b0 c15 c15b0 c17 c19 c21 c23
      try clear p23
      try clear q23
      try clear hx23
      try clear c25 c25b0 c25b1 c27 c31 c31b0 c31b1 c31b2 c32 c32b0 c32b1 c33 c34 c38 c40 c45 c47 c53 c56
      try clear hcz12_0 hcz12_1
      try clear hcz22_0 hcz22_1
      try clear hcz23_0 hcz23_1
      try clear hcz28_0 hcz28_1
      try clear hcz29_0 hcz29_1
      try clear hcz35_0 hcz35_1
      try clear hcz36_0 hcz36_1
      try clear hcz41_0 hcz41_1
      try clear hcz42_0 hcz42_1
      try clear hcz48_0 hcz48_1
      try clear hcz49_0 hcz49_1
      try clear hcz54_0 hcz54_1
      try clear hcz55_0 hcz55_1
      try clear hcz57_0 hcz57_1
      try clear hcz7_0 hcz7_1
      try clear hcz8_0 hcz8_1
      try clear hfz12_0 hfz12_1
      try clear hfz22_0 hfz22_1
      try clear hfz23_0 hfz23_1
      try clear hfz28_0 hfz28_1
      try clear hfz29_0 hfz29_1
      try clear hfz35_0 hfz35_1
      try clear hfz36_0 hfz36_1
      try clear hfz41_0 hfz41_1
      try clear hfz42_0 hfz42_1
      try clear hfz48_0 hfz48_1
      try clear hfz49_0 hfz49_1
      try clear hfz54_0 hfz54_1
      try clear hfz55_0 hfz55_1
      try clear hfz57_0 hfz57_1
      try clear hfz7_0 hfz7_1
      try clear hfz8_0 hfz8_1
      try clear hx235_0
      try clear hx235_1
      try clear p2
      try clear p235
      try clear q235
      obtain ⟨x69_3,rfl,HA,HK3,HO_6,HO_67,BK229,HB⟩:=hrel
      cases gk with
      | zero => exact absurd HA.out (by simp [F4.l1])
      | succ k3 =>
       have H:=HA.out;clear HA;simp only [F4.l1] at H
       by_cases c60 : x69_3<(t245.length : Int)
       ·
        rw [if_pos c60] at H
        have c60b0 : decide (x69_3<(t245.length : Int))=true:=decide_eq_true c60;clear c60
        by_cases c61 : 0≤x69_3
        ·
         rw [if_pos c61] at H
         have c61b0 : decide (0≤x69_3)=true:=decide_eq_true c61;clear c61
         by_cases c62 : x69_3<(t245.length : Int)
         ·
          rw [if_pos c62] at H
          have c62b0 : decide (x69_3<(t245.length : Int))=true:=decide_eq_true c62;clear c62;replace H:=zT.mp H;obtain ⟨t250,A630,H⟩:=H;replace H : (if t250=true then (if x69_3 > 0 then (if 0≤(wrap64 (x69_3 - 1)) then (if (wrap64 (x69_3 - 1))<(t245.length : Int) then ((Fr.f k3 ((rd_T51 t245 (wrap64 (x69_3 - 1))).f0) ((rd_T51 t245 (wrap64 (x69_3 - 1))).f1) ((rd_T51 t245 x69_3).f0) ((rd_T51 t245 x69_3).f1)).bind fun t252 => (if t252 ≥ 0 then (some false) else (F4.l1 k3 t245 t245 (t245.length : Int) (wrap64 (x69_3 + 1))))) else (none)) else (none)) else (F4.l1 k3 t245 t245 (t245.length : Int) (wrap64 (x69_3 + 1)))) else (some false))=some r:=H;have A63:=zh A630;clear A630
          by_cases c64 : t250=true
          ·
           subst c64
           have H1 : (if x69_3 > 0 then (if 0≤(wrap64 (x69_3 - 1)) then (if (wrap64 (x69_3 - 1))<(t245.length : Int) then ((Fr.f k3 ((rd_T51 t245 (wrap64 (x69_3 - 1))).f0) ((rd_T51 t245 (wrap64 (x69_3 - 1))).f1) ((rd_T51 t245 x69_3).f0) ((rd_T51 t245 x69_3).f1)).bind fun t252 => (if t252 ≥ 0 then (some false) else (F4.l1 k3 t245 t245 (t245.length : Int) (wrap64 (x69_3 + 1))))) else (none)) else (none)) else (F4.l1 k3 t245 t245 (t245.length : Int) (wrap64 (x69_3 + 1))))=some r:=by rw [if_pos rfl] at H;exact H
           clear H;have H:=H1;clear H1
           by_cases c65 : x69_3 > 0
           ·
            rw [if_pos c65] at H
            have c65b0 : decide (0<x69_3)=true:=decide_eq_true c65;clear c65;obtain ⟨ji66,hji66⟩ : ∃ j_ : Int,(wrap64 (x69_3 - 1))=j_:=⟨_,rfl⟩;replace H : (if 0≤(ji66) then (if (ji66)<(t245.length : Int) then ((Fr.f k3 ((rd_T51 t245 (ji66)).f0) ((rd_T51 t245 (ji66)).f1) ((rd_T51 t245 x69_3).f0) ((rd_T51 t245 x69_3).f1)).bind fun t252 => (if t252 ≥ 0 then (some false) else (F4.l1 k3 t245 t245 (t245.length : Int) (wrap64 (x69_3 + 1))))) else (none)) else (none))=some r:=by first|(rw [hji66] at H;exact H)|(simp only [hji66] at H ⊢;exact H)
            (try rw [hji66] at A63);have hji66w : (IntKind.i64.wrap (x69_3 - 1))=ji66:=(zG _).trans hji66
            by_cases c67 : 0≤(ji66)
            ·
             rw [if_pos c67] at H
             have c67b0 : decide (0≤(ji66))=true:=decide_eq_true c67;clear c67
             by_cases c68 : (ji66)<(t245.length : Int)
             ·
              rw [if_pos c68] at H
              have c68b0 : decide ((ji66)<(t245.length : Int))=true:=decide_eq_true c68;clear c68;replace H:=zT.mp H;obtain ⟨t252,A690,H⟩:=H;replace H : (if t252 ≥ 0 then (some false) else (F4.l1 k3 t245 t245 (t245.length : Int) (wrap64 (x69_3 + 1))))=some r:=H;have A69:=zh A690;clear A690
              by_cases c70 : t252 ≥ 0
              ·
               rw [if_pos c70] at H
               have c70b0 : decide (0≤t252)=true:=decide_eq_true c70;clear c70;obtain rfl:=zU H;have p248 : 0≤(x69_3 : Int):=zy (by first|(with_reducible assumption)|assumption);have q248 : x69_3<(t245.length : Int):=zy (by first|(with_reducible assumption)|assumption);obtain ⟨ad248,e248,hx248_0,hx248_1⟩:=at_T51 (yh HO_67.out).2.2 x69_3 p248 q248
               cases e248
               replace p248:=eq_true p248;replace q248:=eq_true q248
               try go_wp2_with (first|((with_reducible refine zK (N:=8) rfl ?_);(try (refine yy (by rfl) ?_;dsimp only));refine zI ?hg (N:=8) ?hd (cs:=#[.string (⟨#[]⟩ : ByteArray),.int .i64 0]) (t:=51) ?hr ?_;(case hd|hg => rfl);(case hr => go_simp <;> rfl);intro gb249 hg w71 hbox hb;replace HO_6:=zh (yg (Kd.R_elderB (by (with_reducible repeat (first|apply zm|apply zn|apply zo));exact HO_6.out) gb249 (Nat.le_of_eq hg.symm)) hb);replace HO_67:=zh (yg (Kd.R_elderB (by (with_reducible repeat (first|apply zm|apply zn|apply zo));exact HO_67.out) gb249 (Nat.le_of_eq hg.symm)) hb);have BK249:=zh (hbox);have hH_:=cH (by repeat (with_reducible first|exact HB.out|apply za|apply zb|apply zc|refine zd ?_ GE229.out)) hb hg;have GW249:=zh hH_.1;have GE249:=GW249;replace HB:=zh hH_.2;have NB229_249:=zh ((by rw [hg];exact yc (yi (g:=gb229) (o:=.cells #[.slice A0_0 l0_0.length c0_0,.int .i64 a0_1] 35 (0,0)) (by (with_reducible repeat first|apply ze|apply zf|apply zg);exact BK229.out)) : gb229≠gb249));have NB249_229:=zh NB229_249.out.symm;replace BK229:=zh (cD BK229.out (by (with_reducible repeat first|apply ze|apply zf|apply zg);exact BK229.out) hb);clear hb hbox hg hH_;have hnb72:=NB249_229.out;have hnc72:=NB229_249.out;obtain ⟨hcz73_0,hcz73_1,hfz73_0,hfz73_1⟩:=cB2 BK249.out))
               have n0_ : Aside0 (Kd.R k51 51 ((w71.setCell ⟨gb249,0,none⟩ (.string ((rd_T51 t245 x69_3).f0))).setCell ⟨gb249,1,none⟩ (.int .i64 ((rd_T51 t245 x69_3).f1))) w.heap.size (fun k_ => k_≠gb249) (.slice (some ad248) t245.length co59) t245):=⟨by (with_reducible repeat (first|apply zm|apply zn|apply zo));exact zM (zE (p:=⟨gb249,1,none⟩) (zE (p:=⟨gb249,0,none⟩) (zM HO_6.out (fun k_ hk => (⟨hk,hk.2⟩ : _∧k_≠gb249))) (fun _ hk => hk.2) (.string ((rd_T51 t245 x69_3).f0))) (fun _ hk => hk.2) (.int .i64 ((rd_T51 t245 x69_3).f1))) (fun _ hk => hk.1.2)⟩;have n1_ : Aside0 (Kd.R k51 51 ((w71.setCell ⟨gb249,0,none⟩ (.string ((rd_T51 t245 x69_3).f0))).setCell ⟨gb249,1,none⟩ (.int .i64 ((rd_T51 t245 x69_3).f1))) w.heap.size (fun k_ => k_≠gb249) (.slice (some ad248) t245.length co59) t245):=⟨by (with_reducible repeat (first|apply zm|apply zn|apply zo));exact zM (zE (p:=⟨gb249,1,none⟩) (zE (p:=⟨gb249,0,none⟩) (zM HO_67.out (fun k_ hk => (⟨hk,hk.2⟩ : _∧k_≠gb249))) (fun _ hk => hk.2) (.string ((rd_T51 t245 x69_3).f0))) (fun _ hk => hk.2) (.int .i64 ((rd_T51 t245 x69_3).f1))) (fun _ hk => hk.1.2)⟩;have n2_ : Aside0 (((w71.setCell ⟨gb249,0,none⟩ (.string ((rd_T51 t245 x69_3).f0))).setCell ⟨gb249,1,none⟩ (.int .i64 ((rd_T51 t245 x69_3).f1))).heap[gb229]? = some (.cells #[.slice A0_0 l0_0.length c0_0,.int .i64 a0_1] 35 (0,0))):=⟨by (with_reducible repeat first|apply ze|apply zf|apply zg);refine cS2 ?_ NB229_249.out;(with_reducible repeat first|apply ze|apply zf|apply zg);exact BK229.out⟩;have n3_ : Aside0 (((w71.setCell ⟨gb249,0,none⟩ (.string ((rd_T51 t245 x69_3).f0))).setCell ⟨gb249,1,none⟩ (.int .i64 ((rd_T51 t245 x69_3).f1))).heap[gb249]? = some (.cells #[.string ((rd_T51 t245 x69_3).f0),.int .i64 ((rd_T51 t245 x69_3).f1)] 51 (0,0))):=⟨by (with_reducible repeat first|apply ze|apply zf|apply zg);refine zL (cs:=#[.string ((rd_T51 t245 x69_3).f0),.int .i64 0]) ?_ 1 _ rfl;(with_reducible repeat first|apply ze|apply zf|apply zg);refine zL (cs:=#[.string (⟨#[]⟩ : ByteArray),.int .i64 0]) ?_ 0 _ rfl;(with_reducible repeat first|apply ze|apply zf|apply zg);exact BK249.out⟩;have n4_ : Aside0 (Below w.heap.size w ((w71.setCell ⟨gb249,0,none⟩ (.string ((rd_T51 t245 x69_3).f0))).setCell ⟨gb249,1,none⟩ (.int .i64 ((rd_T51 t245 x69_3).f1)))):=⟨by repeat (with_reducible first|exact HB.out|apply za|apply zb|apply zc|refine zd ?_ GE229.out|refine zd ?_ GE249.out)⟩;(try clear HO_6);(try clear HO_67);(try clear BK229);(try clear BK249);(try clear HB);generalize ((w71.setCell ⟨gb249,0,none⟩ (.string ((rd_T51 t245 x69_3).f0))).setCell ⟨gb249,1,none⟩ (.int .i64 ((rd_T51 t245 x69_3).f1)))=w74 at n0_ n1_ n2_ n3_ n4_ ⊢;have HO_6:=n0_;have HO_67:=n1_;have BK229:=n2_;have BK249:=n3_;have HB:=n4_;clear n0_ n1_ n2_ n3_ n4_;replace HO_6:=zh (zo HO_6.out);replace HO_67:=zh (zo HO_67.out);replace BK229:=zh (zf BK229.out);replace BK249:=zh (zf BK249.out);replace HB:=zh (zc HB.out);have p251 : 0≤((ji66) : Int):=zy (by first|(with_reducible assumption)|assumption);have q251 : (ji66)<(t245.length : Int):=zy (by first|(with_reducible assumption)|assumption);obtain ⟨ad251,e251,hx251_0,hx251_1⟩:=at_T51 (yh HO_6.out).2.2 (ji66) p251 q251;obtain rfl : ad248=ad251:=(by injection e251);replace p251:=eq_true p251;replace q251:=eq_true q251;refine start_ (n:=17) (S:=fun w' => w'.cell? ⟨gb249,0,none⟩=some (.string ((rd_T51 t245 x69_3).f0))∧w'.cell? ⟨gb249,1,none⟩=some (.int .i64 ((rd_T51 t245 x69_3).f1))∧w'.cell? (ad248.add (((ji66)).toNat * 2))=some (.string ((rd_T51 t245 (ji66)).f0))∧w'.cell? ⟨(ad248.add (((ji66)).toNat * 2)).block,(ad248.add (((ji66)).toNat * 2)).off + 1,none⟩=some (.int .i64 ((rd_T51 t245 (ji66)).f1))) (ds:=[]) (bm_ 0 17) (by kernel_rfl) rfl rfl ⟨(zz BK249.out 0).trans rfl,(zz BK249.out 1).trans rfl,hx251_0,hx251_1⟩ (fun hHeld => ?_);refine with_tabW F4.tab15 F4.bits15 (fun HT_ HW_ => ?_);generalize w74.drew=w75 at HO_6 HO_67 BK229 BK249 HB hx251_0 hx251_1 hHeld ⊢;refine take_ (i:=0) (N:=some 74) (v:=?_) (a':=?_) (bm_ 1 17) rfl rfl (yo HT_.out HW_.out (by kernel_rfl)) (fun _ _ _ h => h) (Or.inl ⟨by rfl,?_⟩) hHeld ?_ ?_;rotate_left
               ·
                rintro w' ⟨s0,s1,s2,s3⟩
                go_simp
                with_reducible rfl
               rotate_left
               ·
                simp only [Act.put,zi,zj,zk,zG,zH]
                rfl
               refine one_ (i:=1) (N:=some 75) (bm_ 2 17) rfl rfl (one_of HT_.out (by kernel_rfl)) (by decide) (fun K hK => ?_);refine goes_ Try.func44 (by kernel_rfl) rfl #[.agg #[.string ((rd_T51 t245 x69_3).f0),.int .i64 ((rd_T51 t245 x69_3).f1)]] (by rfl) rfl rfl (by (try simp only [zt,zu,zv]);first|done|rfl|(simp only [zw,zx];rfl)|(simp only [yr,ys,zV,zW];rfl)) ?_
               with_reducible refine (F0c.calls  ((rd_T51 t245 x69_3).f0) ((rd_T51 t245 x69_3).f1) true _ A63.out).mono ?_
               rintro e w76 ⟨rfl,hb⟩;have HS2_:=(hb.cell (zl _ _ (hHeld.2.2.1))).trans (hHeld.2.2.1);have HS3_:=(hb.cell (zl _ _ (hHeld.2.2.2))).trans (hHeld.2.2.2);refine ⟨_,rfl,?_⟩;replace HO_6:=zh (yg (by (with_reducible repeat (first|apply zm|apply zn|apply zo));exact HO_6.out) hb);replace HO_67:=zh (yg (by (with_reducible repeat (first|apply zm|apply zn|apply zo));exact HO_67.out) hb);replace BK229:=zh (cD BK229.out (by (with_reducible repeat first|apply ze|apply zf|apply zg);exact BK229.out) hb);replace BK249:=zh (cD BK249.out (by (with_reducible repeat first|apply ze|apply zf|apply zg);exact BK249.out) hb);replace HB:=zh (zC (by repeat (with_reducible first|exact HB.out|apply za|apply zb|apply zc|refine zd ?_ GE229.out|refine zd ?_ GE249.out)) hb);(try clear hb);(try clear hb2);(try clear hk);(try clear hi);refine hK.out _ _ ⟨(zz BK249.out 0).trans rfl,(zz BK249.out 1).trans rfl,HS2_,HS3_⟩ (fun hHeld => ?_);clear hK K;refine norm_ (a':=?_) ?_ ?_;rotate_left
               ·
                show Act.put _ (some 75) _=_
                simp only [Act.put,zi,zj,zk,zG,zH]
                rfl
               refine pure_ (i:=2) (N:=some 76) (v:=?_) (a':=?_) (bm_ 3 17) rfl rfl (any_of HT_.out (by kernel_rfl)) (fun _ _ _ h => h) (Or.inl ⟨by rfl,?_⟩) ?_ ?_;rotate_left
               ·
                intro w'
                go_simp
                with_reducible rfl
               rotate_left
               ·
                simp only [Act.put,zi,zj,zk,zG,zH]
                rfl
               refine pure_ (i:=3) (N:=some 77) (v:=?_) (a':=?_) (bm_ 4 17) rfl rfl (any_of HT_.out (by kernel_rfl)) (fun _ _ _ h => h) (Or.inl ⟨by rfl,?_⟩) ?_ ?_;rotate_left
               ·
                intro w'
                go_simp
                with_reducible rfl
               rotate_left
               ·
                simp only [Act.put,zi,zj,zk,zG,zH]
                rfl
               refine pure_ (i:=4) (N:=some 78) (v:=?_) (a':=?_) (bm_ 5 17) rfl rfl (any_of HT_.out (by kernel_rfl)) (fun _ _ _ h => h) (Or.inl ⟨by rfl,?_⟩) ?_ ?_;rotate_left
               ·
                intro w'
                go_simp
                with_reducible rfl
               rotate_left
               ·
                simp only [Act.put,zi,zj,zk,zG,zH]
                rfl
               refine pure_ (i:=5) (N:=some 79) (v:=?_) (a':=?_) (bm_ 6 17) rfl rfl (any_of HT_.out (by kernel_rfl)) (fun _ _ _ h => h) (Or.inl ⟨by rfl,?_⟩) ?_ ?_;rotate_left
               ·
                intro w'
                go_simp
                with_reducible rfl
               rotate_left
               ·
                simp only [Act.put,zi,zj,zk,zG,zH]
                rfl
               refine pure_ (i:=6) (N:=some 80) (v:=?_) (a':=?_) (bm_ 7 17) rfl rfl (any_of HT_.out (by kernel_rfl)) (fun _ _ _ h => h) (Or.inl ⟨by rfl,?_⟩) ?_ ?_;rotate_left
               ·
                intro w'
                go_simp
                with_reducible rfl
               rotate_left
               ·
                simp only [Act.put,zi,zj,zk,zG,zH]
                rfl
               refine pure_ (i:=7) (N:=some 81) (v:=?_) (a':=?_) (bm_ 8 17) rfl rfl (any_of HT_.out (by kernel_rfl)) (fun _ _ _ h => h) (Or.inl ⟨by rfl,?_⟩) ?_ ?_;rotate_left
               ·
                intro w'
                go_simp
                with_reducible rfl
               rotate_left
               ·
                simp only [Act.put,zi,zj,zk,zG,zH]
                rfl
               refine pure_ (i:=8) (N:=some 82) (v:=?_) (a':=?_) (bm_ 9 17) rfl rfl (any_of HT_.out (by kernel_rfl)) (fun _ _ _ h => h) (Or.inl ⟨by rfl,?_⟩) ?_ ?_;rotate_left
               ·
                intro w'
                go_simp
                with_reducible rfl
               rotate_left
               ·
                simp only [Act.put,zi,zj,zk,zG,zH]
                rfl
               refine pure_ (i:=9) (N:=some 83) (v:=?_) (a':=?_) (bm_ 10 17) rfl rfl (any_of HT_.out (by kernel_rfl)) (fun _ _ _ h => h) (Or.inl ⟨by rfl,?_⟩) ?_ ?_;rotate_left
               ·
                intro w'
                go_simp
                with_reducible rfl
               rotate_left
               ·
                simp only [Act.put,zi,zj,zk,zG,zH]
                rfl
               refine pure_ (i:=10) (N:=some 84) (v:=?_) (a':=?_) (bm_ 11 17) rfl rfl (any_of HT_.out (by kernel_rfl)) (fun _ _ _ h => h) (Or.inl ⟨by rfl,?_⟩) ?_ ?_;rotate_left
               ·
                intro w'
                go_simp
                with_reducible rfl
               rotate_left
               ·
                simp only [Act.put,zi,zj,zk,zG,zH]
                rfl
               refine take_ (i:=11) (N:=some 85) (v:=?_) (a':=?_) (bm_ 12 17) rfl rfl (yo HT_.out HW_.out (by kernel_rfl)) (fun _ _ _ h => h) (Or.inl ⟨by rfl,?_⟩) hHeld ?_ ?_;rotate_left
               ·
                rintro w' ⟨s0,s1,s2,s3⟩
                go_simp
                with_reducible rfl
               rotate_left
               ·
                simp only [Act.put,zi,zj,zk,zG,zH]
                rfl
               refine take_ (i:=12) (N:=some 86) (v:=?_) (a':=?_) (bm_ 13 17) rfl rfl (yo HT_.out HW_.out (by kernel_rfl)) (fun _ _ _ h => h) (Or.inl ⟨by rfl,?_⟩) hHeld ?_ ?_;rotate_left
               ·
                rintro w' ⟨s0,s1,s2,s3⟩
                go_simp
                with_reducible rfl
               rotate_left
               ·
                simp only [Act.put,zi,zj,zk,zG,zH]
                rfl
               refine one_ (i:=13) (N:=some 87) (bm_ 14 17) rfl rfl (one_of HT_.out (by kernel_rfl)) (by decide) (fun K hK => ?_);refine goes_ Try.func58 (by kernel_rfl) rfl #[.agg #[.string ((rd_T51 t245 (ji66)).f0),.int .i64 ((rd_T51 t245 (ji66)).f1)],.agg #[.string ((rd_T51 t245 x69_3).f0),.int .i64 ((rd_T51 t245 x69_3).f1)]] (by rfl) rfl rfl (by (try simp only [zt,zu,zv]);first|done|(simp only [hji66];rfl)|rfl|(simp only [zw,zx];rfl)|(simp only [yr,ys,zV,zW];rfl)) ?_
               with_reducible refine (Fr.calls k3  ((rd_T51 t245 (ji66)).f0) ((rd_T51 t245 (ji66)).f1) ((rd_T51 t245 x69_3).f0) ((rd_T51 t245 x69_3).f1) t252 _ A69.out).mono ?_
               rintro e w77 ⟨rfl,hb⟩;have HS2_:=(hb.cell (zl _ _ (hHeld.2.2.1))).trans (hHeld.2.2.1);have HS3_:=(hb.cell (zl _ _ (hHeld.2.2.2))).trans (hHeld.2.2.2);refine ⟨_,rfl,?_⟩;replace HO_6:=zh (yg (by (with_reducible repeat (first|apply zm|apply zn|apply zo));exact HO_6.out) hb);replace HO_67:=zh (yg (by (with_reducible repeat (first|apply zm|apply zn|apply zo));exact HO_67.out) hb);replace BK229:=zh (cD BK229.out (by (with_reducible repeat first|apply ze|apply zf|apply zg);exact BK229.out) hb);replace BK249:=zh (cD BK249.out (by (with_reducible repeat first|apply ze|apply zf|apply zg);exact BK249.out) hb);replace HB:=zh (zC (by repeat (with_reducible first|exact HB.out|apply za|apply zb|apply zc|refine zd ?_ GE229.out|refine zd ?_ GE249.out)) hb);(try clear hb);(try clear hb2);(try clear hk);(try clear hi);refine hK.out _ _ ⟨(zz BK249.out 0).trans rfl,(zz BK249.out 1).trans rfl,HS2_,HS3_⟩ (fun hHeld => ?_);clear hK K;refine norm_ (a':=?_) ?_ ?_;rotate_left
               ·
                show Act.put _ (some 87) _=_
                simp only [Act.put,zi,zj,zk,zG,zH]
                rfl
               refine pure_ (i:=14) (N:=some 88) (v:=?_) (a':=?_) (bm_ 15 17) rfl rfl (any_of HT_.out (by kernel_rfl)) (fun _ _ _ h => h) (Or.inl ⟨by rfl,?_⟩) ?_ ?_;rotate_left
               ·
                intro w'
                go_simp
                with_reducible rfl
               rotate_left
               ·
                simp only [Act.put,zi,zj,zk,zG,zH]
                rfl
               refine pure_ (i:=15) (N:=some 89) (v:=?_) (a':=?_) (bm_ 16 17) rfl rfl (any_of HT_.out (by kernel_rfl)) (fun _ _ _ h => h) (Or.inl ⟨by rfl,?_⟩) ?_ ?_;rotate_left
               ·
                intro w'
                go_simp
                with_reducible rfl
               rotate_left
               ·
                simp only [Act.put,zi,zj,zk,zG,zH]
                rfl
               refine pure_ (i:=16) (N:=some 90) (v:=?_) (a':=?_) (bm_ 17 17) rfl rfl (any_of HT_.out (by kernel_rfl)) (fun _ _ _ h => h) (Or.inl ⟨by rfl,?_⟩) ?_ ?_;rotate_left
               ·
                intro w'
                go_simp
                with_reducible rfl
               rotate_left
               ·
                simp only [Act.put,zi,zj,zk,zG,zH]
                rfl
               refine done_ (done_of HT_.out (by kernel_rfl)) ?_
               try go_wp2
               go_ret
               exact ⟨by first|rfl|(simp [yt,yu] <;> rfl)|(simp only [← hji66];first|rfl|(simp [yt,yu] <;> rfl))|(simp [*,yt,yu] <;> rfl),by repeat (with_reducible first|exact HB.out|apply za|apply zb|apply zc|refine zd ?_ GE229.out|refine zd ?_ GE249.out)⟩
              rw [if_neg c70] at H;have c70b0 : decide (0≤t252)=false:=decide_eq_false c70;clear c70;have H':=zh H;clear H;have p248 : 0≤(x69_3 : Int):=zy (by first|(with_reducible assumption)|assumption);have q248 : x69_3<(t245.length : Int):=zy (by first|(with_reducible assumption)|assumption);obtain ⟨ad248,e248,hx248_0,hx248_1⟩:=at_T51 (yh HO_67.out).2.2 x69_3 p248 q248
              cases e248
              replace p248:=eq_true p248;replace q248:=eq_true q248
              try go_wp2_with (first|((with_reducible refine zK (N:=8) rfl ?_);(try (refine yy (by rfl) ?_;dsimp only));refine zI ?hg (N:=8) ?hd (cs:=#[.string (⟨#[]⟩ : ByteArray),.int .i64 0]) (t:=51) ?hr ?_;(case hd|hg => rfl);(case hr => go_simp <;> rfl);intro gb249 hg w78 hbox hb;replace HO_6:=zh (yg (Kd.R_elderB (by (with_reducible repeat (first|apply zm|apply zn|apply zo));exact HO_6.out) gb249 (Nat.le_of_eq hg.symm)) hb);replace HO_67:=zh (yg (Kd.R_elderB (by (with_reducible repeat (first|apply zm|apply zn|apply zo));exact HO_67.out) gb249 (Nat.le_of_eq hg.symm)) hb);have BK249:=zh (hbox);have hH_:=cH (by repeat (with_reducible first|exact HB.out|apply za|apply zb|apply zc|refine zd ?_ GE229.out)) hb hg;have GW249:=zh hH_.1;have GE249:=GW249;replace HB:=zh hH_.2;have NB229_249:=zh ((by rw [hg];exact yc (yi (g:=gb229) (o:=.cells #[.slice A0_0 l0_0.length c0_0,.int .i64 a0_1] 35 (0,0)) (by (with_reducible repeat first|apply ze|apply zf|apply zg);exact BK229.out)) : gb229≠gb249));have NB249_229:=zh NB229_249.out.symm;replace BK229:=zh (cD BK229.out (by (with_reducible repeat first|apply ze|apply zf|apply zg);exact BK229.out) hb);clear hb hbox hg hH_;have hnb79:=NB249_229.out;have hnc79:=NB229_249.out;obtain ⟨hcz80_0,hcz80_1,hfz80_0,hfz80_1⟩:=cB2 BK249.out))
              have n0_ : Aside0 (Kd.R k51 51 ((w78.setCell ⟨gb249,0,none⟩ (.string ((rd_T51 t245 x69_3).f0))).setCell ⟨gb249,1,none⟩ (.int .i64 ((rd_T51 t245 x69_3).f1))) w.heap.size (fun k_ => k_≠gb249) (.slice (some ad248) t245.length co59) t245):=⟨by (with_reducible repeat (first|apply zm|apply zn|apply zo));exact zM (zE (p:=⟨gb249,1,none⟩) (zE (p:=⟨gb249,0,none⟩) (zM HO_6.out (fun k_ hk => (⟨hk,hk.2⟩ : _∧k_≠gb249))) (fun _ hk => hk.2) (.string ((rd_T51 t245 x69_3).f0))) (fun _ hk => hk.2) (.int .i64 ((rd_T51 t245 x69_3).f1))) (fun _ hk => hk.1.2)⟩;have n1_ : Aside0 (Kd.R k51 51 ((w78.setCell ⟨gb249,0,none⟩ (.string ((rd_T51 t245 x69_3).f0))).setCell ⟨gb249,1,none⟩ (.int .i64 ((rd_T51 t245 x69_3).f1))) w.heap.size (fun k_ => k_≠gb249) (.slice (some ad248) t245.length co59) t245):=⟨by (with_reducible repeat (first|apply zm|apply zn|apply zo));exact zM (zE (p:=⟨gb249,1,none⟩) (zE (p:=⟨gb249,0,none⟩) (zM HO_67.out (fun k_ hk => (⟨hk,hk.2⟩ : _∧k_≠gb249))) (fun _ hk => hk.2) (.string ((rd_T51 t245 x69_3).f0))) (fun _ hk => hk.2) (.int .i64 ((rd_T51 t245 x69_3).f1))) (fun _ hk => hk.1.2)⟩;have n2_ : Aside0 (((w78.setCell ⟨gb249,0,none⟩ (.string ((rd_T51 t245 x69_3).f0))).setCell ⟨gb249,1,none⟩ (.int .i64 ((rd_T51 t245 x69_3).f1))).heap[gb229]? = some (.cells #[.slice A0_0 l0_0.length c0_0,.int .i64 a0_1] 35 (0,0))):=⟨by (with_reducible repeat first|apply ze|apply zf|apply zg);refine cS2 ?_ NB229_249.out;(with_reducible repeat first|apply ze|apply zf|apply zg);exact BK229.out⟩;have n3_ : Aside0 (((w78.setCell ⟨gb249,0,none⟩ (.string ((rd_T51 t245 x69_3).f0))).setCell ⟨gb249,1,none⟩ (.int .i64 ((rd_T51 t245 x69_3).f1))).heap[gb249]? = some (.cells #[.string ((rd_T51 t245 x69_3).f0),.int .i64 ((rd_T51 t245 x69_3).f1)] 51 (0,0))):=⟨by (with_reducible repeat first|apply ze|apply zf|apply zg);refine zL (cs:=#[.string ((rd_T51 t245 x69_3).f0),.int .i64 0]) ?_ 1 _ rfl;(with_reducible repeat first|apply ze|apply zf|apply zg);refine zL (cs:=#[.string (⟨#[]⟩ : ByteArray),.int .i64 0]) ?_ 0 _ rfl;(with_reducible repeat first|apply ze|apply zf|apply zg);exact BK249.out⟩;have n4_ : Aside0 (Below w.heap.size w ((w78.setCell ⟨gb249,0,none⟩ (.string ((rd_T51 t245 x69_3).f0))).setCell ⟨gb249,1,none⟩ (.int .i64 ((rd_T51 t245 x69_3).f1)))):=⟨by repeat (with_reducible first|exact HB.out|apply za|apply zb|apply zc|refine zd ?_ GE229.out|refine zd ?_ GE249.out)⟩;(try clear HO_6);(try clear HO_67);(try clear BK229);(try clear BK249);(try clear HB);generalize ((w78.setCell ⟨gb249,0,none⟩ (.string ((rd_T51 t245 x69_3).f0))).setCell ⟨gb249,1,none⟩ (.int .i64 ((rd_T51 t245 x69_3).f1)))=w81 at n0_ n1_ n2_ n3_ n4_ ⊢;have HO_6:=n0_;have HO_67:=n1_;have BK229:=n2_;have BK249:=n3_;have HB:=n4_;clear n0_ n1_ n2_ n3_ n4_;replace HO_6:=zh (zo HO_6.out);replace HO_67:=zh (zo HO_67.out);replace BK229:=zh (zf BK229.out);replace BK249:=zh (zf BK249.out);replace HB:=zh (zc HB.out);have p251 : 0≤((ji66) : Int):=zy (by first|(with_reducible assumption)|assumption);have q251 : (ji66)<(t245.length : Int):=zy (by first|(with_reducible assumption)|assumption);obtain ⟨ad251,e251,hx251_0,hx251_1⟩:=at_T51 (yh HO_6.out).2.2 (ji66) p251 q251;obtain rfl : ad248=ad251:=(by injection e251);replace p251:=eq_true p251;replace q251:=eq_true q251;refine start_ (n:=17) (S:=fun w' => w'.cell? ⟨gb249,0,none⟩=some (.string ((rd_T51 t245 x69_3).f0))∧w'.cell? ⟨gb249,1,none⟩=some (.int .i64 ((rd_T51 t245 x69_3).f1))∧w'.cell? (ad248.add (((ji66)).toNat * 2))=some (.string ((rd_T51 t245 (ji66)).f0))∧w'.cell? ⟨(ad248.add (((ji66)).toNat * 2)).block,(ad248.add (((ji66)).toNat * 2)).off + 1,none⟩=some (.int .i64 ((rd_T51 t245 (ji66)).f1))) (ds:=[]) (bm_ 0 17) (by kernel_rfl) rfl rfl ⟨(zz BK249.out 0).trans rfl,(zz BK249.out 1).trans rfl,hx251_0,hx251_1⟩ (fun hHeld => ?_);refine with_tabW F4.tab15 F4.bits15 (fun HT_ HW_ => ?_);generalize w81.drew=w82 at HO_6 HO_67 BK229 BK249 HB hx251_0 hx251_1 hHeld ⊢;refine take_ (i:=0) (N:=some 74) (v:=?_) (a':=?_) (bm_ 1 17) rfl rfl (yo HT_.out HW_.out (by kernel_rfl)) (fun _ _ _ h => h) (Or.inl ⟨by rfl,?_⟩) hHeld ?_ ?_;rotate_left
              ·
               rintro w' ⟨s0,s1,s2,s3⟩
               go_simp
               with_reducible rfl
              rotate_left
              ·
               simp only [Act.put,zi,zj,zk,zG,zH]
               rfl
              refine one_ (i:=1) (N:=some 75) (bm_ 2 17) rfl rfl (one_of HT_.out (by kernel_rfl)) (by decide) (fun K hK => ?_);refine goes_ Try.func44 (by kernel_rfl) rfl #[.agg #[.string ((rd_T51 t245 x69_3).f0),.int .i64 ((rd_T51 t245 x69_3).f1)]] (by rfl) rfl rfl (by (try simp only [zt,zu,zv]);first|done|rfl|(simp only [zw,zx];rfl)|(simp only [yr,ys,zV,zW];rfl)) ?_
              with_reducible refine (F0c.calls  ((rd_T51 t245 x69_3).f0) ((rd_T51 t245 x69_3).f1) true _ A63.out).mono ?_
              rintro e w83 ⟨rfl,hb⟩;have HS2_:=(hb.cell (zl _ _ (hHeld.2.2.1))).trans (hHeld.2.2.1);have HS3_:=(hb.cell (zl _ _ (hHeld.2.2.2))).trans (hHeld.2.2.2);refine ⟨_,rfl,?_⟩;replace HO_6:=zh (yg (by (with_reducible repeat (first|apply zm|apply zn|apply zo));exact HO_6.out) hb);replace HO_67:=zh (yg (by (with_reducible repeat (first|apply zm|apply zn|apply zo));exact HO_67.out) hb);replace BK229:=zh (cD BK229.out (by (with_reducible repeat first|apply ze|apply zf|apply zg);exact BK229.out) hb);replace BK249:=zh (cD BK249.out (by (with_reducible repeat first|apply ze|apply zf|apply zg);exact BK249.out) hb);replace HB:=zh (zC (by repeat (with_reducible first|exact HB.out|apply za|apply zb|apply zc|refine zd ?_ GE229.out|refine zd ?_ GE249.out)) hb);(try clear hb);(try clear hb2);(try clear hk);(try clear hi);refine hK.out _ _ ⟨(zz BK249.out 0).trans rfl,(zz BK249.out 1).trans rfl,HS2_,HS3_⟩ (fun hHeld => ?_);clear hK K;refine norm_ (a':=?_) ?_ ?_;rotate_left
              ·
               show Act.put _ (some 75) _=_
               simp only [Act.put,zi,zj,zk,zG,zH]
               rfl
              refine pure_ (i:=2) (N:=some 76) (v:=?_) (a':=?_) (bm_ 3 17) rfl rfl (any_of HT_.out (by kernel_rfl)) (fun _ _ _ h => h) (Or.inl ⟨by rfl,?_⟩) ?_ ?_;rotate_left
              ·
               intro w'
               go_simp
               with_reducible rfl
              rotate_left
              ·
               simp only [Act.put,zi,zj,zk,zG,zH]
               rfl
              refine pure_ (i:=3) (N:=some 77) (v:=?_) (a':=?_) (bm_ 4 17) rfl rfl (any_of HT_.out (by kernel_rfl)) (fun _ _ _ h => h) (Or.inl ⟨by rfl,?_⟩) ?_ ?_;rotate_left
              ·
               intro w'
               go_simp
               with_reducible rfl
              rotate_left
              ·
               simp only [Act.put,zi,zj,zk,zG,zH]
               rfl
              refine pure_ (i:=4) (N:=some 78) (v:=?_) (a':=?_) (bm_ 5 17) rfl rfl (any_of HT_.out (by kernel_rfl)) (fun _ _ _ h => h) (Or.inl ⟨by rfl,?_⟩) ?_ ?_;rotate_left
              ·
               intro w'
               go_simp
               with_reducible rfl
              rotate_left
              ·
               simp only [Act.put,zi,zj,zk,zG,zH]
               rfl
              refine pure_ (i:=5) (N:=some 79) (v:=?_) (a':=?_) (bm_ 6 17) rfl rfl (any_of HT_.out (by kernel_rfl)) (fun _ _ _ h => h) (Or.inl ⟨by rfl,?_⟩) ?_ ?_;rotate_left
              ·
               intro w'
               go_simp
               with_reducible rfl
              rotate_left
              ·
               simp only [Act.put,zi,zj,zk,zG,zH]
               rfl
              refine pure_ (i:=6) (N:=some 80) (v:=?_) (a':=?_) (bm_ 7 17) rfl rfl (any_of HT_.out (by kernel_rfl)) (fun _ _ _ h => h) (Or.inl ⟨by rfl,?_⟩) ?_ ?_;rotate_left
              ·
               intro w'
               go_simp
               with_reducible rfl
              rotate_left
              ·
               simp only [Act.put,zi,zj,zk,zG,zH]
               rfl
              refine pure_ (i:=7) (N:=some 81) (v:=?_) (a':=?_) (bm_ 8 17) rfl rfl (any_of HT_.out (by kernel_rfl)) (fun _ _ _ h => h) (Or.inl ⟨by rfl,?_⟩) ?_ ?_;rotate_left
              ·
               intro w'
               go_simp
               with_reducible rfl
              rotate_left
              ·
               simp only [Act.put,zi,zj,zk,zG,zH]
               rfl
              refine pure_ (i:=8) (N:=some 82) (v:=?_) (a':=?_) (bm_ 9 17) rfl rfl (any_of HT_.out (by kernel_rfl)) (fun _ _ _ h => h) (Or.inl ⟨by rfl,?_⟩) ?_ ?_;rotate_left
              ·
               intro w'
               go_simp
               with_reducible rfl
              rotate_left
              ·
               simp only [Act.put,zi,zj,zk,zG,zH]
               rfl
              refine pure_ (i:=9) (N:=some 83) (v:=?_) (a':=?_) (bm_ 10 17) rfl rfl (any_of HT_.out (by kernel_rfl)) (fun _ _ _ h => h) (Or.inl ⟨by rfl,?_⟩) ?_ ?_;rotate_left
              ·
               intro w'
               go_simp
               with_reducible rfl
              rotate_left
              ·
               simp only [Act.put,zi,zj,zk,zG,zH]
               rfl
              refine pure_ (i:=10) (N:=some 84) (v:=?_) (a':=?_) (bm_ 11 17) rfl rfl (any_of HT_.out (by kernel_rfl)) (fun _ _ _ h => h) (Or.inl ⟨by rfl,?_⟩) ?_ ?_;rotate_left
              ·
               intro w'
               go_simp
               with_reducible rfl
              rotate_left
              ·
               simp only [Act.put,zi,zj,zk,zG,zH]
               rfl
              refine take_ (i:=11) (N:=some 85) (v:=?_) (a':=?_) (bm_ 12 17) rfl rfl (yo HT_.out HW_.out (by kernel_rfl)) (fun _ _ _ h => h) (Or.inl ⟨by rfl,?_⟩) hHeld ?_ ?_;rotate_left
              ·
               rintro w' ⟨s0,s1,s2,s3⟩
               go_simp
               with_reducible rfl
              rotate_left
              ·
               simp only [Act.put,zi,zj,zk,zG,zH]
               rfl
              refine take_ (i:=12) (N:=some 86) (v:=?_) (a':=?_) (bm_ 13 17) rfl rfl (yo HT_.out HW_.out (by kernel_rfl)) (fun _ _ _ h => h) (Or.inl ⟨by rfl,?_⟩) hHeld ?_ ?_;rotate_left
              ·
               rintro w' ⟨s0,s1,s2,s3⟩
               go_simp
               with_reducible rfl
              rotate_left
              ·
               simp only [Act.put,zi,zj,zk,zG,zH]
               rfl
              refine one_ (i:=13) (N:=some 87) (bm_ 14 17) rfl rfl (one_of HT_.out (by kernel_rfl)) (by decide) (fun K hK => ?_);refine goes_ Try.func58 (by kernel_rfl) rfl #[.agg #[.string ((rd_T51 t245 (ji66)).f0),.int .i64 ((rd_T51 t245 (ji66)).f1)],.agg #[.string ((rd_T51 t245 x69_3).f0),.int .i64 ((rd_T51 t245 x69_3).f1)]] (by rfl) rfl rfl (by (try simp only [zt,zu,zv]);first|done|(simp only [hji66];rfl)|rfl|(simp only [zw,zx];rfl)|(simp only [yr,ys,zV,zW];rfl)) ?_
              with_reducible refine (Fr.calls k3  ((rd_T51 t245 (ji66)).f0) ((rd_T51 t245 (ji66)).f1) ((rd_T51 t245 x69_3).f0) ((rd_T51 t245 x69_3).f1) t252 _ A69.out).mono ?_
              rintro e w84 ⟨rfl,hb⟩;have HS2_:=(hb.cell (zl _ _ (hHeld.2.2.1))).trans (hHeld.2.2.1);have HS3_:=(hb.cell (zl _ _ (hHeld.2.2.2))).trans (hHeld.2.2.2);refine ⟨_,rfl,?_⟩;replace HO_6:=zh (yg (by (with_reducible repeat (first|apply zm|apply zn|apply zo));exact HO_6.out) hb);replace HO_67:=zh (yg (by (with_reducible repeat (first|apply zm|apply zn|apply zo));exact HO_67.out) hb);replace BK229:=zh (cD BK229.out (by (with_reducible repeat first|apply ze|apply zf|apply zg);exact BK229.out) hb);replace BK249:=zh (cD BK249.out (by (with_reducible repeat first|apply ze|apply zf|apply zg);exact BK249.out) hb);replace HB:=zh (zC (by repeat (with_reducible first|exact HB.out|apply za|apply zb|apply zc|refine zd ?_ GE229.out|refine zd ?_ GE249.out)) hb);(try clear hb);(try clear hb2);(try clear hk);(try clear hi);refine hK.out _ _ ⟨(zz BK249.out 0).trans rfl,(zz BK249.out 1).trans rfl,HS2_,HS3_⟩ (fun hHeld => ?_);clear hK K;refine norm_ (a':=?_) ?_ ?_;rotate_left
              ·
               show Act.put _ (some 87) _=_
               simp only [Act.put,zi,zj,zk,zG,zH]
               rfl
              refine pure_ (i:=14) (N:=some 88) (v:=?_) (a':=?_) (bm_ 15 17) rfl rfl (any_of HT_.out (by kernel_rfl)) (fun _ _ _ h => h) (Or.inl ⟨by rfl,?_⟩) ?_ ?_;rotate_left
              ·
               intro w'
               go_simp
               with_reducible rfl
              rotate_left
              ·
               simp only [Act.put,zi,zj,zk,zG,zH]
               rfl
              refine pure_ (i:=15) (N:=some 89) (v:=?_) (a':=?_) (bm_ 16 17) rfl rfl (any_of HT_.out (by kernel_rfl)) (fun _ _ _ h => h) (Or.inl ⟨by rfl,?_⟩) ?_ ?_;rotate_left
              ·
               intro w'
               go_simp
               with_reducible rfl
              rotate_left
              ·
               simp only [Act.put,zi,zj,zk,zG,zH]
               rfl
              refine pure_ (i:=16) (N:=some 90) (v:=?_) (a':=?_) (bm_ 17 17) rfl rfl (any_of HT_.out (by kernel_rfl)) (fun _ _ _ h => h) (Or.inl ⟨by rfl,?_⟩) ?_ ?_;rotate_left
              ·
               intro w'
               go_simp
               with_reducible rfl
              rotate_left
              ·
               simp only [Act.put,zi,zj,zk,zG,zH]
               rfl
              refine done_ (done_of HT_.out (by kernel_rfl)) ?_
              try go_wp2
              go_roundg k3
              case measure => have:=HJ1.out;have:=HK2.out;have:=HK3.out;omega
              case rel => exact ⟨(wrap64 (x69_3 + 1)),(by first|rfl|(simp;done)|(simp [*];done)),H',⟨by have:=HJ1.out;have:=HK2.out;have:=HK3.out;omega⟩,⟨by (with_reducible repeat (first|apply zm|apply zn|apply zo));exact zM HO_6.out (fun _ hk => trivial)⟩,⟨by (with_reducible repeat (first|apply zm|apply zn|apply zo));exact zM HO_67.out (fun _ hk => trivial)⟩,⟨by (with_reducible repeat first|apply ze|apply zf|apply zg);exact BK229.out⟩,⟨by repeat (with_reducible first|exact HB.out|apply za|apply zb|apply zc|refine zd ?_ GE229.out|refine zd ?_ GE249.out)⟩⟩
             rw [if_neg c68] at H;exact absurd H (by simp)
            rw [if_neg c67] at H;exact absurd H (by simp)
           rw [if_neg c65] at H;have c65b0 : decide (0<x69_3)=false:=decide_eq_false c65;clear c65;have H':=zh H;clear H;have p248 : 0≤(x69_3 : Int):=zy (by first|(with_reducible assumption)|assumption);have q248 : x69_3<(t245.length : Int):=zy (by first|(with_reducible assumption)|assumption);obtain ⟨ad248,e248,hx248_0,hx248_1⟩:=at_T51 (yh HO_67.out).2.2 x69_3 p248 q248
           cases e248
           replace p248:=eq_true p248;replace q248:=eq_true q248
           try go_wp2_with (first|((with_reducible refine zK (N:=8) rfl ?_);(try (refine yy (by rfl) ?_;dsimp only));refine zI ?hg (N:=8) ?hd (cs:=#[.string (⟨#[]⟩ : ByteArray),.int .i64 0]) (t:=51) ?hr ?_;(case hd|hg => rfl);(case hr => go_simp <;> rfl);intro gb249 hg w85 hbox hb;replace HO_6:=zh (yg (Kd.R_elderB (by (with_reducible repeat (first|apply zm|apply zn|apply zo));exact HO_6.out) gb249 (Nat.le_of_eq hg.symm)) hb);replace HO_67:=zh (yg (Kd.R_elderB (by (with_reducible repeat (first|apply zm|apply zn|apply zo));exact HO_67.out) gb249 (Nat.le_of_eq hg.symm)) hb);have BK249:=zh (hbox);have hH_:=cH (by repeat (with_reducible first|exact HB.out|apply za|apply zb|apply zc|refine zd ?_ GE229.out)) hb hg;have GW249:=zh hH_.1;have GE249:=GW249;replace HB:=zh hH_.2;have NB229_249:=zh ((by rw [hg];exact yc (yi (g:=gb229) (o:=.cells #[.slice A0_0 l0_0.length c0_0,.int .i64 a0_1] 35 (0,0)) (by (with_reducible repeat first|apply ze|apply zf|apply zg);exact BK229.out)) : gb229≠gb249));have NB249_229:=zh NB229_249.out.symm;replace BK229:=zh (cD BK229.out (by (with_reducible repeat first|apply ze|apply zf|apply zg);exact BK229.out) hb);clear hb hbox hg hH_;have hnb86:=NB249_229.out;have hnc86:=NB229_249.out;obtain ⟨hcz87_0,hcz87_1,hfz87_0,hfz87_1⟩:=cB2 BK249.out))
           have n0_ : Aside0 (Kd.R k51 51 ((w85.setCell ⟨gb249,0,none⟩ (.string ((rd_T51 t245 x69_3).f0))).setCell ⟨gb249,1,none⟩ (.int .i64 ((rd_T51 t245 x69_3).f1))) w.heap.size (fun k_ => k_≠gb249) (.slice (some ad248) t245.length co59) t245):=⟨by (with_reducible repeat (first|apply zm|apply zn|apply zo));exact zM (zE (p:=⟨gb249,1,none⟩) (zE (p:=⟨gb249,0,none⟩) (zM HO_6.out (fun k_ hk => (⟨hk,hk.2⟩ : _∧k_≠gb249))) (fun _ hk => hk.2) (.string ((rd_T51 t245 x69_3).f0))) (fun _ hk => hk.2) (.int .i64 ((rd_T51 t245 x69_3).f1))) (fun _ hk => hk.1.2)⟩;have n1_ : Aside0 (Kd.R k51 51 ((w85.setCell ⟨gb249,0,none⟩ (.string ((rd_T51 t245 x69_3).f0))).setCell ⟨gb249,1,none⟩ (.int .i64 ((rd_T51 t245 x69_3).f1))) w.heap.size (fun k_ => k_≠gb249) (.slice (some ad248) t245.length co59) t245):=⟨by (with_reducible repeat (first|apply zm|apply zn|apply zo));exact zM (zE (p:=⟨gb249,1,none⟩) (zE (p:=⟨gb249,0,none⟩) (zM HO_67.out (fun k_ hk => (⟨hk,hk.2⟩ : _∧k_≠gb249))) (fun _ hk => hk.2) (.string ((rd_T51 t245 x69_3).f0))) (fun _ hk => hk.2) (.int .i64 ((rd_T51 t245 x69_3).f1))) (fun _ hk => hk.1.2)⟩;have n2_ : Aside0 (((w85.setCell ⟨gb249,0,none⟩ (.string ((rd_T51 t245 x69_3).f0))).setCell ⟨gb249,1,none⟩ (.int .i64 ((rd_T51 t245 x69_3).f1))).heap[gb229]? = some (.cells #[.slice A0_0 l0_0.length c0_0,.int .i64 a0_1] 35 (0,0))):=⟨by (with_reducible repeat first|apply ze|apply zf|apply zg);refine cS2 ?_ NB229_249.out;(with_reducible repeat first|apply ze|apply zf|apply zg);exact BK229.out⟩;have n3_ : Aside0 (((w85.setCell ⟨gb249,0,none⟩ (.string ((rd_T51 t245 x69_3).f0))).setCell ⟨gb249,1,none⟩ (.int .i64 ((rd_T51 t245 x69_3).f1))).heap[gb249]? = some (.cells #[.string ((rd_T51 t245 x69_3).f0),.int .i64 ((rd_T51 t245 x69_3).f1)] 51 (0,0))):=⟨by (with_reducible repeat first|apply ze|apply zf|apply zg);refine zL (cs:=#[.string ((rd_T51 t245 x69_3).f0),.int .i64 0]) ?_ 1 _ rfl;(with_reducible repeat first|apply ze|apply zf|apply zg);refine zL (cs:=#[.string (⟨#[]⟩ : ByteArray),.int .i64 0]) ?_ 0 _ rfl;(with_reducible repeat first|apply ze|apply zf|apply zg);exact BK249.out⟩;have n4_ : Aside0 (Below w.heap.size w ((w85.setCell ⟨gb249,0,none⟩ (.string ((rd_T51 t245 x69_3).f0))).setCell ⟨gb249,1,none⟩ (.int .i64 ((rd_T51 t245 x69_3).f1)))):=⟨by repeat (with_reducible first|exact HB.out|apply za|apply zb|apply zc|refine zd ?_ GE229.out|refine zd ?_ GE249.out)⟩;(try clear HO_6);(try clear HO_67);(try clear BK229);(try clear BK249);(try clear HB);generalize ((w85.setCell ⟨gb249,0,none⟩ (.string ((rd_T51 t245 x69_3).f0))).setCell ⟨gb249,1,none⟩ (.int .i64 ((rd_T51 t245 x69_3).f1)))=w88 at n0_ n1_ n2_ n3_ n4_ ⊢;have HO_6:=n0_;have HO_67:=n1_;have BK229:=n2_;have BK249:=n3_;have HB:=n4_;clear n0_ n1_ n2_ n3_ n4_;replace HO_6:=zh (zo HO_6.out);replace HO_67:=zh (zo HO_67.out);replace BK229:=zh (zf BK229.out);replace BK249:=zh (zf BK249.out);replace HB:=zh (zc HB.out);refine start_ (n:=17) (S:=fun w' => w'.cell? ⟨gb249,0,none⟩=some (.string ((rd_T51 t245 x69_3).f0))∧w'.cell? ⟨gb249,1,none⟩=some (.int .i64 ((rd_T51 t245 x69_3).f1))) (ds:=[]) (bm_ 0 17) (by kernel_rfl) rfl rfl ⟨(zz BK249.out 0).trans rfl,(zz BK249.out 1).trans rfl⟩ (fun hHeld => ?_);refine with_tabW F4.tab15 F4.bits15 (fun HT_ HW_ => ?_);generalize w88.drew=w89 at HO_6 HO_67 BK229 BK249 HB hHeld ⊢;refine take_ (i:=0) (N:=some 74) (v:=?_) (a':=?_) (bm_ 1 17) rfl rfl (yo HT_.out HW_.out (by kernel_rfl)) (fun _ _ _ h => h) (Or.inl ⟨by rfl,?_⟩) hHeld ?_ ?_;rotate_left
           ·
            rintro w' ⟨s0,s1⟩
            go_simp
            with_reducible rfl
           rotate_left
           ·
            simp only [Act.put,zi,zj,zk,zG,zH]
            rfl
           refine one_ (i:=1) (N:=some 75) (bm_ 2 17) rfl rfl (one_of HT_.out (by kernel_rfl)) (by decide) (fun K hK => ?_);refine goes_ Try.func44 (by kernel_rfl) rfl #[.agg #[.string ((rd_T51 t245 x69_3).f0),.int .i64 ((rd_T51 t245 x69_3).f1)]] (by rfl) rfl rfl (by (try simp only [zt,zu,zv]);first|done|rfl|(simp only [zw,zx];rfl)|(simp only [yr,ys,zV,zW];rfl)) ?_
           with_reducible refine (F0c.calls  ((rd_T51 t245 x69_3).f0) ((rd_T51 t245 x69_3).f1) true _ A63.out).mono ?_
           rintro e w90 ⟨rfl,hb⟩;refine ⟨_,rfl,?_⟩;replace HO_6:=zh (yg (by (with_reducible repeat (first|apply zm|apply zn|apply zo));exact HO_6.out) hb);replace HO_67:=zh (yg (by (with_reducible repeat (first|apply zm|apply zn|apply zo));exact HO_67.out) hb);replace BK229:=zh (cD BK229.out (by (with_reducible repeat first|apply ze|apply zf|apply zg);exact BK229.out) hb);replace BK249:=zh (cD BK249.out (by (with_reducible repeat first|apply ze|apply zf|apply zg);exact BK249.out) hb);replace HB:=zh (zC (by repeat (with_reducible first|exact HB.out|apply za|apply zb|apply zc|refine zd ?_ GE229.out|refine zd ?_ GE249.out)) hb);(try clear hb);(try clear hb2);(try clear hk);(try clear hi);refine hK.out _ _ ⟨(zz BK249.out 0).trans rfl,(zz BK249.out 1).trans rfl⟩ (fun hHeld => ?_);clear hK K;refine norm_ (a':=?_) ?_ ?_;rotate_left
           ·
            show Act.put _ (some 75) _=_
            simp only [Act.put,zi,zj,zk,zG,zH]
            rfl
           refine pure_ (i:=2) (N:=some 76) (v:=?_) (a':=?_) (bm_ 3 17) rfl rfl (any_of HT_.out (by kernel_rfl)) (fun _ _ _ h => h) (Or.inl ⟨by rfl,?_⟩) ?_ ?_;rotate_left
           ·
            intro w'
            go_simp
            with_reducible rfl
           rotate_left
           ·
            simp only [Act.put,zi,zj,zk,zG,zH]
            rfl
           refine pure_ (i:=3) (N:=some 77) (v:=?_) (a':=?_) (bm_ 4 17) rfl rfl (any_of HT_.out (by kernel_rfl)) (fun _ _ _ h => h) (Or.inl ⟨by rfl,?_⟩) ?_ ?_;rotate_left
           ·
            intro w'
            go_simp
            with_reducible rfl
           rotate_left
           ·
            simp only [Act.put,zi,zj,zk,zG,zH]
            rfl
           refine pure_ (i:=4) (N:=some 78) (v:=?_) (a':=?_) (bm_ 5 17) rfl rfl (any_of HT_.out (by kernel_rfl)) (fun _ _ _ h => h) (Or.inl ⟨by rfl,?_⟩) ?_ ?_;rotate_left
           ·
            intro w'
            go_simp
            with_reducible rfl
           rotate_left
           ·
            simp only [Act.put,zi,zj,zk,zG,zH]
            rfl
           refine pure_ (i:=5) (N:=some 79) (v:=?_) (a':=?_) (bm_ 6 17) rfl rfl (any_of HT_.out (by kernel_rfl)) (fun _ _ _ h => h) (Or.inl ⟨by rfl,?_⟩) ?_ ?_;rotate_left
           ·
            intro w'
            go_simp
            with_reducible rfl
           rotate_left
           ·
            simp only [Act.put,zi,zj,zk,zG,zH]
            rfl
           refine pure_ (i:=6) (N:=some 80) (v:=?_) (a':=?_) (bm_ 7 17) rfl rfl (any_of HT_.out (by kernel_rfl)) (fun _ _ _ h => h) (Or.inl ⟨by rfl,?_⟩) ?_ ?_;rotate_left
           ·
            intro w'
            go_simp
            with_reducible rfl
           rotate_left
           ·
            simp only [Act.put,zi,zj,zk,zG,zH]
            rfl
           refine pure_ (i:=7) (N:=some 81) (v:=undef) (a':=?_) (bm_ 8 17) rfl rfl (any_of HT_.out (by kernel_rfl)) (fun _ _ _ h => h) (Or.inr ⟨by rfl,rfl⟩) ?_ ?_;rotate_left
           ·
            simp only [Act.put,zi,zj,zk,zG,zH]
            rfl
           refine pure_ (i:=8) (N:=some 82) (v:=undef) (a':=?_) (bm_ 9 17) rfl rfl (any_of HT_.out (by kernel_rfl)) (fun _ _ _ h => h) (Or.inr ⟨by rfl,rfl⟩) ?_ ?_;rotate_left
           ·
            simp only [Act.put,zi,zj,zk,zG,zH]
            rfl
           refine pure_ (i:=9) (N:=some 83) (v:=undef) (a':=?_) (bm_ 10 17) rfl rfl (any_of HT_.out (by kernel_rfl)) (fun _ _ _ h => h) (Or.inr ⟨by rfl,rfl⟩) ?_ ?_;rotate_left
           ·
            simp only [Act.put,zi,zj,zk,zG,zH]
            rfl
           refine pure_ (i:=10) (N:=some 84) (v:=undef) (a':=?_) (bm_ 11 17) rfl rfl (any_of HT_.out (by kernel_rfl)) (fun _ _ _ h => h) (Or.inr ⟨by rfl,rfl⟩) ?_ ?_;rotate_left
           ·
            simp only [Act.put,zi,zj,zk,zG,zH]
            rfl
           refine pure_ (i:=11) (N:=some 85) (v:=undef) (a':=?_) (bm_ 12 17) rfl rfl (any_of HT_.out (by kernel_rfl)) (fun _ _ _ h => h) (Or.inr ⟨by rfl,rfl⟩) ?_ ?_;rotate_left
           ·
            simp only [Act.put,zi,zj,zk,zG,zH]
            rfl
           refine pure_ (i:=12) (N:=some 86) (v:=undef) (a':=?_) (bm_ 13 17) rfl rfl (any_of HT_.out (by kernel_rfl)) (fun _ _ _ h => h) (Or.inr ⟨by rfl,rfl⟩) ?_ ?_;rotate_left
           ·
            simp only [Act.put,zi,zj,zk,zG,zH]
            rfl
           refine pure_ (i:=13) (N:=some 87) (v:=undef) (a':=?_) (bm_ 14 17) rfl rfl (any_of HT_.out (by kernel_rfl)) (fun _ _ _ h => h) (Or.inr ⟨by rfl,rfl⟩) ?_ ?_;rotate_left
           ·
            simp only [Act.put,zi,zj,zk,zG,zH]
            rfl
           refine pure_ (i:=14) (N:=some 88) (v:=undef) (a':=?_) (bm_ 15 17) rfl rfl (any_of HT_.out (by kernel_rfl)) (fun _ _ _ h => h) (Or.inr ⟨by rfl,rfl⟩) ?_ ?_;rotate_left
           ·
            simp only [Act.put,zi,zj,zk,zG,zH]
            rfl
           refine pure_ (i:=15) (N:=some 89) (v:=?_) (a':=?_) (bm_ 16 17) rfl rfl (any_of HT_.out (by kernel_rfl)) (fun _ _ _ h => h) (Or.inl ⟨by rfl,?_⟩) ?_ ?_;rotate_left
           ·
            intro w'
            go_simp
            with_reducible rfl
           rotate_left
           ·
            simp only [Act.put,zi,zj,zk,zG,zH]
            rfl
           refine pure_ (i:=16) (N:=some 90) (v:=?_) (a':=?_) (bm_ 17 17) rfl rfl (any_of HT_.out (by kernel_rfl)) (fun _ _ _ h => h) (Or.inl ⟨by rfl,?_⟩) ?_ ?_;rotate_left
           ·
            intro w'
            go_simp
            with_reducible rfl
           rotate_left
           ·
            simp only [Act.put,zi,zj,zk,zG,zH]
            rfl
           refine done_ (done_of HT_.out (by kernel_rfl)) ?_
           try go_wp2
           go_roundg k3
           case measure => have:=HJ1.out;have:=HK2.out;have:=HK3.out;omega
           case rel => exact ⟨(wrap64 (x69_3 + 1)),(by first|rfl|(simp;done)|(simp [*];done)),H',⟨by have:=HJ1.out;have:=HK2.out;have:=HK3.out;omega⟩,⟨by (with_reducible repeat (first|apply zm|apply zn|apply zo));exact zM HO_6.out (fun _ hk => trivial)⟩,⟨by (with_reducible repeat (first|apply zm|apply zn|apply zo));exact zM HO_67.out (fun _ hk => trivial)⟩,⟨by (with_reducible repeat first|apply ze|apply zf|apply zg);exact BK229.out⟩,⟨by repeat (with_reducible first|exact HB.out|apply za|apply zb|apply zc|refine zd ?_ GE229.out|refine zd ?_ GE249.out)⟩⟩
          replace c64:=yb.mpr c64;subst c64;have H1 : (some false)=some r:=by rw [if_neg (show ¬ (false=true) by decide)] at H;exact H
          clear H;have H:=H1;clear H1;obtain rfl:=zU H;have p248 : 0≤(x69_3 : Int):=zy (by first|(with_reducible assumption)|assumption);have q248 : x69_3<(t245.length : Int):=zy (by first|(with_reducible assumption)|assumption);obtain ⟨ad248,e248,hx248_0,hx248_1⟩:=at_T51 (yh HO_67.out).2.2 x69_3 p248 q248
          cases e248
          replace p248:=eq_true p248;replace q248:=eq_true q248
          try go_wp2_with (first|((with_reducible refine zK (N:=8) rfl ?_);(try (refine yy (by rfl) ?_;dsimp only));refine zI ?hg (N:=8) ?hd (cs:=#[.string (⟨#[]⟩ : ByteArray),.int .i64 0]) (t:=51) ?hr ?_;(case hd|hg => rfl);(case hr => go_simp <;> rfl);intro gb249 hg w91 hbox hb;replace HO_6:=zh (yg (Kd.R_elderB (by (with_reducible repeat (first|apply zm|apply zn|apply zo));exact HO_6.out) gb249 (Nat.le_of_eq hg.symm)) hb);replace HO_67:=zh (yg (Kd.R_elderB (by (with_reducible repeat (first|apply zm|apply zn|apply zo));exact HO_67.out) gb249 (Nat.le_of_eq hg.symm)) hb);have BK249:=zh (hbox);have hH_:=cH (by repeat (with_reducible first|exact HB.out|apply za|apply zb|apply zc|refine zd ?_ GE229.out)) hb hg;have GW249:=zh hH_.1;have GE249:=GW249;replace HB:=zh hH_.2;have NB229_249:=zh ((by rw [hg];exact yc (yi (g:=gb229) (o:=.cells #[.slice A0_0 l0_0.length c0_0,.int .i64 a0_1] 35 (0,0)) (by (with_reducible repeat first|apply ze|apply zf|apply zg);exact BK229.out)) : gb229≠gb249));have NB249_229:=zh NB229_249.out.symm;replace BK229:=zh (cD BK229.out (by (with_reducible repeat first|apply ze|apply zf|apply zg);exact BK229.out) hb);clear hb hbox hg hH_;have hnb92:=NB249_229.out;have hnc92:=NB229_249.out;obtain ⟨hcz93_0,hcz93_1,hfz93_0,hfz93_1⟩:=cB2 BK249.out))
          have n0_ : Aside0 (Kd.R k51 51 ((w91.setCell ⟨gb249,0,none⟩ (.string ((rd_T51 t245 x69_3).f0))).setCell ⟨gb249,1,none⟩ (.int .i64 ((rd_T51 t245 x69_3).f1))) w.heap.size (fun k_ => k_≠gb249) (.slice (some ad248) t245.length co59) t245):=⟨by (with_reducible repeat (first|apply zm|apply zn|apply zo));exact zM (zE (p:=⟨gb249,1,none⟩) (zE (p:=⟨gb249,0,none⟩) (zM HO_6.out (fun k_ hk => (⟨hk,hk.2⟩ : _∧k_≠gb249))) (fun _ hk => hk.2) (.string ((rd_T51 t245 x69_3).f0))) (fun _ hk => hk.2) (.int .i64 ((rd_T51 t245 x69_3).f1))) (fun _ hk => hk.1.2)⟩;have n1_ : Aside0 (Kd.R k51 51 ((w91.setCell ⟨gb249,0,none⟩ (.string ((rd_T51 t245 x69_3).f0))).setCell ⟨gb249,1,none⟩ (.int .i64 ((rd_T51 t245 x69_3).f1))) w.heap.size (fun k_ => k_≠gb249) (.slice (some ad248) t245.length co59) t245):=⟨by (with_reducible repeat (first|apply zm|apply zn|apply zo));exact zM (zE (p:=⟨gb249,1,none⟩) (zE (p:=⟨gb249,0,none⟩) (zM HO_67.out (fun k_ hk => (⟨hk,hk.2⟩ : _∧k_≠gb249))) (fun _ hk => hk.2) (.string ((rd_T51 t245 x69_3).f0))) (fun _ hk => hk.2) (.int .i64 ((rd_T51 t245 x69_3).f1))) (fun _ hk => hk.1.2)⟩;have n2_ : Aside0 (((w91.setCell ⟨gb249,0,none⟩ (.string ((rd_T51 t245 x69_3).f0))).setCell ⟨gb249,1,none⟩ (.int .i64 ((rd_T51 t245 x69_3).f1))).heap[gb229]? = some (.cells #[.slice A0_0 l0_0.length c0_0,.int .i64 a0_1] 35 (0,0))):=⟨by (with_reducible repeat first|apply ze|apply zf|apply zg);refine cS2 ?_ NB229_249.out;(with_reducible repeat first|apply ze|apply zf|apply zg);exact BK229.out⟩;have n3_ : Aside0 (((w91.setCell ⟨gb249,0,none⟩ (.string ((rd_T51 t245 x69_3).f0))).setCell ⟨gb249,1,none⟩ (.int .i64 ((rd_T51 t245 x69_3).f1))).heap[gb249]? = some (.cells #[.string ((rd_T51 t245 x69_3).f0),.int .i64 ((rd_T51 t245 x69_3).f1)] 51 (0,0))):=⟨by (with_reducible repeat first|apply ze|apply zf|apply zg);refine zL (cs:=#[.string ((rd_T51 t245 x69_3).f0),.int .i64 0]) ?_ 1 _ rfl;(with_reducible repeat first|apply ze|apply zf|apply zg);refine zL (cs:=#[.string (⟨#[]⟩ : ByteArray),.int .i64 0]) ?_ 0 _ rfl;(with_reducible repeat first|apply ze|apply zf|apply zg);exact BK249.out⟩;have n4_ : Aside0 (Below w.heap.size w ((w91.setCell ⟨gb249,0,none⟩ (.string ((rd_T51 t245 x69_3).f0))).setCell ⟨gb249,1,none⟩ (.int .i64 ((rd_T51 t245 x69_3).f1)))):=⟨by repeat (with_reducible first|exact HB.out|apply za|apply zb|apply zc|refine zd ?_ GE229.out|refine zd ?_ GE249.out)⟩;(try clear HO_6);(try clear HO_67);(try clear BK229);(try clear BK249);(try clear HB);generalize ((w91.setCell ⟨gb249,0,none⟩ (.string ((rd_T51 t245 x69_3).f0))).setCell ⟨gb249,1,none⟩ (.int .i64 ((rd_T51 t245 x69_3).f1)))=w94 at n0_ n1_ n2_ n3_ n4_ ⊢;have HO_6:=n0_;have HO_67:=n1_;have BK229:=n2_;have BK249:=n3_;have HB:=n4_;clear n0_ n1_ n2_ n3_ n4_;replace HO_6:=zh (zo HO_6.out);replace HO_67:=zh (zo HO_67.out);replace BK229:=zh (zf BK229.out);replace BK249:=zh (zf BK249.out);replace HB:=zh (zc HB.out);refine start_ (n:=17) (S:=fun w' => w'.cell? ⟨gb249,0,none⟩=some (.string ((rd_T51 t245 x69_3).f0))∧w'.cell? ⟨gb249,1,none⟩=some (.int .i64 ((rd_T51 t245 x69_3).f1))) (ds:=[]) (bm_ 0 17) (by kernel_rfl) rfl rfl ⟨(zz BK249.out 0).trans rfl,(zz BK249.out 1).trans rfl⟩ (fun hHeld => ?_);refine with_tabW F4.tab15 F4.bits15 (fun HT_ HW_ => ?_);generalize w94.drew=w95 at HO_6 HO_67 BK229 BK249 HB hHeld ⊢;refine take_ (i:=0) (N:=some 74) (v:=?_) (a':=?_) (bm_ 1 17) rfl rfl (yo HT_.out HW_.out (by kernel_rfl)) (fun _ _ _ h => h) (Or.inl ⟨by rfl,?_⟩) hHeld ?_ ?_;rotate_left
          ·
           rintro w' ⟨s0,s1⟩
           go_simp
           with_reducible rfl
          rotate_left
          ·
           simp only [Act.put,zi,zj,zk,zG,zH]
           rfl
          refine one_ (i:=1) (N:=some 75) (bm_ 2 17) rfl rfl (one_of HT_.out (by kernel_rfl)) (by decide) (fun K hK => ?_);refine goes_ Try.func44 (by kernel_rfl) rfl #[.agg #[.string ((rd_T51 t245 x69_3).f0),.int .i64 ((rd_T51 t245 x69_3).f1)]] (by rfl) rfl rfl (by (try simp only [zt,zu,zv]);first|done|rfl|(simp only [zw,zx];rfl)|(simp only [yr,ys,zV,zW];rfl)) ?_
          with_reducible refine (F0c.calls  ((rd_T51 t245 x69_3).f0) ((rd_T51 t245 x69_3).f1) false _ A63.out).mono ?_
          rintro e w96 ⟨rfl,hb⟩;refine ⟨_,rfl,?_⟩;replace HO_6:=zh (yg (by (with_reducible repeat (first|apply zm|apply zn|apply zo));exact HO_6.out) hb);replace HO_67:=zh (yg (by (with_reducible repeat (first|apply zm|apply zn|apply zo));exact HO_67.out) hb);replace BK229:=zh (cD BK229.out (by (with_reducible repeat first|apply ze|apply zf|apply zg);exact BK229.out) hb);replace BK249:=zh (cD BK249.out (by (with_reducible repeat first|apply ze|apply zf|apply zg);exact BK249.out) hb);replace HB:=zh (zC (by repeat (with_reducible first|exact HB.out|apply za|apply zb|apply zc|refine zd ?_ GE229.out|refine zd ?_ GE249.out)) hb);(try clear hb);(try clear hb2);(try clear hk);(try clear hi);refine hK.out _ _ ⟨(zz BK249.out 0).trans rfl,(zz BK249.out 1).trans rfl⟩ (fun hHeld => ?_);clear hK K;refine norm_ (a':=?_) ?_ ?_;rotate_left
          ·
           show Act.put _ (some 75) _=_
           simp only [Act.put,zi,zj,zk,zG,zH]
           rfl
          refine pure_ (i:=2) (N:=some 76) (v:=?_) (a':=?_) (bm_ 3 17) rfl rfl (any_of HT_.out (by kernel_rfl)) (fun _ _ _ h => h) (Or.inl ⟨by rfl,?_⟩) ?_ ?_;rotate_left
          ·
           intro w'
           go_simp
           with_reducible rfl
          rotate_left
          ·
           simp only [Act.put,zi,zj,zk,zG,zH]
           rfl
          refine pure_ (i:=3) (N:=some 77) (v:=?_) (a':=?_) (bm_ 4 17) rfl rfl (any_of HT_.out (by kernel_rfl)) (fun _ _ _ h => h) (Or.inl ⟨by rfl,?_⟩) ?_ ?_;rotate_left
          ·
           intro w'
           go_simp
           with_reducible rfl
          rotate_left
          ·
           simp only [Act.put,zi,zj,zk,zG,zH]
           rfl
          refine pure_ (i:=4) (N:=some 78) (v:=undef) (a':=?_) (bm_ 5 17) rfl rfl (any_of HT_.out (by kernel_rfl)) (fun _ _ _ h => h) (Or.inr ⟨by rfl,rfl⟩) ?_ ?_;rotate_left
          ·
           simp only [Act.put,zi,zj,zk,zG,zH]
           rfl
          refine pure_ (i:=5) (N:=some 79) (v:=undef) (a':=?_) (bm_ 6 17) rfl rfl (any_of HT_.out (by kernel_rfl)) (fun _ _ _ h => h) (Or.inr ⟨by rfl,rfl⟩) ?_ ?_;rotate_left
          ·
           simp only [Act.put,zi,zj,zk,zG,zH]
           rfl
          refine pure_ (i:=6) (N:=some 80) (v:=undef) (a':=?_) (bm_ 7 17) rfl rfl (any_of HT_.out (by kernel_rfl)) (fun _ _ _ h => h) (Or.inr ⟨by rfl,rfl⟩) ?_ ?_;rotate_left
          ·
           simp only [Act.put,zi,zj,zk,zG,zH]
           rfl
          refine pure_ (i:=7) (N:=some 81) (v:=undef) (a':=?_) (bm_ 8 17) rfl rfl (any_of HT_.out (by kernel_rfl)) (fun _ _ _ h => h) (Or.inr ⟨by rfl,rfl⟩) ?_ ?_;rotate_left
          ·
           simp only [Act.put,zi,zj,zk,zG,zH]
           rfl
          refine pure_ (i:=8) (N:=some 82) (v:=undef) (a':=?_) (bm_ 9 17) rfl rfl (any_of HT_.out (by kernel_rfl)) (fun _ _ _ h => h) (Or.inr ⟨by rfl,rfl⟩) ?_ ?_;rotate_left
          ·
           simp only [Act.put,zi,zj,zk,zG,zH]
           rfl
          refine pure_ (i:=9) (N:=some 83) (v:=undef) (a':=?_) (bm_ 10 17) rfl rfl (any_of HT_.out (by kernel_rfl)) (fun _ _ _ h => h) (Or.inr ⟨by rfl,rfl⟩) ?_ ?_;rotate_left
          ·
           simp only [Act.put,zi,zj,zk,zG,zH]
           rfl
          refine pure_ (i:=10) (N:=some 84) (v:=undef) (a':=?_) (bm_ 11 17) rfl rfl (any_of HT_.out (by kernel_rfl)) (fun _ _ _ h => h) (Or.inr ⟨by rfl,rfl⟩) ?_ ?_;rotate_left
          ·
           simp only [Act.put,zi,zj,zk,zG,zH]
           rfl
          refine pure_ (i:=11) (N:=some 85) (v:=undef) (a':=?_) (bm_ 12 17) rfl rfl (any_of HT_.out (by kernel_rfl)) (fun _ _ _ h => h) (Or.inr ⟨by rfl,rfl⟩) ?_ ?_;rotate_left
          ·
           simp only [Act.put,zi,zj,zk,zG,zH]
           rfl
          refine pure_ (i:=12) (N:=some 86) (v:=undef) (a':=?_) (bm_ 13 17) rfl rfl (any_of HT_.out (by kernel_rfl)) (fun _ _ _ h => h) (Or.inr ⟨by rfl,rfl⟩) ?_ ?_;rotate_left
          ·
           simp only [Act.put,zi,zj,zk,zG,zH]
           rfl
          refine pure_ (i:=13) (N:=some 87) (v:=undef) (a':=?_) (bm_ 14 17) rfl rfl (any_of HT_.out (by kernel_rfl)) (fun _ _ _ h => h) (Or.inr ⟨by rfl,rfl⟩) ?_ ?_;rotate_left
          ·
           simp only [Act.put,zi,zj,zk,zG,zH]
           rfl
          refine pure_ (i:=14) (N:=some 88) (v:=undef) (a':=?_) (bm_ 15 17) rfl rfl (any_of HT_.out (by kernel_rfl)) (fun _ _ _ h => h) (Or.inr ⟨by rfl,rfl⟩) ?_ ?_;rotate_left
          ·
           simp only [Act.put,zi,zj,zk,zG,zH]
           rfl
          refine pure_ (i:=15) (N:=some 89) (v:=undef) (a':=?_) (bm_ 16 17) rfl rfl (any_of HT_.out (by kernel_rfl)) (fun _ _ _ h => h) (Or.inr ⟨by rfl,rfl⟩) ?_ ?_;rotate_left
          ·
           simp only [Act.put,zi,zj,zk,zG,zH]
           rfl
          refine pure_ (i:=16) (N:=some 90) (v:=?_) (a':=?_) (bm_ 17 17) rfl rfl (any_of HT_.out (by kernel_rfl)) (fun _ _ _ h => h) (Or.inl ⟨by rfl,?_⟩) ?_ ?_;rotate_left
          ·
           intro w'
           go_simp
           with_reducible rfl
          rotate_left
          ·
           simp only [Act.put,zi,zj,zk,zG,zH]
           rfl
          refine done_ (done_of HT_.out (by kernel_rfl)) ?_
          try go_wp2
          go_ret
          exact ⟨by first|rfl|(simp [yt,yu] <;> rfl)|(simp [*,yt,yu] <;> rfl),by repeat (with_reducible first|exact HB.out|apply za|apply zb|apply zc|refine zd ?_ GE229.out|refine zd ?_ GE249.out)⟩
         rw [if_neg c62] at H;exact absurd H (by simp)
        rw [if_neg c61] at H;exact absurd H (by simp)
       rw [if_neg c60] at H;have c60b0 : decide (x69_3<(t245.length : Int))=false:=decide_eq_false c60;clear c60;obtain rfl:=zU H
       go_wp2
       go_ret
       exact ⟨by first|rfl|(simp [yt,yu] <;> rfl)|(simp [*,yt,yu] <;> rfl),by repeat (with_reducible first|exact HB.out|apply za|apply zb|apply zc|refine zd ?_ GE229.out)⟩

end Go.Proofs.Ytamikhmpfmgofaa.Q
end
section
namespace Go.Proofs.Ytamikhmpfmgofaa.Q
open Go.RowKit Go.Proofs.YtamikhmpfmgofaaW.PrintWords Go.Proofs.YtamikhmpfmgofaaW.PrintLast Go.Proofs.YtamikhmpfmgofaaW.PrintMore
attribute [local go_sem] max2_int min2_int max_two min_two max_three min_three max_four min_four max2_str min2_str str_geq str_gtr str_leq
set_option linter.unusedVariables false
set_option linter.unusedSimpArgs false

def F0e.f (a0_0 : ByteArray) (a0_1 : ByteArray) (a0_2 : Bool) (a1 : ByteArray) : Option (Bool):=if ((Op.bytesLess a1.toList a0_0.toList)=true) then (some false) else (if a0_2=true then (some true) else (some (Op.bytesLess a1.toList a0_1.toList)))
set_option maxHeartbeats 8000000 in
set_option maxRecDepth 100000 in
theorem F0e.calls (a0_0 : ByteArray) (a0_1 : ByteArray) (a0_2 : Bool) (a1 : ByteArray) (r : Bool) (w : World) (h : F0e.f a0_0 a0_1 a0_2 a1=some r) :
  Calls Try.prog 35 #[.agg #[.string a0_0,.string a0_1,.bool a0_2],.string a1] w fun e w' => e = .returned (.bool r)∧Below w.heap.size w w':=by
 have hu37:=Try.underlying37;have HB:=zh (Below.refl w.heap.size w);have H : (if ((Op.bytesLess a1.toList a0_0.toList)=true) then (some false) else (if a0_2=true then (some true) else (some (Op.bytesLess a1.toList a0_1.toList))))=some r:=h;clear h
 by_cases c3 : ((Op.bytesLess a1.toList a0_0.toList)=true)
 ·
  rw [if_pos c3] at H
  have c3b0 : (Op.bytesLess a1.toList a0_0.toList)=true:=c3;clear c3;obtain rfl:=zU H
  go_enter Try.func35,Try.ntmps35
  go_wp2_with (first|((with_reducible refine zK (N:=2) rfl ?_);refine zI ?hg (N:=2) ?hd (cs:=#[.string a0_0,.string a0_1,.bool a0_2]) (t:=37) ?hr ?_;(case hd|hg => rfl);(case hr => go_simp <;> rfl);intro gb253 hg w4 hbox hb;have BK253:=zh (hbox);have hH_:=cH (by repeat (with_reducible first|exact HB.out|apply za|apply zb|apply zc)) hb hg;have GW253:=zh hH_.1;have GE253:=GW253;replace HB:=zh hH_.2;clear hb hbox hg hH_;obtain ⟨hcz5_0,hcz5_1,hcz5_2,hfz5_0,hfz5_1,hfz5_2⟩:=cB3 BK253.out))
  go_ret
  exact ⟨by first|rfl|(simp [yt,yu] <;> rfl)|(simp [*,yt,yu] <;> rfl),by repeat (with_reducible first|exact HB.out|apply za|apply zb|apply zc|refine zd ?_ GE253.out)⟩
 rw [if_neg c3] at H;have c3b0 : (Op.bytesLess a1.toList a0_0.toList)=false:=by simpa using c3
 clear c3
 by_cases c6 : a0_2=true
 ·
  subst c6
  have H1 : (some true)=some r:=by rw [if_pos rfl] at H;exact H
  clear H;have H:=H1;clear H1;obtain rfl:=zU H
  go_enter Try.func35,Try.ntmps35
  go_wp2_with (first|((with_reducible refine zK (N:=2) rfl ?_);refine zI ?hg (N:=2) ?hd (cs:=#[.string a0_0,.string a0_1,.bool true]) (t:=37) ?hr ?_;(case hd|hg => rfl);(case hr => go_simp <;> rfl);intro gb253 hg w7 hbox hb;have BK253:=zh (hbox);have hH_:=cH (by repeat (with_reducible first|exact HB.out|apply za|apply zb|apply zc)) hb hg;have GW253:=zh hH_.1;have GE253:=GW253;replace HB:=zh hH_.2;clear hb hbox hg hH_;obtain ⟨hcz8_0,hcz8_1,hcz8_2,hfz8_0,hfz8_1,hfz8_2⟩:=cB3 BK253.out))
  go_ret
  exact ⟨by first|rfl|(simp [yt,yu] <;> rfl)|(simp [*,yt,yu] <;> rfl),by repeat (with_reducible first|exact HB.out|apply za|apply zb|apply zc|refine zd ?_ GE253.out)⟩
 replace c6:=yb.mpr c6;subst c6;have H1 : (some (Op.bytesLess a1.toList a0_1.toList))=some r:=by rw [if_neg (show ¬ (false=true) by decide)] at H;exact H
 clear H;have H:=H1;clear H1;obtain rfl:=zU H
 go_enter Try.func35,Try.ntmps35
 go_wp2_with (first|((with_reducible refine zK (N:=2) rfl ?_);refine zI ?hg (N:=2) ?hd (cs:=#[.string a0_0,.string a0_1,.bool false]) (t:=37) ?hr ?_;(case hd|hg => rfl);(case hr => go_simp <;> rfl);intro gb253 hg w9 hbox hb;have BK253:=zh (hbox);have hH_:=cH (by repeat (with_reducible first|exact HB.out|apply za|apply zb|apply zc)) hb hg;have GW253:=zh hH_.1;have GE253:=GW253;replace HB:=zh hH_.2;clear hb hbox hg hH_;obtain ⟨hcz10_0,hcz10_1,hcz10_2,hfz10_0,hfz10_1,hfz10_2⟩:=cB3 BK253.out))
 go_ret
 exact ⟨by first|rfl|(simp [yt,yu] <;> rfl)|(simp [*,yt,yu] <;> rfl),by repeat (with_reducible first|exact HB.out|apply za|apply zb|apply zc|refine zd ?_ GE253.out)⟩


def F0b.f (a0_0 : ByteArray) (a0_1 : Int) (a1_0 : ByteArray) (a1_1 : ByteArray) (a1_2 : Bool) : Option (Bool):=(F0e.f a1_0 a1_1 a1_2 a0_0).bind fun t255 => (some (!t255))
set_option maxHeartbeats 8000000 in
set_option maxRecDepth 100000 in
theorem F0b.calls (a0_0 : ByteArray) (a0_1 : Int) (g1_0_ : Nat) (a1_0 : ByteArray) (a1_1 : ByteArray) (a1_2 : Bool) (r : Bool) (w : World) (hb1_0_ : w.heap[g1_0_]? = some (.cells #[.string a1_0,.string a1_1,.bool a1_2] 37 (0,0))) (h : F0b.f a0_0 a0_1 a1_0 a1_1 a1_2=some r) :
  Calls Try.prog 34 #[.agg #[.string a0_0,.int .i64 a0_1],.pointer (some ⟨g1_0_,0,none⟩)] w fun e w' => e = .returned (.bool r)∧Below w.heap.size w w':=by
 have hu51:=Try.underlying51;have hu37:=Try.underlying37;have BK910:=zh hb1_0_;clear hb1_0_;have HB:=zh (Below.refl w.heap.size w);have H : ((F0e.f a1_0 a1_1 a1_2 a0_0).bind fun t255 => (some (!t255)))=some r:=h;clear h;replace H:=zT.mp H;obtain ⟨t255,A30,H⟩:=H;replace H : (some (!t255))=some r:=H;have A3:=zh A30;clear A30;obtain rfl:=zU H
 go_enter Try.func34,Try.ntmps34
 go_wp2_with (first|((with_reducible refine zK (N:=2) rfl ?_);refine zI ?hg (N:=2) ?hd (cs:=#[.string a0_0,.int .i64 a0_1]) (t:=51) ?hr ?_;(case hd|hg => rfl);(case hr => go_simp <;> rfl);intro gb254 hg w4 hbox hb;have BK254:=zh (hbox);have hH_:=cH (by repeat (with_reducible first|exact HB.out|apply za|apply zb|apply zc|refine zd ?_ GE910.out)) hb hg;have GW254:=zh hH_.1;have GE254:=GW254;replace HB:=zh hH_.2;have NB910_254:=zh ((by rw [hg];exact yc (yi (g:=g1_0_) (o:=.cells #[.string a1_0,.string a1_1,.bool a1_2] 37 (0,0)) (by (with_reducible repeat first|apply ze|apply zf|apply zg);exact BK910.out)) : g1_0_≠gb254));have NB254_910:=zh ((by rw [hg];exact yd (yi (g:=g1_0_) (o:=.cells #[.string a1_0,.string a1_1,.bool a1_2] 37 (0,0)) (by (with_reducible repeat first|apply ze|apply zf|apply zg);exact BK910.out)) : gb254≠g1_0_));replace BK910:=zh (zD (g:=g1_0_) (o:=.cells #[.string a1_0,.string a1_1,.bool a1_2] 37 (0,0)) (by (with_reducible repeat first|apply ze|apply zf|apply zg);exact BK910.out) hb);clear hb hbox hg hH_;have hnb5:=NB910_254.out;have hnc5:=NB254_910.out;have hcz6_0 : w4.cell? ⟨g1_0_,0,none⟩=some (.string a1_0):=(zz BK910.out 0).trans rfl;have hcz6_1 : w4.cell? ⟨g1_0_,1,none⟩=some (.string a1_1):=(zz BK910.out 1).trans rfl;have hcz6_2 : w4.cell? ⟨g1_0_,2,none⟩=some (.bool a1_2):=(zz BK910.out 2).trans rfl;have hfz6_0:=zA BK910.out 0;have hfz6_1:=zA BK910.out 1;have hfz6_2:=zA BK910.out 2;obtain ⟨hcz7_0,hcz7_1,hfz7_0,hfz7_1⟩:=cB2 BK254.out)|((with_reducible refine zJ (f:=35) rfl ?_);refine yj (some 7) rfl rfl Try.func35 (by kernel_rfl) rfl #[.agg #[.string a1_0,.string a1_1,.bool a1_2],.string a0_0] rfl (by (try simp only [zt,zu,zv]);first|done|rfl|(simp only [zw,zx];rfl)|(simp only [yr,ys,zV,zW];rfl)) ?_;(with_reducible refine (F0e.calls  a1_0 a1_1 a1_2 a0_0 t255 _ A3.out).mono ?_);rintro e w8 ⟨rfl,hb⟩;refine ⟨_,rfl,?_⟩;replace BK910:=zh (zD (g:=g1_0_) (o:=.cells #[.string a1_0,.string a1_1,.bool a1_2] 37 (0,0)) (by (with_reducible repeat first|apply ze|apply zf|apply zg);exact BK910.out) hb);replace BK254:=zh (cD BK254.out (by (with_reducible repeat first|apply ze|apply zf|apply zg);exact BK254.out) hb);replace HB:=zh (zC (by repeat (with_reducible first|exact HB.out|apply za|apply zb|apply zc|refine zd ?_ GE910.out|refine zd ?_ GE254.out)) hb);(try clear hb);(try clear hb2);(try clear hk);(try clear hi)))
 go_ret
 exact ⟨by first|rfl|(simp [yt,yu] <;> rfl)|(simp [*,yt,yu] <;> rfl),by repeat (with_reducible first|exact HB.out|apply za|apply zb|apply zc|refine zd ?_ GE910.out|refine zd ?_ GE254.out)⟩


def Fy.l0 : Nat→List (S51)→Int→Int→ByteArray→ByteArray→Bool→Option (Int)
 | 0,_,_,_,_,_,_ => none
 | k + 1,x0,x7,x8,x911000,x911001,x911002 => if x8<x7 then (if 0≤x8 then (if x8<(x0.length : Int) then ((F0b.f ((rd_T51 x0 x8).f0) ((rd_T51 x0 x8).f1) x911000 x911001 x911002).bind fun t263 => (if t263=true then (some x8) else (Fy.l0 k x0 x7 (wrap64 (x8 + 1)) x911000 x911001 x911002))) else (none)) else (none)) else (some (-1))
def Fy.f (k : Nat) (l0 : List (S51)) (a1_0 : ByteArray) (a1_1 : ByteArray) (a1_2 : Bool) : Option (Int):=Fy.l0 k l0 (l0.length : Int) 0 a1_0 a1_1 a1_2
theorem Fy.mono_l : ∀ k,(∀ y0 y1 y2 y3 y4 y5,LeO (Fy.l0 k y0 y1 y2 y3 y4 y5) (Fy.l0 (k + 1) y0 y1 y2 y3 y4 y5))
 | 0 => fun _ _ _ _ _ _ r h => by simp [Fy.l0] at h
 | k + 1 => by
  have ih0:=Fy.mono_l k;intro y0 y1 y2 y3 y4 y5;unfold Fy.l0
  repeat' first|(with_reducible first|exact ih0 _ _ _ _ _ _|exact zQ _|exact zN _|refine zP ?_ ?_|refine zO ?_ (fun _ => ?_))|refine zP ?_ ?_|refine zO ?_ (fun _ => ?_)
theorem Fy.mono : ∀ a0 a1 a2 a3 k,LeO (Fy.f k a0 a1 a2 a3) (Fy.f (k + 1) a0 a1 a2 a3):=by
 intro a0 a1 a2 a3 k;have ih0:=Fy.mono_l k;unfold Fy.f
 repeat' first|(with_reducible first|exact ih0 _ _ _ _ _ _|exact zQ _|exact zN _|refine zP ?_ ?_|refine zO ?_ (fun _ => ?_))|refine zP ?_ ?_|refine zO ?_ (fun _ => ?_)
set_option maxHeartbeats 8000000 in
set_option maxRecDepth 100000 in
theorem Fy.calls (k : Nat) (A0 : Option Addr) (c0 : Nat) (l0 : List (S51)) (g1_0_ : Nat) (a1_0 : ByteArray) (a1_1 : ByteArray) (a1_2 : Bool) (r : Int) (w : World) (hr0 : Kd.C k51 w A0 l0.length l0) (hc0 : l0.length≤c0) (hb1_0_ : w.heap[g1_0_]? = some (.cells #[.string a1_0,.string a1_1,.bool a1_2] 37 (0,0))) (h : Fy.f k l0 a1_0 a1_1 a1_2=some r) :
  Calls Try.prog 59 #[.slice A0 l0.length c0,.func (.func 34) #[] #[.pointer (some ⟨g1_0_,0,none⟩)]] w fun e w' => e = .returned (.int .i64 r)∧Below w.heap.size w w':=by
 have hu51:=Try.underlying51;have HR0:=zh hr0;have HC0:=zh hc0;clear hr0 hc0;have BK910:=zh hb1_0_;clear hb1_0_;have HB:=zh (Below.refl w.heap.size w);have H : (Fy.l0 k l0 (l0.length : Int) 0 a1_0 a1_1 a1_2)=some r:=h;clear h;have H':=zh H;clear H
 go_enter Try.func59,Try.ntmps59
 go_wp2
 go_loopg [8] k (fun kq v8 w' => ∃ (x8_1 : Int),v8 = .int .i64 x8_1∧Aside0 (Fy.l0 kq l0 (l0.length : Int) x8_1 a1_0 a1_1 a1_2=some r)∧Aside0 (kq≤k)∧Aside0 (w'.heap[g1_0_]? = some (.cells #[.string a1_0,.string a1_1,.bool a1_2] 37 (0,0)))∧Aside0 (Below w.heap.size w w'))
 case atStart => exact ⟨(0),(by first|rfl|(simp;done)|(simp [*];done)),H',⟨ye _⟩,⟨by (with_reducible repeat first|apply ze|apply zf|apply zg);exact BK910.out⟩,⟨by repeat (with_reducible first|exact HB.out|apply za|apply zb|apply zc|refine zd ?_ GE910.out)⟩⟩
 case round =>
  clear H'
  try clear p2
  obtain ⟨x8_1,rfl,HA,HK1,BK910,HB⟩:=hrel
  cases gk with
  | zero => exact absurd HA.out (by simp [Fy.l0])
  | succ k1 =>
   have H:=HA.out;clear HA;simp only [Fy.l0] at H
   by_cases c3 : x8_1<(l0.length : Int)
   ·
    rw [if_pos c3] at H
    have c3b0 : decide (x8_1<(l0.length : Int))=true:=decide_eq_true c3;clear c3
    by_cases c4 : 0≤x8_1
    ·
     rw [if_pos c4] at H
     have c4b0 : decide (0≤x8_1)=true:=decide_eq_true c4;clear c4
     by_cases c5 : x8_1<(l0.length : Int)
     ·
      rw [if_pos c5] at H
      have c5b0 : decide (x8_1<(l0.length : Int))=true:=decide_eq_true c5;clear c5;replace H:=zT.mp H;obtain ⟨t263,A60,H⟩:=H;replace H : (if t263=true then (some x8_1) else (Fy.l0 k1 l0 (l0.length : Int) (wrap64 (x8_1 + 1)) a1_0 a1_1 a1_2))=some r:=H;have A6:=zh A60;clear A60
      by_cases c7 : t263=true
      ·
       subst c7
       have H1 : (some x8_1)=some r:=by rw [if_pos rfl] at H;exact H
       clear H;have H:=H1;clear H1;obtain rfl:=zU H;have p262 : 0≤(x8_1 : Int):=zy (by first|(with_reducible assumption)|assumption);have q262 : x8_1<(l0.length : Int):=zy (by first|(with_reducible assumption)|assumption);obtain ⟨ad262,e262,hx262_0,hx262_1⟩:=at_T51 HR0.out x8_1 p262 q262
       cases e262
       replace hx262_0:=(HB.out.cell (zl w _ hx262_0)).trans hx262_0;replace hx262_1:=(HB.out.cell (zl w _ hx262_1)).trans hx262_1;replace p262:=eq_true p262;replace q262:=eq_true q262
       go_wp2_with (first|(go_at_call 34;(with_reducible refine (F0b.calls  ((rd_T51 l0 x8_1).f0) ((rd_T51 l0 x8_1).f1) g1_0_ a1_0 a1_1 a1_2 true _ ?side1 A6.out).mono ?_);(case side1 => (with_reducible repeat first|apply ze|apply zf|apply zg);exact BK910.out);rintro e w8 ⟨rfl,hb⟩;replace BK910:=zh (zD (g:=g1_0_) (o:=.cells #[.string a1_0,.string a1_1,.bool a1_2] 37 (0,0)) (by (with_reducible repeat first|apply ze|apply zf|apply zg);exact BK910.out) hb);replace HB:=zh (zC (by repeat (with_reducible first|exact HB.out|apply za|apply zb|apply zc|refine zd ?_ GE910.out)) hb);(try clear hb);(try clear hb2);(try clear hk);(try clear hi)))
       go_ret
       exact ⟨by first|rfl|(simp [yt,yu] <;> rfl)|(simp [*,yt,yu] <;> rfl),by repeat (with_reducible first|exact HB.out|apply za|apply zb|apply zc|refine zd ?_ GE910.out)⟩
      replace c7:=yb.mpr c7;subst c7;have H1 : (Fy.l0 k1 l0 (l0.length : Int) (wrap64 (x8_1 + 1)) a1_0 a1_1 a1_2)=some r:=by rw [if_neg (show ¬ (false=true) by decide)] at H;exact H
      clear H;have H:=H1;clear H1;have H':=zh H;clear H;have p262 : 0≤(x8_1 : Int):=zy (by first|(with_reducible assumption)|assumption);have q262 : x8_1<(l0.length : Int):=zy (by first|(with_reducible assumption)|assumption);obtain ⟨ad262,e262,hx262_0,hx262_1⟩:=at_T51 HR0.out x8_1 p262 q262
      cases e262
      replace hx262_0:=(HB.out.cell (zl w _ hx262_0)).trans hx262_0;replace hx262_1:=(HB.out.cell (zl w _ hx262_1)).trans hx262_1;replace p262:=eq_true p262;replace q262:=eq_true q262
      go_wp2_with (first|(go_at_call 34;(with_reducible refine (F0b.calls  ((rd_T51 l0 x8_1).f0) ((rd_T51 l0 x8_1).f1) g1_0_ a1_0 a1_1 a1_2 false _ ?side1 A6.out).mono ?_);(case side1 => (with_reducible repeat first|apply ze|apply zf|apply zg);exact BK910.out);rintro e w9 ⟨rfl,hb⟩;replace BK910:=zh (zD (g:=g1_0_) (o:=.cells #[.string a1_0,.string a1_1,.bool a1_2] 37 (0,0)) (by (with_reducible repeat first|apply ze|apply zf|apply zg);exact BK910.out) hb);replace HB:=zh (zC (by repeat (with_reducible first|exact HB.out|apply za|apply zb|apply zc|refine zd ?_ GE910.out)) hb);(try clear hb);(try clear hb2);(try clear hk);(try clear hi)))
      go_roundg k1
      case measure => have:=HK1.out;omega
      case rel => exact ⟨(wrap64 (x8_1 + 1)),(by first|rfl|(simp;done)|(simp [*];done)),H',⟨by have:=HK1.out;omega⟩,⟨by (with_reducible repeat first|apply ze|apply zf|apply zg);exact BK910.out⟩,⟨by repeat (with_reducible first|exact HB.out|apply za|apply zb|apply zc|refine zd ?_ GE910.out)⟩⟩
     rw [if_neg c5] at H;exact absurd H (by simp)
    rw [if_neg c4] at H;exact absurd H (by simp)
   rw [if_neg c3] at H;have c3b0 : decide (x8_1<(l0.length : Int))=false:=decide_eq_false c3;clear c3;obtain rfl:=zU H
   go_wp2
   go_ret
   exact ⟨by first|rfl|(simp [yt,yu] <;> rfl)|(simp [*,yt,yu] <;> rfl),by repeat (with_reducible first|exact HB.out|apply za|apply zb|apply zc|refine zd ?_ GE910.out)⟩


theorem F7.R_behind {α : Type} {d : Kd α} {e base g n cap : Nat} {ok : Nat→Prop} {W : World} {xs : List α}
  (h : d.R e W base ok (.slice (some ⟨g,0,none⟩) n cap) xs) (o : Nat) (seg : List Value) (hno : n * d.sz≤o) (hs : o + seg.length≤cap * d.sz) :
  d.R e (W.setCells g o seg) base ok (.slice (some ⟨g,0,none⟩) n cap) xs∧W.grownBy (W.setCells g o seg) (some g):=by
 obtain ⟨hn,hnc,_⟩:=yh h;obtain ⟨hok,inner,ho,hr⟩:=h;obtain ⟨ho1,ho2⟩:=ho;rcases ho2 with ⟨hv,_⟩|⟨g',cap',cur,hv,hb,hh,hnc',hcm,hcs,ht⟩
 ·
  cases hv
 injection hv with ha _ hc;injection ha with ha;injection ha with hg;subst hg;subst hc;have hfit : o + seg.length≤cur.size:=by rw [hcs];omega
 obtain ⟨cur',h3,h4,h5⟩:=setCells_row seg o W cur hh hfit;obtain ⟨s1,s2,s3,s4⟩:=setCells_same g seg o W;have hfar : ∀ k,k≠g→(W.setCells g o seg).heap[k]? = W.heap[k]?:=fun k hk => setCells_far seg _ k hk;have hgo : some g=(Value.slice (some ⟨g,0,none⟩) n cap).ownBlock:=by simp [Value.ownBlock]
 refine ⟨⟨hok,inner,⟨ho1,.inr ⟨g,cap,cur',by rw [hn],hb,h3,hnc',hcm,by rw [h4,hcs],?_⟩⟩,?_⟩,
  ⟨s1,s2,s3,by rw [s4];exact ye _,fun k _ hk => hfar k (fun he => hk (by rw [he]))⟩⟩
 ·
  rw [← ht]
  apply List.ext_getElem?
  intro q;rw [List.getElem?_take,List.getElem?_take,h5]
  by_cases hq : q<xs.length * d.sz
  ·
   rw [if_pos hq,if_pos hq,seg_get cur.toList seg o (by rw [Array.length_toList];omega) q,if_pos (by rw [← hn] at hq;omega)]
  rw [if_neg hq,if_neg hq]
 exact hr.imp_ (fun x cs hM => Kd.M_step hM (fun k hk _ => hfar k (fun he => hk.2 (by rw [he];exact hgo))))
theorem F7.run_clear {P : Program} (w : World) (t e ty : TypeId) (z : Value) (ht : P.underlying t=some (.slice e)) (hv : ∀ w,(zeroValue e).run P w = .ok z w) (h1 : ∀ i,i<z.cells.size→(z.cells[i]!).oneCell' = true) (b o n c : Nat) (hn : 0<n)
  (hc : ∀ j,j<n * z.cells.size→(w.cell? ⟨b,o + j,none⟩).isSome=true) (hf : ∀ j,j<n * z.cells.size→w.frozen? ⟨b,o + j,none⟩=false) :
  (Builtin.clear_ #[t] ty #[.slice (some ⟨b,o,none⟩) n c]).run P w = .ok (.tuple #[]) (w.setCells b o (Builtin.zeroCells z.cells n).toList):=by
 have hlen : (Builtin.zeroCells z.cells n).toList.length=n * z.cells.size:=by simp [Builtin.zeroCells]
 have hst:=run_storeCells_cells (P:=P) b o (Builtin.zeroCells z.cells n).toList 0 w (by rw [hlen];simpa using hc) (by rw [hlen];simpa using hf) (by
  intro v hv';simp only [Builtin.zeroCells,Array.toList_map,Array.toList_range,List.mem_map,List.mem_range] at hv';obtain ⟨i,hi,rfl⟩:=hv'
  have hz : 0<z.cells.size:=by
   rcases Nat.eq_zero_or_pos z.cells.size with h|h
   ·
    rw [h] at hi;simp at hi
   exact h
  exact h1 _ (Nat.mod_lt _ hz))
 simp only [Nat.add_zero] at hst;obtain ⟨m,rfl⟩ : ∃ m,n=m + 1:=⟨n - 1,by omega⟩;simp [Builtin.clear_,run_underlying ht,hv,hst]
theorem F7.zeros_length (z : Array Value) (n : Nat) : (Builtin.zeroCells z n).toList.length=n * z.size:=by simp [Builtin.zeroCells]
def F7.hasB (lo hi : ByteArray) (op : Bool) (key : ByteArray) : Bool:=if Op.bytesLess key.toList lo.toList=true then false else if op=true then true else Op.bytesLess key.toList hi.toList
theorem F7.has_tells (lo hi : ByteArray) (op : Bool) (key : ByteArray) : F0e.f lo hi op key=some (F7.hasB lo hi op key):=by
 unfold F0e.f F7.hasB
 split
 ·
  rfl
 split <;> rfl
theorem F7.del_tells (e : S51) (lo hi : ByteArray) (op : Bool) : F0b.f e.f0 e.f1 lo hi op=some (!F7.hasB lo hi op e.f0):=by
 unfold F0b.f;rw [F7.has_tells];rfl
theorem F7.idx_from (lo hi : ByteArray) (op : Bool) (l : List S51) (hl : l.length≤4611686018427387904) : ∀ (d i : Nat),i + d=l.length → ∃ k r,Fy.l0 k l (l.length : Int) (i : Int) lo hi op=some r ∧
  ((r = -1 ∧ ∀ j,(h : j<l.length)→i≤j→F7.hasB lo hi op l[j].f0=true) ∨ ∃ m : Nat,r=(m : Int) ∧ ∃ h : m<l.length,i≤m∧(∀ j,(h : j<l.length)→i≤j→j<m→F7.hasB lo hi op l[j].f0=true)∧F7.hasB lo hi op l[m].f0=false):=by
 intro d
 induction d with
 | zero =>
  intro i hid;refine ⟨1,-1,?_,.inl ⟨rfl,fun j h h2 => by omega⟩⟩;simp only [Fy.l0];rw [if_neg (by omega)]
 | succ d ih =>
  intro i hid;obtain ⟨k,r,h1,h2⟩:=ih (i + 1) (by omega)
  have hr : rd_T51 l (i : Int)=l[i]'(by omega):=by
   unfold rd_T51;rw [List.getD_eq_getElem?_getD,Int.toNat_natCast,List.getElem?_eq_getElem (by omega)];rfl
  have hw : wrap64 ((i : Int) + 1)=((i + 1 : Nat) : Int):=by unfold wrap64;omega
  by_cases hd : F7.hasB lo hi op (l[i]'(by omega)).f0=true
  ·
   refine ⟨k + 1,r,?_,?_⟩
   ·
    simp only [Fy.l0]
    rw [if_pos (by omega),if_pos (by omega),if_pos (by omega),hr,F7.del_tells,hd];simp only [Option.bind_some,Bool.not_true,Bool.false_eq_true,if_false,hw];exact h1
   rcases h2 with ⟨h2,h3⟩|⟨m,h2,hm,h3,h4,h5⟩
   ·
    refine .inl ⟨h2,fun j hj hij => ?_⟩
    by_cases e : i=j
    ·
     subst e;exact hd
    exact h3 j hj (by omega)
   refine .inr ⟨m,h2,hm,by omega,fun j hj hij hjm => ?_,h5⟩
   by_cases e : i=j
   ·
    subst e;exact hd
   exact h4 j hj (by omega) hjm
  have hd' : F7.hasB lo hi op (l[i]'(by omega)).f0=false:=by simpa using hd
  refine ⟨k + 1,(i : Int),?_,.inr ⟨i,rfl,by omega,ye _,fun j hj h1 h2 => by omega,hd'⟩⟩;simp only [Fy.l0];rw [if_pos (by omega),if_pos (by omega),if_pos (by omega),hr,F7.del_tells,hd'];simp only [Option.bind_some,Bool.not_false,if_true]
theorem F7.w_next (i : Nat) (h : i≤4611686018427387904) : wrap64 ((i : Int) + 1)=((i + 1 : Nat) : Int):=by unfold wrap64;omega
theorem F7.n_zero (i : Nat) : (0≤(i : Int))=True:=eq_true (Int.natCast_nonneg i)
theorem F7.n_lt {i n : Nat} (h : i<n) : ((i : Int)<(n : Int))=True:=eq_true (Int.ofNat_lt.2 h)
theorem F7.n_step {q j n : Nat} (h : q + 1 + j=n) : q + (j + 1)=n:=by omega
theorem F7.n_pre {g j n : Nat} (h : g + j=n) (hj : j<n) : ∃ q,g=q + 1:=⟨g - 1,by omega⟩
set_option maxHeartbeats 4000000 in
set_option maxRecDepth 100000 in
theorem F7.walk (P0 : Nat→Prop) (A : Option Addr) (c : Nat) (l : List S51) (gc : Nat) (lo hi : ByteArray) (op : Bool) (w0 w : World) (hB : Below w0.heap.size w0 w) (ho : Kd.R k51 51 w w0.heap.size P0 (.slice A l.length c) l) (hl : l.length≤4611686018427387904)
  (hb : w.heap[gc]? = some (.cells #[.string lo,.string hi,.bool op] 37 (0,0))) :
  Calls Try.prog 32 #[.slice A l.length c,.func (.func 34) #[] #[.pointer (some ⟨gc,0,none⟩)]] w fun e w' => ∃ v,e = .returned v∧Kd.R k51 51 w' w0.heap.size P0 v (l.filter (fun e => F7.hasB lo hi op e.f0))∧Below w0.heap.size w0 w' ∧ Kept w w' P0:=by
 obtain ⟨hn,hnc,hC⟩:=yh ho;obtain ⟨k,r,h1,h2⟩:=F7.idx_from lo hi op l hl l.length 0 (by omega)
 go_enter Try.func32,Try.ntmps32
 go_wp2_with fail
 go_at_call 59
 refine (Fy.calls k A c l gc lo hi op r w hC hnc hb h1).mono ?_;rintro e w1 ⟨rfl,hb1⟩;rcases h2 with ⟨rfl,h2⟩|⟨m,rfl,hm,-,h4,h5⟩
 ·
  go_wp2
  go_ret
  refine ⟨_,rfl,?_,zC hB hb1,Kept.of_below hb1 _⟩
  have e : l.filter (fun e => F7.hasB lo hi op e.f0)=l:=List.filter_eq_self.2 (fun x hx => by
   obtain ⟨j,hj,rfl⟩:=List.getElem_of_mem hx
   exact h2 j hj (Nat.zero_le _))
  rw [e];exact yg ho hb1
 have hne : decide ((m : Int) = -1)=false:=decide_eq_false (by omega);have hneb : ((m : Int) == -1)=false:=zY.mpr (by omega)
 go_wp2
 go_loopg [5,6] (l.length - (m + 1)) (fun kq v5 v6 w' => ∃ (i j : Nat) (L : List S51),v5 = .int .i64 (i : Int)∧v6 = .int .i64 (j : Int)∧Aside0 (kq + j=l.length∧i<j)∧Aside0 (Kd.R k51 51 w' w0.heap.size P0 (.slice A l.length c) L) ∧
  Aside0 (L.length=l.length∧L.take i=(l.take j).filter (fun e => F7.hasB lo hi op e.f0)∧L.drop j=l.drop j)∧Aside0 (w'.heap[gc]? = some (.cells #[.string lo,.string hi,.bool op] 37 (0,0)))∧Aside0 (Kept w w' P0)∧Aside0 (Below w0.heap.size w0 w'))
 case atStart =>
  refine ⟨m,m + 1,l,rfl,?_,⟨by omega,by omega⟩,⟨yg ho hb1⟩,⟨rfl,?_,rfl⟩,⟨zD hb hb1⟩,⟨Kept.of_below hb1 _⟩,⟨zC hB hb1⟩⟩
  ·
   have hw : wrap64 ((m : Int) + 1)=((m + 1 : Nat) : Int):=by unfold wrap64;omega
   first|rw [hw]|(simp [hw];done)|(show Value.int .i64 _=_;rw [hw])
  rw [List.take_add_one,List.getElem?_eq_getElem hm,List.filter_append]
  have e1 : (l.take m).filter (fun e => F7.hasB lo hi op e.f0)=l.take m:=List.filter_eq_self.2 (fun x hx => by
   obtain ⟨q,hq,rfl⟩:=List.getElem_of_mem hx;rw [zx] at hq;rw [List.getElem_take]
   exact h4 q (by omega) (Nat.zero_le _) (by omega))
  rw [e1];simp [h5]
 case round =>
  obtain ⟨i,j,L,rfl,rfl,HI,HO,HL,HG,HK,HB⟩:=hrel;obtain ⟨hLl,hLt,hLd⟩:=HL.out;obtain ⟨g,co,eo,gb,gl,cl,HGc⟩:=Kd.R_form HO.out (by omega);rw [hLl] at eo;injection eo with ea _ ec;subst ea;subst ec
  by_cases hjl : j<l.length
  ·
   have c3 : decide ((j : Int)<(l.length : Int))=true:=decide_eq_true (by omega)
   have hj0 : (0≤(j : Int))=True:=eq_true (by omega);have hjlt : ((j : Int)<(l.length : Int))=True:=eq_true (by omega);obtain ⟨cj,hcj,hMj,hccj,hfj⟩:=Kd.R_elem HO.out z51 (j : Int) (Int.natCast_nonneg j) (Int.ofNat_lt.2 hjl);have ej:=k51_openM hMj;subst ej;have hij:=HI.out.2;have hkj:=HI.out.1;have hi0:=F7.n_zero i;have hilt:=F7.n_lt (Nat.lt_trans hij hjl);have hwj : wrap64 ((j : Int) + 1)=((j + 1 : Nat) : Int):=F7.w_next j (Nat.le_trans (Nat.le_of_lt hjl) hl);have hwi : wrap64 ((i : Int) + 1)=((i + 1 : Nat) : Int):=F7.w_next i (Nat.le_trans (Nat.le_of_lt (Nat.lt_trans hij hjl)) hl);obtain ⟨kq,rfl⟩:=F7.n_pre hkj hjl
   have eg : L.getD (j : Int).toNat z51=l[j]:=by
    have h9:=congrArg (·[0]?) hLd;simp only [List.getElem?_drop,Nat.add_zero] at h9;rw [Int.toNat_natCast,List.getD_eq_getElem?_getD,h9,List.getElem?_eq_getElem hjl];rfl
   have hk0 : wr.cell? ⟨g,j * 2,none⟩=some (.string l[j].f0):=by have:=hccj 0 _ rfl;rw [eg] at this;exact this
   have hk1 : wr.cell? ⟨g,j * 2 + 1,none⟩=some (.int .i64 l[j].f1):=by have:=hccj 1 _ rfl;rw [eg] at this;exact this
   go_wp2_with fail
   obtain ⟨b,hbd⟩ : ∃ b,(!F7.hasB lo hi op l[j].f0)=b:=⟨_,rfl⟩;have hdt:=F7.del_tells l[j] lo hi op;rw [hbd] at hdt
   go_at_call 34
   refine (F0b.calls l[j].f0 l[j].f1 gc lo hi op _ _ (zg HG.out _) hdt).mono ?_;rintro e w2 ⟨rfl,hb2⟩;have Bx:=zD (blk_new wr (.cells #[.string l[j].f0,.int .i64 l[j].f1] 51)) hb2;have b0:=zz Bx 0;have b1:=zz Bx 1;have HO2:=yg (zm HO.out (.cells #[.string l[j].f0,.int .i64 l[j].f1] 51)) hb2;have HG2:=zD (zg HG.out (.cells #[.string l[j].f0,.int .i64 l[j].f1] 51)) hb2;have hbw : Below wr.heap.size wr w2:=zC (za (Below.refl _ _) _) hb2;have HB2:=zh (zC HB.out hbw);have HK2:=zh (HK.out.below hbw)
   have F1 : Aside0 (∀ b,(!F7.hasB lo hi op l[j].f0)=b→(l.take (j + 1)).filter (fun e => F7.hasB lo hi op e.f0)=L.take i ++ (if b=true then [] else [l[j]])):=⟨fun b hb => by
    rw [List.take_add_one,List.getElem?_eq_getElem hjl,List.filter_append,hLt]
    cases b <;> simp_all⟩
   have F2 : Aside0 (L.drop (j + 1)=l.drop (j + 1)):=⟨by
    have:=congrArg List.tail hLd
    simpa [List.tail_drop] using this⟩
   have HBD:=zh hbd;have hbsz:=zh hbw.size;clear hbw hbd hdt Bx hb2 HB HK hk0 hk1 hcj hMj hccj hfj hLt hLd
   cases b with
   | false =>
    obtain ⟨ci,hci,hMi,hcci,hfi⟩:=Kd.R_elem HO2 z51 (i : Int) (Int.natCast_nonneg i) (Int.ofNat_lt.2 (Nat.lt_trans hij hjl));have ei:=k51_openM hMi;have hm0 : w2.cell? ⟨g,i * 2,none⟩=some (.string (L.getD (i : Int).toNat z51).f0):=hcci 0 _ (by rw [ei];rfl);have hm1 : w2.cell? ⟨g,i * 2 + 1,none⟩=some (.int .i64 (L.getD (i : Int).toNat z51).f1):=hcci 1 _ (by rw [ei];rfl);have hn0 : w2.frozen? ⟨g,i * 2,none⟩=false:=hfi 0;have hn1 : w2.frozen? ⟨g,i * 2 + 1,none⟩=false:=hfi 1;subst ei;have HP : Aside0 (Kd.R k51 51 ((w2.setCell ⟨g,i * 2,none⟩ (.string l[j].f0)).setCell ⟨g,i * 2 + 1,none⟩ (.int .i64 l[j].f1)) w0.heap.size P0 (.slice (some ⟨g,0,none⟩) l.length c) (L.set i l[j])∧w2.grownBy ((w2.setCell ⟨g,i * 2,none⟩ (.string l[j].f0)).setCell ⟨g,i * 2 + 1,none⟩ (.int .i64 l[j].f1)) (some g)):=⟨Kd.R_seg HO2 (i : Int) (Int.natCast_nonneg i) (Int.ofNat_lt.2 (Nat.lt_trans hij hjl)) (seg:=[.string l[j].f0,.int .i64 l[j].f1]) (j:=0) hci hcci (show 0 + 2≤2 from by decide) (x':=l[j]) (k51_mkM _ _ _ l[j]) (fun _ hk => hk)⟩;have hPg : P0 g:=HO.out.1 g rfl;have G1:=zh (yv HG2 HP.out.2 (fun he => by injection he with he;subst he;have h9:=HG.out.symm.trans HGc;simp at h9));have G2:=zh (yz HP.out.2 HK2.out (fun k hk => .inl (by injection hk with hk;subst hk;exact hPg)));have G3:=zh (pw_below_grown HB2.out (some g) (Nat.le_trans (Nat.le_of_lt (Nat.lt_of_le_of_lt gb gl)) (by have:=hbsz.out;exact this)) HP.out.2 (fun k hk => by injection hk with hk;subst hk;exact gb));clear hci hMi hcci hfi HO2 HG2
    go_wp2_with fail
    go_roundg kq
    case measure => exact Nat.lt_succ_self _
    case rel =>
     refine ⟨i + 1,j + 1,L.set i l[j],by first|rfl|rw [hwi],rfl,⟨F7.n_step hkj,Nat.succ_lt_succ hij⟩,⟨HP.out.1⟩,⟨by rw [List.length_set];exact hLl,?_,?_⟩,G1,G2,G3⟩
     ·
      rw [F1.out false HBD.out,List.take_succ_eq_append_getElem (by rw [List.length_set,hLl];exact Nat.lt_trans hij hjl),List.getElem_set_self,List.take_set_of_le (ye _)];rfl
     rw [List.drop_set_of_lt (Nat.lt_succ_of_lt hij)];exact F2.out
   | true =>
    go_wp2_with fail
    go_roundg kq
    case measure => exact Nat.lt_succ_self _
    case rel =>
     refine ⟨i,j + 1,L,rfl,rfl,⟨F7.n_step hkj,Nat.lt_succ_of_lt hij⟩,⟨HO2⟩,⟨hLl,?_,F2.out⟩,⟨HG2⟩,HK2,HB2⟩;rw [F1.out true HBD.out];simp
  have hij:=HI.out.2;obtain rfl : j=l.length:=Nat.le_antisymm (by have:=HI.out.1;omega) (Nat.le_of_not_lt hjl);have c3 : decide ((l.length : Int)<(l.length : Int))=false:=decide_eq_false (Int.lt_irrefl _);rw [List.take_length] at hLt
  have hcsz : ∀ q,q<(l.length - i) * 2→(wr.cell? ⟨g,i * 2 + q,none⟩).isSome=true∧wr.frozen? ⟨g,i * 2 + q,none⟩=false:=fun q hq => by
   obtain ⟨ci,hci,hMi,hcci,hfi⟩:=Kd.R_elem HO.out z51 ((i + q / 2 : Nat) : Int) (Int.natCast_nonneg _) (Int.ofNat_lt.2 (by omega));rw [Int.toNat_natCast] at hcci hfi;have e2 : i * 2 + q=(i + q / 2) * 2 + q % 2:=by omega
   have hq2 : q % 2<ci.length:=by rw [hci];exact Nat.mod_lt _ (by decide)
   rw [e2];exact ⟨by have h8:=hcci (q % 2) _ (List.getElem?_eq_getElem hq2);exact Option.isSome_iff_exists.2 ⟨_,h8⟩,hfi _⟩
  have hcl : ∀ ty,(Builtin.clear_ #[29] ty #[.slice (some ⟨g,i * 2,none⟩) (l.length - i) (c - i)]).run Try.prog wr = .ok (.tuple #[]) (wr.setCells g (i * 2) (Builtin.zeroCells #[.string ⟨#[]⟩,.int .i64 0] (l.length - i)).toList) :=
   fun ty => F7.run_clear wr 29 51 ty (.agg #[.string ⟨#[]⟩,.int .i64 0]) Try.underlying29 (fun w => by rfl) (fun q hq => by
    have hq' : q<2:=hq;obtain rfl|rfl : q=0∨q=1:=by omega
    ·
     rfl
    rfl) g (i * 2) (l.length - i) (c - i) (Nat.sub_pos_of_lt hij) (fun q hq => (hcsz q hq).1) (fun q hq => (hcsz q hq).2)
  clear hcsz
  have HT:=zh (F7.R_behind (Kd.R_take HO.out (m:=i) (by rw [hLl];exact Nat.le_of_lt hij)) (i * 2) (Builtin.zeroCells #[.string ⟨#[]⟩,.int .i64 0] (l.length - i)).toList (ye _) (by
   rw [F7.zeros_length];show i * 2 + (l.length - i) * 2≤c * 2
   omega))
  have hPg : P0 g:=HO.out.1 g rfl;have G2:=zh (yz HT.out.2 HK.out (fun k hk => .inl (by injection hk with hk;subst hk;exact hPg)));have G3:=zh (pw_below_grown HB.out (some g) (Nat.le_trans gb (Nat.le_of_lt gl)) HT.out.2 (fun k hk => by injection hk with hk;subst hk;exact gb))
  go_wp2_with fail
  go_ret
  refine ⟨_,rfl,?_,G3.out,G2.out⟩;rw [← hLt];exact HT.out.1
def F7.f (l0 : List (S51)) (a1_0 : ByteArray) (a1_1 : ByteArray) (a1_2 : Bool) : Option (List (S51)):=if l0.length≤4611686018427387904 then (some (l0.filter (fun e => F7.hasB a1_0 a1_1 a1_2 e.f0))) else (none)
theorem F7.calls (P0_ : Nat→Prop) (u9000_ : Value) (l0 : List (S51)) (g1_0_ : Nat) (a1_0 : ByteArray) (a1_1 : ByteArray) (a1_2 : Bool) (r : List (S51)) (w0 w : World) (hB : Below w0.heap.size w0 w) (ho0 : Kd.R k51 51 w w0.heap.size P0_ u9000_ l0) (hb1_0_ : w.heap[g1_0_]? = some (.cells #[.string a1_0,.string a1_1,.bool a1_2] 37 (0,0))) (h : F7.f l0 a1_0 a1_1 a1_2=some r) :
  Calls Try.prog 32 #[u9000_,.func (.func 34) #[] #[.pointer (some ⟨g1_0_,0,none⟩)]] w fun e w' => ∃ v0_ : Value,e = .returned (v0_)∧Kd.R k51 51 w' w0.heap.size (fun k_ => (P0_ k_∨w.heap.size≤k_)) v0_ r∧Below w0.heap.size w0 w' ∧ Kept w w' (fun k_ => P0_ k_):=by
 unfold F7.f at h
 by_cases hl : l0.length≤4611686018427387904
 ·
  rw [if_pos hl] at h
  obtain rfl:=zU h;obtain ⟨A,c,rfl⟩:=yk ho0;refine (F7.walk P0_ A c l0 g1_0_ a1_0 a1_1 a1_2 w0 w hB ho0 hl hb1_0_).mono ?_;rintro e w' ⟨v,rfl,h1,h2,h3⟩;exact ⟨v,rfl,zM h1 (fun _ hk => .inl hk),h2,h3⟩
 rw [if_neg hl] at h;exact absurd h (by simp)


def Fd.l0 : Nat→Int→List (S67)→Int→Int→ByteArray→Int→Option (Int)
 | 0,_,_,_,_,_,_ => none
 | k + 1,x5,x9,x10,x11,x258000,x258001 => if x11<x10 then (if 0≤x11 then (if x11<(x9.length : Int) then (if (((rd_T67 x9 x11).f1).length : Int) > 0 then (if 0<(((rd_T67 x9 x11).f1).length : Int) then ((Fr.f k ((rd_T51 ((rd_T67 x9 x11).f1) 0).f0) ((rd_T51 ((rd_T67 x9 x11).f1) 0).f1) x258000 x258001).bind fun t261 => (if t261≤0 then (Fd.l0 k x11 x9 x10 (wrap64 (x11 + 1)) x258000 x258001) else (Fd.l0 k x5 x9 x10 (wrap64 (x11 + 1)) x258000 x258001))) else (none)) else (Fd.l0 k x5 x9 x10 (wrap64 (x11 + 1)) x258000 x258001)) else (none)) else (none)) else (some x5)
def Fd.f (k : Nat) (l0_0 : List (S67)) (a0_1 : Int) (a1_0 : ByteArray) (a1_1 : Int) : Option (Int):=Fd.l0 k 0 l0_0 (l0_0.length : Int) 0 a1_0 a1_1
theorem Fd.mono_l : ∀ k,(∀ y0 y1 y2 y3 y4 y5,LeO (Fd.l0 k y0 y1 y2 y3 y4 y5) (Fd.l0 (k + 1) y0 y1 y2 y3 y4 y5))
 | 0 => fun _ _ _ _ _ _ r h => by simp [Fd.l0] at h
 | k + 1 => by
  have ih0:=Fd.mono_l k;intro y0 y1 y2 y3 y4 y5;unfold Fd.l0
  repeat' first|(with_reducible first|exact ih0 _ _ _ _ _ _|exact Fr.mono _ _ _ _ _|exact zQ _|exact zN _|refine zP ?_ ?_|refine zO ?_ (fun _ => ?_))|refine zP ?_ ?_|refine zO ?_ (fun _ => ?_)
theorem Fd.mono : ∀ a0 a1 a2 a3 k,LeO (Fd.f k a0 a1 a2 a3) (Fd.f (k + 1) a0 a1 a2 a3):=by
 intro a0 a1 a2 a3 k;have ih0:=Fd.mono_l k;unfold Fd.f
 repeat' first|(with_reducible first|exact ih0 _ _ _ _ _ _|exact Fr.mono _ _ _ _ _|exact zQ _|exact zN _|refine zP ?_ ?_|refine zO ?_ (fun _ => ?_))|refine zP ?_ ?_|refine zO ?_ (fun _ => ?_)
def Fd.T5 : Bool×List (List Nat×List Nat):=(true,[([],[]),([0],[0]),([1],[1]),([2],[2]),([3],[3]),([4],[4]),([5,4],[4,5]),([6,4],[4,6]),([7,4],[4,7]),([4],[4]),([8,9,4,4],[4,8,9]),([10,4],[4,10]),([4,11],[4,11])])
def Fd.B5 : List Nat:=[0,1,3,7,15,31,63,127,255,31,1023,2047,4095]
theorem Fd.tab5 : rtab .any (opsOf Try.f36 5)=Fd.T5:=by kernel_rfl
theorem Fd.bits5 : waitsOk Fd.T5.2 Fd.B5=true:=by kernel_rfl
set_option maxHeartbeats 8000000 in
set_option maxRecDepth 100000 in
theorem Fd.calls (k : Nat) (A0_0 : Option Addr) (c0_0 : Nat) (l0_0 : List (S67)) (a0_1 : Int) (a1_0 : ByteArray) (a1_1 : Int) (r : Int) (w : World) (hr0_0 : Kd.C k67 w A0_0 l0_0.length l0_0) (hc0_0 : l0_0.length≤c0_0) (h : Fd.f k l0_0 a0_1 a1_0 a1_1=some r) :
  Calls Try.prog 36 #[.agg #[.slice A0_0 l0_0.length c0_0,.int .i64 a0_1],.agg #[.string a1_0,.int .i64 a1_1]] w fun e w' => e = .returned (.int .i64 r)∧Below w.heap.size w w':=by
 have hu35:=Try.underlying35;have hu51:=Try.underlying51;have hu67:=Try.underlying67;have HR0_0:=zh hr0_0;have HC0_0:=zh hc0_0;clear hr0_0 hc0_0;have HB:=zh (Below.refl w.heap.size w);have H : (Fd.l0 k 0 l0_0 (l0_0.length : Int) 0 a1_0 a1_1)=some r:=h;clear h;have H':=zh H;clear H
 go_enter Try.func36,Try.ntmps36
 go_wp2_with (first|((with_reducible refine zK (N:=2) rfl ?_);refine zI ?hg (N:=2) ?hd (cs:=#[.slice A0_0 l0_0.length c0_0,.int .i64 a0_1]) (t:=35) ?hr ?_;(case hd|hg => rfl);(case hr => go_simp <;> rfl);intro gb256 hg w3 hbox hb;have BK256:=zh (hbox);have hH_:=cH (by repeat (with_reducible first|exact HB.out|apply za|apply zb|apply zc)) hb hg;have GW256:=zh hH_.1;have GE256:=GW256;replace HB:=zh hH_.2;clear hb hbox hg hH_)|((with_reducible refine zK (N:=3) rfl ?_);refine zI ?hg (N:=3) ?hd (cs:=#[.string a1_0,.int .i64 a1_1]) (t:=51) ?hr ?_;(case hd|hg => rfl);(case hr => go_simp <;> rfl);intro gb257 hg w4 hbox hb;have BK257:=zh (hbox);have hH_:=cH (by repeat (with_reducible first|exact HB.out|apply za|apply zb|apply zc|refine zd ?_ GE256.out)) hb hg;have GW257:=zh hH_.1;have GE257:=GW257;replace HB:=zh hH_.2;have NB256_257:=zh ((by rw [hg];exact yc (yi (g:=gb256) (o:=.cells #[.slice A0_0 l0_0.length c0_0,.int .i64 a0_1] 35 (0,0)) (by (with_reducible repeat first|apply ze|apply zf|apply zg);exact BK256.out)) : gb256≠gb257));have NB257_256:=zh NB256_257.out.symm;replace BK256:=zh (cD BK256.out (by (with_reducible repeat first|apply ze|apply zf|apply zg);exact BK256.out) hb);clear hb hbox hg hH_;have hnb5:=NB256_257.out;have hnc5:=NB257_256.out;obtain ⟨hcz6_0,hcz6_1,hfz6_0,hfz6_1⟩:=cB2 BK256.out))
 go_loopg [5,11] k (fun kq v5 v11 w' => ∃ (x5_1 : Int) (x11_1 : Int),v5 = .int .i64 x5_1∧v11 = .int .i64 x11_1∧Aside0 (Fd.l0 kq x5_1 l0_0 (l0_0.length : Int) x11_1 a1_0 a1_1=some r)∧Aside0 (kq≤k)∧Aside0 (w'.heap[gb256]? = some (.cells #[(.slice A0_0 l0_0.length c0_0),.int .i64 a0_1] 35 (0,0)))∧Aside0 (w'.heap[gb257]? = some (.cells #[.string a1_0,.int .i64 a1_1] 51 (0,0)))∧Aside0 (Below w.heap.size w w'))
 case atStart => exact ⟨(0),(0),(by first|rfl|(simp;done)|(simp [*];done)),(by first|rfl|(simp;done)|(simp [*];done)),H',⟨ye _⟩,⟨by (with_reducible repeat first|apply ze|apply zf|apply zg);exact BK256.out⟩,⟨by (with_reducible repeat first|apply ze|apply zf|apply zg);exact BK257.out⟩,⟨by repeat (with_reducible first|exact HB.out|apply za|apply zb|apply zc|refine zd ?_ GE256.out|refine zd ?_ GE257.out)⟩⟩
 case round =>
  clear H'
  try clear p2
  try clear c3 c5
  try clear hcz6_0 hcz6_1 hfz6_0 hfz6_1
  obtain ⟨x5_1,x11_1,rfl,rfl,HA,HK1,BK256,BK257,HB⟩:=hrel
  cases gk with
  | zero => exact absurd HA.out (by simp [Fd.l0])
  | succ k1 =>
   have H:=HA.out;clear HA;simp only [Fd.l0] at H
   by_cases c7 : x11_1<(l0_0.length : Int)
   ·
    rw [if_pos c7] at H
    have c7b0 : decide (x11_1<(l0_0.length : Int))=true:=decide_eq_true c7;clear c7
    by_cases c8 : 0≤x11_1
    ·
     rw [if_pos c8] at H
     have c8b0 : decide (0≤x11_1)=true:=decide_eq_true c8;clear c8
     by_cases c9 : x11_1<(l0_0.length : Int)
     ·
      rw [if_pos c9] at H
      have c9b0 : decide (x11_1<(l0_0.length : Int))=true:=decide_eq_true c9;clear c9
      by_cases c10 : (((rd_T67 l0_0 x11_1).f1).length : Int) > 0
      ·
       rw [if_pos c10] at H
       have c10b0 : decide (0<(((rd_T67 l0_0 x11_1).f1).length : Int))=true:=decide_eq_true c10;have c10b1 : decide (0<((rd_T67 l0_0 x11_1).f1).length)=true:=decide_eq_true (by omega);clear c10
       by_cases c11 : 0<(((rd_T67 l0_0 x11_1).f1).length : Int)
       ·
        rw [if_pos c11] at H
        have c11b0 : decide (0<(((rd_T67 l0_0 x11_1).f1).length : Int))=true:=decide_eq_true c11;have c11b1 : decide (0<((rd_T67 l0_0 x11_1).f1).length)=true:=decide_eq_true (by omega);clear c11;replace H:=zT.mp H;obtain ⟨t261,A120,H⟩:=H;replace H : (if t261≤0 then (Fd.l0 k1 x11_1 l0_0 (l0_0.length : Int) (wrap64 (x11_1 + 1)) a1_0 a1_1) else (Fd.l0 k1 x5_1 l0_0 (l0_0.length : Int) (wrap64 (x11_1 + 1)) a1_0 a1_1))=some r:=H;have A12:=zh A120;clear A120
        by_cases c13 : t261≤0
        ·
         rw [if_pos c13] at H
         have c13b0 : decide (t261≤0)=true:=decide_eq_true c13;clear c13;have H':=zh H;clear H;have p258 : 0≤(x11_1 : Int):=zy (by first|(with_reducible assumption)|assumption);have q258 : x11_1<(l0_0.length : Int):=zy (by first|(with_reducible assumption)|assumption);obtain ⟨ad258,A258_1,c258_1,e258,hx258_0,hx258_1,hl258_1,hi258_1⟩:=at_T67 HR0_0.out x11_1 p258 q258
         cases e258
         replace hx258_0:=(HB.out.cell (zl w _ hx258_0)).trans hx258_0;replace hx258_1:=(HB.out.cell (zl w _ hx258_1)).trans hx258_1;have HR258_1:=zh hi258_1;have HC258_1:=zh hl258_1;clear hi258_1 hl258_1;replace p258:=eq_true p258;replace q258:=eq_true q258
         try go_wp2_with (first|((with_reducible refine zK (N:=7) rfl ?_);refine zI ?hg (N:=7) ?hd (cs:=#[.int .i64 0,.slice none 0 0]) (t:=67) ?hr ?_;(case hd|hg => rfl);(case hr => go_simp <;> rfl);intro gb259 hg w14 hbox hb;have BK259:=zh (hbox);have hH_:=cH (by repeat (with_reducible first|exact HB.out|apply za|apply zb|apply zc|refine zd ?_ GE256.out|refine zd ?_ GE257.out)) hb hg;have GW259:=zh hH_.1;have GE259:=GW259;replace HB:=zh hH_.2;have NB256_259:=zh ((by rw [hg];exact yc (yi (g:=gb256) (o:=.cells #[.slice (some ad258) l0_0.length c0_0,.int .i64 a0_1] 35 (0,0)) (by (with_reducible repeat first|apply ze|apply zf|apply zg);exact BK256.out)) : gb256≠gb259));have NB259_256:=zh NB256_259.out.symm;replace BK256:=zh (cD BK256.out (by (with_reducible repeat first|apply ze|apply zf|apply zg);exact BK256.out) hb);have NB257_259:=zh ((by rw [hg];exact yc (yi (g:=gb257) (o:=.cells #[.string a1_0,.int .i64 a1_1] 51 (0,0)) (by (with_reducible repeat first|apply ze|apply zf|apply zg);exact BK257.out)) : gb257≠gb259));have NB259_257:=zh NB257_259.out.symm;replace BK257:=zh (cD BK257.out (by (with_reducible repeat first|apply ze|apply zf|apply zg);exact BK257.out) hb);clear hb hbox hg hH_;have hnb15:=NB259_256.out;have hnc15:=NB256_259.out;have hnb16:=NB259_257.out;have hnc16:=NB257_259.out;obtain ⟨hcz17_0,hcz17_1,hfz17_0,hfz17_1⟩:=cB2 BK259.out))
         have n0_ : Aside0 (((w14.setCell ⟨gb259,0,none⟩ (.int .i64 ((rd_T67 l0_0 x11_1).f0))).setCell ⟨gb259,1,none⟩ (.slice A258_1 ((rd_T67 l0_0 x11_1).f1).length c258_1)).heap[gb256]? = some (.cells #[.slice (some ad258) l0_0.length c0_0,.int .i64 a0_1] 35 (0,0))):=⟨by (with_reducible repeat first|apply ze|apply zf|apply zg);refine cS2 ?_ NB256_259.out;(with_reducible repeat first|apply ze|apply zf|apply zg);exact BK256.out⟩;have n1_ : Aside0 (((w14.setCell ⟨gb259,0,none⟩ (.int .i64 ((rd_T67 l0_0 x11_1).f0))).setCell ⟨gb259,1,none⟩ (.slice A258_1 ((rd_T67 l0_0 x11_1).f1).length c258_1)).heap[gb257]? = some (.cells #[.string a1_0,.int .i64 a1_1] 51 (0,0))):=⟨by (with_reducible repeat first|apply ze|apply zf|apply zg);refine cS2 ?_ NB257_259.out;(with_reducible repeat first|apply ze|apply zf|apply zg);exact BK257.out⟩;have n2_ : Aside0 (((w14.setCell ⟨gb259,0,none⟩ (.int .i64 ((rd_T67 l0_0 x11_1).f0))).setCell ⟨gb259,1,none⟩ (.slice A258_1 ((rd_T67 l0_0 x11_1).f1).length c258_1)).heap[gb259]? = some (.cells #[.int .i64 ((rd_T67 l0_0 x11_1).f0),.slice A258_1 ((rd_T67 l0_0 x11_1).f1).length c258_1] 67 (0,0))):=⟨by (with_reducible repeat first|apply ze|apply zf|apply zg);refine zL (cs:=#[.int .i64 ((rd_T67 l0_0 x11_1).f0),.slice none 0 0]) ?_ 1 _ rfl;(with_reducible repeat first|apply ze|apply zf|apply zg);refine zL (cs:=#[.int .i64 0,.slice none 0 0]) ?_ 0 _ rfl;(with_reducible repeat first|apply ze|apply zf|apply zg);exact BK259.out⟩;have n3_ : Aside0 (Below w.heap.size w ((w14.setCell ⟨gb259,0,none⟩ (.int .i64 ((rd_T67 l0_0 x11_1).f0))).setCell ⟨gb259,1,none⟩ (.slice A258_1 ((rd_T67 l0_0 x11_1).f1).length c258_1))):=⟨by repeat (with_reducible first|exact HB.out|apply za|apply zb|apply zc|refine zd ?_ GE256.out|refine zd ?_ GE257.out|refine zd ?_ GE259.out)⟩;(try clear BK256);(try clear BK257);(try clear BK259);(try clear HB);generalize ((w14.setCell ⟨gb259,0,none⟩ (.int .i64 ((rd_T67 l0_0 x11_1).f0))).setCell ⟨gb259,1,none⟩ (.slice A258_1 ((rd_T67 l0_0 x11_1).f1).length c258_1))=w18 at n0_ n1_ n2_ n3_ ⊢;have BK256:=n0_;have BK257:=n1_;have BK259:=n2_;have HB:=n3_;clear n0_ n1_ n2_ n3_;replace BK256:=zh (zf BK256.out);replace BK257:=zh (zf BK257.out);replace BK259:=zh (zf BK259.out);replace HB:=zh (zc HB.out);have p260 : 0≤(0 : Int):=(by omega);have q260 : 0<(((rd_T67 l0_0 x11_1).f1).length : Int):=zy (by first|(with_reducible assumption)|assumption);obtain ⟨ad260,e260,hx260_0,hx260_1⟩:=at_T51 HR258_1.out 0 p260 q260;have hw260_1:=hx260_1;(try rw [show ((0 : Int)).toNat=0 from rfl] at hw260_1);(try rw [show 0 * 2=0 from rfl] at hw260_1);(try rw [Addr.add_zero'] at hw260_1);have hw260_0:=hx260_0;(try rw [show ((0 : Int)).toNat=0 from rfl] at hw260_0);(try rw [show 0 * 2=0 from rfl] at hw260_0);(try rw [Addr.add_zero'] at hw260_0)
         cases e260
         have qi260 : (0<((rd_T67 l0_0 x11_1).f1).length)=True:=eq_true (by omega);(try rw [show ((0 : Int)).toNat=0 from rfl] at hx260_0);(try rw [show 0 * 2=0 from rfl] at hx260_0);(try rw [Addr.add_zero'] at hx260_0);(try rw [show ((0 : Int)).toNat=0 from rfl] at hx260_1);(try rw [show 0 * 2=0 from rfl] at hx260_1);(try rw [Addr.add_zero'] at hx260_1);replace hx260_0:=(HB.out.cell (zl w _ hx260_0)).trans hx260_0;replace hx260_1:=(HB.out.cell (zl w _ hx260_1)).trans hx260_1;replace p260:=eq_true p260;replace q260:=eq_true q260;refine start_ (n:=13) (S:=fun w' => w'.cell? ⟨gb259,0,none⟩=some (.int .i64 ((rd_T67 l0_0 x11_1).f0))∧w'.cell? ⟨gb259,1,none⟩=some (.slice (some ad260) ((rd_T67 l0_0 x11_1).f1).length c258_1)∧w'.cell? ⟨gb257,0,none⟩=some (.string a1_0)∧w'.cell? ⟨gb257,1,none⟩=some (.int .i64 a1_1)∧w'.cell? ad260=some (.string ((rd_T51 ((rd_T67 l0_0 x11_1).f1) 0).f0))∧w'.cell? ⟨ad260.block,ad260.off + 1,none⟩=some (.int .i64 ((rd_T51 ((rd_T67 l0_0 x11_1).f1) 0).f1))) (ds:=[]) (bm_ 0 13) (by kernel_rfl) rfl rfl ⟨(zz BK259.out 0).trans rfl,(zz BK259.out 1).trans rfl,(zz BK257.out 0).trans rfl,(zz BK257.out 1).trans rfl,((HB.out.cell (zl w _ hw260_0)).trans hw260_0),((HB.out.cell (zl w _ hw260_1)).trans hw260_1)⟩ (fun hHeld => ?_);refine with_tabW Fd.tab5 Fd.bits5 (fun HT_ HW_ => ?_);generalize w18.drew=w19 at BK256 BK257 BK259 HB hx260_0 hx260_1 hHeld ⊢;refine pure_ (i:=0) (N:=some 16) (v:=?_) (a':=?_) (bm_ 1 13) rfl rfl (any_of HT_.out (by kernel_rfl)) (fun _ _ _ h => h) (Or.inl ⟨by rfl,?_⟩) ?_ ?_;rotate_left
         ·
          intro w'
          go_simp
          with_reducible rfl
         rotate_left
         ·
          simp only [Act.put,zi,zj,zk,zG,zH]
          rfl
         refine take_ (i:=1) (N:=some 17) (v:=?_) (a':=?_) (bm_ 2 13) rfl rfl (yo HT_.out HW_.out (by kernel_rfl)) (fun _ _ _ h => h) (Or.inl ⟨by rfl,?_⟩) hHeld ?_ ?_;rotate_left
         ·
          rintro w' ⟨s0,s1,s2,s3,s4,s5⟩
          go_simp
          with_reducible rfl
         rotate_left
         ·
          simp only [Act.put,zi,zj,zk,zG,zH]
          rfl
         refine pure_ (i:=2) (N:=some 18) (v:=?_) (a':=?_) (bm_ 3 13) rfl rfl (any_of HT_.out (by kernel_rfl)) (fun _ _ _ h => h) (Or.inl ⟨by rfl,?_⟩) ?_ ?_;rotate_left
         ·
          intro w'
          go_simp
          with_reducible rfl
         rotate_left
         ·
          simp only [Act.put,zi,zj,zk,zG,zH]
          rfl
         refine pure_ (i:=3) (N:=some 19) (v:=?_) (a':=?_) (bm_ 4 13) rfl rfl (any_of HT_.out (by kernel_rfl)) (fun _ _ _ h => h) (Or.inl ⟨by rfl,?_⟩) ?_ ?_;rotate_left
         ·
          intro w'
          go_simp
          with_reducible rfl
         rotate_left
         ·
          simp only [Act.put,zi,zj,zk,zG,zH]
          rfl
         refine pure_ (i:=4) (N:=some 20) (v:=?_) (a':=?_) (bm_ 5 13) rfl rfl (any_of HT_.out (by kernel_rfl)) (fun _ _ _ h => h) (Or.inl ⟨by rfl,?_⟩) ?_ ?_;rotate_left
         ·
          intro w'
          go_simp
          with_reducible rfl
         rotate_left
         ·
          simp only [Act.put,zi,zj,zk,zG,zH]
          rfl
         refine pure_ (i:=5) (N:=some 21) (v:=?_) (a':=?_) (bm_ 6 13) rfl rfl (any_of HT_.out (by kernel_rfl)) (fun _ _ _ h => h) (Or.inl ⟨by rfl,?_⟩) ?_ ?_;rotate_left
         ·
          intro w'
          go_simp
          with_reducible rfl
         rotate_left
         ·
          simp only [Act.put,zi,zj,zk,zG,zH]
          rfl
         refine take_ (i:=6) (N:=some 22) (v:=?_) (a':=?_) (bm_ 7 13) rfl rfl (yo HT_.out HW_.out (by kernel_rfl)) (fun _ _ _ h => h) (Or.inl ⟨by rfl,?_⟩) hHeld ?_ ?_;rotate_left
         ·
          rintro w' ⟨s0,s1,s2,s3,s4,s5⟩
          go_simp
          with_reducible rfl
         rotate_left
         ·
          simp only [Act.put,zi,zj,zk,zG,zH]
          rfl
         refine pure_ (i:=7) (N:=some 23) (v:=?_) (a':=?_) (bm_ 8 13) rfl rfl (any_of HT_.out (by kernel_rfl)) (fun _ _ _ h => h) (Or.inl ⟨by rfl,?_⟩) ?_ ?_;rotate_left
         ·
          intro w'
          go_simp
          with_reducible rfl
         rotate_left
         ·
          simp only [Act.put,zi,zj,zk,zG,zH]
          rfl
         refine take_ (i:=8) (N:=some 24) (v:=?_) (a':=?_) (bm_ 9 13) rfl rfl (yo HT_.out HW_.out (by kernel_rfl)) (fun _ _ _ h => h) (Or.inl ⟨by rfl,?_⟩) hHeld ?_ ?_;rotate_left
         ·
          rintro w' ⟨s0,s1,s2,s3,s4,s5⟩
          go_simp
          with_reducible rfl
         rotate_left
         ·
          simp only [Act.put,zi,zj,zk,zG,zH]
          rfl
         refine take_ (i:=9) (N:=some 25) (v:=?_) (a':=?_) (bm_ 10 13) rfl rfl (yo HT_.out HW_.out (by kernel_rfl)) (fun _ _ _ h => h) (Or.inl ⟨by rfl,?_⟩) hHeld ?_ ?_;rotate_left
         ·
          rintro w' ⟨s0,s1,s2,s3,s4,s5⟩
          go_simp
          with_reducible rfl
         rotate_left
         ·
          simp only [Act.put,zi,zj,zk,zG,zH]
          rfl
         refine one_ (i:=10) (N:=some 26) (bm_ 11 13) rfl rfl (one_of HT_.out (by kernel_rfl)) (by decide) (fun K hK => ?_);refine goes_ Try.func58 (by kernel_rfl) rfl #[.agg #[.string ((rd_T51 ((rd_T67 l0_0 x11_1).f1) 0).f0),.int .i64 ((rd_T51 ((rd_T67 l0_0 x11_1).f1) 0).f1)],.agg #[.string a1_0,.int .i64 a1_1]] (by rfl) rfl rfl (by (try simp only [zt,zu,zv]);first|done|rfl|(simp only [zw,zx];rfl)|(simp only [yr,ys,zV,zW];rfl)) ?_
         with_reducible refine (Fr.calls k1  ((rd_T51 ((rd_T67 l0_0 x11_1).f1) 0).f0) ((rd_T51 ((rd_T67 l0_0 x11_1).f1) 0).f1) a1_0 a1_1 t261 _ A12.out).mono ?_
         rintro e w20 ⟨rfl,hb⟩;refine ⟨_,rfl,?_⟩;replace BK256:=zh (cD BK256.out (by (with_reducible repeat first|apply ze|apply zf|apply zg);exact BK256.out) hb);replace BK257:=zh (cD BK257.out (by (with_reducible repeat first|apply ze|apply zf|apply zg);exact BK257.out) hb);replace BK259:=zh (cD BK259.out (by (with_reducible repeat first|apply ze|apply zf|apply zg);exact BK259.out) hb);replace HB:=zh (zC (by repeat (with_reducible first|exact HB.out|apply za|apply zb|apply zc|refine zd ?_ GE256.out|refine zd ?_ GE257.out|refine zd ?_ GE259.out)) hb);(try clear hb);(try clear hb2);(try clear hk);(try clear hi);refine hK.out _ _ ⟨(zz BK259.out 0).trans rfl,(zz BK259.out 1).trans rfl,(zz BK257.out 0).trans rfl,(zz BK257.out 1).trans rfl,((HB.out.cell (zl w _ hw260_0)).trans hw260_0),((HB.out.cell (zl w _ hw260_1)).trans hw260_1)⟩ (fun hHeld => ?_);clear hK K;refine norm_ (a':=?_) ?_ ?_;rotate_left
         ·
          show Act.put _ (some 26) _=_
          simp only [Act.put,zi,zj,zk,zG,zH]
          rfl
         refine pure_ (i:=11) (N:=some 27) (v:=?_) (a':=?_) (bm_ 12 13) rfl rfl (any_of HT_.out (by kernel_rfl)) (fun _ _ _ h => h) (Or.inl ⟨by rfl,?_⟩) ?_ ?_;rotate_left
         ·
          intro w'
          go_simp
          with_reducible rfl
         rotate_left
         ·
          simp only [Act.put,zi,zj,zk,zG,zH]
          rfl
         refine pure_ (i:=12) (N:=some 28) (v:=?_) (a':=?_) (bm_ 13 13) rfl rfl (any_of HT_.out (by kernel_rfl)) (fun _ _ _ h => h) (Or.inl ⟨by rfl,?_⟩) ?_ ?_;rotate_left
         ·
          intro w'
          go_simp
          with_reducible rfl
         rotate_left
         ·
          simp only [Act.put,zi,zj,zk,zG,zH]
          rfl
         refine done_ (done_of HT_.out (by kernel_rfl)) ?_
         try go_wp2
         go_roundg k1
         case measure => have:=HK1.out;omega
         case rel => exact ⟨(x11_1),(wrap64 (x11_1 + 1)),(by first|rfl|(simp;done)|(simp [*];done)),(by first|rfl|(simp;done)|(simp [*];done)),H',⟨by have:=HK1.out;omega⟩,⟨by (with_reducible repeat first|apply ze|apply zf|apply zg);exact BK256.out⟩,⟨by (with_reducible repeat first|apply ze|apply zf|apply zg);exact BK257.out⟩,⟨by repeat (with_reducible first|exact HB.out|apply za|apply zb|apply zc|refine zd ?_ GE256.out|refine zd ?_ GE257.out|refine zd ?_ GE259.out)⟩⟩
        rw [if_neg c13] at H;have c13b0 : decide (t261≤0)=false:=decide_eq_false c13;clear c13;have H':=zh H;clear H;have p258 : 0≤(x11_1 : Int):=zy (by first|(with_reducible assumption)|assumption);have q258 : x11_1<(l0_0.length : Int):=zy (by first|(with_reducible assumption)|assumption);obtain ⟨ad258,A258_1,c258_1,e258,hx258_0,hx258_1,hl258_1,hi258_1⟩:=at_T67 HR0_0.out x11_1 p258 q258
        cases e258
        replace hx258_0:=(HB.out.cell (zl w _ hx258_0)).trans hx258_0;replace hx258_1:=(HB.out.cell (zl w _ hx258_1)).trans hx258_1;have HR258_1:=zh hi258_1;have HC258_1:=zh hl258_1;clear hi258_1 hl258_1;replace p258:=eq_true p258;replace q258:=eq_true q258
        try go_wp2_with (first|((with_reducible refine zK (N:=7) rfl ?_);refine zI ?hg (N:=7) ?hd (cs:=#[.int .i64 0,.slice none 0 0]) (t:=67) ?hr ?_;(case hd|hg => rfl);(case hr => go_simp <;> rfl);intro gb259 hg w21 hbox hb;have BK259:=zh (hbox);have hH_:=cH (by repeat (with_reducible first|exact HB.out|apply za|apply zb|apply zc|refine zd ?_ GE256.out|refine zd ?_ GE257.out)) hb hg;have GW259:=zh hH_.1;have GE259:=GW259;replace HB:=zh hH_.2;have NB256_259:=zh ((by rw [hg];exact yc (yi (g:=gb256) (o:=.cells #[.slice (some ad258) l0_0.length c0_0,.int .i64 a0_1] 35 (0,0)) (by (with_reducible repeat first|apply ze|apply zf|apply zg);exact BK256.out)) : gb256≠gb259));have NB259_256:=zh NB256_259.out.symm;replace BK256:=zh (cD BK256.out (by (with_reducible repeat first|apply ze|apply zf|apply zg);exact BK256.out) hb);have NB257_259:=zh ((by rw [hg];exact yc (yi (g:=gb257) (o:=.cells #[.string a1_0,.int .i64 a1_1] 51 (0,0)) (by (with_reducible repeat first|apply ze|apply zf|apply zg);exact BK257.out)) : gb257≠gb259));have NB259_257:=zh NB257_259.out.symm;replace BK257:=zh (cD BK257.out (by (with_reducible repeat first|apply ze|apply zf|apply zg);exact BK257.out) hb);clear hb hbox hg hH_;have hnb22:=NB259_256.out;have hnc22:=NB256_259.out;have hnb23:=NB259_257.out;have hnc23:=NB257_259.out;obtain ⟨hcz24_0,hcz24_1,hfz24_0,hfz24_1⟩:=cB2 BK259.out))
        have n0_ : Aside0 (((w21.setCell ⟨gb259,0,none⟩ (.int .i64 ((rd_T67 l0_0 x11_1).f0))).setCell ⟨gb259,1,none⟩ (.slice A258_1 ((rd_T67 l0_0 x11_1).f1).length c258_1)).heap[gb256]? = some (.cells #[.slice (some ad258) l0_0.length c0_0,.int .i64 a0_1] 35 (0,0))):=⟨by (with_reducible repeat first|apply ze|apply zf|apply zg);refine cS2 ?_ NB256_259.out;(with_reducible repeat first|apply ze|apply zf|apply zg);exact BK256.out⟩;have n1_ : Aside0 (((w21.setCell ⟨gb259,0,none⟩ (.int .i64 ((rd_T67 l0_0 x11_1).f0))).setCell ⟨gb259,1,none⟩ (.slice A258_1 ((rd_T67 l0_0 x11_1).f1).length c258_1)).heap[gb257]? = some (.cells #[.string a1_0,.int .i64 a1_1] 51 (0,0))):=⟨by (with_reducible repeat first|apply ze|apply zf|apply zg);refine cS2 ?_ NB257_259.out;(with_reducible repeat first|apply ze|apply zf|apply zg);exact BK257.out⟩;have n2_ : Aside0 (((w21.setCell ⟨gb259,0,none⟩ (.int .i64 ((rd_T67 l0_0 x11_1).f0))).setCell ⟨gb259,1,none⟩ (.slice A258_1 ((rd_T67 l0_0 x11_1).f1).length c258_1)).heap[gb259]? = some (.cells #[.int .i64 ((rd_T67 l0_0 x11_1).f0),.slice A258_1 ((rd_T67 l0_0 x11_1).f1).length c258_1] 67 (0,0))):=⟨by (with_reducible repeat first|apply ze|apply zf|apply zg);refine zL (cs:=#[.int .i64 ((rd_T67 l0_0 x11_1).f0),.slice none 0 0]) ?_ 1 _ rfl;(with_reducible repeat first|apply ze|apply zf|apply zg);refine zL (cs:=#[.int .i64 0,.slice none 0 0]) ?_ 0 _ rfl;(with_reducible repeat first|apply ze|apply zf|apply zg);exact BK259.out⟩;have n3_ : Aside0 (Below w.heap.size w ((w21.setCell ⟨gb259,0,none⟩ (.int .i64 ((rd_T67 l0_0 x11_1).f0))).setCell ⟨gb259,1,none⟩ (.slice A258_1 ((rd_T67 l0_0 x11_1).f1).length c258_1))):=⟨by repeat (with_reducible first|exact HB.out|apply za|apply zb|apply zc|refine zd ?_ GE256.out|refine zd ?_ GE257.out|refine zd ?_ GE259.out)⟩;(try clear BK256);(try clear BK257);(try clear BK259);(try clear HB);generalize ((w21.setCell ⟨gb259,0,none⟩ (.int .i64 ((rd_T67 l0_0 x11_1).f0))).setCell ⟨gb259,1,none⟩ (.slice A258_1 ((rd_T67 l0_0 x11_1).f1).length c258_1))=w25 at n0_ n1_ n2_ n3_ ⊢;have BK256:=n0_;have BK257:=n1_;have BK259:=n2_;have HB:=n3_;clear n0_ n1_ n2_ n3_;replace BK256:=zh (zf BK256.out);replace BK257:=zh (zf BK257.out);replace BK259:=zh (zf BK259.out);replace HB:=zh (zc HB.out);have p260 : 0≤(0 : Int):=(by omega);have q260 : 0<(((rd_T67 l0_0 x11_1).f1).length : Int):=zy (by first|(with_reducible assumption)|assumption);obtain ⟨ad260,e260,hx260_0,hx260_1⟩:=at_T51 HR258_1.out 0 p260 q260;have hw260_1:=hx260_1;(try rw [show ((0 : Int)).toNat=0 from rfl] at hw260_1);(try rw [show 0 * 2=0 from rfl] at hw260_1);(try rw [Addr.add_zero'] at hw260_1);have hw260_0:=hx260_0;(try rw [show ((0 : Int)).toNat=0 from rfl] at hw260_0);(try rw [show 0 * 2=0 from rfl] at hw260_0);(try rw [Addr.add_zero'] at hw260_0)
        cases e260
        have qi260 : (0<((rd_T67 l0_0 x11_1).f1).length)=True:=eq_true (by omega);(try rw [show ((0 : Int)).toNat=0 from rfl] at hx260_0);(try rw [show 0 * 2=0 from rfl] at hx260_0);(try rw [Addr.add_zero'] at hx260_0);(try rw [show ((0 : Int)).toNat=0 from rfl] at hx260_1);(try rw [show 0 * 2=0 from rfl] at hx260_1);(try rw [Addr.add_zero'] at hx260_1);replace hx260_0:=(HB.out.cell (zl w _ hx260_0)).trans hx260_0;replace hx260_1:=(HB.out.cell (zl w _ hx260_1)).trans hx260_1;replace p260:=eq_true p260;replace q260:=eq_true q260;refine start_ (n:=13) (S:=fun w' => w'.cell? ⟨gb259,0,none⟩=some (.int .i64 ((rd_T67 l0_0 x11_1).f0))∧w'.cell? ⟨gb259,1,none⟩=some (.slice (some ad260) ((rd_T67 l0_0 x11_1).f1).length c258_1)∧w'.cell? ⟨gb257,0,none⟩=some (.string a1_0)∧w'.cell? ⟨gb257,1,none⟩=some (.int .i64 a1_1)∧w'.cell? ad260=some (.string ((rd_T51 ((rd_T67 l0_0 x11_1).f1) 0).f0))∧w'.cell? ⟨ad260.block,ad260.off + 1,none⟩=some (.int .i64 ((rd_T51 ((rd_T67 l0_0 x11_1).f1) 0).f1))) (ds:=[]) (bm_ 0 13) (by kernel_rfl) rfl rfl ⟨(zz BK259.out 0).trans rfl,(zz BK259.out 1).trans rfl,(zz BK257.out 0).trans rfl,(zz BK257.out 1).trans rfl,((HB.out.cell (zl w _ hw260_0)).trans hw260_0),((HB.out.cell (zl w _ hw260_1)).trans hw260_1)⟩ (fun hHeld => ?_);refine with_tabW Fd.tab5 Fd.bits5 (fun HT_ HW_ => ?_);generalize w25.drew=w26 at BK256 BK257 BK259 HB hx260_0 hx260_1 hHeld ⊢;refine pure_ (i:=0) (N:=some 16) (v:=?_) (a':=?_) (bm_ 1 13) rfl rfl (any_of HT_.out (by kernel_rfl)) (fun _ _ _ h => h) (Or.inl ⟨by rfl,?_⟩) ?_ ?_;rotate_left
        ·
         intro w'
         go_simp
         with_reducible rfl
        rotate_left
        ·
         simp only [Act.put,zi,zj,zk,zG,zH]
         rfl
        refine take_ (i:=1) (N:=some 17) (v:=?_) (a':=?_) (bm_ 2 13) rfl rfl (yo HT_.out HW_.out (by kernel_rfl)) (fun _ _ _ h => h) (Or.inl ⟨by rfl,?_⟩) hHeld ?_ ?_;rotate_left
        ·
         rintro w' ⟨s0,s1,s2,s3,s4,s5⟩
         go_simp
         with_reducible rfl
        rotate_left
        ·
         simp only [Act.put,zi,zj,zk,zG,zH]
         rfl
        refine pure_ (i:=2) (N:=some 18) (v:=?_) (a':=?_) (bm_ 3 13) rfl rfl (any_of HT_.out (by kernel_rfl)) (fun _ _ _ h => h) (Or.inl ⟨by rfl,?_⟩) ?_ ?_;rotate_left
        ·
         intro w'
         go_simp
         with_reducible rfl
        rotate_left
        ·
         simp only [Act.put,zi,zj,zk,zG,zH]
         rfl
        refine pure_ (i:=3) (N:=some 19) (v:=?_) (a':=?_) (bm_ 4 13) rfl rfl (any_of HT_.out (by kernel_rfl)) (fun _ _ _ h => h) (Or.inl ⟨by rfl,?_⟩) ?_ ?_;rotate_left
        ·
         intro w'
         go_simp
         with_reducible rfl
        rotate_left
        ·
         simp only [Act.put,zi,zj,zk,zG,zH]
         rfl
        refine pure_ (i:=4) (N:=some 20) (v:=?_) (a':=?_) (bm_ 5 13) rfl rfl (any_of HT_.out (by kernel_rfl)) (fun _ _ _ h => h) (Or.inl ⟨by rfl,?_⟩) ?_ ?_;rotate_left
        ·
         intro w'
         go_simp
         with_reducible rfl
        rotate_left
        ·
         simp only [Act.put,zi,zj,zk,zG,zH]
         rfl
        refine pure_ (i:=5) (N:=some 21) (v:=?_) (a':=?_) (bm_ 6 13) rfl rfl (any_of HT_.out (by kernel_rfl)) (fun _ _ _ h => h) (Or.inl ⟨by rfl,?_⟩) ?_ ?_;rotate_left
        ·
         intro w'
         go_simp
         with_reducible rfl
        rotate_left
        ·
         simp only [Act.put,zi,zj,zk,zG,zH]
         rfl
        refine take_ (i:=6) (N:=some 22) (v:=?_) (a':=?_) (bm_ 7 13) rfl rfl (yo HT_.out HW_.out (by kernel_rfl)) (fun _ _ _ h => h) (Or.inl ⟨by rfl,?_⟩) hHeld ?_ ?_;rotate_left
        ·
         rintro w' ⟨s0,s1,s2,s3,s4,s5⟩
         go_simp
         with_reducible rfl
        rotate_left
        ·
         simp only [Act.put,zi,zj,zk,zG,zH]
         rfl
        refine pure_ (i:=7) (N:=some 23) (v:=?_) (a':=?_) (bm_ 8 13) rfl rfl (any_of HT_.out (by kernel_rfl)) (fun _ _ _ h => h) (Or.inl ⟨by rfl,?_⟩) ?_ ?_;rotate_left
        ·
         intro w'
         go_simp
         with_reducible rfl
        rotate_left
        ·
         simp only [Act.put,zi,zj,zk,zG,zH]
         rfl
        refine take_ (i:=8) (N:=some 24) (v:=?_) (a':=?_) (bm_ 9 13) rfl rfl (yo HT_.out HW_.out (by kernel_rfl)) (fun _ _ _ h => h) (Or.inl ⟨by rfl,?_⟩) hHeld ?_ ?_;rotate_left
        ·
         rintro w' ⟨s0,s1,s2,s3,s4,s5⟩
         go_simp
         with_reducible rfl
        rotate_left
        ·
         simp only [Act.put,zi,zj,zk,zG,zH]
         rfl
        refine take_ (i:=9) (N:=some 25) (v:=?_) (a':=?_) (bm_ 10 13) rfl rfl (yo HT_.out HW_.out (by kernel_rfl)) (fun _ _ _ h => h) (Or.inl ⟨by rfl,?_⟩) hHeld ?_ ?_;rotate_left
        ·
         rintro w' ⟨s0,s1,s2,s3,s4,s5⟩
         go_simp
         with_reducible rfl
        rotate_left
        ·
         simp only [Act.put,zi,zj,zk,zG,zH]
         rfl
        refine one_ (i:=10) (N:=some 26) (bm_ 11 13) rfl rfl (one_of HT_.out (by kernel_rfl)) (by decide) (fun K hK => ?_);refine goes_ Try.func58 (by kernel_rfl) rfl #[.agg #[.string ((rd_T51 ((rd_T67 l0_0 x11_1).f1) 0).f0),.int .i64 ((rd_T51 ((rd_T67 l0_0 x11_1).f1) 0).f1)],.agg #[.string a1_0,.int .i64 a1_1]] (by rfl) rfl rfl (by (try simp only [zt,zu,zv]);first|done|rfl|(simp only [zw,zx];rfl)|(simp only [yr,ys,zV,zW];rfl)) ?_
        with_reducible refine (Fr.calls k1  ((rd_T51 ((rd_T67 l0_0 x11_1).f1) 0).f0) ((rd_T51 ((rd_T67 l0_0 x11_1).f1) 0).f1) a1_0 a1_1 t261 _ A12.out).mono ?_
        rintro e w27 ⟨rfl,hb⟩;refine ⟨_,rfl,?_⟩;replace BK256:=zh (cD BK256.out (by (with_reducible repeat first|apply ze|apply zf|apply zg);exact BK256.out) hb);replace BK257:=zh (cD BK257.out (by (with_reducible repeat first|apply ze|apply zf|apply zg);exact BK257.out) hb);replace BK259:=zh (cD BK259.out (by (with_reducible repeat first|apply ze|apply zf|apply zg);exact BK259.out) hb);replace HB:=zh (zC (by repeat (with_reducible first|exact HB.out|apply za|apply zb|apply zc|refine zd ?_ GE256.out|refine zd ?_ GE257.out|refine zd ?_ GE259.out)) hb);(try clear hb);(try clear hb2);(try clear hk);(try clear hi);refine hK.out _ _ ⟨(zz BK259.out 0).trans rfl,(zz BK259.out 1).trans rfl,(zz BK257.out 0).trans rfl,(zz BK257.out 1).trans rfl,((HB.out.cell (zl w _ hw260_0)).trans hw260_0),((HB.out.cell (zl w _ hw260_1)).trans hw260_1)⟩ (fun hHeld => ?_);clear hK K;refine norm_ (a':=?_) ?_ ?_;rotate_left
        ·
         show Act.put _ (some 26) _=_
         simp only [Act.put,zi,zj,zk,zG,zH]
         rfl
        refine pure_ (i:=11) (N:=some 27) (v:=?_) (a':=?_) (bm_ 12 13) rfl rfl (any_of HT_.out (by kernel_rfl)) (fun _ _ _ h => h) (Or.inl ⟨by rfl,?_⟩) ?_ ?_;rotate_left
        ·
         intro w'
         go_simp
         with_reducible rfl
        rotate_left
        ·
         simp only [Act.put,zi,zj,zk,zG,zH]
         rfl
        refine pure_ (i:=12) (N:=some 28) (v:=?_) (a':=?_) (bm_ 13 13) rfl rfl (any_of HT_.out (by kernel_rfl)) (fun _ _ _ h => h) (Or.inl ⟨by rfl,?_⟩) ?_ ?_;rotate_left
        ·
         intro w'
         go_simp
         with_reducible rfl
        rotate_left
        ·
         simp only [Act.put,zi,zj,zk,zG,zH]
         rfl
        refine done_ (done_of HT_.out (by kernel_rfl)) ?_
        try go_wp2
        go_roundg k1
        case measure => have:=HK1.out;omega
        case rel => exact ⟨(x5_1),(wrap64 (x11_1 + 1)),(by first|rfl|(simp;done)|(simp [*];done)),(by first|rfl|(simp;done)|(simp [*];done)),H',⟨by have:=HK1.out;omega⟩,⟨by (with_reducible repeat first|apply ze|apply zf|apply zg);exact BK256.out⟩,⟨by (with_reducible repeat first|apply ze|apply zf|apply zg);exact BK257.out⟩,⟨by repeat (with_reducible first|exact HB.out|apply za|apply zb|apply zc|refine zd ?_ GE256.out|refine zd ?_ GE257.out|refine zd ?_ GE259.out)⟩⟩
       rw [if_neg c11] at H;exact absurd H (by simp)
      rw [if_neg c10] at H;have c10b0 : decide (0<(((rd_T67 l0_0 x11_1).f1).length : Int))=false:=decide_eq_false c10;have c10b1 : decide (0<((rd_T67 l0_0 x11_1).f1).length)=false:=decide_eq_false (by omega);clear c10;have H':=zh H;clear H;have p258 : 0≤(x11_1 : Int):=zy (by first|(with_reducible assumption)|assumption);have q258 : x11_1<(l0_0.length : Int):=zy (by first|(with_reducible assumption)|assumption);obtain ⟨ad258,A258_1,c258_1,e258,hx258_0,hx258_1,hl258_1,hi258_1⟩:=at_T67 HR0_0.out x11_1 p258 q258
      cases e258
      replace hx258_0:=(HB.out.cell (zl w _ hx258_0)).trans hx258_0;replace hx258_1:=(HB.out.cell (zl w _ hx258_1)).trans hx258_1;have HR258_1:=zh hi258_1;have HC258_1:=zh hl258_1;clear hi258_1 hl258_1;replace p258:=eq_true p258;replace q258:=eq_true q258
      try go_wp2_with (first|((with_reducible refine zK (N:=7) rfl ?_);refine zI ?hg (N:=7) ?hd (cs:=#[.int .i64 0,.slice none 0 0]) (t:=67) ?hr ?_;(case hd|hg => rfl);(case hr => go_simp <;> rfl);intro gb259 hg w28 hbox hb;have BK259:=zh (hbox);have hH_:=cH (by repeat (with_reducible first|exact HB.out|apply za|apply zb|apply zc|refine zd ?_ GE256.out|refine zd ?_ GE257.out)) hb hg;have GW259:=zh hH_.1;have GE259:=GW259;replace HB:=zh hH_.2;have NB256_259:=zh ((by rw [hg];exact yc (yi (g:=gb256) (o:=.cells #[.slice (some ad258) l0_0.length c0_0,.int .i64 a0_1] 35 (0,0)) (by (with_reducible repeat first|apply ze|apply zf|apply zg);exact BK256.out)) : gb256≠gb259));have NB259_256:=zh NB256_259.out.symm;replace BK256:=zh (cD BK256.out (by (with_reducible repeat first|apply ze|apply zf|apply zg);exact BK256.out) hb);have NB257_259:=zh ((by rw [hg];exact yc (yi (g:=gb257) (o:=.cells #[.string a1_0,.int .i64 a1_1] 51 (0,0)) (by (with_reducible repeat first|apply ze|apply zf|apply zg);exact BK257.out)) : gb257≠gb259));have NB259_257:=zh NB257_259.out.symm;replace BK257:=zh (cD BK257.out (by (with_reducible repeat first|apply ze|apply zf|apply zg);exact BK257.out) hb);clear hb hbox hg hH_;have hnb29:=NB259_256.out;have hnc29:=NB256_259.out;have hnb30:=NB259_257.out;have hnc30:=NB257_259.out;obtain ⟨hcz31_0,hcz31_1,hfz31_0,hfz31_1⟩:=cB2 BK259.out))
      have n0_ : Aside0 (((w28.setCell ⟨gb259,0,none⟩ (.int .i64 ((rd_T67 l0_0 x11_1).f0))).setCell ⟨gb259,1,none⟩ (.slice A258_1 ((rd_T67 l0_0 x11_1).f1).length c258_1)).heap[gb256]? = some (.cells #[.slice (some ad258) l0_0.length c0_0,.int .i64 a0_1] 35 (0,0))):=⟨by (with_reducible repeat first|apply ze|apply zf|apply zg);refine cS2 ?_ NB256_259.out;(with_reducible repeat first|apply ze|apply zf|apply zg);exact BK256.out⟩;have n1_ : Aside0 (((w28.setCell ⟨gb259,0,none⟩ (.int .i64 ((rd_T67 l0_0 x11_1).f0))).setCell ⟨gb259,1,none⟩ (.slice A258_1 ((rd_T67 l0_0 x11_1).f1).length c258_1)).heap[gb257]? = some (.cells #[.string a1_0,.int .i64 a1_1] 51 (0,0))):=⟨by (with_reducible repeat first|apply ze|apply zf|apply zg);refine cS2 ?_ NB257_259.out;(with_reducible repeat first|apply ze|apply zf|apply zg);exact BK257.out⟩;have n2_ : Aside0 (((w28.setCell ⟨gb259,0,none⟩ (.int .i64 ((rd_T67 l0_0 x11_1).f0))).setCell ⟨gb259,1,none⟩ (.slice A258_1 ((rd_T67 l0_0 x11_1).f1).length c258_1)).heap[gb259]? = some (.cells #[.int .i64 ((rd_T67 l0_0 x11_1).f0),.slice A258_1 ((rd_T67 l0_0 x11_1).f1).length c258_1] 67 (0,0))):=⟨by (with_reducible repeat first|apply ze|apply zf|apply zg);refine zL (cs:=#[.int .i64 ((rd_T67 l0_0 x11_1).f0),.slice none 0 0]) ?_ 1 _ rfl;(with_reducible repeat first|apply ze|apply zf|apply zg);refine zL (cs:=#[.int .i64 0,.slice none 0 0]) ?_ 0 _ rfl;(with_reducible repeat first|apply ze|apply zf|apply zg);exact BK259.out⟩;have n3_ : Aside0 (Below w.heap.size w ((w28.setCell ⟨gb259,0,none⟩ (.int .i64 ((rd_T67 l0_0 x11_1).f0))).setCell ⟨gb259,1,none⟩ (.slice A258_1 ((rd_T67 l0_0 x11_1).f1).length c258_1))):=⟨by repeat (with_reducible first|exact HB.out|apply za|apply zb|apply zc|refine zd ?_ GE256.out|refine zd ?_ GE257.out|refine zd ?_ GE259.out)⟩;(try clear BK256);(try clear BK257);(try clear BK259);(try clear HB);generalize ((w28.setCell ⟨gb259,0,none⟩ (.int .i64 ((rd_T67 l0_0 x11_1).f0))).setCell ⟨gb259,1,none⟩ (.slice A258_1 ((rd_T67 l0_0 x11_1).f1).length c258_1))=w32 at n0_ n1_ n2_ n3_ ⊢;have BK256:=n0_;have BK257:=n1_;have BK259:=n2_;have HB:=n3_;clear n0_ n1_ n2_ n3_;replace BK256:=zh (zf BK256.out);replace BK257:=zh (zf BK257.out);replace BK259:=zh (zf BK259.out);replace HB:=zh (zc HB.out);refine start_ (n:=13) (S:=fun w' => w'.cell? ⟨gb259,0,none⟩=some (.int .i64 ((rd_T67 l0_0 x11_1).f0))∧w'.cell? ⟨gb259,1,none⟩=some (.slice A258_1 ((rd_T67 l0_0 x11_1).f1).length c258_1)) (ds:=[]) (bm_ 0 13) (by kernel_rfl) rfl rfl ⟨(zz BK259.out 0).trans rfl,(zz BK259.out 1).trans rfl⟩ (fun hHeld => ?_);refine with_tabW Fd.tab5 Fd.bits5 (fun HT_ HW_ => ?_);generalize w32.drew=w33 at BK256 BK257 BK259 HB hHeld ⊢;refine pure_ (i:=0) (N:=some 16) (v:=?_) (a':=?_) (bm_ 1 13) rfl rfl (any_of HT_.out (by kernel_rfl)) (fun _ _ _ h => h) (Or.inl ⟨by rfl,?_⟩) ?_ ?_;rotate_left
      ·
       intro w'
       go_simp
       with_reducible rfl
      rotate_left
      ·
       simp only [Act.put,zi,zj,zk,zG,zH]
       rfl
      refine take_ (i:=1) (N:=some 17) (v:=?_) (a':=?_) (bm_ 2 13) rfl rfl (yo HT_.out HW_.out (by kernel_rfl)) (fun _ _ _ h => h) (Or.inl ⟨by rfl,?_⟩) hHeld ?_ ?_;rotate_left
      ·
       rintro w' ⟨s0,s1⟩
       go_simp
       with_reducible rfl
      rotate_left
      ·
       simp only [Act.put,zi,zj,zk,zG,zH]
       rfl
      refine pure_ (i:=2) (N:=some 18) (v:=?_) (a':=?_) (bm_ 3 13) rfl rfl (any_of HT_.out (by kernel_rfl)) (fun _ _ _ h => h) (Or.inl ⟨by rfl,?_⟩) ?_ ?_;rotate_left
      ·
       intro w'
       go_simp
       with_reducible rfl
      rotate_left
      ·
       simp only [Act.put,zi,zj,zk,zG,zH]
       rfl
      refine pure_ (i:=3) (N:=some 19) (v:=?_) (a':=?_) (bm_ 4 13) rfl rfl (any_of HT_.out (by kernel_rfl)) (fun _ _ _ h => h) (Or.inl ⟨by rfl,?_⟩) ?_ ?_;rotate_left
      ·
       intro w'
       go_simp
       with_reducible rfl
      rotate_left
      ·
       simp only [Act.put,zi,zj,zk,zG,zH]
       rfl
      refine pure_ (i:=4) (N:=some 20) (v:=?_) (a':=?_) (bm_ 5 13) rfl rfl (any_of HT_.out (by kernel_rfl)) (fun _ _ _ h => h) (Or.inl ⟨by rfl,?_⟩) ?_ ?_;rotate_left
      ·
       intro w'
       go_simp
       with_reducible rfl
      rotate_left
      ·
       simp only [Act.put,zi,zj,zk,zG,zH]
       rfl
      refine pure_ (i:=5) (N:=some 21) (v:=undef) (a':=?_) (bm_ 6 13) rfl rfl (any_of HT_.out (by kernel_rfl)) (fun _ _ _ h => h) (Or.inr ⟨by rfl,rfl⟩) ?_ ?_;rotate_left
      ·
       simp only [Act.put,zi,zj,zk,zG,zH]
       rfl
      refine pure_ (i:=6) (N:=some 22) (v:=undef) (a':=?_) (bm_ 7 13) rfl rfl (any_of HT_.out (by kernel_rfl)) (fun _ _ _ h => h) (Or.inr ⟨by rfl,rfl⟩) ?_ ?_;rotate_left
      ·
       simp only [Act.put,zi,zj,zk,zG,zH]
       rfl
      refine pure_ (i:=7) (N:=some 23) (v:=undef) (a':=?_) (bm_ 8 13) rfl rfl (any_of HT_.out (by kernel_rfl)) (fun _ _ _ h => h) (Or.inr ⟨by rfl,rfl⟩) ?_ ?_;rotate_left
      ·
       simp only [Act.put,zi,zj,zk,zG,zH]
       rfl
      refine pure_ (i:=8) (N:=some 24) (v:=undef) (a':=?_) (bm_ 9 13) rfl rfl (any_of HT_.out (by kernel_rfl)) (fun _ _ _ h => h) (Or.inr ⟨by rfl,rfl⟩) ?_ ?_;rotate_left
      ·
       simp only [Act.put,zi,zj,zk,zG,zH]
       rfl
      refine pure_ (i:=9) (N:=some 25) (v:=undef) (a':=?_) (bm_ 10 13) rfl rfl (any_of HT_.out (by kernel_rfl)) (fun _ _ _ h => h) (Or.inr ⟨by rfl,rfl⟩) ?_ ?_;rotate_left
      ·
       simp only [Act.put,zi,zj,zk,zG,zH]
       rfl
      refine pure_ (i:=10) (N:=some 26) (v:=undef) (a':=?_) (bm_ 11 13) rfl rfl (any_of HT_.out (by kernel_rfl)) (fun _ _ _ h => h) (Or.inr ⟨by rfl,rfl⟩) ?_ ?_;rotate_left
      ·
       simp only [Act.put,zi,zj,zk,zG,zH]
       rfl
      refine pure_ (i:=11) (N:=some 27) (v:=undef) (a':=?_) (bm_ 12 13) rfl rfl (any_of HT_.out (by kernel_rfl)) (fun _ _ _ h => h) (Or.inr ⟨by rfl,rfl⟩) ?_ ?_;rotate_left
      ·
       simp only [Act.put,zi,zj,zk,zG,zH]
       rfl
      refine pure_ (i:=12) (N:=some 28) (v:=?_) (a':=?_) (bm_ 13 13) rfl rfl (any_of HT_.out (by kernel_rfl)) (fun _ _ _ h => h) (Or.inl ⟨by rfl,?_⟩) ?_ ?_;rotate_left
      ·
       intro w'
       go_simp
       with_reducible rfl
      rotate_left
      ·
       simp only [Act.put,zi,zj,zk,zG,zH]
       rfl
      refine done_ (done_of HT_.out (by kernel_rfl)) ?_
      try go_wp2
      go_roundg k1
      case measure => have:=HK1.out;omega
      case rel => exact ⟨(x5_1),(wrap64 (x11_1 + 1)),(by first|rfl|(simp;done)|(simp [*];done)),(by first|rfl|(simp;done)|(simp [*];done)),H',⟨by have:=HK1.out;omega⟩,⟨by (with_reducible repeat first|apply ze|apply zf|apply zg);exact BK256.out⟩,⟨by (with_reducible repeat first|apply ze|apply zf|apply zg);exact BK257.out⟩,⟨by repeat (with_reducible first|exact HB.out|apply za|apply zb|apply zc|refine zd ?_ GE256.out|refine zd ?_ GE257.out|refine zd ?_ GE259.out)⟩⟩
     rw [if_neg c9] at H;exact absurd H (by simp)
    rw [if_neg c8] at H;exact absurd H (by simp)
   rw [if_neg c7] at H;have c7b0 : decide (x11_1<(l0_0.length : Int))=false:=decide_eq_false c7;clear c7;obtain rfl:=zU H
   go_wp2
   go_ret
   exact ⟨by first|rfl|(simp [yt,yu] <;> rfl)|(simp [*,yt,yu] <;> rfl),by repeat (with_reducible first|exact HB.out|apply za|apply zb|apply zc|refine zd ?_ GE256.out|refine zd ?_ GE257.out)⟩

end Go.Proofs.Ytamikhmpfmgofaa.Q
end
