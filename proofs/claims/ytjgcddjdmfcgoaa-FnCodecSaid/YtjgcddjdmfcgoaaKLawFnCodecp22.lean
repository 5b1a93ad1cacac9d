/- Texts of this claim, merged by a program of this session. -/
import Derived.Lib.Strings
import Derived.Lib.Slices
import Derived.Lib.Walk
import Derived.Lib.Bytealg
import Derived.Test.YtjgcddjdmfcgoaaKLawFnCodecp12
import Derived.Test.YtjgcddjdmfcgoaaKLawFnCodecp14
import Derived.Test.YtjgcddjdmfcgoaaKLawFnCodecp16
import Derived.Test.YtjgcddjdmfcgoaaKLawFnCodecp17
import Derived.Test.YtjgcddjdmfcgoaaKLawFnCodecp18
import Derived.Test.YtjgcddjdmfcgoaaKLawFnCodecp20
import Derived.Test.YtjgcddjdmfcgoaaKLawFnCodecp21
section
namespace Go.Proofs.Ytjgcddjdmfcgoaa.Q
open Go.RowKit Go.Proofs.YtjgcddjdmfcgoaaW.PrintWords Go.Proofs.YtjgcddjdmfcgoaaW.PrintLast Go.Proofs.YtjgcddjdmfcgoaaW.PrintMore
attribute [local go_sem] max2_int min2_int max_two min_two max_three min_three max_four min_four max2_str min2_str str_geq str_gtr str_leq
set_option linter.unusedVariables false
set_option linter.unusedSimpArgs false



def errW : Option Int→Value
 | none => .nilIface
 | some c => .iface 0 (.int .i64 c)
theorem errW_none : errW none = .nilIface:=rfl
theorem errW_some (c : Int) : errW (some c) = .iface 0 (.int .i64 c):=rfl

theorem info5 : (Try.prog.info? 5).map (fun i=>(i.zero,i.size,i.bytes))=some (some (.int .u8 0),1,1):=by kernel_rfl
theorem info44 : (Try.prog.info? 44).map (fun i=>(i.zero,i.size,i.bytes))=some (some (.agg #[(.int .i64 0),(.int .i64 0),(.string ⟨#[]⟩)]),3,32):=by kernel_rfl
theorem info109 : (Try.prog.info? 109).map (fun i=>(i.zero,i.size,i.bytes))=some (some (.agg #[(.string ⟨#[]⟩),(.int .i64 0),(.int .i64 0),(.string ⟨#[]⟩)]),4,48):=by kernel_rfl
-- the values' own types
structure S28 where
 f0 : ByteArray
 f1 : Int
def z28 : S28:=⟨(⟨#[]⟩ : ByteArray),(0 : Int)⟩
def k28 : Kd S28:=Kd.iso (Kd.pair Kd.string (Kd.int .i64)) (fun x : S28=>(x.f0,x.f1))
def rd_T28 (xs : List S28) (i : Int) : S28:=xs.getD i.toNat z28
def rd_L4 (xs : List (List S28)) (i : Int) : (List S28):=xs.getD i.toNat ([] : List S28)
structure S63 where
 f0 : Int
 f1 : (List S28)
def z63 : S63:=⟨(0 : Int),([] : List S28)⟩
def k63 : Kd S63:=Kd.iso (Kd.pair (Kd.int .i64) (Kd.slice 28 k28)) (fun x : S63=>(x.f0,x.f1))
def rd_T63 (xs : List S63) (i : Int) : S63:=xs.getD i.toNat z63
structure S44 where
 f0 : Int
 f1 : Int
 f2 : ByteArray
def z44 : S44:=⟨(0 : Int),(0 : Int),(⟨#[]⟩ : ByteArray)⟩
def k44 : Kd S44:=Kd.iso (Kd.pair (Kd.int .i64) (Kd.pair (Kd.int .i64) Kd.string)) (fun x : S44=>(x.f0,x.f1,x.f2))
theorem k44_open {w : World} {x : S44} {cs : List Value} (h : k44.K w x cs) : cs=[.int .i64 x.f0,.int .i64 x.f1,.string x.f2]:=by
 obtain ⟨_,_,rfl,rfl,⟨_,_,rfl,rfl,rfl⟩⟩:=h
 exact rfl
theorem k44_mkM (w : World) (base : Nat) (ok : Nat→Prop) (x : S44)  : k44.M w base ok x [.int .i64 x.f0,.int .i64 x.f1,.string x.f2]:=⟨[.int .i64 x.f0],[.int .i64 x.f1,.string x.f2],rfl,rfl,⟨[.int .i64 x.f1],[.string x.f2],rfl,rfl,rfl⟩⟩
def rd_T44 (xs : List S44) (i : Int) : S44:=xs.getD i.toNat z44
theorem at_T44 {w : World} {A : Option Addr} {n : Nat} {xs : List S44} (h : Kd.C k44 w A n xs) (i : Int) (h0 : 0≤i) (h1 : i<n) : ∃ ad ,A=some ad∧w.cell? (ad.add (i.toNat*3))=some (.int .i64 (rd_T44 xs i).f0)∧w.cell? ⟨(ad.add (i.toNat*3)).block,(ad.add (i.toNat*3)).off+1,none⟩=some (.int .i64 (rd_T44 xs i).f1)∧w.cell? ⟨(ad.add (i.toNat*3)).block,(ad.add (i.toNat*3)).off+2,none⟩=some (.string (rd_T44 xs i).f2):=by
 obtain ⟨ad,c,e,_,hK,hc0⟩:=Kd.C_get h z44 i h0 h1
 have hc : ∀ j u,c[j]? = some u→w.cell? (ad.add (i.toNat*3+j))=some u:=hc0
 obtain rfl:=k44_open hK
 exact ⟨ad,e,hc 0 _ rfl,by rw [← add_field _ _ 1 (by omega)];exact hc 1 _ rfl,by rw [← add_field _ _ 2 (by omega)];exact hc 2 _ rfl⟩

structure S109 where
 f0 : ByteArray
 f1 : S44
def z109 : S109:=⟨(⟨#[]⟩ : ByteArray),z44⟩
def k109 : Kd S109:=Kd.iso (Kd.pair Kd.string k44) (fun x : S109=>(x.f0,x.f1))
theorem k109_open {w : World} {x : S109} {cs : List Value} (h : k109.K w x cs) : cs=[.string x.f0,.int .i64 x.f1.f0,.int .i64 x.f1.f1,.string x.f1.f2]:=by
 obtain ⟨_,_,rfl,rfl,s1⟩:=h
 obtain rfl:=k44_open s1
 exact rfl
theorem k109_mkM (w : World) (base : Nat) (ok : Nat→Prop) (x : S109)  : k109.M w base ok x [.string x.f0,.int .i64 x.f1.f0,.int .i64 x.f1.f1,.string x.f1.f2]:=⟨[.string x.f0],[.int .i64 x.f1.f0,.int .i64 x.f1.f1,.string x.f1.f2],rfl,rfl,(k44_mkM w base ok x.f1 )⟩
def rd_T109 (xs : List S109) (i : Int) : S109:=xs.getD i.toNat z109
theorem at_T109 {w : World} {A : Option Addr} {n : Nat} {xs : List S109} (h : Kd.C k109 w A n xs) (i : Int) (h0 : 0≤i) (h1 : i<n) : ∃ ad ,A=some ad∧w.cell? (ad.add (i.toNat*4))=some (.string (rd_T109 xs i).f0)∧w.cell? ⟨(ad.add (i.toNat*4)).block,(ad.add (i.toNat*4)).off+1,none⟩=some (.int .i64 (rd_T109 xs i).f1.f0)∧w.cell? ⟨(ad.add (i.toNat*4)).block,(ad.add (i.toNat*4)).off+2,none⟩=some (.int .i64 (rd_T109 xs i).f1.f1)∧w.cell? ⟨(ad.add (i.toNat*4)).block,(ad.add (i.toNat*4)).off+3,none⟩=some (.string (rd_T109 xs i).f1.f2):=by
 obtain ⟨ad,c,e,_,hK,hc0⟩:=Kd.C_get h z109 i h0 h1
 have hc : ∀ j u,c[j]? = some u→w.cell? (ad.add (i.toNat*4+j))=some u:=hc0
 obtain rfl:=k109_open hK
 exact ⟨ad,e,hc 0 _ rfl,by rw [← add_field _ _ 1 (by omega)];exact hc 1 _ rfl,by rw [← add_field _ _ 2 (by omega)];exact hc 2 _ rfl,by rw [← add_field _ _ 3 (by omega)];exact hc 3 _ rfl⟩

def rd_L8 (xs : List (List Int)) (i : Int) : (List Int):=xs.getD i.toNat ([] : List Int)
abbrev bm_ (i n : Nat) : Array Bool:=(List.replicate i true++List.replicate (n - i) false).toArray
abbrev za:=@below_alloc
abbrev zb:=@pw_below_drewN
abbrev zc:=@below_drew1
abbrev zd:=@below_set
abbrev ze:=@blk_drewN
abbrev zf:=@blk_drew
abbrev zg:=@blk_alloc
abbrev zh:=@Aside0.mk
abbrev zi:=@List.setIfInBounds_toArray
abbrev zj:=@List.set_cons_zero
abbrev zk:=@List.set_cons_succ
abbrev zl:=@World.block_lt_of_cell?
abbrev zm:=@Kd.R_alloc
abbrev zn:=@Kd.R_drewN
abbrev zo:=@Kd.R_drew
abbrev zp:=@Kept.drewN
abbrev zq:=@Kept.drew
abbrev zr:=@Kept.alloc
abbrev zs:=@Kept.setCell
abbrev zt:=@List.map_toArray
abbrev zu:=@List.map_cons
abbrev zv:=@List.map_nil
abbrev zw:=@List.length_drop
abbrev zx:=@List.length_take
abbrev zy:=@of_decide_eq_true
abbrev zz:=@blk_cell
abbrev zA:=@blk_frozen
abbrev zB:=@below_size
abbrev zC:=@below_step
abbrev zD:=@blk_below
abbrev zE:=@Kd.R_far
abbrev zF:=@add_block
abbrev zG:=@i64_w
abbrev zH:=@i32_w
abbrev zI:=@box_event
abbrev zJ:=@gate_callee
abbrev zK:=@gate_dst
abbrev zL:=@blk_put
abbrev zM:=@Kd.R_mono
abbrev zN:=@LeO.none
abbrev zO:=@LeO.bind
abbrev zP:=@LeO.ite
abbrev zQ:=@LeO.refl
abbrev zR:=@cell_far
abbrev zS:=@blk_far
abbrev zT:=@Option.bind_eq_some_iff
abbrev zU:=@Option.some.inj
abbrev zV:=@Int.ofNat_lt
abbrev zW:=@Int.ofNat_le
abbrev zX:=@bne_eq_false_iff_eq
abbrev zY:=@beq_eq_false_iff_ne
abbrev zZ:=@bne_iff_ne
abbrev ya:=@beq_iff_eq
abbrev yb:=@Bool.eq_false_iff
abbrev yc:=@Nat.ne_of_lt
abbrev yd:=@Nat.ne_of_gt
abbrev ye:=@Nat.le_refl
abbrev yf:=@Kd.R_types
abbrev yg:=@Kd.R_below
abbrev yh:=@Kd.R_reads'
abbrev yi:=@blk_lt
abbrev yj:=@goesL_
abbrev yk:=@Kd.R_slice
abbrev yl:=@KeepBut.set_
abbrev ym:=@keep_drewN
abbrev yn:=@keep_alloc
abbrev yo:=@take_ofW
abbrev yp:=@Drawn0.refl
abbrev yq:=@Drawn0.step
abbrev yr:=@gt_iff_lt
abbrev ys:=@ge_iff_le
abbrev yt:=@errW_none
abbrev yu:=@errW_some
abbrev yv:=@Kd.R_away
abbrev yw:=@blk_grown
abbrev yx:=@keep_drew
abbrev yy:=@Kd.R_lower
abbrev yz:=@gate_guard
abbrev yA:=@Kept.of_grown
abbrev yB:=@gate_builtin
theorem cB1 {w : World} {g : Nat} {t : TypeId} {a0 : Value} (h : w.heap[g]? = some (.cells #[a0] t (0, 0))) : w.cell? ⟨g, 0, none⟩ = some a0 ∧ w.frozen? ⟨g, 0, none⟩ = false := ⟨blk_cell h 0, blk_frozen h 0⟩
theorem cB2 {w : World} {g : Nat} {t : TypeId} {a0 a1 : Value} (h : w.heap[g]? = some (.cells #[a0, a1] t (0, 0))) : w.cell? ⟨g, 0, none⟩ = some a0 ∧ w.cell? ⟨g, 1, none⟩ = some a1 ∧ w.frozen? ⟨g, 0, none⟩ = false ∧ w.frozen? ⟨g, 1, none⟩ = false := ⟨blk_cell h 0, blk_cell h 1, blk_frozen h 0, blk_frozen h 1⟩
theorem cB3 {w : World} {g : Nat} {t : TypeId} {a0 a1 a2 : Value} (h : w.heap[g]? = some (.cells #[a0, a1, a2] t (0, 0))) : w.cell? ⟨g, 0, none⟩ = some a0 ∧ w.cell? ⟨g, 1, none⟩ = some a1 ∧ w.cell? ⟨g, 2, none⟩ = some a2 ∧ w.frozen? ⟨g, 0, none⟩ = false ∧ w.frozen? ⟨g, 1, none⟩ = false ∧ w.frozen? ⟨g, 2, none⟩ = false := ⟨blk_cell h 0, blk_cell h 1, blk_cell h 2, blk_frozen h 0, blk_frozen h 1, blk_frozen h 2⟩
theorem cB4 {w : World} {g : Nat} {t : TypeId} {a0 a1 a2 a3 : Value} (h : w.heap[g]? = some (.cells #[a0, a1, a2, a3] t (0, 0))) : w.cell? ⟨g, 0, none⟩ = some a0 ∧ w.cell? ⟨g, 1, none⟩ = some a1 ∧ w.cell? ⟨g, 2, none⟩ = some a2 ∧ w.cell? ⟨g, 3, none⟩ = some a3 ∧ w.frozen? ⟨g, 0, none⟩ = false ∧ w.frozen? ⟨g, 1, none⟩ = false ∧ w.frozen? ⟨g, 2, none⟩ = false ∧ w.frozen? ⟨g, 3, none⟩ = false := ⟨blk_cell h 0, blk_cell h 1, blk_cell h 2, blk_cell h 3, blk_frozen h 0, blk_frozen h 1, blk_frozen h 2, blk_frozen h 3⟩
theorem cB5 {w : World} {g : Nat} {t : TypeId} {a0 a1 a2 a3 a4 : Value} (h : w.heap[g]? = some (.cells #[a0, a1, a2, a3, a4] t (0, 0))) : w.cell? ⟨g, 0, none⟩ = some a0 ∧ w.cell? ⟨g, 1, none⟩ = some a1 ∧ w.cell? ⟨g, 2, none⟩ = some a2 ∧ w.cell? ⟨g, 3, none⟩ = some a3 ∧ w.cell? ⟨g, 4, none⟩ = some a4 ∧ w.frozen? ⟨g, 0, none⟩ = false ∧ w.frozen? ⟨g, 1, none⟩ = false ∧ w.frozen? ⟨g, 2, none⟩ = false ∧ w.frozen? ⟨g, 3, none⟩ = false ∧ w.frozen? ⟨g, 4, none⟩ = false := ⟨blk_cell h 0, blk_cell h 1, blk_cell h 2, blk_cell h 3, blk_cell h 4, blk_frozen h 0, blk_frozen h 1, blk_frozen h 2, blk_frozen h 3, blk_frozen h 4⟩
theorem cB6 {w : World} {g : Nat} {t : TypeId} {a0 a1 a2 a3 a4 a5 : Value} (h : w.heap[g]? = some (.cells #[a0, a1, a2, a3, a4, a5] t (0, 0))) : w.cell? ⟨g, 0, none⟩ = some a0 ∧ w.cell? ⟨g, 1, none⟩ = some a1 ∧ w.cell? ⟨g, 2, none⟩ = some a2 ∧ w.cell? ⟨g, 3, none⟩ = some a3 ∧ w.cell? ⟨g, 4, none⟩ = some a4 ∧ w.cell? ⟨g, 5, none⟩ = some a5 ∧ w.frozen? ⟨g, 0, none⟩ = false ∧ w.frozen? ⟨g, 1, none⟩ = false ∧ w.frozen? ⟨g, 2, none⟩ = false ∧ w.frozen? ⟨g, 3, none⟩ = false ∧ w.frozen? ⟨g, 4, none⟩ = false ∧ w.frozen? ⟨g, 5, none⟩ = false := ⟨blk_cell h 0, blk_cell h 1, blk_cell h 2, blk_cell h 3, blk_cell h 4, blk_cell h 5, blk_frozen h 0, blk_frozen h 1, blk_frozen h 2, blk_frozen h 3, blk_frozen h 4, blk_frozen h 5⟩
theorem cB7 {w : World} {g : Nat} {t : TypeId} {a0 a1 a2 a3 a4 a5 a6 : Value} (h : w.heap[g]? = some (.cells #[a0, a1, a2, a3, a4, a5, a6] t (0, 0))) : w.cell? ⟨g, 0, none⟩ = some a0 ∧ w.cell? ⟨g, 1, none⟩ = some a1 ∧ w.cell? ⟨g, 2, none⟩ = some a2 ∧ w.cell? ⟨g, 3, none⟩ = some a3 ∧ w.cell? ⟨g, 4, none⟩ = some a4 ∧ w.cell? ⟨g, 5, none⟩ = some a5 ∧ w.cell? ⟨g, 6, none⟩ = some a6 ∧ w.frozen? ⟨g, 0, none⟩ = false ∧ w.frozen? ⟨g, 1, none⟩ = false ∧ w.frozen? ⟨g, 2, none⟩ = false ∧ w.frozen? ⟨g, 3, none⟩ = false ∧ w.frozen? ⟨g, 4, none⟩ = false ∧ w.frozen? ⟨g, 5, none⟩ = false ∧ w.frozen? ⟨g, 6, none⟩ = false := ⟨blk_cell h 0, blk_cell h 1, blk_cell h 2, blk_cell h 3, blk_cell h 4, blk_cell h 5, blk_cell h 6, blk_frozen h 0, blk_frozen h 1, blk_frozen h 2, blk_frozen h 3, blk_frozen h 4, blk_frozen h 5, blk_frozen h 6⟩
theorem cB8 {w : World} {g : Nat} {t : TypeId} {a0 a1 a2 a3 a4 a5 a6 a7 : Value} (h : w.heap[g]? = some (.cells #[a0, a1, a2, a3, a4, a5, a6, a7] t (0, 0))) : w.cell? ⟨g, 0, none⟩ = some a0 ∧ w.cell? ⟨g, 1, none⟩ = some a1 ∧ w.cell? ⟨g, 2, none⟩ = some a2 ∧ w.cell? ⟨g, 3, none⟩ = some a3 ∧ w.cell? ⟨g, 4, none⟩ = some a4 ∧ w.cell? ⟨g, 5, none⟩ = some a5 ∧ w.cell? ⟨g, 6, none⟩ = some a6 ∧ w.cell? ⟨g, 7, none⟩ = some a7 ∧ w.frozen? ⟨g, 0, none⟩ = false ∧ w.frozen? ⟨g, 1, none⟩ = false ∧ w.frozen? ⟨g, 2, none⟩ = false ∧ w.frozen? ⟨g, 3, none⟩ = false ∧ w.frozen? ⟨g, 4, none⟩ = false ∧ w.frozen? ⟨g, 5, none⟩ = false ∧ w.frozen? ⟨g, 6, none⟩ = false ∧ w.frozen? ⟨g, 7, none⟩ = false := ⟨blk_cell h 0, blk_cell h 1, blk_cell h 2, blk_cell h 3, blk_cell h 4, blk_cell h 5, blk_cell h 6, blk_cell h 7, blk_frozen h 0, blk_frozen h 1, blk_frozen h 2, blk_frozen h 3, blk_frozen h 4, blk_frozen h 5, blk_frozen h 6, blk_frozen h 7⟩
theorem cD {w0 w w1 : World} {g : Nat} {o : Obj} (_ : w0.heap[g]? = some o) (h : w.heap[g]? = some o) (hb : Below w.heap.size w w1) : w1.heap[g]? = some o := blk_below h hb
theorem cH {w0 w w1 : World} {g : Nat} (h : Below w0.heap.size w0 w) (hb : Below w.heap.size w w1) (hg : g = w.heap.size) : w0.heap.size ≤ g ∧ Below w0.heap.size w0 w1 := ⟨hg ▸ h.size, below_step h hb⟩
theorem cS2 {w : World} {g b i0 i1 : Nat} {u0 u1 : Value} {t : TypeId} {cs : Array Value} (h : w.heap[g]? = some (.cells cs t (0, 0))) (hp : g ≠ b) : ((w.setCell ⟨b, i0, none⟩ u0).setCell ⟨b, i1, none⟩ u1).heap[g]? = some (.cells cs t (0, 0)) := blk_far (blk_far h hp u0) hp u1
theorem cS3 {w : World} {g b i0 i1 i2 : Nat} {u0 u1 u2 : Value} {t : TypeId} {cs : Array Value} (h : w.heap[g]? = some (.cells cs t (0, 0))) (hp : g ≠ b) : (((w.setCell ⟨b, i0, none⟩ u0).setCell ⟨b, i1, none⟩ u1).setCell ⟨b, i2, none⟩ u2).heap[g]? = some (.cells cs t (0, 0)) := blk_far (blk_far (blk_far h hp u0) hp u1) hp u2
theorem cS4 {w : World} {g b i0 i1 i2 i3 : Nat} {u0 u1 u2 u3 : Value} {t : TypeId} {cs : Array Value} (h : w.heap[g]? = some (.cells cs t (0, 0))) (hp : g ≠ b) : ((((w.setCell ⟨b, i0, none⟩ u0).setCell ⟨b, i1, none⟩ u1).setCell ⟨b, i2, none⟩ u2).setCell ⟨b, i3, none⟩ u3).heap[g]? = some (.cells cs t (0, 0)) := blk_far (blk_far (blk_far (blk_far h hp u0) hp u1) hp u2) hp u3
theorem cS5 {w : World} {g b i0 i1 i2 i3 i4 : Nat} {u0 u1 u2 u3 u4 : Value} {t : TypeId} {cs : Array Value} (h : w.heap[g]? = some (.cells cs t (0, 0))) (hp : g ≠ b) : (((((w.setCell ⟨b, i0, none⟩ u0).setCell ⟨b, i1, none⟩ u1).setCell ⟨b, i2, none⟩ u2).setCell ⟨b, i3, none⟩ u3).setCell ⟨b, i4, none⟩ u4).heap[g]? = some (.cells cs t (0, 0)) := blk_far (blk_far (blk_far (blk_far (blk_far h hp u0) hp u1) hp u2) hp u3) hp u4

def IsS77 (w0 W : World) (g : Nat) (f0 : List Int) (f1 : Int) (f2 : Int) : Prop:=∃ A0 c0,W.heap[g]? = some (.cells #[.slice A0 f0.length c0,.int .i64 f1,.int .i64 f2] 77 (0,0))∧w0.heap.size≤g∧Kd.C (Kd.int .u8) w0 A0 f0.length f0
theorem IsS77.grown {w0 W : World} {g : Nat} {f0 : List Int} {f1 : Int} {f2 : Int} {W1 : World} {row : Option Nat} (h : IsS77 w0 W g f0 f1 f2) (hw : W.grownBy W1 row) (hne : some g≠row) : IsS77 w0 W1 g f0 f1 f2:=by
 obtain ⟨A0,c0,hb,hg,hr0⟩:=h;exact ⟨A0,c0,yw hb hw hne,hg,hr0⟩
theorem IsS77.fresh {w0 W : World} {g : Nat} {f0 : List Int} {f1 : Int} {f2 : Int} (h : IsS77 w0 W g f0 f1 f2) : ∀ k,W.heap.size≤k→k≠g:=by
 obtain ⟨A0,c0,hb,hg,hr0⟩:=h;exact Kd.freshB hb
theorem IsS77.kept {w0 W : World} {g : Nat} {f0 : List Int} {f1 : Int} {f2 : Int} {W1 : World} {S : Nat→Prop} (h : IsS77 w0 W g f0 f1 f2) (hk : Kept W W1 S) (hne : ¬ S g) : IsS77 w0 W1 g f0 f1 f2:=by
 obtain ⟨A0,c0,hb,hg,hr0⟩:=h;exact ⟨A0,c0,blk_kept hb hk hne,hg,hr0⟩
theorem IsS77.below {w0 W : World} {g : Nat} {f0 : List Int} {f1 : Int} {f2 : Int} {W1 : World} (h : IsS77 w0 W g f0 f1 f2) (hw : Below W.heap.size W W1) : IsS77 w0 W1 g f0 f1 f2:=h.grown (grown_of_below hw none) (by simp)
theorem IsS77.alloc {w0 W : World} {g : Nat} {f0 : List Int} {f1 : Int} {f2 : Int} (h : IsS77 w0 W g f0 f1 f2) (o : Obj) : IsS77 w0 (W.alloc o) g f0 f1 f2:=h.below (za (Below.refl _ _) o)
theorem IsS77.drewN {w0 W : World} {g : Nat} {f0 : List Int} {f1 : Int} {f2 : Int} (h : IsS77 w0 W g f0 f1 f2) (m : Nat) : IsS77 w0 (W.drewN m) g f0 f1 f2:=h
theorem IsS77.drew {w0 W : World} {g : Nat} {f0 : List Int} {f1 : Int} {f2 : Int} (h : IsS77 w0 W g f0 f1 f2) : IsS77 w0 W.drew g f0 f1 f2:=h
theorem IsS77.at_ {w0 W : World} {g : Nat} {f0 : List Int} {f1 : Int} {f2 : Int} {w' : World} {m : Nat} (hq : W.drewN m=w') (h : IsS77 w0 W g f0 f1 f2) : IsS77 w0 w' g f0 f1 f2:=by subst hq;exact IsS77.drewN h m
theorem IsS77.apart {w0 W : World} {g : Nat} {f0 : List Int} {f1 : Int} {f2 : Int} {α : Type} {d : Kd α} {e : Nat} {base : Nat} {ok : Nat→Prop} {v : Value} {xs : List α} (h : IsS77 w0 W g f0 f1 f2) (ho : d.R e W base ok v xs) (ht : ∀ q,q ∈ e :: d.E→q≠77) : d.R e W base (fun k=>ok k∧k≠g) v xs:=by
 obtain ⟨A0,c0,hb,hg,hr0⟩:=h;exact yf ho hb ht
theorem IsS77.own_ne {w0 W : World} {g : Nat} {f0 : List Int} {f1 : Int} {f2 : Int} {α : Type} {d : Kd α} {e : Nat} {base : Nat} {ok : Nat→Prop} {v : Value} {xs : List α} (h : IsS77 w0 W g f0 f1 f2) (ho : d.R e W base ok v xs) (ht : e≠77) : some g≠v.ownBlock:=by
 obtain ⟨A0,c0,hb,hg,hr0⟩:=h;exact Kd.R_ne ho hb ht
theorem IsS77.lt {w0 W : World} {g : Nat} {f0 : List Int} {f1 : Int} {f2 : Int} (h : IsS77 w0 W g f0 f1 f2) : g<W.heap.size:=by
 obtain ⟨A0,c0,hb,hg,hr0⟩:=h;exact yi hb
theorem IsS77.ge {w0 W : World} {g : Nat} {f0 : List Int} {f1 : Int} {f2 : Int} (h : IsS77 w0 W g f0 f1 f2) : w0.heap.size≤g:=by
 obtain ⟨A0,c0,hb,hg,hr0⟩:=h;exact hg
theorem IsS77.ne_blk {w0 W : World} {g : Nat} {f0 : List Int} {f1 : Int} {f2 : Int} {a : Nat} {cs : Array Value} {t : TypeId} {fr : Nat×Nat} (h : IsS77 w0 W g f0 f1 f2) (hb2 : W.heap[a]? = some (.cells cs t fr)) (ht : t≠77) : g≠a:=by
 obtain ⟨A0,c0,hb,hg,hr0⟩:=h;rintro rfl;rw [hb] at hb2;injection hb2 with hb2;injection hb2 with _ ht2;exact ht ht2.symm
theorem IsS77.far {w0 W : World} {g : Nat} {f0 : List Int} {f1 : Int} {f2 : Int} {p : Addr} (h : IsS77 w0 W g f0 f1 f2) (hne : g≠p.block) (u : Value) : IsS77 w0 (W.setCell p u) g f0 f1 f2:=by
 obtain ⟨A0,c0,hb,hg,hr0⟩:=h;exact ⟨A0,c0,zS hb hne u,hg,hr0⟩
theorem cellS77_0 {W : World} {g : Nat} {A0 : Option Addr} {c0 : Nat} {f0 : List Int} {f1 : Int} {f2 : Int} (h : W.heap[g]? = some (.cells #[.slice A0 f0.length c0,.int .i64 f1,.int .i64 f2] 77 (0,0))) : W.cell? ⟨g,0,none⟩=some (.slice A0 f0.length c0):=(zz h 0).trans rfl
theorem cellS77_1 {W : World} {g : Nat} {A0 : Option Addr} {c0 : Nat} {f0 : List Int} {f1 : Int} {f2 : Int} (h : W.heap[g]? = some (.cells #[.slice A0 f0.length c0,.int .i64 f1,.int .i64 f2] 77 (0,0))) : W.cell? ⟨g,1,none⟩=some (.int .i64 f1):=(zz h 1).trans rfl
theorem IsS77.set_1 {w0 W : World} {g : Nat} {f0 : List Int} {f1 : Int} {f2 : Int} (h : IsS77 w0 W g f0 f1 f2) (x : Int) : IsS77 w0 (W.setCell ⟨g,1,none⟩ (.int .i64 x)) g f0 x f2:=by
 obtain ⟨A0,c0,hb,hg,hr0⟩:=h;exact ⟨A0,c0,by simpa using blk_set hb 1 (.int .i64 x),hg,hr0⟩
theorem cellS77_2 {W : World} {g : Nat} {A0 : Option Addr} {c0 : Nat} {f0 : List Int} {f1 : Int} {f2 : Int} (h : W.heap[g]? = some (.cells #[.slice A0 f0.length c0,.int .i64 f1,.int .i64 f2] 77 (0,0))) : W.cell? ⟨g,2,none⟩=some (.int .i64 f2):=(zz h 2).trans rfl
theorem IsS77.set_2 {w0 W : World} {g : Nat} {f0 : List Int} {f1 : Int} {f2 : Int} (h : IsS77 w0 W g f0 f1 f2) (x : Int) : IsS77 w0 (W.setCell ⟨g,2,none⟩ (.int .i64 x)) g f0 f1 x:=by
 obtain ⟨A0,c0,hb,hg,hr0⟩:=h;exact ⟨A0,c0,by simpa using blk_set hb 2 (.int .i64 x),hg,hr0⟩
theorem IsS77.new (w0 W : World) (A0 : Option Addr) (c0 : Nat) (f0 : List Int) (f1 : Int) (f2 : Int) (hB : Below w0.heap.size w0 W) (hr0 : Kd.C (Kd.int .u8) w0 A0 f0.length f0) : IsS77 w0 (W.alloc (.cells #[.slice A0 f0.length c0,.int .i64 f1,.int .i64 f2] 77)) W.heap.size f0 f1 f2:=⟨A0,c0,by simpa using heap_alloc_new W _,hB.size,hr0⟩

def F0i.f (l0 : List Int) : Option (List Int×Int×Int):=some (l0,0,(l0.length : Int) % 1000)
set_option maxHeartbeats 8000000 in
set_option maxRecDepth 100000 in
theorem F0i.calls (A0 : Option Addr) (c0 : Nat) (l0 : List Int) (r1 : List Int) (r2 : Int) (r3 : Int) (w0 w : World) (hB : Below w0.heap.size w0 w) (hr0 : Kd.C (Kd.int .u8) w0 A0 l0.length l0) (hc0 : l0.length≤c0) (h : F0i.f l0=some (r1,r2,r3)) :
  Calls Try.prog 21 #[.slice A0 l0.length c0] w fun e w' => ∃ g_ : Nat,e = .returned (.pointer (some ⟨g_,0,none⟩))∧IsS77 w0 w' g_ r1 r2 r3∧Below w0.heap.size w0 w' ∧ Below w.heap.size w w':=by
 have hu77:=Try.underlying77;have HR0:=zh hr0;have HC0:=zh hc0;clear hr0 hc0;have HBW:=zh (Below.refl w.heap.size w);have HW0:=zh hB.size;have HB:=zh hB;clear hB;have H : (some (l0,0,(l0.length : Int) % 1000))=some (r1,r2,r3):=h;clear h;simp only [Option.some.injEq,Prod.mk.injEq] at H;obtain ⟨rfl,rfl,rfl⟩:=H
 go_enter Try.func21,Try.ntmps21
 go_wp2_with (first|((with_reducible refine zK (N:=8) rfl ?_);refine zI ?hg (N:=8) ?hd (cs:=#[.slice A0 l0.length c0,.int .i64 0,.int .i64 ((l0.length : Int) % 1000)]) (t:=77) ?hr ?_;(case hd=>rfl);(case hg=>rfl);(case hr=>go_simp <;> rfl);intro gb101 hg w2 hbox hb;replace HB:=zh (zC (by repeat (with_reducible first|exact HB.out|apply za|apply zb|apply zc)) hb);have BK101:=zh (hbox);have GW101:=zh ((by rw [hg];exact (zB (by repeat (with_reducible first|exact HBW.out|apply za|apply zb|apply zc))) : w.heap.size≤gb101));have GE101:=zh ((Nat.le_trans HW0.out (by rw [hg];exact (zB (by repeat (with_reducible first|exact HBW.out|apply za|apply zb|apply zc))) : w.heap.size≤gb101) : w0.heap.size≤gb101));replace HBW:=zh (zC HBW.out hb);clear hb hbox hg))
 go_ret
 exact ⟨_,rfl,(show IsS77 w0 _ gb101 l0 0 ((l0.length : Int) % 1000) from ⟨_,_,by (with_reducible repeat first|apply ze|apply zf|apply zg);exact BK101.out,GE101.out,HR0.out⟩),by repeat (with_reducible first|exact HB.out|apply za|apply zb|apply zc|refine zd ?_ GE101.out),by repeat (with_reducible first|exact HBW.out|apply za|apply zb|apply zc|refine zd ?_ GW101.out)⟩


def Fp.f (a0 : Int) (a1 : Int) (a2 : Int) : Option (Bool):=if a1≤a0 then (some (decide (a0≤a2))) else (some false)
set_option maxHeartbeats 8000000 in
set_option maxRecDepth 100000 in
theorem Fp.calls (a0 : Int) (a1 : Int) (a2 : Int) (r : Bool) (w : World) (h : Fp.f a0 a1 a2=some r) :
  Calls Try.prog 53 #[.int .i64 a0,.int .i64 a1,.int .i64 a2] w fun e w' => e = .returned (.bool r)∧Drawn0 w w':=by
 have H : (if a1≤a0 then (some (decide (a0≤a2))) else (some false))=some r:=h;clear h
 by_cases c4 : a1≤a0
 ·
  rw [if_pos c4] at H
  have c4b0 : decide (a1≤a0)=true:=decide_eq_true c4;clear c4;obtain rfl:=zU H
  go_enter Try.func53,Try.ntmps53
  go_wp2
  go_ret
  exact ⟨by first|rfl|(simp;done)|(simp [*];done),by repeat (first|exact yp _|apply yq)⟩
 rw [if_neg c4] at H;have c4b0 : decide (a1≤a0)=false:=decide_eq_false c4;clear c4;obtain rfl:=zU H
 go_enter Try.func53,Try.ntmps53
 go_wp2
 go_ret
 exact ⟨by first|rfl|(simp;done)|(simp [*];done),by repeat (first|exact yp _|apply yq)⟩


def Fn.l0 : Nat→ByteArray→Int→Int→Option (Int)
 | 0,_,_,_=>none
 | k+1,x0,x3,x4=>if x4<(x0.size : Int) then (if 0≤x4 then (Fn.l0 k x0 (wrap64 ((wrap64 (x3*256))+(wrap64 (bt x0 x4)))) (wrap64 (x4+1))) else (none)) else (some x3)
def Fn.f (k : Nat) (a0 : ByteArray) : Option (Int):=Fn.l0 k a0 0 0
theorem Fn.mono_l : ∀ k,(∀ y0 y1 y2,LeO (Fn.l0 k y0 y1 y2) (Fn.l0 (k+1) y0 y1 y2))
 | 0=>fun _ _ _ r h=>by simp [Fn.l0] at h
 | k+1=>by
  have ih0:=Fn.mono_l k;intro y0 y1 y2;unfold Fn.l0
  repeat' first|(with_reducible first|exact ih0 _ _ _|exact zQ _|exact zN _|refine zP ?_ ?_|refine zO ?_ (fun _=>?_))|refine zP ?_ ?_|refine zO ?_ (fun _=>?_)
theorem Fn.mono : ∀ a0 k,LeO (Fn.f k a0) (Fn.f (k+1) a0):=by
 intro a0 k;have ih0:=Fn.mono_l k;unfold Fn.f
 repeat' first|(with_reducible first|exact ih0 _ _ _|exact zQ _|exact zN _|refine zP ?_ ?_|refine zO ?_ (fun _=>?_))|refine zP ?_ ?_|refine zO ?_ (fun _=>?_)
set_option maxHeartbeats 8000000 in
set_option maxRecDepth 100000 in
theorem Fn.calls (k : Nat) (a0 : ByteArray) (r : Int) (w : World) (h : Fn.f k a0=some r) :
  Calls Try.prog 100 #[.string a0] w fun e w' => e = .returned (.int .i64 r)∧Drawn0 w w':=by
 have H : (Fn.l0 k a0 0 0)=some r:=h;clear h;have H':=zh H;clear H
 go_enter Try.func100,Try.ntmps100
 go_wp2
 go_loopg [3,4] k (fun kq v3 v4 w' => ∃ (x3_1 : Int) (x4_1 : Int),v3 = .int .i64 x3_1∧v4 = .int .i64 x4_1∧Aside0 (Fn.l0 kq a0 x3_1 x4_1=some r)∧Aside0 (kq≤k)∧Drawn0 w w')
 case atStart=>exact ⟨(0),(0),(by first|rfl|(simp;done)|(simp [*];done)),(by first|rfl|(simp;done)|(simp [*];done)),H',⟨ye _⟩,by repeat (first|exact yp _|apply yq)⟩
 case round =>
  clear H'
  try clear c1
  obtain ⟨x3_1,x4_1,rfl,rfl,HA,HK1,⟨m1,rfl⟩⟩:=hrel
  cases gk with
  | zero=>exact absurd HA.out (by simp [Fn.l0])
  | succ k1 =>
   have H:=HA.out;clear HA;simp only [Fn.l0] at H
   by_cases c2 : x4_1<(a0.size : Int)
   ·
    rw [if_pos c2] at H
    have c2b0 : decide (x4_1<(a0.size : Int))=true:=decide_eq_true c2;clear c2
    by_cases c3 : 0≤x4_1
    ·
     rw [if_pos c3] at H
     have c3b0 : decide (0≤x4_1)=true:=decide_eq_true c3;clear c3;have H':=zh H;clear H;have p4 : 0≤(x4_1 : Int):=zy (by first|(with_reducible assumption)|assumption);have q4 : x4_1<(a0.size : Int):=zy (by first|(with_reducible assumption)|assumption);have hx4:=bt_at a0 x4_1;replace p4:=eq_true p4;replace q4:=eq_true q4
     go_wp2
     go_roundg k1
     case measure=>have:=HK1.out;omega
     case rel=>exact ⟨(wrap64 ((wrap64 (x3_1*256))+(wrap64 (bt a0 x4_1)))),(wrap64 (x4_1+1)),(by first|rfl|(simp;done)|(simp [*];done)),(by first|rfl|(simp;done)|(simp [*];done)),H',⟨by have:=HK1.out;omega⟩,by repeat (first|exact yp _|apply yq)⟩
    rw [if_neg c3] at H;exact absurd H (by simp)
   rw [if_neg c2] at H;have c2b0 : decide (x4_1<(a0.size : Int))=false:=decide_eq_false c2;clear c2;obtain rfl:=zU H
   go_wp2
   go_ret
   exact ⟨by first|rfl|(simp;done)|(simp [*];done),by repeat (first|exact yp _|apply yq)⟩

end Go.Proofs.Ytjgcddjdmfcgoaa.Q
end
section
namespace Go.Proofs.Ytjgcddjdmfcgoaa.Q
open Go.RowKit Go.Proofs.YtjgcddjdmfcgoaaW.PrintWords Go.Proofs.YtjgcddjdmfcgoaaW.PrintLast Go.Proofs.YtjgcddjdmfcgoaaW.PrintMore
attribute [local go_sem] max2_int min2_int max_two min_two max_three min_three max_four min_four max2_str min2_str str_geq str_gtr str_leq   -- for this text's walks alone
set_option linter.unusedVariables false
set_option linter.unusedSimpArgs false

mutual
def F2.j1 : Nat→ByteArray→Int→Int→Int→ByteArray→Option (Int×Int×ByteArray×ByteArray×Bool)
 | 0,_,_,_,_,_=>none
 | k+1,x0,x6,x355000,x355001,x355002=>if (x0.size : Int)<(wrap64 (1+x6)) then (some (0,0,(⟨#[]⟩ : ByteArray),(⟨#[]⟩ : ByteArray),false)) else (if x6=1 then (if 1<(x0.size : Int) then (if 0≤(wrap64 (1+x6)) then (if (wrap64 (1+x6))≤(x0.size : Int) then (some (x355000,wrap64 (bt x0 1),x355002,x0.extract ((wrap64 (1+x6)) : Int).toNat x0.size,true)) else (none)) else (none)) else (none)) else (if 1<(x0.size : Int) then (if (bt x0 1) > 127 then (some (0,0,(⟨#[]⟩ : ByteArray),(⟨#[]⟩ : ByteArray),false)) else (if 1≤9 then (if 9≤(x0.size : Int) then ((Fn.f k (x0.extract 1 9)).bind fun t356=>(if 0≤(wrap64 (1+x6)) then (if (wrap64 (1+x6))≤(x0.size : Int) then (some (x355000,wrap64 (t356 - 4611686018427387904),x355002,x0.extract ((wrap64 (1+x6)) : Int).toNat x0.size,true)) else (none)) else (none))) else (none)) else (none))) else (none)))
def F2.j0 : Nat→ByteArray→Bool→Int→Int→ByteArray→Option (Int×Int×ByteArray×ByteArray×Bool)
 | 0,_,_,_,_,_=>none
 | k+1,x0,x28,x355000,x355001,x355002=>if x28=true then (if (x0.size : Int)<3 then (some (0,0,(⟨#[]⟩ : ByteArray),(⟨#[]⟩ : ByteArray),false)) else (if 1≤3 then (if 3≤(x0.size : Int) then ((Fn.f k (x0.extract 1 3)).bind fun t355=>(if (x0.size : Int)<(wrap64 (3+t355)) then (some (0,0,(⟨#[]⟩ : ByteArray),(⟨#[]⟩ : ByteArray),false)) else (if 3≤(wrap64 (3+t355)) then (if (wrap64 (3+t355))≤(x0.size : Int) then (if 0≤(wrap64 (3+t355)) then (some (x355000,x355001,x0.extract 3 ((wrap64 (3+t355)) : Int).toNat,x0.extract ((wrap64 (3+t355)) : Int).toNat x0.size,true)) else (none)) else (none)) else (none)))) else (none)) else (none))) else (some (0,0,(⟨#[]⟩ : ByteArray),(⟨#[]⟩ : ByteArray),false))
end
def F2.f (k : Nat) (a0 : ByteArray) : Option (Int×Int×ByteArray×ByteArray×Bool):=if (a0.size : Int)=0 then (some (0,0,(⟨#[]⟩ : ByteArray),(⟨#[]⟩ : ByteArray),false)) else (if 0<(a0.size : Int) then (if (wrap64 (bt a0 0))=0 then (if 1≤(a0.size : Int) then (some (wrap64 (bt a0 0),0,(⟨#[]⟩ : ByteArray),a0.extract 1 a0.size,true)) else (none)) else (if (wrap64 (bt a0 0))=1 then (F2.j1 k a0 1 (wrap64 (bt a0 0)) 0 (⟨#[]⟩ : ByteArray)) else (if (wrap64 (bt a0 0))=2 then (F2.j1 k a0 8 (wrap64 (bt a0 0)) 0 (⟨#[]⟩ : ByteArray)) else (if (wrap64 (bt a0 0))=3 then (F2.j0 k a0 ((wrap64 (bt a0 0)) == 3) (wrap64 (bt a0 0)) 0 (⟨#[]⟩ : ByteArray)) else (if (wrap64 (bt a0 0))=4 then (F2.j0 k a0 ((wrap64 (bt a0 0)) == 4) (wrap64 (bt a0 0)) 0 (⟨#[]⟩ : ByteArray)) else (F2.j0 k a0 ((wrap64 (bt a0 0)) == 5) (wrap64 (bt a0 0)) 0 (⟨#[]⟩ : ByteArray))))))) else (none))
theorem F2.mono_l : ∀ k,(∀ y0 y1 y2 y3 y4,LeO (F2.j1 k y0 y1 y2 y3 y4) (F2.j1 (k+1) y0 y1 y2 y3 y4))∧(∀ y0 y1 y2 y3 y4,LeO (F2.j0 k y0 y1 y2 y3 y4) (F2.j0 (k+1) y0 y1 y2 y3 y4))
 | 0=>⟨fun _ _ _ _ _ r h=>by simp [F2.j1] at h,fun _ _ _ _ _ r h=>by simp [F2.j0] at h⟩
 | k+1=>by
  obtain ⟨ih0,ih1⟩:=F2.mono_l k;refine ⟨?_,?_⟩
  ·
   intro y0 y1 y2 y3 y4
   unfold F2.j1
   repeat' first|(with_reducible first|exact ih0 _ _ _ _ _|exact ih1 _ _ _ _ _|exact Fn.mono _ _|exact zQ _|exact zN _|refine zP ?_ ?_|refine zO ?_ (fun _=>?_))|refine zP ?_ ?_|refine zO ?_ (fun _=>?_)
  intro y0 y1 y2 y3 y4;unfold F2.j0
  repeat' first|(with_reducible first|exact ih0 _ _ _ _ _|exact ih1 _ _ _ _ _|exact Fn.mono _ _|exact zQ _|exact zN _|refine zP ?_ ?_|refine zO ?_ (fun _=>?_))|refine zP ?_ ?_|refine zO ?_ (fun _=>?_)
theorem F2.mono : ∀ a0 k,LeO (F2.f k a0) (F2.f (k+1) a0):=by
 intro a0 k;obtain ⟨ih0,ih1⟩:=F2.mono_l k;unfold F2.f
 repeat' first|(with_reducible first|exact ih0 _ _ _ _ _|exact ih1 _ _ _ _ _|exact Fn.mono _ _|exact zQ _|exact zN _|refine zP ?_ ?_|refine zO ?_ (fun _=>?_))|refine zP ?_ ?_|refine zO ?_ (fun _=>?_)
def F2.T22 : Bool×List (List Nat×List Nat):=(true,[([],[]),([],[]),([],[]),([2],[2]),([1,3],[1,3]),([0,0],[0]),([4,5,0,1,2,3,4,5],[4]),([6,0,1,2,3,4,5,6],[])])
def F2.B22 : List Nat:=[0,0,0,4,14,1,63,127]
theorem F2.tab22 : rtab .any (opsOf Try.f89 22)=F2.T22:=by kernel_rfl
theorem F2.bits22 : waitsOk F2.T22.2 F2.B22=true:=by kernel_rfl
def F2.T30 : Bool×List (List Nat×List Nat):=(true,[([],[]),([],[]),([],[]),([2],[2]),([1,3],[1,3]),([0,0],[0]),([4,5,0,1,2,3,4,5],[4]),([6,0,1,2,3,4,5,6],[])])
def F2.B30 : List Nat:=[0,0,0,4,14,1,63,127]
theorem F2.tab30 : rtab .any (opsOf Try.f89 30)=F2.T30:=by kernel_rfl
theorem F2.bits30 : waitsOk F2.T30.2 F2.B30=true:=by kernel_rfl
set_option maxHeartbeats 8000000 in
set_option maxRecDepth 100000 in
theorem F2.calls (k : Nat) (a0 : ByteArray) (r1 : Int) (r2 : Int) (r3 : ByteArray) (r4 : ByteArray) (r5 : Bool) (w : World) (h : F2.f k a0=some (r1,r2,r3,r4,r5)) :
  Calls Try.prog 89 #[.string a0] w fun e w' => e = .returned (.tuple #[.agg #[.int .i64 r1,.int .i64 r2,.string r3],.string r4,.bool r5])∧Below w.heap.size w w':=by
 have hu44:=Try.underlying44;have HB:=zh (Below.refl w.heap.size w);have H : (if (a0.size : Int)=0 then (some (0,0,(⟨#[]⟩ : ByteArray),(⟨#[]⟩ : ByteArray),false)) else (if 0<(a0.size : Int) then (if (wrap64 (bt a0 0))=0 then (if 1≤(a0.size : Int) then (some (wrap64 (bt a0 0),0,(⟨#[]⟩ : ByteArray),a0.extract 1 a0.size,true)) else (none)) else (if (wrap64 (bt a0 0))=1 then (F2.j1 k a0 1 (wrap64 (bt a0 0)) 0 (⟨#[]⟩ : ByteArray)) else (if (wrap64 (bt a0 0))=2 then (F2.j1 k a0 8 (wrap64 (bt a0 0)) 0 (⟨#[]⟩ : ByteArray)) else (if (wrap64 (bt a0 0))=3 then (F2.j0 k a0 ((wrap64 (bt a0 0)) == 3) (wrap64 (bt a0 0)) 0 (⟨#[]⟩ : ByteArray)) else (if (wrap64 (bt a0 0))=4 then (F2.j0 k a0 ((wrap64 (bt a0 0)) == 4) (wrap64 (bt a0 0)) 0 (⟨#[]⟩ : ByteArray)) else (F2.j0 k a0 ((wrap64 (bt a0 0)) == 5) (wrap64 (bt a0 0)) 0 (⟨#[]⟩ : ByteArray))))))) else (none)))=some (r1,r2,r3,r4,r5):=h;clear h
 by_cases c2 : (a0.size : Int)=0
 ·
  rw [if_pos c2] at H
  have c2b0 : ((a0.size : Int) == 0)=true:=ya.mpr c2;have c2b1 : ((a0.size : Int) != 0)=false:=zX.mpr c2;clear c2;simp only [Option.some.injEq,Prod.mk.injEq] at H;obtain ⟨rfl,rfl,rfl,rfl,rfl⟩:=H
  go_enter Try.func89,Try.ntmps89
  go_wp2_with (first|((with_reducible refine zK (N:=2) rfl ?_);refine zI ?hg (N:=2) ?hd (cs:=#[.int .i64 0,.int .i64 0,.string (⟨#[]⟩ : ByteArray)]) (t:=44) ?hr ?_;(case hd=>rfl);(case hg=>rfl);(case hr=>go_simp <;> rfl);intro gb353 hg w3 hbox hb;have BK353:=zh (hbox);have hH_:=cH (by repeat (with_reducible first|exact HB.out|apply za|apply zb|apply zc)) hb hg;have GW353:=zh hH_.1;have GE353:=GW353;replace HB:=zh hH_.2;clear hb hbox hg hH_;obtain ⟨hcz4_0,hcz4_1,hcz4_2,hfz4_0,hfz4_1,hfz4_2⟩:=cB3 BK353.out))
  refine bodyPost_ret (results_ctt rfl _ _ gb353 44 #[.int .i64 0,.int .i64 0,.string (⟨#[]⟩ : ByteArray)] (0,0) _ rfl (by (with_reducible repeat first|apply ze|apply zf|apply zg);refine zL (cs:=#[.int .i64 0,.int .i64 0,.string (⟨#[]⟩ : ByteArray)]) ?_ 2 _ rfl;(with_reducible repeat first|apply ze|apply zf|apply zg);refine zL (cs:=#[.int .i64 0,.int .i64 0,.string (⟨#[]⟩ : ByteArray)]) ?_ 1 _ rfl;(with_reducible repeat first|apply ze|apply zf|apply zg);refine zL (cs:=#[.int .i64 0,.int .i64 0,.string (⟨#[]⟩ : ByteArray)]) ?_ 0 _ rfl;(with_reducible repeat first|apply ze|apply zf|apply zg);exact BK353.out) Try.underlying44 rfl (by kernel_rfl)) rfl ?_;exact ⟨by first|rfl|(simp [yt,yu] <;> rfl)|(simp [*,yt,yu] <;> rfl),by repeat (with_reducible first|exact HB.out|apply za|apply zb|apply zc|refine zd ?_ GE353.out)⟩
 rw [if_neg c2] at H;have c2b0 : ((a0.size : Int) == 0)=false:=zY.mpr c2;have c2b1 : ((a0.size : Int) != 0)=true:=zZ.mpr c2
 by_cases c5 : 0<(a0.size : Int)
 ·
  rw [if_pos c5] at H
  have c5b0 : decide (0<(a0.size : Int))=true:=decide_eq_true c5;have c5b1 : decide (0<a0.size)=true:=decide_eq_true (by omega);clear c5;have HC7:=zh H;clear H
  go_enter Try.func89,Try.ntmps89
  go_upto_block 0 with (first|((with_reducible refine zK (N:=2) rfl ?_);refine zI ?hg (N:=2) ?hd (cs:=#[.int .i64 0,.int .i64 0,.string (⟨#[]⟩ : ByteArray)]) (t:=44) ?hr ?_;(case hd=>rfl);(case hg=>rfl);(case hr=>go_simp <;> rfl);intro gb353 hg w8 hbox hb;have BK353:=zh (hbox);have hH_:=cH (by repeat (with_reducible first|exact HB.out|apply za|apply zb|apply zc)) hb hg;have GW353:=zh hH_.1;have GE353:=GW353;replace HB:=zh hH_.2;clear hb hbox hg hH_;have p6 : 0≤(0 : Int):=(by omega);have q6 : 0<a0.size:=(by have : (0 : Int)<(a0.size : Int):=zy (by first|(with_reducible assumption)|assumption);omega);have hx6 : ∀ h : 0<a0.size,((a0[0]'h).toNat : Int)=bt a0 0:=bt_at a0 0;clear p6;have qi6 : (0<(a0.size : Int))=True:=eq_true (zy (by first|(with_reducible assumption)|assumption));replace q6:=eq_true q6)|((with_reducible refine zK (N:=5) rfl ?_);refine zI ?hg (N:=5) ?hd (cs:=#[.int .i64 0,.int .i64 0,.string (⟨#[]⟩ : ByteArray)]) (t:=44) ?hr ?_;(case hd=>rfl);(case hg=>rfl);(case hr=>go_simp <;> rfl);intro gb354 hg w9 hbox hb;have BK354:=zh (hbox);have hH_:=cH (by repeat (with_reducible first|exact HB.out|apply za|apply zb|apply zc|refine zd ?_ GE353.out)) hb hg;have GW354:=zh hH_.1;have GE354:=GW354;replace HB:=zh hH_.2;have NB353_354:=zh ((by rw [hg];exact yc (yi (g:=gb353) (o:=.cells #[.int .i64 0,.int .i64 0,.string (⟨#[]⟩ : ByteArray)] 44 (0,0)) (by (with_reducible repeat first|apply ze|apply zf|apply zg);exact BK353.out)) : gb353≠gb354));have NB354_353:=zh NB353_354.out.symm;replace BK353:=zh (cD BK353.out (by (with_reducible repeat first|apply ze|apply zf|apply zg);exact BK353.out) hb);clear hb hbox hg hH_;have hnb10:=NB354_353.out;have hnc10:=NB353_354.out;obtain ⟨hcz11_0,hcz11_1,hcz11_2,hfz11_0,hfz11_1,hfz11_2⟩:=cB3 BK354.out))
  (try simp only [Act.put,zi,zj,zk])
  go_cut [6] (fun v6 wc => ∃ (kq : Nat) (x6_6 : Int) (x354000_6 : Int) (x354001_6 : Int) (x354002_6 : ByteArray) (x355002_6 : ByteArray),v6 = .int .i64 x6_6∧Aside0 (F2.j1 kq a0 x6_6 (wrap64 (bt a0 0)) 0 x355002_6=some (r1,r2,r3,r4,r5))∧Aside0 (kq≤k)∧Aside0 (wc.heap[gb353]? = some (.cells #[.int .i64 x354000_6,.int .i64 x354001_6,.string x354002_6] 44 (0,0)))∧Aside0 (wc.heap[gb354]? = some (.cells #[.int .i64 (wrap64 (bt a0 0)),.int .i64 0,.string x355002_6] 44 (0,0)))∧Aside0 (Below w.heap.size w wc))
  case first =>
   have H:=HC7.out;clear HC7
   by_cases c12 : (wrap64 (bt a0 0))=0
   ·
    rw [if_pos c12] at H
    have c12b0 : ((wrap64 (bt a0 0)) == 0)=true:=ya.mpr c12;have c12b1 : ((wrap64 (bt a0 0)) != 0)=false:=zX.mpr c12;clear c12;(first|rw [c12b0]|(simp only [zG,zH];rw [c12b0])|skip)
    by_cases c13 : 1≤(a0.size : Int)
    ·
     rw [if_pos c13] at H
     have c13b0:=eq_true c13;have c13b1 : decide (1≤(a0.size : Int))=true:=decide_eq_true c13;clear c13;simp only [Option.some.injEq,Prod.mk.injEq] at H;obtain ⟨rfl,rfl,rfl,rfl,rfl⟩:=H
     try go_wp2
     have n0_ : Aside0 ((((w9.setCell ⟨gb354,0,none⟩ (.int .i64 (wrap64 (bt a0 0)))).setCell ⟨gb354,1,none⟩ (.int .i64 0)).setCell ⟨gb354,2,none⟩ (.string (⟨#[]⟩ : ByteArray))).heap[gb353]? = some (.cells #[.int .i64 0,.int .i64 0,.string (⟨#[]⟩ : ByteArray)] 44 (0,0))):=⟨by (with_reducible repeat first|apply ze|apply zf|apply zg);refine cS3 ?_ NB353_354.out;(with_reducible repeat first|apply ze|apply zf|apply zg);exact BK353.out⟩;have n1_ : Aside0 ((((w9.setCell ⟨gb354,0,none⟩ (.int .i64 (wrap64 (bt a0 0)))).setCell ⟨gb354,1,none⟩ (.int .i64 0)).setCell ⟨gb354,2,none⟩ (.string (⟨#[]⟩ : ByteArray))).heap[gb354]? = some (.cells #[.int .i64 (wrap64 (bt a0 0)),.int .i64 0,.string (⟨#[]⟩ : ByteArray)] 44 (0,0))):=⟨by (with_reducible repeat first|apply ze|apply zf|apply zg);refine zL (cs:=#[.int .i64 (wrap64 (bt a0 0)),.int .i64 0,.string (⟨#[]⟩ : ByteArray)]) ?_ 2 _ rfl;(with_reducible repeat first|apply ze|apply zf|apply zg);refine zL (cs:=#[.int .i64 (wrap64 (bt a0 0)),.int .i64 0,.string (⟨#[]⟩ : ByteArray)]) ?_ 1 _ rfl;(with_reducible repeat first|apply ze|apply zf|apply zg);refine zL (cs:=#[.int .i64 0,.int .i64 0,.string (⟨#[]⟩ : ByteArray)]) ?_ 0 _ rfl;(with_reducible repeat first|apply ze|apply zf|apply zg);exact BK354.out⟩;have n2_ : Aside0 (Below w.heap.size w (((w9.setCell ⟨gb354,0,none⟩ (.int .i64 (wrap64 (bt a0 0)))).setCell ⟨gb354,1,none⟩ (.int .i64 0)).setCell ⟨gb354,2,none⟩ (.string (⟨#[]⟩ : ByteArray)))):=⟨by repeat (with_reducible first|exact HB.out|apply za|apply zb|apply zc|refine zd ?_ GE353.out|refine zd ?_ GE354.out)⟩;(try clear BK353);(try clear BK354);(try clear HB);generalize (((w9.setCell ⟨gb354,0,none⟩ (.int .i64 (wrap64 (bt a0 0)))).setCell ⟨gb354,1,none⟩ (.int .i64 0)).setCell ⟨gb354,2,none⟩ (.string (⟨#[]⟩ : ByteArray)))=w14 at n0_ n1_ n2_ ⊢;have BK353:=n0_;have BK354:=n1_;have HB:=n2_;clear n0_ n1_ n2_;replace BK353:=zh (zf BK353.out);replace BK354:=zh (zf BK354.out);replace HB:=zh (zc HB.out);refine start_ (n:=6) (S:=fun w' => w'.cell? ⟨gb354,0,none⟩=some (.int .i64 (wrap64 (bt a0 0)))∧w'.cell? ⟨gb354,1,none⟩=some (.int .i64 0)∧w'.cell? ⟨gb354,2,none⟩=some (.string (⟨#[]⟩ : ByteArray))) (ds:=[]) (bm_ 0 6) (by kernel_rfl) rfl rfl ⟨(zz BK354.out 0).trans rfl,(zz BK354.out 1).trans rfl,(zz BK354.out 2).trans rfl⟩ (fun hHeld=>?_);generalize w14.drew=w15 at BK353 BK354 HB hHeld ⊢;refine pure_ (i:=1) (N:=some 22) (v:=?_) (a':=?_) #[false,true,false,false,false,false] rfl rfl (by kernel_rfl) (fun _ _ _ h=>h) (Or.inl ⟨by rfl,?_⟩) ?_ ?_;rotate_left
     ·
      intro w'
      go_simp
      with_reducible rfl
     rotate_left
     ·
      simp only [Act.put,zi,zj,zk,zG,zH]
      rfl
     refine pure_ (i:=2) (N:=some 23) (v:=?_) (a':=?_) #[false,true,true,false,false,false] rfl rfl (by kernel_rfl) (fun _ _ _ h=>h) (Or.inl ⟨by rfl,?_⟩) ?_ ?_;rotate_left
     ·
      intro w'
      go_simp
      with_reducible rfl
     rotate_left
     ·
      simp only [Act.put,zi,zj,zk,zG,zH]
      rfl
     refine take_ (i:=0) (N:=some 21) (v:=?_) (a':=?_) (bm_ 3 6) rfl rfl (by kernel_rfl) (fun _ _ _ h=>h) (Or.inl ⟨by rfl,?_⟩) hHeld ?_ ?_;rotate_left
     ·
      rintro w' ⟨s0,s1,s2⟩
      go_simp
      with_reducible rfl
     rotate_left
     ·
      simp only [Act.put,zi,zj,zk,zG,zH]
      rfl
     refine one_ (i:=3) (N:=none) (bm_ 4 6) rfl rfl (by kernel_rfl) (by decide) (fun K hK=>?_);have hs16 : w15.cell? ⟨gb353,0,none⟩=some (.int .i64 0):=(zz BK353.out 0).trans rfl;have hfs16:=zA BK353.out 0;have hns16_1:=NB354_353.out;have hms16_1:=NB353_354.out;have hs17 : w15.cell? ⟨gb353,1,none⟩=some (.int .i64 0):=(zz BK353.out 1).trans rfl;have hfs17:=zA BK353.out 1;have hns17_1:=NB354_353.out;have hms17_1:=NB353_354.out;have hs18 : w15.cell? ⟨gb353,2,none⟩=some (.string (⟨#[]⟩ : ByteArray)):=(zz BK353.out 2).trans rfl;have hfs18:=zA BK353.out 2;have hns18_1:=NB354_353.out;have hms18_1:=NB353_354.out;refine skip_ (w1:=?_) (by rfl) rfl ?_ ?_;rotate_left
     ·
      go_simp
      rfl
     refine hK.out _ _ ⟨((zR (p:=⟨gb353,_,none⟩) NB354_353.out _).trans (((zR (p:=⟨gb353,_,none⟩) NB354_353.out _).trans (((zR (p:=⟨gb353,_,none⟩) NB354_353.out _).trans (hHeld.1)))))),((zR (p:=⟨gb353,_,none⟩) NB354_353.out _).trans (((zR (p:=⟨gb353,_,none⟩) NB354_353.out _).trans (((zR (p:=⟨gb353,_,none⟩) NB354_353.out _).trans (hHeld.2.1)))))),((zR (p:=⟨gb353,_,none⟩) NB354_353.out _).trans (((zR (p:=⟨gb353,_,none⟩) NB354_353.out _).trans (((zR (p:=⟨gb353,_,none⟩) NB354_353.out _).trans (hHeld.2.2))))))⟩ (fun hHeld=>?_);clear hK K;refine pure_ (i:=4) (N:=some 3) (v:=?_) (a':=?_) (bm_ 5 6) rfl rfl (by kernel_rfl) (fun _ _ _ h=>h) (Or.inl ⟨by rfl,?_⟩) ?_ ?_;rotate_left
     ·
      intro w'
      go_simp
      with_reducible rfl
     rotate_left
     ·
      simp only [Act.put,zi,zj,zk,zG,zH]
      rfl
     refine pure_ (i:=5) (N:=some 4) (v:=?_) (a':=?_) (bm_ 6 6) rfl rfl (by kernel_rfl) (fun _ _ _ h=>h) (Or.inl ⟨by rfl,?_⟩) ?_ ?_;rotate_left
     ·
      intro w'
      go_simp
      with_reducible rfl
     rotate_left
     ·
      simp only [Act.put,zi,zj,zk,zG,zH]
      rfl
     refine done_ (by kernel_rfl) ?_
     try go_wp2
     refine bodyPost_ret (results_ctt rfl _ _ gb353 44 #[.int .i64 (wrap64 (bt a0 0)),.int .i64 0,.string (⟨#[]⟩ : ByteArray)] (0,0) _ rfl (by (with_reducible repeat first|apply ze|apply zf|apply zg);refine zL (cs:=#[.int .i64 (wrap64 (bt a0 0)),.int .i64 0,.string (⟨#[]⟩ : ByteArray)]) ?_ 2 _ rfl;(with_reducible repeat first|apply ze|apply zf|apply zg);refine zL (cs:=#[.int .i64 (wrap64 (bt a0 0)),.int .i64 0,.string (⟨#[]⟩ : ByteArray)]) ?_ 1 _ rfl;(with_reducible repeat first|apply ze|apply zf|apply zg);refine zL (cs:=#[.int .i64 0,.int .i64 0,.string (⟨#[]⟩ : ByteArray)]) ?_ 0 _ rfl;(with_reducible repeat first|apply ze|apply zf|apply zg);exact BK353.out) Try.underlying44 rfl (by kernel_rfl)) rfl ?_;exact ⟨by first|rfl|(simp [yt,yu] <;> rfl)|(simp [*,yt,yu] <;> rfl),by repeat (with_reducible first|exact HB.out|apply za|apply zb|apply zc|refine zd ?_ GE353.out|refine zd ?_ GE354.out)⟩
    rw [if_neg c13] at H;exact absurd H (by simp)
   rw [if_neg c12] at H;have c12b0 : ((wrap64 (bt a0 0)) == 0)=false:=zY.mpr c12;have c12b1 : ((wrap64 (bt a0 0)) != 0)=true:=zZ.mpr c12;(first|rw [c12b0]|(simp only [zG,zH];rw [c12b0])|skip)
   by_cases c19 : (wrap64 (bt a0 0))=1
   ·
    rw [if_pos c19] at H
    have c19b0 : ((wrap64 (bt a0 0)) == 1)=true:=ya.mpr c19;have c19b1 : ((wrap64 (bt a0 0)) != 1)=false:=zX.mpr c19;clear c19;have H':=zh H;clear H
    go_wp2
    go_meet
    case rel=>exact ⟨_,(1),(0),(0),((⟨#[]⟩ : ByteArray)),((⟨#[]⟩ : ByteArray)),(by first|rfl|(simp;done)|(simp [*];done)),H',⟨by first|omega|exact ye _⟩,⟨by (with_reducible repeat first|apply ze|apply zf|apply zg);refine cS3 ?_ NB353_354.out;(with_reducible repeat first|apply ze|apply zf|apply zg);exact BK353.out⟩,⟨by (with_reducible repeat first|apply ze|apply zf|apply zg);refine zL (cs:=#[.int .i64 (wrap64 (bt a0 0)),.int .i64 0,.string (⟨#[]⟩ : ByteArray)]) ?_ 2 _ rfl;(with_reducible repeat first|apply ze|apply zf|apply zg);refine zL (cs:=#[.int .i64 (wrap64 (bt a0 0)),.int .i64 0,.string (⟨#[]⟩ : ByteArray)]) ?_ 1 _ rfl;(with_reducible repeat first|apply ze|apply zf|apply zg);refine zL (cs:=#[.int .i64 0,.int .i64 0,.string (⟨#[]⟩ : ByteArray)]) ?_ 0 _ rfl;(with_reducible repeat first|apply ze|apply zf|apply zg);exact BK354.out⟩,⟨by repeat (with_reducible first|exact HB.out|apply za|apply zb|apply zc|refine zd ?_ GE353.out|refine zd ?_ GE354.out)⟩⟩
   rw [if_neg c19] at H;have c19b0 : ((wrap64 (bt a0 0)) == 1)=false:=zY.mpr c19;have c19b1 : ((wrap64 (bt a0 0)) != 1)=true:=zZ.mpr c19
   by_cases c20 : (wrap64 (bt a0 0))=2
   ·
    rw [if_pos c20] at H
    have c20b0 : ((wrap64 (bt a0 0)) == 2)=true:=ya.mpr c20;have c20b1 : ((wrap64 (bt a0 0)) != 2)=false:=zX.mpr c20;clear c20;have H':=zh H;clear H
    go_wp2
    go_meet
    case rel=>exact ⟨_,(8),(0),(0),((⟨#[]⟩ : ByteArray)),((⟨#[]⟩ : ByteArray)),(by first|rfl|(simp;done)|(simp [*];done)),H',⟨by first|omega|exact ye _⟩,⟨by (with_reducible repeat first|apply ze|apply zf|apply zg);refine cS3 ?_ NB353_354.out;(with_reducible repeat first|apply ze|apply zf|apply zg);exact BK353.out⟩,⟨by (with_reducible repeat first|apply ze|apply zf|apply zg);refine zL (cs:=#[.int .i64 (wrap64 (bt a0 0)),.int .i64 0,.string (⟨#[]⟩ : ByteArray)]) ?_ 2 _ rfl;(with_reducible repeat first|apply ze|apply zf|apply zg);refine zL (cs:=#[.int .i64 (wrap64 (bt a0 0)),.int .i64 0,.string (⟨#[]⟩ : ByteArray)]) ?_ 1 _ rfl;(with_reducible repeat first|apply ze|apply zf|apply zg);refine zL (cs:=#[.int .i64 0,.int .i64 0,.string (⟨#[]⟩ : ByteArray)]) ?_ 0 _ rfl;(with_reducible repeat first|apply ze|apply zf|apply zg);exact BK354.out⟩,⟨by repeat (with_reducible first|exact HB.out|apply za|apply zb|apply zc|refine zd ?_ GE353.out|refine zd ?_ GE354.out)⟩⟩
   rw [if_neg c20] at H;have c20b0 : ((wrap64 (bt a0 0)) == 2)=false:=zY.mpr c20;have c20b1 : ((wrap64 (bt a0 0)) != 2)=true:=zZ.mpr c20;have HC21:=zh H;clear H
   go_upto_if 28 with (fail)
   go_cut [28] (fun v28 wc => ∃ (kq : Nat) (x28_20 : Bool),v28 = .bool x28_20∧Aside0 (F2.j0 kq a0 x28_20 (wrap64 (bt a0 0)) 0 (⟨#[]⟩ : ByteArray)=some (r1,r2,r3,r4,r5))∧Aside0 (kq≤k)∧Aside0 (wc.heap[gb353]? = some (.cells #[.int .i64 0,.int .i64 0,.string (⟨#[]⟩ : ByteArray)] 44 (0,0)))∧Aside0 (wc.heap[gb354]? = some (.cells #[.int .i64 (wrap64 (bt a0 0)),.int .i64 0,.string (⟨#[]⟩ : ByteArray)] 44 (0,0)))∧Aside0 (Below w.heap.size w wc))
   case first =>
    have H:=HC21.out;clear HC21
    by_cases c22 : (wrap64 (bt a0 0))=3
    ·
     rw [if_pos c22] at H
     have c22b0 : ((wrap64 (bt a0 0)) == 3)=true:=ya.mpr c22;have c22b1 : ((wrap64 (bt a0 0)) != 3)=false:=zX.mpr c22;clear c22;(first|rw [c22b0]|(simp only [zG,zH];rw [c22b0])|skip);have H':=zh H;clear H
     go_wp2
     go_meet
     case rel=>exact ⟨_,(((wrap64 (bt a0 0)) == 3)),(by first|rfl|(simp;done)|(simp [*];done)),H',⟨by first|omega|exact ye _⟩,⟨by (with_reducible repeat first|apply ze|apply zf|apply zg);refine cS3 ?_ NB353_354.out;(with_reducible repeat first|apply ze|apply zf|apply zg);exact BK353.out⟩,⟨by (with_reducible repeat first|apply ze|apply zf|apply zg);refine zL (cs:=#[.int .i64 (wrap64 (bt a0 0)),.int .i64 0,.string (⟨#[]⟩ : ByteArray)]) ?_ 2 _ rfl;(with_reducible repeat first|apply ze|apply zf|apply zg);refine zL (cs:=#[.int .i64 (wrap64 (bt a0 0)),.int .i64 0,.string (⟨#[]⟩ : ByteArray)]) ?_ 1 _ rfl;(with_reducible repeat first|apply ze|apply zf|apply zg);refine zL (cs:=#[.int .i64 0,.int .i64 0,.string (⟨#[]⟩ : ByteArray)]) ?_ 0 _ rfl;(with_reducible repeat first|apply ze|apply zf|apply zg);exact BK354.out⟩,⟨by repeat (with_reducible first|exact HB.out|apply za|apply zb|apply zc|refine zd ?_ GE353.out|refine zd ?_ GE354.out)⟩⟩
    rw [if_neg c22] at H;have c22b0 : ((wrap64 (bt a0 0)) == 3)=false:=zY.mpr c22;have c22b1 : ((wrap64 (bt a0 0)) != 3)=true:=zZ.mpr c22;(first|rw [c22b0]|(simp only [zG,zH];rw [c22b0])|skip)
    by_cases c23 : (wrap64 (bt a0 0))=4
    ·
     rw [if_pos c23] at H
     have c23b0 : ((wrap64 (bt a0 0)) == 4)=true:=ya.mpr c23;have c23b1 : ((wrap64 (bt a0 0)) != 4)=false:=zX.mpr c23;clear c23;have H':=zh H;clear H
     go_wp2
     go_meet
     case rel=>exact ⟨_,(((wrap64 (bt a0 0)) == 4)),(by first|rfl|(simp;done)|(simp [*];done)),H',⟨by first|omega|exact ye _⟩,⟨by (with_reducible repeat first|apply ze|apply zf|apply zg);refine cS3 ?_ NB353_354.out;(with_reducible repeat first|apply ze|apply zf|apply zg);exact BK353.out⟩,⟨by (with_reducible repeat first|apply ze|apply zf|apply zg);refine zL (cs:=#[.int .i64 (wrap64 (bt a0 0)),.int .i64 0,.string (⟨#[]⟩ : ByteArray)]) ?_ 2 _ rfl;(with_reducible repeat first|apply ze|apply zf|apply zg);refine zL (cs:=#[.int .i64 (wrap64 (bt a0 0)),.int .i64 0,.string (⟨#[]⟩ : ByteArray)]) ?_ 1 _ rfl;(with_reducible repeat first|apply ze|apply zf|apply zg);refine zL (cs:=#[.int .i64 0,.int .i64 0,.string (⟨#[]⟩ : ByteArray)]) ?_ 0 _ rfl;(with_reducible repeat first|apply ze|apply zf|apply zg);exact BK354.out⟩,⟨by repeat (with_reducible first|exact HB.out|apply za|apply zb|apply zc|refine zd ?_ GE353.out|refine zd ?_ GE354.out)⟩⟩
    rw [if_neg c23] at H;have c23b0 : ((wrap64 (bt a0 0)) == 4)=false:=zY.mpr c23;have c23b1 : ((wrap64 (bt a0 0)) != 4)=true:=zZ.mpr c23;have H':=zh H;clear H
    go_wp2
    go_meet
    case rel=>exact ⟨_,(((wrap64 (bt a0 0)) == 5)),(by first|rfl|(simp;done)|(simp [*];done)),H',⟨by first|omega|exact ye _⟩,⟨by (with_reducible repeat first|apply ze|apply zf|apply zg);refine cS3 ?_ NB353_354.out;(with_reducible repeat first|apply ze|apply zf|apply zg);exact BK353.out⟩,⟨by (with_reducible repeat first|apply ze|apply zf|apply zg);refine zL (cs:=#[.int .i64 (wrap64 (bt a0 0)),.int .i64 0,.string (⟨#[]⟩ : ByteArray)]) ?_ 2 _ rfl;(with_reducible repeat first|apply ze|apply zf|apply zg);refine zL (cs:=#[.int .i64 (wrap64 (bt a0 0)),.int .i64 0,.string (⟨#[]⟩ : ByteArray)]) ?_ 1 _ rfl;(with_reducible repeat first|apply ze|apply zf|apply zg);refine zL (cs:=#[.int .i64 0,.int .i64 0,.string (⟨#[]⟩ : ByteArray)]) ?_ 0 _ rfl;(with_reducible repeat first|apply ze|apply zf|apply zg);exact BK354.out⟩,⟨by repeat (with_reducible first|exact HB.out|apply za|apply zb|apply zc|refine zd ?_ GE353.out|refine zd ?_ GE354.out)⟩⟩
   case rest =>
    clear HC21
    try clear c1 c2 c2b0 c2b1
    try clear p2
    try clear c5 c5b0 c5b1
    try clear p6
    try clear q6
    try clear hx6
    try clear qi6
    try clear c8 c10 c12 c12b0 c12b1 c13 c13b0 c13b1 c19 c19b0 c19b1 c20 c20b0 c20b1 c22 c22b0 c22b1 c23 c23b0 c23b1
    try clear hcz11_0 hcz11_1 hcz11_2
    try clear hcz4_0 hcz4_1 hcz4_2
    try clear hfz11_0 hfz11_1 hfz11_2
    try clear hfz4_0 hfz4_1 hfz4_2
    try clear p6
    try clear q6
    obtain ⟨kq,x28_20,rfl,HA,HJ20,BK353,BK354,HB⟩:=hcut
    cases kq with
    | zero=>exact absurd HA.out (by simp [F2.j0])
    | succ kj20 =>
     have H:=HA.out;clear HA;simp only [F2.j0] at H
     by_cases c24 : x28_20=true
     ·
      subst c24
      have H1 : (if (a0.size : Int)<3 then (some (0,0,(⟨#[]⟩ : ByteArray),(⟨#[]⟩ : ByteArray),false)) else (if 1≤3 then (if 3≤(a0.size : Int) then ((Fn.f kj20 (a0.extract 1 3)).bind fun t355=>(if (a0.size : Int)<(wrap64 (3+t355)) then (some (0,0,(⟨#[]⟩ : ByteArray),(⟨#[]⟩ : ByteArray),false)) else (if 3≤(wrap64 (3+t355)) then (if (wrap64 (3+t355))≤(a0.size : Int) then (if 0≤(wrap64 (3+t355)) then (some ((wrap64 (bt a0 0)),0,a0.extract 3 ((wrap64 (3+t355)) : Int).toNat,a0.extract ((wrap64 (3+t355)) : Int).toNat a0.size,true)) else (none)) else (none)) else (none)))) else (none)) else (none)))=some (r1,r2,r3,r4,r5):=by rw [if_pos rfl] at H;exact H
      clear H;have H:=H1;clear H1
      by_cases c25 : (a0.size : Int)<3
      ·
       rw [if_pos c25] at H
       have c25b0 : decide ((a0.size : Int)<3)=true:=decide_eq_true c25;have c25b1 : decide (a0.size<3)=true:=decide_eq_true (by omega);clear c25;simp only [Option.some.injEq,Prod.mk.injEq] at H;obtain ⟨rfl,rfl,rfl,rfl,rfl⟩:=H;have hnb26:=NB353_354.out;have hnc26:=NB354_353.out;obtain ⟨hcz27_0,hcz27_1,hcz27_2,hfz27_0,hfz27_1,hfz27_2⟩:=cB3 BK353.out
       go_wp2
       refine bodyPost_ret (results_ctt rfl _ _ gb353 44 #[.int .i64 0,.int .i64 0,.string (⟨#[]⟩ : ByteArray)] (0,0) _ rfl (by (with_reducible repeat first|apply ze|apply zf|apply zg);refine zL (cs:=#[.int .i64 0,.int .i64 0,.string (⟨#[]⟩ : ByteArray)]) ?_ 2 _ rfl;(with_reducible repeat first|apply ze|apply zf|apply zg);refine zL (cs:=#[.int .i64 0,.int .i64 0,.string (⟨#[]⟩ : ByteArray)]) ?_ 1 _ rfl;(with_reducible repeat first|apply ze|apply zf|apply zg);refine zL (cs:=#[.int .i64 0,.int .i64 0,.string (⟨#[]⟩ : ByteArray)]) ?_ 0 _ rfl;(with_reducible repeat first|apply ze|apply zf|apply zg);exact BK353.out) Try.underlying44 rfl (by kernel_rfl)) rfl ?_;exact ⟨by first|rfl|(simp [yt,yu] <;> rfl)|(simp [*,yt,yu] <;> rfl),by repeat (with_reducible first|exact HB.out|apply za|apply zb|apply zc|refine zd ?_ GE353.out|refine zd ?_ GE354.out)⟩
      rw [if_neg c25] at H;have c25b0 : decide ((a0.size : Int)<3)=false:=decide_eq_false c25;have c25b1 : decide (a0.size<3)=false:=decide_eq_false (by omega);clear c25
      by_cases c28 : 1≤3
      ·
       rw [if_pos c28] at H
       have c28b0:=eq_true c28;have c28b1 : decide (1≤3)=true:=decide_eq_true c28;clear c28
       by_cases c29 : 3≤(a0.size : Int)
       ·
        rw [if_pos c29] at H
        have c29b0:=eq_true c29;have c29b1 : decide (3≤(a0.size : Int))=true:=decide_eq_true c29;clear c29;replace H:=zT.mp H;obtain ⟨t355,A300,H⟩:=H;replace H : (if (a0.size : Int)<(wrap64 (3+t355)) then (some (0,0,(⟨#[]⟩ : ByteArray),(⟨#[]⟩ : ByteArray),false)) else (if 3≤(wrap64 (3+t355)) then (if (wrap64 (3+t355))≤(a0.size : Int) then (if 0≤(wrap64 (3+t355)) then (some ((wrap64 (bt a0 0)),0,a0.extract 3 ((wrap64 (3+t355)) : Int).toNat,a0.extract ((wrap64 (3+t355)) : Int).toNat a0.size,true)) else (none)) else (none)) else (none)))=some (r1,r2,r3,r4,r5):=H;have A30:=zh A300;clear A300
        by_cases c31 : (a0.size : Int)<(wrap64 (3+t355))
        ·
         rw [if_pos c31] at H
         have c31b0 : decide ((a0.size : Int)<(wrap64 (3+t355)))=true:=decide_eq_true c31;clear c31;simp only [Option.some.injEq,Prod.mk.injEq] at H;obtain ⟨rfl,rfl,rfl,rfl,rfl⟩:=H
         go_wp2_with (first|((with_reducible refine zJ (f:=100) rfl ?_);refine yj (some 38) rfl rfl Try.func100 (by kernel_rfl) rfl #[.string (a0.extract 1 3)] rfl (by (try simp only [zt,zu,zv]);first|done|rfl|(simp only [zw,zx];rfl)|(simp only [yr,ys,zV,zW];rfl)) ?_;(with_reducible refine (Fn.calls kj20  (a0.extract 1 3) t355 _ A30.out).mono ?_);rintro e w' ⟨rfl,⟨nd,rfl⟩⟩;refine ⟨_,rfl,?_⟩;(try (rw [drewN_self wc];generalize hq_ : World.drewN wc _=wc;replace BK353 : Aside0 (wc.heap[gb353]? = some (.cells #[.int .i64 0,.int .i64 0,.string (⟨#[]⟩ : ByteArray)] 44 (0,0))):=⟨by rw [← hq_];exact (by (with_reducible repeat first|apply ze|apply zf|apply zg);exact BK353.out)⟩;replace BK354 : Aside0 (wc.heap[gb354]? = some (.cells #[.int .i64 (wrap64 (bt a0 0)),.int .i64 0,.string (⟨#[]⟩ : ByteArray)] 44 (0,0))):=⟨by rw [← hq_];exact (by (with_reducible repeat first|apply ze|apply zf|apply zg);exact BK354.out)⟩;replace HB : Aside0 (Below w.heap.size w wc):=⟨by rw [← hq_];exact (by repeat (with_reducible first|exact HB.out|apply za|apply zb|apply zc|refine zd ?_ GE353.out|refine zd ?_ GE354.out))⟩;clear hq_));have hnb32:=NB353_354.out;have hnc32:=NB354_353.out;obtain ⟨hcz33_0,hcz33_1,hcz33_2,hfz33_0,hfz33_1,hfz33_2⟩:=cB3 BK353.out))
         refine bodyPost_ret (results_ctt rfl _ _ gb353 44 #[.int .i64 0,.int .i64 0,.string (⟨#[]⟩ : ByteArray)] (0,0) _ rfl (by (with_reducible repeat first|apply ze|apply zf|apply zg);refine zL (cs:=#[.int .i64 0,.int .i64 0,.string (⟨#[]⟩ : ByteArray)]) ?_ 2 _ rfl;(with_reducible repeat first|apply ze|apply zf|apply zg);refine zL (cs:=#[.int .i64 0,.int .i64 0,.string (⟨#[]⟩ : ByteArray)]) ?_ 1 _ rfl;(with_reducible repeat first|apply ze|apply zf|apply zg);refine zL (cs:=#[.int .i64 0,.int .i64 0,.string (⟨#[]⟩ : ByteArray)]) ?_ 0 _ rfl;(with_reducible repeat first|apply ze|apply zf|apply zg);exact BK353.out) Try.underlying44 rfl (by kernel_rfl)) rfl ?_;exact ⟨by first|rfl|(simp [yt,yu] <;> rfl)|(simp [*,yt,yu] <;> rfl),by repeat (with_reducible first|exact HB.out|apply za|apply zb|apply zc|refine zd ?_ GE353.out|refine zd ?_ GE354.out)⟩
        rw [if_neg c31] at H;have c31b0 : decide ((a0.size : Int)<(wrap64 (3+t355)))=false:=decide_eq_false c31;clear c31
        by_cases c34 : 3≤(wrap64 (3+t355))
        ·
         rw [if_pos c34] at H
         have c34b0:=eq_true c34;have c34b1 : decide (3≤(wrap64 (3+t355)))=true:=decide_eq_true c34
         by_cases c35 : (wrap64 (3+t355))≤(a0.size : Int)
         ·
          rw [if_pos c35] at H
          have c35b0:=eq_true c35;have c35b1 : decide ((wrap64 (3+t355))≤(a0.size : Int))=true:=decide_eq_true c35;obtain ⟨ji36,hji36⟩ : ∃ j_ : Int,(wrap64 (3+t355))=j_:=⟨_,rfl⟩;replace H : (if 0≤(ji36) then (some ((wrap64 (bt a0 0)),0,a0.extract 3 ((ji36) : Int).toNat,a0.extract ((ji36) : Int).toNat a0.size,true)) else (none))=some (r1,r2,r3,r4,r5):=by first|(rw [hji36] at H;exact H)|(simp only [hji36] at H ⊢;exact H)
          (try rw [hji36] at c31b0);(try rw [hji36] at c34b0);(try rw [hji36] at c34b1);(try rw [hji36] at c34);(try rw [hji36] at c35b0);(try rw [hji36] at c35b1);(try rw [hji36] at c35);(try rw [hji36] at A30);have hji36w : (IntKind.i64.wrap (3+t355))=ji36:=(zG _).trans hji36
          by_cases c37 : 0≤(ji36)
          ·
           rw [if_pos c37] at H
           have c37b0:=eq_true c37;have c37b1 : decide (0≤(ji36))=true:=decide_eq_true c37;clear c37;have c38b0:=eq_true (zy (by first|(with_reducible assumption)|assumption) : (ji36)≤(a0.size : Int));simp only [Option.some.injEq,Prod.mk.injEq] at H;obtain ⟨rfl,rfl,rfl,rfl,rfl⟩:=H
           try go_wp2_with (first|((with_reducible refine zJ (f:=100) rfl ?_);refine yj (some 38) rfl rfl Try.func100 (by kernel_rfl) rfl #[.string (a0.extract 1 3)] rfl (by (try simp only [zt,zu,zv]);first|done|rfl|(simp only [zw,zx];rfl)|(simp only [yr,ys,zV,zW];rfl)) ?_;(with_reducible refine (Fn.calls kj20  (a0.extract 1 3) t355 _ A30.out).mono ?_);rintro e w' ⟨rfl,⟨nd,rfl⟩⟩;refine ⟨_,rfl,?_⟩;(try (rw [drewN_self wc];generalize hq_ : World.drewN wc _=wc;replace BK353 : Aside0 (wc.heap[gb353]? = some (.cells #[.int .i64 0,.int .i64 0,.string (⟨#[]⟩ : ByteArray)] 44 (0,0))):=⟨by rw [← hq_];exact (by (with_reducible repeat first|apply ze|apply zf|apply zg);exact BK353.out)⟩;replace BK354 : Aside0 (wc.heap[gb354]? = some (.cells #[.int .i64 (wrap64 (bt a0 0)),.int .i64 0,.string (⟨#[]⟩ : ByteArray)] 44 (0,0))):=⟨by rw [← hq_];exact (by (with_reducible repeat first|apply ze|apply zf|apply zg);exact BK354.out)⟩;replace HB : Aside0 (Below w.heap.size w wc):=⟨by rw [← hq_];exact (by repeat (with_reducible first|exact HB.out|apply za|apply zb|apply zc|refine zd ?_ GE353.out|refine zd ?_ GE354.out))⟩;clear hq_));have hnb39:=NB354_353.out;have hnc39:=NB353_354.out;obtain ⟨hcz40_0,hcz40_1,hcz40_2,hfz40_0,hfz40_1,hfz40_2⟩:=cB3 BK354.out))
           have n0_ : Aside0 ((wc.setCell ⟨gb354,2,none⟩ (.string (a0.extract 3 ((ji36) : Int).toNat))).heap[gb353]? = some (.cells #[.int .i64 0,.int .i64 0,.string (⟨#[]⟩ : ByteArray)] 44 (0,0))):=⟨by (with_reducible repeat first|apply ze|apply zf|apply zg);refine zS ?_ NB353_354.out _;(with_reducible repeat first|apply ze|apply zf|apply zg);exact BK353.out⟩;have n1_ : Aside0 ((wc.setCell ⟨gb354,2,none⟩ (.string (a0.extract 3 ((ji36) : Int).toNat))).heap[gb354]? = some (.cells #[.int .i64 (wrap64 (bt a0 0)),.int .i64 0,.string (a0.extract 3 ((ji36) : Int).toNat)] 44 (0,0))):=⟨by (with_reducible repeat first|apply ze|apply zf|apply zg);refine zL (cs:=#[.int .i64 (wrap64 (bt a0 0)),.int .i64 0,.string (⟨#[]⟩ : ByteArray)]) ?_ 2 _ rfl;(with_reducible repeat first|apply ze|apply zf|apply zg);exact BK354.out⟩;have n2_ : Aside0 (Below w.heap.size w (wc.setCell ⟨gb354,2,none⟩ (.string (a0.extract 3 ((ji36) : Int).toNat)))):=⟨by repeat (with_reducible first|exact HB.out|apply za|apply zb|apply zc|refine zd ?_ GE353.out|refine zd ?_ GE354.out)⟩;(try clear BK353);(try clear BK354);(try clear HB);generalize (wc.setCell ⟨gb354,2,none⟩ (.string (a0.extract 3 ((ji36) : Int).toNat)))=w41 at n0_ n1_ n2_ ⊢;have BK353:=n0_;have BK354:=n1_;have HB:=n2_;clear n0_ n1_ n2_;replace BK353:=zh (zf BK353.out);replace BK354:=zh (zf BK354.out);replace HB:=zh (zc HB.out);refine start_ (n:=8) (S:=fun w' => w'.cell? ⟨gb354,0,none⟩=some (.int .i64 (wrap64 (bt a0 0)))∧w'.cell? ⟨gb354,1,none⟩=some (.int .i64 0)∧w'.cell? ⟨gb354,2,none⟩=some (.string (a0.extract 3 ((ji36) : Int).toNat))) (ds:=[]) (bm_ 0 8) (by kernel_rfl) rfl rfl ⟨(zz BK354.out 0).trans rfl,(zz BK354.out 1).trans rfl,(zz BK354.out 2).trans rfl⟩ (fun hHeld=>?_);refine with_tabW F2.tab22 F2.bits22 (fun HT_ HW_=>?_);generalize w41.drew=w42 at BK353 BK354 HB hHeld ⊢;refine pure_ (i:=1) (N:=some 51) (v:=?_) (a':=?_) #[false,true,false,false,false,false,false,false] rfl rfl (any_of HT_.out (by kernel_rfl)) (fun _ _ _ h=>h) (Or.inl ⟨by rfl,?_⟩) ?_ ?_;rotate_left
           ·
            intro w'
            go_simp
            with_reducible rfl
           rotate_left
           ·
            simp only [Act.put,zi,zj,zk,zG,zH]
            rfl
           refine pure_ (i:=2) (N:=some 52) (v:=?_) (a':=?_) #[false,true,true,false,false,false,false,false] rfl rfl (any_of HT_.out (by kernel_rfl)) (fun _ _ _ h=>h) (Or.inl ⟨by rfl,?_⟩) ?_ ?_;rotate_left
           ·
            intro w'
            go_simp
            with_reducible rfl
           rotate_left
           ·
            simp only [Act.put,zi,zj,zk,zG,zH]
            rfl
           refine pure_ (i:=3) (N:=some 53) (v:=?_) (a':=?_) #[false,true,true,true,false,false,false,false] rfl rfl (any_of HT_.out (by kernel_rfl)) (fun _ _ _ h=>h) (Or.inl ⟨by rfl,?_⟩) ?_ ?_;rotate_left
           ·
            intro w'
            go_simp
            with_reducible rfl
           rotate_left
           ·
            simp only [Act.put,zi,zj,zk,zG,zH]
            rfl
           refine pure_ (i:=4) (N:=some 54) (v:=?_) (a':=?_) #[false,true,true,true,true,false,false,false] rfl rfl (any_of HT_.out (by kernel_rfl)) (fun _ _ _ h=>h) (Or.inl ⟨by rfl,?_⟩) ?_ ?_;rotate_left
           ·
            intro w'
            go_simp
            with_reducible rfl
           rotate_left
           ·
            simp only [Act.put,zi,zj,zk,zG,zH]
            rfl
           refine take_ (i:=0) (N:=some 50) (v:=?_) (a':=?_) (bm_ 5 8) rfl rfl (yo HT_.out HW_.out (by kernel_rfl)) (fun _ _ _ h=>h) (Or.inl ⟨by rfl,?_⟩) hHeld ?_ ?_;rotate_left
           ·
            rintro w' ⟨s0,s1,s2⟩
            go_simp
            with_reducible rfl
           rotate_left
           ·
            simp only [Act.put,zi,zj,zk,zG,zH]
            rfl
           refine one_ (i:=5) (N:=none) (bm_ 6 8) rfl rfl (one_of HT_.out (by kernel_rfl)) (by decide) (fun K hK=>?_);have hs43 : w42.cell? ⟨gb353,0,none⟩=some (.int .i64 0):=(zz BK353.out 0).trans rfl;have hfs43:=zA BK353.out 0;have hns43_1:=NB354_353.out;have hms43_1:=NB353_354.out;have hs44 : w42.cell? ⟨gb353,1,none⟩=some (.int .i64 0):=(zz BK353.out 1).trans rfl;have hfs44:=zA BK353.out 1;have hns44_1:=NB354_353.out;have hms44_1:=NB353_354.out;have hs45 : w42.cell? ⟨gb353,2,none⟩=some (.string (⟨#[]⟩ : ByteArray)):=(zz BK353.out 2).trans rfl;have hfs45:=zA BK353.out 2;have hns45_1:=NB354_353.out;have hms45_1:=NB353_354.out;refine skip_ (w1:=?_) (by rfl) rfl ?_ ?_;rotate_left
           ·
            go_simp
            rfl
           refine hK.out _ _ ⟨((zR (p:=⟨gb353,_,none⟩) NB354_353.out _).trans (((zR (p:=⟨gb353,_,none⟩) NB354_353.out _).trans (((zR (p:=⟨gb353,_,none⟩) NB354_353.out _).trans (hHeld.1)))))),((zR (p:=⟨gb353,_,none⟩) NB354_353.out _).trans (((zR (p:=⟨gb353,_,none⟩) NB354_353.out _).trans (((zR (p:=⟨gb353,_,none⟩) NB354_353.out _).trans (hHeld.2.1)))))),((zR (p:=⟨gb353,_,none⟩) NB354_353.out _).trans (((zR (p:=⟨gb353,_,none⟩) NB354_353.out _).trans (((zR (p:=⟨gb353,_,none⟩) NB354_353.out _).trans (hHeld.2.2))))))⟩ (fun hHeld=>?_);clear hK K;refine pure_ (i:=6) (N:=some 3) (v:=?_) (a':=?_) (bm_ 7 8) rfl rfl (any_of HT_.out (by kernel_rfl)) (fun _ _ _ h=>h) (Or.inl ⟨by rfl,?_⟩) ?_ ?_;rotate_left
           ·
            intro w'
            go_simp
            with_reducible rfl
           rotate_left
           ·
            simp only [Act.put,zi,zj,zk,zG,zH]
            rfl
           refine pure_ (i:=7) (N:=some 4) (v:=?_) (a':=?_) (bm_ 8 8) rfl rfl (any_of HT_.out (by kernel_rfl)) (fun _ _ _ h=>h) (Or.inl ⟨by rfl,?_⟩) ?_ ?_;rotate_left
           ·
            intro w'
            go_simp
            with_reducible rfl
           rotate_left
           ·
            simp only [Act.put,zi,zj,zk,zG,zH]
            rfl
           refine done_ (done_of HT_.out (by kernel_rfl)) ?_
           try go_wp2
           refine bodyPost_ret (results_ctt rfl _ _ gb353 44 #[.int .i64 (wrap64 (bt a0 0)),.int .i64 0,.string (a0.extract 3 ((ji36) : Int).toNat)] (0,0) _ rfl (by (with_reducible repeat first|apply ze|apply zf|apply zg);refine zL (cs:=#[.int .i64 (wrap64 (bt a0 0)),.int .i64 0,.string (⟨#[]⟩ : ByteArray)]) ?_ 2 _ rfl;(with_reducible repeat first|apply ze|apply zf|apply zg);refine zL (cs:=#[.int .i64 (wrap64 (bt a0 0)),.int .i64 0,.string (⟨#[]⟩ : ByteArray)]) ?_ 1 _ rfl;(with_reducible repeat first|apply ze|apply zf|apply zg);refine zL (cs:=#[.int .i64 0,.int .i64 0,.string (⟨#[]⟩ : ByteArray)]) ?_ 0 _ rfl;(with_reducible repeat first|apply ze|apply zf|apply zg);exact BK353.out) Try.underlying44 rfl (by kernel_rfl)) rfl ?_;exact ⟨by first|rfl|(simp [yt,yu] <;> rfl)|(simp only [← hji36];first|rfl|(simp [yt,yu] <;> rfl))|(simp [*,yt,yu] <;> rfl),by repeat (with_reducible first|exact HB.out|apply za|apply zb|apply zc|refine zd ?_ GE353.out|refine zd ?_ GE354.out)⟩
          rw [if_neg c37] at H;exact absurd H (by simp)
         rw [if_neg c35] at H;exact absurd H (by simp)
        rw [if_neg c34] at H;exact absurd H (by simp)
       rw [if_neg c29] at H;exact absurd H (by simp)
      rw [if_neg c28] at H;exact absurd H (by simp)
     replace c24:=yb.mpr c24;subst c24;have H1 : (some (0,0,(⟨#[]⟩ : ByteArray),(⟨#[]⟩ : ByteArray),false))=some (r1,r2,r3,r4,r5):=by rw [if_neg (show ¬ (false=true) by decide)] at H;exact H
     clear H;have H:=H1;clear H1;simp only [Option.some.injEq,Prod.mk.injEq] at H;obtain ⟨rfl,rfl,rfl,rfl,rfl⟩:=H;have hnb46:=NB353_354.out;have hnc46:=NB354_353.out;obtain ⟨hcz47_0,hcz47_1,hcz47_2,hfz47_0,hfz47_1,hfz47_2⟩:=cB3 BK353.out
     go_wp2
     refine bodyPost_ret (results_ctt rfl _ _ gb353 44 #[.int .i64 0,.int .i64 0,.string (⟨#[]⟩ : ByteArray)] (0,0) _ rfl (by (with_reducible repeat first|apply ze|apply zf|apply zg);refine zL (cs:=#[.int .i64 0,.int .i64 0,.string (⟨#[]⟩ : ByteArray)]) ?_ 2 _ rfl;(with_reducible repeat first|apply ze|apply zf|apply zg);refine zL (cs:=#[.int .i64 0,.int .i64 0,.string (⟨#[]⟩ : ByteArray)]) ?_ 1 _ rfl;(with_reducible repeat first|apply ze|apply zf|apply zg);refine zL (cs:=#[.int .i64 0,.int .i64 0,.string (⟨#[]⟩ : ByteArray)]) ?_ 0 _ rfl;(with_reducible repeat first|apply ze|apply zf|apply zg);exact BK353.out) Try.underlying44 rfl (by kernel_rfl)) rfl ?_;exact ⟨by first|rfl|(simp [yt,yu] <;> rfl)|(simp [*,yt,yu] <;> rfl),by repeat (with_reducible first|exact HB.out|apply za|apply zb|apply zc|refine zd ?_ GE353.out|refine zd ?_ GE354.out)⟩
  case rest =>
   clear HC7
   try clear c1 c2 c2b0 c2b1
   try clear p2
   try clear c3 c4 c5 c5b0 c5b1
   try clear p6
   try clear q6
   try clear hx6
   try clear qi6
   try clear c8 c10 c12 c12b0 c12b1 c13 c13b0 c13b1 c19 c19b0 c19b1 c20 c20b0 c20b1 c22 c22b0 c22b1 c23 c23b0 c23b1 c24 c25 c25b0 c25b1 c26 c28 c28b0 c28b1 c29 c29b0 c29b1 c31 c31b0 c32 c34 c34b0 c34b1 c35 c35b0 c35b1 c37 c37b0 c37b1 c38 c38b0 c39 c46
   try clear hcz11_0 hcz11_1 hcz11_2
   try clear hcz27_0 hcz27_1 hcz27_2
   try clear hcz33_0 hcz33_1 hcz33_2
   try clear hcz40_0 hcz40_1 hcz40_2
   try clear hcz47_0 hcz47_1 hcz47_2
   try clear hcz4_0 hcz4_1 hcz4_2
   try clear hfz11_0 hfz11_1 hfz11_2
   try clear hfz27_0 hfz27_1 hfz27_2
   try clear hfz33_0 hfz33_1 hfz33_2
   try clear hfz40_0 hfz40_1 hfz40_2
   try clear hfz47_0 hfz47_1 hfz47_2
   try clear hfz4_0 hfz4_1 hfz4_2
   try clear p2
   try clear p6
   try clear q6
   obtain ⟨kq,x6_6,x354000_6,x354001_6,x354002_6,x355002_6,rfl,HA,HJ6,BK353,BK354,HB⟩:=hcut
   cases kq with
   | zero=>exact absurd HA.out (by simp [F2.j1])
   | succ kj6 =>
    have H:=HA.out;clear HA;simp only [F2.j1] at H
    by_cases c48 : (a0.size : Int)<(wrap64 (1+x6_6))
    ·
     rw [if_pos c48] at H
     have c48b0 : decide ((a0.size : Int)<(wrap64 (1+x6_6)))=true:=decide_eq_true c48;clear c48;simp only [Option.some.injEq,Prod.mk.injEq] at H;obtain ⟨rfl,rfl,rfl,rfl,rfl⟩:=H;have hnb49:=NB353_354.out;have hnc49:=NB354_353.out;obtain ⟨hcz50_0,hcz50_1,hcz50_2,hfz50_0,hfz50_1,hfz50_2⟩:=cB3 BK353.out
     go_wp2
     refine bodyPost_ret (results_ctt rfl _ _ gb353 44 #[.int .i64 0,.int .i64 0,.string (⟨#[]⟩ : ByteArray)] (0,0) _ rfl (by (with_reducible repeat first|apply ze|apply zf|apply zg);refine zL (cs:=#[.int .i64 0,.int .i64 0,.string x354002_6]) ?_ 2 _ rfl;(with_reducible repeat first|apply ze|apply zf|apply zg);refine zL (cs:=#[.int .i64 0,.int .i64 x354001_6,.string x354002_6]) ?_ 1 _ rfl;(with_reducible repeat first|apply ze|apply zf|apply zg);refine zL (cs:=#[.int .i64 x354000_6,.int .i64 x354001_6,.string x354002_6]) ?_ 0 _ rfl;(with_reducible repeat first|apply ze|apply zf|apply zg);exact BK353.out) Try.underlying44 rfl (by kernel_rfl)) rfl ?_;exact ⟨by first|rfl|(simp [yt,yu] <;> rfl)|(simp [*,yt,yu] <;> rfl),by repeat (with_reducible first|exact HB.out|apply za|apply zb|apply zc|refine zd ?_ GE353.out|refine zd ?_ GE354.out)⟩
    rw [if_neg c48] at H;have c48b0 : decide ((a0.size : Int)<(wrap64 (1+x6_6)))=false:=decide_eq_false c48;clear c48
    by_cases c51 : x6_6=1
    ·
     rw [if_pos c51] at H
     have c51b0 : (x6_6 == 1)=true:=ya.mpr c51;have c51b1 : (x6_6 != 1)=false:=zX.mpr c51;clear c51
     by_cases c52 : 1<(a0.size : Int)
     ·
      rw [if_pos c52] at H
      have c52b0 : decide (1<(a0.size : Int))=true:=decide_eq_true c52;have c52b1 : decide (1<a0.size)=true:=decide_eq_true (by omega);clear c52;obtain ⟨ji54,hji54⟩ : ∃ j_ : Int,(wrap64 (1+x6_6))=j_:=⟨_,rfl⟩;replace H : (if 0≤(ji54) then (if (ji54)≤(a0.size : Int) then (some ((wrap64 (bt a0 0)),wrap64 (bt a0 1),x355002_6,a0.extract ((ji54) : Int).toNat a0.size,true)) else (none)) else (none))=some (r1,r2,r3,r4,r5):=by first|(rw [hji54] at H;exact H)|(simp only [hji54] at H ⊢;exact H)
      (try rw [hji54] at c48b0);have hji54w : (IntKind.i64.wrap (1+x6_6))=ji54:=(zG _).trans hji54
      by_cases c55 : 0≤(ji54)
      ·
       rw [if_pos c55] at H
       have c55b0:=eq_true c55;have c55b1 : decide (0≤(ji54))=true:=decide_eq_true c55;clear c55
       by_cases c56 : (ji54)≤(a0.size : Int)
       ·
        rw [if_pos c56] at H
        have c56b0:=eq_true c56;have c56b1 : decide ((ji54)≤(a0.size : Int))=true:=decide_eq_true c56;clear c56;simp only [Option.some.injEq,Prod.mk.injEq] at H;obtain ⟨rfl,rfl,rfl,rfl,rfl⟩:=H;have p53 : 0≤(1 : Int):=(by omega);have q53 : 1<a0.size:=(by have : (1 : Int)<(a0.size : Int):=zy (by first|(with_reducible assumption)|assumption);omega);have hx53 : ∀ h : 1<a0.size,((a0[1]'h).toNat : Int)=bt a0 1:=bt_at a0 1;clear p53;have qi53 : (1<(a0.size : Int))=True:=eq_true (zy (by first|(with_reducible assumption)|assumption));replace q53:=eq_true q53;have hnb57:=NB354_353.out;have hnc57:=NB353_354.out;obtain ⟨hcz58_0,hcz58_1,hcz58_2,hfz58_0,hfz58_1,hfz58_2⟩:=cB3 BK354.out
        try go_wp2
        have n0_ : Aside0 ((wc.setCell ⟨gb354,1,none⟩ (.int .i64 (wrap64 (bt a0 1)))).heap[gb353]? = some (.cells #[.int .i64 x354000_6,.int .i64 x354001_6,.string x354002_6] 44 (0,0))):=⟨by (with_reducible repeat first|apply ze|apply zf|apply zg);refine zS ?_ NB353_354.out _;(with_reducible repeat first|apply ze|apply zf|apply zg);exact BK353.out⟩;have n1_ : Aside0 ((wc.setCell ⟨gb354,1,none⟩ (.int .i64 (wrap64 (bt a0 1)))).heap[gb354]? = some (.cells #[.int .i64 (wrap64 (bt a0 0)),.int .i64 (wrap64 (bt a0 1)),.string x355002_6] 44 (0,0))):=⟨by (with_reducible repeat first|apply ze|apply zf|apply zg);refine zL (cs:=#[.int .i64 (wrap64 (bt a0 0)),.int .i64 0,.string x355002_6]) ?_ 1 _ rfl;(with_reducible repeat first|apply ze|apply zf|apply zg);exact BK354.out⟩;have n2_ : Aside0 (Below w.heap.size w (wc.setCell ⟨gb354,1,none⟩ (.int .i64 (wrap64 (bt a0 1))))):=⟨by repeat (with_reducible first|exact HB.out|apply za|apply zb|apply zc|refine zd ?_ GE353.out|refine zd ?_ GE354.out)⟩;(try clear BK353);(try clear BK354);(try clear HB);generalize (wc.setCell ⟨gb354,1,none⟩ (.int .i64 (wrap64 (bt a0 1))))=w59 at n0_ n1_ n2_ ⊢;have BK353:=n0_;have BK354:=n1_;have HB:=n2_;clear n0_ n1_ n2_;replace BK353:=zh (zf BK353.out);replace BK354:=zh (zf BK354.out);replace HB:=zh (zc HB.out);refine start_ (n:=8) (S:=fun w' => w'.cell? ⟨gb354,0,none⟩=some (.int .i64 (wrap64 (bt a0 0)))∧w'.cell? ⟨gb354,1,none⟩=some (.int .i64 (wrap64 (bt a0 1)))∧w'.cell? ⟨gb354,2,none⟩=some (.string x355002_6)) (ds:=[]) (bm_ 0 8) (by kernel_rfl) rfl rfl ⟨(zz BK354.out 0).trans rfl,(zz BK354.out 1).trans rfl,(zz BK354.out 2).trans rfl⟩ (fun hHeld=>?_);refine with_tabW F2.tab30 F2.bits30 (fun HT_ HW_=>?_);generalize w59.drew=w60 at BK353 BK354 HB hHeld ⊢;refine pure_ (i:=1) (N:=some 77) (v:=?_) (a':=?_) #[false,true,false,false,false,false,false,false] rfl rfl (any_of HT_.out (by kernel_rfl)) (fun _ _ _ h=>h) (Or.inl ⟨by rfl,?_⟩) ?_ ?_;rotate_left
        ·
         intro w'
         go_simp
         with_reducible rfl
        rotate_left
        ·
         simp only [Act.put,zi,zj,zk,zG,zH]
         rfl
        refine pure_ (i:=2) (N:=some 78) (v:=?_) (a':=?_) #[false,true,true,false,false,false,false,false] rfl rfl (any_of HT_.out (by kernel_rfl)) (fun _ _ _ h=>h) (Or.inl ⟨by rfl,?_⟩) ?_ ?_;rotate_left
        ·
         intro w'
         go_simp
         with_reducible rfl
        rotate_left
        ·
         simp only [Act.put,zi,zj,zk,zG,zH]
         rfl
        refine pure_ (i:=3) (N:=some 79) (v:=?_) (a':=?_) #[false,true,true,true,false,false,false,false] rfl rfl (any_of HT_.out (by kernel_rfl)) (fun _ _ _ h=>h) (Or.inl ⟨by rfl,?_⟩) ?_ ?_;rotate_left
        ·
         intro w'
         go_simp
         with_reducible rfl
        rotate_left
        ·
         simp only [Act.put,zi,zj,zk,zG,zH]
         rfl
        refine pure_ (i:=4) (N:=some 80) (v:=?_) (a':=?_) #[false,true,true,true,true,false,false,false] rfl rfl (any_of HT_.out (by kernel_rfl)) (fun _ _ _ h=>h) (Or.inl ⟨by rfl,?_⟩) ?_ ?_;rotate_left
        ·
         intro w'
         go_simp
         with_reducible rfl
        rotate_left
        ·
         simp only [Act.put,zi,zj,zk,zG,zH]
         rfl
        refine take_ (i:=0) (N:=some 76) (v:=?_) (a':=?_) (bm_ 5 8) rfl rfl (yo HT_.out HW_.out (by kernel_rfl)) (fun _ _ _ h=>h) (Or.inl ⟨by rfl,?_⟩) hHeld ?_ ?_;rotate_left
        ·
         rintro w' ⟨s0,s1,s2⟩
         go_simp
         with_reducible rfl
        rotate_left
        ·
         simp only [Act.put,zi,zj,zk,zG,zH]
         rfl
        refine one_ (i:=5) (N:=none) (bm_ 6 8) rfl rfl (one_of HT_.out (by kernel_rfl)) (by decide) (fun K hK=>?_);have hs61 : w60.cell? ⟨gb353,0,none⟩=some (.int .i64 x354000_6):=(zz BK353.out 0).trans rfl;have hfs61:=zA BK353.out 0;have hns61_1:=NB354_353.out;have hms61_1:=NB353_354.out;have hs62 : w60.cell? ⟨gb353,1,none⟩=some (.int .i64 x354001_6):=(zz BK353.out 1).trans rfl;have hfs62:=zA BK353.out 1;have hns62_1:=NB354_353.out;have hms62_1:=NB353_354.out;have hs63 : w60.cell? ⟨gb353,2,none⟩=some (.string x354002_6):=(zz BK353.out 2).trans rfl;have hfs63:=zA BK353.out 2;have hns63_1:=NB354_353.out;have hms63_1:=NB353_354.out;refine skip_ (w1:=?_) (by rfl) rfl ?_ ?_;rotate_left
        ·
         go_simp
         rfl
        refine hK.out _ _ ⟨((zR (p:=⟨gb353,_,none⟩) NB354_353.out _).trans (((zR (p:=⟨gb353,_,none⟩) NB354_353.out _).trans (((zR (p:=⟨gb353,_,none⟩) NB354_353.out _).trans (hHeld.1)))))),((zR (p:=⟨gb353,_,none⟩) NB354_353.out _).trans (((zR (p:=⟨gb353,_,none⟩) NB354_353.out _).trans (((zR (p:=⟨gb353,_,none⟩) NB354_353.out _).trans (hHeld.2.1)))))),((zR (p:=⟨gb353,_,none⟩) NB354_353.out _).trans (((zR (p:=⟨gb353,_,none⟩) NB354_353.out _).trans (((zR (p:=⟨gb353,_,none⟩) NB354_353.out _).trans (hHeld.2.2))))))⟩ (fun hHeld=>?_);clear hK K;refine pure_ (i:=6) (N:=some 3) (v:=?_) (a':=?_) (bm_ 7 8) rfl rfl (any_of HT_.out (by kernel_rfl)) (fun _ _ _ h=>h) (Or.inl ⟨by rfl,?_⟩) ?_ ?_;rotate_left
        ·
         intro w'
         go_simp
         with_reducible rfl
        rotate_left
        ·
         simp only [Act.put,zi,zj,zk,zG,zH]
         rfl
        refine pure_ (i:=7) (N:=some 4) (v:=?_) (a':=?_) (bm_ 8 8) rfl rfl (any_of HT_.out (by kernel_rfl)) (fun _ _ _ h=>h) (Or.inl ⟨by rfl,?_⟩) ?_ ?_;rotate_left
        ·
         intro w'
         go_simp
         with_reducible rfl
        rotate_left
        ·
         simp only [Act.put,zi,zj,zk,zG,zH]
         rfl
        refine done_ (done_of HT_.out (by kernel_rfl)) ?_
        try go_wp2
        refine bodyPost_ret (results_ctt rfl _ _ gb353 44 #[.int .i64 (wrap64 (bt a0 0)),.int .i64 (wrap64 (bt a0 1)),.string x355002_6] (0,0) _ rfl (by (with_reducible repeat first|apply ze|apply zf|apply zg);refine zL (cs:=#[.int .i64 (wrap64 (bt a0 0)),.int .i64 (wrap64 (bt a0 1)),.string x354002_6]) ?_ 2 _ rfl;(with_reducible repeat first|apply ze|apply zf|apply zg);refine zL (cs:=#[.int .i64 (wrap64 (bt a0 0)),.int .i64 x354001_6,.string x354002_6]) ?_ 1 _ rfl;(with_reducible repeat first|apply ze|apply zf|apply zg);refine zL (cs:=#[.int .i64 x354000_6,.int .i64 x354001_6,.string x354002_6]) ?_ 0 _ rfl;(with_reducible repeat first|apply ze|apply zf|apply zg);exact BK353.out) Try.underlying44 rfl (by kernel_rfl)) rfl ?_;exact ⟨by first|rfl|(simp [yt,yu] <;> rfl)|(simp only [← hji54];first|rfl|(simp [yt,yu] <;> rfl))|(simp [*,yt,yu] <;> rfl),by repeat (with_reducible first|exact HB.out|apply za|apply zb|apply zc|refine zd ?_ GE353.out|refine zd ?_ GE354.out)⟩
       rw [if_neg c56] at H;exact absurd H (by simp)
      rw [if_neg c55] at H;exact absurd H (by simp)
     rw [if_neg c52] at H;exact absurd H (by simp)
    rw [if_neg c51] at H;have c51b0 : (x6_6 == 1)=false:=zY.mpr c51;have c51b1 : (x6_6 != 1)=true:=zZ.mpr c51
    by_cases c64 : 1<(a0.size : Int)
    ·
     rw [if_pos c64] at H
     have c64b0 : decide (1<(a0.size : Int))=true:=decide_eq_true c64;have c64b1 : decide (1<a0.size)=true:=decide_eq_true (by omega);clear c64
     by_cases c66 : (bt a0 1) > 127
     ·
      rw [if_pos c66] at H
      have c66b0 : decide (127<(bt a0 1))=true:=decide_eq_true c66;clear c66;simp only [Option.some.injEq,Prod.mk.injEq] at H;obtain ⟨rfl,rfl,rfl,rfl,rfl⟩:=H;have p65 : 0≤(1 : Int):=(by omega);have q65 : 1<a0.size:=(by have : (1 : Int)<(a0.size : Int):=zy (by first|(with_reducible assumption)|assumption);omega);have hx65 : ∀ h : 1<a0.size,((a0[1]'h).toNat : Int)=bt a0 1:=bt_at a0 1;clear p65;have qi65 : (1<(a0.size : Int))=True:=eq_true (zy (by first|(with_reducible assumption)|assumption));replace q65:=eq_true q65;have hnb67:=NB353_354.out;have hnc67:=NB354_353.out;obtain ⟨hcz68_0,hcz68_1,hcz68_2,hfz68_0,hfz68_1,hfz68_2⟩:=cB3 BK353.out
      go_wp2
      refine bodyPost_ret (results_ctt rfl _ _ gb353 44 #[.int .i64 0,.int .i64 0,.string (⟨#[]⟩ : ByteArray)] (0,0) _ rfl (by (with_reducible repeat first|apply ze|apply zf|apply zg);refine zL (cs:=#[.int .i64 0,.int .i64 0,.string x354002_6]) ?_ 2 _ rfl;(with_reducible repeat first|apply ze|apply zf|apply zg);refine zL (cs:=#[.int .i64 0,.int .i64 x354001_6,.string x354002_6]) ?_ 1 _ rfl;(with_reducible repeat first|apply ze|apply zf|apply zg);refine zL (cs:=#[.int .i64 x354000_6,.int .i64 x354001_6,.string x354002_6]) ?_ 0 _ rfl;(with_reducible repeat first|apply ze|apply zf|apply zg);exact BK353.out) Try.underlying44 rfl (by kernel_rfl)) rfl ?_;exact ⟨by first|rfl|(simp [yt,yu] <;> rfl)|(simp [*,yt,yu] <;> rfl),by repeat (with_reducible first|exact HB.out|apply za|apply zb|apply zc|refine zd ?_ GE353.out|refine zd ?_ GE354.out)⟩
     rw [if_neg c66] at H;have c66b0 : decide (127<(bt a0 1))=false:=decide_eq_false c66;clear c66
     by_cases c69 : 1≤9
     ·
      rw [if_pos c69] at H
      have c69b0:=eq_true c69;have c69b1 : decide (1≤9)=true:=decide_eq_true c69;clear c69
      by_cases c70 : 9≤(a0.size : Int)
      ·
       rw [if_pos c70] at H
       have c70b0:=eq_true c70;have c70b1 : decide (9≤(a0.size : Int))=true:=decide_eq_true c70;clear c70;replace H:=zT.mp H;obtain ⟨t356,A710,H⟩:=H;replace H : (if 0≤(wrap64 (1+x6_6)) then (if (wrap64 (1+x6_6))≤(a0.size : Int) then (some ((wrap64 (bt a0 0)),wrap64 (t356 - 4611686018427387904),x355002_6,a0.extract ((wrap64 (1+x6_6)) : Int).toNat a0.size,true)) else (none)) else (none))=some (r1,r2,r3,r4,r5):=H;have A71:=zh A710;clear A710;obtain ⟨ji72,hji72⟩ : ∃ j_ : Int,(wrap64 (1+x6_6))=j_:=⟨_,rfl⟩;replace H : (if 0≤(ji72) then (if (ji72)≤(a0.size : Int) then (some ((wrap64 (bt a0 0)),wrap64 (t356 - 4611686018427387904),x355002_6,a0.extract ((ji72) : Int).toNat a0.size,true)) else (none)) else (none))=some (r1,r2,r3,r4,r5):=by first|(rw [hji72] at H;exact H)|(simp only [hji72] at H ⊢;exact H)
       (try rw [hji72] at c48b0);(try rw [hji72] at A71);have hji72w : (IntKind.i64.wrap (1+x6_6))=ji72:=(zG _).trans hji72
       by_cases c73 : 0≤(ji72)
       ·
        rw [if_pos c73] at H
        have c73b0:=eq_true c73;have c73b1 : decide (0≤(ji72))=true:=decide_eq_true c73;clear c73
        by_cases c74 : (ji72)≤(a0.size : Int)
        ·
         rw [if_pos c74] at H
         have c74b0:=eq_true c74;have c74b1 : decide ((ji72)≤(a0.size : Int))=true:=decide_eq_true c74;clear c74;simp only [Option.some.injEq,Prod.mk.injEq] at H;obtain ⟨rfl,rfl,rfl,rfl,rfl⟩:=H;have p65 : 0≤(1 : Int):=(by omega);have q65 : 1<a0.size:=(by have : (1 : Int)<(a0.size : Int):=zy (by first|(with_reducible assumption)|assumption);omega);have hx65 : ∀ h : 1<a0.size,((a0[1]'h).toNat : Int)=bt a0 1:=bt_at a0 1;clear p65;have qi65 : (1<(a0.size : Int))=True:=eq_true (zy (by first|(with_reducible assumption)|assumption));replace q65:=eq_true q65
         try go_wp2_with (first|((with_reducible refine zJ (f:=100) rfl ?_);refine yj (some 73) rfl rfl Try.func100 (by kernel_rfl) rfl #[.string (a0.extract 1 9)] rfl (by (try simp only [zt,zu,zv]);first|done|rfl|(simp only [zw,zx];rfl)|(simp only [yr,ys,zV,zW];rfl)) ?_;(with_reducible refine (Fn.calls kj6  (a0.extract 1 9) t356 _ A71.out).mono ?_);rintro e w' ⟨rfl,⟨nd,rfl⟩⟩;refine ⟨_,rfl,?_⟩;(try (rw [drewN_self wc];generalize hq_ : World.drewN wc _=wc;replace BK353 : Aside0 (wc.heap[gb353]? = some (.cells #[.int .i64 x354000_6,.int .i64 x354001_6,.string x354002_6] 44 (0,0))):=⟨by rw [← hq_];exact (by (with_reducible repeat first|apply ze|apply zf|apply zg);exact BK353.out)⟩;replace BK354 : Aside0 (wc.heap[gb354]? = some (.cells #[.int .i64 (wrap64 (bt a0 0)),.int .i64 0,.string x355002_6] 44 (0,0))):=⟨by rw [← hq_];exact (by (with_reducible repeat first|apply ze|apply zf|apply zg);exact BK354.out)⟩;replace HB : Aside0 (Below w.heap.size w wc):=⟨by rw [← hq_];exact (by repeat (with_reducible first|exact HB.out|apply za|apply zb|apply zc|refine zd ?_ GE353.out|refine zd ?_ GE354.out))⟩;clear hq_));have hnb75:=NB354_353.out;have hnc75:=NB353_354.out;obtain ⟨hcz76_0,hcz76_1,hcz76_2,hfz76_0,hfz76_1,hfz76_2⟩:=cB3 BK354.out))
         have n0_ : Aside0 ((wc.setCell ⟨gb354,1,none⟩ (.int .i64 (wrap64 (t356 - 4611686018427387904)))).heap[gb353]? = some (.cells #[.int .i64 x354000_6,.int .i64 x354001_6,.string x354002_6] 44 (0,0))):=⟨by (with_reducible repeat first|apply ze|apply zf|apply zg);refine zS ?_ NB353_354.out _;(with_reducible repeat first|apply ze|apply zf|apply zg);exact BK353.out⟩;have n1_ : Aside0 ((wc.setCell ⟨gb354,1,none⟩ (.int .i64 (wrap64 (t356 - 4611686018427387904)))).heap[gb354]? = some (.cells #[.int .i64 (wrap64 (bt a0 0)),.int .i64 (wrap64 (t356 - 4611686018427387904)),.string x355002_6] 44 (0,0))):=⟨by (with_reducible repeat first|apply ze|apply zf|apply zg);refine zL (cs:=#[.int .i64 (wrap64 (bt a0 0)),.int .i64 0,.string x355002_6]) ?_ 1 _ rfl;(with_reducible repeat first|apply ze|apply zf|apply zg);exact BK354.out⟩;have n2_ : Aside0 (Below w.heap.size w (wc.setCell ⟨gb354,1,none⟩ (.int .i64 (wrap64 (t356 - 4611686018427387904))))):=⟨by repeat (with_reducible first|exact HB.out|apply za|apply zb|apply zc|refine zd ?_ GE353.out|refine zd ?_ GE354.out)⟩;(try clear BK353);(try clear BK354);(try clear HB);generalize (wc.setCell ⟨gb354,1,none⟩ (.int .i64 (wrap64 (t356 - 4611686018427387904))))=w77 at n0_ n1_ n2_ ⊢;have BK353:=n0_;have BK354:=n1_;have HB:=n2_;clear n0_ n1_ n2_;replace BK353:=zh (zf BK353.out);replace BK354:=zh (zf BK354.out);replace HB:=zh (zc HB.out);refine start_ (n:=8) (S:=fun w' => w'.cell? ⟨gb354,0,none⟩=some (.int .i64 (wrap64 (bt a0 0)))∧w'.cell? ⟨gb354,1,none⟩=some (.int .i64 (wrap64 (t356 - 4611686018427387904)))∧w'.cell? ⟨gb354,2,none⟩=some (.string x355002_6)) (ds:=[]) (bm_ 0 8) (by kernel_rfl) rfl rfl ⟨(zz BK354.out 0).trans rfl,(zz BK354.out 1).trans rfl,(zz BK354.out 2).trans rfl⟩ (fun hHeld=>?_);refine with_tabW F2.tab30 F2.bits30 (fun HT_ HW_=>?_);generalize w77.drew=w78 at BK353 BK354 HB hHeld ⊢;refine pure_ (i:=1) (N:=some 77) (v:=?_) (a':=?_) #[false,true,false,false,false,false,false,false] rfl rfl (any_of HT_.out (by kernel_rfl)) (fun _ _ _ h=>h) (Or.inl ⟨by rfl,?_⟩) ?_ ?_;rotate_left
         ·
          intro w'
          go_simp
          with_reducible rfl
         rotate_left
         ·
          simp only [Act.put,zi,zj,zk,zG,zH]
          rfl
         refine pure_ (i:=2) (N:=some 78) (v:=?_) (a':=?_) #[false,true,true,false,false,false,false,false] rfl rfl (any_of HT_.out (by kernel_rfl)) (fun _ _ _ h=>h) (Or.inl ⟨by rfl,?_⟩) ?_ ?_;rotate_left
         ·
          intro w'
          go_simp
          with_reducible rfl
         rotate_left
         ·
          simp only [Act.put,zi,zj,zk,zG,zH]
          rfl
         refine pure_ (i:=3) (N:=some 79) (v:=?_) (a':=?_) #[false,true,true,true,false,false,false,false] rfl rfl (any_of HT_.out (by kernel_rfl)) (fun _ _ _ h=>h) (Or.inl ⟨by rfl,?_⟩) ?_ ?_;rotate_left
         ·
          intro w'
          go_simp
          with_reducible rfl
         rotate_left
         ·
          simp only [Act.put,zi,zj,zk,zG,zH]
          rfl
         refine pure_ (i:=4) (N:=some 80) (v:=?_) (a':=?_) #[false,true,true,true,true,false,false,false] rfl rfl (any_of HT_.out (by kernel_rfl)) (fun _ _ _ h=>h) (Or.inl ⟨by rfl,?_⟩) ?_ ?_;rotate_left
         ·
          intro w'
          go_simp
          with_reducible rfl
         rotate_left
         ·
          simp only [Act.put,zi,zj,zk,zG,zH]
          rfl
         refine take_ (i:=0) (N:=some 76) (v:=?_) (a':=?_) (bm_ 5 8) rfl rfl (yo HT_.out HW_.out (by kernel_rfl)) (fun _ _ _ h=>h) (Or.inl ⟨by rfl,?_⟩) hHeld ?_ ?_;rotate_left
         ·
          rintro w' ⟨s0,s1,s2⟩
          go_simp
          with_reducible rfl
         rotate_left
         ·
          simp only [Act.put,zi,zj,zk,zG,zH]
          rfl
         refine one_ (i:=5) (N:=none) (bm_ 6 8) rfl rfl (one_of HT_.out (by kernel_rfl)) (by decide) (fun K hK=>?_);have hs79 : w78.cell? ⟨gb353,0,none⟩=some (.int .i64 x354000_6):=(zz BK353.out 0).trans rfl;have hfs79:=zA BK353.out 0;have hns79_1:=NB354_353.out;have hms79_1:=NB353_354.out;have hs80 : w78.cell? ⟨gb353,1,none⟩=some (.int .i64 x354001_6):=(zz BK353.out 1).trans rfl;have hfs80:=zA BK353.out 1;have hns80_1:=NB354_353.out;have hms80_1:=NB353_354.out;have hs81 : w78.cell? ⟨gb353,2,none⟩=some (.string x354002_6):=(zz BK353.out 2).trans rfl;have hfs81:=zA BK353.out 2;have hns81_1:=NB354_353.out;have hms81_1:=NB353_354.out;refine skip_ (w1:=?_) (by rfl) rfl ?_ ?_;rotate_left
         ·
          go_simp
          rfl
         refine hK.out _ _ ⟨((zR (p:=⟨gb353,_,none⟩) NB354_353.out _).trans (((zR (p:=⟨gb353,_,none⟩) NB354_353.out _).trans (((zR (p:=⟨gb353,_,none⟩) NB354_353.out _).trans (hHeld.1)))))),((zR (p:=⟨gb353,_,none⟩) NB354_353.out _).trans (((zR (p:=⟨gb353,_,none⟩) NB354_353.out _).trans (((zR (p:=⟨gb353,_,none⟩) NB354_353.out _).trans (hHeld.2.1)))))),((zR (p:=⟨gb353,_,none⟩) NB354_353.out _).trans (((zR (p:=⟨gb353,_,none⟩) NB354_353.out _).trans (((zR (p:=⟨gb353,_,none⟩) NB354_353.out _).trans (hHeld.2.2))))))⟩ (fun hHeld=>?_);clear hK K;refine pure_ (i:=6) (N:=some 3) (v:=?_) (a':=?_) (bm_ 7 8) rfl rfl (any_of HT_.out (by kernel_rfl)) (fun _ _ _ h=>h) (Or.inl ⟨by rfl,?_⟩) ?_ ?_;rotate_left
         ·
          intro w'
          go_simp
          with_reducible rfl
         rotate_left
         ·
          simp only [Act.put,zi,zj,zk,zG,zH]
          rfl
         refine pure_ (i:=7) (N:=some 4) (v:=?_) (a':=?_) (bm_ 8 8) rfl rfl (any_of HT_.out (by kernel_rfl)) (fun _ _ _ h=>h) (Or.inl ⟨by rfl,?_⟩) ?_ ?_;rotate_left
         ·
          intro w'
          go_simp
          with_reducible rfl
         rotate_left
         ·
          simp only [Act.put,zi,zj,zk,zG,zH]
          rfl
         refine done_ (done_of HT_.out (by kernel_rfl)) ?_
         try go_wp2
         refine bodyPost_ret (results_ctt rfl _ _ gb353 44 #[.int .i64 (wrap64 (bt a0 0)),.int .i64 (wrap64 (t356 - 4611686018427387904)),.string x355002_6] (0,0) _ rfl (by (with_reducible repeat first|apply ze|apply zf|apply zg);refine zL (cs:=#[.int .i64 (wrap64 (bt a0 0)),.int .i64 (wrap64 (t356 - 4611686018427387904)),.string x354002_6]) ?_ 2 _ rfl;(with_reducible repeat first|apply ze|apply zf|apply zg);refine zL (cs:=#[.int .i64 (wrap64 (bt a0 0)),.int .i64 x354001_6,.string x354002_6]) ?_ 1 _ rfl;(with_reducible repeat first|apply ze|apply zf|apply zg);refine zL (cs:=#[.int .i64 x354000_6,.int .i64 x354001_6,.string x354002_6]) ?_ 0 _ rfl;(with_reducible repeat first|apply ze|apply zf|apply zg);exact BK353.out) Try.underlying44 rfl (by kernel_rfl)) rfl ?_;exact ⟨by first|rfl|(simp [yt,yu] <;> rfl)|(simp only [← hji72];first|rfl|(simp [yt,yu] <;> rfl))|(simp [*,yt,yu] <;> rfl),by repeat (with_reducible first|exact HB.out|apply za|apply zb|apply zc|refine zd ?_ GE353.out|refine zd ?_ GE354.out)⟩
        rw [if_neg c74] at H;exact absurd H (by simp)
       rw [if_neg c73] at H;exact absurd H (by simp)
      rw [if_neg c70] at H;exact absurd H (by simp)
     rw [if_neg c69] at H;exact absurd H (by simp)
    rw [if_neg c64] at H;exact absurd H (by simp)
 rw [if_neg c5] at H;exact absurd H (by simp)

end Go.Proofs.Ytjgcddjdmfcgoaa.Q
end
section
namespace Go.Proofs.Ytjgcddjdmfcgoaa.Q
open Go.RowKit Go.Proofs.YtjgcddjdmfcgoaaW.PrintWords Go.Proofs.YtjgcddjdmfcgoaaW.PrintLast Go.Proofs.YtjgcddjdmfcgoaaW.PrintMore
attribute [local go_sem] max2_int min2_int max_two min_two max_three min_three max_four min_four max2_str min2_str str_geq str_gtr str_leq
set_option linter.unusedVariables false
set_option linter.unusedSimpArgs false

def Fi.l0 : Nat→ByteArray→List (S44)→Option ((List (S44))×Bool)
 | 0,_,_=>none
 | k+1,x0,x4=>if (x0.size : Int) > 0 then ((F2.f k x0).bind fun bt360=>(if bt360.2.2.2.2=true then (if x4.length<4398046511104 then (Fi.l0 k bt360.2.2.2.1 (x4 ++ [(⟨bt360.1,bt360.2.1,bt360.2.2.1⟩ : S44)])) else (none)) else (some ((([] : List (S44))),false)))) else (some (x4,true))
def Fi.f (k : Nat) (a0 : ByteArray) : Option ((List (S44))×Bool):=Fi.l0 k a0 (([] : List (S44)))
theorem Fi.mono_l : ∀ k,(∀ y0 y1,LeO (Fi.l0 k y0 y1) (Fi.l0 (k+1) y0 y1))
 | 0=>fun _ _ r h=>by simp [Fi.l0] at h
 | k+1=>by
  have ih0:=Fi.mono_l k;intro y0 y1;unfold Fi.l0
  repeat' first|(with_reducible first|exact ih0 _ _|exact F2.mono _ _|exact zQ _|exact zN _|refine zP ?_ ?_|refine zO ?_ (fun _=>?_))|refine zP ?_ ?_|refine zO ?_ (fun _=>?_)
theorem Fi.mono : ∀ a0 k,LeO (Fi.f k a0) (Fi.f (k+1) a0):=by
 intro a0 k;have ih0:=Fi.mono_l k;unfold Fi.f
 repeat' first|(with_reducible first|exact ih0 _ _|exact F2.mono _ _|exact zQ _|exact zN _|refine zP ?_ ?_|refine zO ?_ (fun _=>?_))|refine zP ?_ ?_|refine zO ?_ (fun _=>?_)
set_option maxHeartbeats 8000000 in
set_option maxRecDepth 100000 in
theorem Fi.calls (k : Nat) (a0 : ByteArray) (r1 : List (S44)) (r2 : Bool) (w : World) (h : Fi.f k a0=some (r1,r2)) :
  Calls Try.prog 73 #[.string a0] w fun e w' => ∃ v0_ : Value,e = .returned (.tuple #[v0_,.bool r2])∧Kd.R k44 44 w' w.heap.size (fun _=>True) v0_ r1∧Below w.heap.size w w':=by
 have hu44:=Try.underlying44;have HB:=zh (Below.refl w.heap.size w);have H : (Fi.l0 k a0 (([] : List (S44))))=some (r1,r2):=h;clear h;obtain ⟨y357,hy357⟩ : ∃ y_ : List (S44),y_=(([] : List (S44))):=⟨_,rfl⟩;replace H : (Fi.l0 k a0 y357)=some (r1,r2):=by first|(rw [hy357];with_reducible exact H)|(have H2_:=(Option.bind_some _ _).symm.trans H;rw [hy357];with_reducible exact H2_)|(have H2_:=(Option.bind_some _ _).symm.trans H;with_reducible exact H2_)|with_reducible exact H|(rw [hy357];exact H)|exact H
 have Ny357:=zh hy357;clear hy357;have H':=zh H;clear H
 go_enter Try.func73,Try.ntmps73
 go_wp2_with (first|((with_reducible refine zK (N:=8) rfl ?_);refine Kd.R_lit k44 _ 44 ?hg (N:=8) ?hd (xs:=([] : List (S44))) (inner:=[]) (ok:=fun _=>True) (okp:=fun _=>True) ?hr ?hp (fun _ hk=>hk) trivial (Below.refl _ _) (ye _) (by simp) ?_;(case hd=>rfl);(case hg=>rfl);(case hr=>go_simp <;> rfl);(case hp=>exact (Reps.none _ _));intro v358 w2 ho3 hb hg_ hnew_;clear hg_ hnew_;(first|rw [← Ny357.out] at ho3|(simp only [Int.reduceToNat] at ho3;rw [← Ny357.out] at ho3));have HO359:=zh (yy ho3 (zB (by repeat (with_reducible first|exact HB.out|apply za|apply zb|apply zc))));replace HB:=zh (zC (by repeat (with_reducible first|exact HB.out|apply za|apply zb|apply zc)) hb);clear hb ho3))
 go_loopg [0,4] k (fun kq v0 v4 w' => ∃ (x0_1 : ByteArray) (x4_1 : List (S44)),v0 = .string x0_1∧Aside0 (Fi.l0 kq x0_1 x4_1=some (r1,r2))∧Aside0 (kq≤k)∧Aside0 (Kd.R k44 44 w' w.heap.size (fun _=>True) v4 x4_1)∧Aside0 (Below w.heap.size w w'))
 case atStart=>exact ⟨(a0),(y357),(by first|rfl|(simp;done)|(simp [*];done)),H',⟨ye _⟩,⟨by (with_reducible repeat (first|apply zm|apply zn|apply zo));exact HO359.out⟩,⟨by repeat (with_reducible first|exact HB.out|apply za|apply zb|apply zc)⟩⟩
 case round =>
  clear H'
  try clear p2
  obtain ⟨x0_1,x4_1,rfl,HA,HK1,HO_4,HB⟩:=hrel
  cases gk with
  | zero=>exact absurd HA.out (by simp [Fi.l0])
  | succ k1 =>
   have H:=HA.out;clear HA;simp only [Fi.l0] at H
   by_cases c4 : (x0_1.size : Int) > 0
   ·
    rw [if_pos c4] at H
    have c4b0 : decide (0<(x0_1.size : Int))=true:=decide_eq_true c4;have c4b1 : decide (0<x0_1.size)=true:=decide_eq_true (by omega);clear c4;replace H:=zT.mp H;obtain ⟨⟨t360,t361,t362,t363,t364⟩,A50,H⟩:=H;replace H : (if t364=true then (if x4_1.length<4398046511104 then (Fi.l0 k1 t363 (x4_1 ++ [(⟨t360,t361,t362⟩ : S44)])) else (none)) else (some ((([] : List (S44))),false)))=some (r1,r2):=H;have A5:=zh A50;clear A50
    by_cases c6 : t364=true
    ·
     subst c6
     have H1 : (if x4_1.length<4398046511104 then (Fi.l0 k1 t363 (x4_1 ++ [(⟨t360,t361,t362⟩ : S44)])) else (none))=some (r1,r2):=by rw [if_pos rfl] at H;exact H
     clear H;have H:=H1;clear H1
     by_cases c7 : x4_1.length<4398046511104
     ·
      rw [if_pos c7] at H
      have LMc7:=zh c7;clear c7;obtain ⟨y366,hy366⟩ : ∃ y_ : List (S44),y_=(x4_1 ++ [(⟨t360,t361,t362⟩ : S44)]):=⟨_,rfl⟩;replace H : (Fi.l0 k1 t363 y366)=some (r1,r2):=by first|(rw [hy366];with_reducible exact H)|(have H2_:=(Option.bind_some _ _).symm.trans H;rw [hy366];with_reducible exact H2_)|(have H2_:=(Option.bind_some _ _).symm.trans H;with_reducible exact H2_)|with_reducible exact H|(rw [hy366];exact H)|exact H
      have Ny366:=zh hy366;clear hy366;have H':=zh H;clear H
      go_wp2_with (first|((with_reducible refine zJ (f:=89) rfl ?_);refine yj (some 14) rfl rfl Try.func89 (by kernel_rfl) rfl #[.string x0_1] rfl (by (try simp only [zt,zu,zv]);first|done|rfl|(simp only [zw,zx];rfl)|(simp only [yr,ys,zV,zW];rfl)) ?_;(with_reducible refine (F2.calls k1  x0_1 t360 t361 t362 t363 true _ A5.out).mono ?_);rintro e w8 ⟨rfl,hb⟩;refine ⟨_,rfl,?_⟩;replace HO_4:=zh (yg (by (with_reducible repeat (first|apply zm|apply zn|apply zo));exact HO_4.out) hb);replace HB:=zh (zC (by repeat (with_reducible first|exact HB.out|apply za|apply zb|apply zc)) hb);(try clear hb);(try clear hb2);(try clear hk);(try clear hi))|((with_reducible refine zK (N:=5) rfl ?_);refine zI ?hg (N:=5) ?hd (cs:=#[.int .i64 0,.int .i64 0,.string (⟨#[]⟩ : ByteArray)]) (t:=44) ?hr ?_;(case hd=>rfl);(case hg=>rfl);(case hr=>go_simp <;> rfl);intro gb365 hg w9 hbox hb;replace HO_4:=zh (yg (Kd.R_elderB (by (with_reducible repeat (first|apply zm|apply zn|apply zo));exact HO_4.out) gb365 (Nat.le_of_eq hg.symm)) hb);have BK365:=zh (hbox);have hH_:=cH (by repeat (with_reducible first|exact HB.out|apply za|apply zb|apply zc)) hb hg;have GW365:=zh hH_.1;have GE365:=GW365;replace HB:=zh hH_.2;clear hb hbox hg hH_;obtain ⟨hcz10_0,hcz10_1,hcz10_2,hfz10_0,hfz10_1,hfz10_2⟩:=cB3 BK365.out)|((with_reducible refine yB (b:=.append) (xs:=#[.tmp 21,.tmp 23]) rfl ?_);at_builtin;refine Kd.R_append k44 (w0:=w) w.heap.size rfl (.tmp 21) (.tmp 23) 95 44 (.agg #[(.int .i64 0),(.int .i64 0),(.string ⟨#[]⟩)]) 32 rfl Try.underlying95 info44 rfl (by decide) (by omega) u4 x4_1 (⟨t360,t361,t362⟩ : S44) [.int .i64 t360,.int .i64 t361,.string t362] (fun k_=>k_≠gb365) (fun _=>False) rfl (by go_simp <;> rfl) ?aP (fun _ hk=>hk.elim) ?aF ?aO ?aB ?aS ?aL ?_;(case aP=>exact k44_mkM _ _ _ (⟨t360,t361,t362⟩ : S44));(case aB=>exact (by repeat (with_reducible first|exact HB.out|apply za|apply zb|apply zc|refine zd ?_ GE365.out)));(case aF=>exact (fun k_ hk=>Kd.freshB (g:=gb365) (o:=.cells #[.int .i64 t360,.int .i64 t361,.string t362] 44 (0,0)) (by (with_reducible repeat first|apply ze|apply zf|apply zg);refine zL (cs:=#[.int .i64 t360,.int .i64 t361,.string (⟨#[]⟩ : ByteArray)]) ?_ 2 _ rfl;(with_reducible repeat first|apply ze|apply zf|apply zg);refine zL (cs:=#[.int .i64 t360,.int .i64 0,.string (⟨#[]⟩ : ByteArray)]) ?_ 1 _ rfl;(with_reducible repeat first|apply ze|apply zf|apply zg);refine zL (cs:=#[.int .i64 0,.int .i64 0,.string (⟨#[]⟩ : ByteArray)]) ?_ 0 _ rfl;(with_reducible repeat first|apply ze|apply zf|apply zg);exact BK365.out) k_ hk));(case aO=>exact (by (with_reducible repeat (first|apply zm|apply zn|apply zo));exact zM (zE (p:=⟨gb365,2,none⟩) (zE (p:=⟨gb365,1,none⟩) (zE (p:=⟨gb365,0,none⟩) (zM HO_4.out (fun k_ hk=>(⟨hk,hk.2⟩ : _∧k_≠gb365))) (fun _ hk=>hk.2) (.int .i64 t360)) (fun _ hk=>hk.2) (.int .i64 t361)) (fun _ hk=>hk.2) (.string t362)) (fun _ hk=>hk.1.2)));(case aS=>exact (zB (by repeat (with_reducible first|exact HB.out|apply za|apply zb|apply zc|refine zd ?_ GE365.out))));(case aL=>have:=LMc7.out;omega);intro v367 w11 ho hb hg hat;rw [← Ny366.out] at ho;replace BK365:=zh (yw (g:=gb365) (o:=.cells #[.int .i64 t360,.int .i64 t361,.string t362] 44 (0,0)) (by (with_reducible repeat first|apply ze|apply zf|apply zg);refine zL (cs:=#[.int .i64 t360,.int .i64 t361,.string (⟨#[]⟩ : ByteArray)]) ?_ 2 _ rfl;(with_reducible repeat first|apply ze|apply zf|apply zg);refine zL (cs:=#[.int .i64 t360,.int .i64 0,.string (⟨#[]⟩ : ByteArray)]) ?_ 1 _ rfl;(with_reducible repeat first|apply ze|apply zf|apply zg);refine zL (cs:=#[.int .i64 0,.int .i64 0,.string (⟨#[]⟩ : ByteArray)]) ?_ 0 _ rfl;(with_reducible repeat first|apply ze|apply zf|apply zg);exact BK365.out) hg (yv HO_4.out (fun _ hk=>hk.2)));replace HB:=zh (hb);have HO368:=zh (ho);clear HO_4 ho hb hg hat))
      go_roundg k1
      case measure=>have:=HK1.out;omega
      case rel=>exact ⟨(t363),(y366),(by first|rfl|(simp;done)|(simp [*];done)),H',⟨by have:=HK1.out;omega⟩,⟨by (with_reducible repeat (first|apply zm|apply zn|apply zo));exact zM HO368.out (fun _ hk=>trivial)⟩,⟨by repeat (with_reducible first|exact HB.out|apply za|apply zb|apply zc|refine zd ?_ GE365.out)⟩⟩
     rw [if_neg c7] at H;exact absurd H (by simp)
    replace c6:=yb.mpr c6;subst c6;have H1 : (some ((([] : List (S44))),false))=some (r1,r2):=by rw [if_neg (show ¬ (false=true) by decide)] at H;exact H
    clear H;have H:=H1;clear H1;obtain ⟨y369,hy369⟩ : ∃ y_ : List (S44),y_=(([] : List (S44))):=⟨_,rfl⟩;replace H : (some (y369,false))=some (r1,r2):=by first|(rw [hy369];with_reducible exact H)|(have H2_:=(Option.bind_some _ _).symm.trans H;rw [hy369];with_reducible exact H2_)|(have H2_:=(Option.bind_some _ _).symm.trans H;with_reducible exact H2_)|with_reducible exact H|(rw [hy369];exact H)|exact H
    have Ny369:=zh hy369;clear hy369;simp only [Option.some.injEq,Prod.mk.injEq] at H;obtain ⟨rfl,rfl⟩:=H
    go_wp2_with (first|((with_reducible refine zJ (f:=89) rfl ?_);refine yj (some 14) rfl rfl Try.func89 (by kernel_rfl) rfl #[.string x0_1] rfl (by (try simp only [zt,zu,zv]);first|done|rfl|(simp only [zw,zx];rfl)|(simp only [yr,ys,zV,zW];rfl)) ?_;(with_reducible refine (F2.calls k1  x0_1 t360 t361 t362 t363 false _ A5.out).mono ?_);rintro e w12 ⟨rfl,hb⟩;refine ⟨_,rfl,?_⟩;replace HO_4:=zh (yg (by (with_reducible repeat (first|apply zm|apply zn|apply zo));exact HO_4.out) hb);replace HB:=zh (zC (by repeat (with_reducible first|exact HB.out|apply za|apply zb|apply zc)) hb);(try clear hb);(try clear hb2);(try clear hk);(try clear hi))|((with_reducible refine zK (N:=5) rfl ?_);refine zI ?hg (N:=5) ?hd (cs:=#[.int .i64 0,.int .i64 0,.string (⟨#[]⟩ : ByteArray)]) (t:=44) ?hr ?_;(case hd=>rfl);(case hg=>rfl);(case hr=>go_simp <;> rfl);intro gb365 hg w13 hbox hb;replace HO_4:=zh (yg (Kd.R_elderB (by (with_reducible repeat (first|apply zm|apply zn|apply zo));exact HO_4.out) gb365 (Nat.le_of_eq hg.symm)) hb);have BK365:=zh (hbox);have hH_:=cH (by repeat (with_reducible first|exact HB.out|apply za|apply zb|apply zc)) hb hg;have GW365:=zh hH_.1;have GE365:=GW365;replace HB:=zh hH_.2;clear hb hbox hg hH_;obtain ⟨hcz14_0,hcz14_1,hcz14_2,hfz14_0,hfz14_1,hfz14_2⟩:=cB3 BK365.out)|((with_reducible refine zK (N:=20) rfl ?_);refine Kd.R_lit k44 _ 44 ?hg (N:=20) ?hd (xs:=([] : List (S44))) (inner:=[]) (ok:=fun _=>True) (okp:=fun _=>True) ?hr ?hp (fun _ hk=>hk) trivial (Below.refl _ _) (ye _) (by simp) ?_;(case hd=>rfl);(case hg=>rfl);(case hr=>go_simp <;> rfl);(case hp=>exact (Reps.none _ _));intro v370 w15 ho16 hb hg_ hnew_;clear hg_ hnew_;(first|rw [← Ny369.out] at ho16|(simp only [Int.reduceToNat] at ho16;rw [← Ny369.out] at ho16));have HO371:=zh (yy (Kd.R_newB (Kd.R_new' ho16 (Kd.R_lt (by (with_reducible repeat (first|apply zm|apply zn|apply zo));exact (zM (zE (p:=⟨gb365,2,none⟩) (zE (p:=⟨gb365,1,none⟩) (zE (p:=⟨gb365,0,none⟩) (zM HO_4.out (fun k_ hk=>(⟨hk,hk.2⟩ : _∧k_≠gb365))) (fun _ hk=>hk.2) (.int .i64 t360)) (fun _ hk=>hk.2) (.int .i64 t361)) (fun _ hk=>hk.2) (.string t362)) (fun _ h_=>h_.1))))) (g:=gb365) (o:=.cells #[.int .i64 t360,.int .i64 t361,.string t362] 44 (0,0)) (by (with_reducible repeat first|apply ze|apply zf|apply zg);refine zL (cs:=#[.int .i64 t360,.int .i64 t361,.string (⟨#[]⟩ : ByteArray)]) ?_ 2 _ rfl;(with_reducible repeat first|apply ze|apply zf|apply zg);refine zL (cs:=#[.int .i64 t360,.int .i64 0,.string (⟨#[]⟩ : ByteArray)]) ?_ 1 _ rfl;(with_reducible repeat first|apply ze|apply zf|apply zg);refine zL (cs:=#[.int .i64 0,.int .i64 0,.string (⟨#[]⟩ : ByteArray)]) ?_ 0 _ rfl;(with_reducible repeat first|apply ze|apply zf|apply zg);exact BK365.out)) (zB (by repeat (with_reducible first|exact HB.out|apply za|apply zb|apply zc|refine zd ?_ GE365.out))));replace HO_4:=zh (Kd.R_elder' (by (with_reducible repeat (first|apply zm|apply zn|apply zo));exact (zM (zE (p:=⟨gb365,2,none⟩) (zE (p:=⟨gb365,1,none⟩) (zE (p:=⟨gb365,0,none⟩) (zM HO_4.out (fun k_ hk=>(⟨hk,hk.2⟩ : _∧k_≠gb365))) (fun _ hk=>hk.2) (.int .i64 t360)) (fun _ hk=>hk.2) (.int .i64 t361)) (fun _ hk=>hk.2) (.string t362)) (fun _ h_=>h_.1))) (Kd.R_base ho16) hb);replace BK365:=zh (zD (g:=gb365) (o:=.cells #[.int .i64 t360,.int .i64 t361,.string t362] 44 (0,0)) (by (with_reducible repeat first|apply ze|apply zf|apply zg);refine zL (cs:=#[.int .i64 t360,.int .i64 t361,.string (⟨#[]⟩ : ByteArray)]) ?_ 2 _ rfl;(with_reducible repeat first|apply ze|apply zf|apply zg);refine zL (cs:=#[.int .i64 t360,.int .i64 0,.string (⟨#[]⟩ : ByteArray)]) ?_ 1 _ rfl;(with_reducible repeat first|apply ze|apply zf|apply zg);refine zL (cs:=#[.int .i64 0,.int .i64 0,.string (⟨#[]⟩ : ByteArray)]) ?_ 0 _ rfl;(with_reducible repeat first|apply ze|apply zf|apply zg);exact BK365.out) hb);replace HB:=zh (zC (by repeat (with_reducible first|exact HB.out|apply za|apply zb|apply zc|refine zd ?_ GE365.out)) hb);clear hb ho16))
    go_ret2
    exact ⟨_,by first|rfl|(simp [yt,yu] <;> rfl)|(simp [*,yt,yu] <;> rfl),by (with_reducible repeat (first|apply zm|apply zn|apply zo));exact zM HO371.out (fun _ hk=>trivial),by repeat (with_reducible first|exact HB.out|apply za|apply zb|apply zc|refine zd ?_ GE365.out)⟩
   rw [if_neg c4] at H;have c4b0 : decide (0<(x0_1.size : Int))=false:=decide_eq_false c4;have c4b1 : decide (0<x0_1.size)=false:=decide_eq_false (by omega);clear c4;simp only [Option.some.injEq,Prod.mk.injEq] at H;obtain ⟨rfl,rfl⟩:=H
   go_wp2
   go_ret2
   exact ⟨_,by first|rfl|(simp [yt,yu] <;> rfl)|(simp [*,yt,yu] <;> rfl),by (with_reducible repeat (first|apply zm|apply zn|apply zo));exact HO_4.out,by repeat (with_reducible first|exact HB.out|apply za|apply zb|apply zc)⟩


def Fg.l0 : Nat→ByteArray→List (S109)→Option ((List (S109))×Bool)
 | 0,_,_=>none
 | k+1,x0,x4=>if (x0.size : Int) > 0 then (if 0<(x0.size : Int) then (if (x0.size : Int)<(wrap64 (1+(wrap64 (bt x0 0)))) then (some ((([] : List (S109))),false)) else (if 1≤(wrap64 (1+(wrap64 (bt x0 0)))) then (if (wrap64 (1+(wrap64 (bt x0 0))))≤(x0.size : Int) then (if 0≤(wrap64 (1+(wrap64 (bt x0 0)))) then ((F2.f k (x0.extract ((wrap64 (1+(wrap64 (bt x0 0)))) : Int).toNat x0.size)).bind fun bt378=>(if bt378.2.2.2.2=true then (if x4.length<2932031007402 then (Fg.l0 k bt378.2.2.2.1 (x4 ++ [(⟨x0.extract 1 ((wrap64 (1+(wrap64 (bt x0 0)))) : Int).toNat,(⟨bt378.1,bt378.2.1,bt378.2.2.1⟩ : S44)⟩ : S109)])) else (none)) else (some ((([] : List (S109))),false)))) else (none)) else (none)) else (none))) else (none)) else (some (x4,true))
def Fg.f (k : Nat) (a0 : ByteArray) : Option ((List (S109))×Bool):=Fg.l0 k a0 (([] : List (S109)))
theorem Fg.mono_l : ∀ k,(∀ y0 y1,LeO (Fg.l0 k y0 y1) (Fg.l0 (k+1) y0 y1))
 | 0=>fun _ _ r h=>by simp [Fg.l0] at h
 | k+1=>by
  have ih0:=Fg.mono_l k;intro y0 y1;unfold Fg.l0
  repeat' first|(with_reducible first|exact ih0 _ _|exact F2.mono _ _|exact zQ _|exact zN _|refine zP ?_ ?_|refine zO ?_ (fun _=>?_))|refine zP ?_ ?_|refine zO ?_ (fun _=>?_)
theorem Fg.mono : ∀ a0 k,LeO (Fg.f k a0) (Fg.f (k+1) a0):=by
 intro a0 k;have ih0:=Fg.mono_l k;unfold Fg.f
 repeat' first|(with_reducible first|exact ih0 _ _|exact F2.mono _ _|exact zQ _|exact zN _|refine zP ?_ ?_|refine zO ?_ (fun _=>?_))|refine zP ?_ ?_|refine zO ?_ (fun _=>?_)
set_option maxHeartbeats 8000000 in
set_option maxRecDepth 100000 in
theorem Fg.calls (k : Nat) (a0 : ByteArray) (r1 : List (S109)) (r2 : Bool) (w : World) (h : Fg.f k a0=some (r1,r2)) :
  Calls Try.prog 74 #[.string a0] w fun e w' => ∃ v0_ : Value,e = .returned (.tuple #[v0_,.bool r2])∧Kd.R k109 109 w' w.heap.size (fun _=>True) v0_ r1∧Below w.heap.size w w':=by
 have hu44:=Try.underlying44;have hu109:=Try.underlying109;have HB:=zh (Below.refl w.heap.size w);have H : (Fg.l0 k a0 (([] : List (S109))))=some (r1,r2):=h;clear h;obtain ⟨y372,hy372⟩ : ∃ y_ : List (S109),y_=(([] : List (S109))):=⟨_,rfl⟩;replace H : (Fg.l0 k a0 y372)=some (r1,r2):=by first|(rw [hy372];with_reducible exact H)|(have H2_:=(Option.bind_some _ _).symm.trans H;rw [hy372];with_reducible exact H2_)|(have H2_:=(Option.bind_some _ _).symm.trans H;with_reducible exact H2_)|with_reducible exact H|(rw [hy372];exact H)|exact H
 have Ny372:=zh hy372;clear hy372;have H':=zh H;clear H
 go_enter Try.func74,Try.ntmps74
 go_wp2_with (first|((with_reducible refine zK (N:=10) rfl ?_);refine Kd.R_lit k109 _ 109 ?hg (N:=10) ?hd (xs:=([] : List (S109))) (inner:=[]) (ok:=fun _=>True) (okp:=fun _=>True) ?hr ?hp (fun _ hk=>hk) trivial (Below.refl _ _) (ye _) (by simp) ?_;(case hd=>rfl);(case hg=>rfl);(case hr=>go_simp <;> rfl);(case hp=>exact (Reps.none _ _));intro v373 w2 ho3 hb hg_ hnew_;clear hg_ hnew_;(first|rw [← Ny372.out] at ho3|(simp only [Int.reduceToNat] at ho3;rw [← Ny372.out] at ho3));have HO374:=zh (yy ho3 (zB (by repeat (with_reducible first|exact HB.out|apply za|apply zb|apply zc))));replace HB:=zh (zC (by repeat (with_reducible first|exact HB.out|apply za|apply zb|apply zc)) hb);clear hb ho3))
 go_loopg [0,4] k (fun kq v0 v4 w' => ∃ (x0_1 : ByteArray) (x4_1 : List (S109)),v0 = .string x0_1∧Aside0 (Fg.l0 kq x0_1 x4_1=some (r1,r2))∧Aside0 (kq≤k)∧Aside0 (Kd.R k109 109 w' w.heap.size (fun _=>True) v4 x4_1)∧Aside0 (Below w.heap.size w w'))
 case atStart=>exact ⟨(a0),(y372),(by first|rfl|(simp;done)|(simp [*];done)),H',⟨ye _⟩,⟨by (with_reducible repeat (first|apply zm|apply zn|apply zo));exact HO374.out⟩,⟨by repeat (with_reducible first|exact HB.out|apply za|apply zb|apply zc)⟩⟩
 case round =>
  clear H'
  try clear p2
  obtain ⟨x0_1,x4_1,rfl,HA,HK1,HO_4,HB⟩:=hrel
  cases gk with
  | zero=>exact absurd HA.out (by simp [Fg.l0])
  | succ k1 =>
   have H:=HA.out;clear HA;simp only [Fg.l0] at H
   by_cases c4 : (x0_1.size : Int) > 0
   ·
    rw [if_pos c4] at H
    have c4b0 : decide (0<(x0_1.size : Int))=true:=decide_eq_true c4;have c4b1 : decide (0<x0_1.size)=true:=decide_eq_true (by omega);clear c4
    by_cases c5 : 0<(x0_1.size : Int)
    ·
     rw [if_pos c5] at H
     have c5b0 : decide (0<(x0_1.size : Int))=true:=decide_eq_true c5;have c5b1 : decide (0<x0_1.size)=true:=decide_eq_true (by omega);clear c5
     by_cases c7 : (x0_1.size : Int)<(wrap64 (1+(wrap64 (bt x0_1 0))))
     ·
      rw [if_pos c7] at H
      have c7b0 : decide ((x0_1.size : Int)<(wrap64 (1+(wrap64 (bt x0_1 0)))))=true:=decide_eq_true c7;clear c7;obtain ⟨y375,hy375⟩ : ∃ y_ : List (S109),y_=(([] : List (S109))):=⟨_,rfl⟩;replace H : (some (y375,false))=some (r1,r2):=by first|(rw [hy375];with_reducible exact H)|(have H2_:=(Option.bind_some _ _).symm.trans H;rw [hy375];with_reducible exact H2_)|(have H2_:=(Option.bind_some _ _).symm.trans H;with_reducible exact H2_)|with_reducible exact H|(rw [hy375];exact H)|exact H
      have Ny375:=zh hy375;clear hy375;simp only [Option.some.injEq,Prod.mk.injEq] at H;obtain ⟨rfl,rfl⟩:=H;have p6 : 0≤(0 : Int):=(by omega);have q6 : 0<x0_1.size:=(by have : (0 : Int)<(x0_1.size : Int):=zy (by first|(with_reducible assumption)|assumption);omega);have hx6 : ∀ h : 0<x0_1.size,((x0_1[0]'h).toNat : Int)=bt x0_1 0:=bt_at x0_1 0;clear p6;have qi6 : (0<(x0_1.size : Int))=True:=eq_true (zy (by first|(with_reducible assumption)|assumption));replace q6:=eq_true q6
      go_wp2_with (first|((with_reducible refine zK (N:=22) rfl ?_);refine Kd.R_lit k109 _ 109 ?hg (N:=22) ?hd (xs:=([] : List (S109))) (inner:=[]) (ok:=fun _=>True) (okp:=fun _=>True) ?hr ?hp (fun _ hk=>hk) trivial (Below.refl _ _) (ye _) (by simp) ?_;(case hd=>rfl);(case hg=>rfl);(case hr=>go_simp <;> rfl);(case hp=>exact (Reps.none _ _));intro v376 w8 ho9 hb hg_ hnew_;clear hg_ hnew_;(first|rw [← Ny375.out] at ho9|(simp only [Int.reduceToNat] at ho9;rw [← Ny375.out] at ho9));have HO377:=zh (yy (Kd.R_new' ho9 (Kd.R_lt (by (with_reducible repeat (first|apply zm|apply zn|apply zo));exact HO_4.out))) (zB (by repeat (with_reducible first|exact HB.out|apply za|apply zb|apply zc))));replace HO_4:=zh (Kd.R_elder' (by (with_reducible repeat (first|apply zm|apply zn|apply zo));exact HO_4.out) (Kd.R_base ho9) hb);replace HB:=zh (zC (by repeat (with_reducible first|exact HB.out|apply za|apply zb|apply zc)) hb);clear hb ho9))
      go_ret2
      exact ⟨_,by first|rfl|(simp [yt,yu] <;> rfl)|(simp [*,yt,yu] <;> rfl),by (with_reducible repeat (first|apply zm|apply zn|apply zo));exact zM HO377.out (fun _ hk=>trivial),by repeat (with_reducible first|exact HB.out|apply za|apply zb|apply zc)⟩
     rw [if_neg c7] at H;have c7b0 : decide ((x0_1.size : Int)<(wrap64 (1+(wrap64 (bt x0_1 0)))))=false:=decide_eq_false c7;clear c7
     by_cases c10 : 1≤(wrap64 (1+(wrap64 (bt x0_1 0))))
     ·
      rw [if_pos c10] at H
      have c10b0:=eq_true c10;have c10b1 : decide (1≤(wrap64 (1+(wrap64 (bt x0_1 0)))))=true:=decide_eq_true c10
      by_cases c11 : (wrap64 (1+(wrap64 (bt x0_1 0))))≤(x0_1.size : Int)
      ·
       rw [if_pos c11] at H
       have c11b0:=eq_true c11;have c11b1 : decide ((wrap64 (1+(wrap64 (bt x0_1 0))))≤(x0_1.size : Int))=true:=decide_eq_true c11;obtain ⟨ji12,hji12⟩ : ∃ j_ : Int,(wrap64 (1+(wrap64 (bt x0_1 0))))=j_:=⟨_,rfl⟩;replace H : (if 0≤(ji12) then ((F2.f k1 (x0_1.extract ((ji12) : Int).toNat x0_1.size)).bind fun bt378=>(if bt378.2.2.2.2=true then (if x4_1.length<2932031007402 then (Fg.l0 k1 bt378.2.2.2.1 (x4_1 ++ [(⟨x0_1.extract 1 ((ji12) : Int).toNat,(⟨bt378.1,bt378.2.1,bt378.2.2.1⟩ : S44)⟩ : S109)])) else (none)) else (some ((([] : List (S109))),false)))) else (none))=some (r1,r2):=by first|(rw [hji12] at H;exact H)|(simp only [hji12] at H ⊢;exact H)
       (try rw [hji12] at c7b0);(try rw [hji12] at c10b0);(try rw [hji12] at c10b1);(try rw [hji12] at c10);(try rw [hji12] at c11b0);(try rw [hji12] at c11b1);(try rw [hji12] at c11);have hji12w : (IntKind.i64.wrap (1+(wrap64 (bt x0_1 0))))=ji12:=(zG _).trans hji12
       by_cases c13 : 0≤(ji12)
       ·
        rw [if_pos c13] at H
        have c13b0:=eq_true c13;have c13b1 : decide (0≤(ji12))=true:=decide_eq_true c13;clear c13;have c14b0:=eq_true (zy (by first|(with_reducible assumption)|assumption) : (ji12)≤(x0_1.size : Int));replace H:=zT.mp H;obtain ⟨⟨t378,t379,t380,t381,t382⟩,A150,H⟩:=H;replace H : (if t382=true then (if x4_1.length<2932031007402 then (Fg.l0 k1 t381 (x4_1 ++ [(⟨x0_1.extract 1 ((ji12) : Int).toNat,(⟨t378,t379,t380⟩ : S44)⟩ : S109)])) else (none)) else (some ((([] : List (S109))),false)))=some (r1,r2):=H;have A15:=zh A150;clear A150
        by_cases c16 : t382=true
        ·
         subst c16
         have H1 : (if x4_1.length<2932031007402 then (Fg.l0 k1 t381 (x4_1 ++ [(⟨x0_1.extract 1 ((ji12) : Int).toNat,(⟨t378,t379,t380⟩ : S44)⟩ : S109)])) else (none))=some (r1,r2):=by rw [if_pos rfl] at H;exact H
         clear H;have H:=H1;clear H1
         by_cases c17 : x4_1.length<2932031007402
         ·
          rw [if_pos c17] at H
          have LMc17:=zh c17;clear c17;obtain ⟨y384,hy384⟩ : ∃ y_ : List (S109),y_=(x4_1 ++ [(⟨x0_1.extract 1 ((ji12) : Int).toNat,(⟨t378,t379,t380⟩ : S44)⟩ : S109)]):=⟨_,rfl⟩;replace H : (Fg.l0 k1 t381 y384)=some (r1,r2):=by first|(rw [hy384];with_reducible exact H)|(have H2_:=(Option.bind_some _ _).symm.trans H;rw [hy384];with_reducible exact H2_)|(have H2_:=(Option.bind_some _ _).symm.trans H;with_reducible exact H2_)|with_reducible exact H|(rw [hy384];exact H)|exact H
          have Ny384:=zh hy384;clear hy384;have H':=zh H;clear H;have p6 : 0≤(0 : Int):=(by omega);have q6 : 0<x0_1.size:=(by have : (0 : Int)<(x0_1.size : Int):=zy (by first|(with_reducible assumption)|assumption);omega);have hx6 : ∀ h : 0<x0_1.size,((x0_1[0]'h).toNat : Int)=bt x0_1 0:=bt_at x0_1 0;clear p6;have qi6 : (0<(x0_1.size : Int))=True:=eq_true (zy (by first|(with_reducible assumption)|assumption));replace q6:=eq_true q6
          go_wp2_with (first|((with_reducible refine zJ (f:=89) rfl ?_);refine yj (some 32) rfl rfl Try.func89 (by kernel_rfl) rfl #[.string (x0_1.extract ((ji12) : Int).toNat x0_1.size)] rfl (by (try simp only [zt,zu,zv]);first|done|(simp only [hji12];rfl)|rfl|(simp only [zw,zx];rfl)|(simp only [yr,ys,zV,zW];rfl)) ?_;(with_reducible refine (F2.calls k1  (x0_1.extract ((ji12) : Int).toNat x0_1.size) t378 t379 t380 t381 true _ A15.out).mono ?_);rintro e w18 ⟨rfl,hb⟩;refine ⟨_,rfl,?_⟩;replace HO_4:=zh (yg (by (with_reducible repeat (first|apply zm|apply zn|apply zo));exact HO_4.out) hb);replace HB:=zh (zC (by repeat (with_reducible first|exact HB.out|apply za|apply zb|apply zc)) hb);(try clear hb);(try clear hb2);(try clear hk);(try clear hi))|((with_reducible refine zK (N:=7) rfl ?_);refine zI ?hg (N:=7) ?hd (cs:=#[.int .i64 0,.int .i64 0,.string (⟨#[]⟩ : ByteArray)]) (t:=44) ?hr ?_;(case hd=>rfl);(case hg=>rfl);(case hr=>go_simp <;> rfl);intro gb383 hg w19 hbox hb;replace HO_4:=zh (yg (by (with_reducible repeat (first|apply zm|apply zn|apply zo));exact HO_4.out) hb);have BK383:=zh (hbox);have hH_:=cH (by repeat (with_reducible first|exact HB.out|apply za|apply zb|apply zc)) hb hg;have GW383:=zh hH_.1;have GE383:=GW383;replace HB:=zh hH_.2;clear hb hbox hg hH_;obtain ⟨hcz20_0,hcz20_1,hcz20_2,hfz20_0,hfz20_1,hfz20_2⟩:=cB3 BK383.out)|((with_reducible refine yB (b:=.append) (xs:=#[.tmp 39,.tmp 43]) rfl ?_);at_builtin;refine Kd.R_append k109 (w0:=w) w.heap.size rfl (.tmp 39) (.tmp 43) 105 109 (.agg #[(.string ⟨#[]⟩),(.int .i64 0),(.int .i64 0),(.string ⟨#[]⟩)]) 48 rfl Try.underlying105 info109 rfl (by decide) (by omega) u4 x4_1 (⟨x0_1.extract 1 ((ji12) : Int).toNat,(⟨t378,t379,t380⟩ : S44)⟩ : S109) [.string (x0_1.extract 1 ((ji12) : Int).toNat),.int .i64 t378,.int .i64 t379,.string t380] (fun _=>True) (fun _=>False) rfl (by go_simp <;> rfl) ?aP (fun _ hk=>hk.elim) ?aF ?aO ?aB ?aS ?aL ?_;(case aP=>exact k109_mkM _ _ _ (⟨x0_1.extract 1 ((ji12) : Int).toNat,(⟨t378,t379,t380⟩ : S44)⟩ : S109));(case aB=>exact (by repeat (with_reducible first|exact HB.out|apply za|apply zb|apply zc|refine zd ?_ GE383.out)));(case aF=>exact (fun _ _=>trivial));(case aO=>exact (by (with_reducible repeat (first|apply zm|apply zn|apply zo));exact zM (zE (p:=⟨gb383,2,none⟩) (zE (p:=⟨gb383,1,none⟩) (zE (p:=⟨gb383,0,none⟩) (yf HO_4.out BK383.out (by decide)) (fun _ hk=>hk.2) (.int .i64 t378)) (fun _ hk=>hk.2) (.int .i64 t379)) (fun _ hk=>hk.2) (.string t380)) (fun _ hk=>trivial)));(case aS=>exact (zB (by repeat (with_reducible first|exact HB.out|apply za|apply zb|apply zc|refine zd ?_ GE383.out))));(case aL=>have:=LMc17.out;omega);intro v385 w21 ho hb hg hat;rw [← Ny384.out] at ho;replace BK383:=zh (yw (g:=gb383) (o:=.cells #[.int .i64 t378,.int .i64 t379,.string t380] 44 (0,0)) (by (with_reducible repeat first|apply ze|apply zf|apply zg);refine zL (cs:=#[.int .i64 t378,.int .i64 t379,.string (⟨#[]⟩ : ByteArray)]) ?_ 2 _ rfl;(with_reducible repeat first|apply ze|apply zf|apply zg);refine zL (cs:=#[.int .i64 t378,.int .i64 0,.string (⟨#[]⟩ : ByteArray)]) ?_ 1 _ rfl;(with_reducible repeat first|apply ze|apply zf|apply zg);refine zL (cs:=#[.int .i64 0,.int .i64 0,.string (⟨#[]⟩ : ByteArray)]) ?_ 0 _ rfl;(with_reducible repeat first|apply ze|apply zf|apply zg);exact BK383.out) hg (Kd.R_ne HO_4.out BK383.out (by decide)));replace HB:=zh (hb);have HO386:=zh (ho);clear HO_4 ho hb hg hat))
          go_roundg k1
          case measure=>have:=HK1.out;omega
          case rel=>exact ⟨(t381),(y384),(by first|rfl|(simp;done)|(simp [*];done)),H',⟨by have:=HK1.out;omega⟩,⟨by (with_reducible repeat (first|apply zm|apply zn|apply zo));exact HO386.out⟩,⟨by repeat (with_reducible first|exact HB.out|apply za|apply zb|apply zc|refine zd ?_ GE383.out)⟩⟩
         rw [if_neg c17] at H;exact absurd H (by simp)
        replace c16:=yb.mpr c16;subst c16;have H1 : (some ((([] : List (S109))),false))=some (r1,r2):=by rw [if_neg (show ¬ (false=true) by decide)] at H;exact H
        clear H;have H:=H1;clear H1;obtain ⟨y387,hy387⟩ : ∃ y_ : List (S109),y_=(([] : List (S109))):=⟨_,rfl⟩;replace H : (some (y387,false))=some (r1,r2):=by first|(rw [hy387];with_reducible exact H)|(have H2_:=(Option.bind_some _ _).symm.trans H;rw [hy387];with_reducible exact H2_)|(have H2_:=(Option.bind_some _ _).symm.trans H;with_reducible exact H2_)|with_reducible exact H|(rw [hy387];exact H)|exact H
        have Ny387:=zh hy387;clear hy387;simp only [Option.some.injEq,Prod.mk.injEq] at H;obtain ⟨rfl,rfl⟩:=H;have p6 : 0≤(0 : Int):=(by omega);have q6 : 0<x0_1.size:=(by have : (0 : Int)<(x0_1.size : Int):=zy (by first|(with_reducible assumption)|assumption);omega);have hx6 : ∀ h : 0<x0_1.size,((x0_1[0]'h).toNat : Int)=bt x0_1 0:=bt_at x0_1 0;clear p6;have qi6 : (0<(x0_1.size : Int))=True:=eq_true (zy (by first|(with_reducible assumption)|assumption));replace q6:=eq_true q6
        go_wp2_with (first|((with_reducible refine zJ (f:=89) rfl ?_);refine yj (some 32) rfl rfl Try.func89 (by kernel_rfl) rfl #[.string (x0_1.extract ((ji12) : Int).toNat x0_1.size)] rfl (by (try simp only [zt,zu,zv]);first|done|(simp only [hji12];rfl)|rfl|(simp only [zw,zx];rfl)|(simp only [yr,ys,zV,zW];rfl)) ?_;(with_reducible refine (F2.calls k1  (x0_1.extract ((ji12) : Int).toNat x0_1.size) t378 t379 t380 t381 false _ A15.out).mono ?_);rintro e w22 ⟨rfl,hb⟩;refine ⟨_,rfl,?_⟩;replace HO_4:=zh (yg (by (with_reducible repeat (first|apply zm|apply zn|apply zo));exact HO_4.out) hb);replace HB:=zh (zC (by repeat (with_reducible first|exact HB.out|apply za|apply zb|apply zc)) hb);(try clear hb);(try clear hb2);(try clear hk);(try clear hi))|((with_reducible refine zK (N:=7) rfl ?_);refine zI ?hg (N:=7) ?hd (cs:=#[.int .i64 0,.int .i64 0,.string (⟨#[]⟩ : ByteArray)]) (t:=44) ?hr ?_;(case hd=>rfl);(case hg=>rfl);(case hr=>go_simp <;> rfl);intro gb383 hg w23 hbox hb;replace HO_4:=zh (yg (by (with_reducible repeat (first|apply zm|apply zn|apply zo));exact HO_4.out) hb);have BK383:=zh (hbox);have hH_:=cH (by repeat (with_reducible first|exact HB.out|apply za|apply zb|apply zc)) hb hg;have GW383:=zh hH_.1;have GE383:=GW383;replace HB:=zh hH_.2;clear hb hbox hg hH_;obtain ⟨hcz24_0,hcz24_1,hcz24_2,hfz24_0,hfz24_1,hfz24_2⟩:=cB3 BK383.out)|((with_reducible refine zK (N:=38) rfl ?_);refine Kd.R_lit k109 _ 109 ?hg (N:=38) ?hd (xs:=([] : List (S109))) (inner:=[]) (ok:=fun _=>True) (okp:=fun _=>True) ?hr ?hp (fun _ hk=>hk) trivial (Below.refl _ _) (ye _) (by simp) ?_;(case hd=>rfl);(case hg=>rfl);(case hr=>go_simp <;> rfl);(case hp=>exact (Reps.none _ _));intro v388 w25 ho26 hb hg_ hnew_;clear hg_ hnew_;(first|rw [← Ny387.out] at ho26|(simp only [Int.reduceToNat] at ho26;rw [← Ny387.out] at ho26));have HO389:=zh (yy (Kd.R_new' ho26 (Kd.R_lt (by (with_reducible repeat (first|apply zm|apply zn|apply zo));exact (zM (zE (p:=⟨gb383,2,none⟩) (zE (p:=⟨gb383,1,none⟩) (zE (p:=⟨gb383,0,none⟩) (yf HO_4.out BK383.out (by decide)) (fun _ hk=>hk.2) (.int .i64 t378)) (fun _ hk=>hk.2) (.int .i64 t379)) (fun _ hk=>hk.2) (.string t380)) (fun _ h_=>h_.1))))) (zB (by repeat (with_reducible first|exact HB.out|apply za|apply zb|apply zc|refine zd ?_ GE383.out))));replace HO_4:=zh (Kd.R_elder' (by (with_reducible repeat (first|apply zm|apply zn|apply zo));exact (zM (zE (p:=⟨gb383,2,none⟩) (zE (p:=⟨gb383,1,none⟩) (zE (p:=⟨gb383,0,none⟩) (yf HO_4.out BK383.out (by decide)) (fun _ hk=>hk.2) (.int .i64 t378)) (fun _ hk=>hk.2) (.int .i64 t379)) (fun _ hk=>hk.2) (.string t380)) (fun _ h_=>h_.1))) (Kd.R_base ho26) hb);replace BK383:=zh (zD (g:=gb383) (o:=.cells #[.int .i64 t378,.int .i64 t379,.string t380] 44 (0,0)) (by (with_reducible repeat first|apply ze|apply zf|apply zg);refine zL (cs:=#[.int .i64 t378,.int .i64 t379,.string (⟨#[]⟩ : ByteArray)]) ?_ 2 _ rfl;(with_reducible repeat first|apply ze|apply zf|apply zg);refine zL (cs:=#[.int .i64 t378,.int .i64 0,.string (⟨#[]⟩ : ByteArray)]) ?_ 1 _ rfl;(with_reducible repeat first|apply ze|apply zf|apply zg);refine zL (cs:=#[.int .i64 0,.int .i64 0,.string (⟨#[]⟩ : ByteArray)]) ?_ 0 _ rfl;(with_reducible repeat first|apply ze|apply zf|apply zg);exact BK383.out) hb);replace HB:=zh (zC (by repeat (with_reducible first|exact HB.out|apply za|apply zb|apply zc|refine zd ?_ GE383.out)) hb);clear hb ho26))
        go_ret2
        exact ⟨_,by first|rfl|(simp [yt,yu] <;> rfl)|(simp only [← hji12];first|rfl|(simp [yt,yu] <;> rfl))|(simp [*,yt,yu] <;> rfl),by (with_reducible repeat (first|apply zm|apply zn|apply zo));exact zM HO389.out (fun _ hk=>trivial),by repeat (with_reducible first|exact HB.out|apply za|apply zb|apply zc|refine zd ?_ GE383.out)⟩
       rw [if_neg c13] at H;exact absurd H (by simp)
      rw [if_neg c11] at H;exact absurd H (by simp)
     rw [if_neg c10] at H;exact absurd H (by simp)
    rw [if_neg c5] at H;exact absurd H (by simp)
   rw [if_neg c4] at H;have c4b0 : decide (0<(x0_1.size : Int))=false:=decide_eq_false c4;have c4b1 : decide (0<x0_1.size)=false:=decide_eq_false (by omega);clear c4;simp only [Option.some.injEq,Prod.mk.injEq] at H;obtain ⟨rfl,rfl⟩:=H
   go_wp2
   go_ret2
   exact ⟨_,by first|rfl|(simp [yt,yu] <;> rfl)|(simp [*,yt,yu] <;> rfl),by (with_reducible repeat (first|apply zm|apply zn|apply zo));exact HO_4.out,by repeat (with_reducible first|exact HB.out|apply za|apply zb|apply zc)⟩


def F09.f (a0 : Int) : Option (Bool):=if a0 ≥ 97 then (if a0≤122 then (some true) else (if a0 ≥ 65 then (if a0≤90 then (some true) else (some (a0 == 95))) else (some (a0 == 95)))) else (if a0 ≥ 65 then (if a0≤90 then (some true) else (some (a0 == 95))) else (some (a0 == 95)))
set_option maxHeartbeats 8000000 in
set_option maxRecDepth 100000 in
theorem F09.calls (a0 : Int) (r : Bool) (w : World) (h : F09.f a0=some r) :
  Calls Try.prog 110 #[.int .u8 a0] w fun e w' => e = .returned (.bool r)∧Drawn0 w w':=by
 have H : (if a0 ≥ 97 then (if a0≤122 then (some true) else (if a0 ≥ 65 then (if a0≤90 then (some true) else (some (a0 == 95))) else (some (a0 == 95)))) else (if a0 ≥ 65 then (if a0≤90 then (some true) else (some (a0 == 95))) else (some (a0 == 95))))=some r:=h;clear h
 by_cases c2 : a0 ≥ 97
 ·
  rw [if_pos c2] at H
  have c2b0 : decide (97≤a0)=true:=decide_eq_true c2;clear c2
  by_cases c3 : a0≤122
  ·
   rw [if_pos c3] at H
   have c3b0 : decide (a0≤122)=true:=decide_eq_true c3;clear c3;obtain rfl:=zU H
   go_enter Try.func110,Try.ntmps110
   go_wp2
   go_ret
   exact ⟨by first|rfl|(simp;done)|(simp [*];done),by repeat (first|exact yp _|apply yq)⟩
  rw [if_neg c3] at H;have c3b0 : decide (a0≤122)=false:=decide_eq_false c3;clear c3
  by_cases c4 : a0 ≥ 65
  ·
   rw [if_pos c4] at H
   have c4b0 : decide (65≤a0)=true:=decide_eq_true c4;clear c4
   by_cases c5 : a0≤90
   ·
    rw [if_pos c5] at H
    have c5b0 : decide (a0≤90)=true:=decide_eq_true c5;clear c5;obtain rfl:=zU H
    go_enter Try.func110,Try.ntmps110
    go_wp2
    go_ret
    exact ⟨by first|rfl|(simp;done)|(simp [*];done),by repeat (first|exact yp _|apply yq)⟩
   rw [if_neg c5] at H;have c5b0 : decide (a0≤90)=false:=decide_eq_false c5;clear c5;obtain rfl:=zU H
   go_enter Try.func110,Try.ntmps110
   go_wp2
   go_ret
   exact ⟨by first|rfl|(simp;done)|(simp [*];done),by repeat (first|exact yp _|apply yq)⟩
  rw [if_neg c4] at H;have c4b0 : decide (65≤a0)=false:=decide_eq_false c4;clear c4;obtain rfl:=zU H
  go_enter Try.func110,Try.ntmps110
  go_wp2
  go_ret
  exact ⟨by first|rfl|(simp;done)|(simp [*];done),by repeat (first|exact yp _|apply yq)⟩
 rw [if_neg c2] at H;have c2b0 : decide (97≤a0)=false:=decide_eq_false c2;clear c2
 by_cases c6 : a0 ≥ 65
 ·
  rw [if_pos c6] at H
  have c6b0 : decide (65≤a0)=true:=decide_eq_true c6;clear c6
  by_cases c7 : a0≤90
  ·
   rw [if_pos c7] at H
   have c7b0 : decide (a0≤90)=true:=decide_eq_true c7;clear c7;obtain rfl:=zU H
   go_enter Try.func110,Try.ntmps110
   go_wp2
   go_ret
   exact ⟨by first|rfl|(simp;done)|(simp [*];done),by repeat (first|exact yp _|apply yq)⟩
  rw [if_neg c7] at H;have c7b0 : decide (a0≤90)=false:=decide_eq_false c7;clear c7;obtain rfl:=zU H
  go_enter Try.func110,Try.ntmps110
  go_wp2
  go_ret
  exact ⟨by first|rfl|(simp;done)|(simp [*];done),by repeat (first|exact yp _|apply yq)⟩
 rw [if_neg c6] at H;have c6b0 : decide (65≤a0)=false:=decide_eq_false c6;clear c6;obtain rfl:=zU H
 go_enter Try.func110,Try.ntmps110
 go_wp2
 go_ret
 exact ⟨by first|rfl|(simp;done)|(simp [*];done),by repeat (first|exact yp _|apply yq)⟩


def F0c.f (a0 : Int) : Option (Bool):=if a0 ≥ 48 then (some (decide (a0≤57))) else (some false)
set_option maxHeartbeats 8000000 in
set_option maxRecDepth 100000 in
theorem F0c.calls (a0 : Int) (r : Bool) (w : World) (h : F0c.f a0=some r) :
  Calls Try.prog 111 #[.int .u8 a0] w fun e w' => e = .returned (.bool r)∧Drawn0 w w':=by
 have H : (if a0 ≥ 48 then (some (decide (a0≤57))) else (some false))=some r:=h;clear h
 by_cases c2 : a0 ≥ 48
 ·
  rw [if_pos c2] at H
  have c2b0 : decide (48≤a0)=true:=decide_eq_true c2;clear c2;obtain rfl:=zU H
  go_enter Try.func111,Try.ntmps111
  go_wp2
  go_ret
  exact ⟨by first|rfl|(simp;done)|(simp [*];done),by repeat (first|exact yp _|apply yq)⟩
 rw [if_neg c2] at H;have c2b0 : decide (48≤a0)=false:=decide_eq_false c2;clear c2;obtain rfl:=zU H
 go_enter Try.func111,Try.ntmps111
 go_wp2
 go_ret
 exact ⟨by first|rfl|(simp;done)|(simp [*];done),by repeat (first|exact yp _|apply yq)⟩

end Go.Proofs.Ytjgcddjdmfcgoaa.Q
end
section
namespace Go.Proofs.Ytjgcddjdmfcgoaa.Q
open Go.RowKit Go.Proofs.YtjgcddjdmfcgoaaW.PrintWords Go.Proofs.YtjgcddjdmfcgoaaW.PrintLast Go.Proofs.YtjgcddjdmfcgoaaW.PrintMore
attribute [local go_sem] max2_int min2_int max_two min_two max_three min_three max_four min_four max2_str min2_str str_geq str_gtr str_leq   -- for this text's walks alone
set_option linter.unusedVariables false
set_option linter.unusedSimpArgs false

mutual
def F9.j0 : Nat→ByteArray→Bool→Option (Bool)
 | 0,_,_=>none
 | k+1,x0,x17=>if x17=true then (some false) else (F9.l0 k x0 1)
def F9.l0 : Nat→ByteArray→Int→Option (Bool)
 | 0,_,_=>none
 | k+1,x0,x3=>if x3<(x0.size : Int) then (if 0≤x3 then ((F09.f (bt x0 x3)).bind fun t391=>(if t391=true then (F9.l0 k x0 (wrap64 (x3+1))) else ((F0c.f (bt x0 x3)).bind fun t392=>(if t392=true then (F9.l0 k x0 (wrap64 (x3+1))) else (some false))))) else (none)) else (some true)
end
def F9.f (k : Nat) (a0 : ByteArray) : Option (Bool):=if (a0.size : Int)<1 then (F9.j0 k a0 true) else (if (a0.size : Int) > 40 then (F9.j0 k a0 true) else (if 0<(a0.size : Int) then ((F09.f (bt a0 0)).bind fun t390=>(F9.j0 k a0 (!t390))) else (none)))
theorem F9.mono_l : ∀ k,(∀ y0 y1,LeO (F9.j0 k y0 y1) (F9.j0 (k+1) y0 y1))∧(∀ y0 y1,LeO (F9.l0 k y0 y1) (F9.l0 (k+1) y0 y1))
 | 0=>⟨fun _ _ r h=>by simp [F9.j0] at h,fun _ _ r h=>by simp [F9.l0] at h⟩
 | k+1=>by
  obtain ⟨ih0,ih1⟩:=F9.mono_l k;refine ⟨?_,?_⟩
  ·
   intro y0 y1
   unfold F9.j0
   repeat' first|(with_reducible first|exact ih0 _ _|exact ih1 _ _|exact zQ _|exact zN _|refine zP ?_ ?_|refine zO ?_ (fun _=>?_))|refine zP ?_ ?_|refine zO ?_ (fun _=>?_)
  intro y0 y1;unfold F9.l0
  repeat' first|(with_reducible first|exact ih0 _ _|exact ih1 _ _|exact zQ _|exact zN _|refine zP ?_ ?_|refine zO ?_ (fun _=>?_))|refine zP ?_ ?_|refine zO ?_ (fun _=>?_)
theorem F9.mono : ∀ a0 k,LeO (F9.f k a0) (F9.f (k+1) a0):=by
 intro a0 k;obtain ⟨ih0,ih1⟩:=F9.mono_l k;unfold F9.f
 repeat' first|(with_reducible first|exact ih0 _ _|exact ih1 _ _|exact zQ _|exact zN _|refine zP ?_ ?_|refine zO ?_ (fun _=>?_))|refine zP ?_ ?_|refine zO ?_ (fun _=>?_)
set_option maxHeartbeats 8000000 in
set_option maxRecDepth 100000 in
theorem F9.calls (k : Nat) (a0 : ByteArray) (r : Bool) (w : World) (h : F9.f k a0=some r) :
  Calls Try.prog 102 #[.string a0] w fun e w' => e = .returned (.bool r)∧Drawn0 w w':=by
 have H : (if (a0.size : Int)<1 then (F9.j0 k a0 true) else (if (a0.size : Int) > 40 then (F9.j0 k a0 true) else (if 0<(a0.size : Int) then ((F09.f (bt a0 0)).bind fun t390=>(F9.j0 k a0 (!t390))) else (none))))=some r:=h;clear h;have HC2:=zh H;clear H
 go_enter Try.func102,Try.ntmps102
 go_upto_region 1 with (fail)
 go_cut [17] (fun v17 wc => ∃ (kq : Nat) (x17_1 : Bool),v17 = .bool x17_1∧Aside0 (F9.j0 kq a0 x17_1=some r)∧Aside0 (kq≤k)∧Drawn0 w wc)
 case first =>
  have H:=HC2.out;clear HC2
  by_cases c3 : (a0.size : Int)<1
  ·
   rw [if_pos c3] at H
   have c3b0 : decide ((a0.size : Int)<1)=true:=decide_eq_true c3;have c3b1 : decide (a0.size<1)=true:=decide_eq_true (by omega);clear c3;(first|rw [c3b0]|(simp only [zG,zH];rw [c3b0])|skip);have H':=zh H;clear H
   go_wp2
   go_meet
   case rel=>exact ⟨_,(true),(by first|rfl|(simp;done)|(simp [*];done)),H',⟨by first|omega|exact ye _⟩,by repeat (first|exact yp _|apply yq)⟩
  rw [if_neg c3] at H;have c3b0 : decide ((a0.size : Int)<1)=false:=decide_eq_false c3;have c3b1 : decide (a0.size<1)=false:=decide_eq_false (by omega);clear c3;(first|rw [c3b0]|(simp only [zG,zH];rw [c3b0])|skip)
  by_cases c4 : (a0.size : Int) > 40
  ·
   rw [if_pos c4] at H
   have c4b0 : decide (40<(a0.size : Int))=true:=decide_eq_true c4;have c4b1 : decide (40<a0.size)=true:=decide_eq_true (by omega);clear c4;have H':=zh H;clear H
   go_wp2
   go_meet
   case rel=>exact ⟨_,(true),(by first|rfl|(simp;done)|(simp [*];done)),H',⟨by first|omega|exact ye _⟩,by repeat (first|exact yp _|apply yq)⟩
  rw [if_neg c4] at H;have c4b0 : decide (40<(a0.size : Int))=false:=decide_eq_false c4;have c4b1 : decide (40<a0.size)=false:=decide_eq_false (by omega);clear c4
  by_cases c5 : 0<(a0.size : Int)
  ·
   rw [if_pos c5] at H
   have c5b0 : decide (0<(a0.size : Int))=true:=decide_eq_true c5;have c5b1 : decide (0<a0.size)=true:=decide_eq_true (by omega);clear c5;replace H:=zT.mp H;obtain ⟨t390,A70,H⟩:=H;replace H : (F9.j0 k a0 (!t390))=some r:=H;have A7:=zh A70;clear A70;have H':=zh H;clear H;have p6 : 0≤(0 : Int):=(by omega);have q6 : 0<a0.size:=(by have : (0 : Int)<(a0.size : Int):=zy (by first|(with_reducible assumption)|assumption);omega);have hx6 : ∀ h : 0<a0.size,((a0[0]'h).toNat : Int)=bt a0 0:=bt_at a0 0;clear p6;have qi6 : (0<(a0.size : Int))=True:=eq_true (zy (by first|(with_reducible assumption)|assumption));replace q6:=eq_true q6
   go_wp2_with (first|(go_at_call 110;(with_reducible refine (F09.calls  (bt a0 0) t390 _ A7.out).mono ?_);rintro e w' ⟨rfl,⟨nd,rfl⟩⟩))
   go_meet
   case rel=>exact ⟨_,(!t390),(by first|rfl|(simp;done)|(simp [*];done)),H',⟨by first|omega|exact ye _⟩,by repeat (first|exact yp _|apply yq)⟩
  rw [if_neg c5] at H;exact absurd H (by simp)
 case rest =>
  clear HC2
  try clear c1
  try clear p2
  try clear c3 c3b0 c3b1 c4 c4b0 c4b1 c5 c5b0 c5b1
  try clear p6
  try clear q6
  try clear hx6
  try clear qi6
  try clear p6
  try clear q6
  obtain ⟨kq,x17_1,rfl,HA,HJ1,⟨mc1,rfl⟩⟩:=hcut
  cases kq with
  | zero=>exact absurd HA.out (by simp [F9.j0])
  | succ kj1 =>
   have H:=HA.out;clear HA;simp only [F9.j0] at H
   by_cases c8 : x17_1=true
   ·
    subst c8
    have H1 : (some false)=some r:=by rw [if_pos rfl] at H;exact H
    clear H;have H:=H1;clear H1;obtain rfl:=zU H
    go_wp2
    go_ret
    exact ⟨by first|rfl|(simp;done)|(simp [*];done),by repeat (first|exact yp _|apply yq)⟩
   replace c8:=yb.mpr c8;subst c8;have H1 : (F9.l0 kj1 a0 1)=some r:=by rw [if_neg (show ¬ (false=true) by decide)] at H;exact H
   clear H;have H:=H1;clear H1;have H':=zh H;clear H
   go_wp2
   go_loopg [3] kj1 (fun kq v3 w' => ∃ (x3_2 : Int),v3 = .int .i64 x3_2∧Aside0 (F9.l0 kq a0 x3_2=some r)∧Aside0 (kq≤kj1)∧Drawn0 w w')
   case atStart=>exact ⟨(1),(by first|rfl|(simp;done)|(simp [*];done)),H',⟨ye _⟩,by repeat (first|exact yp _|apply yq)⟩
   case round =>
    clear H'
    try clear c1
    try clear p2
    try clear c3 c3b0 c3b1 c4 c4b0 c4b1 c5 c5b0 c5b1
    try clear p6
    try clear q6
    try clear hx6
    try clear qi6
    try clear c8
    try clear p2
    try clear p6
    try clear q6
    obtain ⟨x3_2,rfl,HA,HK2,⟨m2,rfl⟩⟩:=hrel
    cases gk with
    | zero=>exact absurd HA.out (by simp [F9.l0])
    | succ k2 =>
     have H:=HA.out;clear HA;simp only [F9.l0] at H
     by_cases c9 : x3_2<(a0.size : Int)
     ·
      rw [if_pos c9] at H
      have c9b0 : decide (x3_2<(a0.size : Int))=true:=decide_eq_true c9;clear c9
      by_cases c10 : 0≤x3_2
      ·
       rw [if_pos c10] at H
       have c10b0 : decide (0≤x3_2)=true:=decide_eq_true c10;clear c10;replace H:=zT.mp H;obtain ⟨t391,A120,H⟩:=H;replace H : (if t391=true then (F9.l0 k2 a0 (wrap64 (x3_2+1))) else ((F0c.f (bt a0 x3_2)).bind fun t392=>(if t392=true then (F9.l0 k2 a0 (wrap64 (x3_2+1))) else (some false))))=some r:=H;have A12:=zh A120;clear A120
       by_cases c13 : t391=true
       ·
        subst c13
        have H1 : (F9.l0 k2 a0 (wrap64 (x3_2+1)))=some r:=by rw [if_pos rfl] at H;exact H
        clear H;have H:=H1;clear H1;have H':=zh H;clear H;have p11 : 0≤(x3_2 : Int):=zy (by first|(with_reducible assumption)|assumption);have q11 : x3_2<(a0.size : Int):=zy (by first|(with_reducible assumption)|assumption);have hx11:=bt_at a0 x3_2;replace p11:=eq_true p11;replace q11:=eq_true q11
        go_wp2_with (first|((with_reducible refine zJ (f:=110) rfl ?_);refine yj (some 27) rfl rfl Try.func110 (by kernel_rfl) rfl #[.int .u8 (bt a0 x3_2)] rfl (by (try simp only [zt,zu,zv]);first|done|rfl|(simp only [zw,zx];rfl)|(simp only [yr,ys,zV,zW];rfl)) ?_;(with_reducible refine (F09.calls  (bt a0 x3_2) true _ A12.out).mono ?_);rintro e w' ⟨rfl,⟨nd,rfl⟩⟩;refine ⟨_,rfl,?_⟩))
        go_roundg k2
        case measure=>have:=HJ1.out;have:=HK2.out;omega
        case rel=>exact ⟨(wrap64 (x3_2+1)),(by first|rfl|(simp;done)|(simp [*];done)),H',⟨by have:=HJ1.out;have:=HK2.out;omega⟩,by repeat (first|exact yp _|apply yq)⟩
       replace c13:=yb.mpr c13;subst c13;have H1 : ((F0c.f (bt a0 x3_2)).bind fun t392=>(if t392=true then (F9.l0 k2 a0 (wrap64 (x3_2+1))) else (some false)))=some r:=by rw [if_neg (show ¬ (false=true) by decide)] at H;exact H
       clear H;have H:=H1;clear H1;replace H:=zT.mp H;obtain ⟨t392,A150,H⟩:=H;replace H : (if t392=true then (F9.l0 k2 a0 (wrap64 (x3_2+1))) else (some false))=some r:=H;have A15:=zh A150;clear A150
       by_cases c16 : t392=true
       ·
        subst c16
        have H1 : (F9.l0 k2 a0 (wrap64 (x3_2+1)))=some r:=by rw [if_pos rfl] at H;exact H
        clear H;have H:=H1;clear H1;have H':=zh H;clear H;have p11 : 0≤(x3_2 : Int):=zy (by first|(with_reducible assumption)|assumption);have q11 : x3_2<(a0.size : Int):=zy (by first|(with_reducible assumption)|assumption);have hx11:=bt_at a0 x3_2;replace p11:=eq_true p11;replace q11:=eq_true q11
        go_wp2_with (first|((with_reducible refine zJ (f:=110) rfl ?_);refine yj (some 27) rfl rfl Try.func110 (by kernel_rfl) rfl #[.int .u8 (bt a0 x3_2)] rfl (by (try simp only [zt,zu,zv]);first|done|rfl|(simp only [zw,zx];rfl)|(simp only [yr,ys,zV,zW];rfl)) ?_;(with_reducible refine (F09.calls  (bt a0 x3_2) false _ A12.out).mono ?_);rintro e w' ⟨rfl,⟨nd,rfl⟩⟩;refine ⟨_,rfl,?_⟩;have p14 : 0≤(x3_2 : Int):=zy (by first|(with_reducible assumption)|assumption);have q14 : x3_2<(a0.size : Int):=zy (by first|(with_reducible assumption)|assumption);have hx14:=bt_at a0 x3_2;replace p14:=eq_true p14;replace q14:=eq_true q14)|(go_at_call 111;(with_reducible refine (F0c.calls  (bt a0 x3_2) true _ A15.out).mono ?_);rintro e w' ⟨rfl,⟨nd,rfl⟩⟩))
        go_roundg k2
        case measure=>have:=HJ1.out;have:=HK2.out;omega
        case rel=>exact ⟨(wrap64 (x3_2+1)),(by first|rfl|(simp;done)|(simp [*];done)),H',⟨by have:=HJ1.out;have:=HK2.out;omega⟩,by repeat (first|exact yp _|apply yq)⟩
       replace c16:=yb.mpr c16;subst c16;have H1 : (some false)=some r:=by rw [if_neg (show ¬ (false=true) by decide)] at H;exact H
       clear H;have H:=H1;clear H1;obtain rfl:=zU H;have p11 : 0≤(x3_2 : Int):=zy (by first|(with_reducible assumption)|assumption);have q11 : x3_2<(a0.size : Int):=zy (by first|(with_reducible assumption)|assumption);have hx11:=bt_at a0 x3_2;replace p11:=eq_true p11;replace q11:=eq_true q11
       go_wp2_with (first|((with_reducible refine zJ (f:=110) rfl ?_);refine yj (some 27) rfl rfl Try.func110 (by kernel_rfl) rfl #[.int .u8 (bt a0 x3_2)] rfl (by (try simp only [zt,zu,zv]);first|done|rfl|(simp only [zw,zx];rfl)|(simp only [yr,ys,zV,zW];rfl)) ?_;(with_reducible refine (F09.calls  (bt a0 x3_2) false _ A12.out).mono ?_);rintro e w' ⟨rfl,⟨nd,rfl⟩⟩;refine ⟨_,rfl,?_⟩;have p14 : 0≤(x3_2 : Int):=zy (by first|(with_reducible assumption)|assumption);have q14 : x3_2<(a0.size : Int):=zy (by first|(with_reducible assumption)|assumption);have hx14:=bt_at a0 x3_2;replace p14:=eq_true p14;replace q14:=eq_true q14)|(go_at_call 111;(with_reducible refine (F0c.calls  (bt a0 x3_2) false _ A15.out).mono ?_);rintro e w' ⟨rfl,⟨nd,rfl⟩⟩))
       go_ret
       exact ⟨by first|rfl|(simp;done)|(simp [*];done),by repeat (first|exact yp _|apply yq)⟩
      rw [if_neg c10] at H;exact absurd H (by simp)
     rw [if_neg c9] at H;have c9b0 : decide (x3_2<(a0.size : Int))=false:=decide_eq_false c9;clear c9;obtain rfl:=zU H
     go_wp2
     go_ret
     exact ⟨by first|rfl|(simp;done)|(simp [*];done),by repeat (first|exact yp _|apply yq)⟩

end Go.Proofs.Ytjgcddjdmfcgoaa.Q
end
section
namespace Go.Proofs.Ytjgcddjdmfcgoaa.Q
open Go.RowKit Go.Proofs.YtjgcddjdmfcgoaaW.PrintWords Go.Proofs.YtjgcddjdmfcgoaaW.PrintLast Go.Proofs.YtjgcddjdmfcgoaaW.PrintMore
attribute [local go_sem] max2_int min2_int max_two min_two max_three min_three max_four min_four max2_str min2_str str_geq str_gtr str_leq
set_option linter.unusedVariables false
set_option linter.unusedSimpArgs false

def F08.f (k : Nat) (a0 : ByteArray) : Option (Bool):=(F9.f k a0).bind fun t393=>(some t393)
theorem F08.mono : ∀ a0 k,LeO (F08.f k a0) (F08.f (k+1) a0):=by
 intro a0 k;unfold F08.f
 repeat' first|(with_reducible first|exact F9.mono _ _|exact zQ _|exact zN _|refine zP ?_ ?_|refine zO ?_ (fun _=>?_))|refine zP ?_ ?_|refine zO ?_ (fun _=>?_)
set_option maxHeartbeats 8000000 in
set_option maxRecDepth 100000 in
theorem F08.calls (k : Nat) (a0 : ByteArray) (r : Bool) (w : World) (h : F08.f k a0=some r) :
  Calls Try.prog 92 #[.string a0] w fun e w' => e = .returned (.bool r)∧Drawn0 w w':=by
 have H : ((F9.f k a0).bind fun t393=>(some t393))=some r:=h;clear h;replace H:=zT.mp H;obtain ⟨t393,A20,H⟩:=H;replace H : (some t393)=some r:=H;have A2:=zh A20;clear A20;obtain rfl:=zU H
 go_enter Try.func92,Try.ntmps92
 go_wp2_with (first|((with_reducible refine zJ (f:=102) rfl ?_);refine yj (some 4) rfl rfl Try.func102 (by kernel_rfl) rfl #[.string a0] rfl (by (try simp only [zt,zu,zv]);first|done|rfl|(simp only [zw,zx];rfl)|(simp only [yr,ys,zV,zW];rfl)) ?_;(with_reducible refine (F9.calls k  a0 t393 _ A2.out).mono ?_);rintro e w' ⟨rfl,⟨nd,rfl⟩⟩;refine ⟨_,rfl,?_⟩))
 go_ret
 exact ⟨by first|rfl|(simp;done)|(simp [*];done),by repeat (first|exact yp _|apply yq)⟩


def F00.f (k : Nat) (a0 : ByteArray) : Option (Bool):=(F08.f k a0).bind fun t394=>(if t394=true then (some (decide ((a0.size : Int)≤12))) else (some false))
theorem F00.mono : ∀ a0 k,LeO (F00.f k a0) (F00.f (k+1) a0):=by
 intro a0 k;unfold F00.f
 repeat' first|(with_reducible first|exact F08.mono _ _|exact zQ _|exact zN _|refine zP ?_ ?_|refine zO ?_ (fun _=>?_))|refine zP ?_ ?_|refine zO ?_ (fun _=>?_)
set_option maxHeartbeats 8000000 in
set_option maxRecDepth 100000 in
theorem F00.calls (k : Nat) (a0 : ByteArray) (r : Bool) (w : World) (h : F00.f k a0=some r) :
  Calls Try.prog 82 #[.string a0] w fun e w' => e = .returned (.bool r)∧Drawn0 w w':=by
 have H : ((F08.f k a0).bind fun t394=>(if t394=true then (some (decide ((a0.size : Int)≤12))) else (some false)))=some r:=h;clear h;replace H:=zT.mp H;obtain ⟨t394,A20,H⟩:=H;replace H : (if t394=true then (some (decide ((a0.size : Int)≤12))) else (some false))=some r:=H;have A2:=zh A20;clear A20
 by_cases c3 : t394=true
 ·
  subst c3
  have H1 : (some (decide ((a0.size : Int)≤12)))=some r:=by rw [if_pos rfl] at H;exact H
  clear H;have H:=H1;clear H1;obtain rfl:=zU H
  go_enter Try.func82,Try.ntmps82
  go_wp2_with (first|((with_reducible refine zJ (f:=92) rfl ?_);refine yj (some 4) rfl rfl Try.func92 (by kernel_rfl) rfl #[.string a0] rfl (by (try simp only [zt,zu,zv]);first|done|rfl|(simp only [zw,zx];rfl)|(simp only [yr,ys,zV,zW];rfl)) ?_;(with_reducible refine (F08.calls k  a0 true _ A2.out).mono ?_);rintro e w' ⟨rfl,⟨nd,rfl⟩⟩;refine ⟨_,rfl,?_⟩))
  go_ret
  exact ⟨by first|rfl|(simp;done)|(simp [*];done),by repeat (first|exact yp _|apply yq)⟩
 replace c3:=yb.mpr c3;subst c3;have H1 : (some false)=some r:=by rw [if_neg (show ¬ (false=true) by decide)] at H;exact H
 clear H;have H:=H1;clear H1;obtain rfl:=zU H
 go_enter Try.func82,Try.ntmps82
 go_wp2_with (first|((with_reducible refine zJ (f:=92) rfl ?_);refine yj (some 4) rfl rfl Try.func92 (by kernel_rfl) rfl #[.string a0] rfl (by (try simp only [zt,zu,zv]);first|done|rfl|(simp only [zw,zx];rfl)|(simp only [yr,ys,zV,zW];rfl)) ?_;(with_reducible refine (F08.calls k  a0 false _ A2.out).mono ?_);rintro e w' ⟨rfl,⟨nd,rfl⟩⟩;refine ⟨_,rfl,?_⟩))
 go_ret
 exact ⟨by first|rfl|(simp;done)|(simp [*];done),by repeat (first|exact yp _|apply yq)⟩

end Go.Proofs.Ytjgcddjdmfcgoaa.Q
end
