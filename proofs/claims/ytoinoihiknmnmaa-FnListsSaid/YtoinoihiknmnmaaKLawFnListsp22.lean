/- Texts of this claim, merged by a program of this session. -/
import Derived.Lib.Strings
import Derived.Lib.Slices
import Derived.Lib.Walk
import Derived.Lib.Bytealg
import Derived.Test.YtoinoihiknmnmaaKLawFnListsp12
import Derived.Test.YtoinoihiknmnmaaKLawFnListsp14
import Derived.Test.YtoinoihiknmnmaaKLawFnListsp16
import Derived.Test.YtoinoihiknmnmaaKLawFnListsp17
import Derived.Test.YtoinoihiknmnmaaKLawFnListsp18
import Derived.Test.YtoinoihiknmnmaaKLawFnListsp20
import Derived.Test.YtoinoihiknmnmaaKLawFnListsp21
section
namespace Go.Proofs.Ytoinoihiknmnmaa.Q
open Go.RowKit Go.Proofs.YtoinoihiknmnmaaW.PrintWords Go.Proofs.YtoinoihiknmnmaaW.PrintLast Go.Proofs.YtoinoihiknmnmaaW.PrintMore
attribute [local go_sem] max2_int min2_int max_two min_two max_three min_three max_four min_four max2_str min2_str str_geq str_gtr str_leq
set_option linter.unusedVariables false
set_option linter.unusedSimpArgs false



def errW : Option Int→Value
 | none => .nilIface
 | some c => .iface 0 (.int .i64 c)
theorem errW_none : errW none = .nilIface:=rfl
theorem errW_some (c : Int) : errW (some c) = .iface 0 (.int .i64 c):=rfl

theorem info5 : (Try.prog.info? 5).map (fun i=>(i.zero,i.size,i.bytes))=some (some (.int .u8 0),1,1):=by kernel_rfl
theorem info25 : (Try.prog.info? 25).map (fun i=>(i.zero,i.size,i.bytes))=some (some (.agg #[(.int .i64 0),(.int .i64 0),(.string ⟨#[]⟩)]),3,32):=by kernel_rfl
theorem info43 : (Try.prog.info? 43).map (fun i=>(i.zero,i.size,i.bytes))=some (some (.agg #[(.string ⟨#[]⟩),(.int .i64 0),(.int .i64 0),(.string ⟨#[]⟩)]),4,48):=by kernel_rfl
-- the values' own types
structure S48 where
 f0 : Int
 f1 : Int
 f2 : ByteArray
def z48 : S48:=⟨(0 : Int),(0 : Int),(⟨#[]⟩ : ByteArray)⟩
def k48 : Kd S48:=Kd.iso (Kd.pair (Kd.int .i64) (Kd.pair (Kd.int .i64) Kd.string)) (fun x : S48=>(x.f0,x.f1,x.f2))
def rd_T48 (xs : List S48) (i : Int) : S48:=xs.getD i.toNat z48
structure S50 where
 f0 : ByteArray
 f1 : S48
def z50 : S50:=⟨(⟨#[]⟩ : ByteArray),z48⟩
def k50 : Kd S50:=Kd.iso (Kd.pair Kd.string k48) (fun x : S50=>(x.f0,x.f1))
def rd_T50 (xs : List S50) (i : Int) : S50:=xs.getD i.toNat z50
structure S25 where
 f0 : Int
 f1 : Int
 f2 : ByteArray
def z25 : S25:=⟨(0 : Int),(0 : Int),(⟨#[]⟩ : ByteArray)⟩
def k25 : Kd S25:=Kd.iso (Kd.pair (Kd.int .i64) (Kd.pair (Kd.int .i64) Kd.string)) (fun x : S25=>(x.f0,x.f1,x.f2))
theorem k25_open {w : World} {x : S25} {cs : List Value} (h : k25.K w x cs) : cs=[.int .i64 x.f0,.int .i64 x.f1,.string x.f2]:=by
 obtain ⟨_,_,rfl,rfl,⟨_,_,rfl,rfl,rfl⟩⟩:=h
 exact rfl
theorem k25_openM {w : World} {base : Nat} {ok : Nat→Prop} {x : S25} {cs : List Value} (h : k25.M w base ok x cs) : cs=[.int .i64 x.f0,.int .i64 x.f1,.string x.f2]:=by
 obtain ⟨_,_,rfl,rfl,⟨_,_,rfl,rfl,rfl⟩⟩:=h
 exact rfl
theorem k25_mk (w : World) (x : S25)  : k25.K w x [.int .i64 x.f0,.int .i64 x.f1,.string x.f2]:=⟨[.int .i64 x.f0],[.int .i64 x.f1,.string x.f2],rfl,rfl,⟨[.int .i64 x.f1],[.string x.f2],rfl,rfl,rfl⟩⟩
theorem k25_mkM (w : World) (base : Nat) (ok : Nat→Prop) (x : S25)  : k25.M w base ok x [.int .i64 x.f0,.int .i64 x.f1,.string x.f2]:=⟨[.int .i64 x.f0],[.int .i64 x.f1,.string x.f2],rfl,rfl,⟨[.int .i64 x.f1],[.string x.f2],rfl,rfl,rfl⟩⟩
def rd_T25 (xs : List S25) (i : Int) : S25:=xs.getD i.toNat z25
theorem at_T25 {w : World} {A : Option Addr} {n : Nat} {xs : List S25} (h : Kd.C k25 w A n xs) (i : Int) (h0 : 0≤i) (h1 : i<n) : ∃ ad ,A=some ad∧w.cell? (ad.add (i.toNat*3))=some (.int .i64 (rd_T25 xs i).f0)∧w.cell? ⟨(ad.add (i.toNat*3)).block,(ad.add (i.toNat*3)).off+1,none⟩=some (.int .i64 (rd_T25 xs i).f1)∧w.cell? ⟨(ad.add (i.toNat*3)).block,(ad.add (i.toNat*3)).off+2,none⟩=some (.string (rd_T25 xs i).f2):=by
 obtain ⟨ad,c,e,_,hK,hc0⟩:=Kd.C_get h z25 i h0 h1
 have hc : ∀ j u,c[j]? = some u→w.cell? (ad.add (i.toNat*3+j))=some u:=hc0
 obtain rfl:=k25_open hK
 exact ⟨ad,e,hc 0 _ rfl,by rw [← add_field _ _ 1 (by omega)];exact hc 1 _ rfl,by rw [← add_field _ _ 2 (by omega)];exact hc 2 _ rfl⟩

structure S43 where
 f0 : ByteArray
 f1 : S25
def z43 : S43:=⟨(⟨#[]⟩ : ByteArray),z25⟩
def k43 : Kd S43:=Kd.iso (Kd.pair Kd.string k25) (fun x : S43=>(x.f0,x.f1))
theorem k43_open {w : World} {x : S43} {cs : List Value} (h : k43.K w x cs) : cs=[.string x.f0,.int .i64 x.f1.f0,.int .i64 x.f1.f1,.string x.f1.f2]:=by
 obtain ⟨_,_,rfl,rfl,s1⟩:=h
 obtain rfl:=k25_open s1
 exact rfl
theorem k43_openM {w : World} {base : Nat} {ok : Nat→Prop} {x : S43} {cs : List Value} (h : k43.M w base ok x cs) : cs=[.string x.f0,.int .i64 x.f1.f0,.int .i64 x.f1.f1,.string x.f1.f2]:=by
 obtain ⟨_,_,rfl,rfl,s1⟩:=h
 obtain rfl:=k25_openM s1
 exact rfl
theorem k43_mk (w : World) (x : S43)  : k43.K w x [.string x.f0,.int .i64 x.f1.f0,.int .i64 x.f1.f1,.string x.f1.f2]:=⟨[.string x.f0],[.int .i64 x.f1.f0,.int .i64 x.f1.f1,.string x.f1.f2],rfl,rfl,(k25_mk w x.f1 )⟩
theorem k43_mkM (w : World) (base : Nat) (ok : Nat→Prop) (x : S43)  : k43.M w base ok x [.string x.f0,.int .i64 x.f1.f0,.int .i64 x.f1.f1,.string x.f1.f2]:=⟨[.string x.f0],[.int .i64 x.f1.f0,.int .i64 x.f1.f1,.string x.f1.f2],rfl,rfl,(k25_mkM w base ok x.f1 )⟩
def rd_T43 (xs : List S43) (i : Int) : S43:=xs.getD i.toNat z43
theorem at_T43 {w : World} {A : Option Addr} {n : Nat} {xs : List S43} (h : Kd.C k43 w A n xs) (i : Int) (h0 : 0≤i) (h1 : i<n) : ∃ ad ,A=some ad∧w.cell? (ad.add (i.toNat*4))=some (.string (rd_T43 xs i).f0)∧w.cell? ⟨(ad.add (i.toNat*4)).block,(ad.add (i.toNat*4)).off+1,none⟩=some (.int .i64 (rd_T43 xs i).f1.f0)∧w.cell? ⟨(ad.add (i.toNat*4)).block,(ad.add (i.toNat*4)).off+2,none⟩=some (.int .i64 (rd_T43 xs i).f1.f1)∧w.cell? ⟨(ad.add (i.toNat*4)).block,(ad.add (i.toNat*4)).off+3,none⟩=some (.string (rd_T43 xs i).f1.f2):=by
 obtain ⟨ad,c,e,_,hK,hc0⟩:=Kd.C_get h z43 i h0 h1
 have hc : ∀ j u,c[j]? = some u→w.cell? (ad.add (i.toNat*4+j))=some u:=hc0
 obtain rfl:=k43_open hK
 exact ⟨ad,e,hc 0 _ rfl,by rw [← add_field _ _ 1 (by omega)];exact hc 1 _ rfl,by rw [← add_field _ _ 2 (by omega)];exact hc 2 _ rfl,by rw [← add_field _ _ 3 (by omega)];exact hc 3 _ rfl⟩

def rd_L7 (xs : List (List S50)) (i : Int) : (List S50):=xs.getD i.toNat ([] : List S50)
def rd_L8 (xs : List (List Int)) (i : Int) : (List Int):=xs.getD i.toNat ([] : List Int)
abbrev bm_ (i n : Nat) : Array Bool:=(List.replicate i true++List.replicate (n - i) false).toArray
abbrev za:=@below_alloc
abbrev zb:=@pw_below_drewN
abbrev zc:=@below_drew1
abbrev zd:=@below_set
abbrev ze:=@blk_drewN
abbrev zf:=@blk_drew
abbrev zg:=@blk_alloc
abbrev zh:=@Aside0.mk
abbrev zi:=@List.setIfInBounds_toArray
abbrev zj:=@List.set_cons_zero
abbrev zk:=@List.set_cons_succ
abbrev zl:=@World.block_lt_of_cell?
abbrev zm:=@Kd.R_alloc
abbrev zn:=@Kd.R_drewN
abbrev zo:=@Kd.R_drew
abbrev zp:=@Kept.drewN
abbrev zq:=@Kept.drew
abbrev zr:=@Kept.alloc
abbrev zs:=@Kept.setCell
abbrev zt:=@List.map_toArray
abbrev zu:=@List.map_cons
abbrev zv:=@List.map_nil
abbrev zw:=@List.length_drop
abbrev zx:=@List.length_take
abbrev zy:=@of_decide_eq_true
abbrev zz:=@blk_cell
abbrev zA:=@blk_frozen
abbrev zB:=@below_size
abbrev zC:=@below_step
abbrev zD:=@blk_below
abbrev zE:=@Kd.R_far
abbrev zF:=@add_block
abbrev zG:=@i64_w
abbrev zH:=@i32_w
abbrev zI:=@box_event
abbrev zJ:=@gate_callee
abbrev zK:=@gate_dst
abbrev zL:=@blk_put
abbrev zM:=@Kd.R_mono
abbrev zN:=@LeO.none
abbrev zO:=@LeO.bind
abbrev zP:=@LeO.ite
abbrev zQ:=@LeO.refl
abbrev zR:=@cell_far
abbrev zS:=@blk_far
abbrev zT:=@Option.bind_eq_some_iff
abbrev zU:=@Option.some.inj
abbrev zV:=@Int.ofNat_lt
abbrev zW:=@Int.ofNat_le
abbrev zX:=@bne_eq_false_iff_eq
abbrev zY:=@beq_eq_false_iff_ne
abbrev zZ:=@bne_iff_ne
abbrev ya:=@beq_iff_eq
abbrev yb:=@Bool.eq_false_iff
abbrev yc:=@Nat.ne_of_lt
abbrev yd:=@Nat.ne_of_gt
abbrev ye:=@Nat.le_refl
abbrev yf:=@Kd.R_types
abbrev yg:=@Kd.R_below
abbrev yh:=@Kd.R_reads'
abbrev yi:=@blk_lt
abbrev yj:=@goesL_
abbrev yk:=@Kd.R_slice
abbrev yl:=@KeepBut.set_
abbrev ym:=@keep_drewN
abbrev yn:=@keep_alloc
abbrev yo:=@take_ofW
abbrev yp:=@Drawn0.refl
abbrev yq:=@Drawn0.step
abbrev yr:=@gt_iff_lt
abbrev ys:=@ge_iff_le
abbrev yt:=@errW_none
abbrev yu:=@errW_some
abbrev yv:=@Kd.R_away
abbrev yw:=@blk_grown
abbrev yx:=@keep_drew
abbrev yy:=@Kd.R_lower
abbrev yz:=@gate_guard
abbrev yA:=@Kept.of_grown
abbrev yB:=@gate_builtin
theorem cB1 {w : World} {g : Nat} {t : TypeId} {a0 : Value} (h : w.heap[g]? = some (.cells #[a0] t (0, 0))) : w.cell? ⟨g, 0, none⟩ = some a0 ∧ w.frozen? ⟨g, 0, none⟩ = false := ⟨blk_cell h 0, blk_frozen h 0⟩
theorem cB2 {w : World} {g : Nat} {t : TypeId} {a0 a1 : Value} (h : w.heap[g]? = some (.cells #[a0, a1] t (0, 0))) : w.cell? ⟨g, 0, none⟩ = some a0 ∧ w.cell? ⟨g, 1, none⟩ = some a1 ∧ w.frozen? ⟨g, 0, none⟩ = false ∧ w.frozen? ⟨g, 1, none⟩ = false := ⟨blk_cell h 0, blk_cell h 1, blk_frozen h 0, blk_frozen h 1⟩
theorem cB3 {w : World} {g : Nat} {t : TypeId} {a0 a1 a2 : Value} (h : w.heap[g]? = some (.cells #[a0, a1, a2] t (0, 0))) : w.cell? ⟨g, 0, none⟩ = some a0 ∧ w.cell? ⟨g, 1, none⟩ = some a1 ∧ w.cell? ⟨g, 2, none⟩ = some a2 ∧ w.frozen? ⟨g, 0, none⟩ = false ∧ w.frozen? ⟨g, 1, none⟩ = false ∧ w.frozen? ⟨g, 2, none⟩ = false := ⟨blk_cell h 0, blk_cell h 1, blk_cell h 2, blk_frozen h 0, blk_frozen h 1, blk_frozen h 2⟩
theorem cB4 {w : World} {g : Nat} {t : TypeId} {a0 a1 a2 a3 : Value} (h : w.heap[g]? = some (.cells #[a0, a1, a2, a3] t (0, 0))) : w.cell? ⟨g, 0, none⟩ = some a0 ∧ w.cell? ⟨g, 1, none⟩ = some a1 ∧ w.cell? ⟨g, 2, none⟩ = some a2 ∧ w.cell? ⟨g, 3, none⟩ = some a3 ∧ w.frozen? ⟨g, 0, none⟩ = false ∧ w.frozen? ⟨g, 1, none⟩ = false ∧ w.frozen? ⟨g, 2, none⟩ = false ∧ w.frozen? ⟨g, 3, none⟩ = false := ⟨blk_cell h 0, blk_cell h 1, blk_cell h 2, blk_cell h 3, blk_frozen h 0, blk_frozen h 1, blk_frozen h 2, blk_frozen h 3⟩
theorem cB5 {w : World} {g : Nat} {t : TypeId} {a0 a1 a2 a3 a4 : Value} (h : w.heap[g]? = some (.cells #[a0, a1, a2, a3, a4] t (0, 0))) : w.cell? ⟨g, 0, none⟩ = some a0 ∧ w.cell? ⟨g, 1, none⟩ = some a1 ∧ w.cell? ⟨g, 2, none⟩ = some a2 ∧ w.cell? ⟨g, 3, none⟩ = some a3 ∧ w.cell? ⟨g, 4, none⟩ = some a4 ∧ w.frozen? ⟨g, 0, none⟩ = false ∧ w.frozen? ⟨g, 1, none⟩ = false ∧ w.frozen? ⟨g, 2, none⟩ = false ∧ w.frozen? ⟨g, 3, none⟩ = false ∧ w.frozen? ⟨g, 4, none⟩ = false := ⟨blk_cell h 0, blk_cell h 1, blk_cell h 2, blk_cell h 3, blk_cell h 4, blk_frozen h 0, blk_frozen h 1, blk_frozen h 2, blk_frozen h 3, blk_frozen h 4⟩
theorem cB6 {w : World} {g : Nat} {t : TypeId} {a0 a1 a2 a3 a4 a5 : Value} (h : w.heap[g]? = some (.cells #[a0, a1, a2, a3, a4, a5] t (0, 0))) : w.cell? ⟨g, 0, none⟩ = some a0 ∧ w.cell? ⟨g, 1, none⟩ = some a1 ∧ w.cell? ⟨g, 2, none⟩ = some a2 ∧ w.cell? ⟨g, 3, none⟩ = some a3 ∧ w.cell? ⟨g, 4, none⟩ = some a4 ∧ w.cell? ⟨g, 5, none⟩ = some a5 ∧ w.frozen? ⟨g, 0, none⟩ = false ∧ w.frozen? ⟨g, 1, none⟩ = false ∧ w.frozen? ⟨g, 2, none⟩ = false ∧ w.frozen? ⟨g, 3, none⟩ = false ∧ w.frozen? ⟨g, 4, none⟩ = false ∧ w.frozen? ⟨g, 5, none⟩ = false := ⟨blk_cell h 0, blk_cell h 1, blk_cell h 2, blk_cell h 3, blk_cell h 4, blk_cell h 5, blk_frozen h 0, blk_frozen h 1, blk_frozen h 2, blk_frozen h 3, blk_frozen h 4, blk_frozen h 5⟩
theorem cB7 {w : World} {g : Nat} {t : TypeId} {a0 a1 a2 a3 a4 a5 a6 : Value} (h : w.heap[g]? = some (.cells #[a0, a1, a2, a3, a4, a5, a6] t (0, 0))) : w.cell? ⟨g, 0, none⟩ = some a0 ∧ w.cell? ⟨g, 1, none⟩ = some a1 ∧ w.cell? ⟨g, 2, none⟩ = some a2 ∧ w.cell? ⟨g, 3, none⟩ = some a3 ∧ w.cell? ⟨g, 4, none⟩ = some a4 ∧ w.cell? ⟨g, 5, none⟩ = some a5 ∧ w.cell? ⟨g, 6, none⟩ = some a6 ∧ w.frozen? ⟨g, 0, none⟩ = false ∧ w.frozen? ⟨g, 1, none⟩ = false ∧ w.frozen? ⟨g, 2, none⟩ = false ∧ w.frozen? ⟨g, 3, none⟩ = false ∧ w.frozen? ⟨g, 4, none⟩ = false ∧ w.frozen? ⟨g, 5, none⟩ = false ∧ w.frozen? ⟨g, 6, none⟩ = false := ⟨blk_cell h 0, blk_cell h 1, blk_cell h 2, blk_cell h 3, blk_cell h 4, blk_cell h 5, blk_cell h 6, blk_frozen h 0, blk_frozen h 1, blk_frozen h 2, blk_frozen h 3, blk_frozen h 4, blk_frozen h 5, blk_frozen h 6⟩
theorem cB8 {w : World} {g : Nat} {t : TypeId} {a0 a1 a2 a3 a4 a5 a6 a7 : Value} (h : w.heap[g]? = some (.cells #[a0, a1, a2, a3, a4, a5, a6, a7] t (0, 0))) : w.cell? ⟨g, 0, none⟩ = some a0 ∧ w.cell? ⟨g, 1, none⟩ = some a1 ∧ w.cell? ⟨g, 2, none⟩ = some a2 ∧ w.cell? ⟨g, 3, none⟩ = some a3 ∧ w.cell? ⟨g, 4, none⟩ = some a4 ∧ w.cell? ⟨g, 5, none⟩ = some a5 ∧ w.cell? ⟨g, 6, none⟩ = some a6 ∧ w.cell? ⟨g, 7, none⟩ = some a7 ∧ w.frozen? ⟨g, 0, none⟩ = false ∧ w.frozen? ⟨g, 1, none⟩ = false ∧ w.frozen? ⟨g, 2, none⟩ = false ∧ w.frozen? ⟨g, 3, none⟩ = false ∧ w.frozen? ⟨g, 4, none⟩ = false ∧ w.frozen? ⟨g, 5, none⟩ = false ∧ w.frozen? ⟨g, 6, none⟩ = false ∧ w.frozen? ⟨g, 7, none⟩ = false := ⟨blk_cell h 0, blk_cell h 1, blk_cell h 2, blk_cell h 3, blk_cell h 4, blk_cell h 5, blk_cell h 6, blk_cell h 7, blk_frozen h 0, blk_frozen h 1, blk_frozen h 2, blk_frozen h 3, blk_frozen h 4, blk_frozen h 5, blk_frozen h 6, blk_frozen h 7⟩
theorem cD {w0 w w1 : World} {g : Nat} {o : Obj} (_ : w0.heap[g]? = some o) (h : w.heap[g]? = some o) (hb : Below w.heap.size w w1) : w1.heap[g]? = some o := blk_below h hb
theorem cH {w0 w w1 : World} {g : Nat} (h : Below w0.heap.size w0 w) (hb : Below w.heap.size w w1) (hg : g = w.heap.size) : w0.heap.size ≤ g ∧ Below w0.heap.size w0 w1 := ⟨hg ▸ h.size, below_step h hb⟩
theorem cS2 {w : World} {g b i0 i1 : Nat} {u0 u1 : Value} {t : TypeId} {cs : Array Value} (h : w.heap[g]? = some (.cells cs t (0, 0))) (hp : g ≠ b) : ((w.setCell ⟨b, i0, none⟩ u0).setCell ⟨b, i1, none⟩ u1).heap[g]? = some (.cells cs t (0, 0)) := blk_far (blk_far h hp u0) hp u1
theorem cS3 {w : World} {g b i0 i1 i2 : Nat} {u0 u1 u2 : Value} {t : TypeId} {cs : Array Value} (h : w.heap[g]? = some (.cells cs t (0, 0))) (hp : g ≠ b) : (((w.setCell ⟨b, i0, none⟩ u0).setCell ⟨b, i1, none⟩ u1).setCell ⟨b, i2, none⟩ u2).heap[g]? = some (.cells cs t (0, 0)) := blk_far (blk_far (blk_far h hp u0) hp u1) hp u2
theorem cS4 {w : World} {g b i0 i1 i2 i3 : Nat} {u0 u1 u2 u3 : Value} {t : TypeId} {cs : Array Value} (h : w.heap[g]? = some (.cells cs t (0, 0))) (hp : g ≠ b) : ((((w.setCell ⟨b, i0, none⟩ u0).setCell ⟨b, i1, none⟩ u1).setCell ⟨b, i2, none⟩ u2).setCell ⟨b, i3, none⟩ u3).heap[g]? = some (.cells cs t (0, 0)) := blk_far (blk_far (blk_far (blk_far h hp u0) hp u1) hp u2) hp u3
theorem cS5 {w : World} {g b i0 i1 i2 i3 i4 : Nat} {u0 u1 u2 u3 u4 : Value} {t : TypeId} {cs : Array Value} (h : w.heap[g]? = some (.cells cs t (0, 0))) (hp : g ≠ b) : (((((w.setCell ⟨b, i0, none⟩ u0).setCell ⟨b, i1, none⟩ u1).setCell ⟨b, i2, none⟩ u2).setCell ⟨b, i3, none⟩ u3).setCell ⟨b, i4, none⟩ u4).heap[g]? = some (.cells cs t (0, 0)) := blk_far (blk_far (blk_far (blk_far (blk_far h hp u0) hp u1) hp u2) hp u3) hp u4
theorem ja (P:Prop)[Decidable P](h:decide P=true:=by first|(with_reducible assumption)|assumption):P=True:=eq_true (zy h)
theorem jb{P:Prop}(h:P:=by intro w';go_simp;with_reducible rfl):P:=h
theorem jc{P:Prop}(h:P:=by simp only [Act.put,zi,zj,zk,zG,zH];rfl):P:=h
theorem jj {ops : Array Oper} {Q : Exit → Act → World → Prop} {rest : List Oper} {oi : Oper} {a : Act} {w : World} (N : Option Tmp) {f : FuncId} {as_ : Array Operand} {ts : Array TypeId} (hd : oi.dst = N) (hg : oi.guard = none) (hop : oi.op = .call { callee:=.value (.func f),args:=as_,argTypes:=ts }) (fn : Func) (args : Array Value)
 (h : Calls Try.prog f args w fun e w' => ∃ v,e = .returned v∧wpList Try.prog ops Q rest (a.put N v) w') (hf : Try.prog.funcs[f]? = some fn := by kernel_rfl) (hn : (fn.name == "runtime.NumGoroutine") = false := by exact rfl) (hb : fn.body.isSome = true := by exact rfl)
 (hargs : as_.map a.eval=args := by (try simp only [zt,zu,zv]);first|done|rfl|(simp only [zw,zx];rfl)|(simp only [yr,ys,zV,zW];rfl)) : wpList Try.prog ops Q (oi :: rest) a w := goesL_ N hd hg hf hn hb args hop hargs h
theorem jH{P:Prop}(h:P:=by omega):P:=h
theorem jB{P:Prop}(h:P:=by decide):P:=h
theorem jA{P:Prop}(h:P:=by kernel_rfl):P:=h
theorem jAk{P:Prop}(h:P:=by go_simp;rfl):P:=h
theorem jBI{P:Prop}(h:P:=by rw [hr_];decide):P:=h
theorem jAA{P:Prop}(h:P:=by go_simp <;> rfl):P:=h
theorem jBU{P:Prop}(h:P:=by have:=HI.out;omega):P:=h
theorem jZ{P:Prop}(h:P:=by have:=HK1.out;omega):P:=h
theorem jAS{P:Prop}(h:P:=by simp [Value.ownBlock]):P:=h
theorem jY{P:Prop}(h:P:=by first|omega|exact ye _):P:=h
theorem jBw{P:Prop}(h:P:=by simp [Act.eval,Act.put]):P:=h
theorem jBX{P:Prop}(h:P:=by have:=HJ1.out;have:=HK2.out;omega):P:=h
theorem jK{P:Prop}(h:P:=by repeat (first|exact yp _|apply yq)):P:=h
theorem jA5{P:Prop}(h:P:=by have:=HJ53.out;have:=HK2.out;omega):P:=h
theorem jB6{P:Prop}(h:P:=by have:=HJ30.out;have:=HK2.out;omega):P:=h
theorem jB9{P:Prop}(h:P:=by simp only [putAll,Act.put,zi,zj,zk]):P:=h
theorem jC{P:Prop}(h:P:=by first|rfl|(simp;done)|(simp [*];done)):P:=h
theorem jAR{P:Prop}(h:P:=by rw [List.length_nil,Nat.zero_add];omega):P:=h
theorem jAQ{P:Prop}(h:P:=by first|exact ye _|(simp;done)|(simp;omega)):P:=h
theorem jBt{P:Prop}(h:P:=by have h8:=hB75.size;first|(simp;omega)|omega):P:=h
theorem jBr{P:Prop}(h:P:=by have h8:=hB72.size;first|(simp;omega)|omega):P:=h
theorem jE{P:Prop}(h:P:=by first|(with_reducible assumption)|assumption):P:=h
theorem jDN{P:Prop}(h:P:=by have:=HJ2.out;have:=HJ9.out;first|omega|exact ye _):P:=h
theorem jBs{P:Prop}(h:P:=by repeat (first|exact hR75|apply zm|apply zo|apply zn)):P:=h
theorem jBp{P:Prop}(h:P:=by repeat (first|exact hR72|apply zm|apply zo|apply zn)):P:=h
theorem jBu{P:Prop}(h:P:=by rw [List.length_append,zx,List.length_singleton];omega):P:=h
theorem jF{P:Prop}(h:P:=by first|rfl|(simp [yt,yu] <;> rfl)|(simp [*,yt,yu] <;> rfl)):P:=h
theorem jBB{P:Prop}(h:P:=by repeat (with_reducible first|exact HK.out|apply zr|apply zp|apply zq)):P:=h
theorem jG{P:Prop}(h:P:=by repeat (with_reducible first|exact HB.out|apply za|apply zb|apply zc)):P:=h
theorem jBq{P:Prop}(h:P:=by repeat (first|exact HLIT|exact blk_new _ _|refine zf ?_|refine ze ?_ _)):P:=h
theorem jAe{P:Prop}(h:P:=by (with_reducible repeat first|apply ze|apply zf|apply zg);exact BK910.out):P:=h
theorem jAD{P:Prop}(h:P:=by (with_reducible repeat first|apply ze|apply zf|apply zg);exact BK647.out):P:=h
theorem jz{P:Prop}(h:P:=by (with_reducible repeat first|apply ze|apply zf|apply zg);exact BK642.out):P:=h
theorem jV{P:Prop}(h:P:=by (with_reducible repeat first|apply ze|apply zf|apply zg);exact BK621.out):P:=h
theorem jU{P:Prop}(h:P:=by (with_reducible repeat first|apply ze|apply zf|apply zg);exact BK616.out):P:=h
theorem jBo{P:Prop}(h:P:=by (with_reducible repeat first|apply ze|apply zf|apply zg);exact BK602.out):P:=h
theorem jBT{P:Prop}(h:P:=by (with_reducible repeat first|apply ze|apply zf|apply zg);exact BK594.out):P:=h
theorem jBF{P:Prop}(h:P:=by (with_reducible repeat first|apply ze|apply zf|apply zg);exact BK584.out):P:=h
theorem jBm{P:Prop}(h:P:=by (with_reducible repeat first|apply ze|apply zf|apply zg);exact BK575.out):P:=h
theorem jBD{P:Prop}(h:P:=by (with_reducible repeat first|apply ze|apply zf|apply zg);exact BK566.out):P:=h
theorem jCx{P:Prop}(h:P:=by (with_reducible repeat first|apply ze|apply zf|apply zg);exact BK503.out):P:=h
theorem jL{P:Prop}(h:P:=by (with_reducible repeat first|apply ze|apply zf|apply zg);exact BK481.out):P:=h
theorem jB8{P:Prop}(h:P:=by (with_reducible repeat first|apply ze|apply zf|apply zg);exact BK455.out):P:=h
theorem jBH{P:Prop}(h:P:=by (with_reducible repeat first|apply ze|apply zf|apply zg);exact BK416.out):P:=h
theorem jy{P:Prop}(h:P:=by (with_reducible repeat first|apply ze|apply zf|apply zg);exact BK404.out):P:=h
theorem jCS{P:Prop}(h:P:=by (with_reducible repeat first|apply ze|apply zf|apply zg);exact BK394.out):P:=h
theorem jAr{P:Prop}(h:P:=by (with_reducible repeat first|apply ze|apply zf|apply zg);exact BK389.out):P:=h
theorem jq{P:Prop}(h:P:=by (with_reducible repeat first|apply ze|apply zf|apply zg);exact BK349.out):P:=h
theorem jC8{P:Prop}(h:P:=by (with_reducible repeat first|apply ze|apply zf|apply zg);exact BK343.out):P:=h
theorem jA9{P:Prop}(h:P:=by (with_reducible repeat first|apply ze|apply zf|apply zg);exact BK342.out):P:=h
theorem jAB{P:Prop}(h:P:=by (with_reducible repeat first|apply ze|apply zf|apply zg);exact BK331.out):P:=h
theorem jAn{P:Prop}(h:P:=by (with_reducible repeat first|apply ze|apply zf|apply zg);exact BK317.out):P:=h
theorem jl{P:Prop}(h:P:=by (with_reducible repeat first|apply ze|apply zf|apply zg);exact BK316.out):P:=h
theorem jR{P:Prop}(h:P:=by (with_reducible repeat first|apply ze|apply zf|apply zg);exact BK283.out):P:=h
theorem jAZ{P:Prop}(h:P:=by (with_reducible repeat first|apply ze|apply zf|apply zg);exact BK265.out):P:=h
theorem jh{P:Prop}(h:P:=by (with_reducible repeat first|apply ze|apply zf|apply zg);exact BK264.out):P:=h
theorem jAi{P:Prop}(h:P:=by (with_reducible repeat first|apply ze|apply zf|apply zg);exact BK252.out):P:=h
theorem jn{P:Prop}(h:P:=by (with_reducible repeat first|apply ze|apply zf|apply zg);exact BK251.out):P:=h
theorem jC4{P:Prop}(h:P:=by (with_reducible repeat first|apply ze|apply zf|apply zg);exact BK238.out):P:=h
theorem jAc{P:Prop}(h:P:=by (with_reducible repeat first|apply ze|apply zf|apply zg);exact BK234.out):P:=h
theorem jBd{P:Prop}(h:P:=by (with_reducible repeat first|apply ze|apply zf|apply zg);exact BK185.out):P:=h
theorem jAu{P:Prop}(h:P:=by (with_reducible repeat first|apply ze|apply zf|apply zg);exact BK180.out):P:=h
theorem jDE{P:Prop}(h:P:=by (with_reducible repeat first|apply ze|apply zf|apply zg);exact BK172.out):P:=h
theorem jBE{P:Prop}(h:P:=by (with_reducible repeat first|apply ze|apply zf|apply zg);exact BK171.out):P:=h
theorem ji{P:Prop}(h:P:=by (with_reducible repeat first|apply ze|apply zf|apply zg);exact BK148.out):P:=h
theorem jB1{P:Prop}(h:P:=by (with_reducible repeat first|apply ze|apply zf|apply zg);exact BK111.out):P:=h
theorem jAO{P:Prop}(h:P:=by (with_reducible repeat (first|apply zm|apply zn|apply zo));exact HO0.out):P:=h
theorem jX{P:Prop}(h:P:=by repeat (first|assumption|exact Below.refl _ _|apply za|apply zc|apply zb)):P:=h
theorem jAt{P:Prop}(h:P:=by (with_reducible repeat (first|apply zm|apply zn|apply zo));exact HO_8.out):P:=h
theorem jk{P:Prop}(h:P:=by (with_reducible repeat (first|apply zm|apply zn|apply zo));exact HO_6.out):P:=h
theorem jI{P:Prop}(h:P:=by (with_reducible repeat (first|apply zm|apply zn|apply zo));exact HO_5.out):P:=h
theorem jQ{P:Prop}(h:P:=by (with_reducible repeat (first|apply zm|apply zn|apply zo));exact HO_4.out):P:=h
theorem jBQ{P:Prop}(h:P:=by (with_reducible repeat (first|apply zm|apply zn|apply zo));exact HO_3.out):P:=h
theorem jAE{P:Prop}(h:P:=by (with_reducible repeat (first|apply zm|apply zn|apply zo));exact HO_22.out):P:=h
theorem jA0{P:Prop}(h:P:=by (with_reducible repeat (first|apply zm|apply zn|apply zo));exact HO_21.out):P:=h
theorem jBW{P:Prop}(h:P:=by (with_reducible repeat (first|apply zm|apply zn|apply zo));exact HO_13.out):P:=h
theorem js{P:Prop}(h:P:=by (with_reducible repeat (first|apply zm|apply zn|apply zo));exact HO_12.out):P:=h
theorem jDO{P:Prop}(h:P:=by (with_reducible repeat (first|apply zm|apply zn|apply zo));exact HO629.out):P:=h
theorem jCY{P:Prop}(h:P:=by (with_reducible repeat (first|apply zm|apply zn|apply zo));exact HO611.out):P:=h
theorem jCy{P:Prop}(h:P:=by (with_reducible repeat (first|apply zm|apply zn|apply zo));exact HO508.out):P:=h
theorem jCA{P:Prop}(h:P:=by (with_reducible repeat (first|apply zm|apply zn|apply zo));exact HO499.out):P:=h
theorem jA6{P:Prop}(h:P:=by (with_reducible repeat (first|apply zm|apply zn|apply zo));exact HO490.out):P:=h
theorem jAC{P:Prop}(h:P:=by (with_reducible repeat (first|apply zm|apply zn|apply zo));exact HO352.out):P:=h
theorem jBl{P:Prop}(h:P:=by (with_reducible repeat (first|apply zm|apply zn|apply zo));exact HO334.out):P:=h
theorem jBO{P:Prop}(h:P:=by (with_reducible repeat (first|apply zm|apply zn|apply zo));exact HO290.out):P:=h
theorem jBc{P:Prop}(h:P:=by (with_reducible repeat (first|apply zm|apply zn|apply zo));exact HO160.out):P:=h
theorem jT{P:Prop}(h:P:=by repeat (with_reducible first|exact HK.out|apply yl|apply ym|apply yx|apply yn)):P:=h
theorem jDS{P:Prop}(h:P:=by have:=HJ2.out;have:=HJ9.out;have:=HJ24.out;have:=HK4.out;first|omega|exact ye _):P:=h
theorem jDG{P:Prop}(h:P:=by first|rfl|(simp;done)|(simp only [← hji5] <;> (first|rfl|simp))|(simp [*];done)):P:=h
theorem jBv{P:Prop}(h:P:=by rw [List.length_append,List.length_append,zx,zw,List.length_singleton];have:=HL.out;omega):P:=h
theorem jAd{P:Prop}(h:P:=by repeat (with_reducible first|exact HB.out|apply za|apply zb|apply zc|refine zd ?_ GE910.out)):P:=h
theorem jDJ{P:Prop}(h:P:=by repeat (with_reducible first|exact HB.out|apply za|apply zb|apply zc|refine zd ?_ GE616.out)):P:=h
theorem jAq{P:Prop}(h:P:=by repeat (with_reducible first|exact HB.out|apply za|apply zb|apply zc|refine zd ?_ GE602.out)):P:=h
theorem jAp{P:Prop}(h:P:=by repeat (with_reducible first|exact HB.out|apply za|apply zb|apply zc|refine zd ?_ GE594.out)):P:=h
theorem jAb{P:Prop}(h:P:=by repeat (with_reducible first|exact HB.out|apply za|apply zb|apply zc|refine zd ?_ GE584.out)):P:=h
theorem jAo{P:Prop}(h:P:=by repeat (with_reducible first|exact HB.out|apply za|apply zb|apply zc|refine zd ?_ GE575.out)):P:=h
theorem jBR{P:Prop}(h:P:=by repeat (with_reducible first|exact HB.out|apply za|apply zb|apply zc|refine zd ?_ GE566.out)):P:=h
theorem jDB{P:Prop}(h:P:=by repeat (with_reducible first|exact HB.out|apply za|apply zb|apply zc|refine zd ?_ GE560.out)):P:=h
theorem jBe{P:Prop}(h:P:=by repeat (with_reducible first|exact HB.out|apply za|apply zb|apply zc|refine zd ?_ GE455.out)):P:=h
theorem jAU{P:Prop}(h:P:=by repeat (with_reducible first|exact HB.out|apply za|apply zb|apply zc|refine zd ?_ GE404.out)):P:=h
theorem jBV{P:Prop}(h:P:=by repeat (with_reducible first|exact HB.out|apply za|apply zb|apply zc|refine zd ?_ GE389.out)):P:=h
theorem jM{P:Prop}(h:P:=by repeat (with_reducible first|exact HB.out|apply za|apply zb|apply zc|refine zd ?_ GE349.out)):P:=h
theorem jCN{P:Prop}(h:P:=by repeat (with_reducible first|exact HB.out|apply za|apply zb|apply zc|refine zd ?_ GE342.out)):P:=h
theorem jx{P:Prop}(h:P:=by repeat (with_reducible first|exact HB.out|apply za|apply zb|apply zc|refine zd ?_ GE331.out)):P:=h
theorem jDA{P:Prop}(h:P:=by repeat (with_reducible first|exact HB.out|apply za|apply zb|apply zc|refine zd ?_ GE325.out)):P:=h
theorem jAl{P:Prop}(h:P:=by repeat (with_reducible first|exact HB.out|apply za|apply zb|apply zc|refine zd ?_ GE316.out)):P:=h
theorem jS{P:Prop}(h:P:=by repeat (with_reducible first|exact HB.out|apply za|apply zb|apply zc|refine zd ?_ GE283.out)):P:=h
theorem jCL{P:Prop}(h:P:=by repeat (with_reducible first|exact HB.out|apply za|apply zb|apply zc|refine zd ?_ GE264.out)):P:=h
theorem jCJ{P:Prop}(h:P:=by repeat (with_reducible first|exact HB.out|apply za|apply zb|apply zc|refine zd ?_ GE251.out)):P:=h
theorem jBJ{P:Prop}(h:P:=by repeat (with_reducible first|exact HB.out|apply za|apply zb|apply zc|refine zd ?_ GE185.out)):P:=h
theorem jAW{P:Prop}(h:P:=by repeat (with_reducible first|exact HB.out|apply za|apply zb|apply zc|refine zd ?_ GE180.out)):P:=h
theorem jCQ{P:Prop}(h:P:=by repeat (with_reducible first|exact HB.out|apply za|apply zb|apply zc|refine zd ?_ GE171.out)):P:=h
theorem jB7{P:Prop}(h:P:=by repeat (with_reducible first|exact HB.out|apply za|apply zb|apply zc|refine zd ?_ GE169.out)):P:=h
theorem jN{P:Prop}(h:P:=by repeat (with_reducible first|exact HB.out|apply za|apply zb|apply zc|refine zd ?_ GE148.out)):P:=h
theorem jA4{P:Prop}(h:P:=by repeat (with_reducible first|exact HB.out|apply za|apply zb|apply zc|refine zd ?_ GE141.out)):P:=h
theorem jA3{P:Prop}(h:P:=by repeat (with_reducible first|exact HB.out|apply za|apply zb|apply zc|refine zd ?_ GE123.out)):P:=h
theorem jCg{P:Prop}(h:P:=by repeat (with_reducible first|exact HB.out|apply za|apply zb|apply zc|refine zd ?_ GE111.out)):P:=h
theorem jBC{P:Prop}(h:P:=by rw [hg];exact (zB jG)):P:=h
theorem jCV{P:Prop}(h:P:=by rw [← hq_];exact jBH):P:=h
theorem jCU{P:Prop}(h:P:=by rw [← hq_];exact jy):P:=h
theorem jB3{P:Prop}(h:P:=by rw [← hq_];exact (by (with_reducible repeat first|apply ze|apply zf|apply zg);exact BK112.out)):P:=h
theorem jB2{P:Prop}(h:P:=by rw [← hq_];exact jB1):P:=h
theorem jCf{P:Prop}(h:P:=by rw [hg];exact (zB (by repeat (with_reducible first|exact HBW.out|apply za|apply zb|apply zc)))):P:=h
theorem jCb{P:Prop}(h:P:=by have:=HJ2.out;have:=HJ9.out;have:=HJ24.out;have:=HK4.out;have:=HJ61.out;first|omega|exact ye _):P:=h
theorem jCc{P:Prop}(h:P:=by (with_reducible repeat (first|apply zm|apply zn|apply zo));exact zM HO_12.out (fun _ hk=>hk.2)):P:=h
theorem jCd{P:Prop}(h:P:=by (with_reducible repeat (first|apply zm|apply zn|apply zo));exact zM HO655.out (fun _ hk=>hk.2)):P:=h
theorem jBb{P:Prop}(h:P:=by (with_reducible repeat (first|apply zm|apply zn|apply zo));exact zM HO154.out (fun _ hk=>hk.2)):P:=h
theorem jAT{P:Prop}(h:P:=by repeat (first|exact hB72|exact hB75|assumption|exact Below.refl _ _|apply za|apply zc|apply zb)):P:=h
theorem jAN{P:Prop}(h:P:=by first|(rw [zF];exact hn301_3)|(show (Addr.add _ _).block≠_;rw [zF];exact hn301_3)|exact hn301_3):P:=h
theorem jAM{P:Prop}(h:P:=by first|(rw [zF];exact hn301_2)|(show (Addr.add _ _).block≠_;rw [zF];exact hn301_2)|exact hn301_2):P:=h
theorem jAL{P:Prop}(h:P:=by first|(rw [zF];exact hn301_1)|(show (Addr.add _ _).block≠_;rw [zF];exact hn301_1)|exact hn301_1):P:=h
theorem jAK{P:Prop}(h:P:=by first|(rw [zF];exact hn301_0)|(show (Addr.add _ _).block≠_;rw [zF];exact hn301_0)|exact hn301_0):P:=h
theorem jD{P:Prop}(h:P:=by (try simp only [zt,zu,zv]);first|done|rfl|(simp only [zw,zx];rfl)|(simp only [yr,ys,zV,zW];rfl)):P:=h
theorem jC5{P:Prop}(h:P:=by (with_reducible repeat (first|apply zm|apply zn|apply zo));exact zM HO_5.out (fun _ hk=>trivial)):P:=h
theorem jBi{P:Prop}(h:P:=by (with_reducible repeat (first|apply zm|apply zn|apply zo));exact zM HO_4.out (fun _ hk=>trivial)):P:=h
theorem jBk{P:Prop}(h:P:=by (with_reducible repeat (first|apply zm|apply zn|apply zo));exact zM HO_22.out (fun _ hk=>trivial)):P:=h
theorem jg{P:Prop}(h:P:=by repeat (with_reducible first|exact HK.out|apply zr|apply zp|apply zq|refine zs ?_ (.inr GW349.out) _)):P:=h
theorem jAg{P:Prop}(h:P:=by repeat (with_reducible first|exact HB.out|apply za|apply zb|apply zc|refine zd ?_ (IsS89.ge HI0.out))):P:=h
theorem jw{P:Prop}(h:P:=by repeat (with_reducible first|exact HB.out|apply za|apply zb|apply zc|refine zd ?_ (IsS81.ge HI0.out))):P:=h
theorem jAw{P:Prop}(h:P:=by repeat (with_reducible first|exact HB.out|apply za|apply zb|apply zc|refine zd ?_ (IsS81.ge HI546.out))):P:=h
theorem jJ{P:Prop}(h:P:=by repeat (with_reducible first|exact HK.out|apply yl|apply ym|apply yx|apply yn|refine keep_far ?_ GW481.out _)):P:=h
theorem jAx{P:Prop}(h:P:=by repeat (with_reducible first|exact HK.out|apply yl|apply ym|apply yx|apply yn|refine keep_far ?_ GW234.out _)):P:=h
theorem jCp{P:Prop}(h:P:=by first|rfl|(simp [yt,yu] <;> rfl)|(simp only [← hji71];first|rfl|(simp [yt,yu] <;> rfl))|(simp [*,yt,yu] <;> rfl)):P:=h
theorem jCT{P:Prop}(h:P:=by rw [← hq_];exact (by (with_reducible repeat (first|apply zm|apply zn|apply zo));exact zM HO_4.out (fun _ hk=>hk.2))):P:=h
theorem jC9{P:Prop}(h:P:=by repeat (with_reducible first|exact HB.out|apply za|apply zb|apply zc|refine zd ?_ GE910.out|refine zd ?_ GE311.out)):P:=h
theorem jm{P:Prop}(h:P:=by repeat (with_reducible first|exact HB.out|apply za|apply zb|apply zc|refine zd ?_ GE616.out|refine zd ?_ GE621.out)):P:=h
theorem jDC{P:Prop}(h:P:=by repeat (with_reducible first|exact HB.out|apply za|apply zb|apply zc|refine zd ?_ GE566.out|refine zd ?_ GE571.out)):P:=h
theorem jAV{P:Prop}(h:P:=by repeat (with_reducible first|exact HB.out|apply za|apply zb|apply zc|refine zd ?_ GE404.out|refine zd ?_ GE416.out)):P:=h
theorem jBG{P:Prop}(h:P:=by repeat (with_reducible first|exact HB.out|apply za|apply zb|apply zc|refine zd ?_ GE389.out|refine zd ?_ GE394.out)):P:=h
theorem jBP{P:Prop}(h:P:=by repeat (with_reducible first|exact HB.out|apply za|apply zb|apply zc|refine zd ?_ GE342.out|refine zd ?_ GE343.out)):P:=h
theorem jC6{P:Prop}(h:P:=by repeat (with_reducible first|exact HB.out|apply za|apply zb|apply zc|refine zd ?_ GE331.out|refine zd ?_ GE340.out)):P:=h
theorem jd{P:Prop}(h:P:=by repeat (with_reducible first|exact HB.out|apply za|apply zb|apply zc|refine zd ?_ GE316.out|refine zd ?_ GE317.out)):P:=h
theorem jW{P:Prop}(h:P:=by repeat (with_reducible first|exact HB.out|apply za|apply zb|apply zc|refine zd ?_ GE283.out|refine zd ?_ GE296.out)):P:=h
theorem jr{P:Prop}(h:P:=by repeat (with_reducible first|exact HB.out|apply za|apply zb|apply zc|refine zd ?_ GE264.out|refine zd ?_ GE265.out)):P:=h
theorem ju{P:Prop}(h:P:=by repeat (with_reducible first|exact HB.out|apply za|apply zb|apply zc|refine zd ?_ GE251.out|refine zd ?_ GE252.out)):P:=h
theorem jBS{P:Prop}(h:P:=by repeat (with_reducible first|exact HB.out|apply za|apply zb|apply zc|refine zd ?_ GE171.out|refine zd ?_ GE172.out)):P:=h
theorem jo{P:Prop}(h:P:=by repeat (with_reducible first|exact HB.out|apply za|apply zb|apply zc|refine zd ?_ GE111.out|refine zd ?_ GE112.out)):P:=h
theorem jCm{P:Prop}(h:P:=by (try simp only [zt,zu,zv]);first|done|(simp only [hji12];rfl)|rfl|(simp only [zw,zx];rfl)|(simp only [yr,ys,zV,zW];rfl)):P:=h
theorem jDY{P:Prop}(h:P:=by have:=HJ2.out;have:=HJ9.out;have:=HJ24.out;have:=HK4.out;have:=HJ61.out;have:=HJ85.out;have:=HK7.out;first|omega|exact ye _):P:=h
theorem jCE{P:Prop}(h:P:=by repeat (with_reducible first|exact HB.out|apply za|apply zb|apply zc|refine zd ?_ (IsS89.ge HI0.out)|refine zd ?_ GE234.out)):P:=h
theorem jO{P:Prop}(h:P:=by repeat (with_reducible first|exact HB.out|apply za|apply zb|apply zc|refine zd ?_ (IsS81.ge HI0.out)|refine zd ?_ GE481.out)):P:=h
theorem jAP{P:Prop}(h:P:=by repeat (first|exact F1.R_empty_at _ _ _ (by first|(simp;done)|rfl) (by first|exact ye _|(simp;done))|apply zm|apply zo|apply zn)):P:=h
theorem jBn{P:Prop}(h:P:=by first|exact Kd.R_nil _ _ _ _ _|exact Kd.N_nil _ _ _ _ _|exact Kd.V_nil _ _ _ _ _|exact Kd.Q_nil _ _ _ _ _|exact Kd.S_nil _ _ _ _ _):P:=h
theorem jAh{P:Prop}(h:P:=by repeat (with_reducible first|exact HI0.out|apply IsS89.alloc|apply IsS89.drewN|apply IsS89.drew|apply IsS89.set_0|apply IsS89.set_1)):P:=h
theorem jv{P:Prop}(h:P:=by repeat (with_reducible first|exact HI0.out|apply IsS81.alloc|apply IsS81.drewN|apply IsS81.drew|apply IsS81.set_1|apply IsS81.set_2)):P:=h
theorem jBh{P:Prop}(h:P:=by repeat (with_reducible first|exact HI546.out|apply IsS81.alloc|apply IsS81.drewN|apply IsS81.drew|apply IsS81.set_1|apply IsS81.set_2)):P:=h
theorem jAY{P:Prop}(h:P:=by rw [hg];exact (keep_size (w:=w) (g:=g) (row:=none) jT)):P:=h
theorem jCe{P:Prop}(h:P:=by have:=HJ2.out;have:=HJ9.out;have:=HJ24.out;have:=HK4.out;have:=HJ61.out;have:=HJ85.out;have:=HK7.out;have:=HJ101.out;have:=HK9.out;omega):P:=h
theorem jCW{P:Prop}(h:P:=by rw [← hq_];exact jAV):P:=h
theorem jB4{P:Prop}(h:P:=by rw [← hq_];exact jo):P:=h
theorem jDQ{P:Prop}(h:P:=by repeat (with_reducible first|exact HB.out|apply za|apply zb|apply zc|refine zd ?_ GE616.out|refine zd ?_ GE621.out|refine zd ?_ GE642.out)):P:=h
theorem jBK{P:Prop}(h:P:=by repeat (with_reducible first|exact HK.out|apply yl|apply ym|apply yx|apply yn|refine keep_far ?_ GW481.out _|refine keep_far ?_ GW533.out _)):P:=h
theorem jAv{P:Prop}(h:P:=by repeat (with_reducible first|exact HK.out|apply yl|apply ym|apply yx|apply yn|refine keep_far ?_ GW481.out _|refine keep_far ?_ GW503.out _)):P:=h
theorem jAX{P:Prop}(h:P:=by repeat (with_reducible first|exact HK.out|apply yl|apply ym|apply yx|apply yn|refine keep_far ?_ GW234.out _|refine keep_far ?_ GW238.out _)):P:=h
theorem jAz{P:Prop}(h:P:=by repeat (with_reducible first|exact HB.out|apply za|apply zb|apply zc|refine zd ?_ (IsS89.ge HI0.out)|refine zd ?_ GE234.out|refine zd ?_ GE238.out)):P:=h
theorem jBL{P:Prop}(h:P:=by repeat (with_reducible first|exact HB.out|apply za|apply zb|apply zc|refine zd ?_ (IsS81.ge HI0.out)|refine zd ?_ GE481.out|refine zd ?_ GE533.out)):P:=h
theorem jA7{P:Prop}(h:P:=by repeat (with_reducible first|exact HB.out|apply za|apply zb|apply zc|refine zd ?_ (IsS81.ge HI0.out)|refine zd ?_ GE481.out|refine zd ?_ GE503.out)):P:=h
theorem jBy{P:Prop}(h:P:=by (with_reducible repeat first|apply ze|apply zf|apply zg);refine cS4 ?_ NB404_416.out;(with_reducible repeat first|apply ze|apply zf|apply zg);exact BK404.out):P:=h
theorem je{P:Prop}(h:P:=by (with_reducible repeat first|apply ze|apply zf|apply zg);refine cS4 ?_ NB283_296.out;(with_reducible repeat first|apply ze|apply zf|apply zg);exact BK283.out):P:=h
theorem jDW{P:Prop}(h:P:=by (with_reducible repeat first|apply ze|apply zf|apply zg);refine cS3 ?_ NB642_647.out;(with_reducible repeat first|apply ze|apply zf|apply zg);exact BK642.out):P:=h
theorem jDV{P:Prop}(h:P:=by (with_reducible repeat first|apply ze|apply zf|apply zg);refine cS3 ?_ NB621_647.out;(with_reducible repeat first|apply ze|apply zf|apply zg);exact BK621.out):P:=h
theorem jDU{P:Prop}(h:P:=by (with_reducible repeat first|apply ze|apply zf|apply zg);refine cS3 ?_ NB616_647.out;(with_reducible repeat first|apply ze|apply zf|apply zg);exact BK616.out):P:=h
theorem jDL{P:Prop}(h:P:=by (with_reducible repeat first|apply ze|apply zf|apply zg);refine cS3 ?_ NB616_621.out;(with_reducible repeat first|apply ze|apply zf|apply zg);exact BK616.out):P:=h
theorem jC2{P:Prop}(h:P:=by (with_reducible repeat first|apply ze|apply zf|apply zg);refine cS3 ?_ NB481_533.out;(with_reducible repeat first|apply ze|apply zf|apply zg);exact BK481.out):P:=h
theorem jCv{P:Prop}(h:P:=by (with_reducible repeat first|apply ze|apply zf|apply zg);refine cS3 ?_ NB481_503.out;(with_reducible repeat first|apply ze|apply zf|apply zg);exact BK481.out):P:=h
theorem jBM{P:Prop}(h:P:=by (with_reducible repeat first|apply ze|apply zf|apply zg);refine cS3 ?_ NB234_238.out;(with_reducible repeat first|apply ze|apply zf|apply zg);exact BK234.out):P:=h
theorem jA1{P:Prop}(h:P:=by (with_reducible repeat first|apply ze|apply zf|apply zg);refine cS3 ?_ NB111_112.out;(with_reducible repeat first|apply ze|apply zf|apply zg);exact BK111.out):P:=h
theorem jBA{P:Prop}(h:P:=by rw [hg];exact (by first|exact HK.out.1|exact (show Kept w _ (fun k_=>P0_ k_) from by repeat (with_reducible first|exact HK.out|apply zr|apply zp|apply zq)).1)):P:=h
theorem jB5{P:Prop}(h:P:=by (with_reducible repeat first|apply ze|apply zf|apply zg);refine zS ?_ NB111_112.out _;(with_reducible repeat first|apply ze|apply zf|apply zg);exact BK111.out):P:=h
theorem jt{P:Prop}(h:P:=by repeat (with_reducible first|exact HB.out|apply za|apply zb|apply zc|refine zd ?_ GE616.out|refine zd ?_ GE621.out|refine zd ?_ GE642.out|refine zd ?_ GE647.out)):P:=h
theorem jAf{P:Prop}(h:P:=by rw [hg];exact (keep_size (w:=w) (g:=g) (row:=none) jJ)):P:=h
theorem jA8{P:Prop}(h:P:=by rw [hg];exact (keep_size (w:=w) (g:=g) (row:=none) jAx)):P:=h
theorem jCI{P:Prop}(h:P:=by repeat (with_reducible first|exact HI0.out|apply IsS89.alloc|apply IsS89.drewN|apply IsS89.drew|apply IsS89.set_0|apply IsS89.set_1|refine IsS89.far ?_ NB0_234.out _)):P:=h
theorem jP{P:Prop}(h:P:=by repeat (with_reducible first|exact HI0.out|apply IsS81.alloc|apply IsS81.drewN|apply IsS81.drew|apply IsS81.set_1|apply IsS81.set_2|refine IsS81.far ?_ NB0_481.out _)):P:=h
theorem jp{P:Prop}(h:P:=by first|exact HK.out.1|exact (show Kept w _ (fun k_=>P0_ k_) from by repeat (with_reducible first|exact HK.out|apply zr|apply zp|apply zq|refine zs ?_ (.inr GW349.out) _)).1):P:=h
theorem jDR{P:Prop}(h:P:=by rw [hg];exact yc (yi (g:=gb642) (o:=.cells #[.int .i64 t638,.int .i64 t639,.string t640] 25 (0,0)) jz)):P:=h
theorem jCZ{P:Prop}(h:P:=by rw [hg];exact yc (yi (g:=gb621) (o:=.cells #[.int .i64 t617,.int .i64 t618,.string t619] 25 (0,0)) jV)):P:=h
theorem jB0{P:Prop}(h:P:=by rw [hg];exact yc (yi (g:=gb616) (o:=.cells #[.int .i64 t612,.int .i64 t613,.string t614] 25 (0,0)) jU)):P:=h
theorem jCO{P:Prop}(h:P:=by rw [hg];exact yc (yi (g:=gb342) (o:=.cells #[.int .i64 a0_0,.int .i64 a0_1,.string a0_2] 25 (0,0)) jA9)):P:=h
theorem jAm{P:Prop}(h:P:=by rw [hg];exact yc (yi (g:=gb316) (o:=.cells #[.int .i64 a0_0,.int .i64 a0_1,.string a0_2] 25 (0,0)) jl)):P:=h
theorem jAF{P:Prop}(h:P:=by rw [hg];exact yc (yi (g:=gb283) (o:=.cells #[.int .i64 a0_0,.int .i64 a0_1,.string a0_2] 25 (0,0)) jR)):P:=h
theorem jCM{P:Prop}(h:P:=by rw [hg];exact yc (yi (g:=gb264) (o:=.cells #[.int .i64 a0_0,.int .i64 a0_1,.string a0_2] 25 (0,0)) jh)):P:=h
theorem jCK{P:Prop}(h:P:=by rw [hg];exact yc (yi (g:=gb251) (o:=.cells #[.int .i64 a0_0,.int .i64 a0_1,.string a0_2] 25 (0,0)) jn)):P:=h
theorem jCR{P:Prop}(h:P:=by rw [hg];exact yc (yi (g:=gb171) (o:=.cells #[.int .i64 a0_0,.int .i64 a0_1,.string a0_2] 25 (0,0)) jBE)):P:=h
theorem jBf{P:Prop}(h:P:=by rw [hg];exact yc (yi (g:=gb481) (o:=.cells #[.int .i64 0,.int .i64 0,.string (⟨#[]⟩ : ByteArray)] 25 (0,0)) jL)):P:=h
theorem jCF{P:Prop}(h:P:=by rw [hg];exact yc (yi (g:=gb234) (o:=.cells #[.int .i64 0,.int .i64 0,.string (⟨#[]⟩ : ByteArray)] 25 (0,0)) jAc)):P:=h
theorem jBx{P:Prop}(h:P:=by rw [hg];exact yc (yi (g:=gb404) (o:=.cells #[.int .i64 x405000_1,.int .i64 x405001_1,.string x405002_1] 25 (0,0)) jy)):P:=h
theorem jCD{P:Prop}(h:P:=by rw [hg];exact yd (IsS89.lt (show IsS89 w0 _ g s0_0 s0_1 from by repeat (with_reducible first|exact HI0.out|apply IsS89.alloc|apply IsS89.drewN|apply IsS89.drew|apply IsS89.set_0|apply IsS89.set_1)))):P:=h
theorem jCC{P:Prop}(h:P:=by rw [hg];exact yc (IsS89.lt (show IsS89 w0 _ g s0_0 s0_1 from by repeat (with_reducible first|exact HI0.out|apply IsS89.alloc|apply IsS89.drewN|apply IsS89.drew|apply IsS89.set_0|apply IsS89.set_1)))):P:=h
theorem jAy{P:Prop}(h:P:=by repeat (with_reducible first|exact HI0.out|apply IsS89.alloc|apply IsS89.drewN|apply IsS89.drew|apply IsS89.set_0|apply IsS89.set_1|refine IsS89.far ?_ NB0_234.out _|refine IsS89.far ?_ NB0_238.out _)):P:=h
theorem jCB{P:Prop}(h:P:=by repeat (with_reducible first|exact HI0.out|apply IsS81.alloc|apply IsS81.drewN|apply IsS81.drew|apply IsS81.set_1|apply IsS81.set_2|refine IsS81.far ?_ NB0_481.out _|refine IsS81.far ?_ NB0_533.out _)):P:=h
theorem jBg{P:Prop}(h:P:=by repeat (with_reducible first|exact HI0.out|apply IsS81.alloc|apply IsS81.drewN|apply IsS81.drew|apply IsS81.set_1|apply IsS81.set_2|refine IsS81.far ?_ NB0_481.out _|refine IsS81.far ?_ NB0_503.out _)):P:=h
theorem jCr{P:Prop}(h:P:=by rw [hg];exact yd (IsS81.lt (show IsS81 w0 _ g s0_0 s0_1 s0_2 from by repeat (with_reducible first|exact HI0.out|apply IsS81.alloc|apply IsS81.drewN|apply IsS81.drew|apply IsS81.set_1|apply IsS81.set_2)))):P:=h
theorem jCq{P:Prop}(h:P:=by rw [hg];exact yc (IsS81.lt (show IsS81 w0 _ g s0_0 s0_1 s0_2 from by repeat (with_reducible first|exact HI0.out|apply IsS81.alloc|apply IsS81.drewN|apply IsS81.drew|apply IsS81.set_1|apply IsS81.set_2)))):P:=h
theorem jCk{P:Prop}(h:P:=by (with_reducible repeat first|apply ze|apply zf|apply zg);refine zL (cs:=#[.int .i64 (wrap64 (bt a0 0)),.int .i64 0,.string x113002_6]) ?_ 1 _ rfl;(with_reducible repeat first|apply ze|apply zf|apply zg);exact BK112.out):P:=h
theorem jCH{P:Prop}(h:P:=by rw [hg];exact yd (IsS89.lt (show IsS89 w0 _ g t236 t237 from by repeat (with_reducible first|exact HI0.out|apply IsS89.alloc|apply IsS89.drewN|apply IsS89.drew|apply IsS89.set_0|apply IsS89.set_1|refine IsS89.far ?_ NB0_234.out _)))):P:=h
theorem jCG{P:Prop}(h:P:=by rw [hg];exact yc (IsS89.lt (show IsS89 w0 _ g t236 t237 from by repeat (with_reducible first|exact HI0.out|apply IsS89.alloc|apply IsS89.drewN|apply IsS89.drew|apply IsS89.set_0|apply IsS89.set_1|refine IsS89.far ?_ NB0_234.out _)))):P:=h
theorem jC0{P:Prop}(h:P:=by rw [hg];exact yd (IsS81.lt (show IsS81 w0 _ g s0_0 x1001_3 x1002_3 from by repeat (with_reducible first|exact HI0.out|apply IsS81.alloc|apply IsS81.drewN|apply IsS81.drew|apply IsS81.set_1|apply IsS81.set_2|refine IsS81.far ?_ NB0_481.out _)))):P:=h
theorem jCt{P:Prop}(h:P:=by rw [hg];exact yd (IsS81.lt (show IsS81 w0 _ g s0_0 x1001_1 x1002_1 from by repeat (with_reducible first|exact HI0.out|apply IsS81.alloc|apply IsS81.drewN|apply IsS81.drew|apply IsS81.set_1|apply IsS81.set_2|refine IsS81.far ?_ NB0_481.out _)))):P:=h
theorem jCz{P:Prop}(h:P:=by rw [hg];exact yc (IsS81.lt (show IsS81 w0 _ g s0_0 x1001_3 x1002_3 from by repeat (with_reducible first|exact HI0.out|apply IsS81.alloc|apply IsS81.drewN|apply IsS81.drew|apply IsS81.set_1|apply IsS81.set_2|refine IsS81.far ?_ NB0_481.out _)))):P:=h
theorem jCs{P:Prop}(h:P:=by rw [hg];exact yc (IsS81.lt (show IsS81 w0 _ g s0_0 x1001_1 x1002_1 from by repeat (with_reducible first|exact HI0.out|apply IsS81.alloc|apply IsS81.drewN|apply IsS81.drew|apply IsS81.set_1|apply IsS81.set_2|refine IsS81.far ?_ NB0_481.out _)))):P:=h
theorem jCu{P:Prop}(h:P:=by (with_reducible repeat (first|apply zm|apply zn|apply zo));exact (zM (zE (p:=⟨gb503,2,none⟩) (zE (p:=⟨gb503,1,none⟩) (zE (p:=⟨gb503,0,none⟩) (yf HO_5.out BK503.out jB) (fun _ hk=>hk.2) (.int .i64 t500)) (fun _ hk=>hk.2) (.int .i64 t501)) (fun _ hk=>hk.2) (.string t502)) (fun _ h_=>h_.1))):P:=h
theorem jCo{P:Prop}(h:P:=by (with_reducible repeat (first|apply zm|apply zn|apply zo));exact (zM (zE (p:=⟨gb141,2,none⟩) (zE (p:=⟨gb141,1,none⟩) (zE (p:=⟨gb141,0,none⟩) (yf HO_4.out BK141.out jB) (fun _ hk=>hk.2) (.int .i64 t136)) (fun _ hk=>hk.2) (.int .i64 t137)) (fun _ hk=>hk.2) (.string t138)) (fun _ h_=>h_.1))):P:=h
theorem jDP{P:Prop}(h:P:=by (with_reducible repeat (first|apply zm|apply zn|apply zo));exact (zM (zE (p:=⟨gb642,2,none⟩) (zE (p:=⟨gb642,1,none⟩) (zE (p:=⟨gb642,0,none⟩) (yf HO_12.out BK642.out jB) (fun _ hk=>hk.2) (.int .i64 t638)) (fun _ hk=>hk.2) (.int .i64 t639)) (fun _ hk=>hk.2) (.string t640)) (fun _ h_=>h_.1))):P:=h
theorem jDT{P:Prop}(h:P:=by (with_reducible repeat (first|apply zm|apply zn|apply zo));exact zM (zE (p:=⟨gb647,2,none⟩) (zE (p:=⟨gb647,1,none⟩) (zE (p:=⟨gb647,0,none⟩) (yf HO_12.out BK647.out jB) (fun _ hk=>hk.2) (.int .i64 t643)) (fun _ hk=>hk.2) (.int .i64 t644)) (fun _ hk=>hk.2) (.string t645)) (fun _ hk=>trivial)):P:=h
theorem jC1{P:Prop}(h:P:=by (with_reducible repeat (first|apply zm|apply zn|apply zo));exact (zM (zE (p:=⟨gb533,2,none⟩) (zE (p:=⟨gb533,1,none⟩) (zE (p:=⟨gb533,0,none⟩) (zM HO_6.out (fun k_ hk=>(⟨hk,hk.2⟩ : _∧k_≠gb533))) (fun _ hk=>hk.2) (.int .i64 t530)) (fun _ hk=>hk.2) (.int .i64 t531)) (fun _ hk=>hk.2) (.string t532)) (fun _ h_=>h_.1))):P:=h
theorem jCl{P:Prop}(h:P:=by (with_reducible repeat (first|apply zm|apply zn|apply zo));exact (zM (zE (p:=⟨gb123,2,none⟩) (zE (p:=⟨gb123,1,none⟩) (zE (p:=⟨gb123,0,none⟩) (zM HO_4.out (fun k_ hk=>(⟨hk,hk.2⟩ : _∧k_≠gb123))) (fun _ hk=>hk.2) (.int .i64 t118)) (fun _ hk=>hk.2) (.int .i64 t119)) (fun _ hk=>hk.2) (.string t120)) (fun _ h_=>h_.1))):P:=h
theorem jDI{P:Prop}(h:P:=by (with_reducible repeat (first|apply zm|apply zn|apply zo));exact (zM (zE (p:=⟨gb616,2,none⟩) (zE (p:=⟨gb616,1,none⟩) (zE (p:=⟨gb616,0,none⟩) (zM HO611.out (fun k_ hk=>(⟨hk,hk.2⟩ : _∧k_≠gb616))) (fun _ hk=>hk.2) (.int .i64 t612)) (fun _ hk=>hk.2) (.int .i64 t613)) (fun _ hk=>hk.2) (.string t614)) (fun _ h_=>h_.1))):P:=h
theorem jDK{P:Prop}(h:P:=by (with_reducible repeat (first|apply zm|apply zn|apply zo));exact zM (zE (p:=⟨gb621,2,none⟩) (zE (p:=⟨gb621,1,none⟩) (zE (p:=⟨gb621,0,none⟩) (zM HO611.out (fun k_ hk=>(⟨hk,hk.2⟩ : _∧k_≠gb621))) (fun _ hk=>hk.2) (.int .i64 t617)) (fun _ hk=>hk.2) (.int .i64 t618)) (fun _ hk=>hk.2) (.string t619)) (fun _ hk=>⟨hk.1.1.2,hk.1.2⟩)):P:=h
theorem jAG{P:Prop}(h:P:=by (with_reducible repeat (first|apply zm|apply zn|apply zo));exact zM (zE (p:=⟨gb296,3,none⟩) (zE (p:=⟨gb296,2,none⟩) (zE (p:=⟨gb296,1,none⟩) (zE (p:=⟨gb296,0,none⟩) (yf HO_6.out BK296.out jB) (fun _ hk=>hk.2) (.string ((rd_T43 t288 x24_1).f0))) (fun _ hk=>hk.2) (.int .i64 ((rd_T43 t288 x24_1).f1.f0))) (fun _ hk=>hk.2) (.int .i64 ((rd_T43 t288 x24_1).f1.f1))) (fun _ hk=>hk.2) (.string ((rd_T43 t288 x24_1).f1.f2))) (fun _ hk=>hk.1)):P:=h
theorem jf{P:Prop}(h:P:=by (with_reducible repeat (first|apply zm|apply zn|apply zo));exact (zM (zE (p:=⟨gb296,3,none⟩) (zE (p:=⟨gb296,2,none⟩) (zE (p:=⟨gb296,1,none⟩) (zE (p:=⟨gb296,0,none⟩) (yf HO_6.out BK296.out jB) (fun _ hk=>hk.2) (.string ((rd_T43 t288 x24_1).f0))) (fun _ hk=>hk.2) (.int .i64 ((rd_T43 t288 x24_1).f1.f0))) (fun _ hk=>hk.2) (.int .i64 ((rd_T43 t288 x24_1).f1.f1))) (fun _ hk=>hk.2) (.string ((rd_T43 t288 x24_1).f1.f2))) (fun _ h_=>h_.1))):P:=h
theorem jAs{P:Prop}(h:P:=by (with_reducible repeat (first|apply zm|apply zn|apply zo));exact (zM (zE (p:=⟨gb416,3,none⟩) (zE (p:=⟨gb416,2,none⟩) (zE (p:=⟨gb416,1,none⟩) (zE (p:=⟨gb416,0,none⟩) (zM HO_4.out (fun k_ hk=>(⟨hk,hk.2⟩ : _∧k_≠gb416))) (fun _ hk=>hk.2) (.string ((rd_T43 l0 x22_1).f0))) (fun _ hk=>hk.2) (.int .i64 ((rd_T43 l0 x22_1).f1.f0))) (fun _ hk=>hk.2) (.int .i64 ((rd_T43 l0 x22_1).f1.f1))) (fun _ hk=>hk.2) (.string ((rd_T43 l0 x22_1).f1.f2))) (fun _ h_=>h_.1))):P:=h
theorem jAH{P:Prop}(h:P:=by (with_reducible repeat (first|apply zm|apply zn|apply zo));exact (zM (zE (p:=⟨gb296,3,none⟩) (zE (p:=⟨gb296,2,none⟩) (zE (p:=⟨gb296,1,none⟩) (zE (p:=⟨gb296,0,none⟩) (zM HO_4.out (fun k_ hk=>(⟨hk,hk.2⟩ : _∧k_≠gb296))) (fun _ hk=>hk.2) (.string ((rd_T43 t288 x24_1).f0))) (fun _ hk=>hk.2) (.int .i64 ((rd_T43 t288 x24_1).f1.f0))) (fun _ hk=>hk.2) (.int .i64 ((rd_T43 t288 x24_1).f1.f1))) (fun _ hk=>hk.2) (.string ((rd_T43 t288 x24_1).f1.f2))) (fun _ h_=>h_.1))):P:=h
theorem jAI{P:Prop}(h:P:=by (with_reducible repeat (first|apply zm|apply zn|apply zo));exact (zM (zE (p:=⟨gb296,3,none⟩) (zE (p:=⟨gb296,2,none⟩) (zE (p:=⟨gb296,1,none⟩) (zE (p:=⟨gb296,0,none⟩) (zM HO_22.out (fun k_ hk=>(⟨hk,hk.2⟩ : _∧k_≠gb296))) (fun _ hk=>hk.2) (.string ((rd_T43 t288 x24_1).f0))) (fun _ hk=>hk.2) (.int .i64 ((rd_T43 t288 x24_1).f1.f0))) (fun _ hk=>hk.2) (.int .i64 ((rd_T43 t288 x24_1).f1.f1))) (fun _ hk=>hk.2) (.string ((rd_T43 t288 x24_1).f1.f2))) (fun _ h_=>h_.1))):P:=h
theorem jCX{P:Prop}(h:P:=by (with_reducible repeat first|apply ze|apply zf|apply zg);refine zL (cs:=#[.int .i64 0,.int .i64 0,.string x405002_1]) ?_ 2 _ rfl;(with_reducible repeat first|apply ze|apply zf|apply zg);refine zL (cs:=#[.int .i64 0,.int .i64 x405001_1,.string x405002_1]) ?_ 1 _ rfl;(with_reducible repeat first|apply ze|apply zf|apply zg);refine zL (cs:=#[.int .i64 x405000_1,.int .i64 x405001_1,.string x405002_1]) ?_ 0 _ rfl;(with_reducible repeat first|apply ze|apply zf|apply zg);exact BK404.out):P:=h
theorem jCi{P:Prop}(h:P:=by (with_reducible repeat first|apply ze|apply zf|apply zg);refine zL (cs:=#[.int .i64 0,.int .i64 0,.string x112002_6]) ?_ 2 _ rfl;(with_reducible repeat first|apply ze|apply zf|apply zg);refine zL (cs:=#[.int .i64 0,.int .i64 x112001_6,.string x112002_6]) ?_ 1 _ rfl;(with_reducible repeat first|apply ze|apply zf|apply zg);refine zL (cs:=#[.int .i64 x112000_6,.int .i64 x112001_6,.string x112002_6]) ?_ 0 _ rfl;(with_reducible repeat first|apply ze|apply zf|apply zg);exact BK111.out):P:=h
theorem jDF{P:Prop}(h:P:=by (with_reducible repeat first|apply ze|apply zf|apply zg);refine zL (cs:=#[.int .i64 0,.int .i64 0,.string (⟨#[]⟩ : ByteArray)]) ?_ 2 _ rfl;(with_reducible repeat first|apply ze|apply zf|apply zg);refine zL (cs:=#[.int .i64 0,.int .i64 0,.string (⟨#[]⟩ : ByteArray)]) ?_ 1 _ rfl;(with_reducible repeat first|apply ze|apply zf|apply zg);refine zL (cs:=#[.int .i64 0,.int .i64 0,.string (⟨#[]⟩ : ByteArray)]) ?_ 0 _ rfl;(with_reducible repeat first|apply ze|apply zf|apply zg);exact BK584.out):P:=h
theorem jCP{P:Prop}(h:P:=by (with_reducible repeat first|apply ze|apply zf|apply zg);refine zL (cs:=#[.int .i64 0,.int .i64 0,.string (⟨#[]⟩ : ByteArray)]) ?_ 2 _ rfl;(with_reducible repeat first|apply ze|apply zf|apply zg);refine zL (cs:=#[.int .i64 0,.int .i64 0,.string (⟨#[]⟩ : ByteArray)]) ?_ 1 _ rfl;(with_reducible repeat first|apply ze|apply zf|apply zg);refine zL (cs:=#[.int .i64 0,.int .i64 0,.string (⟨#[]⟩ : ByteArray)]) ?_ 0 _ rfl;(with_reducible repeat first|apply ze|apply zf|apply zg);exact BK575.out):P:=h
theorem jDH{P:Prop}(h:P:=by (with_reducible repeat first|apply ze|apply zf|apply zg);refine zL (cs:=#[.int .i64 0,.int .i64 0,.string (⟨#[]⟩ : ByteArray)]) ?_ 2 _ rfl;(with_reducible repeat first|apply ze|apply zf|apply zg);refine zL (cs:=#[.int .i64 0,.int .i64 0,.string (⟨#[]⟩ : ByteArray)]) ?_ 1 _ rfl;(with_reducible repeat first|apply ze|apply zf|apply zg);refine zL (cs:=#[.int .i64 0,.int .i64 0,.string (⟨#[]⟩ : ByteArray)]) ?_ 0 _ rfl;(with_reducible repeat first|apply ze|apply zf|apply zg);exact BK404.out):P:=h
theorem jC7{P:Prop}(h:P:=by (with_reducible repeat first|apply ze|apply zf|apply zg);refine zL (cs:=#[.int .i64 0,.int .i64 0,.string (⟨#[]⟩ : ByteArray)]) ?_ 2 _ rfl;(with_reducible repeat first|apply ze|apply zf|apply zg);refine zL (cs:=#[.int .i64 0,.int .i64 0,.string (⟨#[]⟩ : ByteArray)]) ?_ 1 _ rfl;(with_reducible repeat first|apply ze|apply zf|apply zg);refine zL (cs:=#[.int .i64 0,.int .i64 0,.string (⟨#[]⟩ : ByteArray)]) ?_ 0 _ rfl;(with_reducible repeat first|apply ze|apply zf|apply zg);exact BK343.out):P:=h
theorem jDD{P:Prop}(h:P:=by (with_reducible repeat first|apply ze|apply zf|apply zg);refine zL (cs:=#[.int .i64 0,.int .i64 0,.string (⟨#[]⟩ : ByteArray)]) ?_ 2 _ rfl;(with_reducible repeat first|apply ze|apply zf|apply zg);refine zL (cs:=#[.int .i64 0,.int .i64 0,.string (⟨#[]⟩ : ByteArray)]) ?_ 1 _ rfl;(with_reducible repeat first|apply ze|apply zf|apply zg);refine zL (cs:=#[.int .i64 0,.int .i64 0,.string (⟨#[]⟩ : ByteArray)]) ?_ 0 _ rfl;(with_reducible repeat first|apply ze|apply zf|apply zg);exact BK172.out):P:=h
theorem jBY{P:Prop}(h:P:=by (with_reducible repeat first|apply ze|apply zf|apply zg);refine zL (cs:=#[.int .i64 0,.int .i64 0,.string (⟨#[]⟩ : ByteArray)]) ?_ 2 _ rfl;(with_reducible repeat first|apply ze|apply zf|apply zg);refine zL (cs:=#[.int .i64 0,.int .i64 0,.string (⟨#[]⟩ : ByteArray)]) ?_ 1 _ rfl;(with_reducible repeat first|apply ze|apply zf|apply zg);refine zL (cs:=#[.int .i64 0,.int .i64 0,.string (⟨#[]⟩ : ByteArray)]) ?_ 0 _ rfl;(with_reducible repeat first|apply ze|apply zf|apply zg);exact BK111.out):P:=h
theorem jBN{P:Prop}(h:P:=by (with_reducible repeat first|apply ze|apply zf|apply zg);refine zL (cs:=#[.int .i64 t235,.int .i64 0,.string (⟨#[]⟩ : ByteArray)]) ?_ 2 _ rfl;(with_reducible repeat first|apply ze|apply zf|apply zg);refine zL (cs:=#[.int .i64 t235,.int .i64 0,.string (⟨#[]⟩ : ByteArray)]) ?_ 1 _ rfl;(with_reducible repeat first|apply ze|apply zf|apply zg);refine zL (cs:=#[.int .i64 0,.int .i64 0,.string (⟨#[]⟩ : ByteArray)]) ?_ 0 _ rfl;(with_reducible repeat first|apply ze|apply zf|apply zg);exact BK238.out):P:=h
theorem jDX{P:Prop}(h:P:=by (with_reducible repeat first|apply ze|apply zf|apply zg);refine zL (cs:=#[.int .i64 t643,.int .i64 t644,.string (⟨#[]⟩ : ByteArray)]) ?_ 2 _ rfl;(with_reducible repeat first|apply ze|apply zf|apply zg);refine zL (cs:=#[.int .i64 t643,.int .i64 0,.string (⟨#[]⟩ : ByteArray)]) ?_ 1 _ rfl;(with_reducible repeat first|apply ze|apply zf|apply zg);refine zL (cs:=#[.int .i64 0,.int .i64 0,.string (⟨#[]⟩ : ByteArray)]) ?_ 0 _ rfl;(with_reducible repeat first|apply ze|apply zf|apply zg);exact BK647.out):P:=h
theorem jDM{P:Prop}(h:P:=by (with_reducible repeat first|apply ze|apply zf|apply zg);refine zL (cs:=#[.int .i64 t617,.int .i64 t618,.string (⟨#[]⟩ : ByteArray)]) ?_ 2 _ rfl;(with_reducible repeat first|apply ze|apply zf|apply zg);refine zL (cs:=#[.int .i64 t617,.int .i64 0,.string (⟨#[]⟩ : ByteArray)]) ?_ 1 _ rfl;(with_reducible repeat first|apply ze|apply zf|apply zg);refine zL (cs:=#[.int .i64 0,.int .i64 0,.string (⟨#[]⟩ : ByteArray)]) ?_ 0 _ rfl;(with_reducible repeat first|apply ze|apply zf|apply zg);exact BK621.out):P:=h
theorem jC3{P:Prop}(h:P:=by (with_reducible repeat first|apply ze|apply zf|apply zg);refine zL (cs:=#[.int .i64 t530,.int .i64 t531,.string (⟨#[]⟩ : ByteArray)]) ?_ 2 _ rfl;(with_reducible repeat first|apply ze|apply zf|apply zg);refine zL (cs:=#[.int .i64 t530,.int .i64 0,.string (⟨#[]⟩ : ByteArray)]) ?_ 1 _ rfl;(with_reducible repeat first|apply ze|apply zf|apply zg);refine zL (cs:=#[.int .i64 0,.int .i64 0,.string (⟨#[]⟩ : ByteArray)]) ?_ 0 _ rfl;(with_reducible repeat first|apply ze|apply zf|apply zg);exact BK533.out):P:=h
theorem jCw{P:Prop}(h:P:=by (with_reducible repeat first|apply ze|apply zf|apply zg);refine zL (cs:=#[.int .i64 t500,.int .i64 t501,.string (⟨#[]⟩ : ByteArray)]) ?_ 2 _ rfl;(with_reducible repeat first|apply ze|apply zf|apply zg);refine zL (cs:=#[.int .i64 t500,.int .i64 0,.string (⟨#[]⟩ : ByteArray)]) ?_ 1 _ rfl;(with_reducible repeat first|apply ze|apply zf|apply zg);refine zL (cs:=#[.int .i64 0,.int .i64 0,.string (⟨#[]⟩ : ByteArray)]) ?_ 0 _ rfl;(with_reducible repeat first|apply ze|apply zf|apply zg);exact BK503.out):P:=h
theorem jCn{P:Prop}(h:P:=by (with_reducible repeat first|apply ze|apply zf|apply zg);refine zL (cs:=#[.int .i64 t136,.int .i64 t137,.string (⟨#[]⟩ : ByteArray)]) ?_ 2 _ rfl;(with_reducible repeat first|apply ze|apply zf|apply zg);refine zL (cs:=#[.int .i64 t136,.int .i64 0,.string (⟨#[]⟩ : ByteArray)]) ?_ 1 _ rfl;(with_reducible repeat first|apply ze|apply zf|apply zg);refine zL (cs:=#[.int .i64 0,.int .i64 0,.string (⟨#[]⟩ : ByteArray)]) ?_ 0 _ rfl;(with_reducible repeat first|apply ze|apply zf|apply zg);exact BK141.out):P:=h
theorem jBZ{P:Prop}(h:P:=by (with_reducible repeat first|apply ze|apply zf|apply zg);refine zL (cs:=#[.int .i64 t118,.int .i64 t119,.string (⟨#[]⟩ : ByteArray)]) ?_ 2 _ rfl;(with_reducible repeat first|apply ze|apply zf|apply zg);refine zL (cs:=#[.int .i64 t118,.int .i64 0,.string (⟨#[]⟩ : ByteArray)]) ?_ 1 _ rfl;(with_reducible repeat first|apply ze|apply zf|apply zg);refine zL (cs:=#[.int .i64 0,.int .i64 0,.string (⟨#[]⟩ : ByteArray)]) ?_ 0 _ rfl;(with_reducible repeat first|apply ze|apply zf|apply zg);exact BK123.out):P:=h
theorem jA2{P:Prop}(h:P:=by (with_reducible repeat first|apply ze|apply zf|apply zg);refine zL (cs:=#[.int .i64 (wrap64 (bt a0 0)),.int .i64 0,.string (⟨#[]⟩ : ByteArray)]) ?_ 2 _ rfl;(with_reducible repeat first|apply ze|apply zf|apply zg);refine zL (cs:=#[.int .i64 (wrap64 (bt a0 0)),.int .i64 0,.string (⟨#[]⟩ : ByteArray)]) ?_ 1 _ rfl;(with_reducible repeat first|apply ze|apply zf|apply zg);refine zL (cs:=#[.int .i64 0,.int .i64 0,.string (⟨#[]⟩ : ByteArray)]) ?_ 0 _ rfl;(with_reducible repeat first|apply ze|apply zf|apply zg);exact BK112.out):P:=h
theorem jCh{P:Prop}(h:P:=by (with_reducible repeat first|apply ze|apply zf|apply zg);refine zL (cs:=#[.int .i64 (wrap64 (bt a0 0)),.int .i64 0,.string (⟨#[]⟩ : ByteArray)]) ?_ 2 _ rfl;(with_reducible repeat first|apply ze|apply zf|apply zg);refine zL (cs:=#[.int .i64 (wrap64 (bt a0 0)),.int .i64 0,.string (⟨#[]⟩ : ByteArray)]) ?_ 1 _ rfl;(with_reducible repeat first|apply ze|apply zf|apply zg);refine zL (cs:=#[.int .i64 0,.int .i64 0,.string (⟨#[]⟩ : ByteArray)]) ?_ 0 _ rfl;(with_reducible repeat first|apply ze|apply zf|apply zg);exact BK111.out):P:=h
theorem jBz{P:Prop}(h:P:=by (with_reducible repeat first|apply ze|apply zf|apply zg);refine zL (cs:=#[.string ((rd_T43 l0 x22_1).f0),.int .i64 ((rd_T43 l0 x22_1).f1.f0),.int .i64 ((rd_T43 l0 x22_1).f1.f1),.string (⟨#[]⟩ : ByteArray)]) ?_ 3 _ rfl;(with_reducible repeat first|apply ze|apply zf|apply zg);refine zL (cs:=#[.string ((rd_T43 l0 x22_1).f0),.int .i64 ((rd_T43 l0 x22_1).f1.f0),.int .i64 0,.string (⟨#[]⟩ : ByteArray)]) ?_ 2 _ rfl;(with_reducible repeat first|apply ze|apply zf|apply zg);refine zL (cs:=#[.string ((rd_T43 l0 x22_1).f0),.int .i64 0,.int .i64 0,.string (⟨#[]⟩ : ByteArray)]) ?_ 1 _ rfl;(with_reducible repeat first|apply ze|apply zf|apply zg);refine zL (cs:=#[.string (⟨#[]⟩ : ByteArray),.int .i64 0,.int .i64 0,.string (⟨#[]⟩ : ByteArray)]) ?_ 0 _ rfl;(with_reducible repeat first|apply ze|apply zf|apply zg);exact BK416.out):P:=h
theorem jAJ{P:Prop}(h:P:=by (with_reducible repeat first|apply ze|apply zf|apply zg);refine zL (cs:=#[.string ((rd_T43 t288 x24_1).f0),.int .i64 ((rd_T43 t288 x24_1).f1.f0),.int .i64 ((rd_T43 t288 x24_1).f1.f1),.string (⟨#[]⟩ : ByteArray)]) ?_ 3 _ rfl;(with_reducible repeat first|apply ze|apply zf|apply zg);refine zL (cs:=#[.string ((rd_T43 t288 x24_1).f0),.int .i64 ((rd_T43 t288 x24_1).f1.f0),.int .i64 0,.string (⟨#[]⟩ : ByteArray)]) ?_ 2 _ rfl;(with_reducible repeat first|apply ze|apply zf|apply zg);refine zL (cs:=#[.string ((rd_T43 t288 x24_1).f0),.int .i64 0,.int .i64 0,.string (⟨#[]⟩ : ByteArray)]) ?_ 1 _ rfl;(with_reducible repeat first|apply ze|apply zf|apply zg);refine zL (cs:=#[.string (⟨#[]⟩ : ByteArray),.int .i64 0,.int .i64 0,.string (⟨#[]⟩ : ByteArray)]) ?_ 0 _ rfl;(with_reducible repeat first|apply ze|apply zf|apply zg);exact BK296.out):P:=h

def IsS81 (w0 W : World) (g : Nat) (f0 : List Int) (f1 : Int) (f2 : Int) : Prop:=∃ A0 c0,W.heap[g]? = some (.cells #[.slice A0 f0.length c0,.int .i64 f1,.int .i64 f2] 81 (0,0))∧w0.heap.size≤g∧Kd.C (Kd.int .u8) w0 A0 f0.length f0
theorem IsS81.grown {w0 W : World} {g : Nat} {f0 : List Int} {f1 : Int} {f2 : Int} {W1 : World} {row : Option Nat} (h : IsS81 w0 W g f0 f1 f2) (hw : W.grownBy W1 row) (hne : some g≠row) : IsS81 w0 W1 g f0 f1 f2:=by
 obtain ⟨A0,c0,hb,hg,hr0⟩:=h;exact ⟨A0,c0,yw hb hw hne,hg,hr0⟩
theorem IsS81.fresh {w0 W : World} {g : Nat} {f0 : List Int} {f1 : Int} {f2 : Int} (h : IsS81 w0 W g f0 f1 f2) : ∀ k,W.heap.size≤k→k≠g:=by
 obtain ⟨A0,c0,hb,hg,hr0⟩:=h;exact Kd.freshB hb
theorem IsS81.kept {w0 W : World} {g : Nat} {f0 : List Int} {f1 : Int} {f2 : Int} {W1 : World} {S : Nat→Prop} (h : IsS81 w0 W g f0 f1 f2) (hk : Kept W W1 S) (hne : ¬ S g) : IsS81 w0 W1 g f0 f1 f2:=by
 obtain ⟨A0,c0,hb,hg,hr0⟩:=h;exact ⟨A0,c0,blk_kept hb hk hne,hg,hr0⟩
theorem IsS81.below {w0 W : World} {g : Nat} {f0 : List Int} {f1 : Int} {f2 : Int} {W1 : World} (h : IsS81 w0 W g f0 f1 f2) (hw : Below W.heap.size W W1) : IsS81 w0 W1 g f0 f1 f2:=h.grown (grown_of_below hw none) (by simp)
theorem IsS81.alloc {w0 W : World} {g : Nat} {f0 : List Int} {f1 : Int} {f2 : Int} (h : IsS81 w0 W g f0 f1 f2) (o : Obj) : IsS81 w0 (W.alloc o) g f0 f1 f2:=h.below (za (Below.refl _ _) o)
theorem IsS81.drewN {w0 W : World} {g : Nat} {f0 : List Int} {f1 : Int} {f2 : Int} (h : IsS81 w0 W g f0 f1 f2) (m : Nat) : IsS81 w0 (W.drewN m) g f0 f1 f2:=h
theorem IsS81.drew {w0 W : World} {g : Nat} {f0 : List Int} {f1 : Int} {f2 : Int} (h : IsS81 w0 W g f0 f1 f2) : IsS81 w0 W.drew g f0 f1 f2:=h
theorem IsS81.at_ {w0 W : World} {g : Nat} {f0 : List Int} {f1 : Int} {f2 : Int} {w' : World} {m : Nat} (hq : W.drewN m=w') (h : IsS81 w0 W g f0 f1 f2) : IsS81 w0 w' g f0 f1 f2:=by subst hq;exact IsS81.drewN h m
theorem IsS81.apart {w0 W : World} {g : Nat} {f0 : List Int} {f1 : Int} {f2 : Int} {α : Type} {d : Kd α} {e : Nat} {base : Nat} {ok : Nat→Prop} {v : Value} {xs : List α} (h : IsS81 w0 W g f0 f1 f2) (ho : d.R e W base ok v xs) (ht : ∀ q,q ∈ e :: d.E→q≠81) : d.R e W base (fun k=>ok k∧k≠g) v xs:=by
 obtain ⟨A0,c0,hb,hg,hr0⟩:=h;exact yf ho hb ht
theorem IsS81.own_ne {w0 W : World} {g : Nat} {f0 : List Int} {f1 : Int} {f2 : Int} {α : Type} {d : Kd α} {e : Nat} {base : Nat} {ok : Nat→Prop} {v : Value} {xs : List α} (h : IsS81 w0 W g f0 f1 f2) (ho : d.R e W base ok v xs) (ht : e≠81) : some g≠v.ownBlock:=by
 obtain ⟨A0,c0,hb,hg,hr0⟩:=h;exact Kd.R_ne ho hb ht
theorem IsS81.lt {w0 W : World} {g : Nat} {f0 : List Int} {f1 : Int} {f2 : Int} (h : IsS81 w0 W g f0 f1 f2) : g<W.heap.size:=by
 obtain ⟨A0,c0,hb,hg,hr0⟩:=h;exact yi hb
theorem IsS81.ge {w0 W : World} {g : Nat} {f0 : List Int} {f1 : Int} {f2 : Int} (h : IsS81 w0 W g f0 f1 f2) : w0.heap.size≤g:=by
 obtain ⟨A0,c0,hb,hg,hr0⟩:=h;exact hg
theorem IsS81.far {w0 W : World} {g : Nat} {f0 : List Int} {f1 : Int} {f2 : Int} {p : Addr} (h : IsS81 w0 W g f0 f1 f2) (hne : g≠p.block) (u : Value) : IsS81 w0 (W.setCell p u) g f0 f1 f2:=by
 obtain ⟨A0,c0,hb,hg,hr0⟩:=h;exact ⟨A0,c0,zS hb hne u,hg,hr0⟩
theorem cellS81_0 {W : World} {g : Nat} {A0 : Option Addr} {c0 : Nat} {f0 : List Int} {f1 : Int} {f2 : Int} (h : W.heap[g]? = some (.cells #[.slice A0 f0.length c0,.int .i64 f1,.int .i64 f2] 81 (0,0))) : W.cell? ⟨g,0,none⟩=some (.slice A0 f0.length c0):=(zz h 0).trans rfl
theorem cellS81_1 {W : World} {g : Nat} {A0 : Option Addr} {c0 : Nat} {f0 : List Int} {f1 : Int} {f2 : Int} (h : W.heap[g]? = some (.cells #[.slice A0 f0.length c0,.int .i64 f1,.int .i64 f2] 81 (0,0))) : W.cell? ⟨g,1,none⟩=some (.int .i64 f1):=(zz h 1).trans rfl
theorem IsS81.set_1 {w0 W : World} {g : Nat} {f0 : List Int} {f1 : Int} {f2 : Int} (h : IsS81 w0 W g f0 f1 f2) (x : Int) : IsS81 w0 (W.setCell ⟨g,1,none⟩ (.int .i64 x)) g f0 x f2:=by
 obtain ⟨A0,c0,hb,hg,hr0⟩:=h;exact ⟨A0,c0,by simpa using blk_set hb 1 (.int .i64 x),hg,hr0⟩
theorem cellS81_2 {W : World} {g : Nat} {A0 : Option Addr} {c0 : Nat} {f0 : List Int} {f1 : Int} {f2 : Int} (h : W.heap[g]? = some (.cells #[.slice A0 f0.length c0,.int .i64 f1,.int .i64 f2] 81 (0,0))) : W.cell? ⟨g,2,none⟩=some (.int .i64 f2):=(zz h 2).trans rfl
theorem IsS81.set_2 {w0 W : World} {g : Nat} {f0 : List Int} {f1 : Int} {f2 : Int} (h : IsS81 w0 W g f0 f1 f2) (x : Int) : IsS81 w0 (W.setCell ⟨g,2,none⟩ (.int .i64 x)) g f0 f1 x:=by
 obtain ⟨A0,c0,hb,hg,hr0⟩:=h;exact ⟨A0,c0,by simpa using blk_set hb 2 (.int .i64 x),hg,hr0⟩
theorem IsS81.new (w0 W : World) (A0 : Option Addr) (c0 : Nat) (f0 : List Int) (f1 : Int) (f2 : Int) (hB : Below w0.heap.size w0 W) (hr0 : Kd.C (Kd.int .u8) w0 A0 f0.length f0) : IsS81 w0 (W.alloc (.cells #[.slice A0 f0.length c0,.int .i64 f1,.int .i64 f2] 81)) W.heap.size f0 f1 f2:=⟨A0,c0,by simpa using heap_alloc_new W _,hB.size,hr0⟩

def F0v.f (l0 : List Int) : Option (List Int×Int×Int):=some (l0,0,(l0.length : Int) % 1000)
set_option maxHeartbeats 8000000 in
set_option maxRecDepth 100000 in
theorem F0v.calls (A0 : Option Addr) (c0 : Nat) (l0 : List Int) (r1 : List Int) (r2 : Int) (r3 : Int) (w0 w : World) (hB : Below w0.heap.size w0 w) (hr0 : Kd.C (Kd.int .u8) w0 A0 l0.length l0) (hc0 : l0.length≤c0) (h : F0v.f l0=some (r1,r2,r3)) :
  Calls Try.prog 31 #[.slice A0 l0.length c0] w fun e w' => ∃ g_ : Nat,e = .returned (.pointer (some ⟨g_,0,none⟩))∧IsS81 w0 w' g_ r1 r2 r3∧Below w0.heap.size w0 w' ∧ Below w.heap.size w w':=by
 have hu81:=Try.underlying81;have HR0:=zh hr0;have HC0:=zh hc0;clear hr0 hc0;have HBW:=zh (Below.refl w.heap.size w);have HW0:=zh hB.size;have HB:=zh hB;clear hB;have H : (some (l0,0,(l0.length : Int) % 1000))=some (r1,r2,r3):=h;clear h;simp only [Option.some.injEq,Prod.mk.injEq] at H;obtain ⟨rfl,rfl,rfl⟩:=H
 go_enter Try.func31,Try.ntmps31
 go_wp2_with (first|((with_reducible refine zK (N:=8) rfl ?_);refine zI ?hg (N:=8) ?hd (cs:=#[.slice A0 l0.length c0,.int .i64 0,.int .i64 ((l0.length : Int) % 1000)]) (t:=81) ?hr ?_;(case hd=>rfl);(case hg=>rfl);(case hr=>go_simp <;> rfl);intro gb454 hg w2 hbox hb;replace HB:=zh (zC jG hb);have BK454:=zh (hbox);have GW454:=zh ((jCf : w.heap.size≤gb454));have GE454:=zh ((Nat.le_trans HW0.out (jCf : w.heap.size≤gb454) : w0.heap.size≤gb454));replace HBW:=zh (zC HBW.out hb);clear hb hbox hg))
 go_ret
 exact ⟨_,rfl,(show IsS81 w0 _ gb454 l0 0 ((l0.length : Int) % 1000) from ⟨_,_,by (with_reducible repeat first|apply ze|apply zf|apply zg);exact BK454.out,GE454.out,HR0.out⟩),by repeat (with_reducible first|exact HB.out|apply za|apply zb|apply zc|refine zd ?_ GE454.out),by repeat (with_reducible first|exact HBW.out|apply za|apply zb|apply zc|refine zd ?_ GW454.out)⟩


def F0m.f (a0 : Int) : Option (Bool):=if a0 ≥ 97 then (if a0≤122 then (some true) else (if a0 ≥ 65 then (if a0≤90 then (some true) else (some (a0 == 95))) else (some (a0 == 95)))) else (if a0 ≥ 65 then (if a0≤90 then (some true) else (some (a0 == 95))) else (some (a0 == 95)))
set_option maxHeartbeats 8000000 in
set_option maxRecDepth 100000 in
theorem F0m.calls (a0 : Int) (r : Bool) (w : World) (h : F0m.f a0=some r) :
  Calls Try.prog 81 #[.int .u8 a0] w fun e w' => e = .returned (.bool r)∧Drawn0 w w':=by
 have H : (if a0 ≥ 97 then (if a0≤122 then (some true) else (if a0 ≥ 65 then (if a0≤90 then (some true) else (some (a0 == 95))) else (some (a0 == 95)))) else (if a0 ≥ 65 then (if a0≤90 then (some true) else (some (a0 == 95))) else (some (a0 == 95))))=some r:=h;clear h
 by_cases c2 : a0 ≥ 97
 ·
  rw [if_pos c2] at H
  have c2b0 : decide (97≤a0)=true:=decide_eq_true c2;clear c2
  by_cases c3 : a0≤122
  ·
   rw [if_pos c3] at H
   have c3b0 : decide (a0≤122)=true:=decide_eq_true c3;clear c3;obtain rfl:=zU H
   go_enter Try.func81,Try.ntmps81
   go_wp2
   go_ret
   exact ⟨jC,jK⟩
  rw [if_neg c3] at H;have c3b0 : decide (a0≤122)=false:=decide_eq_false c3;clear c3
  by_cases c4 : a0 ≥ 65
  ·
   rw [if_pos c4] at H
   have c4b0 : decide (65≤a0)=true:=decide_eq_true c4;clear c4
   by_cases c5 : a0≤90
   ·
    rw [if_pos c5] at H
    have c5b0 : decide (a0≤90)=true:=decide_eq_true c5;clear c5;obtain rfl:=zU H
    go_enter Try.func81,Try.ntmps81
    go_wp2
    go_ret
    exact ⟨jC,jK⟩
   rw [if_neg c5] at H;have c5b0 : decide (a0≤90)=false:=decide_eq_false c5;clear c5;obtain rfl:=zU H
   go_enter Try.func81,Try.ntmps81
   go_wp2
   go_ret
   exact ⟨jC,jK⟩
  rw [if_neg c4] at H;have c4b0 : decide (65≤a0)=false:=decide_eq_false c4;clear c4;obtain rfl:=zU H
  go_enter Try.func81,Try.ntmps81
  go_wp2
  go_ret
  exact ⟨jC,jK⟩
 rw [if_neg c2] at H;have c2b0 : decide (97≤a0)=false:=decide_eq_false c2;clear c2
 by_cases c6 : a0 ≥ 65
 ·
  rw [if_pos c6] at H
  have c6b0 : decide (65≤a0)=true:=decide_eq_true c6;clear c6
  by_cases c7 : a0≤90
  ·
   rw [if_pos c7] at H
   have c7b0 : decide (a0≤90)=true:=decide_eq_true c7;clear c7;obtain rfl:=zU H
   go_enter Try.func81,Try.ntmps81
   go_wp2
   go_ret
   exact ⟨jC,jK⟩
  rw [if_neg c7] at H;have c7b0 : decide (a0≤90)=false:=decide_eq_false c7;clear c7;obtain rfl:=zU H
  go_enter Try.func81,Try.ntmps81
  go_wp2
  go_ret
  exact ⟨jC,jK⟩
 rw [if_neg c6] at H;have c6b0 : decide (65≤a0)=false:=decide_eq_false c6;clear c6;obtain rfl:=zU H
 go_enter Try.func81,Try.ntmps81
 go_wp2
 go_ret
 exact ⟨jC,jK⟩


def F0p.f (a0 : Int) : Option (Bool):=if a0 ≥ 48 then (some (decide (a0≤57))) else (some false)
set_option maxHeartbeats 8000000 in
set_option maxRecDepth 100000 in
theorem F0p.calls (a0 : Int) (r : Bool) (w : World) (h : F0p.f a0=some r) :
  Calls Try.prog 82 #[.int .u8 a0] w fun e w' => e = .returned (.bool r)∧Drawn0 w w':=by
 have H : (if a0 ≥ 48 then (some (decide (a0≤57))) else (some false))=some r:=h;clear h
 by_cases c2 : a0 ≥ 48
 ·
  rw [if_pos c2] at H
  have c2b0 : decide (48≤a0)=true:=decide_eq_true c2;clear c2;obtain rfl:=zU H
  go_enter Try.func82,Try.ntmps82
  go_wp2
  go_ret
  exact ⟨jC,jK⟩
 rw [if_neg c2] at H;have c2b0 : decide (48≤a0)=false:=decide_eq_false c2;clear c2;obtain rfl:=zU H
 go_enter Try.func82,Try.ntmps82
 go_wp2
 go_ret
 exact ⟨jC,jK⟩

end Go.Proofs.Ytoinoihiknmnmaa.Q
end
section
namespace Go.Proofs.Ytoinoihiknmnmaa.Q
open Go.RowKit Go.Proofs.YtoinoihiknmnmaaW.PrintWords Go.Proofs.YtoinoihiknmnmaaW.PrintLast Go.Proofs.YtoinoihiknmnmaaW.PrintMore
attribute [local go_sem] max2_int min2_int max_two min_two max_three min_three max_four min_four max2_str min2_str str_geq str_gtr str_leq   -- for this text's walks alone
set_option linter.unusedVariables false
set_option linter.unusedSimpArgs false

mutual
def F9.j0 : Nat→ByteArray→Bool→Option (Bool)
 | 0,_,_=>none
 | k+1,x0,x17=>if x17=true then (some false) else (F9.l0 k x0 1)
def F9.l0 : Nat→ByteArray→Int→Option (Bool)
 | 0,_,_=>none
 | k+1,x0,x3=>if x3<(x0.size : Int) then (if 0≤x3 then ((F0m.f (bt x0 x3)).bind fun t107=>(if t107=true then (F9.l0 k x0 (wrap64 (x3+1))) else ((F0p.f (bt x0 x3)).bind fun t108=>(if t108=true then (F9.l0 k x0 (wrap64 (x3+1))) else (some false))))) else (none)) else (some true)
end
def F9.f (k : Nat) (a0 : ByteArray) : Option (Bool):=if (a0.size : Int)<1 then (F9.j0 k a0 true) else (if (a0.size : Int) > 40 then (F9.j0 k a0 true) else (if 0<(a0.size : Int) then ((F0m.f (bt a0 0)).bind fun t106=>(F9.j0 k a0 (!t106))) else (none)))
theorem F9.mono_l : ∀ k,(∀ y0 y1,LeO (F9.j0 k y0 y1) (F9.j0 (k+1) y0 y1))∧(∀ y0 y1,LeO (F9.l0 k y0 y1) (F9.l0 (k+1) y0 y1))
 | 0=>⟨fun _ _ r h=>by simp [F9.j0] at h,fun _ _ r h=>by simp [F9.l0] at h⟩
 | k+1=>by
  obtain ⟨ih0,ih1⟩:=F9.mono_l k;refine ⟨?_,?_⟩
  ·
   intro y0 y1
   unfold F9.j0
   repeat' first|(with_reducible first|exact ih0 _ _|exact ih1 _ _|exact zQ _|exact zN _|refine zP ?_ ?_|refine zO ?_ (fun _=>?_))|refine zP ?_ ?_|refine zO ?_ (fun _=>?_)
  intro y0 y1;unfold F9.l0
  repeat' first|(with_reducible first|exact ih0 _ _|exact ih1 _ _|exact zQ _|exact zN _|refine zP ?_ ?_|refine zO ?_ (fun _=>?_))|refine zP ?_ ?_|refine zO ?_ (fun _=>?_)
theorem F9.mono : ∀ a0 k,LeO (F9.f k a0) (F9.f (k+1) a0):=by
 intro a0 k;obtain ⟨ih0,ih1⟩:=F9.mono_l k;unfold F9.f
 repeat' first|(with_reducible first|exact ih0 _ _|exact ih1 _ _|exact zQ _|exact zN _|refine zP ?_ ?_|refine zO ?_ (fun _=>?_))|refine zP ?_ ?_|refine zO ?_ (fun _=>?_)
set_option maxHeartbeats 8000000 in
set_option maxRecDepth 100000 in
theorem F9.calls (k : Nat) (a0 : ByteArray) (r : Bool) (w : World) (h : F9.f k a0=some r) :
  Calls Try.prog 62 #[.string a0] w fun e w' => e = .returned (.bool r)∧Drawn0 w w':=by
 have H : (if (a0.size : Int)<1 then (F9.j0 k a0 true) else (if (a0.size : Int) > 40 then (F9.j0 k a0 true) else (if 0<(a0.size : Int) then ((F0m.f (bt a0 0)).bind fun t106=>(F9.j0 k a0 (!t106))) else (none))))=some r:=h;clear h;have HC2:=zh H;clear H
 go_enter Try.func62,Try.ntmps62
 go_upto_region 1 with (fail)
 go_cut [17] (fun v17 wc => ∃ (kq : Nat) (x17_1 : Bool),v17 = .bool x17_1∧Aside0 (F9.j0 kq a0 x17_1=some r)∧Aside0 (kq≤k)∧Drawn0 w wc)
 case first =>
  have H:=HC2.out;clear HC2
  by_cases c3 : (a0.size : Int)<1
  ·
   rw [if_pos c3] at H
   have c3b0 : decide ((a0.size : Int)<1)=true:=decide_eq_true c3;have c3b1 : decide (a0.size<1)=true:=decide_eq_true jH;clear c3;(first|rw [c3b0]|(simp only [zG,zH];rw [c3b0])|skip);have H':=zh H;clear H
   go_wp2
   go_meet
   case rel=>exact ⟨_,(true),jC,H',⟨jY⟩,jK⟩
  rw [if_neg c3] at H;have c3b0 : decide ((a0.size : Int)<1)=false:=decide_eq_false c3;have c3b1 : decide (a0.size<1)=false:=decide_eq_false jH;clear c3;(first|rw [c3b0]|(simp only [zG,zH];rw [c3b0])|skip)
  by_cases c4 : (a0.size : Int) > 40
  ·
   rw [if_pos c4] at H
   have c4b0 : decide (40<(a0.size : Int))=true:=decide_eq_true c4;have c4b1 : decide (40<a0.size)=true:=decide_eq_true jH;clear c4;have H':=zh H;clear H
   go_wp2
   go_meet
   case rel=>exact ⟨_,(true),jC,H',⟨jY⟩,jK⟩
  rw [if_neg c4] at H;have c4b0 : decide (40<(a0.size : Int))=false:=decide_eq_false c4;have c4b1 : decide (40<a0.size)=false:=decide_eq_false jH;clear c4
  by_cases c5 : 0<(a0.size : Int)
  ·
   rw [if_pos c5] at H
   have c5b0 : decide (0<(a0.size : Int))=true:=decide_eq_true c5;have c5b1 : decide (0<a0.size)=true:=decide_eq_true jH;clear c5;replace H:=zT.mp H;obtain ⟨t106,A70,H⟩:=H;have A7:=zh A70;clear A70;have H':=zh H;clear H;have p6 : 0≤(0 : Int):=jH;have q6 : 0<a0.size:=(by have : (0 : Int)<(a0.size : Int):=zy jE;omega);have hx6 : ∀ h : 0<a0.size,((a0[0]'h).toNat : Int)=bt a0 0:=bt_at a0 0;clear p6;have qi6 : (0<(a0.size : Int))=True:=eq_true (zy jE);replace q6:=eq_true q6
   go_wp2_with (first|(go_at_call 81;(with_reducible refine (F0m.calls  (bt a0 0) t106 _ A7.out).mono ?_);rintro e w' ⟨rfl,⟨nd,rfl⟩⟩))
   go_meet
   case rel=>exact ⟨_,(!t106),jC,H',⟨jY⟩,jK⟩
  rw [if_neg c5] at H;exact absurd H (by simp)
 case rest =>
  clear HC2
  try clear p2
  try clear c3 c3b0 c3b1 c4 c4b0 c4b1 c5 c5b0 c5b1 c6
  try clear p6
  try clear q6
  try clear hx6
  try clear qi6
  try clear p6
  try clear q6
  obtain ⟨kq,x17_1,rfl,HA,HJ1,⟨mc1,rfl⟩⟩:=hcut
  cases kq with
  | zero=>exact absurd HA.out (by simp [F9.j0])
  | succ kj1 =>
   have H:=HA.out;clear HA;simp only [F9.j0] at H
   by_cases c8 : x17_1=true
   ·
    subst c8
    rw [if_pos rfl] at H;obtain rfl:=zU H
    go_wp2
    go_ret
    exact ⟨jC,jK⟩
   replace c8:=yb.mpr c8;subst c8;rw [if_neg (show ¬ (false=true) by decide)] at H;have H':=zh H;clear H
   go_wp2
   go_loopg [3] kj1 (fun kq v3 w' => ∃ (x3_2 : Int),v3 = .int .i64 x3_2∧Aside0 (F9.l0 kq a0 x3_2=some r)∧Aside0 (kq≤kj1)∧Drawn0 w w')
   case atStart=>exact ⟨(1),jC,H',⟨ye _⟩,jK⟩
   case round =>
    clear H'
    try clear c1
    try clear p2
    try clear c3 c3b0 c3b1 c4 c4b0 c4b1 c5 c5b0 c5b1 c6
    try clear p6
    try clear q6
    try clear hx6
    try clear qi6
    try clear c8
    try clear p2
    try clear p6
    try clear q6
    obtain ⟨x3_2,rfl,HA,HK2,⟨m2,rfl⟩⟩:=hrel
    cases gk with
    | zero=>exact absurd HA.out (by simp [F9.l0])
    | succ k2 =>
     have H:=HA.out;clear HA;simp only [F9.l0] at H
     by_cases c9 : x3_2<(a0.size : Int)
     ·
      rw [if_pos c9] at H
      have c9b0 : decide (x3_2<(a0.size : Int))=true:=decide_eq_true c9;clear c9
      by_cases c10 : 0≤x3_2
      ·
       rw [if_pos c10] at H
       have c10b0 : decide (0≤x3_2)=true:=decide_eq_true c10;clear c10;replace H:=zT.mp H;obtain ⟨t107,A120,H⟩:=H;have A12:=zh A120;clear A120
       by_cases c13 : t107=true
       ·
        subst c13
        rw [if_pos rfl] at H;have H':=zh H;clear H;have p11:=ja (0≤(x3_2 : Int));have q11:=ja (x3_2<(a0.size : Int));have hx11:=bt_at a0 x3_2
        go_wp2_with (first|((with_reducible refine zJ (f:=81) rfl ?_);refine yj (some 27) rfl rfl Try.func81 jA rfl #[.int .u8 (bt a0 x3_2)] rfl jD ?_;(with_reducible refine (F0m.calls  (bt a0 x3_2) true _ A12.out).mono ?_);rintro e w' ⟨rfl,⟨nd,rfl⟩⟩;refine ⟨_,rfl,?_⟩))
        go_roundg k2
        case measure=>have:=HJ1.out;have:=HK2.out;omega
        case rel=>exact ⟨(wrap64 (x3_2+1)),jC,H',⟨jBX⟩,jK⟩
       replace c13:=yb.mpr c13;subst c13;rw [if_neg (show ¬ (false=true) by decide)] at H;replace H:=zT.mp H;obtain ⟨t108,A150,H⟩:=H;have A15:=zh A150;clear A150
       by_cases c16 : t108=true
       ·
        subst c16
        rw [if_pos rfl] at H;have H':=zh H;clear H;have p11:=ja (0≤(x3_2 : Int));have q11:=ja (x3_2<(a0.size : Int));have hx11:=bt_at a0 x3_2
        go_wp2_with (first|((with_reducible refine zJ (f:=81) rfl ?_);refine yj (some 27) rfl rfl Try.func81 jA rfl #[.int .u8 (bt a0 x3_2)] rfl jD ?_;(with_reducible refine (F0m.calls  (bt a0 x3_2) false _ A12.out).mono ?_);rintro e w' ⟨rfl,⟨nd,rfl⟩⟩;refine ⟨_,rfl,?_⟩;have p14:=ja (0≤(x3_2 : Int));have q14:=ja (x3_2<(a0.size : Int));have hx14:=bt_at a0 x3_2)|(go_at_call 82;(with_reducible refine (F0p.calls  (bt a0 x3_2) true _ A15.out).mono ?_);rintro e w' ⟨rfl,⟨nd,rfl⟩⟩))
        go_roundg k2
        case measure=>have:=HJ1.out;have:=HK2.out;omega
        case rel=>exact ⟨(wrap64 (x3_2+1)),jC,H',⟨jBX⟩,jK⟩
       replace c16:=yb.mpr c16;subst c16;rw [if_neg (show ¬ (false=true) by decide)] at H;obtain rfl:=zU H;have p11:=ja (0≤(x3_2 : Int));have q11:=ja (x3_2<(a0.size : Int));have hx11:=bt_at a0 x3_2
       go_wp2_with (first|((with_reducible refine zJ (f:=81) rfl ?_);refine yj (some 27) rfl rfl Try.func81 jA rfl #[.int .u8 (bt a0 x3_2)] rfl jD ?_;(with_reducible refine (F0m.calls  (bt a0 x3_2) false _ A12.out).mono ?_);rintro e w' ⟨rfl,⟨nd,rfl⟩⟩;refine ⟨_,rfl,?_⟩;have p14:=ja (0≤(x3_2 : Int));have q14:=ja (x3_2<(a0.size : Int));have hx14:=bt_at a0 x3_2)|(go_at_call 82;(with_reducible refine (F0p.calls  (bt a0 x3_2) false _ A15.out).mono ?_);rintro e w' ⟨rfl,⟨nd,rfl⟩⟩))
       go_ret
       exact ⟨jC,jK⟩
      rw [if_neg c10] at H;exact absurd H (by simp)
     rw [if_neg c9] at H;have c9b0 : decide (x3_2<(a0.size : Int))=false:=decide_eq_false c9;clear c9;obtain rfl:=zU H
     go_wp2
     go_ret
     exact ⟨jC,jK⟩

end Go.Proofs.Ytoinoihiknmnmaa.Q
end
section
namespace Go.Proofs.Ytoinoihiknmnmaa.Q
open Go.RowKit Go.Proofs.YtoinoihiknmnmaaW.PrintWords Go.Proofs.YtoinoihiknmnmaaW.PrintLast Go.Proofs.YtoinoihiknmnmaaW.PrintMore
attribute [local go_sem] max2_int min2_int max_two min_two max_three min_three max_four min_four max2_str min2_str str_geq str_gtr str_leq
set_option linter.unusedVariables false
set_option linter.unusedSimpArgs false

def F0k.f (k : Nat) (a0 : ByteArray) : Option (Bool):=(F9.f k a0).bind fun t109=>(some t109)
theorem F0k.mono : ∀ a0 k,LeO (F0k.f k a0) (F0k.f (k+1) a0):=by
 intro a0 k;unfold F0k.f
 repeat' first|(with_reducible first|exact F9.mono _ _|exact zQ _|exact zN _|refine zP ?_ ?_|refine zO ?_ (fun _=>?_))|refine zP ?_ ?_|refine zO ?_ (fun _=>?_)
set_option maxHeartbeats 8000000 in
set_option maxRecDepth 100000 in
theorem F0k.calls (k : Nat) (a0 : ByteArray) (r : Bool) (w : World) (h : F0k.f k a0=some r) :
  Calls Try.prog 39 #[.string a0] w fun e w' => e = .returned (.bool r)∧Drawn0 w w':=by
 have H : ((F9.f k a0).bind fun t109=>(some t109))=some r:=h;clear h;replace H:=zT.mp H;obtain ⟨t109,A20,H⟩:=H;have A2:=zh A20;clear A20;obtain rfl:=zU H
 go_enter Try.func39,Try.ntmps39
 go_wp2_with (first|((with_reducible refine zJ (f:=62) rfl ?_);refine yj (some 4) rfl rfl Try.func62 jA rfl #[.string a0] rfl jD ?_;(with_reducible refine (F9.calls k  a0 t109 _ A2.out).mono ?_);rintro e w' ⟨rfl,⟨nd,rfl⟩⟩;refine ⟨_,rfl,?_⟩))
 go_ret
 exact ⟨jC,jK⟩


def F0a.f (k : Nat) (a0 : ByteArray) : Option (Bool):=(F0k.f k a0).bind fun t110=>(if t110=true then (some (decide ((a0.size : Int)≤12))) else (some false))
theorem F0a.mono : ∀ a0 k,LeO (F0a.f k a0) (F0a.f (k+1) a0):=by
 intro a0 k;unfold F0a.f
 repeat' first|(with_reducible first|exact F0k.mono _ _|exact zQ _|exact zN _|refine zP ?_ ?_|refine zO ?_ (fun _=>?_))|refine zP ?_ ?_|refine zO ?_ (fun _=>?_)
set_option maxHeartbeats 8000000 in
set_option maxRecDepth 100000 in
theorem F0a.calls (k : Nat) (a0 : ByteArray) (r : Bool) (w : World) (h : F0a.f k a0=some r) :
  Calls Try.prog 19 #[.string a0] w fun e w' => e = .returned (.bool r)∧Drawn0 w w':=by
 have H : ((F0k.f k a0).bind fun t110=>(if t110=true then (some (decide ((a0.size : Int)≤12))) else (some false)))=some r:=h;clear h;replace H:=zT.mp H;obtain ⟨t110,A20,H⟩:=H;have A2:=zh A20;clear A20
 by_cases c3 : t110=true
 ·
  subst c3
  rw [if_pos rfl] at H;obtain rfl:=zU H
  go_enter Try.func19,Try.ntmps19
  go_wp2_with (first|((with_reducible refine zJ (f:=39) rfl ?_);refine yj (some 4) rfl rfl Try.func39 jA rfl #[.string a0] rfl jD ?_;(with_reducible refine (F0k.calls k  a0 true _ A2.out).mono ?_);rintro e w' ⟨rfl,⟨nd,rfl⟩⟩;refine ⟨_,rfl,?_⟩))
  go_ret
  exact ⟨jC,jK⟩
 replace c3:=yb.mpr c3;subst c3;rw [if_neg (show ¬ (false=true) by decide)] at H;obtain rfl:=zU H
 go_enter Try.func19,Try.ntmps19
 go_wp2_with (first|((with_reducible refine zJ (f:=39) rfl ?_);refine yj (some 4) rfl rfl Try.func39 jA rfl #[.string a0] rfl jD ?_;(with_reducible refine (F0k.calls k  a0 false _ A2.out).mono ?_);rintro e w' ⟨rfl,⟨nd,rfl⟩⟩;refine ⟨_,rfl,?_⟩))
 go_ret
 exact ⟨jC,jK⟩


def Fy.f (a0 : Int) (a1 : Int) (a2 : Int) : Option (Bool):=if a1≤a0 then (some (decide (a0≤a2))) else (some false)
set_option maxHeartbeats 8000000 in
set_option maxRecDepth 100000 in
theorem Fy.calls (a0 : Int) (a1 : Int) (a2 : Int) (r : Bool) (w : World) (h : Fy.f a0 a1 a2=some r) :
  Calls Try.prog 63 #[.int .i64 a0,.int .i64 a1,.int .i64 a2] w fun e w' => e = .returned (.bool r)∧Drawn0 w w':=by
 have H : (if a1≤a0 then (some (decide (a0≤a2))) else (some false))=some r:=h;clear h
 by_cases c4 : a1≤a0
 ·
  rw [if_pos c4] at H
  have c4b0 : decide (a1≤a0)=true:=decide_eq_true c4;clear c4;obtain rfl:=zU H
  go_enter Try.func63,Try.ntmps63
  go_wp2
  go_ret
  exact ⟨jC,jK⟩
 rw [if_neg c4] at H;have c4b0 : decide (a1≤a0)=false:=decide_eq_false c4;clear c4;obtain rfl:=zU H
 go_enter Try.func63,Try.ntmps63
 go_wp2
 go_ret
 exact ⟨jC,jK⟩


def Fv.l0 : Nat→ByteArray→Int→Int→Option (Int)
 | 0,_,_,_=>none
 | k+1,x0,x3,x4=>if x4<(x0.size : Int) then (if 0≤x4 then (Fv.l0 k x0 (wrap64 ((wrap64 (x3*256))+(wrap64 (bt x0 x4)))) (wrap64 (x4+1))) else (none)) else (some x3)
def Fv.f (k : Nat) (a0 : ByteArray) : Option (Int):=Fv.l0 k a0 0 0
theorem Fv.mono_l : ∀ k,(∀ y0 y1 y2,LeO (Fv.l0 k y0 y1 y2) (Fv.l0 (k+1) y0 y1 y2))
 | 0=>fun _ _ _ r h=>by simp [Fv.l0] at h
 | k+1=>by
  have ih0:=Fv.mono_l k;intro y0 y1 y2;unfold Fv.l0
  repeat' first|(with_reducible first|exact ih0 _ _ _|exact zQ _|exact zN _|refine zP ?_ ?_|refine zO ?_ (fun _=>?_))|refine zP ?_ ?_|refine zO ?_ (fun _=>?_)
theorem Fv.mono : ∀ a0 k,LeO (Fv.f k a0) (Fv.f (k+1) a0):=by
 intro a0 k;have ih0:=Fv.mono_l k;unfold Fv.f
 repeat' first|(with_reducible first|exact ih0 _ _ _|exact zQ _|exact zN _|refine zP ?_ ?_|refine zO ?_ (fun _=>?_))|refine zP ?_ ?_|refine zO ?_ (fun _=>?_)
set_option maxHeartbeats 8000000 in
set_option maxRecDepth 100000 in
theorem Fv.calls (k : Nat) (a0 : ByteArray) (r : Int) (w : World) (h : Fv.f k a0=some r) :
  Calls Try.prog 92 #[.string a0] w fun e w' => e = .returned (.int .i64 r)∧Drawn0 w w':=by
 have H : (Fv.l0 k a0 0 0)=some r:=h;clear h;have H':=zh H;clear H
 go_enter Try.func92,Try.ntmps92
 go_wp2
 go_loopg [3,4] k (fun kq v3 v4 w' => ∃ (x3_1 : Int) (x4_1 : Int),v3 = .int .i64 x3_1∧v4 = .int .i64 x4_1∧Aside0 (Fv.l0 kq a0 x3_1 x4_1=some r)∧Aside0 (kq≤k)∧Drawn0 w w')
 case atStart=>exact ⟨(0),(0),jC,jC,H',⟨ye _⟩,jK⟩
 case round =>
  clear H';obtain ⟨x3_1,x4_1,rfl,rfl,HA,HK1,⟨m1,rfl⟩⟩:=hrel
  cases gk with
  | zero=>exact absurd HA.out (by simp [Fv.l0])
  | succ k1 =>
   have H:=HA.out;clear HA;simp only [Fv.l0] at H
   by_cases c2 : x4_1<(a0.size : Int)
   ·
    rw [if_pos c2] at H
    have c2b0 : decide (x4_1<(a0.size : Int))=true:=decide_eq_true c2;clear c2
    by_cases c3 : 0≤x4_1
    ·
     rw [if_pos c3] at H
     have c3b0 : decide (0≤x4_1)=true:=decide_eq_true c3;clear c3;have H':=zh H;clear H;have p4:=ja (0≤(x4_1 : Int));have q4:=ja (x4_1<(a0.size : Int));have hx4:=bt_at a0 x4_1
     go_wp2
     go_roundg k1
     case measure=>have:=HK1.out;omega
     case rel=>exact ⟨(wrap64 ((wrap64 (x3_1*256))+(wrap64 (bt a0 x4_1)))),(wrap64 (x4_1+1)),jC,jC,H',⟨jZ⟩,jK⟩
    rw [if_neg c3] at H;exact absurd H (by simp)
   rw [if_neg c2] at H;have c2b0 : decide (x4_1<(a0.size : Int))=false:=decide_eq_false c2;clear c2;obtain rfl:=zU H
   go_wp2
   go_ret
   exact ⟨jC,jK⟩

end Go.Proofs.Ytoinoihiknmnmaa.Q
end
section
namespace Go.Proofs.Ytoinoihiknmnmaa.Q
open Go.RowKit Go.Proofs.YtoinoihiknmnmaaW.PrintWords Go.Proofs.YtoinoihiknmnmaaW.PrintLast Go.Proofs.YtoinoihiknmnmaaW.PrintMore
attribute [local go_sem] max2_int min2_int max_two min_two max_three min_three max_four min_four max2_str min2_str str_geq str_gtr str_leq   -- for this text's walks alone
set_option linter.unusedVariables false
set_option linter.unusedSimpArgs false

mutual
def F4.j1 : Nat→ByteArray→Int→Int→Int→ByteArray→Option (Int×Int×ByteArray×ByteArray×Bool)
 | 0,_,_,_,_,_=>none
 | k+1,x0,x6,x113000,x113001,x113002=>if (x0.size : Int)<(wrap64 (1+x6)) then (some (0,0,(⟨#[]⟩ : ByteArray),(⟨#[]⟩ : ByteArray),false)) else (if x6=1 then (if 1<(x0.size : Int) then (if 0≤(wrap64 (1+x6)) then (if (wrap64 (1+x6))≤(x0.size : Int) then (some (x113000,wrap64 (bt x0 1),x113002,x0.extract ((wrap64 (1+x6)) : Int).toNat x0.size,true)) else (none)) else (none)) else (none)) else (if 1<(x0.size : Int) then (if (bt x0 1) > 127 then (some (0,0,(⟨#[]⟩ : ByteArray),(⟨#[]⟩ : ByteArray),false)) else (if 1≤9 then (if 9≤(x0.size : Int) then ((Fv.f k (x0.extract 1 9)).bind fun t114=>(if 0≤(wrap64 (1+x6)) then (if (wrap64 (1+x6))≤(x0.size : Int) then (some (x113000,wrap64 (t114 - 4611686018427387904),x113002,x0.extract ((wrap64 (1+x6)) : Int).toNat x0.size,true)) else (none)) else (none))) else (none)) else (none))) else (none)))
def F4.j0 : Nat→ByteArray→Bool→Int→Int→ByteArray→Option (Int×Int×ByteArray×ByteArray×Bool)
 | 0,_,_,_,_,_=>none
 | k+1,x0,x28,x113000,x113001,x113002=>if x28=true then (if (x0.size : Int)<3 then (some (0,0,(⟨#[]⟩ : ByteArray),(⟨#[]⟩ : ByteArray),false)) else (if 1≤3 then (if 3≤(x0.size : Int) then ((Fv.f k (x0.extract 1 3)).bind fun t113=>(if (x0.size : Int)<(wrap64 (3+t113)) then (some (0,0,(⟨#[]⟩ : ByteArray),(⟨#[]⟩ : ByteArray),false)) else (if 3≤(wrap64 (3+t113)) then (if (wrap64 (3+t113))≤(x0.size : Int) then (if 0≤(wrap64 (3+t113)) then (some (x113000,x113001,x0.extract 3 ((wrap64 (3+t113)) : Int).toNat,x0.extract ((wrap64 (3+t113)) : Int).toNat x0.size,true)) else (none)) else (none)) else (none)))) else (none)) else (none))) else (some (0,0,(⟨#[]⟩ : ByteArray),(⟨#[]⟩ : ByteArray),false))
end
def F4.f (k : Nat) (a0 : ByteArray) : Option (Int×Int×ByteArray×ByteArray×Bool):=if (a0.size : Int)=0 then (some (0,0,(⟨#[]⟩ : ByteArray),(⟨#[]⟩ : ByteArray),false)) else (if 0<(a0.size : Int) then (if (wrap64 (bt a0 0))=0 then (if 1≤(a0.size : Int) then (some (wrap64 (bt a0 0),0,(⟨#[]⟩ : ByteArray),a0.extract 1 a0.size,true)) else (none)) else (if (wrap64 (bt a0 0))=1 then (F4.j1 k a0 1 (wrap64 (bt a0 0)) 0 (⟨#[]⟩ : ByteArray)) else (if (wrap64 (bt a0 0))=2 then (F4.j1 k a0 8 (wrap64 (bt a0 0)) 0 (⟨#[]⟩ : ByteArray)) else (if (wrap64 (bt a0 0))=3 then (F4.j0 k a0 ((wrap64 (bt a0 0)) == 3) (wrap64 (bt a0 0)) 0 (⟨#[]⟩ : ByteArray)) else (if (wrap64 (bt a0 0))=4 then (F4.j0 k a0 ((wrap64 (bt a0 0)) == 4) (wrap64 (bt a0 0)) 0 (⟨#[]⟩ : ByteArray)) else (F4.j0 k a0 ((wrap64 (bt a0 0)) == 5) (wrap64 (bt a0 0)) 0 (⟨#[]⟩ : ByteArray))))))) else (none))
theorem F4.mono_l : ∀ k,(∀ y0 y1 y2 y3 y4,LeO (F4.j1 k y0 y1 y2 y3 y4) (F4.j1 (k+1) y0 y1 y2 y3 y4))∧(∀ y0 y1 y2 y3 y4,LeO (F4.j0 k y0 y1 y2 y3 y4) (F4.j0 (k+1) y0 y1 y2 y3 y4))
 | 0=>⟨fun _ _ _ _ _ r h=>by simp [F4.j1] at h,fun _ _ _ _ _ r h=>by simp [F4.j0] at h⟩
 | k+1=>by
  obtain ⟨ih0,ih1⟩:=F4.mono_l k;refine ⟨?_,?_⟩
  ·
   intro y0 y1 y2 y3 y4
   unfold F4.j1
   repeat' first|(with_reducible first|exact ih0 _ _ _ _ _|exact ih1 _ _ _ _ _|exact Fv.mono _ _|exact zQ _|exact zN _|refine zP ?_ ?_|refine zO ?_ (fun _=>?_))|refine zP ?_ ?_|refine zO ?_ (fun _=>?_)
  intro y0 y1 y2 y3 y4;unfold F4.j0
  repeat' first|(with_reducible first|exact ih0 _ _ _ _ _|exact ih1 _ _ _ _ _|exact Fv.mono _ _|exact zQ _|exact zN _|refine zP ?_ ?_|refine zO ?_ (fun _=>?_))|refine zP ?_ ?_|refine zO ?_ (fun _=>?_)
theorem F4.mono : ∀ a0 k,LeO (F4.f k a0) (F4.f (k+1) a0):=by
 intro a0 k;obtain ⟨ih0,ih1⟩:=F4.mono_l k;unfold F4.f
 repeat' first|(with_reducible first|exact ih0 _ _ _ _ _|exact ih1 _ _ _ _ _|exact Fv.mono _ _|exact zQ _|exact zN _|refine zP ?_ ?_|refine zO ?_ (fun _=>?_))|refine zP ?_ ?_|refine zO ?_ (fun _=>?_)
def F4.T22 : Bool×List (List Nat×List Nat):=(true,[([],[]),([],[]),([],[]),([2],[2]),([1,3],[1,3]),([0,0],[0]),([4,5,0,1,2,3,4,5],[4]),([6,0,1,2,3,4,5,6],[])])
def F4.B22 : List Nat:=[0,0,0,4,14,1,63,127]
theorem F4.tab22 : rtab .any (opsOf Try.f83 22)=F4.T22:=by kernel_rfl
theorem F4.bits22 : waitsOk F4.T22.2 F4.B22=true:=by kernel_rfl
def F4.T30 : Bool×List (List Nat×List Nat):=(true,[([],[]),([],[]),([],[]),([2],[2]),([1,3],[1,3]),([0,0],[0]),([4,5,0,1,2,3,4,5],[4]),([6,0,1,2,3,4,5,6],[])])
def F4.B30 : List Nat:=[0,0,0,4,14,1,63,127]
theorem F4.tab30 : rtab .any (opsOf Try.f83 30)=F4.T30:=by kernel_rfl
theorem F4.bits30 : waitsOk F4.T30.2 F4.B30=true:=by kernel_rfl
set_option maxHeartbeats 8000000 in
set_option maxRecDepth 100000 in
theorem F4.calls (k : Nat) (a0 : ByteArray) (r1 : Int) (r2 : Int) (r3 : ByteArray) (r4 : ByteArray) (r5 : Bool) (w : World) (h : F4.f k a0=some (r1,r2,r3,r4,r5)) :
  Calls Try.prog 83 #[.string a0] w fun e w' => e = .returned (.tuple #[.agg #[.int .i64 r1,.int .i64 r2,.string r3],.string r4,.bool r5])∧Below w.heap.size w w':=by
 have hu25:=Try.underlying25;have HB:=zh (Below.refl w.heap.size w);have H : (if (a0.size : Int)=0 then (some (0,0,(⟨#[]⟩ : ByteArray),(⟨#[]⟩ : ByteArray),false)) else (if 0<(a0.size : Int) then (if (wrap64 (bt a0 0))=0 then (if 1≤(a0.size : Int) then (some (wrap64 (bt a0 0),0,(⟨#[]⟩ : ByteArray),a0.extract 1 a0.size,true)) else (none)) else (if (wrap64 (bt a0 0))=1 then (F4.j1 k a0 1 (wrap64 (bt a0 0)) 0 (⟨#[]⟩ : ByteArray)) else (if (wrap64 (bt a0 0))=2 then (F4.j1 k a0 8 (wrap64 (bt a0 0)) 0 (⟨#[]⟩ : ByteArray)) else (if (wrap64 (bt a0 0))=3 then (F4.j0 k a0 ((wrap64 (bt a0 0)) == 3) (wrap64 (bt a0 0)) 0 (⟨#[]⟩ : ByteArray)) else (if (wrap64 (bt a0 0))=4 then (F4.j0 k a0 ((wrap64 (bt a0 0)) == 4) (wrap64 (bt a0 0)) 0 (⟨#[]⟩ : ByteArray)) else (F4.j0 k a0 ((wrap64 (bt a0 0)) == 5) (wrap64 (bt a0 0)) 0 (⟨#[]⟩ : ByteArray))))))) else (none)))=some (r1,r2,r3,r4,r5):=h;clear h
 by_cases c2 : (a0.size : Int)=0
 ·
  rw [if_pos c2] at H
  have c2b0 : ((a0.size : Int) == 0)=true:=ya.mpr c2;have c2b1 : ((a0.size : Int) != 0)=false:=zX.mpr c2;clear c2;simp only [Option.some.injEq,Prod.mk.injEq] at H;obtain ⟨rfl,rfl,rfl,rfl,rfl⟩:=H
  go_enter Try.func83,Try.ntmps83
  go_wp2_with (first|((with_reducible refine zK (N:=2) rfl ?_);refine zI ?hg (N:=2) ?hd (cs:=#[.int .i64 0,.int .i64 0,.string (⟨#[]⟩ : ByteArray)]) (t:=25) ?hr ?_;(case hd=>rfl);(case hg=>rfl);(case hr=>go_simp <;> rfl);intro gb111 hg w3 hbox hb;have BK111:=zh (hbox);have hH_:=cH jG hb hg;have GW111:=zh hH_.1;have GE111:=GW111;replace HB:=zh hH_.2;clear hb hbox hg hH_;obtain ⟨hcz4_0,hcz4_1,hcz4_2,hfz4_0,hfz4_1,hfz4_2⟩:=cB3 BK111.out))
  refine bodyPost_ret (results_ctt rfl _ _ gb111 25 #[.int .i64 0,.int .i64 0,.string (⟨#[]⟩ : ByteArray)] (0,0) _ rfl jBY Try.underlying25 rfl jA) rfl ?_;exact ⟨jF,jCg⟩
 rw [if_neg c2] at H;have c2b0 : ((a0.size : Int) == 0)=false:=zY.mpr c2;have c2b1 : ((a0.size : Int) != 0)=true:=zZ.mpr c2
 by_cases c5 : 0<(a0.size : Int)
 ·
  rw [if_pos c5] at H
  have c5b0 : decide (0<(a0.size : Int))=true:=decide_eq_true c5;have c5b1 : decide (0<a0.size)=true:=decide_eq_true jH;clear c5;have HC7:=zh H;clear H
  go_enter Try.func83,Try.ntmps83
  go_upto_block 0 with (first|((with_reducible refine zK (N:=2) rfl ?_);refine zI ?hg (N:=2) ?hd (cs:=#[.int .i64 0,.int .i64 0,.string (⟨#[]⟩ : ByteArray)]) (t:=25) ?hr ?_;(case hd=>rfl);(case hg=>rfl);(case hr=>go_simp <;> rfl);intro gb111 hg w8 hbox hb;have BK111:=zh (hbox);have hH_:=cH jG hb hg;have GW111:=zh hH_.1;have GE111:=GW111;replace HB:=zh hH_.2;clear hb hbox hg hH_;have p6 : 0≤(0 : Int):=jH;have q6 : 0<a0.size:=(by have : (0 : Int)<(a0.size : Int):=zy jE;omega);have hx6 : ∀ h : 0<a0.size,((a0[0]'h).toNat : Int)=bt a0 0:=bt_at a0 0;clear p6;have qi6 : (0<(a0.size : Int))=True:=eq_true (zy jE);replace q6:=eq_true q6)|((with_reducible refine zK (N:=5) rfl ?_);refine zI ?hg (N:=5) ?hd (cs:=#[.int .i64 0,.int .i64 0,.string (⟨#[]⟩ : ByteArray)]) (t:=25) ?hr ?_;(case hd=>rfl);(case hg=>rfl);(case hr=>go_simp <;> rfl);intro gb112 hg w9 hbox hb;have BK112:=zh (hbox);have hH_:=cH jCg hb hg;have GW112:=zh hH_.1;have GE112:=GW112;replace HB:=zh hH_.2;have NB111_112:=zh ((by rw [hg];exact yc (yi (g:=gb111) (o:=.cells #[.int .i64 0,.int .i64 0,.string (⟨#[]⟩ : ByteArray)] 25 (0,0)) jB1) : gb111≠gb112));have NB112_111:=zh NB111_112.out.symm;replace BK111:=zh (cD BK111.out jB1 hb);clear hb hbox hg hH_;have hnb10:=NB112_111.out;have hnc10:=NB111_112.out;obtain ⟨hcz11_0,hcz11_1,hcz11_2,hfz11_0,hfz11_1,hfz11_2⟩:=cB3 BK112.out))
  (try simp only [Act.put,zi,zj,zk])
  go_cut [6] (fun v6 wc => ∃ (kq : Nat) (x6_6 : Int) (x112000_6 : Int) (x112001_6 : Int) (x112002_6 : ByteArray) (x113002_6 : ByteArray),v6 = .int .i64 x6_6∧Aside0 (F4.j1 kq a0 x6_6 (wrap64 (bt a0 0)) 0 x113002_6=some (r1,r2,r3,r4,r5))∧Aside0 (kq≤k)∧Aside0 (wc.heap[gb111]? = some (.cells #[.int .i64 x112000_6,.int .i64 x112001_6,.string x112002_6] 25 (0,0)))∧Aside0 (wc.heap[gb112]? = some (.cells #[.int .i64 (wrap64 (bt a0 0)),.int .i64 0,.string x113002_6] 25 (0,0)))∧Aside0 (Below w.heap.size w wc))
  case first =>
   have H:=HC7.out;clear HC7
   by_cases c12 : (wrap64 (bt a0 0))=0
   ·
    rw [if_pos c12] at H
    have c12b0 : ((wrap64 (bt a0 0)) == 0)=true:=ya.mpr c12;have c12b1 : ((wrap64 (bt a0 0)) != 0)=false:=zX.mpr c12;clear c12;(first|rw [c12b0]|(simp only [zG,zH];rw [c12b0])|skip)
    by_cases c13 : 1≤(a0.size : Int)
    ·
     rw [if_pos c13] at H
     have c13b0:=eq_true c13;have c13b1 : decide (1≤(a0.size : Int))=true:=decide_eq_true c13;clear c13;simp only [Option.some.injEq,Prod.mk.injEq] at H;obtain ⟨rfl,rfl,rfl,rfl,rfl⟩:=H
     try go_wp2
     have n0_ : Aside0 ((((w9.setCell ⟨gb112,0,none⟩ (.int .i64 (wrap64 (bt a0 0)))).setCell ⟨gb112,1,none⟩ (.int .i64 0)).setCell ⟨gb112,2,none⟩ (.string (⟨#[]⟩ : ByteArray))).heap[gb111]? = some (.cells #[.int .i64 0,.int .i64 0,.string (⟨#[]⟩ : ByteArray)] 25 (0,0))):=⟨jA1⟩;have n1_ : Aside0 ((((w9.setCell ⟨gb112,0,none⟩ (.int .i64 (wrap64 (bt a0 0)))).setCell ⟨gb112,1,none⟩ (.int .i64 0)).setCell ⟨gb112,2,none⟩ (.string (⟨#[]⟩ : ByteArray))).heap[gb112]? = some (.cells #[.int .i64 (wrap64 (bt a0 0)),.int .i64 0,.string (⟨#[]⟩ : ByteArray)] 25 (0,0))):=⟨jA2⟩;have n2_ : Aside0 (Below w.heap.size w (((w9.setCell ⟨gb112,0,none⟩ (.int .i64 (wrap64 (bt a0 0)))).setCell ⟨gb112,1,none⟩ (.int .i64 0)).setCell ⟨gb112,2,none⟩ (.string (⟨#[]⟩ : ByteArray)))):=⟨jo⟩;(try clear BK111);(try clear BK112);(try clear HB);generalize (((w9.setCell ⟨gb112,0,none⟩ (.int .i64 (wrap64 (bt a0 0)))).setCell ⟨gb112,1,none⟩ (.int .i64 0)).setCell ⟨gb112,2,none⟩ (.string (⟨#[]⟩ : ByteArray)))=w14 at n0_ n1_ n2_ ⊢;have BK111:=n0_;have BK112:=n1_;have HB:=n2_;clear n0_ n1_ n2_;replace BK111:=zh (zf BK111.out);replace BK112:=zh (zf BK112.out);replace HB:=zh (zc HB.out);refine start_ (n:=6) (S:=fun w' => w'.cell? ⟨gb112,0,none⟩=some (.int .i64 (wrap64 (bt a0 0)))∧w'.cell? ⟨gb112,1,none⟩=some (.int .i64 0)∧w'.cell? ⟨gb112,2,none⟩=some (.string (⟨#[]⟩ : ByteArray))) (ds:=[]) (bm_ 0 6) jA rfl rfl ⟨(zz BK112.out 0).trans rfl,(zz BK112.out 1).trans rfl,(zz BK112.out 2).trans rfl⟩ (fun hHeld=>?_);generalize w14.drew=w15 at BK111 BK112 HB hHeld ⊢;refine pure_ (i:=1) (N:=some 22) (v:=?_) (a':=?_) #[false,true,false,false,false,false] rfl rfl jA (fun _ _ _ h=>h) (Or.inl ⟨by rfl,?_⟩) ?_ ?_;rotate_left;exact jb;rotate_left;exact jc
     refine pure_ (i:=2) (N:=some 23) (v:=?_) (a':=?_) #[false,true,true,false,false,false] rfl rfl jA (fun _ _ _ h=>h) (Or.inl ⟨by rfl,?_⟩) ?_ ?_;rotate_left;exact jb;rotate_left;exact jc
     refine take_ (i:=0) (N:=some 21) (v:=?_) (a':=?_) (bm_ 3 6) rfl rfl jA (fun _ _ _ h=>h) (Or.inl ⟨by rfl,?_⟩) hHeld ?_ ?_;rotate_left
     ·
      rintro w' ⟨s0,s1,s2⟩
      go_simp
      with_reducible rfl
     rotate_left
     exact jc
     refine one_ (i:=3) (N:=none) (bm_ 4 6) rfl rfl jA jB (fun K hK=>?_);have hs16 : w15.cell? ⟨gb111,0,none⟩=some (.int .i64 0):=(zz BK111.out 0).trans rfl;have hfs16:=zA BK111.out 0;have hns16_1:=NB112_111.out;have hms16_1:=NB111_112.out;have hs17 : w15.cell? ⟨gb111,1,none⟩=some (.int .i64 0):=(zz BK111.out 1).trans rfl;have hfs17:=zA BK111.out 1;have hns17_1:=NB112_111.out;have hms17_1:=NB111_112.out;have hs18 : w15.cell? ⟨gb111,2,none⟩=some (.string (⟨#[]⟩ : ByteArray)):=(zz BK111.out 2).trans rfl;have hfs18:=zA BK111.out 2;have hns18_1:=NB112_111.out;have hms18_1:=NB111_112.out;refine skip_ (w1:=?_) (by rfl) rfl ?_ ?_;rotate_left
     ·
      go_simp
      rfl
     refine hK.out _ _ ⟨((zR (p:=⟨gb111,_,none⟩) NB112_111.out _).trans (((zR (p:=⟨gb111,_,none⟩) NB112_111.out _).trans (((zR (p:=⟨gb111,_,none⟩) NB112_111.out _).trans (hHeld.1)))))),((zR (p:=⟨gb111,_,none⟩) NB112_111.out _).trans (((zR (p:=⟨gb111,_,none⟩) NB112_111.out _).trans (((zR (p:=⟨gb111,_,none⟩) NB112_111.out _).trans (hHeld.2.1)))))),((zR (p:=⟨gb111,_,none⟩) NB112_111.out _).trans (((zR (p:=⟨gb111,_,none⟩) NB112_111.out _).trans (((zR (p:=⟨gb111,_,none⟩) NB112_111.out _).trans (hHeld.2.2))))))⟩ (fun hHeld=>?_);clear hK K;refine pure_ (i:=4) (N:=some 3) (v:=?_) (a':=?_) (bm_ 5 6) rfl rfl jA (fun _ _ _ h=>h) (Or.inl ⟨by rfl,?_⟩) ?_ ?_;rotate_left;exact jb;rotate_left;exact jc
     refine pure_ (i:=5) (N:=some 4) (v:=?_) (a':=?_) (bm_ 6 6) rfl rfl jA (fun _ _ _ h=>h) (Or.inl ⟨by rfl,?_⟩) ?_ ?_;rotate_left;exact jb;rotate_left;exact jc
     refine done_ jA ?_
     try go_wp2
     refine bodyPost_ret (results_ctt rfl _ _ gb111 25 #[.int .i64 (wrap64 (bt a0 0)),.int .i64 0,.string (⟨#[]⟩ : ByteArray)] (0,0) _ rfl jCh Try.underlying25 rfl jA) rfl ?_;exact ⟨jF,jo⟩
    rw [if_neg c13] at H;exact absurd H (by simp)
   rw [if_neg c12] at H;have c12b0 : ((wrap64 (bt a0 0)) == 0)=false:=zY.mpr c12;have c12b1 : ((wrap64 (bt a0 0)) != 0)=true:=zZ.mpr c12;(first|rw [c12b0]|(simp only [zG,zH];rw [c12b0])|skip)
   by_cases c19 : (wrap64 (bt a0 0))=1
   ·
    rw [if_pos c19] at H
    have c19b0 : ((wrap64 (bt a0 0)) == 1)=true:=ya.mpr c19;have c19b1 : ((wrap64 (bt a0 0)) != 1)=false:=zX.mpr c19;clear c19;have H':=zh H;clear H
    go_wp2
    go_meet
    case rel=>exact ⟨_,(1),(0),(0),((⟨#[]⟩ : ByteArray)),((⟨#[]⟩ : ByteArray)),jC,H',⟨jY⟩,⟨jA1⟩,⟨jA2⟩,⟨jo⟩⟩
   rw [if_neg c19] at H;have c19b0 : ((wrap64 (bt a0 0)) == 1)=false:=zY.mpr c19;have c19b1 : ((wrap64 (bt a0 0)) != 1)=true:=zZ.mpr c19
   by_cases c20 : (wrap64 (bt a0 0))=2
   ·
    rw [if_pos c20] at H
    have c20b0 : ((wrap64 (bt a0 0)) == 2)=true:=ya.mpr c20;have c20b1 : ((wrap64 (bt a0 0)) != 2)=false:=zX.mpr c20;clear c20;have H':=zh H;clear H
    go_wp2
    go_meet
    case rel=>exact ⟨_,(8),(0),(0),((⟨#[]⟩ : ByteArray)),((⟨#[]⟩ : ByteArray)),jC,H',⟨jY⟩,⟨jA1⟩,⟨jA2⟩,⟨jo⟩⟩
   rw [if_neg c20] at H;have c20b0 : ((wrap64 (bt a0 0)) == 2)=false:=zY.mpr c20;have c20b1 : ((wrap64 (bt a0 0)) != 2)=true:=zZ.mpr c20;have HC21:=zh H;clear H
   go_upto_if 28 with (fail)
   go_cut [28] (fun v28 wc => ∃ (kq : Nat) (x28_20 : Bool),v28 = .bool x28_20∧Aside0 (F4.j0 kq a0 x28_20 (wrap64 (bt a0 0)) 0 (⟨#[]⟩ : ByteArray)=some (r1,r2,r3,r4,r5))∧Aside0 (kq≤k)∧Aside0 (wc.heap[gb111]? = some (.cells #[.int .i64 0,.int .i64 0,.string (⟨#[]⟩ : ByteArray)] 25 (0,0)))∧Aside0 (wc.heap[gb112]? = some (.cells #[.int .i64 (wrap64 (bt a0 0)),.int .i64 0,.string (⟨#[]⟩ : ByteArray)] 25 (0,0)))∧Aside0 (Below w.heap.size w wc))
   case first =>
    have H:=HC21.out;clear HC21
    by_cases c22 : (wrap64 (bt a0 0))=3
    ·
     rw [if_pos c22] at H
     have c22b0 : ((wrap64 (bt a0 0)) == 3)=true:=ya.mpr c22;have c22b1 : ((wrap64 (bt a0 0)) != 3)=false:=zX.mpr c22;clear c22;(first|rw [c22b0]|(simp only [zG,zH];rw [c22b0])|skip);have H':=zh H;clear H
     go_wp2
     go_meet
     case rel=>exact ⟨_,(((wrap64 (bt a0 0)) == 3)),jC,H',⟨jY⟩,⟨jA1⟩,⟨jA2⟩,⟨jo⟩⟩
    rw [if_neg c22] at H;have c22b0 : ((wrap64 (bt a0 0)) == 3)=false:=zY.mpr c22;have c22b1 : ((wrap64 (bt a0 0)) != 3)=true:=zZ.mpr c22;(first|rw [c22b0]|(simp only [zG,zH];rw [c22b0])|skip)
    by_cases c23 : (wrap64 (bt a0 0))=4
    ·
     rw [if_pos c23] at H
     have c23b0 : ((wrap64 (bt a0 0)) == 4)=true:=ya.mpr c23;have c23b1 : ((wrap64 (bt a0 0)) != 4)=false:=zX.mpr c23;clear c23;have H':=zh H;clear H
     go_wp2
     go_meet
     case rel=>exact ⟨_,(((wrap64 (bt a0 0)) == 4)),jC,H',⟨jY⟩,⟨jA1⟩,⟨jA2⟩,⟨jo⟩⟩
    rw [if_neg c23] at H;have c23b0 : ((wrap64 (bt a0 0)) == 4)=false:=zY.mpr c23;have c23b1 : ((wrap64 (bt a0 0)) != 4)=true:=zZ.mpr c23;have H':=zh H;clear H
    go_wp2
    go_meet
    case rel=>exact ⟨_,(((wrap64 (bt a0 0)) == 5)),jC,H',⟨jY⟩,⟨jA1⟩,⟨jA2⟩,⟨jo⟩⟩
   case rest =>
    clear HC21
    try clear c1 c2 c2b0 c2b1
    try clear p2
    try clear c5 c5b0 c5b1
    try clear p6
    try clear q6
    try clear hx6
    try clear qi6
    try clear c8 c10 c12 c12b0 c12b1 c13 c13b0 c13b1 c19 c19b0 c19b1 c20 c20b0 c20b1 c22 c22b0 c22b1 c23 c23b0 c23b1
    try clear hcz11_0 hcz11_1 hcz11_2
    try clear hcz4_0 hcz4_1 hcz4_2
    try clear hfz11_0 hfz11_1 hfz11_2
    try clear hfz4_0 hfz4_1 hfz4_2
    try clear p6
    try clear q6
    obtain ⟨kq,x28_20,rfl,HA,HJ20,BK111,BK112,HB⟩:=hcut
    cases kq with
    | zero=>exact absurd HA.out (by simp [F4.j0])
    | succ kj20 =>
     have H:=HA.out;clear HA;simp only [F4.j0] at H
     by_cases c24 : x28_20=true
     ·
      subst c24
      rw [if_pos rfl] at H
      by_cases c25 : (a0.size : Int)<3
      ·
       rw [if_pos c25] at H
       have c25b0 : decide ((a0.size : Int)<3)=true:=decide_eq_true c25;have c25b1 : decide (a0.size<3)=true:=decide_eq_true jH;clear c25;simp only [Option.some.injEq,Prod.mk.injEq] at H;obtain ⟨rfl,rfl,rfl,rfl,rfl⟩:=H;have hnb26:=NB111_112.out;have hnc26:=NB112_111.out;obtain ⟨hcz27_0,hcz27_1,hcz27_2,hfz27_0,hfz27_1,hfz27_2⟩:=cB3 BK111.out
       go_wp2
       refine bodyPost_ret (results_ctt rfl _ _ gb111 25 #[.int .i64 0,.int .i64 0,.string (⟨#[]⟩ : ByteArray)] (0,0) _ rfl jBY Try.underlying25 rfl jA) rfl ?_;exact ⟨jF,jo⟩
      rw [if_neg c25] at H;have c25b0 : decide ((a0.size : Int)<3)=false:=decide_eq_false c25;have c25b1 : decide (a0.size<3)=false:=decide_eq_false jH;clear c25
      by_cases c28 : 1≤3
      ·
       rw [if_pos c28] at H
       have c28b0:=eq_true c28;have c28b1 : decide (1≤3)=true:=decide_eq_true c28;clear c28
       by_cases c29 : 3≤(a0.size : Int)
       ·
        rw [if_pos c29] at H
        have c29b0:=eq_true c29;have c29b1 : decide (3≤(a0.size : Int))=true:=decide_eq_true c29;clear c29;replace H:=zT.mp H;obtain ⟨t113,A300,H⟩:=H;have A30:=zh A300;clear A300
        by_cases c31 : (a0.size : Int)<(wrap64 (3+t113))
        ·
         rw [if_pos c31] at H
         have c31b0 : decide ((a0.size : Int)<(wrap64 (3+t113)))=true:=decide_eq_true c31;clear c31;simp only [Option.some.injEq,Prod.mk.injEq] at H;obtain ⟨rfl,rfl,rfl,rfl,rfl⟩:=H
         go_wp2_with (first|((with_reducible refine zJ (f:=92) rfl ?_);refine yj (some 38) rfl rfl Try.func92 jA rfl #[.string (a0.extract 1 3)] rfl jD ?_;(with_reducible refine (Fv.calls kj20  (a0.extract 1 3) t113 _ A30.out).mono ?_);rintro e w' ⟨rfl,⟨nd,rfl⟩⟩;refine ⟨_,rfl,?_⟩;(try (rw [drewN_self wc];generalize hq_ : World.drewN wc _=wc;replace BK111 : Aside0 (wc.heap[gb111]? = some (.cells #[.int .i64 0,.int .i64 0,.string (⟨#[]⟩ : ByteArray)] 25 (0,0))):=⟨jB2⟩;replace BK112 : Aside0 (wc.heap[gb112]? = some (.cells #[.int .i64 (wrap64 (bt a0 0)),.int .i64 0,.string (⟨#[]⟩ : ByteArray)] 25 (0,0))):=⟨jB3⟩;replace HB : Aside0 (Below w.heap.size w wc):=⟨jB4⟩;clear hq_));have hnb32:=NB111_112.out;have hnc32:=NB112_111.out;obtain ⟨hcz33_0,hcz33_1,hcz33_2,hfz33_0,hfz33_1,hfz33_2⟩:=cB3 BK111.out))
         refine bodyPost_ret (results_ctt rfl _ _ gb111 25 #[.int .i64 0,.int .i64 0,.string (⟨#[]⟩ : ByteArray)] (0,0) _ rfl jBY Try.underlying25 rfl jA) rfl ?_;exact ⟨jF,jo⟩
        rw [if_neg c31] at H;have c31b0 : decide ((a0.size : Int)<(wrap64 (3+t113)))=false:=decide_eq_false c31;clear c31
        by_cases c34 : 3≤(wrap64 (3+t113))
        ·
         rw [if_pos c34] at H
         have c34b0:=eq_true c34;have c34b1 : decide (3≤(wrap64 (3+t113)))=true:=decide_eq_true c34
         by_cases c35 : (wrap64 (3+t113))≤(a0.size : Int)
         ·
          rw [if_pos c35] at H
          have c35b0:=eq_true c35;have c35b1 : decide ((wrap64 (3+t113))≤(a0.size : Int))=true:=decide_eq_true c35;obtain ⟨ji36,hji36⟩ : ∃ j_ : Int,(wrap64 (3+t113))=j_:=⟨_,rfl⟩;replace H : (if 0≤(ji36) then (some ((wrap64 (bt a0 0)),0,a0.extract 3 ((ji36) : Int).toNat,a0.extract ((ji36) : Int).toNat a0.size,true)) else (none))=some (r1,r2,r3,r4,r5):=by first|(rw [hji36] at H;exact H)|(simp only [hji36] at H ⊢;exact H)
          (try rw [hji36] at c31b0);(try rw [hji36] at c34b0);(try rw [hji36] at c34b1);(try rw [hji36] at c34);(try rw [hji36] at c35b0);(try rw [hji36] at c35b1);(try rw [hji36] at c35);(try rw [hji36] at A30);have hji36w : (IntKind.i64.wrap (3+t113))=ji36:=(zG _).trans hji36
          by_cases c37 : 0≤(ji36)
          ·
           rw [if_pos c37] at H
           have c37b0:=eq_true c37;have c37b1 : decide (0≤(ji36))=true:=decide_eq_true c37;clear c37;have c38b0:=eq_true (zy jE : (ji36)≤(a0.size : Int));simp only [Option.some.injEq,Prod.mk.injEq] at H;obtain ⟨rfl,rfl,rfl,rfl,rfl⟩:=H
           try go_wp2_with (first|((with_reducible refine zJ (f:=92) rfl ?_);refine yj (some 38) rfl rfl Try.func92 jA rfl #[.string (a0.extract 1 3)] rfl jD ?_;(with_reducible refine (Fv.calls kj20  (a0.extract 1 3) t113 _ A30.out).mono ?_);rintro e w' ⟨rfl,⟨nd,rfl⟩⟩;refine ⟨_,rfl,?_⟩;(try (rw [drewN_self wc];generalize hq_ : World.drewN wc _=wc;replace BK111 : Aside0 (wc.heap[gb111]? = some (.cells #[.int .i64 0,.int .i64 0,.string (⟨#[]⟩ : ByteArray)] 25 (0,0))):=⟨jB2⟩;replace BK112 : Aside0 (wc.heap[gb112]? = some (.cells #[.int .i64 (wrap64 (bt a0 0)),.int .i64 0,.string (⟨#[]⟩ : ByteArray)] 25 (0,0))):=⟨jB3⟩;replace HB : Aside0 (Below w.heap.size w wc):=⟨jB4⟩;clear hq_));have hnb39:=NB112_111.out;have hnc39:=NB111_112.out;obtain ⟨hcz40_0,hcz40_1,hcz40_2,hfz40_0,hfz40_1,hfz40_2⟩:=cB3 BK112.out))
           have n0_ : Aside0 ((wc.setCell ⟨gb112,2,none⟩ (.string (a0.extract 3 ((ji36) : Int).toNat))).heap[gb111]? = some (.cells #[.int .i64 0,.int .i64 0,.string (⟨#[]⟩ : ByteArray)] 25 (0,0))):=⟨jB5⟩;have n1_ : Aside0 ((wc.setCell ⟨gb112,2,none⟩ (.string (a0.extract 3 ((ji36) : Int).toNat))).heap[gb112]? = some (.cells #[.int .i64 (wrap64 (bt a0 0)),.int .i64 0,.string (a0.extract 3 ((ji36) : Int).toNat)] 25 (0,0))):=⟨by (with_reducible repeat first|apply ze|apply zf|apply zg);refine zL (cs:=#[.int .i64 (wrap64 (bt a0 0)),.int .i64 0,.string (⟨#[]⟩ : ByteArray)]) ?_ 2 _ rfl;(with_reducible repeat first|apply ze|apply zf|apply zg);exact BK112.out⟩;have n2_ : Aside0 (Below w.heap.size w (wc.setCell ⟨gb112,2,none⟩ (.string (a0.extract 3 ((ji36) : Int).toNat)))):=⟨jo⟩;(try clear BK111);(try clear BK112);(try clear HB);generalize (wc.setCell ⟨gb112,2,none⟩ (.string (a0.extract 3 ((ji36) : Int).toNat)))=w41 at n0_ n1_ n2_ ⊢;have BK111:=n0_;have BK112:=n1_;have HB:=n2_;clear n0_ n1_ n2_;replace BK111:=zh (zf BK111.out);replace BK112:=zh (zf BK112.out);replace HB:=zh (zc HB.out);refine start_ (n:=8) (S:=fun w' => w'.cell? ⟨gb112,0,none⟩=some (.int .i64 (wrap64 (bt a0 0)))∧w'.cell? ⟨gb112,1,none⟩=some (.int .i64 0)∧w'.cell? ⟨gb112,2,none⟩=some (.string (a0.extract 3 ((ji36) : Int).toNat))) (ds:=[]) (bm_ 0 8) jA rfl rfl ⟨(zz BK112.out 0).trans rfl,(zz BK112.out 1).trans rfl,(zz BK112.out 2).trans rfl⟩ (fun hHeld=>?_);refine with_tabW F4.tab22 F4.bits22 (fun HT_ HW_=>?_);generalize w41.drew=w42 at BK111 BK112 HB hHeld ⊢;refine pure_ (i:=1) (N:=some 51) (v:=?_) (a':=?_) #[false,true,false,false,false,false,false,false] rfl rfl (any_of HT_.out jA) (fun _ _ _ h=>h) (Or.inl ⟨by rfl,?_⟩) ?_ ?_;rotate_left;exact jb;rotate_left;exact jc
           refine pure_ (i:=2) (N:=some 52) (v:=?_) (a':=?_) #[false,true,true,false,false,false,false,false] rfl rfl (any_of HT_.out jA) (fun _ _ _ h=>h) (Or.inl ⟨by rfl,?_⟩) ?_ ?_;rotate_left;exact jb;rotate_left;exact jc
           refine pure_ (i:=3) (N:=some 53) (v:=?_) (a':=?_) #[false,true,true,true,false,false,false,false] rfl rfl (any_of HT_.out jA) (fun _ _ _ h=>h) (Or.inl ⟨by rfl,?_⟩) ?_ ?_;rotate_left;exact jb;rotate_left;exact jc
           refine pure_ (i:=4) (N:=some 54) (v:=?_) (a':=?_) #[false,true,true,true,true,false,false,false] rfl rfl (any_of HT_.out jA) (fun _ _ _ h=>h) (Or.inl ⟨by rfl,?_⟩) ?_ ?_;rotate_left;exact jb;rotate_left;exact jc
           refine take_ (i:=0) (N:=some 50) (v:=?_) (a':=?_) (bm_ 5 8) rfl rfl (yo HT_.out HW_.out jA) (fun _ _ _ h=>h) (Or.inl ⟨by rfl,?_⟩) hHeld ?_ ?_;rotate_left
           ·
            rintro w' ⟨s0,s1,s2⟩
            go_simp
            with_reducible rfl
           rotate_left
           exact jc
           refine one_ (i:=5) (N:=none) (bm_ 6 8) rfl rfl (one_of HT_.out jA) jB (fun K hK=>?_);have hs43 : w42.cell? ⟨gb111,0,none⟩=some (.int .i64 0):=(zz BK111.out 0).trans rfl;have hfs43:=zA BK111.out 0;have hns43_1:=NB112_111.out;have hms43_1:=NB111_112.out;have hs44 : w42.cell? ⟨gb111,1,none⟩=some (.int .i64 0):=(zz BK111.out 1).trans rfl;have hfs44:=zA BK111.out 1;have hns44_1:=NB112_111.out;have hms44_1:=NB111_112.out;have hs45 : w42.cell? ⟨gb111,2,none⟩=some (.string (⟨#[]⟩ : ByteArray)):=(zz BK111.out 2).trans rfl;have hfs45:=zA BK111.out 2;have hns45_1:=NB112_111.out;have hms45_1:=NB111_112.out;refine skip_ (w1:=?_) (by rfl) rfl ?_ ?_;rotate_left
           ·
            go_simp
            rfl
           refine hK.out _ _ ⟨((zR (p:=⟨gb111,_,none⟩) NB112_111.out _).trans (((zR (p:=⟨gb111,_,none⟩) NB112_111.out _).trans (((zR (p:=⟨gb111,_,none⟩) NB112_111.out _).trans (hHeld.1)))))),((zR (p:=⟨gb111,_,none⟩) NB112_111.out _).trans (((zR (p:=⟨gb111,_,none⟩) NB112_111.out _).trans (((zR (p:=⟨gb111,_,none⟩) NB112_111.out _).trans (hHeld.2.1)))))),((zR (p:=⟨gb111,_,none⟩) NB112_111.out _).trans (((zR (p:=⟨gb111,_,none⟩) NB112_111.out _).trans (((zR (p:=⟨gb111,_,none⟩) NB112_111.out _).trans (hHeld.2.2))))))⟩ (fun hHeld=>?_);clear hK K;refine pure_ (i:=6) (N:=some 3) (v:=?_) (a':=?_) (bm_ 7 8) rfl rfl (any_of HT_.out jA) (fun _ _ _ h=>h) (Or.inl ⟨by rfl,?_⟩) ?_ ?_;rotate_left;exact jb;rotate_left;exact jc
           refine pure_ (i:=7) (N:=some 4) (v:=?_) (a':=?_) (bm_ 8 8) rfl rfl (any_of HT_.out jA) (fun _ _ _ h=>h) (Or.inl ⟨by rfl,?_⟩) ?_ ?_;rotate_left;exact jb;rotate_left;exact jc
           refine done_ (done_of HT_.out jA) ?_
           try go_wp2
           refine bodyPost_ret (results_ctt rfl _ _ gb111 25 #[.int .i64 (wrap64 (bt a0 0)),.int .i64 0,.string (a0.extract 3 ((ji36) : Int).toNat)] (0,0) _ rfl jCh Try.underlying25 rfl jA) rfl ?_;exact ⟨by first|rfl|(simp [yt,yu] <;> rfl)|(simp only [← hji36];first|rfl|(simp [yt,yu] <;> rfl))|(simp [*,yt,yu] <;> rfl),jo⟩
          rw [if_neg c37] at H;exact absurd H (by simp)
         rw [if_neg c35] at H;exact absurd H (by simp)
        rw [if_neg c34] at H;exact absurd H (by simp)
       rw [if_neg c29] at H;exact absurd H (by simp)
      rw [if_neg c28] at H;exact absurd H (by simp)
     replace c24:=yb.mpr c24;subst c24;rw [if_neg (show ¬ (false=true) by decide)] at H;simp only [Option.some.injEq,Prod.mk.injEq] at H;obtain ⟨rfl,rfl,rfl,rfl,rfl⟩:=H;have hnb46:=NB111_112.out;have hnc46:=NB112_111.out;obtain ⟨hcz47_0,hcz47_1,hcz47_2,hfz47_0,hfz47_1,hfz47_2⟩:=cB3 BK111.out
     go_wp2
     refine bodyPost_ret (results_ctt rfl _ _ gb111 25 #[.int .i64 0,.int .i64 0,.string (⟨#[]⟩ : ByteArray)] (0,0) _ rfl jBY Try.underlying25 rfl jA) rfl ?_;exact ⟨jF,jo⟩
  case rest =>
   clear HC7
   try clear c1 c2 c2b0 c2b1
   try clear p2
   try clear c3 c4 c5 c5b0 c5b1
   try clear p6
   try clear q6
   try clear hx6
   try clear qi6
   try clear c8 c9 c10 c12 c12b0 c12b1 c13 c13b0 c13b1 c19 c19b0 c19b1 c20 c20b0 c20b1 c22 c22b0 c22b1 c23 c23b0 c23b1 c24 c25 c25b0 c25b1 c26 c28 c28b0 c28b1 c29 c29b0 c29b1 c31 c31b0 c32 c34 c34b0 c34b1 c35 c35b0 c35b1 c37 c37b0 c37b1 c38 c38b0 c39 c46
   try clear hcz11_0 hcz11_1 hcz11_2
   try clear hcz27_0 hcz27_1 hcz27_2
   try clear hcz33_0 hcz33_1 hcz33_2
   try clear hcz40_0 hcz40_1 hcz40_2
   try clear hcz47_0 hcz47_1 hcz47_2
   try clear hcz4_0 hcz4_1 hcz4_2
   try clear hfz11_0 hfz11_1 hfz11_2
   try clear hfz27_0 hfz27_1 hfz27_2
   try clear hfz33_0 hfz33_1 hfz33_2
   try clear hfz40_0 hfz40_1 hfz40_2
   try clear hfz47_0 hfz47_1 hfz47_2
   try clear hfz4_0 hfz4_1 hfz4_2
   try clear p2
   try clear p6
   try clear q6
   obtain ⟨kq,x6_6,x112000_6,x112001_6,x112002_6,x113002_6,rfl,HA,HJ6,BK111,BK112,HB⟩:=hcut
   cases kq with
   | zero=>exact absurd HA.out (by simp [F4.j1])
   | succ kj6 =>
    have H:=HA.out;clear HA;simp only [F4.j1] at H
    by_cases c48 : (a0.size : Int)<(wrap64 (1+x6_6))
    ·
     rw [if_pos c48] at H
     have c48b0 : decide ((a0.size : Int)<(wrap64 (1+x6_6)))=true:=decide_eq_true c48;clear c48;simp only [Option.some.injEq,Prod.mk.injEq] at H;obtain ⟨rfl,rfl,rfl,rfl,rfl⟩:=H;have hnb49:=NB111_112.out;have hnc49:=NB112_111.out;obtain ⟨hcz50_0,hcz50_1,hcz50_2,hfz50_0,hfz50_1,hfz50_2⟩:=cB3 BK111.out
     go_wp2
     refine bodyPost_ret (results_ctt rfl _ _ gb111 25 #[.int .i64 0,.int .i64 0,.string (⟨#[]⟩ : ByteArray)] (0,0) _ rfl jCi Try.underlying25 rfl jA) rfl ?_;exact ⟨jF,jo⟩
    rw [if_neg c48] at H;have c48b0 : decide ((a0.size : Int)<(wrap64 (1+x6_6)))=false:=decide_eq_false c48;clear c48
    by_cases c51 : x6_6=1
    ·
     rw [if_pos c51] at H
     have c51b0 : (x6_6 == 1)=true:=ya.mpr c51;have c51b1 : (x6_6 != 1)=false:=zX.mpr c51;clear c51
     by_cases c52 : 1<(a0.size : Int)
     ·
      rw [if_pos c52] at H
      have c52b0 : decide (1<(a0.size : Int))=true:=decide_eq_true c52;have c52b1 : decide (1<a0.size)=true:=decide_eq_true jH;clear c52;obtain ⟨ji54,hji54⟩ : ∃ j_ : Int,(wrap64 (1+x6_6))=j_:=⟨_,rfl⟩;replace H : (if 0≤(ji54) then (if (ji54)≤(a0.size : Int) then (some ((wrap64 (bt a0 0)),wrap64 (bt a0 1),x113002_6,a0.extract ((ji54) : Int).toNat a0.size,true)) else (none)) else (none))=some (r1,r2,r3,r4,r5):=by first|(rw [hji54] at H;exact H)|(simp only [hji54] at H ⊢;exact H)
      (try rw [hji54] at c48b0);have hji54w : (IntKind.i64.wrap (1+x6_6))=ji54:=(zG _).trans hji54
      by_cases c55 : 0≤(ji54)
      ·
       rw [if_pos c55] at H
       have c55b0:=eq_true c55;have c55b1 : decide (0≤(ji54))=true:=decide_eq_true c55;clear c55
       by_cases c56 : (ji54)≤(a0.size : Int)
       ·
        rw [if_pos c56] at H
        have c56b0:=eq_true c56;have c56b1 : decide ((ji54)≤(a0.size : Int))=true:=decide_eq_true c56;clear c56;simp only [Option.some.injEq,Prod.mk.injEq] at H;obtain ⟨rfl,rfl,rfl,rfl,rfl⟩:=H;have p53 : 0≤(1 : Int):=jH;have q53 : 1<a0.size:=(by have : (1 : Int)<(a0.size : Int):=zy jE;omega);have hx53 : ∀ h : 1<a0.size,((a0[1]'h).toNat : Int)=bt a0 1:=bt_at a0 1;clear p53;have qi53 : (1<(a0.size : Int))=True:=eq_true (zy jE);replace q53:=eq_true q53;have hnb57:=NB112_111.out;have hnc57:=NB111_112.out;obtain ⟨hcz58_0,hcz58_1,hcz58_2,hfz58_0,hfz58_1,hfz58_2⟩:=cB3 BK112.out
        try go_wp2
        have n0_ : Aside0 ((wc.setCell ⟨gb112,1,none⟩ (.int .i64 (wrap64 (bt a0 1)))).heap[gb111]? = some (.cells #[.int .i64 x112000_6,.int .i64 x112001_6,.string x112002_6] 25 (0,0))):=⟨jB5⟩;have n1_ : Aside0 ((wc.setCell ⟨gb112,1,none⟩ (.int .i64 (wrap64 (bt a0 1)))).heap[gb112]? = some (.cells #[.int .i64 (wrap64 (bt a0 0)),.int .i64 (wrap64 (bt a0 1)),.string x113002_6] 25 (0,0))):=⟨jCk⟩;have n2_ : Aside0 (Below w.heap.size w (wc.setCell ⟨gb112,1,none⟩ (.int .i64 (wrap64 (bt a0 1))))):=⟨jo⟩;(try clear BK111);(try clear BK112);(try clear HB);generalize (wc.setCell ⟨gb112,1,none⟩ (.int .i64 (wrap64 (bt a0 1))))=w59 at n0_ n1_ n2_ ⊢;have BK111:=n0_;have BK112:=n1_;have HB:=n2_;clear n0_ n1_ n2_;replace BK111:=zh (zf BK111.out);replace BK112:=zh (zf BK112.out);replace HB:=zh (zc HB.out);refine start_ (n:=8) (S:=fun w' => w'.cell? ⟨gb112,0,none⟩=some (.int .i64 (wrap64 (bt a0 0)))∧w'.cell? ⟨gb112,1,none⟩=some (.int .i64 (wrap64 (bt a0 1)))∧w'.cell? ⟨gb112,2,none⟩=some (.string x113002_6)) (ds:=[]) (bm_ 0 8) jA rfl rfl ⟨(zz BK112.out 0).trans rfl,(zz BK112.out 1).trans rfl,(zz BK112.out 2).trans rfl⟩ (fun hHeld=>?_);refine with_tabW F4.tab30 F4.bits30 (fun HT_ HW_=>?_);generalize w59.drew=w60 at BK111 BK112 HB hHeld ⊢;refine pure_ (i:=1) (N:=some 77) (v:=?_) (a':=?_) #[false,true,false,false,false,false,false,false] rfl rfl (any_of HT_.out jA) (fun _ _ _ h=>h) (Or.inl ⟨by rfl,?_⟩) ?_ ?_;rotate_left;exact jb;rotate_left;exact jc
        refine pure_ (i:=2) (N:=some 78) (v:=?_) (a':=?_) #[false,true,true,false,false,false,false,false] rfl rfl (any_of HT_.out jA) (fun _ _ _ h=>h) (Or.inl ⟨by rfl,?_⟩) ?_ ?_;rotate_left;exact jb;rotate_left;exact jc
        refine pure_ (i:=3) (N:=some 79) (v:=?_) (a':=?_) #[false,true,true,true,false,false,false,false] rfl rfl (any_of HT_.out jA) (fun _ _ _ h=>h) (Or.inl ⟨by rfl,?_⟩) ?_ ?_;rotate_left;exact jb;rotate_left;exact jc
        refine pure_ (i:=4) (N:=some 80) (v:=?_) (a':=?_) #[false,true,true,true,true,false,false,false] rfl rfl (any_of HT_.out jA) (fun _ _ _ h=>h) (Or.inl ⟨by rfl,?_⟩) ?_ ?_;rotate_left;exact jb;rotate_left;exact jc
        refine take_ (i:=0) (N:=some 76) (v:=?_) (a':=?_) (bm_ 5 8) rfl rfl (yo HT_.out HW_.out jA) (fun _ _ _ h=>h) (Or.inl ⟨by rfl,?_⟩) hHeld ?_ ?_;rotate_left
        ·
         rintro w' ⟨s0,s1,s2⟩
         go_simp
         with_reducible rfl
        rotate_left
        exact jc
        refine one_ (i:=5) (N:=none) (bm_ 6 8) rfl rfl (one_of HT_.out jA) jB (fun K hK=>?_);have hs61 : w60.cell? ⟨gb111,0,none⟩=some (.int .i64 x112000_6):=(zz BK111.out 0).trans rfl;have hfs61:=zA BK111.out 0;have hns61_1:=NB112_111.out;have hms61_1:=NB111_112.out;have hs62 : w60.cell? ⟨gb111,1,none⟩=some (.int .i64 x112001_6):=(zz BK111.out 1).trans rfl;have hfs62:=zA BK111.out 1;have hns62_1:=NB112_111.out;have hms62_1:=NB111_112.out;have hs63 : w60.cell? ⟨gb111,2,none⟩=some (.string x112002_6):=(zz BK111.out 2).trans rfl;have hfs63:=zA BK111.out 2;have hns63_1:=NB112_111.out;have hms63_1:=NB111_112.out;refine skip_ (w1:=?_) (by rfl) rfl ?_ ?_;rotate_left
        ·
         go_simp
         rfl
        refine hK.out _ _ ⟨((zR (p:=⟨gb111,_,none⟩) NB112_111.out _).trans (((zR (p:=⟨gb111,_,none⟩) NB112_111.out _).trans (((zR (p:=⟨gb111,_,none⟩) NB112_111.out _).trans (hHeld.1)))))),((zR (p:=⟨gb111,_,none⟩) NB112_111.out _).trans (((zR (p:=⟨gb111,_,none⟩) NB112_111.out _).trans (((zR (p:=⟨gb111,_,none⟩) NB112_111.out _).trans (hHeld.2.1)))))),((zR (p:=⟨gb111,_,none⟩) NB112_111.out _).trans (((zR (p:=⟨gb111,_,none⟩) NB112_111.out _).trans (((zR (p:=⟨gb111,_,none⟩) NB112_111.out _).trans (hHeld.2.2))))))⟩ (fun hHeld=>?_);clear hK K;refine pure_ (i:=6) (N:=some 3) (v:=?_) (a':=?_) (bm_ 7 8) rfl rfl (any_of HT_.out jA) (fun _ _ _ h=>h) (Or.inl ⟨by rfl,?_⟩) ?_ ?_;rotate_left;exact jb;rotate_left;exact jc
        refine pure_ (i:=7) (N:=some 4) (v:=?_) (a':=?_) (bm_ 8 8) rfl rfl (any_of HT_.out jA) (fun _ _ _ h=>h) (Or.inl ⟨by rfl,?_⟩) ?_ ?_;rotate_left;exact jb;rotate_left;exact jc
        refine done_ (done_of HT_.out jA) ?_
        try go_wp2
        refine bodyPost_ret (results_ctt rfl _ _ gb111 25 #[.int .i64 (wrap64 (bt a0 0)),.int .i64 (wrap64 (bt a0 1)),.string x113002_6] (0,0) _ rfl (by (with_reducible repeat first|apply ze|apply zf|apply zg);refine zL (cs:=#[.int .i64 (wrap64 (bt a0 0)),.int .i64 (wrap64 (bt a0 1)),.string x112002_6]) ?_ 2 _ rfl;(with_reducible repeat first|apply ze|apply zf|apply zg);refine zL (cs:=#[.int .i64 (wrap64 (bt a0 0)),.int .i64 x112001_6,.string x112002_6]) ?_ 1 _ rfl;(with_reducible repeat first|apply ze|apply zf|apply zg);refine zL (cs:=#[.int .i64 x112000_6,.int .i64 x112001_6,.string x112002_6]) ?_ 0 _ rfl;(with_reducible repeat first|apply ze|apply zf|apply zg);exact BK111.out) Try.underlying25 rfl jA) rfl ?_;exact ⟨by first|rfl|(simp [yt,yu] <;> rfl)|(simp only [← hji54];first|rfl|(simp [yt,yu] <;> rfl))|(simp [*,yt,yu] <;> rfl),jo⟩
       rw [if_neg c56] at H;exact absurd H (by simp)
      rw [if_neg c55] at H;exact absurd H (by simp)
     rw [if_neg c52] at H;exact absurd H (by simp)
    rw [if_neg c51] at H;have c51b0 : (x6_6 == 1)=false:=zY.mpr c51;have c51b1 : (x6_6 != 1)=true:=zZ.mpr c51
    by_cases c64 : 1<(a0.size : Int)
    ·
     rw [if_pos c64] at H
     have c64b0 : decide (1<(a0.size : Int))=true:=decide_eq_true c64;have c64b1 : decide (1<a0.size)=true:=decide_eq_true jH;clear c64
     by_cases c66 : (bt a0 1) > 127
     ·
      rw [if_pos c66] at H
      have c66b0 : decide (127<(bt a0 1))=true:=decide_eq_true c66;clear c66;simp only [Option.some.injEq,Prod.mk.injEq] at H;obtain ⟨rfl,rfl,rfl,rfl,rfl⟩:=H;have p65 : 0≤(1 : Int):=jH;have q65 : 1<a0.size:=(by have : (1 : Int)<(a0.size : Int):=zy jE;omega);have hx65 : ∀ h : 1<a0.size,((a0[1]'h).toNat : Int)=bt a0 1:=bt_at a0 1;clear p65;have qi65 : (1<(a0.size : Int))=True:=eq_true (zy jE);replace q65:=eq_true q65;have hnb67:=NB111_112.out;have hnc67:=NB112_111.out;obtain ⟨hcz68_0,hcz68_1,hcz68_2,hfz68_0,hfz68_1,hfz68_2⟩:=cB3 BK111.out
      go_wp2
      refine bodyPost_ret (results_ctt rfl _ _ gb111 25 #[.int .i64 0,.int .i64 0,.string (⟨#[]⟩ : ByteArray)] (0,0) _ rfl jCi Try.underlying25 rfl jA) rfl ?_;exact ⟨jF,jo⟩
     rw [if_neg c66] at H;have c66b0 : decide (127<(bt a0 1))=false:=decide_eq_false c66;clear c66
     by_cases c69 : 1≤9
     ·
      rw [if_pos c69] at H
      have c69b0:=eq_true c69;have c69b1 : decide (1≤9)=true:=decide_eq_true c69;clear c69
      by_cases c70 : 9≤(a0.size : Int)
      ·
       rw [if_pos c70] at H
       have c70b0:=eq_true c70;have c70b1 : decide (9≤(a0.size : Int))=true:=decide_eq_true c70;clear c70;replace H:=zT.mp H;obtain ⟨t114,A710,H⟩:=H;have A71:=zh A710;clear A710;obtain ⟨ji72,hji72⟩ : ∃ j_ : Int,(wrap64 (1+x6_6))=j_:=⟨_,rfl⟩;replace H : (if 0≤(ji72) then (if (ji72)≤(a0.size : Int) then (some ((wrap64 (bt a0 0)),wrap64 (t114 - 4611686018427387904),x113002_6,a0.extract ((ji72) : Int).toNat a0.size,true)) else (none)) else (none))=some (r1,r2,r3,r4,r5):=by first|(rw [hji72] at H;exact H)|(simp only [hji72] at H ⊢;exact H)
       (try rw [hji72] at c48b0);(try rw [hji72] at A71);have hji72w : (IntKind.i64.wrap (1+x6_6))=ji72:=(zG _).trans hji72
       by_cases c73 : 0≤(ji72)
       ·
        rw [if_pos c73] at H
        have c73b0:=eq_true c73;have c73b1 : decide (0≤(ji72))=true:=decide_eq_true c73;clear c73
        by_cases c74 : (ji72)≤(a0.size : Int)
        ·
         rw [if_pos c74] at H
         have c74b0:=eq_true c74;have c74b1 : decide ((ji72)≤(a0.size : Int))=true:=decide_eq_true c74;clear c74;simp only [Option.some.injEq,Prod.mk.injEq] at H;obtain ⟨rfl,rfl,rfl,rfl,rfl⟩:=H;have p65 : 0≤(1 : Int):=jH;have q65 : 1<a0.size:=(by have : (1 : Int)<(a0.size : Int):=zy jE;omega);have hx65 : ∀ h : 1<a0.size,((a0[1]'h).toNat : Int)=bt a0 1:=bt_at a0 1;clear p65;have qi65 : (1<(a0.size : Int))=True:=eq_true (zy jE);replace q65:=eq_true q65
         try go_wp2_with (first|((with_reducible refine zJ (f:=92) rfl ?_);refine yj (some 73) rfl rfl Try.func92 jA rfl #[.string (a0.extract 1 9)] rfl jD ?_;(with_reducible refine (Fv.calls kj6  (a0.extract 1 9) t114 _ A71.out).mono ?_);rintro e w' ⟨rfl,⟨nd,rfl⟩⟩;refine ⟨_,rfl,?_⟩;(try (rw [drewN_self wc];generalize hq_ : World.drewN wc _=wc;replace BK111 : Aside0 (wc.heap[gb111]? = some (.cells #[.int .i64 x112000_6,.int .i64 x112001_6,.string x112002_6] 25 (0,0))):=⟨jB2⟩;replace BK112 : Aside0 (wc.heap[gb112]? = some (.cells #[.int .i64 (wrap64 (bt a0 0)),.int .i64 0,.string x113002_6] 25 (0,0))):=⟨jB3⟩;replace HB : Aside0 (Below w.heap.size w wc):=⟨jB4⟩;clear hq_));have hnb75:=NB112_111.out;have hnc75:=NB111_112.out;obtain ⟨hcz76_0,hcz76_1,hcz76_2,hfz76_0,hfz76_1,hfz76_2⟩:=cB3 BK112.out))
         have n0_ : Aside0 ((wc.setCell ⟨gb112,1,none⟩ (.int .i64 (wrap64 (t114 - 4611686018427387904)))).heap[gb111]? = some (.cells #[.int .i64 x112000_6,.int .i64 x112001_6,.string x112002_6] 25 (0,0))):=⟨jB5⟩;have n1_ : Aside0 ((wc.setCell ⟨gb112,1,none⟩ (.int .i64 (wrap64 (t114 - 4611686018427387904)))).heap[gb112]? = some (.cells #[.int .i64 (wrap64 (bt a0 0)),.int .i64 (wrap64 (t114 - 4611686018427387904)),.string x113002_6] 25 (0,0))):=⟨jCk⟩;have n2_ : Aside0 (Below w.heap.size w (wc.setCell ⟨gb112,1,none⟩ (.int .i64 (wrap64 (t114 - 4611686018427387904))))):=⟨jo⟩;(try clear BK111);(try clear BK112);(try clear HB);generalize (wc.setCell ⟨gb112,1,none⟩ (.int .i64 (wrap64 (t114 - 4611686018427387904))))=w77 at n0_ n1_ n2_ ⊢;have BK111:=n0_;have BK112:=n1_;have HB:=n2_;clear n0_ n1_ n2_;replace BK111:=zh (zf BK111.out);replace BK112:=zh (zf BK112.out);replace HB:=zh (zc HB.out);refine start_ (n:=8) (S:=fun w' => w'.cell? ⟨gb112,0,none⟩=some (.int .i64 (wrap64 (bt a0 0)))∧w'.cell? ⟨gb112,1,none⟩=some (.int .i64 (wrap64 (t114 - 4611686018427387904)))∧w'.cell? ⟨gb112,2,none⟩=some (.string x113002_6)) (ds:=[]) (bm_ 0 8) jA rfl rfl ⟨(zz BK112.out 0).trans rfl,(zz BK112.out 1).trans rfl,(zz BK112.out 2).trans rfl⟩ (fun hHeld=>?_);refine with_tabW F4.tab30 F4.bits30 (fun HT_ HW_=>?_);generalize w77.drew=w78 at BK111 BK112 HB hHeld ⊢;refine pure_ (i:=1) (N:=some 77) (v:=?_) (a':=?_) #[false,true,false,false,false,false,false,false] rfl rfl (any_of HT_.out jA) (fun _ _ _ h=>h) (Or.inl ⟨by rfl,?_⟩) ?_ ?_;rotate_left;exact jb;rotate_left;exact jc
         refine pure_ (i:=2) (N:=some 78) (v:=?_) (a':=?_) #[false,true,true,false,false,false,false,false] rfl rfl (any_of HT_.out jA) (fun _ _ _ h=>h) (Or.inl ⟨by rfl,?_⟩) ?_ ?_;rotate_left;exact jb;rotate_left;exact jc
         refine pure_ (i:=3) (N:=some 79) (v:=?_) (a':=?_) #[false,true,true,true,false,false,false,false] rfl rfl (any_of HT_.out jA) (fun _ _ _ h=>h) (Or.inl ⟨by rfl,?_⟩) ?_ ?_;rotate_left;exact jb;rotate_left;exact jc
         refine pure_ (i:=4) (N:=some 80) (v:=?_) (a':=?_) #[false,true,true,true,true,false,false,false] rfl rfl (any_of HT_.out jA) (fun _ _ _ h=>h) (Or.inl ⟨by rfl,?_⟩) ?_ ?_;rotate_left;exact jb;rotate_left;exact jc
         refine take_ (i:=0) (N:=some 76) (v:=?_) (a':=?_) (bm_ 5 8) rfl rfl (yo HT_.out HW_.out jA) (fun _ _ _ h=>h) (Or.inl ⟨by rfl,?_⟩) hHeld ?_ ?_;rotate_left
         ·
          rintro w' ⟨s0,s1,s2⟩
          go_simp
          with_reducible rfl
         rotate_left
         exact jc
         refine one_ (i:=5) (N:=none) (bm_ 6 8) rfl rfl (one_of HT_.out jA) jB (fun K hK=>?_);have hs79 : w78.cell? ⟨gb111,0,none⟩=some (.int .i64 x112000_6):=(zz BK111.out 0).trans rfl;have hfs79:=zA BK111.out 0;have hns79_1:=NB112_111.out;have hms79_1:=NB111_112.out;have hs80 : w78.cell? ⟨gb111,1,none⟩=some (.int .i64 x112001_6):=(zz BK111.out 1).trans rfl;have hfs80:=zA BK111.out 1;have hns80_1:=NB112_111.out;have hms80_1:=NB111_112.out;have hs81 : w78.cell? ⟨gb111,2,none⟩=some (.string x112002_6):=(zz BK111.out 2).trans rfl;have hfs81:=zA BK111.out 2;have hns81_1:=NB112_111.out;have hms81_1:=NB111_112.out;refine skip_ (w1:=?_) (by rfl) rfl ?_ ?_;rotate_left
         ·
          go_simp
          rfl
         refine hK.out _ _ ⟨((zR (p:=⟨gb111,_,none⟩) NB112_111.out _).trans (((zR (p:=⟨gb111,_,none⟩) NB112_111.out _).trans (((zR (p:=⟨gb111,_,none⟩) NB112_111.out _).trans (hHeld.1)))))),((zR (p:=⟨gb111,_,none⟩) NB112_111.out _).trans (((zR (p:=⟨gb111,_,none⟩) NB112_111.out _).trans (((zR (p:=⟨gb111,_,none⟩) NB112_111.out _).trans (hHeld.2.1)))))),((zR (p:=⟨gb111,_,none⟩) NB112_111.out _).trans (((zR (p:=⟨gb111,_,none⟩) NB112_111.out _).trans (((zR (p:=⟨gb111,_,none⟩) NB112_111.out _).trans (hHeld.2.2))))))⟩ (fun hHeld=>?_);clear hK K;refine pure_ (i:=6) (N:=some 3) (v:=?_) (a':=?_) (bm_ 7 8) rfl rfl (any_of HT_.out jA) (fun _ _ _ h=>h) (Or.inl ⟨by rfl,?_⟩) ?_ ?_;rotate_left;exact jb;rotate_left;exact jc
         refine pure_ (i:=7) (N:=some 4) (v:=?_) (a':=?_) (bm_ 8 8) rfl rfl (any_of HT_.out jA) (fun _ _ _ h=>h) (Or.inl ⟨by rfl,?_⟩) ?_ ?_;rotate_left;exact jb;rotate_left;exact jc
         refine done_ (done_of HT_.out jA) ?_
         try go_wp2
         refine bodyPost_ret (results_ctt rfl _ _ gb111 25 #[.int .i64 (wrap64 (bt a0 0)),.int .i64 (wrap64 (t114 - 4611686018427387904)),.string x113002_6] (0,0) _ rfl (by (with_reducible repeat first|apply ze|apply zf|apply zg);refine zL (cs:=#[.int .i64 (wrap64 (bt a0 0)),.int .i64 (wrap64 (t114 - 4611686018427387904)),.string x112002_6]) ?_ 2 _ rfl;(with_reducible repeat first|apply ze|apply zf|apply zg);refine zL (cs:=#[.int .i64 (wrap64 (bt a0 0)),.int .i64 x112001_6,.string x112002_6]) ?_ 1 _ rfl;(with_reducible repeat first|apply ze|apply zf|apply zg);refine zL (cs:=#[.int .i64 x112000_6,.int .i64 x112001_6,.string x112002_6]) ?_ 0 _ rfl;(with_reducible repeat first|apply ze|apply zf|apply zg);exact BK111.out) Try.underlying25 rfl jA) rfl ?_;exact ⟨by first|rfl|(simp [yt,yu] <;> rfl)|(simp only [← hji72];first|rfl|(simp [yt,yu] <;> rfl))|(simp [*,yt,yu] <;> rfl),jo⟩
        rw [if_neg c74] at H;exact absurd H (by simp)
       rw [if_neg c73] at H;exact absurd H (by simp)
      rw [if_neg c70] at H;exact absurd H (by simp)
     rw [if_neg c69] at H;exact absurd H (by simp)
    rw [if_neg c64] at H;exact absurd H (by simp)
 rw [if_neg c5] at H;exact absurd H (by simp)

end Go.Proofs.Ytoinoihiknmnmaa.Q
end
section
namespace Go.Proofs.Ytoinoihiknmnmaa.Q
open Go.RowKit Go.Proofs.YtoinoihiknmnmaaW.PrintWords Go.Proofs.YtoinoihiknmnmaaW.PrintLast Go.Proofs.YtoinoihiknmnmaaW.PrintMore
attribute [local go_sem] max2_int min2_int max_two min_two max_three min_three max_four min_four max2_str min2_str str_geq str_gtr str_leq
set_option linter.unusedVariables false
set_option linter.unusedSimpArgs false

def Fp.l0 : Nat→ByteArray→List (S25)→Option ((List (S25))×Bool)
 | 0,_,_=>none
 | k+1,x0,x4=>if (x0.size : Int) > 0 then ((F4.f k x0).bind fun bt118=>(if bt118.2.2.2.2=true then (if x4.length<4398046511104 then (Fp.l0 k bt118.2.2.2.1 (x4 ++ [(⟨bt118.1,bt118.2.1,bt118.2.2.1⟩ : S25)])) else (none)) else (some ((([] : List (S25))),false)))) else (some (x4,true))
def Fp.f (k : Nat) (a0 : ByteArray) : Option ((List (S25))×Bool):=Fp.l0 k a0 (([] : List (S25)))
theorem Fp.mono_l : ∀ k,(∀ y0 y1,LeO (Fp.l0 k y0 y1) (Fp.l0 (k+1) y0 y1))
 | 0=>fun _ _ r h=>by simp [Fp.l0] at h
 | k+1=>by
  have ih0:=Fp.mono_l k;intro y0 y1;unfold Fp.l0
  repeat' first|(with_reducible first|exact ih0 _ _|exact F4.mono _ _|exact zQ _|exact zN _|refine zP ?_ ?_|refine zO ?_ (fun _=>?_))|refine zP ?_ ?_|refine zO ?_ (fun _=>?_)
theorem Fp.mono : ∀ a0 k,LeO (Fp.f k a0) (Fp.f (k+1) a0):=by
 intro a0 k;have ih0:=Fp.mono_l k;unfold Fp.f
 repeat' first|(with_reducible first|exact ih0 _ _|exact F4.mono _ _|exact zQ _|exact zN _|refine zP ?_ ?_|refine zO ?_ (fun _=>?_))|refine zP ?_ ?_|refine zO ?_ (fun _=>?_)
set_option maxHeartbeats 8000000 in
set_option maxRecDepth 100000 in
theorem Fp.calls (k : Nat) (a0 : ByteArray) (r1 : List (S25)) (r2 : Bool) (w : World) (h : Fp.f k a0=some (r1,r2)) :
  Calls Try.prog 64 #[.string a0] w fun e w' => ∃ v0_ : Value,e = .returned (.tuple #[v0_,.bool r2])∧Kd.R k25 25 w' w.heap.size (fun _=>True) v0_ r1∧Below w.heap.size w w':=by
 have hu25:=Try.underlying25;have HB:=zh (Below.refl w.heap.size w);have H : (Fp.l0 k a0 (([] : List (S25))))=some (r1,r2):=h;clear h;obtain ⟨y115,hy115⟩ : ∃ y_ : List (S25),y_=(([] : List (S25))):=⟨_,rfl⟩;replace H : (Fp.l0 k a0 y115)=some (r1,r2):=by first|(rw [hy115];with_reducible exact H)|(have H2_:=(Option.bind_some _ _).symm.trans H;rw [hy115];with_reducible exact H2_)|(have H2_:=(Option.bind_some _ _).symm.trans H;with_reducible exact H2_)|with_reducible exact H|(rw [hy115];exact H)|exact H
 have Ny115:=zh hy115;clear hy115;have H':=zh H;clear H
 go_enter Try.func64,Try.ntmps64
 go_wp2_with (first|((with_reducible refine zK (N:=8) rfl ?_);refine Kd.R_lit k25 _ 25 ?hg (N:=8) ?hd (xs:=([] : List (S25))) (inner:=[]) (ok:=fun _=>True) (okp:=fun _=>True) ?hr ?hp (fun _ hk=>hk) trivial (Below.refl _ _) (ye _) (by simp) ?_;(case hd=>rfl);(case hg=>rfl);(case hr=>go_simp <;> rfl);(case hp=>exact (Reps.none _ _));intro v116 w2 ho3 hb hg_ hnew_;clear hg_ hnew_;(first|rw [← Ny115.out] at ho3|(simp only [Int.reduceToNat] at ho3;rw [← Ny115.out] at ho3));have HO117:=zh (yy ho3 (zB jG));replace HB:=zh (zC jG hb);clear hb ho3))
 go_loopg [0,4] k (fun kq v0 v4 w' => ∃ (x0_1 : ByteArray) (x4_1 : List (S25)),v0 = .string x0_1∧Aside0 (Fp.l0 kq x0_1 x4_1=some (r1,r2))∧Aside0 (kq≤k)∧Aside0 (Kd.R k25 25 w' w.heap.size (fun _=>True) v4 x4_1)∧Aside0 (Below w.heap.size w w'))
 case atStart=>exact ⟨(a0),(y115),jC,H',⟨ye _⟩,⟨by (with_reducible repeat (first|apply zm|apply zn|apply zo));exact HO117.out⟩,⟨jG⟩⟩
 case round =>
  clear H'
  try clear p2
  obtain ⟨x0_1,x4_1,rfl,HA,HK1,HO_4,HB⟩:=hrel
  cases gk with
  | zero=>exact absurd HA.out (by simp [Fp.l0])
  | succ k1 =>
   have H:=HA.out;clear HA;simp only [Fp.l0] at H
   by_cases c4 : (x0_1.size : Int) > 0
   ·
    rw [if_pos c4] at H
    have c4b0 : decide (0<(x0_1.size : Int))=true:=decide_eq_true c4;have c4b1 : decide (0<x0_1.size)=true:=decide_eq_true jH;clear c4;replace H:=zT.mp H;obtain ⟨⟨t118,t119,t120,t121,t122⟩,A50,H⟩:=H;have A5:=zh A50;clear A50
    by_cases c6 : t122=true
    ·
     subst c6
     rw [if_pos rfl] at H
     by_cases c7 : x4_1.length<4398046511104
     ·
      rw [if_pos c7] at H
      have LMc7:=zh c7;clear c7;obtain ⟨y124,hy124⟩ : ∃ y_ : List (S25),y_=(x4_1 ++ [(⟨t118,t119,t120⟩ : S25)]):=⟨_,rfl⟩;replace H : (Fp.l0 k1 t121 y124)=some (r1,r2):=by first|(rw [hy124];with_reducible exact H)|(have H2_:=(Option.bind_some _ _).symm.trans H;rw [hy124];with_reducible exact H2_)|(have H2_:=(Option.bind_some _ _).symm.trans H;with_reducible exact H2_)|with_reducible exact H|(rw [hy124];exact H)|exact H
      have Ny124:=zh hy124;clear hy124;have H':=zh H;clear H
      go_wp2_with (first|((with_reducible refine zJ (f:=83) rfl ?_);refine yj (some 14) rfl rfl Try.func83 jA rfl #[.string x0_1] rfl jD ?_;(with_reducible refine (F4.calls k1  x0_1 t118 t119 t120 t121 true _ A5.out).mono ?_);rintro e w8 ⟨rfl,hb⟩;refine ⟨_,rfl,?_⟩;replace HO_4:=zh (yg jQ hb);replace HB:=zh (zC jG hb);(try clear hb);(try clear hb2);(try clear hk);(try clear hi))|((with_reducible refine zK (N:=5) rfl ?_);refine zI ?hg (N:=5) ?hd (cs:=#[.int .i64 0,.int .i64 0,.string (⟨#[]⟩ : ByteArray)]) (t:=25) ?hr ?_;(case hd=>rfl);(case hg=>rfl);(case hr=>go_simp <;> rfl);intro gb123 hg w9 hbox hb;replace HO_4:=zh (yg (Kd.R_elderB jQ gb123 (Nat.le_of_eq hg.symm)) hb);have BK123:=zh (hbox);have hH_:=cH jG hb hg;have GW123:=zh hH_.1;have GE123:=GW123;replace HB:=zh hH_.2;clear hb hbox hg hH_;obtain ⟨hcz10_0,hcz10_1,hcz10_2,hfz10_0,hfz10_1,hfz10_2⟩:=cB3 BK123.out)|((with_reducible refine yB (b:=.append) (xs:=#[.tmp 21,.tmp 23]) rfl ?_);at_builtin;refine Kd.R_append k25 (w0:=w) w.heap.size rfl (.tmp 21) (.tmp 23) 34 25 (.agg #[(.int .i64 0),(.int .i64 0),(.string ⟨#[]⟩)]) 32 rfl Try.underlying34 info25 rfl jB jH u4 x4_1 (⟨t118,t119,t120⟩ : S25) [.int .i64 t118,.int .i64 t119,.string t120] (fun k_=>k_≠gb123) (fun _=>False) rfl jAA ?aP (fun _ hk=>hk.elim) ?aF ?aO ?aB ?aS ?aL ?_;(case aP=>exact k25_mkM _ _ _ (⟨t118,t119,t120⟩ : S25));(case aB=>exact jA3);(case aF=>exact (fun k_ hk=>Kd.freshB (g:=gb123) (o:=.cells #[.int .i64 t118,.int .i64 t119,.string t120] 25 (0,0)) jBZ k_ hk));(case aO=>exact (by (with_reducible repeat (first|apply zm|apply zn|apply zo));exact zM (zE (p:=⟨gb123,2,none⟩) (zE (p:=⟨gb123,1,none⟩) (zE (p:=⟨gb123,0,none⟩) (zM HO_4.out (fun k_ hk=>(⟨hk,hk.2⟩ : _∧k_≠gb123))) (fun _ hk=>hk.2) (.int .i64 t118)) (fun _ hk=>hk.2) (.int .i64 t119)) (fun _ hk=>hk.2) (.string t120)) (fun _ hk=>hk.1.2)));(case aS=>exact (zB jA3));(case aL=>have:=LMc7.out;omega);intro v125 w11 ho hb hg hat;rw [← Ny124.out] at ho;replace BK123:=zh (yw (g:=gb123) (o:=.cells #[.int .i64 t118,.int .i64 t119,.string t120] 25 (0,0)) jBZ hg (yv HO_4.out (fun _ hk=>hk.2)));replace HB:=zh (hb);have HO126:=zh (ho);clear HO_4 ho hb hg hat))
      go_roundg k1
      case measure=>have:=HK1.out;omega
      case rel=>exact ⟨(t121),(y124),jC,H',⟨jZ⟩,⟨by (with_reducible repeat (first|apply zm|apply zn|apply zo));exact zM HO126.out (fun _ hk=>trivial)⟩,⟨jA3⟩⟩
     rw [if_neg c7] at H;exact absurd H (by simp)
    replace c6:=yb.mpr c6;subst c6;rw [if_neg (show ¬ (false=true) by decide)] at H;obtain ⟨y127,hy127⟩ : ∃ y_ : List (S25),y_=(([] : List (S25))):=⟨_,rfl⟩;replace H : (some (y127,false))=some (r1,r2):=by first|(rw [hy127];with_reducible exact H)|(have H2_:=(Option.bind_some _ _).symm.trans H;rw [hy127];with_reducible exact H2_)|(have H2_:=(Option.bind_some _ _).symm.trans H;with_reducible exact H2_)|with_reducible exact H|(rw [hy127];exact H)|exact H
    have Ny127:=zh hy127;clear hy127;simp only [Option.some.injEq,Prod.mk.injEq] at H;obtain ⟨rfl,rfl⟩:=H
    go_wp2_with (first|((with_reducible refine zJ (f:=83) rfl ?_);refine yj (some 14) rfl rfl Try.func83 jA rfl #[.string x0_1] rfl jD ?_;(with_reducible refine (F4.calls k1  x0_1 t118 t119 t120 t121 false _ A5.out).mono ?_);rintro e w12 ⟨rfl,hb⟩;refine ⟨_,rfl,?_⟩;replace HO_4:=zh (yg jQ hb);replace HB:=zh (zC jG hb);(try clear hb);(try clear hb2);(try clear hk);(try clear hi))|((with_reducible refine zK (N:=5) rfl ?_);refine zI ?hg (N:=5) ?hd (cs:=#[.int .i64 0,.int .i64 0,.string (⟨#[]⟩ : ByteArray)]) (t:=25) ?hr ?_;(case hd=>rfl);(case hg=>rfl);(case hr=>go_simp <;> rfl);intro gb123 hg w13 hbox hb;replace HO_4:=zh (yg (Kd.R_elderB jQ gb123 (Nat.le_of_eq hg.symm)) hb);have BK123:=zh (hbox);have hH_:=cH jG hb hg;have GW123:=zh hH_.1;have GE123:=GW123;replace HB:=zh hH_.2;clear hb hbox hg hH_;obtain ⟨hcz14_0,hcz14_1,hcz14_2,hfz14_0,hfz14_1,hfz14_2⟩:=cB3 BK123.out)|((with_reducible refine zK (N:=20) rfl ?_);refine Kd.R_lit k25 _ 25 ?hg (N:=20) ?hd (xs:=([] : List (S25))) (inner:=[]) (ok:=fun _=>True) (okp:=fun _=>True) ?hr ?hp (fun _ hk=>hk) trivial (Below.refl _ _) (ye _) (by simp) ?_;(case hd=>rfl);(case hg=>rfl);(case hr=>go_simp <;> rfl);(case hp=>exact (Reps.none _ _));intro v128 w15 ho16 hb hg_ hnew_;clear hg_ hnew_;(first|rw [← Ny127.out] at ho16|(simp only [Int.reduceToNat] at ho16;rw [← Ny127.out] at ho16));have HO129:=zh (yy (Kd.R_newB (Kd.R_new' ho16 (Kd.R_lt jCl)) (g:=gb123) (o:=.cells #[.int .i64 t118,.int .i64 t119,.string t120] 25 (0,0)) jBZ) (zB jA3));replace HO_4:=zh (Kd.R_elder' jCl (Kd.R_base ho16) hb);replace BK123:=zh (zD (g:=gb123) (o:=.cells #[.int .i64 t118,.int .i64 t119,.string t120] 25 (0,0)) jBZ hb);replace HB:=zh (zC jA3 hb);clear hb ho16))
    go_ret2
    exact ⟨_,jF,by (with_reducible repeat (first|apply zm|apply zn|apply zo));exact zM HO129.out (fun _ hk=>trivial),jA3⟩
   rw [if_neg c4] at H;have c4b0 : decide (0<(x0_1.size : Int))=false:=decide_eq_false c4;have c4b1 : decide (0<x0_1.size)=false:=decide_eq_false jH;clear c4;simp only [Option.some.injEq,Prod.mk.injEq] at H;obtain ⟨rfl,rfl⟩:=H
   go_wp2
   go_ret2
   exact ⟨_,jF,jQ,jG⟩


def Fn.l0 : Nat→ByteArray→List (S43)→Option ((List (S43))×Bool)
 | 0,_,_=>none
 | k+1,x0,x4=>if (x0.size : Int) > 0 then (if 0<(x0.size : Int) then (if (x0.size : Int)<(wrap64 (1+(wrap64 (bt x0 0)))) then (some ((([] : List (S43))),false)) else (if 1≤(wrap64 (1+(wrap64 (bt x0 0)))) then (if (wrap64 (1+(wrap64 (bt x0 0))))≤(x0.size : Int) then (if 0≤(wrap64 (1+(wrap64 (bt x0 0)))) then ((F4.f k (x0.extract ((wrap64 (1+(wrap64 (bt x0 0)))) : Int).toNat x0.size)).bind fun bt136=>(if bt136.2.2.2.2=true then (if x4.length<2932031007402 then (Fn.l0 k bt136.2.2.2.1 (x4 ++ [(⟨x0.extract 1 ((wrap64 (1+(wrap64 (bt x0 0)))) : Int).toNat,(⟨bt136.1,bt136.2.1,bt136.2.2.1⟩ : S25)⟩ : S43)])) else (none)) else (some ((([] : List (S43))),false)))) else (none)) else (none)) else (none))) else (none)) else (some (x4,true))
def Fn.f (k : Nat) (a0 : ByteArray) : Option ((List (S43))×Bool):=Fn.l0 k a0 (([] : List (S43)))
theorem Fn.mono_l : ∀ k,(∀ y0 y1,LeO (Fn.l0 k y0 y1) (Fn.l0 (k+1) y0 y1))
 | 0=>fun _ _ r h=>by simp [Fn.l0] at h
 | k+1=>by
  have ih0:=Fn.mono_l k;intro y0 y1;unfold Fn.l0
  repeat' first|(with_reducible first|exact ih0 _ _|exact F4.mono _ _|exact zQ _|exact zN _|refine zP ?_ ?_|refine zO ?_ (fun _=>?_))|refine zP ?_ ?_|refine zO ?_ (fun _=>?_)
theorem Fn.mono : ∀ a0 k,LeO (Fn.f k a0) (Fn.f (k+1) a0):=by
 intro a0 k;have ih0:=Fn.mono_l k;unfold Fn.f
 repeat' first|(with_reducible first|exact ih0 _ _|exact F4.mono _ _|exact zQ _|exact zN _|refine zP ?_ ?_|refine zO ?_ (fun _=>?_))|refine zP ?_ ?_|refine zO ?_ (fun _=>?_)
set_option maxHeartbeats 8000000 in
set_option maxRecDepth 100000 in
theorem Fn.calls (k : Nat) (a0 : ByteArray) (r1 : List (S43)) (r2 : Bool) (w : World) (h : Fn.f k a0=some (r1,r2)) :
  Calls Try.prog 65 #[.string a0] w fun e w' => ∃ v0_ : Value,e = .returned (.tuple #[v0_,.bool r2])∧Kd.R k43 43 w' w.heap.size (fun _=>True) v0_ r1∧Below w.heap.size w w':=by
 have hu25:=Try.underlying25;have hu43:=Try.underlying43;have HB:=zh (Below.refl w.heap.size w);have H : (Fn.l0 k a0 (([] : List (S43))))=some (r1,r2):=h;clear h;obtain ⟨y130,hy130⟩ : ∃ y_ : List (S43),y_=(([] : List (S43))):=⟨_,rfl⟩;replace H : (Fn.l0 k a0 y130)=some (r1,r2):=by first|(rw [hy130];with_reducible exact H)|(have H2_:=(Option.bind_some _ _).symm.trans H;rw [hy130];with_reducible exact H2_)|(have H2_:=(Option.bind_some _ _).symm.trans H;with_reducible exact H2_)|with_reducible exact H|(rw [hy130];exact H)|exact H
 have Ny130:=zh hy130;clear hy130;have H':=zh H;clear H
 go_enter Try.func65,Try.ntmps65
 go_wp2_with (first|((with_reducible refine zK (N:=10) rfl ?_);refine Kd.R_lit k43 _ 43 ?hg (N:=10) ?hd (xs:=([] : List (S43))) (inner:=[]) (ok:=fun _=>True) (okp:=fun _=>True) ?hr ?hp (fun _ hk=>hk) trivial (Below.refl _ _) (ye _) (by simp) ?_;(case hd=>rfl);(case hg=>rfl);(case hr=>go_simp <;> rfl);(case hp=>exact (Reps.none _ _));intro v131 w2 ho3 hb hg_ hnew_;clear hg_ hnew_;(first|rw [← Ny130.out] at ho3|(simp only [Int.reduceToNat] at ho3;rw [← Ny130.out] at ho3));have HO132:=zh (yy ho3 (zB jG));replace HB:=zh (zC jG hb);clear hb ho3))
 go_loopg [0,4] k (fun kq v0 v4 w' => ∃ (x0_1 : ByteArray) (x4_1 : List (S43)),v0 = .string x0_1∧Aside0 (Fn.l0 kq x0_1 x4_1=some (r1,r2))∧Aside0 (kq≤k)∧Aside0 (Kd.R k43 43 w' w.heap.size (fun _=>True) v4 x4_1)∧Aside0 (Below w.heap.size w w'))
 case atStart=>exact ⟨(a0),(y130),jC,H',⟨ye _⟩,⟨by (with_reducible repeat (first|apply zm|apply zn|apply zo));exact HO132.out⟩,⟨jG⟩⟩
 case round =>
  clear H'
  try clear p2
  obtain ⟨x0_1,x4_1,rfl,HA,HK1,HO_4,HB⟩:=hrel
  cases gk with
  | zero=>exact absurd HA.out (by simp [Fn.l0])
  | succ k1 =>
   have H:=HA.out;clear HA;simp only [Fn.l0] at H
   by_cases c4 : (x0_1.size : Int) > 0
   ·
    rw [if_pos c4] at H
    have c4b0 : decide (0<(x0_1.size : Int))=true:=decide_eq_true c4;have c4b1 : decide (0<x0_1.size)=true:=decide_eq_true jH;clear c4
    by_cases c5 : 0<(x0_1.size : Int)
    ·
     rw [if_pos c5] at H
     have c5b0 : decide (0<(x0_1.size : Int))=true:=decide_eq_true c5;have c5b1 : decide (0<x0_1.size)=true:=decide_eq_true jH;clear c5
     by_cases c7 : (x0_1.size : Int)<(wrap64 (1+(wrap64 (bt x0_1 0))))
     ·
      rw [if_pos c7] at H
      have c7b0 : decide ((x0_1.size : Int)<(wrap64 (1+(wrap64 (bt x0_1 0)))))=true:=decide_eq_true c7;clear c7;obtain ⟨y133,hy133⟩ : ∃ y_ : List (S43),y_=(([] : List (S43))):=⟨_,rfl⟩;replace H : (some (y133,false))=some (r1,r2):=by first|(rw [hy133];with_reducible exact H)|(have H2_:=(Option.bind_some _ _).symm.trans H;rw [hy133];with_reducible exact H2_)|(have H2_:=(Option.bind_some _ _).symm.trans H;with_reducible exact H2_)|with_reducible exact H|(rw [hy133];exact H)|exact H
      have Ny133:=zh hy133;clear hy133;simp only [Option.some.injEq,Prod.mk.injEq] at H;obtain ⟨rfl,rfl⟩:=H;have p6 : 0≤(0 : Int):=jH;have q6 : 0<x0_1.size:=(by have : (0 : Int)<(x0_1.size : Int):=zy jE;omega);have hx6 : ∀ h : 0<x0_1.size,((x0_1[0]'h).toNat : Int)=bt x0_1 0:=bt_at x0_1 0;clear p6;have qi6 : (0<(x0_1.size : Int))=True:=eq_true (zy jE);replace q6:=eq_true q6
      go_wp2_with (first|((with_reducible refine zK (N:=22) rfl ?_);refine Kd.R_lit k43 _ 43 ?hg (N:=22) ?hd (xs:=([] : List (S43))) (inner:=[]) (ok:=fun _=>True) (okp:=fun _=>True) ?hr ?hp (fun _ hk=>hk) trivial (Below.refl _ _) (ye _) (by simp) ?_;(case hd=>rfl);(case hg=>rfl);(case hr=>go_simp <;> rfl);(case hp=>exact (Reps.none _ _));intro v134 w8 ho9 hb hg_ hnew_;clear hg_ hnew_;(first|rw [← Ny133.out] at ho9|(simp only [Int.reduceToNat] at ho9;rw [← Ny133.out] at ho9));have HO135:=zh (yy (Kd.R_new' ho9 (Kd.R_lt jQ)) (zB jG));replace HO_4:=zh (Kd.R_elder' jQ (Kd.R_base ho9) hb);replace HB:=zh (zC jG hb);clear hb ho9))
      go_ret2
      exact ⟨_,jF,by (with_reducible repeat (first|apply zm|apply zn|apply zo));exact zM HO135.out (fun _ hk=>trivial),jG⟩
     rw [if_neg c7] at H;have c7b0 : decide ((x0_1.size : Int)<(wrap64 (1+(wrap64 (bt x0_1 0)))))=false:=decide_eq_false c7;clear c7
     by_cases c10 : 1≤(wrap64 (1+(wrap64 (bt x0_1 0))))
     ·
      rw [if_pos c10] at H
      have c10b0:=eq_true c10;have c10b1 : decide (1≤(wrap64 (1+(wrap64 (bt x0_1 0)))))=true:=decide_eq_true c10
      by_cases c11 : (wrap64 (1+(wrap64 (bt x0_1 0))))≤(x0_1.size : Int)
      ·
       rw [if_pos c11] at H
       have c11b0:=eq_true c11;have c11b1 : decide ((wrap64 (1+(wrap64 (bt x0_1 0))))≤(x0_1.size : Int))=true:=decide_eq_true c11;obtain ⟨ji12,hji12⟩ : ∃ j_ : Int,(wrap64 (1+(wrap64 (bt x0_1 0))))=j_:=⟨_,rfl⟩;replace H : (if 0≤(ji12) then ((F4.f k1 (x0_1.extract ((ji12) : Int).toNat x0_1.size)).bind fun bt136=>(if bt136.2.2.2.2=true then (if x4_1.length<2932031007402 then (Fn.l0 k1 bt136.2.2.2.1 (x4_1 ++ [(⟨x0_1.extract 1 ((ji12) : Int).toNat,(⟨bt136.1,bt136.2.1,bt136.2.2.1⟩ : S25)⟩ : S43)])) else (none)) else (some ((([] : List (S43))),false)))) else (none))=some (r1,r2):=by first|(rw [hji12] at H;exact H)|(simp only [hji12] at H ⊢;exact H)
       (try rw [hji12] at c7b0);(try rw [hji12] at c10b0);(try rw [hji12] at c10b1);(try rw [hji12] at c10);(try rw [hji12] at c11b0);(try rw [hji12] at c11b1);(try rw [hji12] at c11);have hji12w : (IntKind.i64.wrap (1+(wrap64 (bt x0_1 0))))=ji12:=(zG _).trans hji12
       by_cases c13 : 0≤(ji12)
       ·
        rw [if_pos c13] at H
        have c13b0:=eq_true c13;have c13b1 : decide (0≤(ji12))=true:=decide_eq_true c13;clear c13;have c14b0:=eq_true (zy jE : (ji12)≤(x0_1.size : Int));replace H:=zT.mp H;obtain ⟨⟨t136,t137,t138,t139,t140⟩,A150,H⟩:=H;have A15:=zh A150;clear A150
        by_cases c16 : t140=true
        ·
         subst c16
         rw [if_pos rfl] at H
         by_cases c17 : x4_1.length<2932031007402
         ·
          rw [if_pos c17] at H
          have LMc17:=zh c17;clear c17;obtain ⟨y142,hy142⟩ : ∃ y_ : List (S43),y_=(x4_1 ++ [(⟨x0_1.extract 1 ((ji12) : Int).toNat,(⟨t136,t137,t138⟩ : S25)⟩ : S43)]):=⟨_,rfl⟩;replace H : (Fn.l0 k1 t139 y142)=some (r1,r2):=by first|(rw [hy142];with_reducible exact H)|(have H2_:=(Option.bind_some _ _).symm.trans H;rw [hy142];with_reducible exact H2_)|(have H2_:=(Option.bind_some _ _).symm.trans H;with_reducible exact H2_)|with_reducible exact H|(rw [hy142];exact H)|exact H
          have Ny142:=zh hy142;clear hy142;have H':=zh H;clear H;have p6 : 0≤(0 : Int):=jH;have q6 : 0<x0_1.size:=(by have : (0 : Int)<(x0_1.size : Int):=zy jE;omega);have hx6 : ∀ h : 0<x0_1.size,((x0_1[0]'h).toNat : Int)=bt x0_1 0:=bt_at x0_1 0;clear p6;have qi6 : (0<(x0_1.size : Int))=True:=eq_true (zy jE);replace q6:=eq_true q6
          go_wp2_with (first|((with_reducible refine zJ (f:=83) rfl ?_);refine yj (some 32) rfl rfl Try.func83 jA rfl #[.string (x0_1.extract ((ji12) : Int).toNat x0_1.size)] rfl jCm ?_;(with_reducible refine (F4.calls k1  (x0_1.extract ((ji12) : Int).toNat x0_1.size) t136 t137 t138 t139 true _ A15.out).mono ?_);rintro e w18 ⟨rfl,hb⟩;refine ⟨_,rfl,?_⟩;replace HO_4:=zh (yg jQ hb);replace HB:=zh (zC jG hb);(try clear hb);(try clear hb2);(try clear hk);(try clear hi))|((with_reducible refine zK (N:=7) rfl ?_);refine zI ?hg (N:=7) ?hd (cs:=#[.int .i64 0,.int .i64 0,.string (⟨#[]⟩ : ByteArray)]) (t:=25) ?hr ?_;(case hd=>rfl);(case hg=>rfl);(case hr=>go_simp <;> rfl);intro gb141 hg w19 hbox hb;replace HO_4:=zh (yg jQ hb);have BK141:=zh (hbox);have hH_:=cH jG hb hg;have GW141:=zh hH_.1;have GE141:=GW141;replace HB:=zh hH_.2;clear hb hbox hg hH_;obtain ⟨hcz20_0,hcz20_1,hcz20_2,hfz20_0,hfz20_1,hfz20_2⟩:=cB3 BK141.out)|((with_reducible refine yB (b:=.append) (xs:=#[.tmp 39,.tmp 43]) rfl ?_);at_builtin;refine Kd.R_append k43 (w0:=w) w.heap.size rfl (.tmp 39) (.tmp 43) 28 43 (.agg #[(.string ⟨#[]⟩),(.int .i64 0),(.int .i64 0),(.string ⟨#[]⟩)]) 48 rfl Try.underlying28 info43 rfl jB jH u4 x4_1 (⟨x0_1.extract 1 ((ji12) : Int).toNat,(⟨t136,t137,t138⟩ : S25)⟩ : S43) [.string (x0_1.extract 1 ((ji12) : Int).toNat),.int .i64 t136,.int .i64 t137,.string t138] (fun _=>True) (fun _=>False) rfl jAA ?aP (fun _ hk=>hk.elim) ?aF ?aO ?aB ?aS ?aL ?_;(case aP=>exact k43_mkM _ _ _ (⟨x0_1.extract 1 ((ji12) : Int).toNat,(⟨t136,t137,t138⟩ : S25)⟩ : S43));(case aB=>exact jA4);(case aF=>exact (fun _ _=>trivial));(case aO=>exact (by (with_reducible repeat (first|apply zm|apply zn|apply zo));exact zM (zE (p:=⟨gb141,2,none⟩) (zE (p:=⟨gb141,1,none⟩) (zE (p:=⟨gb141,0,none⟩) (yf HO_4.out BK141.out jB) (fun _ hk=>hk.2) (.int .i64 t136)) (fun _ hk=>hk.2) (.int .i64 t137)) (fun _ hk=>hk.2) (.string t138)) (fun _ hk=>trivial)));(case aS=>exact (zB jA4));(case aL=>have:=LMc17.out;omega);intro v143 w21 ho hb hg hat;rw [← Ny142.out] at ho;replace BK141:=zh (yw (g:=gb141) (o:=.cells #[.int .i64 t136,.int .i64 t137,.string t138] 25 (0,0)) jCn hg (Kd.R_ne HO_4.out BK141.out jB));replace HB:=zh (hb);have HO144:=zh (ho);clear HO_4 ho hb hg hat))
          go_roundg k1
          case measure=>have:=HK1.out;omega
          case rel=>exact ⟨(t139),(y142),jC,H',⟨jZ⟩,⟨by (with_reducible repeat (first|apply zm|apply zn|apply zo));exact HO144.out⟩,⟨jA4⟩⟩
         rw [if_neg c17] at H;exact absurd H (by simp)
        replace c16:=yb.mpr c16;subst c16;rw [if_neg (show ¬ (false=true) by decide)] at H;obtain ⟨y145,hy145⟩ : ∃ y_ : List (S43),y_=(([] : List (S43))):=⟨_,rfl⟩;replace H : (some (y145,false))=some (r1,r2):=by first|(rw [hy145];with_reducible exact H)|(have H2_:=(Option.bind_some _ _).symm.trans H;rw [hy145];with_reducible exact H2_)|(have H2_:=(Option.bind_some _ _).symm.trans H;with_reducible exact H2_)|with_reducible exact H|(rw [hy145];exact H)|exact H
        have Ny145:=zh hy145;clear hy145;simp only [Option.some.injEq,Prod.mk.injEq] at H;obtain ⟨rfl,rfl⟩:=H;have p6 : 0≤(0 : Int):=jH;have q6 : 0<x0_1.size:=(by have : (0 : Int)<(x0_1.size : Int):=zy jE;omega);have hx6 : ∀ h : 0<x0_1.size,((x0_1[0]'h).toNat : Int)=bt x0_1 0:=bt_at x0_1 0;clear p6;have qi6 : (0<(x0_1.size : Int))=True:=eq_true (zy jE);replace q6:=eq_true q6
        go_wp2_with (first|((with_reducible refine zJ (f:=83) rfl ?_);refine yj (some 32) rfl rfl Try.func83 jA rfl #[.string (x0_1.extract ((ji12) : Int).toNat x0_1.size)] rfl jCm ?_;(with_reducible refine (F4.calls k1  (x0_1.extract ((ji12) : Int).toNat x0_1.size) t136 t137 t138 t139 false _ A15.out).mono ?_);rintro e w22 ⟨rfl,hb⟩;refine ⟨_,rfl,?_⟩;replace HO_4:=zh (yg jQ hb);replace HB:=zh (zC jG hb);(try clear hb);(try clear hb2);(try clear hk);(try clear hi))|((with_reducible refine zK (N:=7) rfl ?_);refine zI ?hg (N:=7) ?hd (cs:=#[.int .i64 0,.int .i64 0,.string (⟨#[]⟩ : ByteArray)]) (t:=25) ?hr ?_;(case hd=>rfl);(case hg=>rfl);(case hr=>go_simp <;> rfl);intro gb141 hg w23 hbox hb;replace HO_4:=zh (yg jQ hb);have BK141:=zh (hbox);have hH_:=cH jG hb hg;have GW141:=zh hH_.1;have GE141:=GW141;replace HB:=zh hH_.2;clear hb hbox hg hH_;obtain ⟨hcz24_0,hcz24_1,hcz24_2,hfz24_0,hfz24_1,hfz24_2⟩:=cB3 BK141.out)|((with_reducible refine zK (N:=38) rfl ?_);refine Kd.R_lit k43 _ 43 ?hg (N:=38) ?hd (xs:=([] : List (S43))) (inner:=[]) (ok:=fun _=>True) (okp:=fun _=>True) ?hr ?hp (fun _ hk=>hk) trivial (Below.refl _ _) (ye _) (by simp) ?_;(case hd=>rfl);(case hg=>rfl);(case hr=>go_simp <;> rfl);(case hp=>exact (Reps.none _ _));intro v146 w25 ho26 hb hg_ hnew_;clear hg_ hnew_;(first|rw [← Ny145.out] at ho26|(simp only [Int.reduceToNat] at ho26;rw [← Ny145.out] at ho26));have HO147:=zh (yy (Kd.R_new' ho26 (Kd.R_lt jCo)) (zB jA4));replace HO_4:=zh (Kd.R_elder' jCo (Kd.R_base ho26) hb);replace BK141:=zh (zD (g:=gb141) (o:=.cells #[.int .i64 t136,.int .i64 t137,.string t138] 25 (0,0)) jCn hb);replace HB:=zh (zC jA4 hb);clear hb ho26))
        go_ret2
        exact ⟨_,by first|rfl|(simp [yt,yu] <;> rfl)|(simp only [← hji12];first|rfl|(simp [yt,yu] <;> rfl))|(simp [*,yt,yu] <;> rfl),by (with_reducible repeat (first|apply zm|apply zn|apply zo));exact zM HO147.out (fun _ hk=>trivial),jA4⟩
       rw [if_neg c13] at H;exact absurd H (by simp)
      rw [if_neg c11] at H;exact absurd H (by simp)
     rw [if_neg c10] at H;exact absurd H (by simp)
    rw [if_neg c5] at H;exact absurd H (by simp)
   rw [if_neg c4] at H;have c4b0 : decide (0<(x0_1.size : Int))=false:=decide_eq_false c4;have c4b1 : decide (0<x0_1.size)=false:=decide_eq_false jH;clear c4;simp only [Option.some.injEq,Prod.mk.injEq] at H;obtain ⟨rfl,rfl⟩:=H
   go_wp2
   go_ret2
   exact ⟨_,jF,jQ,jG⟩

end Go.Proofs.Ytoinoihiknmnmaa.Q
end
