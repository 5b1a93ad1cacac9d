/- Texts of this claim, merged by a program of this session. -/
import Derived.Test.YtgifonogfgpjdaaProg
import Derived.Lib.Strings
import Derived.Lib.Slices
import Derived.Lib.Walk
import Derived.Lib.Bytealg
import Derived.Test.YtgifonogfgpjdaaKLawFnTreep12
import Derived.Test.YtgifonogfgpjdaaKLawFnTreep14
import Derived.Test.YtgifonogfgpjdaaKLawFnTreep16
import Derived.Test.YtgifonogfgpjdaaKLawFnTreep17
import Derived.Test.YtgifonogfgpjdaaKLawFnTreep18
import Derived.Test.YtgifonogfgpjdaaKLawFnTreep20
import Derived.Test.YtgifonogfgpjdaaKLawFnTreep21
section
namespace Go.Proofs.Ytgifonogfgpjdaa.Q
open Go.RowKit Go.Proofs.YtgifonogfgpjdaaW.PrintWords Go.Proofs.YtgifonogfgpjdaaW.PrintLast Go.Proofs.YtgifonogfgpjdaaW.PrintMore
attribute [local go_sem] max2_int min2_int max_two min_two max_three min_three max_four min_four max2_str min2_str str_geq str_gtr str_leq
set_option linter.unusedVariables false
set_option linter.unusedSimpArgs false



def errW : Option Int→Value
 | none => .nilIface
 | some c => .iface 0 (.int .i64 c)
theorem errW_none : errW none = .nilIface:=rfl
theorem errW_some (c : Int) : errW (some c) = .iface 0 (.int .i64 c):=rfl

theorem info3 : (Try.prog.info? 3).map (fun i=>(i.zero,i.size,i.bytes))=some (some (.int .i64 0),1,8):=by kernel_rfl
theorem info28 : (Try.prog.info? 28).map (fun i=>(i.zero,i.size,i.bytes))=some (some (.agg #[(.string ⟨#[]⟩),(.int .i64 0)]),2,24):=by kernel_rfl
theorem info60 : (Try.prog.info? 60).map (fun i=>(i.zero,i.size,i.bytes))=some (some (.agg #[(.int .i64 0),(.slice none 0 0)]),2,32):=by kernel_rfl
-- the values' own types
structure S28 where
 f0 : ByteArray
 f1 : Int
def z28 : S28:=⟨(⟨#[]⟩ : ByteArray),(0 : Int)⟩
def k28 : Kd S28:=Kd.iso (Kd.pair Kd.string (Kd.int .i64)) (fun x : S28=>(x.f0,x.f1))
theorem k28_heap : Kd.Heap k28:=Kd.heap_iso _ (Kd.heap_pair Kd.heap_string (Kd.heap_int .i64))
theorem k28_open {w : World} {x : S28} {cs : List Value} (h : k28.K w x cs) : cs=[.string x.f0,.int .i64 x.f1]:=by
 obtain ⟨_,_,rfl,rfl,rfl⟩:=h
 exact rfl
theorem k28_openM {w : World} {base : Nat} {ok : Nat→Prop} {x : S28} {cs : List Value} (h : k28.M w base ok x cs) : cs=[.string x.f0,.int .i64 x.f1]:=by
 obtain ⟨_,_,rfl,rfl,rfl⟩:=h
 exact rfl
theorem k28_mkM (w : World) (base : Nat) (ok : Nat→Prop) (x : S28)  : k28.M w base ok x [.string x.f0,.int .i64 x.f1]:=⟨[.string x.f0],[.int .i64 x.f1],rfl,rfl,rfl⟩
def rd_T28 (xs : List S28) (i : Int) : S28:=xs.getD i.toNat z28
theorem at_T28 {w : World} {A : Option Addr} {n : Nat} {xs : List S28} (h : Kd.C k28 w A n xs) (i : Int) (h0 : 0≤i) (h1 : i<n) : ∃ ad ,A=some ad∧w.cell? (ad.add (i.toNat*2))=some (.string (rd_T28 xs i).f0)∧w.cell? ⟨(ad.add (i.toNat*2)).block,(ad.add (i.toNat*2)).off+1,none⟩=some (.int .i64 (rd_T28 xs i).f1):=by
 obtain ⟨ad,c,e,_,hK,hc0⟩:=Kd.C_get h z28 i h0 h1
 have hc : ∀ j u,c[j]? = some u→w.cell? (ad.add (i.toNat*2+j))=some u:=hc0
 obtain rfl:=k28_open hK
 exact ⟨ad,e,hc 0 _ rfl,by rw [← add_field _ _ 1 (by omega)];exact hc 1 _ rfl⟩

def rd_L4 (xs : List (List S28)) (i : Int) : (List S28):=xs.getD i.toNat ([] : List S28)
structure S60 where
 f0 : Int
 f1 : (List S28)
def z60 : S60:=⟨(0 : Int),([] : List S28)⟩
def k60 : Kd S60:=Kd.iso (Kd.pair (Kd.int .i64) (Kd.slice 28 k28)) (fun x : S60=>(x.f0,x.f1))
theorem k60_heap : Kd.Heap k60:=Kd.heap_iso _ (Kd.heap_pair (Kd.heap_int .i64) (Kd.heap_slice 28 k28_heap))
theorem k60_open {w : World} {x : S60} {cs : List Value} (h : k60.K w x cs) : ∃ A1 c1,cs=[.int .i64 x.f0,.slice A1 x.f1.length c1]∧x.f1.length≤c1∧k28.C w A1 x.f1.length x.f1:=by
 obtain ⟨_,_,rfl,rfl,⟨A1,c1,rfl,l1,g1⟩⟩:=h
 exact ⟨A1,c1,rfl,l1,g1⟩
theorem k60_openM {w : World} {base : Nat} {ok : Nat→Prop} {x : S60} {cs : List Value} (h : k60.M w base ok x cs) : ∃ v1,cs=[.int .i64 x.f0,v1]∧k28.R 28 w base ok v1 x.f1:=by
 obtain ⟨_,_,rfl,rfl,⟨v1,rfl,g1⟩⟩:=h
 exact ⟨v1,rfl,g1⟩
theorem k60_mk (w : World) (x : S60) {A1 : Option Addr} {c1 : Nat} (l1 : x.f1.length≤c1) (g1 : k28.C w A1 x.f1.length x.f1) : k60.K w x [.int .i64 x.f0,.slice A1 x.f1.length c1]:=⟨[.int .i64 x.f0],[.slice A1 x.f1.length c1],rfl,rfl,⟨A1,c1,rfl,l1,g1⟩⟩
theorem k60_mkM (w : World) (base : Nat) (ok : Nat→Prop) (x : S60) {v1 : Value} (g1 : k28.R 28 w base ok v1 x.f1) : k60.M w base ok x [.int .i64 x.f0,v1]:=⟨[.int .i64 x.f0],[v1],rfl,rfl,⟨v1,rfl,g1⟩⟩
theorem k60_openF {W : World} {ok : Nat→Prop} {x : S60} {cs : List Value} (h : Kd.FK k60 W ok x cs) : ∃ A1 c1,cs=[.int .i64 x.f0,.slice A1 x.f1.length c1]∧x.f1.length≤c1∧Kd.F k28 W ok A1 x.f1.length x.f1:=by
 obtain ⟨A1,c1,rfl,l1,_⟩:=k60_open (Kd.FK_now h)
 exact ⟨A1,c1,rfl,l1,(fun W' hW=>by obtain ⟨A1_,c1_,he,l1_,g1_⟩:=k60_open (h W' hW);injection (Option.some.inj (show some (Value.slice A1 x.f1.length c1)=some (Value.slice A1_ x.f1.length c1_) from congrArg (fun l=>l[1]?) he)) with ha_ _ _;rw [ha_];exact g1_)⟩
theorem k60_mkF (W : World) (ok : Nat→Prop) (x : S60) {A1 : Option Addr} {c1 : Nat} (l1 : x.f1.length≤c1) (g1 : Kd.F k28 W ok A1 x.f1.length x.f1) : Kd.FK k60 W ok x [.int .i64 x.f0,.slice A1 x.f1.length c1]:=fun W2 hW=>k60_mk W2 x l1 (g1 W2 hW)
def rd_T60 (xs : List S60) (i : Int) : S60:=xs.getD i.toNat z60
theorem at_T60 {w : World} {A : Option Addr} {n : Nat} {xs : List S60} (h : Kd.C k60 w A n xs) (i : Int) (h0 : 0≤i) (h1 : i<n) : ∃ ad A1 c1,A=some ad∧w.cell? (ad.add (i.toNat*2))=some (.int .i64 (rd_T60 xs i).f0)∧w.cell? ⟨(ad.add (i.toNat*2)).block,(ad.add (i.toNat*2)).off+1,none⟩=some (.slice A1 (rd_T60 xs i).f1.length c1)∧(rd_T60 xs i).f1.length≤c1∧k28.C w A1 (rd_T60 xs i).f1.length (rd_T60 xs i).f1:=by
 obtain ⟨ad,c,e,_,hK,hc0⟩:=Kd.C_get h z60 i h0 h1
 have hc : ∀ j u,c[j]? = some u→w.cell? (ad.add (i.toNat*2+j))=some u:=hc0
 obtain ⟨A1,c1,rfl,l1,g1⟩:=k60_open hK
 exact ⟨ad,A1,c1,e,hc 0 _ rfl,by rw [← add_field _ _ 1 (by omega)];exact hc 1 _ rfl,l1,g1⟩

def rd_L6 (xs : List (List Int)) (i : Int) : (List Int):=xs.getD i.toNat ([] : List Int)
abbrev bm_ (i n : Nat) : Array Bool:=(List.replicate i true++List.replicate (n - i) false).toArray
abbrev za:=@below_alloc
abbrev zb:=@pw_below_drewN
abbrev zc:=@below_drew1
abbrev zd:=@below_set
abbrev ze:=@blk_drewN
abbrev zf:=@blk_drew
abbrev zg:=@blk_alloc
abbrev zh:=@Aside0.mk
abbrev zi:=@List.setIfInBounds_toArray
abbrev zj:=@List.set_cons_zero
abbrev zk:=@List.set_cons_succ
abbrev zl:=@World.block_lt_of_cell?
abbrev zm:=@Kd.R_alloc
abbrev zn:=@Kd.R_drewN
abbrev zo:=@Kd.R_drew
abbrev zp:=@Kept.drewN
abbrev zq:=@Kept.drew
abbrev zr:=@Kept.alloc
abbrev zs:=@Kept.setCell
abbrev zt:=@List.map_toArray
abbrev zu:=@List.map_cons
abbrev zv:=@List.map_nil
abbrev zw:=@List.length_drop
abbrev zx:=@List.length_take
abbrev zy:=@of_decide_eq_true
abbrev zz:=@blk_cell
abbrev zA:=@blk_frozen
abbrev zB:=@below_size
abbrev zC:=@below_step
abbrev zD:=@blk_below
abbrev zE:=@Kd.R_far
abbrev zF:=@add_block
abbrev zG:=@i64_w
abbrev zH:=@i32_w
abbrev zI:=@box_event
abbrev zJ:=@gate_callee
abbrev zK:=@gate_dst
abbrev zL:=@blk_put
abbrev zM:=@Kd.R_mono
abbrev zN:=@LeO.none
abbrev zO:=@LeO.bind
abbrev zP:=@LeO.ite
abbrev zQ:=@LeO.refl
abbrev zR:=@cell_far
abbrev zS:=@blk_far
abbrev zT:=@Option.bind_eq_some_iff
abbrev zU:=@Option.some.inj
abbrev zV:=@Int.ofNat_lt
abbrev zW:=@Int.ofNat_le
abbrev zX:=@bne_eq_false_iff_eq
abbrev zY:=@beq_eq_false_iff_ne
abbrev zZ:=@bne_iff_ne
abbrev ya:=@beq_iff_eq
abbrev yb:=@Bool.eq_false_iff
abbrev yc:=@Nat.ne_of_lt
abbrev yd:=@Nat.ne_of_gt
abbrev ye:=@Nat.le_refl
abbrev yf:=@Kd.R_types
abbrev yg:=@Kd.R_below
abbrev yh:=@Kd.R_reads'
abbrev yi:=@blk_lt
abbrev yj:=@goesL_
abbrev yk:=@Kd.R_slice
abbrev yl:=@KeepBut.set_
abbrev ym:=@keep_drewN
abbrev yn:=@keep_alloc
abbrev yo:=@take_ofW
abbrev yp:=@Drawn0.refl
abbrev yq:=@Drawn0.step
abbrev yr:=@gt_iff_lt
abbrev ys:=@ge_iff_le
abbrev yt:=@errW_none
abbrev yu:=@errW_some
abbrev yv:=@blk_grown
abbrev yw:=@keep_drew
abbrev yx:=@Kd.R_lower
abbrev yy:=@gate_guard
abbrev yz:=@Kept.of_grown
abbrev yA:=@gate_builtin
theorem cB1 {w : World} {g : Nat} {t : TypeId} {a0 : Value} (h : w.heap[g]? = some (.cells #[a0] t (0, 0))) : w.cell? ⟨g, 0, none⟩ = some a0 ∧ w.frozen? ⟨g, 0, none⟩ = false := ⟨blk_cell h 0, blk_frozen h 0⟩
theorem cB2 {w : World} {g : Nat} {t : TypeId} {a0 a1 : Value} (h : w.heap[g]? = some (.cells #[a0, a1] t (0, 0))) : w.cell? ⟨g, 0, none⟩ = some a0 ∧ w.cell? ⟨g, 1, none⟩ = some a1 ∧ w.frozen? ⟨g, 0, none⟩ = false ∧ w.frozen? ⟨g, 1, none⟩ = false := ⟨blk_cell h 0, blk_cell h 1, blk_frozen h 0, blk_frozen h 1⟩
theorem cB3 {w : World} {g : Nat} {t : TypeId} {a0 a1 a2 : Value} (h : w.heap[g]? = some (.cells #[a0, a1, a2] t (0, 0))) : w.cell? ⟨g, 0, none⟩ = some a0 ∧ w.cell? ⟨g, 1, none⟩ = some a1 ∧ w.cell? ⟨g, 2, none⟩ = some a2 ∧ w.frozen? ⟨g, 0, none⟩ = false ∧ w.frozen? ⟨g, 1, none⟩ = false ∧ w.frozen? ⟨g, 2, none⟩ = false := ⟨blk_cell h 0, blk_cell h 1, blk_cell h 2, blk_frozen h 0, blk_frozen h 1, blk_frozen h 2⟩
theorem cB4 {w : World} {g : Nat} {t : TypeId} {a0 a1 a2 a3 : Value} (h : w.heap[g]? = some (.cells #[a0, a1, a2, a3] t (0, 0))) : w.cell? ⟨g, 0, none⟩ = some a0 ∧ w.cell? ⟨g, 1, none⟩ = some a1 ∧ w.cell? ⟨g, 2, none⟩ = some a2 ∧ w.cell? ⟨g, 3, none⟩ = some a3 ∧ w.frozen? ⟨g, 0, none⟩ = false ∧ w.frozen? ⟨g, 1, none⟩ = false ∧ w.frozen? ⟨g, 2, none⟩ = false ∧ w.frozen? ⟨g, 3, none⟩ = false := ⟨blk_cell h 0, blk_cell h 1, blk_cell h 2, blk_cell h 3, blk_frozen h 0, blk_frozen h 1, blk_frozen h 2, blk_frozen h 3⟩
theorem cB5 {w : World} {g : Nat} {t : TypeId} {a0 a1 a2 a3 a4 : Value} (h : w.heap[g]? = some (.cells #[a0, a1, a2, a3, a4] t (0, 0))) : w.cell? ⟨g, 0, none⟩ = some a0 ∧ w.cell? ⟨g, 1, none⟩ = some a1 ∧ w.cell? ⟨g, 2, none⟩ = some a2 ∧ w.cell? ⟨g, 3, none⟩ = some a3 ∧ w.cell? ⟨g, 4, none⟩ = some a4 ∧ w.frozen? ⟨g, 0, none⟩ = false ∧ w.frozen? ⟨g, 1, none⟩ = false ∧ w.frozen? ⟨g, 2, none⟩ = false ∧ w.frozen? ⟨g, 3, none⟩ = false ∧ w.frozen? ⟨g, 4, none⟩ = false := ⟨blk_cell h 0, blk_cell h 1, blk_cell h 2, blk_cell h 3, blk_cell h 4, blk_frozen h 0, blk_frozen h 1, blk_frozen h 2, blk_frozen h 3, blk_frozen h 4⟩
theorem cB6 {w : World} {g : Nat} {t : TypeId} {a0 a1 a2 a3 a4 a5 : Value} (h : w.heap[g]? = some (.cells #[a0, a1, a2, a3, a4, a5] t (0, 0))) : w.cell? ⟨g, 0, none⟩ = some a0 ∧ w.cell? ⟨g, 1, none⟩ = some a1 ∧ w.cell? ⟨g, 2, none⟩ = some a2 ∧ w.cell? ⟨g, 3, none⟩ = some a3 ∧ w.cell? ⟨g, 4, none⟩ = some a4 ∧ w.cell? ⟨g, 5, none⟩ = some a5 ∧ w.frozen? ⟨g, 0, none⟩ = false ∧ w.frozen? ⟨g, 1, none⟩ = false ∧ w.frozen? ⟨g, 2, none⟩ = false ∧ w.frozen? ⟨g, 3, none⟩ = false ∧ w.frozen? ⟨g, 4, none⟩ = false ∧ w.frozen? ⟨g, 5, none⟩ = false := ⟨blk_cell h 0, blk_cell h 1, blk_cell h 2, blk_cell h 3, blk_cell h 4, blk_cell h 5, blk_frozen h 0, blk_frozen h 1, blk_frozen h 2, blk_frozen h 3, blk_frozen h 4, blk_frozen h 5⟩
theorem cB7 {w : World} {g : Nat} {t : TypeId} {a0 a1 a2 a3 a4 a5 a6 : Value} (h : w.heap[g]? = some (.cells #[a0, a1, a2, a3, a4, a5, a6] t (0, 0))) : w.cell? ⟨g, 0, none⟩ = some a0 ∧ w.cell? ⟨g, 1, none⟩ = some a1 ∧ w.cell? ⟨g, 2, none⟩ = some a2 ∧ w.cell? ⟨g, 3, none⟩ = some a3 ∧ w.cell? ⟨g, 4, none⟩ = some a4 ∧ w.cell? ⟨g, 5, none⟩ = some a5 ∧ w.cell? ⟨g, 6, none⟩ = some a6 ∧ w.frozen? ⟨g, 0, none⟩ = false ∧ w.frozen? ⟨g, 1, none⟩ = false ∧ w.frozen? ⟨g, 2, none⟩ = false ∧ w.frozen? ⟨g, 3, none⟩ = false ∧ w.frozen? ⟨g, 4, none⟩ = false ∧ w.frozen? ⟨g, 5, none⟩ = false ∧ w.frozen? ⟨g, 6, none⟩ = false := ⟨blk_cell h 0, blk_cell h 1, blk_cell h 2, blk_cell h 3, blk_cell h 4, blk_cell h 5, blk_cell h 6, blk_frozen h 0, blk_frozen h 1, blk_frozen h 2, blk_frozen h 3, blk_frozen h 4, blk_frozen h 5, blk_frozen h 6⟩
theorem cB8 {w : World} {g : Nat} {t : TypeId} {a0 a1 a2 a3 a4 a5 a6 a7 : Value} (h : w.heap[g]? = some (.cells #[a0, a1, a2, a3, a4, a5, a6, a7] t (0, 0))) : w.cell? ⟨g, 0, none⟩ = some a0 ∧ w.cell? ⟨g, 1, none⟩ = some a1 ∧ w.cell? ⟨g, 2, none⟩ = some a2 ∧ w.cell? ⟨g, 3, none⟩ = some a3 ∧ w.cell? ⟨g, 4, none⟩ = some a4 ∧ w.cell? ⟨g, 5, none⟩ = some a5 ∧ w.cell? ⟨g, 6, none⟩ = some a6 ∧ w.cell? ⟨g, 7, none⟩ = some a7 ∧ w.frozen? ⟨g, 0, none⟩ = false ∧ w.frozen? ⟨g, 1, none⟩ = false ∧ w.frozen? ⟨g, 2, none⟩ = false ∧ w.frozen? ⟨g, 3, none⟩ = false ∧ w.frozen? ⟨g, 4, none⟩ = false ∧ w.frozen? ⟨g, 5, none⟩ = false ∧ w.frozen? ⟨g, 6, none⟩ = false ∧ w.frozen? ⟨g, 7, none⟩ = false := ⟨blk_cell h 0, blk_cell h 1, blk_cell h 2, blk_cell h 3, blk_cell h 4, blk_cell h 5, blk_cell h 6, blk_cell h 7, blk_frozen h 0, blk_frozen h 1, blk_frozen h 2, blk_frozen h 3, blk_frozen h 4, blk_frozen h 5, blk_frozen h 6, blk_frozen h 7⟩
theorem cD {w0 w w1 : World} {g : Nat} {o : Obj} (_ : w0.heap[g]? = some o) (h : w.heap[g]? = some o) (hb : Below w.heap.size w w1) : w1.heap[g]? = some o := blk_below h hb
theorem cH {w0 w w1 : World} {g : Nat} (h : Below w0.heap.size w0 w) (hb : Below w.heap.size w w1) (hg : g = w.heap.size) : w0.heap.size ≤ g ∧ Below w0.heap.size w0 w1 := ⟨hg ▸ h.size, below_step h hb⟩
theorem cS2 {w : World} {g b i0 i1 : Nat} {u0 u1 : Value} {t : TypeId} {cs : Array Value} (h : w.heap[g]? = some (.cells cs t (0, 0))) (hp : g ≠ b) : ((w.setCell ⟨b, i0, none⟩ u0).setCell ⟨b, i1, none⟩ u1).heap[g]? = some (.cells cs t (0, 0)) := blk_far (blk_far h hp u0) hp u1
theorem cS3 {w : World} {g b i0 i1 i2 : Nat} {u0 u1 u2 : Value} {t : TypeId} {cs : Array Value} (h : w.heap[g]? = some (.cells cs t (0, 0))) (hp : g ≠ b) : (((w.setCell ⟨b, i0, none⟩ u0).setCell ⟨b, i1, none⟩ u1).setCell ⟨b, i2, none⟩ u2).heap[g]? = some (.cells cs t (0, 0)) := blk_far (blk_far (blk_far h hp u0) hp u1) hp u2
theorem cS4 {w : World} {g b i0 i1 i2 i3 : Nat} {u0 u1 u2 u3 : Value} {t : TypeId} {cs : Array Value} (h : w.heap[g]? = some (.cells cs t (0, 0))) (hp : g ≠ b) : ((((w.setCell ⟨b, i0, none⟩ u0).setCell ⟨b, i1, none⟩ u1).setCell ⟨b, i2, none⟩ u2).setCell ⟨b, i3, none⟩ u3).heap[g]? = some (.cells cs t (0, 0)) := blk_far (blk_far (blk_far (blk_far h hp u0) hp u1) hp u2) hp u3
theorem cS5 {w : World} {g b i0 i1 i2 i3 i4 : Nat} {u0 u1 u2 u3 u4 : Value} {t : TypeId} {cs : Array Value} (h : w.heap[g]? = some (.cells cs t (0, 0))) (hp : g ≠ b) : (((((w.setCell ⟨b, i0, none⟩ u0).setCell ⟨b, i1, none⟩ u1).setCell ⟨b, i2, none⟩ u2).setCell ⟨b, i3, none⟩ u3).setCell ⟨b, i4, none⟩ u4).heap[g]? = some (.cells cs t (0, 0)) := blk_far (blk_far (blk_far (blk_far (blk_far h hp u0) hp u1) hp u2) hp u3) hp u4
theorem ja (P:Prop)[Decidable P](h:decide P=true:=by first|(with_reducible assumption)|assumption):P=True:=eq_true (zy h)
theorem jb{P:Prop}(h:P:=by intro w';go_simp;with_reducible rfl):P:=h
theorem jc{P:Prop}(h:P:=by simp only [Act.put,zi,zj,zk,zG,zH];rfl):P:=h
theorem jj {ops : Array Oper} {Q : Exit → Act → World → Prop} {rest : List Oper} {oi : Oper} {a : Act} {w : World} (N : Option Tmp) {f : FuncId} {as_ : Array Operand} {ts : Array TypeId} (hd : oi.dst = N) (hg : oi.guard = none) (hop : oi.op = .call { callee:=.value (.func f),args:=as_,argTypes:=ts }) (fn : Func) (args : Array Value)
 (h : Calls Try.prog f args w fun e w' => ∃ v,e = .returned v∧wpList Try.prog ops Q rest (a.put N v) w') (hf : Try.prog.funcs[f]? = some fn := by kernel_rfl) (hn : (fn.name == "runtime.NumGoroutine") = false := by exact rfl) (hb : fn.body.isSome = true := by exact rfl)
 (hargs : as_.map a.eval=args := by (try simp only [zt,zu,zv]);first|done|rfl|(simp only [zw,zx];rfl)|(simp only [yr,ys,zV,zW];rfl)) : wpList Try.prog ops Q (oi :: rest) a w := goesL_ N hd hg hf hn hb args hop hargs h
theorem jD{P:Prop}(h:P:=by omega):P:=h
theorem jB{P:Prop}(h:P:=by decide):P:=h
theorem jA{P:Prop}(h:P:=by kernel_rfl):P:=h
theorem jAB{P:Prop}(h:P:=by go_simp <;> rfl):P:=h
theorem jBl{P:Prop}(h:P:=by rw [htl];exact ye _):P:=h
theorem jBr{P:Prop}(h:P:=by rw [hYl];exact hjl2):P:=h
theorem jA6{P:Prop}(h:P:=by rw [hW2,hW1,hV];rfl):P:=h
theorem jA7{P:Prop}(h:P:=by have:=Hlm.out;omega):P:=h
theorem jR{P:Prop}(h:P:=by have:=HK1.out;omega):P:=h
theorem jBm{P:Prop}(h:P:=by simp [hcl,htl];omega):P:=h
theorem jA5{P:Prop}(h:P:=by simp [hcl,hil];omega):P:=h
theorem jBo{P:Prop}(h:P:=by rw [hlen];exact hR2t):P:=h
theorem jAe{P:Prop}(h:P:=by simp [Value.ownBlock]):P:=h
theorem jAI{P:Prop}(h:P:=by first|omega|exact ye _):P:=h
theorem jx{P:Prop}(h:P:=by simp [Act.eval,Act.put]):P:=h
theorem jAC{P:Prop}(h:P:=by simp only [zt,zu,zv];rfl):P:=h
theorem jg{P:Prop}(h:P:=by rw [hr_];apply F0.j1_no3):P:=h
theorem jCF{P:Prop}(h:P:=by rw [Array.length_toList];omega):P:=h
theorem jCL{P:Prop}(h:P:=by rw [if_neg jB];exact h):P:=h
theorem jI{P:Prop}(h:P:=by repeat (first|exact yp _|apply yq)):P:=h
theorem jB4{P:Prop}(h:P:=by have:=HK1.out;first|omega|exact ye _):P:=h
theorem jBq{P:Prop}(h:P:=by have:=XL.out;have:=HFL.out;simp;omega):P:=h
theorem jE{P:Prop}(h:P:=by first|rfl|(simp;done)|(simp [*];done)):P:=h
theorem jAM{P:Prop}(h:P:=by injection hk with hk;subst hk;exact hPg):P:=h
theorem jBn{P:Prop}(h:P:=by simp only [List.size_toArray];exact hR2l):P:=h
theorem jBO{P:Prop}(h:P:=by have:=HLM.out.2;have:=HIL.out;simp;omega):P:=h
theorem jC{P:Prop}(h:P:=by first|(with_reducible assumption)|assumption):P:=h
theorem jCr{P:Prop}(h:P:=by have:=HK1.out;have:=HJ15.out;have:=HK3.out;omega):P:=h
theorem jDD{P:Prop}(h:P:=by simp only [List.size_toArray];rw [hR1l,hdl];omega):P:=h
theorem jDE{P:Prop}(h:P:=by simp only [List.size_toArray];rw [hR1l,hcl];omega):P:=h
theorem jDG{P:Prop}(h:P:=by rw [← add_field _ _ 1 jD];exact hc 1 _ rfl):P:=h
theorem jBt{P:Prop}(h:P:=by have:=HJ1.out;have:=HK2.out;first|omega|exact ye _):P:=h
theorem jDB{P:Prop}(h:P:=by rw [zw];have:=Nat.mod_lt q (show 0<2 by decide);omega):P:=h
theorem jy{P:Prop}(h:P:=by have:=zl _ _ hx349_0;first|rwa [zF] at this|exact this):P:=h
theorem jBP{P:Prop}(h:P:=by have:=HT2.out;have:=HYL2.out;have:=HJL2.out;simp;omega):P:=h
theorem jG{P:Prop}(h:P:=by first|rfl|(simp [yt,yu] <;> rfl)|(simp [*,yt,yu] <;> rfl)):P:=h
theorem jC9{P:Prop}(h:P:=by rw [if_neg hc1];exact (congrArg some (add_plain _ _)).symm):P:=h
theorem jDA{P:Prop}(h:P:=by repeat (first|exact Below.refl _ _|apply za|apply zc|apply zb)):P:=h
theorem jD0{P:Prop}(h:P:=by have:=HJ2.out;have:=HJ18.out;have:=HK3.out;have:=HJ411.out;omega):P:=h
theorem jB3{P:Prop}(h:P:=by have:=HJ2.out;have:=HJ18.out;have:=HK3.out;first|omega|exact ye _):P:=h
theorem jBi{P:Prop}(h:P:=by first|(simp [Act.eval,Act.put];done)|(simp [Act.eval,Act.put];omega)):P:=h
theorem jDC{P:Prop}(h:P:=by rw [hgo];rcases hat with hat|hat;exact .inl hat;exact .inr (.inr hat)):P:=h
theorem jH{P:Prop}(h:P:=by repeat (with_reducible first|exact HB.out|apply za|apply zb|apply zc)):P:=h
theorem jAk{P:Prop}(h:P:=by (with_reducible repeat first|apply ze|apply zf|apply zg);exact BK910.out):P:=h
theorem js{P:Prop}(h:P:=by (with_reducible repeat first|apply ze|apply zf|apply zg);exact BK580.out):P:=h
theorem jk{P:Prop}(h:P:=by (with_reducible repeat first|apply ze|apply zf|apply zg);exact BK574.out):P:=h
theorem jf{P:Prop}(h:P:=by (with_reducible repeat first|apply ze|apply zf|apply zg);exact BK568.out):P:=h
theorem jW{P:Prop}(h:P:=by (with_reducible repeat first|apply ze|apply zf|apply zg);exact BK557.out):P:=h
theorem jU{P:Prop}(h:P:=by (with_reducible repeat first|apply ze|apply zf|apply zg);exact BK550.out):P:=h
theorem jQ{P:Prop}(h:P:=by (with_reducible repeat first|apply ze|apply zf|apply zg);exact BK543.out):P:=h
theorem jP{P:Prop}(h:P:=by (with_reducible repeat first|apply ze|apply zf|apply zg);exact BK540.out):P:=h
theorem jBx{P:Prop}(h:P:=by (with_reducible repeat first|apply ze|apply zf|apply zg);exact BK530.out):P:=h
theorem jBD{P:Prop}(h:P:=by (with_reducible repeat first|apply ze|apply zf|apply zg);exact BK529.out):P:=h
theorem jBC{P:Prop}(h:P:=by (with_reducible repeat first|apply ze|apply zf|apply zg);exact BK524.out):P:=h
theorem jAQ{P:Prop}(h:P:=by (with_reducible repeat first|apply ze|apply zf|apply zg);exact BK523.out):P:=h
theorem jCP{P:Prop}(h:P:=by (with_reducible repeat first|apply ze|apply zf|apply zg);exact BK518.out):P:=h
theorem jAU{P:Prop}(h:P:=by (with_reducible repeat first|apply ze|apply zf|apply zg);exact BK504.out):P:=h
theorem jAO{P:Prop}(h:P:=by (with_reducible repeat first|apply ze|apply zf|apply zg);exact BK503.out):P:=h
theorem jAF{P:Prop}(h:P:=by (with_reducible repeat first|apply ze|apply zf|apply zg);exact BK502.out):P:=h
theorem jC8{P:Prop}(h:P:=by (with_reducible repeat first|apply ze|apply zf|apply zg);exact BK493.out):P:=h
theorem jBh{P:Prop}(h:P:=by (with_reducible repeat first|apply ze|apply zf|apply zg);exact BK492.out):P:=h
theorem jA4{P:Prop}(h:P:=by (with_reducible repeat first|apply ze|apply zf|apply zg);exact BK487.out):P:=h
theorem jB8{P:Prop}(h:P:=by (with_reducible repeat first|apply ze|apply zf|apply zg);exact BK480.out):P:=h
theorem jBg{P:Prop}(h:P:=by (with_reducible repeat first|apply ze|apply zf|apply zg);exact BK478.out):P:=h
theorem jBM{P:Prop}(h:P:=by (with_reducible repeat first|apply ze|apply zf|apply zg);exact BK477.out):P:=h
theorem jAn{P:Prop}(h:P:=by (with_reducible repeat first|apply ze|apply zf|apply zg);exact BK476.out):P:=h
theorem jA8{P:Prop}(h:P:=by (with_reducible repeat first|apply ze|apply zf|apply zg);exact BK423.out):P:=h
theorem jAN{P:Prop}(h:P:=by (with_reducible repeat first|apply ze|apply zf|apply zg);exact BK422.out):P:=h
theorem jBX{P:Prop}(h:P:=by (with_reducible repeat first|apply ze|apply zf|apply zg);exact BK416.out):P:=h
theorem jBY{P:Prop}(h:P:=by (with_reducible repeat first|apply ze|apply zf|apply zg);exact BK394.out):P:=h
theorem jAm{P:Prop}(h:P:=by (with_reducible repeat first|apply ze|apply zf|apply zg);exact BK393.out):P:=h
theorem jl{P:Prop}(h:P:=by (with_reducible repeat first|apply ze|apply zf|apply zg);exact BK373.out):P:=h
theorem je{P:Prop}(h:P:=by (with_reducible repeat first|apply ze|apply zf|apply zg);exact BK372.out):P:=h
theorem jAh{P:Prop}(h:P:=by (with_reducible repeat first|apply ze|apply zf|apply zg);exact BK363.out):P:=h
theorem jAE{P:Prop}(h:P:=by (with_reducible repeat first|apply ze|apply zf|apply zg);exact BK361.out):P:=h
theorem jm{P:Prop}(h:P:=by (with_reducible repeat first|apply ze|apply zf|apply zg);exact BK358.out):P:=h
theorem jM{P:Prop}(h:P:=by (with_reducible repeat first|apply ze|apply zf|apply zg);exact BK328.out):P:=h
theorem jK{P:Prop}(h:P:=by (with_reducible repeat first|apply ze|apply zf|apply zg);exact BK327.out):P:=h
theorem jC5{P:Prop}(h:P:=by (with_reducible repeat first|apply ze|apply zf|apply zg);exact BK322.out):P:=h
theorem jAL{P:Prop}(h:P:=by (with_reducible repeat first|apply ze|apply zf|apply zg);exact BK320.out):P:=h
theorem jw{P:Prop}(h:P:=by (with_reducible repeat first|apply ze|apply zf|apply zg);exact BK319.out):P:=h
theorem jA2{P:Prop}(h:P:=by (with_reducible repeat first|apply ze|apply zf|apply zg);exact BK312.out):P:=h
theorem jL{P:Prop}(h:P:=by (with_reducible repeat first|apply ze|apply zf|apply zg);exact BK292.out):P:=h
theorem jB5{P:Prop}(h:P:=by (with_reducible repeat first|apply ze|apply zf|apply zg);exact BK284.out):P:=h
theorem jBK{P:Prop}(h:P:=by (with_reducible repeat first|apply ze|apply zf|apply zg);exact BK268.out):P:=h
theorem jBz{P:Prop}(h:P:=by (with_reducible repeat first|apply ze|apply zf|apply zg);exact BK257.out):P:=h
theorem jBS{P:Prop}(h:P:=by (with_reducible repeat first|apply ze|apply zf|apply zg);exact BK246.out):P:=h
theorem jAG{P:Prop}(h:P:=by (with_reducible repeat first|apply ze|apply zf|apply zg);exact BK216.out):P:=h
theorem jp{P:Prop}(h:P:=by (with_reducible repeat first|apply ze|apply zf|apply zg);exact BK211.out):P:=h
theorem jCT{P:Prop}(h:P:=by (with_reducible repeat first|apply ze|apply zf|apply zg);exact BK154.out):P:=h
theorem jBA{P:Prop}(h:P:=by (with_reducible repeat first|apply ze|apply zf|apply zg);exact BK149.out):P:=h
theorem jAg{P:Prop}(h:P:=by (with_reducible repeat first|apply ze|apply zf|apply zg);exact BK148.out):P:=h
theorem jBp{P:Prop}(h:P:=by (with_reducible repeat first|apply ze|apply zf|apply zg);exact BK146.out):P:=h
theorem jA9{P:Prop}(h:P:=by (with_reducible repeat first|apply ze|apply zf|apply zg);exact BK131.out):P:=h
theorem jAf{P:Prop}(h:P:=by (with_reducible repeat first|apply ze|apply zf|apply zg);exact BK130.out):P:=h
theorem jCS{P:Prop}(h:P:=by (with_reducible repeat first|apply ze|apply zf|apply zg);exact BK120.out):P:=h
theorem jBk{P:Prop}(h:P:=by repeat (first|assumption|exact Below.refl _ _|apply za|apply zc|apply zb)):P:=h
theorem ju{P:Prop}(h:P:=by (with_reducible repeat (first|apply zm|apply zn|apply zo));exact HO_9.out):P:=h
theorem jJ{P:Prop}(h:P:=by (with_reducible repeat (first|apply zm|apply zn|apply zo));exact HO_7.out):P:=h
theorem jN{P:Prop}(h:P:=by (with_reducible repeat (first|apply zm|apply zn|apply zo));exact HO_6.out):P:=h
theorem jAS{P:Prop}(h:P:=by (with_reducible repeat (first|apply zm|apply zn|apply zo));exact HO_3.out):P:=h
theorem jAK{P:Prop}(h:P:=by (with_reducible repeat (first|apply zm|apply zn|apply zo));exact HO_67.out):P:=h
theorem jAu{P:Prop}(h:P:=by (with_reducible repeat (first|apply zm|apply zn|apply zo));exact HO_26.out):P:=h
theorem jBW{P:Prop}(h:P:=by (with_reducible repeat (first|apply zm|apply zn|apply zo));exact HO588.out):P:=h
theorem jBV{P:Prop}(h:P:=by (with_reducible repeat (first|apply zm|apply zn|apply zo));exact HO585.out):P:=h
theorem jCs{P:Prop}(h:P:=by (with_reducible repeat (first|apply zm|apply zn|apply zo));exact HO419.out):P:=h
theorem jD4{P:Prop}(h:P:=by (with_reducible repeat (first|apply zm|apply zn|apply zo));exact HO404.out):P:=h
theorem jD1{P:Prop}(h:P:=by (with_reducible repeat (first|apply zm|apply zn|apply zo));exact HO379.out):P:=h
theorem jCq{P:Prop}(h:P:=by (with_reducible repeat (first|apply zm|apply zn|apply zo));exact HO376.out):P:=h
theorem jCY{P:Prop}(h:P:=by (with_reducible repeat (first|apply zm|apply zn|apply zo));exact HO335.out):P:=h
theorem jCx{P:Prop}(h:P:=by (with_reducible repeat (first|apply zm|apply zn|apply zo));exact HO310.out):P:=h
theorem jDS{P:Prop}(h:P:=by (with_reducible repeat (first|apply zm|apply zn|apply zo));exact HO123.out):P:=h
theorem jDJ{P:Prop}(h:P:=by have:=HJ1.out;have:=HK2.out;have:=HJ14.out;have:=HK4.out;have:=HK5.out;omega):P:=h
theorem jS{P:Prop}(h:P:=by repeat (with_reducible first|exact HK.out|apply yl|apply ym|apply yw|apply yn)):P:=h
theorem jC7{P:Prop}(h:P:=by first|rfl|(simp;done)|(simp only [← hji6] <;> (first|rfl|simp))|(simp [*];done)):P:=h
theorem jt{P:Prop}(h:P:=by first|(simp only [putAll,Act.put,zi,zj,zk];done)|(simp only [putAll,Act.put,zi,zj,zk];rfl)):P:=h
theorem jAs{P:Prop}(h:P:=by repeat (with_reducible first|exact HB.out|apply za|apply zb|apply zc|refine zd ?_ GE910.out)):P:=h
theorem jCe{P:Prop}(h:P:=by repeat (with_reducible first|exact HB.out|apply za|apply zb|apply zc|refine zd ?_ GE540.out)):P:=h
theorem jCQ{P:Prop}(h:P:=by repeat (with_reducible first|exact HB.out|apply za|apply zb|apply zc|refine zd ?_ GE523.out)):P:=h
theorem jBB{P:Prop}(h:P:=by repeat (with_reducible first|exact HB.out|apply za|apply zb|apply zc|refine zd ?_ GE518.out)):P:=h
theorem jAd{P:Prop}(h:P:=by repeat (with_reducible first|exact HB.out|apply za|apply zb|apply zc|refine zd ?_ GE487.out)):P:=h
theorem jCG{P:Prop}(h:P:=by repeat (with_reducible first|exact HB.out|apply za|apply zb|apply zc|refine zd ?_ GE422.out)):P:=h
theorem jAb{P:Prop}(h:P:=by repeat (with_reducible first|exact HB.out|apply za|apply zb|apply zc|refine zd ?_ GE416.out)):P:=h
theorem jD2{P:Prop}(h:P:=by repeat (with_reducible first|exact HB.out|apply za|apply zb|apply zc|refine zd ?_ GE393.out)):P:=h
theorem jCp{P:Prop}(h:P:=by repeat (with_reducible first|exact HB.out|apply za|apply zb|apply zc|refine zd ?_ GE371.out)):P:=h
theorem jBs{P:Prop}(h:P:=by repeat (with_reducible first|exact HB.out|apply za|apply zb|apply zc|refine zd ?_ GE358.out)):P:=h
theorem jDH{P:Prop}(h:P:=by repeat (with_reducible first|exact HB.out|apply za|apply zb|apply zc|refine zd ?_ GE356.out)):P:=h
theorem jB0{P:Prop}(h:P:=by repeat (with_reducible first|exact HB.out|apply za|apply zb|apply zc|refine zd ?_ GE327.out)):P:=h
theorem jCX{P:Prop}(h:P:=by repeat (with_reducible first|exact HB.out|apply za|apply zb|apply zc|refine zd ?_ GE316.out)):P:=h
theorem jX{P:Prop}(h:P:=by repeat (with_reducible first|exact HB.out|apply za|apply zb|apply zc|refine zd ?_ GE292.out)):P:=h
theorem jCt{P:Prop}(h:P:=by repeat (with_reducible first|exact HB.out|apply za|apply zb|apply zc|refine zd ?_ GE277.out)):P:=h
theorem jBJ{P:Prop}(h:P:=by repeat (with_reducible first|exact HB.out|apply za|apply zb|apply zc|refine zd ?_ GE268.out)):P:=h
theorem jAp{P:Prop}(h:P:=by repeat (with_reducible first|exact HB.out|apply za|apply zb|apply zc|refine zd ?_ GE154.out)):P:=h
theorem jCI{P:Prop}(h:P:=by repeat (with_reducible first|exact HB.out|apply za|apply zb|apply zc|refine zd ?_ GE146.out)):P:=h
theorem jDN{P:Prop}(h:P:=by rw [hg];exact (zB (by repeat (with_reducible first|exact HBW.out|apply za|apply zb|apply zc)))):P:=h
theorem jAA{P:Prop}(h:P:=by first|(rw [zF];exact hn349_1)|(show (Addr.add _ _).block≠_;rw [zF];exact hn349_1)|exact hn349_1):P:=h
theorem jz{P:Prop}(h:P:=by first|(rw [zF];exact hn349_0)|(show (Addr.add _ _).block≠_;rw [zF];exact hn349_0)|exact hn349_0):P:=h
theorem jF{P:Prop}(h:P:=by (try simp only [zt,zu,zv]);first|done|rfl|(simp only [zw,zx];rfl)|(simp only [yr,ys,zV,zW];rfl)):P:=h
theorem jCz{P:Prop}(h:P:=by (with_reducible repeat (first|apply zm|apply zn|apply zo));exact zM HO_6.out (fun _ hk=>trivial)):P:=h
theorem jDF{P:Prop}(h:P:=by (with_reducible repeat (first|apply Kd.S_alloc|apply Kd.S_drewN|apply Kd.S_drew));exact HO_3.out):P:=h
theorem jC0{P:Prop}(h:P:=by (with_reducible repeat (first|apply zm|apply zn|apply zo));exact zM HO_67.out (fun _ hk=>trivial)):P:=h
theorem jAt{P:Prop}(h:P:=by (with_reducible repeat (first|apply Kd.N_alloc|apply Kd.N_drewN|apply Kd.N_drew));exact HO577.out):P:=h
theorem jAl{P:Prop}(h:P:=by (with_reducible repeat (first|apply Kd.N_alloc|apply Kd.N_drewN|apply Kd.N_drew));exact HO571.out):P:=h
theorem jAZ{P:Prop}(h:P:=by (with_reducible repeat (first|apply Kd.N_alloc|apply Kd.N_drewN|apply Kd.N_drew));exact HO564.out):P:=h
theorem jv{P:Prop}(h:P:=by (with_reducible repeat (first|apply Kd.N_alloc|apply Kd.N_drewN|apply Kd.N_drew));exact HO553.out):P:=h
theorem jr{P:Prop}(h:P:=by (with_reducible repeat (first|apply Kd.N_alloc|apply Kd.N_drewN|apply Kd.N_drew));exact HO546.out):P:=h
theorem ji{P:Prop}(h:P:=by (with_reducible repeat (first|apply Kd.N_alloc|apply Kd.N_drewN|apply Kd.N_drew));exact HO538.out):P:=h
theorem jo{P:Prop}(h:P:=by repeat (with_reducible first|exact HB.out|apply za|apply zb|apply zc|refine zd ?_ (IsS71.ge HI0.out))):P:=h
theorem jAr{P:Prop}(h:P:=by (with_reducible repeat (first|apply Kd.V_alloc|apply Kd.V_drewN|apply Kd.V_drew));exact HO_217000.out):P:=h
theorem jC4{P:Prop}(h:P:=by (with_reducible repeat (first|apply Kd.S_alloc|apply Kd.S_drewN|apply Kd.S_drew));exact HO_479000.out):P:=h
theorem jA0{P:Prop}(h:P:=by (with_reducible repeat (first|apply Kd.N_alloc|apply Kd.N_drewN|apply Kd.N_drew));exact HO_581000.out):P:=h
theorem jAz{P:Prop}(h:P:=by (with_reducible repeat (first|apply Kd.N_alloc|apply Kd.N_drewN|apply Kd.N_drew));exact HO_575000.out):P:=h
theorem jAy{P:Prop}(h:P:=by (with_reducible repeat (first|apply Kd.N_alloc|apply Kd.N_drewN|apply Kd.N_drew));exact HO_569000.out):P:=h
theorem jAx{P:Prop}(h:P:=by (with_reducible repeat (first|apply Kd.N_alloc|apply Kd.N_drewN|apply Kd.N_drew));exact HO_558000.out):P:=h
theorem jAw{P:Prop}(h:P:=by (with_reducible repeat (first|apply Kd.N_alloc|apply Kd.N_drewN|apply Kd.N_drew));exact HO_551000.out):P:=h
theorem jAv{P:Prop}(h:P:=by (with_reducible repeat (first|apply Kd.N_alloc|apply Kd.N_drewN|apply Kd.N_drew));exact HO_541000.out):P:=h
theorem jBR{P:Prop}(h:P:=by repeat (with_reducible first|exact HK.out|apply yl|apply ym|apply yw|apply yn|refine keep_far ?_ GW211.out _)):P:=h
theorem jBQ{P:Prop}(h:P:=by repeat (with_reducible first|exact HK.out|apply yl|apply ym|apply yw|apply yn|refine keep_far ?_ GW120.out _)):P:=h
theorem jDV{P:Prop}(h:P:=by repeat (with_reducible first|exact HB.out|apply za|apply zb|apply zc|refine zd ?_ GE910.out|refine zd ?_ GE317.out)):P:=h
theorem jCg{P:Prop}(h:P:=by repeat (with_reducible first|exact HB.out|apply za|apply zb|apply zc|refine zd ?_ GE540.out|refine zd ?_ GE543.out)):P:=h
theorem jAi{P:Prop}(h:P:=by repeat (with_reducible first|exact HB.out|apply za|apply zb|apply zc|refine zd ?_ GE529.out|refine zd ?_ GE530.out)):P:=h
theorem jAV{P:Prop}(h:P:=by repeat (with_reducible first|exact HB.out|apply za|apply zb|apply zc|refine zd ?_ GE523.out|refine zd ?_ GE524.out)):P:=h
theorem jCE{P:Prop}(h:P:=by repeat (with_reducible first|exact HB.out|apply za|apply zb|apply zc|refine zd ?_ GE492.out|refine zd ?_ GE493.out)):P:=h
theorem jAT{P:Prop}(h:P:=by repeat (with_reducible first|exact HB.out|apply za|apply zb|apply zc|refine zd ?_ GE422.out|refine zd ?_ GE423.out)):P:=h
theorem jAH{P:Prop}(h:P:=by repeat (with_reducible first|exact HB.out|apply za|apply zb|apply zc|refine zd ?_ GE393.out|refine zd ?_ GE394.out)):P:=h
theorem jV{P:Prop}(h:P:=by repeat (with_reducible first|exact HB.out|apply za|apply zb|apply zc|refine zd ?_ GE372.out|refine zd ?_ GE373.out)):P:=h
theorem jCM{P:Prop}(h:P:=by repeat (with_reducible first|exact HB.out|apply za|apply zb|apply zc|refine zd ?_ GE358.out|refine zd ?_ GE361.out)):P:=h
theorem jO{P:Prop}(h:P:=by repeat (with_reducible first|exact HB.out|apply za|apply zb|apply zc|refine zd ?_ GE327.out|refine zd ?_ GE328.out)):P:=h
theorem jBN{P:Prop}(h:P:=by repeat (with_reducible first|exact HB.out|apply za|apply zb|apply zc|refine zd ?_ GE319.out|refine zd ?_ GE320.out)):P:=h
theorem jq{P:Prop}(h:P:=by repeat (with_reducible first|exact HB.out|apply za|apply zb|apply zc|refine zd ?_ GE292.out|refine zd ?_ GE312.out)):P:=h
theorem jAJ{P:Prop}(h:P:=by repeat (with_reducible first|exact HB.out|apply za|apply zb|apply zc|refine zd ?_ GE292.out|refine zd ?_ GE299.out)):P:=h
theorem jB6{P:Prop}(h:P:=by repeat (with_reducible first|exact HB.out|apply za|apply zb|apply zc|refine zd ?_ GE284.out|refine zd ?_ GE285.out)):P:=h
theorem jBZ{P:Prop}(h:P:=by repeat (with_reducible first|exact HB.out|apply za|apply zb|apply zc|refine zd ?_ GE268.out|refine zd ?_ GE273.out)):P:=h
theorem jAo{P:Prop}(h:P:=by repeat (with_reducible first|exact HB.out|apply za|apply zb|apply zc|refine zd ?_ GE148.out|refine zd ?_ GE149.out)):P:=h
theorem jCK{P:Prop}(h:P:=by repeat (with_reducible first|exact HB.out|apply za|apply zb|apply zc|refine zd ?_ GE146.out|refine zd ?_ GE147.out)):P:=h
theorem jAD{P:Prop}(h:P:=by repeat (with_reducible first|exact HB.out|apply za|apply zb|apply zc|refine zd ?_ GE130.out|refine zd ?_ GE131.out)):P:=h
theorem jC6{P:Prop}(h:P:=by (try simp only [zt,zu,zv]);first|done|(simp only [hji6];rfl)|rfl|(simp only [zw,zx];rfl)|(simp only [yr,ys,zV,zW];rfl)):P:=h
theorem jCy{P:Prop}(h:P:=by (try simp only [zt,zu,zv]);first|done|(simp only [hji66];rfl)|rfl|(simp only [zw,zx];rfl)|(simp only [yr,ys,zV,zW];rfl)):P:=h
theorem jDT{P:Prop}(h:P:=by repeat (with_reducible first|exact HB.out|apply za|apply zb|apply zc|refine zd ?_ (IsS71.ge HI0.out)|refine zd ?_ GE211.out)):P:=h
theorem jDQ{P:Prop}(h:P:=by repeat (with_reducible first|exact HB.out|apply za|apply zb|apply zc|refine zd ?_ (IsS71.ge HI0.out)|refine zd ?_ GE120.out)):P:=h
theorem jCW{P:Prop}(h:P:=by repeat (with_reducible first|exact HB.out|apply za|apply zb|apply zc|refine zd ?_ (IsS71.ge HI250.out)|refine zd ?_ GE246.out)):P:=h
theorem jC3{P:Prop}(h:P:=by first|exact Kd.S_nil _ _ _ _ _|exact Kd.N_nil _ _ _ _ _|exact Kd.V_nil _ _ _ _ _|exact Kd.Q_nil _ _ _ _ _|exact Kd.R_nil _ _ _ _ _):P:=h
theorem jDW{P:Prop}(h:P:=by first|exact Kd.R_nil _ _ _ _ _|exact Kd.N_nil _ _ _ _ _|exact Kd.V_nil _ _ _ _ _|exact Kd.Q_nil _ _ _ _ _|exact Kd.S_nil _ _ _ _ _):P:=h
theorem jn{P:Prop}(h:P:=by repeat (with_reducible first|exact HI0.out|apply IsS71.alloc|apply IsS71.drewN|apply IsS71.drew|apply IsS71.set_1|apply IsS71.set_2)):P:=h
theorem jBy{P:Prop}(h:P:=by rw [hg];exact (keep_size (w:=w) (g:=g) (row:=none) jS)):P:=h
theorem jCi{P:Prop}(h:P:=by repeat (with_reducible first|exact HB.out|apply za|apply zb|apply zc|refine zd ?_ GE540.out|refine zd ?_ GE543.out|refine zd ?_ GE550.out)):P:=h
theorem jAP{P:Prop}(h:P:=by repeat (with_reducible first|exact HB.out|apply za|apply zb|apply zc|refine zd ?_ GE502.out|refine zd ?_ GE503.out|refine zd ?_ GE504.out)):P:=h
theorem jB7{P:Prop}(h:P:=by repeat (with_reducible first|exact HB.out|apply za|apply zb|apply zc|refine zd ?_ GE476.out|refine zd ?_ GE477.out|refine zd ?_ GE478.out)):P:=h
theorem jY{P:Prop}(h:P:=by repeat (with_reducible first|exact HB.out|apply za|apply zb|apply zc|refine zd ?_ GE358.out|refine zd ?_ GE361.out|refine zd ?_ GE363.out)):P:=h
theorem jT{P:Prop}(h:P:=by repeat (with_reducible first|exact HB.out|apply za|apply zb|apply zc|refine zd ?_ GE327.out|refine zd ?_ GE328.out|refine zd ?_ GE345.out)):P:=h
theorem jAc{P:Prop}(h:P:=by repeat (with_reducible first|exact HB.out|apply za|apply zb|apply zc|refine zd ?_ GE319.out|refine zd ?_ GE320.out|refine zd ?_ GE322.out)):P:=h
theorem jZ{P:Prop}(h:P:=by repeat (with_reducible first|exact HK.out|apply yl|apply ym|apply yw|apply yn|refine keep_far ?_ GW211.out _|refine keep_far ?_ GW216.out _)):P:=h
theorem jAq{P:Prop}(h:P:=by repeat (with_reducible first|exact HB.out|apply za|apply zb|apply zc|refine zd ?_ (IsS71.ge HI0.out)|refine zd ?_ GE211.out|refine zd ?_ GE216.out)):P:=h
theorem jDx{P:Prop}(h:P:=by (with_reducible repeat first|apply ze|apply zf|apply zg);refine cS2 ?_ NB568_574.out;(with_reducible repeat first|apply ze|apply zf|apply zg);exact BK568.out):P:=h
theorem jDw{P:Prop}(h:P:=by (with_reducible repeat first|apply ze|apply zf|apply zg);refine cS2 ?_ NB557_574.out;(with_reducible repeat first|apply ze|apply zf|apply zg);exact BK557.out):P:=h
theorem jDm{P:Prop}(h:P:=by (with_reducible repeat first|apply ze|apply zf|apply zg);refine cS2 ?_ NB557_568.out;(with_reducible repeat first|apply ze|apply zf|apply zg);exact BK557.out):P:=h
theorem jDv{P:Prop}(h:P:=by (with_reducible repeat first|apply ze|apply zf|apply zg);refine cS2 ?_ NB550_574.out;(with_reducible repeat first|apply ze|apply zf|apply zg);exact BK550.out):P:=h
theorem jDl{P:Prop}(h:P:=by (with_reducible repeat first|apply ze|apply zf|apply zg);refine cS2 ?_ NB550_568.out;(with_reducible repeat first|apply ze|apply zf|apply zg);exact BK550.out):P:=h
theorem jDu{P:Prop}(h:P:=by (with_reducible repeat first|apply ze|apply zf|apply zg);refine cS2 ?_ NB543_574.out;(with_reducible repeat first|apply ze|apply zf|apply zg);exact BK543.out):P:=h
theorem jDk{P:Prop}(h:P:=by (with_reducible repeat first|apply ze|apply zf|apply zg);refine cS2 ?_ NB543_568.out;(with_reducible repeat first|apply ze|apply zf|apply zg);exact BK543.out):P:=h
theorem jDc{P:Prop}(h:P:=by (with_reducible repeat first|apply ze|apply zf|apply zg);refine cS2 ?_ NB543_550.out;(with_reducible repeat first|apply ze|apply zf|apply zg);exact BK543.out):P:=h
theorem jDt{P:Prop}(h:P:=by (with_reducible repeat first|apply ze|apply zf|apply zg);refine cS2 ?_ NB540_574.out;(with_reducible repeat first|apply ze|apply zf|apply zg);exact BK540.out):P:=h
theorem jDi{P:Prop}(h:P:=by (with_reducible repeat first|apply ze|apply zf|apply zg);refine cS2 ?_ NB540_568.out;(with_reducible repeat first|apply ze|apply zf|apply zg);exact BK540.out):P:=h
theorem jDb{P:Prop}(h:P:=by (with_reducible repeat first|apply ze|apply zf|apply zg);refine cS2 ?_ NB540_550.out;(with_reducible repeat first|apply ze|apply zf|apply zg);exact BK540.out):P:=h
theorem jDX{P:Prop}(h:P:=by (with_reducible repeat first|apply ze|apply zf|apply zg);refine cS2 ?_ NB540_543.out;(with_reducible repeat first|apply ze|apply zf|apply zg);exact BK540.out):P:=h
theorem jDM{P:Prop}(h:P:=by (with_reducible repeat first|apply ze|apply zf|apply zg);refine cS2 ?_ NB503_513.out;(with_reducible repeat first|apply ze|apply zf|apply zg);exact BK503.out):P:=h
theorem jBv{P:Prop}(h:P:=by (with_reducible repeat first|apply ze|apply zf|apply zg);refine cS2 ?_ NB361_363.out;(with_reducible repeat first|apply ze|apply zf|apply zg);exact BK361.out):P:=h
theorem jBu{P:Prop}(h:P:=by (with_reducible repeat first|apply ze|apply zf|apply zg);refine cS2 ?_ NB358_363.out;(with_reducible repeat first|apply ze|apply zf|apply zg);exact BK358.out):P:=h
theorem jDI{P:Prop}(h:P:=by (with_reducible repeat first|apply ze|apply zf|apply zg);refine cS2 ?_ NB358_361.out;(with_reducible repeat first|apply ze|apply zf|apply zg);exact BK358.out):P:=h
theorem jAX{P:Prop}(h:P:=by (with_reducible repeat first|apply ze|apply zf|apply zg);refine cS2 ?_ NB328_345.out;(with_reducible repeat first|apply ze|apply zf|apply zg);exact BK328.out):P:=h
theorem jAW{P:Prop}(h:P:=by (with_reducible repeat first|apply ze|apply zf|apply zg);refine cS2 ?_ NB327_345.out;(with_reducible repeat first|apply ze|apply zf|apply zg);exact BK327.out):P:=h
theorem jCC{P:Prop}(h:P:=by (with_reducible repeat first|apply ze|apply zf|apply zg);refine cS2 ?_ NB320_322.out;(with_reducible repeat first|apply ze|apply zf|apply zg);exact BK320.out):P:=h
theorem jCB{P:Prop}(h:P:=by (with_reducible repeat first|apply ze|apply zf|apply zg);refine cS2 ?_ NB319_322.out;(with_reducible repeat first|apply ze|apply zf|apply zg);exact BK319.out):P:=h
theorem jBe{P:Prop}(h:P:=by (with_reducible repeat first|apply ze|apply zf|apply zg);refine cS2 ?_ NB292_312.out;(with_reducible repeat first|apply ze|apply zf|apply zg);exact BK292.out):P:=h
theorem jCv{P:Prop}(h:P:=by (with_reducible repeat first|apply ze|apply zf|apply zg);refine cS2 ?_ NB292_299.out;(with_reducible repeat first|apply ze|apply zf|apply zg);exact BK292.out):P:=h
theorem jCV{P:Prop}(h:P:=by (with_reducible repeat first|apply ze|apply zf|apply zg);refine cS2 ?_ NB211_216.out;(with_reducible repeat first|apply ze|apply zf|apply zg);exact BK211.out):P:=h
theorem jBT{P:Prop}(h:P:=by rw [hg];exact yc (yi (g:=gb543) (o:=.cells #[.string t541,.int .i64 77] 28 (0,0)) jQ)):P:=h
theorem jBU{P:Prop}(h:P:=by repeat (with_reducible first|exact HB.out|apply za|apply zb|apply zc|refine zd ?_ GE540.out|refine zd ?_ GE543.out|refine zd ?_ GE550.out|refine zd ?_ GE557.out)):P:=h
theorem jCO{P:Prop}(h:P:=by repeat (with_reducible first|exact HB.out|apply za|apply zb|apply zc|refine zd ?_ GE502.out|refine zd ?_ GE503.out|refine zd ?_ GE504.out|refine zd ?_ GE513.out)):P:=h
theorem jA3{P:Prop}(h:P:=by repeat (with_reducible first|exact HB.out|apply za|apply zb|apply zc|refine zd ?_ GE476.out|refine zd ?_ GE477.out|refine zd ?_ GE478.out|refine zd ?_ GE480.out)):P:=h
theorem jDK{P:Prop}(h:P:=by rw [hg];exact yc (yi (g:=gb503) (o:=.cells #[.string a1_0,.int .i64 a1_1] 28 (0,0)) jAO)):P:=h
theorem jC2{P:Prop}(h:P:=by rw [hg];exact yc (yi (g:=gb477) (o:=.cells #[.slice none 0 0,.int .i64 0] 25 (0,0)) jBM)):P:=h
theorem jCA{P:Prop}(h:P:=by rw [hg];exact yc (yi (g:=gb320) (o:=.cells #[.string a1_0,.int .i64 a1_1] 28 (0,0)) jAL)):P:=h
theorem jCJ{P:Prop}(h:P:=by rw [hg];exact yc (yi (g:=gb146) (o:=.cells #[.string a0_0,.int .i64 a0_1] 28 (0,0)) jBp)):P:=h
theorem jDU{P:Prop}(h:P:=by rw [hg];exact (keep_size (w:=w) (g:=g) (row:=none) jBR)):P:=h
theorem jCU{P:Prop}(h:P:=by repeat (with_reducible first|exact HI0.out|apply IsS71.alloc|apply IsS71.drewN|apply IsS71.drew|apply IsS71.set_1|apply IsS71.set_2|refine IsS71.far ?_ NB0_211.out _)):P:=h
theorem jDR{P:Prop}(h:P:=by repeat (with_reducible first|exact HI0.out|apply IsS71.alloc|apply IsS71.drewN|apply IsS71.drew|apply IsS71.set_1|apply IsS71.set_2|refine IsS71.far ?_ NB0_120.out _)):P:=h
theorem jCZ{P:Prop}(h:P:=by rw [hg];exact yc (yi (g:=gb328) (o:=.cells #[.string a1_0,.string a1_1,.bool true] 32 (0,0)) jM)):P:=h
theorem jCd{P:Prop}(h:P:=by rw [hg];exact yc (yi (g:=gb328) (o:=.cells #[.string a1_0,.string a1_1,.bool a1_2] 32 (0,0)) jM)):P:=h
theorem jBH{P:Prop}(h:P:=by rw [hg];exact yc (yi (g:=gb328) (o:=.cells #[.string a1_0,.string a1_1,.bool false] 32 (0,0)) jM)):P:=h
theorem jDo{P:Prop}(h:P:=by rw [hg];exact yc (yi (g:=gb568) (o:=.cells #[.slice Ao52 t562.length co52,.int .i64 t565] 25 (0,0)) jf)):P:=h
theorem jCk{P:Prop}(h:P:=by rw [hg];exact yc (yi (g:=gb557) (o:=.cells #[.slice Ao39 t551.length co39,.int .i64 t554] 25 (0,0)) jW)):P:=h
theorem jB2{P:Prop}(h:P:=by rw [hg];exact yc (yi (g:=gb550) (o:=.cells #[.slice Ao31 t544.length co31,.int .i64 t547] 25 (0,0)) jU)):P:=h
theorem jBI{P:Prop}(h:P:=by rw [hg];exact yc (yi (g:=gb540) (o:=.cells #[.slice Ao22 t536.length co22,.int .i64 t539] 25 (0,0)) jP)):P:=h
theorem jCR{P:Prop}(h:P:=by rw [hg];exact yc (yi (g:=gb523) (o:=.cells #[.slice A0_0 l0_0.length c0_0,.int .i64 a0_1] 25 (0,0)) jAQ)):P:=h
theorem jCN{P:Prop}(h:P:=by rw [hg];exact yc (yi (g:=gb502) (o:=.cells #[.slice A0_0 l0_0.length c0_0,.int .i64 a0_1] 25 (0,0)) jAF)):P:=h
theorem jC1{P:Prop}(h:P:=by rw [hg];exact yc (yi (g:=gb476) (o:=.cells #[.slice A0_0 l0_0.length c0_0,.int .i64 a0_1] 25 (0,0)) jAn)):P:=h
theorem jCH{P:Prop}(h:P:=by rw [hg];exact yc (yi (g:=gb422) (o:=.cells #[.slice A0_0 l0_0.length c0_0,.int .i64 a0_1] 25 (0,0)) jAN)):P:=h
theorem jD3{P:Prop}(h:P:=by rw [hg];exact yc (yi (g:=gb393) (o:=.cells #[.slice A0_0 l0_0.length c0_0,.int .i64 a0_1] 25 (0,0)) jAm)):P:=h
theorem jh{P:Prop}(h:P:=by rw [hg];exact yc (yi (g:=gb327) (o:=.cells #[.slice A0_0 l0_0.length c0_0,.int .i64 a0_1] 25 (0,0)) jK)):P:=h
theorem jBb{P:Prop}(h:P:=by rw [hg];exact yc (yi (g:=gb292) (o:=.cells #[.slice A0_0 l0_0.length c0_0,.int .i64 a0_1] 25 (0,0)) jL)):P:=h
theorem jCm{P:Prop}(h:P:=by repeat (with_reducible first|exact HB.out|apply za|apply zb|apply zc|refine zd ?_ GE540.out|refine zd ?_ GE543.out|refine zd ?_ GE550.out|refine zd ?_ GE557.out|refine zd ?_ GE568.out)):P:=h
theorem jB9{P:Prop}(h:P:=by rw [hg];exact yc (yi (g:=gb319) (o:=.cells #[.slice (some ad321) l0_0.length c0_0,.int .i64 a0_1] 25 (0,0)) jw)):P:=h
theorem jA1{P:Prop}(h:P:=by rw [hg];exact yc (yi (g:=gb292) (o:=.cells #[.slice (some ad298) l0_0.length c0_0,.int .i64 a0_1] 25 (0,0)) jL)):P:=h
theorem jAR{P:Prop}(h:P:=by repeat (with_reducible first|exact HI0.out|apply IsS71.alloc|apply IsS71.drewN|apply IsS71.drew|apply IsS71.set_1|apply IsS71.set_2|refine IsS71.far ?_ NB0_211.out _|refine IsS71.far ?_ NB0_216.out _)):P:=h
theorem jDP{P:Prop}(h:P:=by rw [hg];exact yd (IsS71.lt (show IsS71 w0 _ g s0_0 s0_1 s0_2 from by repeat (with_reducible first|exact HI0.out|apply IsS71.alloc|apply IsS71.drewN|apply IsS71.drew|apply IsS71.set_1|apply IsS71.set_2)))):P:=h
theorem jDO{P:Prop}(h:P:=by rw [hg];exact yc (IsS71.lt (show IsS71 w0 _ g s0_0 s0_1 s0_2 from by repeat (with_reducible first|exact HI0.out|apply IsS71.alloc|apply IsS71.drewN|apply IsS71.drew|apply IsS71.set_1|apply IsS71.set_2)))):P:=h
theorem jCo{P:Prop}(h:P:=by repeat (with_reducible first|exact HB.out|apply za|apply zb|apply zc|refine zd ?_ GE540.out|refine zd ?_ GE543.out|refine zd ?_ GE550.out|refine zd ?_ GE557.out|refine zd ?_ GE568.out|refine zd ?_ GE574.out)):P:=h
theorem jd{P:Prop}(h:P:=by repeat (with_reducible first|exact HB.out|apply za|apply zb|apply zc|refine zd ?_ GE540.out|refine zd ?_ GE543.out|refine zd ?_ GE550.out|refine zd ?_ GE557.out|refine zd ?_ GE568.out|refine zd ?_ GE574.out|refine zd ?_ GE580.out)):P:=h
theorem jBc{P:Prop}(h:P:=by (with_reducible repeat (first|apply zm|apply zn|apply zo));exact zM (zE (p:=⟨gb312,1,none⟩) (zE (p:=⟨gb312,0,none⟩) (zM HO_6.out (fun k_ hk=>(⟨hk,hk.2⟩ : _∧k_≠gb312))) (fun _ hk=>hk.2) (.string ((rd_T28 t308 x69_3).f0))) (fun _ hk=>hk.2) (.int .i64 ((rd_T28 t308 x69_3).f1))) (fun _ hk=>hk.1.2)):P:=h
theorem jBd{P:Prop}(h:P:=by (with_reducible repeat (first|apply zm|apply zn|apply zo));exact zM (zE (p:=⟨gb312,1,none⟩) (zE (p:=⟨gb312,0,none⟩) (zM HO_67.out (fun k_ hk=>(⟨hk,hk.2⟩ : _∧k_≠gb312))) (fun _ hk=>hk.2) (.string ((rd_T28 t308 x69_3).f0))) (fun _ hk=>hk.2) (.int .i64 ((rd_T28 t308 x69_3).f1))) (fun _ hk=>hk.1.2)):P:=h
theorem jBG{P:Prop}(h:P:=by (with_reducible repeat (first|apply zm|apply zn|apply zo));exact (zM (zE (p:=⟨gb345,1,none⟩) (zE (p:=⟨gb345,0,none⟩) (yf HO_9.out BK345.out jB) (fun _ hk=>hk.2) (.int .i64 ((rd_T60 y340 x30_1).f0))) (fun _ hk=>hk.2) (.slice A344_1 ((rd_T60 y340 x30_1).f1).length c344_1)) (fun _ h_=>h_.1))):P:=h
theorem jBF{P:Prop}(h:P:=by (with_reducible repeat (first|apply zm|apply zn|apply zo));exact (zM (zE (p:=⟨gb345,1,none⟩) (zE (p:=⟨gb345,0,none⟩) (yf HO_7.out BK345.out jB) (fun _ hk=>hk.2) (.int .i64 ((rd_T60 y340 x30_1).f0))) (fun _ hk=>hk.2) (.slice A344_1 ((rd_T60 y340 x30_1).f1).length c344_1)) (fun _ h_=>h_.1))):P:=h
theorem jBL{P:Prop}(h:P:=by (with_reducible repeat (first|apply zm|apply zn|apply zo));exact (zM (zE (p:=⟨gb299,1,none⟩) (zE (p:=⟨gb299,0,none⟩) (yf HO_3.out BK299.out jB) (fun _ hk=>hk.2) (.int .i64 ((rd_T60 l0_0 x24_2).f0))) (fun _ hk=>hk.2) (.slice A298_1 ((rd_T60 l0_0 x24_2).f1).length c298_1)) (fun _ h_=>h_.1))):P:=h
theorem jBE{P:Prop}(h:P:=by (with_reducible repeat (first|apply zm|apply zn|apply zo));exact zM (zE (p:=⟨gb345,1,none⟩) (zE (p:=⟨gb345,0,none⟩) (yf HO_9.out BK345.out jB) (fun _ hk=>hk.2) (.int .i64 ((rd_T60 y340 x30_1).f0))) (fun _ hk=>hk.2) (.slice A344_1 ((rd_T60 y340 x30_1).f1).length c344_1)) (fun _ hk=>trivial)):P:=h
theorem jCu{P:Prop}(h:P:=by (with_reducible repeat (first|apply zm|apply zn|apply zo));exact zM (zE (p:=⟨gb299,1,none⟩) (zE (p:=⟨gb299,0,none⟩) (yf HO_3.out BK299.out jB) (fun _ hk=>hk.2) (.int .i64 ((rd_T60 l0_0 x24_2).f0))) (fun _ hk=>hk.2) (.slice A298_1 ((rd_T60 l0_0 x24_2).f1).length c298_1)) (fun _ hk=>trivial)):P:=h
theorem jCf{P:Prop}(h:P:=by (with_reducible repeat (first|apply Kd.N_alloc|apply Kd.N_drewN|apply Kd.N_drew));exact (Kd.N_mono (Kd.N_far (p:=⟨gb543,1,none⟩) (Kd.N_far (p:=⟨gb543,0,none⟩) (Kd.N_mono HO538.out (fun k_ hk=>(⟨hk,hk.2⟩ : _∧k_≠gb543))) (fun _ hk=>hk.2) (.string t541)) (fun _ hk=>hk.2) (.int .i64 77)) (fun _ h_=>h_.1))):P:=h
theorem jCc{P:Prop}(h:P:=by (with_reducible repeat (first|apply zm|apply zn|apply zo));exact (zM (zE (p:=⟨gb345,1,none⟩) (zE (p:=⟨gb345,0,none⟩) (yf HO_9.out BK345.out jB) (fun _ hk=>hk.2) (.int .i64 ((rd_T60 y340 x30_1).f0))) (fun _ hk=>hk.2) (.slice (some ad349) ((rd_T60 y340 x30_1).f1).length c344_1)) (fun _ h_=>h_.1))):P:=h
theorem jCb{P:Prop}(h:P:=by (with_reducible repeat (first|apply zm|apply zn|apply zo));exact (zM (zE (p:=⟨gb345,1,none⟩) (zE (p:=⟨gb345,0,none⟩) (yf HO_7.out BK345.out jB) (fun _ hk=>hk.2) (.int .i64 ((rd_T60 y340 x30_1).f0))) (fun _ hk=>hk.2) (.slice (some ad349) ((rd_T60 y340 x30_1).f1).length c344_1)) (fun _ h_=>h_.1))):P:=h
theorem jB1{P:Prop}(h:P:=by (with_reducible repeat (first|apply zm|apply zn|apply zo));exact zM (zE (p:=⟨gb345,1,none⟩) (zE (p:=⟨gb345,0,none⟩) (yf HO_9.out BK345.out jB) (fun _ hk=>hk.2) (.int .i64 ((rd_T60 y340 x30_1).f0))) (fun _ hk=>hk.2) (.slice (some ad349) ((rd_T60 y340 x30_1).f1).length c344_1)) (fun _ hk=>trivial)):P:=h
theorem jDY{P:Prop}(h:P:=by (with_reducible repeat first|apply ze|apply zf|apply zg);refine zL (cs:=#[.string t541,.int .i64 0]) ?_ 1 _ rfl;(with_reducible repeat first|apply ze|apply zf|apply zg);refine zL (cs:=#[.string (⟨#[]⟩ : ByteArray),.int .i64 0]) ?_ 0 _ rfl;(with_reducible repeat first|apply ze|apply zf|apply zg);exact BK543.out):P:=h
theorem jDy{P:Prop}(h:P:=by (with_reducible repeat first|apply ze|apply zf|apply zg);refine zL (cs:=#[.slice Ao62 t569.length co62,.int .i64 0]) ?_ 1 _ rfl;(with_reducible repeat first|apply ze|apply zf|apply zg);refine zL (cs:=#[.slice none 0 0,.int .i64 0]) ?_ 0 _ rfl;(with_reducible repeat first|apply ze|apply zf|apply zg);exact BK574.out):P:=h
theorem jDn{P:Prop}(h:P:=by (with_reducible repeat first|apply ze|apply zf|apply zg);refine zL (cs:=#[.slice Ao52 t562.length co52,.int .i64 0]) ?_ 1 _ rfl;(with_reducible repeat first|apply ze|apply zf|apply zg);refine zL (cs:=#[.slice none 0 0,.int .i64 0]) ?_ 0 _ rfl;(with_reducible repeat first|apply ze|apply zf|apply zg);exact BK568.out):P:=h
theorem jDd{P:Prop}(h:P:=by (with_reducible repeat first|apply ze|apply zf|apply zg);refine zL (cs:=#[.slice Ao31 t544.length co31,.int .i64 0]) ?_ 1 _ rfl;(with_reducible repeat first|apply ze|apply zf|apply zg);refine zL (cs:=#[.slice none 0 0,.int .i64 0]) ?_ 0 _ rfl;(with_reducible repeat first|apply ze|apply zf|apply zg);exact BK550.out):P:=h
theorem jDL{P:Prop}(h:P:=by (with_reducible repeat (first|apply Kd.V_alloc|apply Kd.V_drewN|apply Kd.V_drew));exact (Kd.V_mono (Kd.V_far (p:=⟨gb513,1,none⟩) (Kd.V_far (p:=⟨gb513,0,none⟩) (Kd.V_mono HO509.out (fun k_ hk=>(⟨hk,hk.2⟩ : _∧k_≠gb513))) (fun _ hk=>hk.2) (.slice Ao34 t507.length co34)) (fun _ hk=>hk.2) (.int .i64 t510)) (fun _ h_=>h_.1))):P:=h
theorem jDz{P:Prop}(h:P:=by (with_reducible repeat (first|apply Kd.N_alloc|apply Kd.N_drewN|apply Kd.N_drew));exact (Kd.N_mono (Kd.N_far (p:=⟨gb580,1,none⟩) (Kd.N_far (p:=⟨gb580,0,none⟩) (Kd.N_mono HO571.out (fun k_ hk=>(⟨hk,hk.2⟩ : _∧k_≠gb580))) (fun _ hk=>hk.2) (.slice Ao72 t575.length co72)) (fun _ hk=>hk.2) (.int .i64 t578)) (fun _ h_=>h_.1))):P:=h
theorem jCn{P:Prop}(h:P:=by (with_reducible repeat (first|apply Kd.N_alloc|apply Kd.N_drewN|apply Kd.N_drew));exact (Kd.N_mono (Kd.N_far (p:=⟨gb574,1,none⟩) (Kd.N_far (p:=⟨gb574,0,none⟩) (Kd.N_mono HO571.out (fun k_ hk=>(⟨hk,hk.2⟩ : _∧k_≠gb574))) (fun _ hk=>hk.2) (.slice Ao62 t569.length co62)) (fun _ hk=>hk.2) (.int .i64 t572)) (fun _ h_=>h_.1))):P:=h
theorem jDs{P:Prop}(h:P:=by (with_reducible repeat (first|apply Kd.N_alloc|apply Kd.N_drewN|apply Kd.N_drew));exact (Kd.N_mono (Kd.N_far (p:=⟨gb574,1,none⟩) (Kd.N_far (p:=⟨gb574,0,none⟩) (Kd.N_mono HO564.out (fun k_ hk=>(⟨hk,hk.2⟩ : _∧k_≠gb574))) (fun _ hk=>hk.2) (.slice Ao62 t569.length co62)) (fun _ hk=>hk.2) (.int .i64 t572)) (fun _ h_=>h_.1))):P:=h
theorem jDr{P:Prop}(h:P:=by (with_reducible repeat (first|apply Kd.N_alloc|apply Kd.N_drewN|apply Kd.N_drew));exact (Kd.N_mono (Kd.N_far (p:=⟨gb574,1,none⟩) (Kd.N_far (p:=⟨gb574,0,none⟩) (Kd.N_mono HO553.out (fun k_ hk=>(⟨hk,hk.2⟩ : _∧k_≠gb574))) (fun _ hk=>hk.2) (.slice Ao62 t569.length co62)) (fun _ hk=>hk.2) (.int .i64 t572)) (fun _ h_=>h_.1))):P:=h
theorem jDq{P:Prop}(h:P:=by (with_reducible repeat (first|apply Kd.N_alloc|apply Kd.N_drewN|apply Kd.N_drew));exact (Kd.N_mono (Kd.N_far (p:=⟨gb574,1,none⟩) (Kd.N_far (p:=⟨gb574,0,none⟩) (Kd.N_mono HO546.out (fun k_ hk=>(⟨hk,hk.2⟩ : _∧k_≠gb574))) (fun _ hk=>hk.2) (.slice Ao62 t569.length co62)) (fun _ hk=>hk.2) (.int .i64 t572)) (fun _ h_=>h_.1))):P:=h
theorem jDp{P:Prop}(h:P:=by (with_reducible repeat (first|apply Kd.N_alloc|apply Kd.N_drewN|apply Kd.N_drew));exact (Kd.N_mono (Kd.N_far (p:=⟨gb574,1,none⟩) (Kd.N_far (p:=⟨gb574,0,none⟩) (Kd.N_mono HO538.out (fun k_ hk=>(⟨hk,hk.2⟩ : _∧k_≠gb574))) (fun _ hk=>hk.2) (.slice Ao62 t569.length co62)) (fun _ hk=>hk.2) (.int .i64 t572)) (fun _ h_=>h_.1))):P:=h
theorem jDh{P:Prop}(h:P:=by (with_reducible repeat (first|apply Kd.N_alloc|apply Kd.N_drewN|apply Kd.N_drew));exact (Kd.N_mono (Kd.N_far (p:=⟨gb568,1,none⟩) (Kd.N_far (p:=⟨gb568,0,none⟩) (Kd.N_mono HO564.out (fun k_ hk=>(⟨hk,hk.2⟩ : _∧k_≠gb568))) (fun _ hk=>hk.2) (.slice Ao52 t562.length co52)) (fun _ hk=>hk.2) (.int .i64 t565)) (fun _ h_=>h_.1))):P:=h
theorem jDg{P:Prop}(h:P:=by (with_reducible repeat (first|apply Kd.N_alloc|apply Kd.N_drewN|apply Kd.N_drew));exact (Kd.N_mono (Kd.N_far (p:=⟨gb568,1,none⟩) (Kd.N_far (p:=⟨gb568,0,none⟩) (Kd.N_mono HO553.out (fun k_ hk=>(⟨hk,hk.2⟩ : _∧k_≠gb568))) (fun _ hk=>hk.2) (.slice Ao52 t562.length co52)) (fun _ hk=>hk.2) (.int .i64 t565)) (fun _ h_=>h_.1))):P:=h
theorem jCl{P:Prop}(h:P:=by (with_reducible repeat (first|apply Kd.N_alloc|apply Kd.N_drewN|apply Kd.N_drew));exact (Kd.N_mono (Kd.N_far (p:=⟨gb568,1,none⟩) (Kd.N_far (p:=⟨gb568,0,none⟩) (Kd.N_mono HO546.out (fun k_ hk=>(⟨hk,hk.2⟩ : _∧k_≠gb568))) (fun _ hk=>hk.2) (.slice Ao52 t562.length co52)) (fun _ hk=>hk.2) (.int .i64 t565)) (fun _ h_=>h_.1))):P:=h
theorem jDf{P:Prop}(h:P:=by (with_reducible repeat (first|apply Kd.N_alloc|apply Kd.N_drewN|apply Kd.N_drew));exact (Kd.N_mono (Kd.N_far (p:=⟨gb568,1,none⟩) (Kd.N_far (p:=⟨gb568,0,none⟩) (Kd.N_mono HO538.out (fun k_ hk=>(⟨hk,hk.2⟩ : _∧k_≠gb568))) (fun _ hk=>hk.2) (.slice Ao52 t562.length co52)) (fun _ hk=>hk.2) (.int .i64 t565)) (fun _ h_=>h_.1))):P:=h
theorem jDe{P:Prop}(h:P:=by (with_reducible repeat (first|apply Kd.N_alloc|apply Kd.N_drewN|apply Kd.N_drew));exact (Kd.N_mono (Kd.N_far (p:=⟨gb557,1,none⟩) (Kd.N_far (p:=⟨gb557,0,none⟩) (Kd.N_mono HO538.out (fun k_ hk=>(⟨hk,hk.2⟩ : _∧k_≠gb557))) (fun _ hk=>hk.2) (.slice Ao39 t551.length co39)) (fun _ hk=>hk.2) (.int .i64 t554)) (fun _ h_=>h_.1))):P:=h
theorem jDZ{P:Prop}(h:P:=by (with_reducible repeat (first|apply Kd.N_alloc|apply Kd.N_drewN|apply Kd.N_drew));exact (Kd.N_mono (Kd.N_far (p:=⟨gb550,1,none⟩) (Kd.N_far (p:=⟨gb550,0,none⟩) (Kd.N_mono HO546.out (fun k_ hk=>(⟨hk,hk.2⟩ : _∧k_≠gb550))) (fun _ hk=>hk.2) (.slice Ao31 t544.length co31)) (fun _ hk=>hk.2) (.int .i64 t547)) (fun _ h_=>h_.1))):P:=h
theorem jCh{P:Prop}(h:P:=by (with_reducible repeat (first|apply Kd.N_alloc|apply Kd.N_drewN|apply Kd.N_drew));exact (Kd.N_mono (Kd.N_far (p:=⟨gb550,1,none⟩) (Kd.N_far (p:=⟨gb550,0,none⟩) (Kd.N_mono HO538.out (fun k_ hk=>(⟨hk,hk.2⟩ : _∧k_≠gb550))) (fun _ hk=>hk.2) (.slice Ao31 t544.length co31)) (fun _ hk=>hk.2) (.int .i64 t547)) (fun _ h_=>h_.1))):P:=h
theorem jBw{P:Prop}(h:P:=by (with_reducible repeat first|apply ze|apply zf|apply zg);refine zL (cs:=#[.int .i64 ((rd_T60 l0_0 x4_2).f0),.slice none 0 0]) ?_ 1 _ rfl;(with_reducible repeat first|apply ze|apply zf|apply zg);refine zL (cs:=#[.int .i64 0,.slice none 0 0]) ?_ 0 _ rfl;(with_reducible repeat first|apply ze|apply zf|apply zg);exact BK363.out):P:=h
theorem jAY{P:Prop}(h:P:=by (with_reducible repeat first|apply ze|apply zf|apply zg);refine zL (cs:=#[.int .i64 ((rd_T60 y340 x30_1).f0),.slice none 0 0]) ?_ 1 _ rfl;(with_reducible repeat first|apply ze|apply zf|apply zg);refine zL (cs:=#[.int .i64 0,.slice none 0 0]) ?_ 0 _ rfl;(with_reducible repeat first|apply ze|apply zf|apply zg);exact BK345.out):P:=h
theorem jCw{P:Prop}(h:P:=by (with_reducible repeat first|apply ze|apply zf|apply zg);refine zL (cs:=#[.int .i64 ((rd_T60 l0_0 x24_2).f0),.slice none 0 0]) ?_ 1 _ rfl;(with_reducible repeat first|apply ze|apply zf|apply zg);refine zL (cs:=#[.int .i64 0,.slice none 0 0]) ?_ 0 _ rfl;(with_reducible repeat first|apply ze|apply zf|apply zg);exact BK299.out):P:=h
theorem jCD{P:Prop}(h:P:=by (with_reducible repeat first|apply ze|apply zf|apply zg);refine zL (cs:=#[.int .i64 ((rd_T60 l0_0 x11_1).f0),.slice none 0 0]) ?_ 1 _ rfl;(with_reducible repeat first|apply ze|apply zf|apply zg);refine zL (cs:=#[.int .i64 0,.slice none 0 0]) ?_ 0 _ rfl;(with_reducible repeat first|apply ze|apply zf|apply zg);exact BK322.out):P:=h
theorem jBf{P:Prop}(h:P:=by (with_reducible repeat first|apply ze|apply zf|apply zg);refine zL (cs:=#[.string ((rd_T28 t308 x69_3).f0),.int .i64 0]) ?_ 1 _ rfl;(with_reducible repeat first|apply ze|apply zf|apply zg);refine zL (cs:=#[.string (⟨#[]⟩ : ByteArray),.int .i64 0]) ?_ 0 _ rfl;(with_reducible repeat first|apply ze|apply zf|apply zg);exact BK312.out):P:=h

def Fi.l0 : Nat→List (S28)→List (S60)→Int→Int→Option ((List (S28)))
 | 0,_,_,_,_=>none
 | k+1,x3,x8,x9,x10=>if x10<x9 then (if 0≤x10 then (if x10<(x8.length : Int) then (if x3.length+((rd_T60 x8 x10).f1).length<5864062014805 then (Fi.l0 k (x3++((rd_T60 x8 x10).f1)) x8 x9 (wrap64 (x10+1))) else (none)) else (none)) else (none)) else (some x3)
def Fi.f (k : Nat) (l0_0 : List (S60)) (a0_1 : Int) : Option ((List (S28))):=Fi.l0 k (([] : List (S28))) l0_0 (l0_0.length : Int) 0
theorem Fi.mono_l : ∀ k,(∀ y0 y1 y2 y3,LeO (Fi.l0 k y0 y1 y2 y3) (Fi.l0 (k+1) y0 y1 y2 y3))
 | 0=>fun _ _ _ _ r h=>by simp [Fi.l0] at h
 | k+1=>by
  have ih0:=Fi.mono_l k;intro y0 y1 y2 y3;unfold Fi.l0
  repeat' first|(with_reducible first|exact ih0 _ _ _ _|exact zQ _|exact zN _|refine zP ?_ ?_|refine zO ?_ (fun _=>?_))|refine zP ?_ ?_|refine zO ?_ (fun _=>?_)
theorem Fi.mono : ∀ a0 a1 k,LeO (Fi.f k a0 a1) (Fi.f (k+1) a0 a1):=by
 intro a0 a1 k;have ih0:=Fi.mono_l k;unfold Fi.f
 repeat' first|(with_reducible first|exact ih0 _ _ _ _|exact zQ _|exact zN _|refine zP ?_ ?_|refine zO ?_ (fun _=>?_))|refine zP ?_ ?_|refine zO ?_ (fun _=>?_)
set_option maxHeartbeats 8000000 in
set_option maxRecDepth 100000 in
theorem Fi.calls (k : Nat) (A0_0 : Option Addr) (c0_0 : Nat) (l0_0 : List (S60)) (a0_1 : Int) (r : List (S28)) (w : World) (hr0_0 : Kd.C k60 w A0_0 l0_0.length l0_0) (hc0_0 : l0_0.length≤c0_0) (h : Fi.f k l0_0 a0_1=some r) :
  Calls Try.prog 25 #[.agg #[.slice A0_0 l0_0.length c0_0,.int .i64 a0_1]] w fun e w' => ∃ v0_ : Value,e = .returned (v0_)∧Kd.R k28 28 w' w.heap.size (fun _=>True) v0_ r∧Below w.heap.size w w':=by
 have hu25:=Try.underlying25;have hu60:=Try.underlying60;have HR0_0:=zh hr0_0;have HC0_0:=zh hc0_0;clear hr0_0 hc0_0;have HB:=zh (Below.refl w.heap.size w);have H : (Fi.l0 k (([] : List (S28))) l0_0 (l0_0.length : Int) 0)=some r:=h;clear h;obtain ⟨y269,hy269⟩ : ∃ y_ : List (S28),y_=(([] : List (S28))):=⟨_,rfl⟩;replace H : (Fi.l0 k y269 l0_0 (l0_0.length : Int) 0)=some r:=by first|(rw [hy269];with_reducible exact H)|(have H2_:=(Option.bind_some _ _).symm.trans H;rw [hy269];with_reducible exact H2_)|(have H2_:=(Option.bind_some _ _).symm.trans H;with_reducible exact H2_)|with_reducible exact H|(rw [hy269];exact H)|exact H
 have Ny269:=zh hy269;clear hy269;have H':=zh H;clear H
 go_enter Try.func25,Try.ntmps25
 go_wp2_with (first|((with_reducible refine zK (N:=1) rfl ?_);refine zI ?hg (N:=1) ?hd (cs:=#[.slice A0_0 l0_0.length c0_0,.int .i64 a0_1]) (t:=25) ?hr ?_;(case hd=>rfl);(case hg=>rfl);(case hr=>go_simp <;> rfl);intro gb268 hg w2 hbox hb;have BK268:=zh (hbox);have hH_:=cH jH hb hg;have GW268:=zh hH_.1;have GE268:=GW268;replace HB:=zh hH_.2;clear hb hbox hg hH_)|((with_reducible refine zK (N:=6) rfl ?_);refine Kd.R_lit k28 _ 28 ?hg (N:=6) ?hd (xs:=([] : List (S28))) (inner:=[]) (ok:=fun _=>True) (okp:=fun _=>True) ?hr ?hp (fun _ hk=>hk) trivial (Below.refl _ _) (ye _) (by simp) ?_;(case hd=>rfl);(case hg=>rfl);(case hr=>go_simp <;> rfl);(case hp=>exact (Reps.none _ _));intro v270 w3 ho4 hb hg_ hnew_;clear hg_ hnew_;(first|rw [← Ny269.out] at ho4|(simp only [Int.reduceToNat] at ho4;rw [← Ny269.out] at ho4));have HO271:=zh (yx ho4 (zB jBJ));replace BK268:=zh (cD BK268.out jBK hb);replace HB:=zh (zC jBJ hb);clear hb ho4;obtain ⟨hcz5_0,hcz5_1,hfz5_0,hfz5_1⟩:=cB2 BK268.out))
 go_loopg [3,10] k (fun kq v3 v10 w' => ∃ (x3_1 : List (S28)) (x10_1 : Int),v10 = .int .i64 x10_1∧Aside0 (Fi.l0 kq x3_1 l0_0 (l0_0.length : Int) x10_1=some r)∧Aside0 (kq≤k)∧Aside0 (Kd.R k28 28 w' w.heap.size (fun _=>True) v3 x3_1)∧Aside0 (w'.heap[gb268]? = some (.cells #[(.slice A0_0 l0_0.length c0_0),.int .i64 a0_1] 25 (0,0)))∧Aside0 (Below w.heap.size w w'))
 case atStart=>exact ⟨(y269),(0),jE,H',⟨ye _⟩,⟨by (with_reducible repeat (first|apply zm|apply zn|apply zo));exact HO271.out⟩,⟨jBK⟩,⟨jBJ⟩⟩
 case round =>
  clear H'
  try clear c2
  try clear p2
  try clear hcz5_0 hcz5_1 hfz5_0 hfz5_1
  obtain ⟨x3_1,x10_1,rfl,HA,HK1,HO_3,BK268,HB⟩:=hrel
  cases gk with
  | zero=>exact absurd HA.out (by simp [Fi.l0])
  | succ k1 =>
   have H:=HA.out;clear HA;simp only [Fi.l0] at H
   by_cases c6 : x10_1<(l0_0.length : Int)
   ·
    rw [if_pos c6] at H
    have c6b0 : decide (x10_1<(l0_0.length : Int))=true:=decide_eq_true c6;clear c6
    by_cases c7 : 0≤x10_1
    ·
     rw [if_pos c7] at H
     have c7b0 : decide (0≤x10_1)=true:=decide_eq_true c7;clear c7
     by_cases c8 : x10_1<(l0_0.length : Int)
     ·
      rw [if_pos c8] at H
      have c8b0 : decide (x10_1<(l0_0.length : Int))=true:=decide_eq_true c8;clear c8
      by_cases c9 : x3_1.length+((rd_T60 l0_0 x10_1).f1).length<5864062014805
      ·
       rw [if_pos c9] at H
       have LMc9:=zh c9;clear c9;obtain ⟨y274,hy274⟩ : ∃ y_ : List (S28),y_=(x3_1++((rd_T60 l0_0 x10_1).f1)):=⟨_,rfl⟩;replace H : (Fi.l0 k1 y274 l0_0 (l0_0.length : Int) (wrap64 (x10_1+1)))=some r:=by first|(rw [hy274];with_reducible exact H)|(have H2_:=(Option.bind_some _ _).symm.trans H;rw [hy274];with_reducible exact H2_)|(have H2_:=(Option.bind_some _ _).symm.trans H;with_reducible exact H2_)|with_reducible exact H|(rw [hy274];exact H)|exact H
       have Ny274:=zh hy274;clear hy274;have H':=zh H;clear H;have p272 : 0≤(x10_1 : Int):=zy jC;have q272 : x10_1<(l0_0.length : Int):=zy jC;obtain ⟨ad272,A272_1,c272_1,e272,hx272_0,hx272_1,hl272_1,hi272_1⟩:=at_T60 HR0_0.out x10_1 p272 q272
       cases e272
       replace hx272_0:=(HB.out.cell (zl w _ hx272_0)).trans hx272_0;replace hx272_1:=(HB.out.cell (zl w _ hx272_1)).trans hx272_1;have HR272_1:=zh hi272_1;have HC272_1:=zh hl272_1;clear hi272_1 hl272_1;replace p272:=eq_true p272;replace q272:=eq_true q272
       go_wp2_with (first|((with_reducible refine zK (N:=5) rfl ?_);refine zI ?hg (N:=5) ?hd (cs:=#[.int .i64 0,.slice none 0 0]) (t:=60) ?hr ?_;(case hd=>rfl);(case hg=>rfl);(case hr=>go_simp <;> rfl);intro gb273 hg w10 hbox hb;replace HO_3:=zh (yg jAS hb);have BK273:=zh (hbox);have hH_:=cH jBJ hb hg;have GW273:=zh hH_.1;have GE273:=GW273;replace HB:=zh hH_.2;have NB268_273:=zh ((by rw [hg];exact yc (yi (g:=gb268) (o:=.cells #[.slice (some ad272) l0_0.length c0_0,.int .i64 a0_1] 25 (0,0)) jBK) : gb268≠gb273));have NB273_268:=zh NB268_273.out.symm;replace BK268:=zh (cD BK268.out jBK hb);clear hb hbox hg hH_;have hnb11:=NB273_268.out;have hnc11:=NB268_273.out;obtain ⟨hcz12_0,hcz12_1,hfz12_0,hfz12_1⟩:=cB2 BK273.out)|((with_reducible refine yA (b:=.append) (xs:=#[.tmp 14,.tmp 16]) rfl ?_);at_builtin;refine Kd.R_append_rows k28 (w0:=w) w.heap.size rfl (.tmp 14) (.tmp 16) 33 28 (.agg #[(.string ⟨#[]⟩),(.int .i64 0)]) 24 rfl Try.underlying33 info28 rfl jB jD u3 x3_1 ((rd_T60 l0_0 x10_1).f1) _ _ _ (fun _=>True) (fun _=>False) rfl rfl ?aO ?aR (fun _ _ h=>h) (fun _ h=>h.elim) ?aF ?aB ?aS ?aL ?_;(case aR=>exact Kd.C_below HR272_1.out jBZ);(case aB=>exact jBZ);(case aF=>exact (fun _ _=>trivial));(case aO=>exact (by (with_reducible repeat (first|apply zm|apply zn|apply zo));exact zM (zE (p:=⟨gb273,1,none⟩) (zE (p:=⟨gb273,0,none⟩) (yf HO_3.out BK273.out jB) (fun _ hk=>hk.2) (.int .i64 ((rd_T60 l0_0 x10_1).f0))) (fun _ hk=>hk.2) (.slice A272_1 ((rd_T60 l0_0 x10_1).f1).length c272_1)) (fun _ hk=>trivial)));(case aS=>exact (zB jBZ));(case aL=>have:=LMc9.out;omega);intro v275 w13 ho hb hg hat;rw [← Ny274.out] at ho;replace BK268:=zh (yv (g:=gb268) (o:=.cells #[.slice (some ad272) l0_0.length c0_0,.int .i64 a0_1] 25 (0,0)) (by (with_reducible repeat first|apply ze|apply zf|apply zg);refine cS2 ?_ NB268_273.out;(with_reducible repeat first|apply ze|apply zf|apply zg);exact BK268.out) hg (Kd.R_ne HO_3.out BK268.out jB));replace BK273:=zh (yv (g:=gb273) (o:=.cells #[.int .i64 ((rd_T60 l0_0 x10_1).f0),.slice A272_1 ((rd_T60 l0_0 x10_1).f1).length c272_1] 60 (0,0)) (by (with_reducible repeat first|apply ze|apply zf|apply zg);refine zL (cs:=#[.int .i64 ((rd_T60 l0_0 x10_1).f0),.slice none 0 0]) ?_ 1 _ rfl;(with_reducible repeat first|apply ze|apply zf|apply zg);refine zL (cs:=#[.int .i64 0,.slice none 0 0]) ?_ 0 _ rfl;(with_reducible repeat first|apply ze|apply zf|apply zg);exact BK273.out) hg (Kd.R_ne HO_3.out BK273.out jB));replace HB:=zh (hb);have HO276:=zh (ho);clear HO_3 ho hb hg hat))
       go_roundg k1
       case measure=>have:=HK1.out;omega
       case rel=>exact ⟨(y274),(wrap64 (x10_1+1)),jE,H',⟨jR⟩,⟨by (with_reducible repeat (first|apply zm|apply zn|apply zo));exact HO276.out⟩,⟨jBK⟩,⟨jBZ⟩⟩
      rw [if_neg c9] at H;exact absurd H (by simp)
     rw [if_neg c8] at H;exact absurd H (by simp)
    rw [if_neg c7] at H;exact absurd H (by simp)
   rw [if_neg c6] at H;have c6b0 : decide (x10_1<(l0_0.length : Int))=false:=decide_eq_false c6;clear c6;obtain rfl:=zU H
   go_wp2
   go_ret
   exact ⟨_,jG,jAS,jBJ⟩


def F01.f (a0 : Int) (a1 : Int) (a2 : Int) : Option (Bool):=if a1≤a0 then (some (decide (a0≤a2))) else (some false)
set_option maxHeartbeats 8000000 in
set_option maxRecDepth 100000 in
theorem F01.calls (a0 : Int) (a1 : Int) (a2 : Int) (r : Bool) (w : World) (h : F01.f a0 a1 a2=some r) :
  Calls Try.prog 40 #[.int .i64 a0,.int .i64 a1,.int .i64 a2] w fun e w' => e = .returned (.bool r)∧Drawn0 w w':=by
 have H : (if a1≤a0 then (some (decide (a0≤a2))) else (some false))=some r:=h;clear h
 by_cases c4 : a1≤a0
 ·
  rw [if_pos c4] at H
  have c4b0 : decide (a1≤a0)=true:=decide_eq_true c4;clear c4;obtain rfl:=zU H
  go_enter Try.func40,Try.ntmps40
  go_wp2
  go_ret
  exact ⟨jE,jI⟩
 rw [if_neg c4] at H;have c4b0 : decide (a1≤a0)=false:=decide_eq_false c4;clear c4;obtain rfl:=zU H
 go_enter Try.func40,Try.ntmps40
 go_wp2
 go_ret
 exact ⟨jE,jI⟩


def F08.f (a0_0 : ByteArray) (a0_1 : Int) : Option (Bool):=if (a0_0.size : Int)≤2000 then ((F01.f a0_1 0 9999).bind fun t278=>(some t278)) else (some false)
set_option maxHeartbeats 8000000 in
set_option maxRecDepth 100000 in
theorem F08.calls (a0_0 : ByteArray) (a0_1 : Int) (r : Bool) (w : World) (h : F08.f a0_0 a0_1=some r) :
  Calls Try.prog 32 #[.agg #[.string a0_0,.int .i64 a0_1]] w fun e w' => e = .returned (.bool r)∧Below w.heap.size w w':=by
 have hu28:=Try.underlying28;have HB:=zh (Below.refl w.heap.size w);have H : (if (a0_0.size : Int)≤2000 then ((F01.f a0_1 0 9999).bind fun t278=>(some t278)) else (some false))=some r:=h;clear h
 by_cases c2 : (a0_0.size : Int)≤2000
 ·
  rw [if_pos c2] at H
  have c2b0 : decide ((a0_0.size : Int)≤2000)=true:=decide_eq_true c2;have c2b1 : decide (a0_0.size≤2000)=true:=decide_eq_true jD;clear c2;replace H:=zT.mp H;obtain ⟨t278,A30,H⟩:=H;have A3:=zh A30;clear A30;obtain rfl:=zU H
  go_enter Try.func32,Try.ntmps32
  go_wp2_with (first|((with_reducible refine zK (N:=1) rfl ?_);refine zI ?hg (N:=1) ?hd (cs:=#[.string a0_0,.int .i64 a0_1]) (t:=28) ?hr ?_;(case hd=>rfl);(case hg=>rfl);(case hr=>go_simp <;> rfl);intro gb277 hg w4 hbox hb;have BK277:=zh (hbox);have hH_:=cH jH hb hg;have GW277:=zh hH_.1;have GE277:=GW277;replace HB:=zh hH_.2;clear hb hbox hg hH_;obtain ⟨hcz5_0,hcz5_1,hfz5_0,hfz5_1⟩:=cB2 BK277.out)|(go_at_call 40;(with_reducible refine (F01.calls  a0_1 0 9999 t278 _ A3.out).mono ?_);rintro e w' ⟨rfl,⟨nd,rfl⟩⟩))
  go_ret
  exact ⟨jG,jCt⟩
 rw [if_neg c2] at H;have c2b0 : decide ((a0_0.size : Int)≤2000)=false:=decide_eq_false c2;have c2b1 : decide (a0_0.size≤2000)=false:=decide_eq_false jD;clear c2;obtain rfl:=zU H
 go_enter Try.func32,Try.ntmps32
 go_wp2_with (first|((with_reducible refine zK (N:=1) rfl ?_);refine zI ?hg (N:=1) ?hd (cs:=#[.string a0_0,.int .i64 a0_1]) (t:=28) ?hr ?_;(case hd=>rfl);(case hg=>rfl);(case hr=>go_simp <;> rfl);intro gb277 hg w6 hbox hb;have BK277:=zh (hbox);have hH_:=cH jH hb hg;have GW277:=zh hH_.1;have GE277:=GW277;replace HB:=zh hH_.2;clear hb hbox hg hH_;obtain ⟨hcz7_0,hcz7_1,hfz7_0,hfz7_1⟩:=cB2 BK277.out))
 go_ret
 exact ⟨jG,jCt⟩


def Fv.l0 : Nat→List Int→Int→Int→Int→Option (Int)
 | 0,_,_,_,_=>none
 | k+1,x0,x1,x7,x8=>if x8<x7 then (if 0≤x8 then (if x8<(x0.length : Int) then (if x1=(rd x0 x8) then (some x8) else (Fv.l0 k x0 x1 x7 (wrap64 (x8+1)))) else (none)) else (none)) else (some (-1))
def Fv.f (k : Nat) (l0 : List Int) (a1 : Int) : Option (Int):=Fv.l0 k l0 a1 (l0.length : Int) 0
theorem Fv.mono_l : ∀ k,(∀ y0 y1 y2 y3,LeO (Fv.l0 k y0 y1 y2 y3) (Fv.l0 (k+1) y0 y1 y2 y3))
 | 0=>fun _ _ _ _ r h=>by simp [Fv.l0] at h
 | k+1=>by
  have ih0:=Fv.mono_l k;intro y0 y1 y2 y3;unfold Fv.l0
  repeat' first|(with_reducible first|exact ih0 _ _ _ _|exact zQ _|exact zN _|refine zP ?_ ?_|refine zO ?_ (fun _=>?_))|refine zP ?_ ?_|refine zO ?_ (fun _=>?_)
theorem Fv.mono : ∀ a0 a1 k,LeO (Fv.f k a0 a1) (Fv.f (k+1) a0 a1):=by
 intro a0 a1 k;have ih0:=Fv.mono_l k;unfold Fv.f
 repeat' first|(with_reducible first|exact ih0 _ _ _ _|exact zQ _|exact zN _|refine zP ?_ ?_|refine zO ?_ (fun _=>?_))|refine zP ?_ ?_|refine zO ?_ (fun _=>?_)
set_option maxHeartbeats 8000000 in
set_option maxRecDepth 100000 in
theorem Fv.calls (k : Nat) (A0 : Option Addr) (c0 : Nat) (l0 : List Int) (a1 : Int) (r : Int) (w : World) (hr0 : Kd.C (Kd.int .i64) w A0 l0.length l0) (hc0 : l0.length≤c0) (h : Fv.f k l0 a1=some r) :
  Calls Try.prog 60 #[.slice A0 l0.length c0,.int .i64 a1] w fun e w' => e = .returned (.int .i64 r)∧Drawn0 w w':=by
 have HR0:=zh hr0;have HC0:=zh hc0;clear hr0 hc0;have H : (Fv.l0 k l0 a1 (l0.length : Int) 0)=some r:=h;clear h;have H':=zh H;clear H
 go_enter Try.func60,Try.ntmps60
 go_wp2
 go_loopg [8] k (fun kq v8 w' => ∃ (x8_1 : Int),v8 = .int .i64 x8_1∧Aside0 (Fv.l0 kq l0 a1 (l0.length : Int) x8_1=some r)∧Aside0 (kq≤k)∧Drawn0 w w')
 case atStart=>exact ⟨(0),jE,H',⟨ye _⟩,jI⟩
 case round =>
  clear H'
  try clear p2
  obtain ⟨x8_1,rfl,HA,HK1,⟨m1,rfl⟩⟩:=hrel
  cases gk with
  | zero=>exact absurd HA.out (by simp [Fv.l0])
  | succ k1 =>
   have H:=HA.out;clear HA;simp only [Fv.l0] at H
   by_cases c3 : x8_1<(l0.length : Int)
   ·
    rw [if_pos c3] at H
    have c3b0 : decide (x8_1<(l0.length : Int))=true:=decide_eq_true c3;clear c3
    by_cases c4 : 0≤x8_1
    ·
     rw [if_pos c4] at H
     have c4b0 : decide (0≤x8_1)=true:=decide_eq_true c4;clear c4
     by_cases c5 : x8_1<(l0.length : Int)
     ·
      rw [if_pos c5] at H
      have c5b0 : decide (x8_1<(l0.length : Int))=true:=decide_eq_true c5;clear c5
      by_cases c6 : a1=(rd l0 x8_1)
      ·
       rw [if_pos c6] at H
       have c6b0 : (a1 == (rd l0 x8_1))=true:=ya.mpr c6;have c6b1 : (a1 != (rd l0 x8_1))=false:=zX.mpr c6;clear c6;obtain rfl:=zU H;have p279 : 0≤(x8_1 : Int):=zy jC;have q279 : x8_1<(l0.length : Int):=zy jC;obtain ⟨ad279,e279,hx279_0⟩:=Kd.at_int HR0.out x8_1 p279 q279
       cases e279
       replace p279:=eq_true p279;replace q279:=eq_true q279
       go_wp2
       go_ret
       exact ⟨jE,jI⟩
      rw [if_neg c6] at H;have c6b0 : (a1 == (rd l0 x8_1))=false:=zY.mpr c6;have c6b1 : (a1 != (rd l0 x8_1))=true:=zZ.mpr c6;have H':=zh H;clear H;have p279 : 0≤(x8_1 : Int):=zy jC;have q279 : x8_1<(l0.length : Int):=zy jC;obtain ⟨ad279,e279,hx279_0⟩:=Kd.at_int HR0.out x8_1 p279 q279
      cases e279
      replace p279:=eq_true p279;replace q279:=eq_true q279
      go_wp2
      go_roundg k1
      case measure=>have:=HK1.out;omega
      case rel=>exact ⟨(wrap64 (x8_1+1)),jE,H',⟨jR⟩,jI⟩
     rw [if_neg c5] at H;exact absurd H (by simp)
    rw [if_neg c4] at H;exact absurd H (by simp)
   rw [if_neg c3] at H;have c3b0 : decide (x8_1<(l0.length : Int))=false:=decide_eq_false c3;clear c3;obtain rfl:=zU H
   go_wp2
   go_ret
   exact ⟨jE,jI⟩


def F05.f (k : Nat) (l0 : List Int) (a1 : Int) : Option (Bool):=(Fv.f k l0 a1).bind fun t280=>(some (decide (t280 ≥ 0)))
theorem F05.mono : ∀ a0 a1 k,LeO (F05.f k a0 a1) (F05.f (k+1) a0 a1):=by
 intro a0 a1 k;unfold F05.f
 repeat' first|(with_reducible first|exact Fv.mono _ _ _|exact zQ _|exact zN _|refine zP ?_ ?_|refine zO ?_ (fun _=>?_))|refine zP ?_ ?_|refine zO ?_ (fun _=>?_)
set_option maxHeartbeats 8000000 in
set_option maxRecDepth 100000 in
theorem F05.calls (k : Nat) (A0 : Option Addr) (c0 : Nat) (l0 : List Int) (a1 : Int) (r : Bool) (w : World) (hr0 : Kd.C (Kd.int .i64) w A0 l0.length l0) (hc0 : l0.length≤c0) (h : F05.f k l0 a1=some r) :
  Calls Try.prog 41 #[.slice A0 l0.length c0,.int .i64 a1] w fun e w' => e = .returned (.bool r)∧Drawn0 w w':=by
 have HR0:=zh hr0;have HC0:=zh hc0;clear hr0 hc0;have H : ((Fv.f k l0 a1).bind fun t280=>(some (decide (t280 ≥ 0))))=some r:=h;clear h;replace H:=zT.mp H;obtain ⟨t280,A30,H⟩:=H;have A3:=zh A30;clear A30;obtain rfl:=zU H
 go_enter Try.func41,Try.ntmps41
 go_wp2_with (first|((with_reducible refine zJ (f:=60) rfl ?_);refine yj (some 7) rfl rfl Try.func60 jA rfl #[.slice A0 l0.length c0,.int .i64 a1] rfl jF ?_;(with_reducible refine (Fv.calls k  _ _ l0 a1 t280 _ ?side1 ?side2 A3.out).mono ?_);(case side1=>repeat (first|exact HR0.out|(with_reducible refine Kd.C_alloc ?_ _)|(with_reducible refine Kd.C_drewN ?_ _)|(with_reducible refine Kd.C_drew ?_)));(case side2=>exact HC0.out);rintro e w' ⟨rfl,⟨nd,rfl⟩⟩;refine ⟨_,rfl,?_⟩))
 go_ret
 exact ⟨jE,jI⟩


def Fr.l0 : Nat→Int→List Int→Int→Int→Option (Int)
 | 0,_,_,_,_=>none
 | k+1,x3,x6,x7,x8=>if x8<x7 then (if 0≤x8 then (if x8<(x6.length : Int) then (if (rd x6 x8)=x3 then (Fr.l0 k x3 x6 x7 (wrap64 (x8+1))) else (some (rd x6 x8))) else (none)) else (none)) else (some x3)
def Fr.f (k : Nat) (l0 : List Int) : Option (Int):=Fr.l0 k 0 l0 (l0.length : Int) 0
theorem Fr.mono_l : ∀ k,(∀ y0 y1 y2 y3,LeO (Fr.l0 k y0 y1 y2 y3) (Fr.l0 (k+1) y0 y1 y2 y3))
 | 0=>fun _ _ _ _ r h=>by simp [Fr.l0] at h
 | k+1=>by
  have ih0:=Fr.mono_l k;intro y0 y1 y2 y3;unfold Fr.l0
  repeat' first|(with_reducible first|exact ih0 _ _ _ _|exact zQ _|exact zN _|refine zP ?_ ?_|refine zO ?_ (fun _=>?_))|refine zP ?_ ?_|refine zO ?_ (fun _=>?_)
theorem Fr.mono : ∀ a0 k,LeO (Fr.f k a0) (Fr.f (k+1) a0):=by
 intro a0 k;have ih0:=Fr.mono_l k;unfold Fr.f
 repeat' first|(with_reducible first|exact ih0 _ _ _ _|exact zQ _|exact zN _|refine zP ?_ ?_|refine zO ?_ (fun _=>?_))|refine zP ?_ ?_|refine zO ?_ (fun _=>?_)
set_option maxHeartbeats 8000000 in
set_option maxRecDepth 100000 in
theorem Fr.calls (k : Nat) (A0 : Option Addr) (c0 : Nat) (l0 : List Int) (r : Int) (w : World) (hr0 : Kd.C (Kd.int .i64) w A0 l0.length l0) (hc0 : l0.length≤c0) (h : Fr.f k l0=some r) :
  Calls Try.prog 61 #[.slice A0 l0.length c0] w fun e w' => e = .returned (.int .i64 r)∧Drawn0 w w':=by
 have HR0:=zh hr0;have HC0:=zh hc0;clear hr0 hc0;have H : (Fr.l0 k 0 l0 (l0.length : Int) 0)=some r:=h;clear h;have H':=zh H;clear H
 go_enter Try.func61,Try.ntmps61
 go_wp2
 go_loopg [8] k (fun kq v8 w' => ∃ (x8_1 : Int),v8 = .int .i64 x8_1∧Aside0 (Fr.l0 kq 0 l0 (l0.length : Int) x8_1=some r)∧Aside0 (kq≤k)∧Drawn0 w w')
 case atStart=>exact ⟨(0),jE,H',⟨ye _⟩,jI⟩
 case round =>
  clear H';obtain ⟨x8_1,rfl,HA,HK1,⟨m1,rfl⟩⟩:=hrel
  cases gk with
  | zero=>exact absurd HA.out (by simp [Fr.l0])
  | succ k1 =>
   have H:=HA.out;clear HA;simp only [Fr.l0] at H
   by_cases c2 : x8_1<(l0.length : Int)
   ·
    rw [if_pos c2] at H
    have c2b0 : decide (x8_1<(l0.length : Int))=true:=decide_eq_true c2;clear c2
    by_cases c3 : 0≤x8_1
    ·
     rw [if_pos c3] at H
     have c3b0 : decide (0≤x8_1)=true:=decide_eq_true c3;clear c3
     by_cases c4 : x8_1<(l0.length : Int)
     ·
      rw [if_pos c4] at H
      have c4b0 : decide (x8_1<(l0.length : Int))=true:=decide_eq_true c4;clear c4
      by_cases c5 : (rd l0 x8_1)=0
      ·
       rw [if_pos c5] at H
       have c5b0 : ((rd l0 x8_1) == 0)=true:=ya.mpr c5;have c5b1 : ((rd l0 x8_1) != 0)=false:=zX.mpr c5;clear c5;have H':=zh H;clear H;have p281 : 0≤(x8_1 : Int):=zy jC;have q281 : x8_1<(l0.length : Int):=zy jC;obtain ⟨ad281,e281,hx281_0⟩:=Kd.at_int HR0.out x8_1 p281 q281
       cases e281
       replace p281:=eq_true p281;replace q281:=eq_true q281
       go_wp2
       go_roundg k1
       case measure=>have:=HK1.out;omega
       case rel=>exact ⟨(wrap64 (x8_1+1)),jE,H',⟨jR⟩,jI⟩
      rw [if_neg c5] at H;have c5b0 : ((rd l0 x8_1) == 0)=false:=zY.mpr c5;have c5b1 : ((rd l0 x8_1) != 0)=true:=zZ.mpr c5;obtain rfl:=zU H;have p281 : 0≤(x8_1 : Int):=zy jC;have q281 : x8_1<(l0.length : Int):=zy jC;obtain ⟨ad281,e281,hx281_0⟩:=Kd.at_int HR0.out x8_1 p281 q281
      cases e281
      replace p281:=eq_true p281;replace q281:=eq_true q281
      go_wp2
      go_ret
      exact ⟨jE,jI⟩
     rw [if_neg c4] at H;exact absurd H (by simp)
    rw [if_neg c3] at H;exact absurd H (by simp)
   rw [if_neg c2] at H;have c2b0 : decide (x8_1<(l0.length : Int))=false:=decide_eq_false c2;clear c2;obtain rfl:=zU H
   go_wp2
   go_ret
   exact ⟨jE,jI⟩


def strings_Compare.f (a0 : ByteArray) (a1 : ByteArray) : Option (Int):=some (Lib.compareBytes a0.data.toList a1.data.toList)
set_option maxHeartbeats 1000000 in
set_option maxRecDepth 100000 in
theorem strings_Compare.inner (a b : ByteArray) (w : World) :
  Calls Try.prog 71 #[.string a,.string b] w fun e w' => e = .returned (.int .i64 (Lib.compareBytes a.data.toList b.data.toList))∧w' = w:=by
 go_enter Try.func71,Try.ntmps71
 go_wp2
 rw [run_callFunc_extern Try.func75 jA jA jA (e:=Extern.BytealgCompare.compare) jA,Lib.run_compareString];simp only [Result.andThen];rw [Oper.upon_value]
 go_wp2
 go_ret
 exact ⟨rfl,rfl⟩
set_option maxHeartbeats 1000000 in
theorem strings_Compare.calls (a0 : ByteArray) (a1 : ByteArray) (r : Int) (w : World) (h : strings_Compare.f a0 a1=some r) :
  Calls Try.prog 62 #[.string a0,.string a1] w fun e w' => e = .returned (.int .i64 r)∧Drawn0 w w':=by
 have h' : (some (Lib.compareBytes a0.data.toList a1.data.toList))=some r:=h;obtain rfl:=zU h';clear h h'
 go_enter Try.func62,Try.ntmps62
 go_wp2_with (go_at_call 71;refine (strings_Compare.inner _ _ _).mono ?_;rintro e w' ⟨rfl,rfl⟩)
 go_ret
 exact ⟨rfl,yp _⟩


def F04.f (a0 : Int) : Option (Bool):=some (a0 != a0)
set_option maxHeartbeats 8000000 in
set_option maxRecDepth 100000 in
theorem F04.calls (a0 : Int) (r : Bool) (w : World) (h : F04.f a0=some r) :
  Calls Try.prog 72 #[.int .i64 a0] w fun e w' => e = .returned (.bool r)∧Drawn0 w w':=by
 have H : (some (a0 != a0))=some r:=h;clear h;obtain rfl:=zU H
 go_enter Try.func72,Try.ntmps72
 go_wp2
 go_ret
 exact ⟨jE,jI⟩


def F0h.f (a0 : Int) (a1 : Int) : Option (Int):=(F04.f a0).bind fun t282=>((F04.f a1).bind fun t283=>(if t282=true then (if t283=true then (some 0) else (some (-1))) else (if t283=true then (some 1) else (if a0<a1 then (some (-1)) else (if a0 > a1 then (some 1) else (some 0))))))
set_option maxHeartbeats 8000000 in
set_option maxRecDepth 100000 in
theorem F0h.calls (a0 : Int) (a1 : Int) (r : Int) (w : World) (h : F0h.f a0 a1=some r) :
  Calls Try.prog 63 #[.int .i64 a0,.int .i64 a1] w fun e w' => e = .returned (.int .i64 r)∧Drawn0 w w':=by
 have H : ((F04.f a0).bind fun t282=>((F04.f a1).bind fun t283=>(if t282=true then (if t283=true then (some 0) else (some (-1))) else (if t283=true then (some 1) else (if a0<a1 then (some (-1)) else (if a0 > a1 then (some 1) else (some 0)))))))=some r:=h;clear h;replace H:=zT.mp H;obtain ⟨t282,A30,H⟩:=H;have A3:=zh A30;clear A30;replace H:=zT.mp H;obtain ⟨t283,A40,H⟩:=H;have A4:=zh A40;clear A40
 by_cases c5 : t282=true
 ·
  subst c5
  rw [if_pos rfl] at H
  by_cases c6 : t283=true
  ·
   subst c6
   rw [if_pos rfl] at H;obtain rfl:=zU H
   go_enter Try.func63,Try.ntmps63
   go_wp2_with (first|((with_reducible refine zJ (f:=72) rfl ?_);refine yj (some 8) rfl rfl Try.func72 jA rfl #[.int .i64 a0] rfl jF ?_;(with_reducible refine (F04.calls  a0 true _ A3.out).mono ?_);rintro e w' ⟨rfl,⟨nd,rfl⟩⟩;refine ⟨_,rfl,?_⟩)|((with_reducible refine zJ (f:=72) rfl ?_);refine yj (some 10) rfl rfl Try.func72 jA rfl #[.int .i64 a1] rfl jF ?_;(with_reducible refine (F04.calls  a1 true _ A4.out).mono ?_);rintro e w' ⟨rfl,⟨nd,rfl⟩⟩;refine ⟨_,rfl,?_⟩))
   go_ret
   exact ⟨jE,jI⟩
  replace c6:=yb.mpr c6;subst c6;rw [if_neg (show ¬ (false=true) by decide)] at H;obtain rfl:=zU H
  go_enter Try.func63,Try.ntmps63
  go_wp2_with (first|((with_reducible refine zJ (f:=72) rfl ?_);refine yj (some 8) rfl rfl Try.func72 jA rfl #[.int .i64 a0] rfl jF ?_;(with_reducible refine (F04.calls  a0 true _ A3.out).mono ?_);rintro e w' ⟨rfl,⟨nd,rfl⟩⟩;refine ⟨_,rfl,?_⟩)|((with_reducible refine zJ (f:=72) rfl ?_);refine yj (some 10) rfl rfl Try.func72 jA rfl #[.int .i64 a1] rfl jF ?_;(with_reducible refine (F04.calls  a1 false _ A4.out).mono ?_);rintro e w' ⟨rfl,⟨nd,rfl⟩⟩;refine ⟨_,rfl,?_⟩))
  go_ret
  exact ⟨jE,jI⟩
 replace c5:=yb.mpr c5;subst c5;rw [if_neg (show ¬ (false=true) by decide)] at H
 by_cases c7 : t283=true
 ·
  subst c7
  rw [if_pos rfl] at H;obtain rfl:=zU H
  go_enter Try.func63,Try.ntmps63
  go_wp2_with (first|((with_reducible refine zJ (f:=72) rfl ?_);refine yj (some 8) rfl rfl Try.func72 jA rfl #[.int .i64 a0] rfl jF ?_;(with_reducible refine (F04.calls  a0 false _ A3.out).mono ?_);rintro e w' ⟨rfl,⟨nd,rfl⟩⟩;refine ⟨_,rfl,?_⟩)|((with_reducible refine zJ (f:=72) rfl ?_);refine yj (some 10) rfl rfl Try.func72 jA rfl #[.int .i64 a1] rfl jF ?_;(with_reducible refine (F04.calls  a1 true _ A4.out).mono ?_);rintro e w' ⟨rfl,⟨nd,rfl⟩⟩;refine ⟨_,rfl,?_⟩))
  go_ret
  exact ⟨jE,jI⟩
 replace c7:=yb.mpr c7;subst c7;rw [if_neg (show ¬ (false=true) by decide)] at H
 by_cases c8 : a0<a1
 ·
  rw [if_pos c8] at H
  have c8b0 : decide (a0<a1)=true:=decide_eq_true c8;clear c8;obtain rfl:=zU H
  go_enter Try.func63,Try.ntmps63
  go_wp2_with (first|((with_reducible refine zJ (f:=72) rfl ?_);refine yj (some 8) rfl rfl Try.func72 jA rfl #[.int .i64 a0] rfl jF ?_;(with_reducible refine (F04.calls  a0 false _ A3.out).mono ?_);rintro e w' ⟨rfl,⟨nd,rfl⟩⟩;refine ⟨_,rfl,?_⟩)|((with_reducible refine zJ (f:=72) rfl ?_);refine yj (some 10) rfl rfl Try.func72 jA rfl #[.int .i64 a1] rfl jF ?_;(with_reducible refine (F04.calls  a1 false _ A4.out).mono ?_);rintro e w' ⟨rfl,⟨nd,rfl⟩⟩;refine ⟨_,rfl,?_⟩))
  go_ret
  exact ⟨jE,jI⟩
 rw [if_neg c8] at H;have c8b0 : decide (a0<a1)=false:=decide_eq_false c8;clear c8
 by_cases c9 : a0 > a1
 ·
  rw [if_pos c9] at H
  have c9b0 : decide (a1<a0)=true:=decide_eq_true c9;clear c9;obtain rfl:=zU H
  go_enter Try.func63,Try.ntmps63
  go_wp2_with (first|((with_reducible refine zJ (f:=72) rfl ?_);refine yj (some 8) rfl rfl Try.func72 jA rfl #[.int .i64 a0] rfl jF ?_;(with_reducible refine (F04.calls  a0 false _ A3.out).mono ?_);rintro e w' ⟨rfl,⟨nd,rfl⟩⟩;refine ⟨_,rfl,?_⟩)|((with_reducible refine zJ (f:=72) rfl ?_);refine yj (some 10) rfl rfl Try.func72 jA rfl #[.int .i64 a1] rfl jF ?_;(with_reducible refine (F04.calls  a1 false _ A4.out).mono ?_);rintro e w' ⟨rfl,⟨nd,rfl⟩⟩;refine ⟨_,rfl,?_⟩))
  go_ret
  exact ⟨jE,jI⟩
 rw [if_neg c9] at H;have c9b0 : decide (a1<a0)=false:=decide_eq_false c9;clear c9;obtain rfl:=zU H
 go_enter Try.func63,Try.ntmps63
 go_wp2_with (first|((with_reducible refine zJ (f:=72) rfl ?_);refine yj (some 8) rfl rfl Try.func72 jA rfl #[.int .i64 a0] rfl jF ?_;(with_reducible refine (F04.calls  a0 false _ A3.out).mono ?_);rintro e w' ⟨rfl,⟨nd,rfl⟩⟩;refine ⟨_,rfl,?_⟩)|((with_reducible refine zJ (f:=72) rfl ?_);refine yj (some 10) rfl rfl Try.func72 jA rfl #[.int .i64 a1] rfl jF ?_;(with_reducible refine (F04.calls  a1 false _ A4.out).mono ?_);rintro e w' ⟨rfl,⟨nd,rfl⟩⟩;refine ⟨_,rfl,?_⟩))
 go_ret
 exact ⟨jE,jI⟩


def Fm.f (k : Nat) (a0_0 : ByteArray) (a0_1 : Int) (a1_0 : ByteArray) (a1_1 : Int) : Option (Int):=(strings_Compare.f a0_0 a1_0).bind fun t286=>((F0h.f a0_1 a1_1).bind fun t287=>((Fr.f k (([t286,t287] : List Int))).bind fun t291=>(some t291)))
theorem Fm.mono : ∀ a0 a1 a2 a3 k,LeO (Fm.f k a0 a1 a2 a3) (Fm.f (k+1) a0 a1 a2 a3):=by
 intro a0 a1 a2 a3 k;unfold Fm.f
 repeat' first|(with_reducible first|exact Fr.mono _ _|exact zQ _|exact zN _|refine zP ?_ ?_|refine zO ?_ (fun _=>?_))|refine zP ?_ ?_|refine zO ?_ (fun _=>?_)
def Fm.T1 : Bool×List (List Nat×List Nat):=(true,[([],[]),([0],[0]),([],[]),([2],[2]),([1,3],[1,3]),([],[]),([5],[5]),([],[]),([7],[7]),([6,8,4],[6,8]),([4,9],[4,9]),([10,9],[10]),([11,11,0,1,2,3,4,5,6,7,8,9,10,11],[11])])
def Fm.B1 : List Nat:=[0,1,0,4,15,0,32,0,128,511,1023,2047,4095]
theorem Fm.tab1 : rtab .any (opsOf Try.f42 1)=Fm.T1:=by kernel_rfl
theorem Fm.bits1 : waitsOk Fm.T1.2 Fm.B1=true:=by kernel_rfl
set_option maxHeartbeats 8000000 in
set_option maxRecDepth 100000 in
theorem Fm.calls (k : Nat) (a0_0 : ByteArray) (a0_1 : Int) (a1_0 : ByteArray) (a1_1 : Int) (r : Int) (w : World) (h : Fm.f k a0_0 a0_1 a1_0 a1_1=some r) :
  Calls Try.prog 42 #[.agg #[.string a0_0,.int .i64 a0_1],.agg #[.string a1_0,.int .i64 a1_1]] w fun e w' => e = .returned (.int .i64 r)∧Below w.heap.size w w':=by
 have hu28:=Try.underlying28;have HB:=zh (Below.refl w.heap.size w);have H : ((strings_Compare.f a0_0 a1_0).bind fun t286=>((F0h.f a0_1 a1_1).bind fun t287=>((Fr.f k (([t286,t287] : List Int))).bind fun t291=>(some t291))))=some r:=h;clear h;replace H:=zT.mp H;obtain ⟨t286,A30,H⟩:=H;have A3:=zh A30;clear A30;replace H:=zT.mp H;obtain ⟨t287,A40,H⟩:=H;have A4:=zh A40;clear A40;obtain ⟨y288,hy288⟩ : ∃ y_ : List Int,y_=(([t286,t287] : List Int)):=⟨_,rfl⟩;replace H : ((Fr.f k y288).bind fun t291=>(some t291))=some r:=by first|(rw [hy288];with_reducible exact H)|(have H2_:=(Option.bind_some _ _).symm.trans H;rw [hy288];with_reducible exact H2_)|(have H2_:=(Option.bind_some _ _).symm.trans H;with_reducible exact H2_)|with_reducible exact H|(rw [hy288];exact H)|exact H
 have Ny288:=zh hy288;clear hy288;replace H:=zT.mp H;obtain ⟨t291,A50,H⟩:=H;have A5:=zh A50;clear A50;obtain rfl:=zU H
 go_enter Try.func42,Try.ntmps42
 try go_wp2_with (first|((with_reducible refine zK (N:=2) rfl ?_);refine zI ?hg (N:=2) ?hd (cs:=#[.string a0_0,.int .i64 a0_1]) (t:=28) ?hr ?_;(case hd=>rfl);(case hg=>rfl);(case hr=>go_simp <;> rfl);intro gb284 hg w6 hbox hb;have BK284:=zh (hbox);have hH_:=cH jH hb hg;have GW284:=zh hH_.1;have GE284:=GW284;replace HB:=zh hH_.2;clear hb hbox hg hH_)|((with_reducible refine zK (N:=3) rfl ?_);refine zI ?hg (N:=3) ?hd (cs:=#[.string a1_0,.int .i64 a1_1]) (t:=28) ?hr ?_;(case hd=>rfl);(case hg=>rfl);(case hr=>go_simp <;> rfl);intro gb285 hg w7 hbox hb;have BK285:=zh (hbox);have hH_:=cH (by repeat (with_reducible first|exact HB.out|apply za|apply zb|apply zc|refine zd ?_ GE284.out)) hb hg;have GW285:=zh hH_.1;have GE285:=GW285;replace HB:=zh hH_.2;have NB284_285:=zh ((by rw [hg];exact yc (yi (g:=gb284) (o:=.cells #[.string a0_0,.int .i64 a0_1] 28 (0,0)) jB5) : gb284≠gb285));have NB285_284:=zh NB284_285.out.symm;replace BK284:=zh (cD BK284.out jB5 hb);clear hb hbox hg hH_))
 replace BK284:=zh (zf BK284.out);replace BK285:=zh (zf BK285.out);replace HB:=zh (zc HB.out);refine start_ (n:=13) (S:=fun w' => w'.cell? ⟨gb284,0,none⟩=some (.string a0_0)∧w'.cell? ⟨gb284,1,none⟩=some (.int .i64 a0_1)∧w'.cell? ⟨gb285,0,none⟩=some (.string a1_0)∧w'.cell? ⟨gb285,1,none⟩=some (.int .i64 a1_1)) (ds:=[]) (bm_ 0 13) jA rfl rfl ⟨(zz BK284.out 0).trans rfl,(zz BK284.out 1).trans rfl,(zz BK285.out 0).trans rfl,(zz BK285.out 1).trans rfl⟩ (fun hHeld=>?_);refine with_tabW Fm.tab1 Fm.bits1 (fun HT_ HW_=>?_);generalize w7.drew=w8 at BK284 BK285 HB hHeld ⊢;refine pure_ (i:=0) (N:=some 5) (v:=?_) (a':=?_) (bm_ 1 13) rfl rfl (any_of HT_.out jA) (fun _ _ _ h=>h) (Or.inl ⟨by rfl,?_⟩) ?_ ?_;rotate_left;exact jb;rotate_left;exact jc
 refine pure_ (i:=2) (N:=some 7) (v:=?_) (a':=?_) #[true,false,true,false,false,false,false,false,false,false,false,false,false] rfl rfl (any_of HT_.out jA) (fun _ _ _ h=>h) (Or.inl ⟨by rfl,?_⟩) ?_ ?_;rotate_left;exact jb;rotate_left;exact jc
 refine pure_ (i:=5) (N:=some 10) (v:=?_) (a':=?_) #[true,false,true,false,false,true,false,false,false,false,false,false,false] rfl rfl (any_of HT_.out jA) (fun _ _ _ h=>h) (Or.inl ⟨by rfl,?_⟩) ?_ ?_;rotate_left;exact jb;rotate_left;exact jc
 refine pure_ (i:=7) (N:=some 12) (v:=?_) (a':=?_) #[true,false,true,false,false,true,false,true,false,false,false,false,false] rfl rfl (any_of HT_.out jA) (fun _ _ _ h=>h) (Or.inl ⟨by rfl,?_⟩) ?_ ?_;rotate_left;exact jb;rotate_left;exact jc
 refine take_ (i:=1) (N:=some 6) (v:=?_) (a':=?_) #[true,true,true,false,false,true,false,true,false,false,false,false,false] rfl rfl (yo HT_.out HW_.out jA) (fun _ _ _ h=>h) (Or.inl ⟨by rfl,?_⟩) hHeld ?_ ?_;rotate_left
 ·
  rintro w' ⟨s0,s1,s2,s3⟩
  go_simp
  with_reducible rfl
 rotate_left
 exact jc
 refine take_ (i:=3) (N:=some 8) (v:=?_) (a':=?_) #[true,true,true,true,false,true,false,true,false,false,false,false,false] rfl rfl (yo HT_.out HW_.out jA) (fun _ _ _ h=>h) (Or.inl ⟨by rfl,?_⟩) hHeld ?_ ?_;rotate_left
 ·
  rintro w' ⟨s0,s1,s2,s3⟩
  go_simp
  with_reducible rfl
 rotate_left
 exact jc
 refine take_ (i:=6) (N:=some 11) (v:=?_) (a':=?_) #[true,true,true,true,false,true,true,true,false,false,false,false,false] rfl rfl (yo HT_.out HW_.out jA) (fun _ _ _ h=>h) (Or.inl ⟨by rfl,?_⟩) hHeld ?_ ?_;rotate_left
 ·
  rintro w' ⟨s0,s1,s2,s3⟩
  go_simp
  with_reducible rfl
 rotate_left
 exact jc
 refine take_ (i:=8) (N:=some 13) (v:=?_) (a':=?_) #[true,true,true,true,false,true,true,true,true,false,false,false,false] rfl rfl (yo HT_.out HW_.out jA) (fun _ _ _ h=>h) (Or.inl ⟨by rfl,?_⟩) hHeld ?_ ?_;rotate_left
 ·
  rintro w' ⟨s0,s1,s2,s3⟩
  go_simp
  with_reducible rfl
 rotate_left
 exact jc
 refine one_ (i:=4) (N:=some 9) (bm_ 9 13) rfl rfl (one_of HT_.out jA) jB (fun K hK=>?_);refine goes_ Try.func62 jA rfl #[.string a0_0,.string a1_0] (by rfl) rfl rfl jF ?_
 with_reducible refine (strings_Compare.calls  a0_0 a1_0 t286 _ A3.out).mono ?_
 rintro e w' ⟨rfl,⟨nd,rfl⟩⟩;refine ⟨_,rfl,?_⟩;refine hK.out _ _ ⟨(zz BK284.out 0).trans rfl,(zz BK284.out 1).trans rfl,(zz BK285.out 0).trans rfl,(zz BK285.out 1).trans rfl⟩ (fun hHeld=>?_);clear hK K;refine norm_ (a':=?_) ?_ ?_;rotate_left
 ·
  show Act.put _ (some 9) _=_
  simp only [Act.put,zi,zj,zk,zG,zH]
  rfl
 refine one_ (i:=9) (N:=some 14) (bm_ 10 13) rfl rfl (one_of HT_.out jA) jB (fun K hK=>?_);refine goes_ Try.func63 jA rfl #[.int .i64 a0_1,.int .i64 a1_1] (by rfl) rfl rfl jF ?_
 with_reducible refine (F0h.calls  a0_1 a1_1 t287 _ A4.out).mono ?_
 rintro e w' ⟨rfl,⟨nd,rfl⟩⟩;refine ⟨_,rfl,?_⟩;refine hK.out _ _ ⟨(zz BK284.out 0).trans rfl,(zz BK284.out 1).trans rfl,(zz BK285.out 0).trans rfl,(zz BK285.out 1).trans rfl⟩ (fun hHeld=>?_);clear hK K;refine norm_ (a':=?_) ?_ ?_;rotate_left
 ·
  show Act.put _ (some 14) _=_
  simp only [Act.put,zi,zj,zk,zG,zH]
  rfl
 refine one_ (i:=10) (N:=some 15) (bm_ 11 13) rfl rfl (one_of HT_.out jA) jB (fun K hK=>?_);refine Kd.R_lit_step (Kd.int .i64) _ 3 ?hg (N:=15) ?hd (xs:=([t286,t287] : List Int)) (inner:=[.int .i64 t286,.int .i64 t287]) (ok:=fun _=>True) (okp:=fun _=>True) ?hr ?hp (fun _ hk=>hk) trivial (Below.refl _ _) (ye _) (by simp) ?_;(case hd=>rfl);(case hg=>rfl);(case hr=>go_simp <;> rfl);(case hp=>exact (Reps.one (show Kd.M (Kd.int .i64) _ _ _ t286 [.int .i64 t286] from rfl) (Reps.one (show Kd.M (Kd.int .i64) _ _ _ t287 [.int .i64 t287] from rfl) (Reps.none _ _))));intro v289 w9 ho10 hb hg_ hnew_;clear hg_ hnew_;(first|rw [← Ny288.out] at ho10|(simp only [Int.reduceToNat] at ho10;rw [← Ny288.out] at ho10));have HO290:=zh (yx ho10 (zB jB6));replace BK284:=zh (cD BK284.out jB5 hb);replace BK285:=zh (cD BK285.out (by (with_reducible repeat first|apply ze|apply zf|apply zg);exact BK285.out) hb);replace HB:=zh (zC jB6 hb);clear hb ho10;obtain ⟨Ao11,co11,eo11⟩:=yk HO290.out;(first|subst eo11|(injection eo11 with f1_ f2_ f3_;have f4_:=f1_.symm;have f5_:=f3_.symm;clear f1_ f2_ f3_;subst f4_;subst f5_));refine hK.out _ _ ⟨(zz BK284.out 0).trans rfl,(zz BK284.out 1).trans rfl,(zz BK285.out 0).trans rfl,(zz BK285.out 1).trans rfl⟩ (fun hHeld=>?_);clear hK K;refine norm_ (a':=?_) ?_ ?_;rotate_left
 ·
  show Act.put _ (some 15) _=_
  simp only [Act.put,zi,zj,zk,zG,zH]
  rfl
 refine one_ (i:=11) (N:=some 16) (bm_ 12 13) rfl rfl (one_of HT_.out jA) jB (fun K hK=>?_);refine goes_ Try.func61 jA rfl #[.slice Ao11 y288.length co11] (by rfl) rfl rfl jF ?_
 with_reducible refine (Fr.calls k  _ _ y288 t291 _ ?side1 ?side2 A5.out).mono ?_
 (case side1=>repeat (first|exact (yh HO290.out).2.2|(with_reducible refine Kd.C_alloc ?_ _)|(with_reducible refine Kd.C_drewN ?_ _)|(with_reducible refine Kd.C_drew ?_)))
 (case side2=>exact (yh HO290.out).2.1)
 rintro e w' ⟨rfl,⟨nd,rfl⟩⟩;refine ⟨_,rfl,?_⟩;refine hK.out _ _ ⟨(zz BK284.out 0).trans rfl,(zz BK284.out 1).trans rfl,(zz BK285.out 0).trans rfl,(zz BK285.out 1).trans rfl⟩ (fun hHeld=>?_);clear hK K;refine norm_ (a':=?_) ?_ ?_;rotate_left
 ·
  show Act.put _ (some 16) _=_
  simp only [Act.put,zi,zj,zk,zG,zH]
  rfl
 refine pure_ (i:=12) (N:=some 4) (v:=?_) (a':=?_) (bm_ 13 13) rfl rfl (any_of HT_.out jA) (fun _ _ _ h=>h) (Or.inl ⟨by rfl,?_⟩) ?_ ?_;rotate_left;exact jb;rotate_left;exact jc
 refine done_ (done_of HT_.out jA) ?_
 try go_wp2
 go_ret
 exact ⟨jG,jB6⟩

end Go.Proofs.Ytgifonogfgpjdaa.Q
end
section
namespace Go.Proofs.Ytgifonogfgpjdaa.Q
open Go.RowKit Go.Proofs.YtgifonogfgpjdaaW.PrintWords Go.Proofs.YtgifonogfgpjdaaW.PrintLast Go.Proofs.YtgifonogfgpjdaaW.PrintMore
attribute [local go_sem] max2_int min2_int max_two min_two max_three min_three max_four min_four max2_str min2_str str_geq str_gtr str_leq   -- for this text's walks alone
set_option linter.unusedVariables false
set_option linter.unusedSimpArgs false

mutual
def F3.j0 : Nat→Bool→List (S60)→Int→Option (Bool)
 | 0,_,_,_=>none
 | k+1,x19,x293000,x293001=>if x19=true then (some false) else (F3.l0 k (([] : List Int)) x293000 (x293000.length : Int) 0 x293000 x293001)
def F3.l0 : Nat→List Int→List (S60)→Int→Int→List (S60)→Int→Option (Bool)
 | 0,_,_,_,_,_,_=>none
 | k+1,x3,x22,x23,x24,x293000,x293001=>if x24<x23 then (if 0≤x24 then (if x24<(x22.length : Int) then ((F01.f ((rd_T60 x22 x24).f0) 1 (wrap64 (x293001 - 1))).bind fun t300=>(if t300=true then ((F05.f k x3 ((rd_T60 x22 x24).f0)).bind fun t301=>(if t301=true then (some false) else (if (((rd_T60 x22 x24).f1).length : Int) > 4 then (some false) else (if (((rd_T60 x22 x24).f1).length : Int)=0 then (if (x293000.length : Int) > 1 then (some false) else (if x3.length<17592186044416 then (F3.l0 k (x3 ++ [(rd_T60 x22 x24).f0]) x22 x23 (wrap64 (x24+1)) x293000 x293001) else (none))) else (if x3.length<17592186044416 then (F3.l0 k (x3 ++ [(rd_T60 x22 x24).f0]) x22 x23 (wrap64 (x24+1)) x293000 x293001) else (none)))))) else (some false))) else (none)) else (none)) else ((Fi.f k x293000 x293001).bind fun t308=>(F3.l1 k t308 t308 (t308.length : Int) 0))
def F3.l1 : Nat→List (S28)→List (S28)→Int→Int→Option (Bool)
 | 0,_,_,_,_=>none
 | k+1,x6,x67,x68,x69=>if x69<x68 then (if 0≤x69 then (if x69<(x67.length : Int) then ((F08.f ((rd_T28 x67 x69).f0) ((rd_T28 x67 x69).f1)).bind fun t313=>(if t313=true then (if x69 > 0 then (if 0≤(wrap64 (x69 - 1)) then (if (wrap64 (x69 - 1))<(x6.length : Int) then ((Fm.f k ((rd_T28 x6 (wrap64 (x69 - 1))).f0) ((rd_T28 x6 (wrap64 (x69 - 1))).f1) ((rd_T28 x67 x69).f0) ((rd_T28 x67 x69).f1)).bind fun t315=>(if t315 ≥ 0 then (some false) else (F3.l1 k x6 x67 x68 (wrap64 (x69+1))))) else (none)) else (none)) else (F3.l1 k x6 x67 x68 (wrap64 (x69+1)))) else (some false))) else (none)) else (none)) else (some true)
end
def F3.f (k : Nat) (l0_0 : List (S60)) (a0_1 : Int) : Option (Bool):=(F01.f (l0_0.length : Int) 1 60).bind fun t293=>(if t293=true then ((F01.f a0_1 2 100000).bind fun t294=>(F3.j0 k (!t294) l0_0 a0_1)) else (F3.j0 k true l0_0 a0_1))
theorem F3.mono_l : ∀ k,(∀ y0 y1 y2,LeO (F3.j0 k y0 y1 y2) (F3.j0 (k+1) y0 y1 y2))∧(∀ y0 y1 y2 y3 y4 y5,LeO (F3.l0 k y0 y1 y2 y3 y4 y5) (F3.l0 (k+1) y0 y1 y2 y3 y4 y5))∧(∀ y0 y1 y2 y3,LeO (F3.l1 k y0 y1 y2 y3) (F3.l1 (k+1) y0 y1 y2 y3))
 | 0=>⟨fun _ _ _ r h=>by simp [F3.j0] at h,fun _ _ _ _ _ _ r h=>by simp [F3.l0] at h,fun _ _ _ _ r h=>by simp [F3.l1] at h⟩
 | k+1=>by
  obtain ⟨ih0,ih1,ih2⟩:=F3.mono_l k;refine ⟨?_,?_,?_⟩
  ·
   intro y0 y1 y2
   unfold F3.j0
   repeat' first|(with_reducible first|exact ih0 _ _ _|exact ih1 _ _ _ _ _ _|exact ih2 _ _ _ _|exact Fi.mono _ _ _|exact F05.mono _ _ _|exact Fm.mono _ _ _ _ _|exact zQ _|exact zN _|refine zP ?_ ?_|refine zO ?_ (fun _=>?_))|refine zP ?_ ?_|refine zO ?_ (fun _=>?_)
  ·
   intro y0 y1 y2 y3 y4 y5
   unfold F3.l0
   repeat' first|(with_reducible first|exact ih0 _ _ _|exact ih1 _ _ _ _ _ _|exact ih2 _ _ _ _|exact Fi.mono _ _ _|exact F05.mono _ _ _|exact Fm.mono _ _ _ _ _|exact zQ _|exact zN _|refine zP ?_ ?_|refine zO ?_ (fun _=>?_))|refine zP ?_ ?_|refine zO ?_ (fun _=>?_)
  intro y0 y1 y2 y3;unfold F3.l1
  repeat' first|(with_reducible first|exact ih0 _ _ _|exact ih1 _ _ _ _ _ _|exact ih2 _ _ _ _|exact Fi.mono _ _ _|exact F05.mono _ _ _|exact Fm.mono _ _ _ _ _|exact zQ _|exact zN _|refine zP ?_ ?_|refine zO ?_ (fun _=>?_))|refine zP ?_ ?_|refine zO ?_ (fun _=>?_)
theorem F3.mono : ∀ a0 a1 k,LeO (F3.f k a0 a1) (F3.f (k+1) a0 a1):=by
 intro a0 a1 k;obtain ⟨ih0,ih1,ih2⟩:=F3.mono_l k;unfold F3.f
 repeat' first|(with_reducible first|exact ih0 _ _ _|exact ih1 _ _ _ _ _ _|exact ih2 _ _ _ _|exact Fi.mono _ _ _|exact F05.mono _ _ _|exact Fm.mono _ _ _ _ _|exact zQ _|exact zN _|refine zP ?_ ?_|refine zO ?_ (fun _=>?_))|refine zP ?_ ?_|refine zO ?_ (fun _=>?_)
def F3.T15 : Bool×List (List Nat×List Nat):=(true,[([],[]),([0],[0]),([1],[1]),([2,1],[2]),([3],[3]),([4,3],[3,4]),([5,3,3],[3,5]),([6],[6]),([6],[6]),([8,6],[6,8]),([7,9,6],[6,7,9]),([10,6],[6,10]),([6],[6]),([11,12,6,6],[6,11,12]),([13,6],[6,13]),([6,14,3],[3,6,14]),([3,15],[3,15])])
def F3.B15 : List Nat:=[0,1,3,7,15,31,63,127,127,383,1023,2047,127,8191,16383,32767,65535]
theorem F3.tab15 : rtab .any (opsOf Try.f20 15)=F3.T15:=by kernel_rfl
theorem F3.bits15 : waitsOk F3.T15.2 F3.B15=true:=by kernel_rfl
set_option maxHeartbeats 8000000 in
set_option maxRecDepth 100000 in
theorem F3.calls (k : Nat) (A0_0 : Option Addr) (c0_0 : Nat) (l0_0 : List (S60)) (a0_1 : Int) (r : Bool) (w : World) (hr0_0 : Kd.C k60 w A0_0 l0_0.length l0_0) (hc0_0 : l0_0.length≤c0_0) (h : F3.f k l0_0 a0_1=some r) :
  Calls Try.prog 20 #[.agg #[.slice A0_0 l0_0.length c0_0,.int .i64 a0_1]] w fun e w' => e = .returned (.bool r)∧Below w.heap.size w w':=by
 have hu25:=Try.underlying25;have hu60:=Try.underlying60;have hu28:=Try.underlying28;have HR0_0:=zh hr0_0;have HC0_0:=zh hc0_0;clear hr0_0 hc0_0;have HB:=zh (Below.refl w.heap.size w);have H : ((F01.f (l0_0.length : Int) 1 60).bind fun t293=>(if t293=true then ((F01.f a0_1 2 100000).bind fun t294=>(F3.j0 k (!t294) l0_0 a0_1)) else (F3.j0 k true l0_0 a0_1)))=some r:=h;clear h;have HC2:=zh H;clear H
 go_enter Try.func20,Try.ntmps20
 go_upto_region 1 with (first|((with_reducible refine zK (N:=1) rfl ?_);(try (refine yy (by rfl) ?_;dsimp only));refine zI ?hg (N:=1) ?hd (cs:=#[.slice A0_0 l0_0.length c0_0,.int .i64 a0_1]) (t:=25) ?hr ?_;(case hd=>rfl);(case hg=>rfl);(case hr=>go_simp <;> rfl);intro gb292 hg w3 hbox hb;have BK292:=zh (hbox);have hH_:=cH jH hb hg;have GW292:=zh hH_.1;have GE292:=GW292;replace HB:=zh hH_.2;clear hb hbox hg hH_))
 (try simp only [Act.put,zi,zj,zk])
 go_cut [19] (fun v19 wc => ∃ (kq : Nat) (x19_1 : Bool),v19 = .bool x19_1∧Aside0 (F3.j0 kq x19_1 l0_0 a0_1=some r)∧Aside0 (kq≤k)∧Aside0 (wc.heap[gb292]? = some (.cells #[(.slice A0_0 l0_0.length c0_0),.int .i64 a0_1] 25 (0,0)))∧Aside0 (Below w.heap.size w wc))
 case first =>
  have H:=HC2.out;clear HC2;replace H:=zT.mp H;obtain ⟨t293,A40,H⟩:=H;have A4:=zh A40;clear A40
  by_cases c5 : t293=true
  ·
   subst c5
   rw [if_pos rfl] at H;replace H:=zT.mp H;obtain ⟨t294,A60,H⟩:=H;have A6:=zh A60;clear A60;have H':=zh H;clear H;obtain ⟨hcz7_0,hcz7_1,hfz7_0,hfz7_1⟩:=cB2 BK292.out
   go_wp2_with (first|((with_reducible refine zJ (f:=40) rfl ?_);refine yj (some 12) rfl rfl Try.func40 jA rfl #[.int .i64 (l0_0.length : Int),.int .i64 1,.int .i64 60] rfl jF ?_;(with_reducible refine (F01.calls  (l0_0.length : Int) 1 60 true _ A4.out).mono ?_);rintro e w' ⟨rfl,⟨nd,rfl⟩⟩;refine ⟨_,rfl,?_⟩)|(go_at_call 40;(with_reducible refine (F01.calls  a0_1 2 100000 t294 _ A6.out).mono ?_);rintro e w' ⟨rfl,⟨nd,rfl⟩⟩))
   go_meet
   case rel=>exact ⟨_,(!t294),jE,H',⟨jAI⟩,⟨jL⟩,⟨jX⟩⟩
  replace c5:=yb.mpr c5;subst c5;rw [if_neg (show ¬ (false=true) by decide)] at H;have H':=zh H;clear H;obtain ⟨hcz8_0,hcz8_1,hfz8_0,hfz8_1⟩:=cB2 BK292.out
  go_wp2_with (first|((with_reducible refine zJ (f:=40) rfl ?_);refine yj (some 12) rfl rfl Try.func40 jA rfl #[.int .i64 (l0_0.length : Int),.int .i64 1,.int .i64 60] rfl jF ?_;(with_reducible refine (F01.calls  (l0_0.length : Int) 1 60 false _ A4.out).mono ?_);rintro e w' ⟨rfl,⟨nd,rfl⟩⟩;refine ⟨_,rfl,?_⟩))
  go_meet
  case rel=>exact ⟨_,(true),jE,H',⟨jAI⟩,⟨jL⟩,⟨jX⟩⟩
 case rest =>
  clear HC2
  try clear c2
  try clear p2
  try clear c4 c5
  try clear hcz7_0 hcz7_1
  try clear hcz8_0 hcz8_1
  try clear hfz7_0 hfz7_1
  try clear hfz8_0 hfz8_1
  obtain ⟨kq,x19_1,rfl,HA,HJ1,BK292,HB⟩:=hcut
  cases kq with
  | zero=>exact absurd HA.out (by simp [F3.j0])
  | succ kj1 =>
   have H:=HA.out;clear HA;simp only [F3.j0] at H
   by_cases c9 : x19_1=true
   ·
    subst c9
    rw [if_pos rfl] at H;obtain rfl:=zU H
    go_wp2
    go_ret
    exact ⟨jG,jX⟩
   replace c9:=yb.mpr c9;subst c9;rw [if_neg (show ¬ (false=true) by decide)] at H;obtain ⟨y295,hy295⟩ : ∃ y_ : List Int,y_=(([] : List Int)):=⟨_,rfl⟩;replace H : (F3.l0 kj1 y295 l0_0 (l0_0.length : Int) 0 l0_0 a0_1)=some r:=by first|(rw [hy295];with_reducible exact H)|(have H2_:=(Option.bind_some _ _).symm.trans H;rw [hy295];with_reducible exact H2_)|(have H2_:=(Option.bind_some _ _).symm.trans H;with_reducible exact H2_)|with_reducible exact H|(rw [hy295];exact H)|exact H
   have Ny295:=zh hy295;clear hy295;have H':=zh H;clear H
   go_wp2_with (first|((with_reducible refine zK (N:=20) rfl ?_);(try (refine yy (by rfl) ?_;dsimp only));refine Kd.R_lit (Kd.int .i64) _ 3 ?hg (N:=20) ?hd (xs:=([] : List Int)) (inner:=[]) (ok:=fun _=>True) (okp:=fun _=>True) ?hr ?hp (fun _ hk=>hk) trivial (Below.refl _ _) (ye _) (by simp) ?_;(case hd=>rfl);(case hg=>rfl);(case hr=>go_simp <;> rfl);(case hp=>exact (Reps.none _ _));intro v296 w10 ho11 hb hg_ hnew_;clear hg_ hnew_;(first|rw [← Ny295.out] at ho11|(simp only [Int.reduceToNat] at ho11;rw [← Ny295.out] at ho11));have HO297:=zh (yx ho11 (zB jX));replace BK292:=zh (cD BK292.out jL hb);replace HB:=zh (zC jX hb);clear hb ho11;obtain ⟨hcz12_0,hcz12_1,hfz12_0,hfz12_1⟩:=cB2 BK292.out))
   go_loopg [3,24] kj1 (fun kq v3 v24 w' => ∃ (x3_2 : List Int) (x24_2 : Int),v24 = .int .i64 x24_2∧Aside0 (F3.l0 kq x3_2 l0_0 (l0_0.length : Int) x24_2 l0_0 a0_1=some r)∧Aside0 (kq≤kj1)∧Aside0 (Kd.R (Kd.int .i64) 3 w' w.heap.size (fun _=>True) v3 x3_2)∧Aside0 (w'.heap[gb292]? = some (.cells #[(.slice A0_0 l0_0.length c0_0),.int .i64 a0_1] 25 (0,0)))∧Aside0 (Below w.heap.size w w'))
   case atStart=>exact ⟨(y295),(0),jE,H',⟨ye _⟩,⟨by (with_reducible repeat (first|apply zm|apply zn|apply zo));exact HO297.out⟩,⟨jL⟩,⟨jX⟩⟩
   case round =>
    clear H'
    try clear c2
    try clear p2
    try clear c4 c5 c9
    try clear hcz12_0 hcz12_1
    try clear hcz7_0 hcz7_1
    try clear hcz8_0 hcz8_1
    try clear hfz12_0 hfz12_1
    try clear hfz7_0 hfz7_1
    try clear hfz8_0 hfz8_1
    try clear p2
    obtain ⟨x3_2,x24_2,rfl,HA,HK2,HO_3,BK292,HB⟩:=hrel
    cases gk with
    | zero=>exact absurd HA.out (by simp [F3.l0])
    | succ k2 =>
     have H:=HA.out;clear HA;simp only [F3.l0] at H
     by_cases c13 : x24_2<(l0_0.length : Int)
     ·
      rw [if_pos c13] at H
      have c13b0 : decide (x24_2<(l0_0.length : Int))=true:=decide_eq_true c13;clear c13
      by_cases c14 : 0≤x24_2
      ·
       rw [if_pos c14] at H
       have c14b0 : decide (0≤x24_2)=true:=decide_eq_true c14;clear c14
       by_cases c15 : x24_2<(l0_0.length : Int)
       ·
        rw [if_pos c15] at H
        have c15b0 : decide (x24_2<(l0_0.length : Int))=true:=decide_eq_true c15;clear c15;replace H:=zT.mp H;obtain ⟨t300,A160,H⟩:=H;have A16:=zh A160;clear A160
        by_cases c17 : t300=true
        ·
         subst c17
         rw [if_pos rfl] at H;replace H:=zT.mp H;obtain ⟨t301,A180,H⟩:=H;have A18:=zh A180;clear A180
         by_cases c19 : t301=true
         ·
          subst c19
          rw [if_pos rfl] at H;obtain rfl:=zU H;have p298 : 0≤(x24_2 : Int):=zy jC;have q298 : x24_2<(l0_0.length : Int):=zy jC;obtain ⟨ad298,A298_1,c298_1,e298,hx298_0,hx298_1,hl298_1,hi298_1⟩:=at_T60 HR0_0.out x24_2 p298 q298
          cases e298
          replace hx298_0:=(HB.out.cell (zl w _ hx298_0)).trans hx298_0;replace hx298_1:=(HB.out.cell (zl w _ hx298_1)).trans hx298_1;have HR298_1:=zh hi298_1;have HC298_1:=zh hl298_1;clear hi298_1 hl298_1;replace p298:=eq_true p298;replace q298:=eq_true q298
          go_wp2_with (first|((with_reducible refine zK (N:=5) rfl ?_);(try (refine yy (by rfl) ?_;dsimp only));refine zI ?hg (N:=5) ?hd (cs:=#[.int .i64 0,.slice none 0 0]) (t:=60) ?hr ?_;(case hd=>rfl);(case hg=>rfl);(case hr=>go_simp <;> rfl);intro gb299 hg w20 hbox hb;replace HO_3:=zh (yg jAS hb);have BK299:=zh (hbox);have hH_:=cH jX hb hg;have GW299:=zh hH_.1;have GE299:=GW299;replace HB:=zh hH_.2;have NB292_299:=zh ((jA1 : gb292≠gb299));have NB299_292:=zh NB292_299.out.symm;replace BK292:=zh (cD BK292.out jL hb);clear hb hbox hg hH_;have hnb21:=NB299_292.out;have hnc21:=NB292_299.out;obtain ⟨hcz22_0,hcz22_1,hfz22_0,hfz22_1⟩:=cB2 BK299.out;obtain ⟨hcz23_0,hcz23_1,hfz23_0,hfz23_1⟩:=cB2 BK292.out)|((with_reducible refine zJ (f:=40) rfl ?_);refine yj (some 33) rfl rfl Try.func40 jA rfl #[.int .i64 ((rd_T60 l0_0 x24_2).f0),.int .i64 1,.int .i64 (wrap64 (a0_1 - 1))] rfl jF ?_;(with_reducible refine (F01.calls  ((rd_T60 l0_0 x24_2).f0) 1 (wrap64 (a0_1 - 1)) true _ A16.out).mono ?_);rintro e w' ⟨rfl,⟨nd,rfl⟩⟩;refine ⟨_,rfl,?_⟩;obtain ⟨Ao24,co24,eo24⟩:=yk HO_3.out;subst eo24)|(go_at_call 41;(with_reducible refine (F05.calls k2  _ _ x3_2 ((rd_T60 l0_0 x24_2).f0) true _ ?side1 ?side2 A18.out).mono ?_);(case side1=>refine (yh (e:=3) (base:=w.heap.size) (ok:=fun k_=>True) (n:=x3_2.length) (c:=co24) ?_).2.2;exact jBL);(case side2=>exact (yh HO_3.out).2.1);rintro e w' ⟨rfl,⟨nd,rfl⟩⟩))
          go_ret
          exact ⟨jG,jAJ⟩
         replace c19:=yb.mpr c19;subst c19;rw [if_neg (show ¬ (false=true) by decide)] at H
         by_cases c25 : (((rd_T60 l0_0 x24_2).f1).length : Int) > 4
         ·
          rw [if_pos c25] at H
          have c25b0 : decide (4<(((rd_T60 l0_0 x24_2).f1).length : Int))=true:=decide_eq_true c25;have c25b1 : decide (4<((rd_T60 l0_0 x24_2).f1).length)=true:=decide_eq_true jD;clear c25;obtain rfl:=zU H;have p298 : 0≤(x24_2 : Int):=zy jC;have q298 : x24_2<(l0_0.length : Int):=zy jC;obtain ⟨ad298,A298_1,c298_1,e298,hx298_0,hx298_1,hl298_1,hi298_1⟩:=at_T60 HR0_0.out x24_2 p298 q298
          cases e298
          replace hx298_0:=(HB.out.cell (zl w _ hx298_0)).trans hx298_0;replace hx298_1:=(HB.out.cell (zl w _ hx298_1)).trans hx298_1;have HR298_1:=zh hi298_1;have HC298_1:=zh hl298_1;clear hi298_1 hl298_1;replace p298:=eq_true p298;replace q298:=eq_true q298
          go_wp2_with (first|((with_reducible refine zK (N:=5) rfl ?_);(try (refine yy (by rfl) ?_;dsimp only));refine zI ?hg (N:=5) ?hd (cs:=#[.int .i64 0,.slice none 0 0]) (t:=60) ?hr ?_;(case hd=>rfl);(case hg=>rfl);(case hr=>go_simp <;> rfl);intro gb299 hg w26 hbox hb;replace HO_3:=zh (yg jAS hb);have BK299:=zh (hbox);have hH_:=cH jX hb hg;have GW299:=zh hH_.1;have GE299:=GW299;replace HB:=zh hH_.2;have NB292_299:=zh ((jA1 : gb292≠gb299));have NB299_292:=zh NB292_299.out.symm;replace BK292:=zh (cD BK292.out jL hb);clear hb hbox hg hH_;have hnb27:=NB299_292.out;have hnc27:=NB292_299.out;obtain ⟨hcz28_0,hcz28_1,hfz28_0,hfz28_1⟩:=cB2 BK299.out;obtain ⟨hcz29_0,hcz29_1,hfz29_0,hfz29_1⟩:=cB2 BK292.out)|((with_reducible refine zJ (f:=40) rfl ?_);refine yj (some 33) rfl rfl Try.func40 jA rfl #[.int .i64 ((rd_T60 l0_0 x24_2).f0),.int .i64 1,.int .i64 (wrap64 (a0_1 - 1))] rfl jF ?_;(with_reducible refine (F01.calls  ((rd_T60 l0_0 x24_2).f0) 1 (wrap64 (a0_1 - 1)) true _ A16.out).mono ?_);rintro e w' ⟨rfl,⟨nd,rfl⟩⟩;refine ⟨_,rfl,?_⟩;obtain ⟨Ao30,co30,eo30⟩:=yk HO_3.out;subst eo30)|(go_at_call 41;(with_reducible refine (F05.calls k2  _ _ x3_2 ((rd_T60 l0_0 x24_2).f0) false _ ?side1 ?side2 A18.out).mono ?_);(case side1=>refine (yh (e:=3) (base:=w.heap.size) (ok:=fun k_=>True) (n:=x3_2.length) (c:=co30) ?_).2.2;exact jBL);(case side2=>exact (yh HO_3.out).2.1);rintro e w' ⟨rfl,⟨nd,rfl⟩⟩))
          go_ret
          exact ⟨jG,jAJ⟩
         rw [if_neg c25] at H;have c25b0 : decide (4<(((rd_T60 l0_0 x24_2).f1).length : Int))=false:=decide_eq_false c25;have c25b1 : decide (4<((rd_T60 l0_0 x24_2).f1).length)=false:=decide_eq_false jD;clear c25
         by_cases c31 : (((rd_T60 l0_0 x24_2).f1).length : Int)=0
         ·
          rw [if_pos c31] at H
          have c31b0 : ((((rd_T60 l0_0 x24_2).f1).length : Int) == 0)=true:=ya.mpr c31;have c31b1 : ((((rd_T60 l0_0 x24_2).f1).length : Int) != 0)=false:=zX.mpr c31;clear c31
          by_cases c32 : (l0_0.length : Int) > 1
          ·
           rw [if_pos c32] at H
           have c32b0 : decide (1<(l0_0.length : Int))=true:=decide_eq_true c32;have c32b1 : decide (1<l0_0.length)=true:=decide_eq_true jD;clear c32;obtain rfl:=zU H;have p298 : 0≤(x24_2 : Int):=zy jC;have q298 : x24_2<(l0_0.length : Int):=zy jC;obtain ⟨ad298,A298_1,c298_1,e298,hx298_0,hx298_1,hl298_1,hi298_1⟩:=at_T60 HR0_0.out x24_2 p298 q298
           cases e298
           replace hx298_0:=(HB.out.cell (zl w _ hx298_0)).trans hx298_0;replace hx298_1:=(HB.out.cell (zl w _ hx298_1)).trans hx298_1;have HR298_1:=zh hi298_1;have HC298_1:=zh hl298_1;clear hi298_1 hl298_1;replace p298:=eq_true p298;replace q298:=eq_true q298
           go_wp2_with (first|((with_reducible refine zK (N:=5) rfl ?_);(try (refine yy (by rfl) ?_;dsimp only));refine zI ?hg (N:=5) ?hd (cs:=#[.int .i64 0,.slice none 0 0]) (t:=60) ?hr ?_;(case hd=>rfl);(case hg=>rfl);(case hr=>go_simp <;> rfl);intro gb299 hg w33 hbox hb;replace HO_3:=zh (yg jAS hb);have BK299:=zh (hbox);have hH_:=cH jX hb hg;have GW299:=zh hH_.1;have GE299:=GW299;replace HB:=zh hH_.2;have NB292_299:=zh ((jA1 : gb292≠gb299));have NB299_292:=zh NB292_299.out.symm;replace BK292:=zh (cD BK292.out jL hb);clear hb hbox hg hH_;have hnb34:=NB299_292.out;have hnc34:=NB292_299.out;obtain ⟨hcz35_0,hcz35_1,hfz35_0,hfz35_1⟩:=cB2 BK299.out;obtain ⟨hcz36_0,hcz36_1,hfz36_0,hfz36_1⟩:=cB2 BK292.out)|((with_reducible refine zJ (f:=40) rfl ?_);refine yj (some 33) rfl rfl Try.func40 jA rfl #[.int .i64 ((rd_T60 l0_0 x24_2).f0),.int .i64 1,.int .i64 (wrap64 (a0_1 - 1))] rfl jF ?_;(with_reducible refine (F01.calls  ((rd_T60 l0_0 x24_2).f0) 1 (wrap64 (a0_1 - 1)) true _ A16.out).mono ?_);rintro e w' ⟨rfl,⟨nd,rfl⟩⟩;refine ⟨_,rfl,?_⟩;obtain ⟨Ao37,co37,eo37⟩:=yk HO_3.out;subst eo37)|(go_at_call 41;(with_reducible refine (F05.calls k2  _ _ x3_2 ((rd_T60 l0_0 x24_2).f0) false _ ?side1 ?side2 A18.out).mono ?_);(case side1=>refine (yh (e:=3) (base:=w.heap.size) (ok:=fun k_=>True) (n:=x3_2.length) (c:=co37) ?_).2.2;exact jBL);(case side2=>exact (yh HO_3.out).2.1);rintro e w' ⟨rfl,⟨nd,rfl⟩⟩))
           go_ret
           exact ⟨jG,jAJ⟩
          rw [if_neg c32] at H;have c32b0 : decide (1<(l0_0.length : Int))=false:=decide_eq_false c32;have c32b1 : decide (1<l0_0.length)=false:=decide_eq_false jD;clear c32
          by_cases c38 : x3_2.length<17592186044416
          ·
           rw [if_pos c38] at H
           have LMc38:=zh c38;clear c38;obtain ⟨y302,hy302⟩ : ∃ y_ : List Int,y_=(x3_2 ++ [(rd_T60 l0_0 x24_2).f0]):=⟨_,rfl⟩;replace H : (F3.l0 k2 y302 l0_0 (l0_0.length : Int) (wrap64 (x24_2+1)) l0_0 a0_1)=some r:=by first|(rw [hy302];with_reducible exact H)|(have H2_:=(Option.bind_some _ _).symm.trans H;rw [hy302];with_reducible exact H2_)|(have H2_:=(Option.bind_some _ _).symm.trans H;with_reducible exact H2_)|with_reducible exact H|(rw [hy302];exact H)|exact H
           have Ny302:=zh hy302;clear hy302;have H':=zh H;clear H;have p298 : 0≤(x24_2 : Int):=zy jC;have q298 : x24_2<(l0_0.length : Int):=zy jC;obtain ⟨ad298,A298_1,c298_1,e298,hx298_0,hx298_1,hl298_1,hi298_1⟩:=at_T60 HR0_0.out x24_2 p298 q298
           cases e298
           replace hx298_0:=(HB.out.cell (zl w _ hx298_0)).trans hx298_0;replace hx298_1:=(HB.out.cell (zl w _ hx298_1)).trans hx298_1;have HR298_1:=zh hi298_1;have HC298_1:=zh hl298_1;clear hi298_1 hl298_1;replace p298:=eq_true p298;replace q298:=eq_true q298
           go_wp2_with (first|((with_reducible refine zK (N:=5) rfl ?_);(try (refine yy (by rfl) ?_;dsimp only));refine zI ?hg (N:=5) ?hd (cs:=#[.int .i64 0,.slice none 0 0]) (t:=60) ?hr ?_;(case hd=>rfl);(case hg=>rfl);(case hr=>go_simp <;> rfl);intro gb299 hg w39 hbox hb;replace HO_3:=zh (yg jAS hb);have BK299:=zh (hbox);have hH_:=cH jX hb hg;have GW299:=zh hH_.1;have GE299:=GW299;replace HB:=zh hH_.2;have NB292_299:=zh ((jA1 : gb292≠gb299));have NB299_292:=zh NB292_299.out.symm;replace BK292:=zh (cD BK292.out jL hb);clear hb hbox hg hH_;have hnb40:=NB299_292.out;have hnc40:=NB292_299.out;obtain ⟨hcz41_0,hcz41_1,hfz41_0,hfz41_1⟩:=cB2 BK299.out;obtain ⟨hcz42_0,hcz42_1,hfz42_0,hfz42_1⟩:=cB2 BK292.out)|((with_reducible refine zJ (f:=40) rfl ?_);refine yj (some 33) rfl rfl Try.func40 jA rfl #[.int .i64 ((rd_T60 l0_0 x24_2).f0),.int .i64 1,.int .i64 (wrap64 (a0_1 - 1))] rfl jF ?_;(with_reducible refine (F01.calls  ((rd_T60 l0_0 x24_2).f0) 1 (wrap64 (a0_1 - 1)) true _ A16.out).mono ?_);rintro e w' ⟨rfl,⟨nd,rfl⟩⟩;refine ⟨_,rfl,?_⟩;obtain ⟨Ao43,co43,eo43⟩:=yk HO_3.out;subst eo43)|(go_at_call 41;(with_reducible refine (F05.calls k2  _ _ x3_2 ((rd_T60 l0_0 x24_2).f0) false _ ?side1 ?side2 A18.out).mono ?_);(case side1=>refine (yh (e:=3) (base:=w.heap.size) (ok:=fun k_=>True) (n:=x3_2.length) (c:=co43) ?_).2.2;exact jBL);(case side2=>exact (yh HO_3.out).2.1);rintro e w' ⟨rfl,⟨nd,rfl⟩⟩)|((with_reducible refine yA (b:=.append) (xs:=#[.tmp 59,.tmp 62]) rfl ?_);(try (refine yy (by rfl) ?_;dsimp only));at_builtin;refine Kd.R_append (Kd.int .i64) (w0:=w) w.heap.size rfl (.tmp 59) (.tmp 62) 34 3 (.int .i64 0) 8 rfl Try.underlying34 info3 rfl jB jD (.slice Ao43 x3_2.length co43) x3_2 ((rd_T60 l0_0 x24_2).f0) [.int .i64 ((rd_T60 l0_0 x24_2).f0)] (fun _=>True) (fun _=>False) rfl jAB ?aP (fun _ hk=>hk.elim) ?aF ?aO ?aB ?aS ?aL ?_;(case aP=>exact rfl);(case aB=>exact jAJ);(case aF=>exact (fun _ _=>trivial));(case aO=>exact jCu);(case aS=>exact (zB jAJ));(case aL=>have:=LMc38.out;omega);intro v303 w44 ho hb hg hat;rw [← Ny302.out] at ho;replace BK292:=zh (yv (g:=gb292) (o:=.cells #[.slice (some ad298) l0_0.length c0_0,.int .i64 a0_1] 25 (0,0)) jCv hg (Kd.R_ne HO_3.out BK292.out jB));replace BK299:=zh (yv (g:=gb299) (o:=.cells #[.int .i64 ((rd_T60 l0_0 x24_2).f0),.slice A298_1 ((rd_T60 l0_0 x24_2).f1).length c298_1] 60 (0,0)) jCw hg (Kd.R_ne HO_3.out BK299.out jB));replace HB:=zh (hb);have HO304:=zh (ho);clear HO_3 ho hb hg hat))
           go_roundg k2
           case measure=>have:=HJ1.out;have:=HK2.out;omega
           case rel=>exact ⟨(y302),(wrap64 (x24_2+1)),jE,H',⟨by have:=HJ1.out;have:=HK2.out;omega⟩,⟨by (with_reducible repeat (first|apply zm|apply zn|apply zo));exact HO304.out⟩,⟨jL⟩,⟨jAJ⟩⟩
          rw [if_neg c38] at H;exact absurd H (by simp)
         rw [if_neg c31] at H;have c31b0 : ((((rd_T60 l0_0 x24_2).f1).length : Int) == 0)=false:=zY.mpr c31;have c31b1 : ((((rd_T60 l0_0 x24_2).f1).length : Int) != 0)=true:=zZ.mpr c31;have c31b2 : ¬ (((rd_T60 l0_0 x24_2).f1)=[]):=fun h_=>c31 (by rw [h_];rfl)
         by_cases c45 : x3_2.length<17592186044416
         ·
          rw [if_pos c45] at H
          have LMc45:=zh c45;clear c45;obtain ⟨y305,hy305⟩ : ∃ y_ : List Int,y_=(x3_2 ++ [(rd_T60 l0_0 x24_2).f0]):=⟨_,rfl⟩;replace H : (F3.l0 k2 y305 l0_0 (l0_0.length : Int) (wrap64 (x24_2+1)) l0_0 a0_1)=some r:=by first|(rw [hy305];with_reducible exact H)|(have H2_:=(Option.bind_some _ _).symm.trans H;rw [hy305];with_reducible exact H2_)|(have H2_:=(Option.bind_some _ _).symm.trans H;with_reducible exact H2_)|with_reducible exact H|(rw [hy305];exact H)|exact H
          have Ny305:=zh hy305;clear hy305;have H':=zh H;clear H;have p298 : 0≤(x24_2 : Int):=zy jC;have q298 : x24_2<(l0_0.length : Int):=zy jC;obtain ⟨ad298,A298_1,c298_1,e298,hx298_0,hx298_1,hl298_1,hi298_1⟩:=at_T60 HR0_0.out x24_2 p298 q298
          cases e298
          replace hx298_0:=(HB.out.cell (zl w _ hx298_0)).trans hx298_0;replace hx298_1:=(HB.out.cell (zl w _ hx298_1)).trans hx298_1;have HR298_1:=zh hi298_1;have HC298_1:=zh hl298_1;clear hi298_1 hl298_1;replace p298:=eq_true p298;replace q298:=eq_true q298
          go_wp2_with (first|((with_reducible refine zK (N:=5) rfl ?_);(try (refine yy (by rfl) ?_;dsimp only));refine zI ?hg (N:=5) ?hd (cs:=#[.int .i64 0,.slice none 0 0]) (t:=60) ?hr ?_;(case hd=>rfl);(case hg=>rfl);(case hr=>go_simp <;> rfl);intro gb299 hg w46 hbox hb;replace HO_3:=zh (yg jAS hb);have BK299:=zh (hbox);have hH_:=cH jX hb hg;have GW299:=zh hH_.1;have GE299:=GW299;replace HB:=zh hH_.2;have NB292_299:=zh ((jA1 : gb292≠gb299));have NB299_292:=zh NB292_299.out.symm;replace BK292:=zh (cD BK292.out jL hb);clear hb hbox hg hH_;have hnb47:=NB299_292.out;have hnc47:=NB292_299.out;obtain ⟨hcz48_0,hcz48_1,hfz48_0,hfz48_1⟩:=cB2 BK299.out;obtain ⟨hcz49_0,hcz49_1,hfz49_0,hfz49_1⟩:=cB2 BK292.out)|((with_reducible refine zJ (f:=40) rfl ?_);refine yj (some 33) rfl rfl Try.func40 jA rfl #[.int .i64 ((rd_T60 l0_0 x24_2).f0),.int .i64 1,.int .i64 (wrap64 (a0_1 - 1))] rfl jF ?_;(with_reducible refine (F01.calls  ((rd_T60 l0_0 x24_2).f0) 1 (wrap64 (a0_1 - 1)) true _ A16.out).mono ?_);rintro e w' ⟨rfl,⟨nd,rfl⟩⟩;refine ⟨_,rfl,?_⟩;obtain ⟨Ao50,co50,eo50⟩:=yk HO_3.out;subst eo50)|(go_at_call 41;(with_reducible refine (F05.calls k2  _ _ x3_2 ((rd_T60 l0_0 x24_2).f0) false _ ?side1 ?side2 A18.out).mono ?_);(case side1=>refine (yh (e:=3) (base:=w.heap.size) (ok:=fun k_=>True) (n:=x3_2.length) (c:=co50) ?_).2.2;exact jBL);(case side2=>exact (yh HO_3.out).2.1);rintro e w' ⟨rfl,⟨nd,rfl⟩⟩)|((with_reducible refine yA (b:=.append) (xs:=#[.tmp 59,.tmp 62]) rfl ?_);(try (refine yy (by rfl) ?_;dsimp only));at_builtin;refine Kd.R_append (Kd.int .i64) (w0:=w) w.heap.size rfl (.tmp 59) (.tmp 62) 34 3 (.int .i64 0) 8 rfl Try.underlying34 info3 rfl jB jD (.slice Ao50 x3_2.length co50) x3_2 ((rd_T60 l0_0 x24_2).f0) [.int .i64 ((rd_T60 l0_0 x24_2).f0)] (fun _=>True) (fun _=>False) rfl jAB ?aP (fun _ hk=>hk.elim) ?aF ?aO ?aB ?aS ?aL ?_;(case aP=>exact rfl);(case aB=>exact jAJ);(case aF=>exact (fun _ _=>trivial));(case aO=>exact jCu);(case aS=>exact (zB jAJ));(case aL=>have:=LMc45.out;omega);intro v306 w51 ho hb hg hat;rw [← Ny305.out] at ho;replace BK292:=zh (yv (g:=gb292) (o:=.cells #[.slice (some ad298) l0_0.length c0_0,.int .i64 a0_1] 25 (0,0)) jCv hg (Kd.R_ne HO_3.out BK292.out jB));replace BK299:=zh (yv (g:=gb299) (o:=.cells #[.int .i64 ((rd_T60 l0_0 x24_2).f0),.slice A298_1 ((rd_T60 l0_0 x24_2).f1).length c298_1] 60 (0,0)) jCw hg (Kd.R_ne HO_3.out BK299.out jB));replace HB:=zh (hb);have HO307:=zh (ho);clear HO_3 ho hb hg hat))
          go_roundg k2
          case measure=>have:=HJ1.out;have:=HK2.out;omega
          case rel=>exact ⟨(y305),(wrap64 (x24_2+1)),jE,H',⟨by have:=HJ1.out;have:=HK2.out;omega⟩,⟨by (with_reducible repeat (first|apply zm|apply zn|apply zo));exact HO307.out⟩,⟨jL⟩,⟨jAJ⟩⟩
         rw [if_neg c45] at H;exact absurd H (by simp)
        replace c17:=yb.mpr c17;subst c17;rw [if_neg (show ¬ (false=true) by decide)] at H;obtain rfl:=zU H;have p298 : 0≤(x24_2 : Int):=zy jC;have q298 : x24_2<(l0_0.length : Int):=zy jC;obtain ⟨ad298,A298_1,c298_1,e298,hx298_0,hx298_1,hl298_1,hi298_1⟩:=at_T60 HR0_0.out x24_2 p298 q298
        cases e298
        replace hx298_0:=(HB.out.cell (zl w _ hx298_0)).trans hx298_0;replace hx298_1:=(HB.out.cell (zl w _ hx298_1)).trans hx298_1;have HR298_1:=zh hi298_1;have HC298_1:=zh hl298_1;clear hi298_1 hl298_1;replace p298:=eq_true p298;replace q298:=eq_true q298
        go_wp2_with (first|((with_reducible refine zK (N:=5) rfl ?_);(try (refine yy (by rfl) ?_;dsimp only));refine zI ?hg (N:=5) ?hd (cs:=#[.int .i64 0,.slice none 0 0]) (t:=60) ?hr ?_;(case hd=>rfl);(case hg=>rfl);(case hr=>go_simp <;> rfl);intro gb299 hg w52 hbox hb;replace HO_3:=zh (yg jAS hb);have BK299:=zh (hbox);have hH_:=cH jX hb hg;have GW299:=zh hH_.1;have GE299:=GW299;replace HB:=zh hH_.2;have NB292_299:=zh ((jA1 : gb292≠gb299));have NB299_292:=zh NB292_299.out.symm;replace BK292:=zh (cD BK292.out jL hb);clear hb hbox hg hH_;have hnb53:=NB299_292.out;have hnc53:=NB292_299.out;obtain ⟨hcz54_0,hcz54_1,hfz54_0,hfz54_1⟩:=cB2 BK299.out;obtain ⟨hcz55_0,hcz55_1,hfz55_0,hfz55_1⟩:=cB2 BK292.out)|((with_reducible refine zJ (f:=40) rfl ?_);refine yj (some 33) rfl rfl Try.func40 jA rfl #[.int .i64 ((rd_T60 l0_0 x24_2).f0),.int .i64 1,.int .i64 (wrap64 (a0_1 - 1))] rfl jF ?_;(with_reducible refine (F01.calls  ((rd_T60 l0_0 x24_2).f0) 1 (wrap64 (a0_1 - 1)) false _ A16.out).mono ?_);rintro e w' ⟨rfl,⟨nd,rfl⟩⟩;refine ⟨_,rfl,?_⟩))
        go_ret
        exact ⟨jG,jAJ⟩
       rw [if_neg c15] at H;exact absurd H (by simp)
      rw [if_neg c14] at H;exact absurd H (by simp)
     rw [if_neg c13] at H;have c13b0 : decide (x24_2<(l0_0.length : Int))=false:=decide_eq_false c13;clear c13;replace H:=zT.mp H;obtain ⟨t308,A560,H⟩:=H;have A56:=zh A560;clear A560;have H':=zh H;clear H;obtain ⟨hcz57_0,hcz57_1,hfz57_0,hfz57_1⟩:=cB2 BK292.out
     go_wp2_with (first|((with_reducible refine zJ (f:=25) rfl ?_);refine yj (some 66) rfl rfl Try.func25 jA rfl #[.agg #[.slice A0_0 l0_0.length c0_0,.int .i64 a0_1]] rfl jF ?_;(with_reducible refine (Fi.calls k2  _ _ l0_0 a0_1 t308 _ ?side1 ?side2 A56.out).mono ?_);(case side1=>repeat (first|exact (Kd.C_below HR0_0.out HB.out)|(with_reducible refine Kd.C_alloc ?_ _)|(with_reducible refine Kd.C_drewN ?_ _)|(with_reducible refine Kd.C_drew ?_)));(case side2=>exact HC0_0.out);rintro e w58 ⟨v309,rfl,ho0,hb⟩;refine ⟨_,rfl,?_⟩;replace HO_3:=zh (yg jAS hb);have HO310:=zh (yx ho0 (zB jX));replace BK292:=zh (cD BK292.out jL hb);replace HB:=zh (zC jX hb);(try clear hb);(try clear hb2);(try clear hk);(try clear hi);(try clear ho0);obtain ⟨Ao59,co59,eo59⟩:=yk HO310.out;subst eo59))
     go_loopg [69] k2 (fun kq v69 w' => ∃ (x69_3 : Int),v69 = .int .i64 x69_3∧Aside0 (F3.l1 kq t308 t308 (t308.length : Int) x69_3=some r)∧Aside0 (kq≤k2)∧Aside0 (Kd.R k28 28 w' w.heap.size (fun _=>True) (.slice Ao59 t308.length co59) t308)∧Aside0 (Kd.R k28 28 w' w.heap.size (fun _=>True) (.slice Ao59 t308.length co59) t308)∧Aside0 (w'.heap[gb292]? = some (.cells #[(.slice A0_0 l0_0.length c0_0),.int .i64 a0_1] 25 (0,0)))∧Aside0 (Below w.heap.size w w'))
     case atStart=>exact ⟨(0),jE,H',⟨ye _⟩,⟨jCx⟩,⟨jCx⟩,⟨jL⟩,⟨jX⟩⟩
     case round =>
      clear H'
      try clear c1 c2
      try clear p2
      try clear q2
      try clear hx2
      try clear c3 c4 c5
      try clear p6
      try clear c9 c13 c13b0 c14 c14b0 c15 c15b0 c17 c19 c20 c21 c25 c25b0 c25b1 c27 c29
      try clear p29
      try clear q29
      try clear hx29
      try clear c31 c31b0 c31b1 c31b2 c32 c32b0 c32b1 c34 c38 c40 c45 c47 c53
      try clear hcz12_0 hcz12_1
      try clear hcz22_0 hcz22_1
      try clear hcz23_0 hcz23_1
      try clear hcz28_0 hcz28_1
      try clear hcz29_0 hcz29_1
      try clear hcz35_0 hcz35_1
      try clear hcz36_0 hcz36_1
      try clear hcz41_0 hcz41_1
      try clear hcz42_0 hcz42_1
      try clear hcz48_0 hcz48_1
      try clear hcz49_0 hcz49_1
      try clear hcz54_0 hcz54_1
      try clear hcz55_0 hcz55_1
      try clear hcz57_0 hcz57_1
      try clear hcz7_0 hcz7_1
      try clear hcz8_0 hcz8_1
      try clear hfz12_0 hfz12_1
      try clear hfz22_0 hfz22_1
      try clear hfz23_0 hfz23_1
      try clear hfz28_0 hfz28_1
      try clear hfz29_0 hfz29_1
      try clear hfz35_0 hfz35_1
      try clear hfz36_0 hfz36_1
      try clear hfz41_0 hfz41_1
      try clear hfz42_0 hfz42_1
      try clear hfz48_0 hfz48_1
      try clear hfz49_0 hfz49_1
      try clear hfz54_0 hfz54_1
      try clear hfz55_0 hfz55_1
      try clear hfz57_0 hfz57_1
      try clear hfz7_0 hfz7_1
      try clear hfz8_0 hfz8_1
      try clear hx298_0
      try clear hx298_1
      try clear p2
      try clear p298
      try clear q298
      obtain ⟨x69_3,rfl,HA,HK3,HO_6,HO_67,BK292,HB⟩:=hrel
      cases gk with
      | zero=>exact absurd HA.out (by simp [F3.l1])
      | succ k3 =>
       have H:=HA.out;clear HA;simp only [F3.l1] at H
       by_cases c60 : x69_3<(t308.length : Int)
       ·
        rw [if_pos c60] at H
        have c60b0 : decide (x69_3<(t308.length : Int))=true:=decide_eq_true c60;clear c60
        by_cases c61 : 0≤x69_3
        ·
         rw [if_pos c61] at H
         have c61b0 : decide (0≤x69_3)=true:=decide_eq_true c61;clear c61
         by_cases c62 : x69_3<(t308.length : Int)
         ·
          rw [if_pos c62] at H
          have c62b0 : decide (x69_3<(t308.length : Int))=true:=decide_eq_true c62;clear c62;replace H:=zT.mp H;obtain ⟨t313,A630,H⟩:=H;have A63:=zh A630;clear A630
          by_cases c64 : t313=true
          ·
           subst c64
           rw [if_pos rfl] at H
           by_cases c65 : x69_3 > 0
           ·
            rw [if_pos c65] at H
            have c65b0 : decide (0<x69_3)=true:=decide_eq_true c65;clear c65;obtain ⟨ji66,hji66⟩ : ∃ j_ : Int,(wrap64 (x69_3 - 1))=j_:=⟨_,rfl⟩;replace H : (if 0≤(ji66) then (if (ji66)<(t308.length : Int) then ((Fm.f k3 ((rd_T28 t308 (ji66)).f0) ((rd_T28 t308 (ji66)).f1) ((rd_T28 t308 x69_3).f0) ((rd_T28 t308 x69_3).f1)).bind fun t315=>(if t315 ≥ 0 then (some false) else (F3.l1 k3 t308 t308 (t308.length : Int) (wrap64 (x69_3+1))))) else (none)) else (none))=some r:=by first|(rw [hji66] at H;exact H)|(simp only [hji66] at H ⊢;exact H)
            (try rw [hji66] at A63);have hji66w : (IntKind.i64.wrap (x69_3 - 1))=ji66:=(zG _).trans hji66
            by_cases c67 : 0≤(ji66)
            ·
             rw [if_pos c67] at H
             have c67b0 : decide (0≤(ji66))=true:=decide_eq_true c67;clear c67
             by_cases c68 : (ji66)<(t308.length : Int)
             ·
              rw [if_pos c68] at H
              have c68b0 : decide ((ji66)<(t308.length : Int))=true:=decide_eq_true c68;clear c68;replace H:=zT.mp H;obtain ⟨t315,A690,H⟩:=H;have A69:=zh A690;clear A690
              by_cases c70 : t315 ≥ 0
              ·
               rw [if_pos c70] at H
               have c70b0 : decide (0≤t315)=true:=decide_eq_true c70;clear c70;obtain rfl:=zU H;have p311 : 0≤(x69_3 : Int):=zy jC;have q311 : x69_3<(t308.length : Int):=zy jC;obtain ⟨ad311,e311,hx311_0,hx311_1⟩:=at_T28 (yh HO_67.out).2.2 x69_3 p311 q311
               cases e311
               replace p311:=eq_true p311;replace q311:=eq_true q311
               try go_wp2_with (first|((with_reducible refine zK (N:=8) rfl ?_);(try (refine yy (by rfl) ?_;dsimp only));refine zI ?hg (N:=8) ?hd (cs:=#[.string (⟨#[]⟩ : ByteArray),.int .i64 0]) (t:=28) ?hr ?_;(case hd=>rfl);(case hg=>rfl);(case hr=>go_simp <;> rfl);intro gb312 hg w71 hbox hb;replace HO_6:=zh (yg (Kd.R_elderB jN gb312 (Nat.le_of_eq hg.symm)) hb);replace HO_67:=zh (yg (Kd.R_elderB jAK gb312 (Nat.le_of_eq hg.symm)) hb);have BK312:=zh (hbox);have hH_:=cH jX hb hg;have GW312:=zh hH_.1;have GE312:=GW312;replace HB:=zh hH_.2;have NB292_312:=zh ((jBb : gb292≠gb312));have NB312_292:=zh NB292_312.out.symm;replace BK292:=zh (cD BK292.out jL hb);clear hb hbox hg hH_;have hnb72:=NB312_292.out;have hnc72:=NB292_312.out;obtain ⟨hcz73_0,hcz73_1,hfz73_0,hfz73_1⟩:=cB2 BK312.out))
               have n0_ : Aside0 (Kd.R k28 28 ((w71.setCell ⟨gb312,0,none⟩ (.string ((rd_T28 t308 x69_3).f0))).setCell ⟨gb312,1,none⟩ (.int .i64 ((rd_T28 t308 x69_3).f1))) w.heap.size (fun k_=>k_≠gb312) (.slice (some ad311) t308.length co59) t308):=⟨jBc⟩;have n1_ : Aside0 (Kd.R k28 28 ((w71.setCell ⟨gb312,0,none⟩ (.string ((rd_T28 t308 x69_3).f0))).setCell ⟨gb312,1,none⟩ (.int .i64 ((rd_T28 t308 x69_3).f1))) w.heap.size (fun k_=>k_≠gb312) (.slice (some ad311) t308.length co59) t308):=⟨jBd⟩;have n2_ : Aside0 (((w71.setCell ⟨gb312,0,none⟩ (.string ((rd_T28 t308 x69_3).f0))).setCell ⟨gb312,1,none⟩ (.int .i64 ((rd_T28 t308 x69_3).f1))).heap[gb292]? = some (.cells #[.slice A0_0 l0_0.length c0_0,.int .i64 a0_1] 25 (0,0))):=⟨jBe⟩;have n3_ : Aside0 (((w71.setCell ⟨gb312,0,none⟩ (.string ((rd_T28 t308 x69_3).f0))).setCell ⟨gb312,1,none⟩ (.int .i64 ((rd_T28 t308 x69_3).f1))).heap[gb312]? = some (.cells #[.string ((rd_T28 t308 x69_3).f0),.int .i64 ((rd_T28 t308 x69_3).f1)] 28 (0,0))):=⟨jBf⟩;have n4_ : Aside0 (Below w.heap.size w ((w71.setCell ⟨gb312,0,none⟩ (.string ((rd_T28 t308 x69_3).f0))).setCell ⟨gb312,1,none⟩ (.int .i64 ((rd_T28 t308 x69_3).f1)))):=⟨jq⟩;(try clear HO_6);(try clear HO_67);(try clear BK292);(try clear BK312);(try clear HB);generalize ((w71.setCell ⟨gb312,0,none⟩ (.string ((rd_T28 t308 x69_3).f0))).setCell ⟨gb312,1,none⟩ (.int .i64 ((rd_T28 t308 x69_3).f1)))=w74 at n0_ n1_ n2_ n3_ n4_ ⊢;have HO_6:=n0_;have HO_67:=n1_;have BK292:=n2_;have BK312:=n3_;have HB:=n4_;clear n0_ n1_ n2_ n3_ n4_;replace HO_6:=zh (zo HO_6.out);replace HO_67:=zh (zo HO_67.out);replace BK292:=zh (zf BK292.out);replace BK312:=zh (zf BK312.out);replace HB:=zh (zc HB.out);have p314 : 0≤((ji66) : Int):=zy jC;have q314 : (ji66)<(t308.length : Int):=zy jC;obtain ⟨ad314,e314,hx314_0,hx314_1⟩:=at_T28 (yh HO_6.out).2.2 (ji66) p314 q314;obtain rfl : ad311=ad314:=(by injection e314);replace p314:=eq_true p314;replace q314:=eq_true q314;refine start_ (n:=17) (S:=fun w' => w'.cell? ⟨gb312,0,none⟩=some (.string ((rd_T28 t308 x69_3).f0))∧w'.cell? ⟨gb312,1,none⟩=some (.int .i64 ((rd_T28 t308 x69_3).f1))∧w'.cell? (ad311.add (((ji66)).toNat*2))=some (.string ((rd_T28 t308 (ji66)).f0))∧w'.cell? ⟨(ad311.add (((ji66)).toNat*2)).block,(ad311.add (((ji66)).toNat*2)).off+1,none⟩=some (.int .i64 ((rd_T28 t308 (ji66)).f1))) (ds:=[]) (bm_ 0 17) jA rfl rfl ⟨(zz BK312.out 0).trans rfl,(zz BK312.out 1).trans rfl,hx314_0,hx314_1⟩ (fun hHeld=>?_);refine with_tabW F3.tab15 F3.bits15 (fun HT_ HW_=>?_);generalize w74.drew=w75 at HO_6 HO_67 BK292 BK312 HB hx314_0 hx314_1 hHeld ⊢;refine take_ (i:=0) (N:=some 74) (v:=?_) (a':=?_) (bm_ 1 17) rfl rfl (yo HT_.out HW_.out jA) (fun _ _ _ h=>h) (Or.inl ⟨by rfl,?_⟩) hHeld ?_ ?_;rotate_left
               ·
                rintro w' ⟨s0,s1,s2,s3⟩
                go_simp
                with_reducible rfl
               rotate_left
               exact jc
               refine one_ (i:=1) (N:=some 75) (bm_ 2 17) rfl rfl (one_of HT_.out jA) jB (fun K hK=>?_);refine goes_ Try.func32 jA rfl #[.agg #[.string ((rd_T28 t308 x69_3).f0),.int .i64 ((rd_T28 t308 x69_3).f1)]] (by rfl) rfl rfl jF ?_
               with_reducible refine (F08.calls  ((rd_T28 t308 x69_3).f0) ((rd_T28 t308 x69_3).f1) true _ A63.out).mono ?_
               rintro e w76 ⟨rfl,hb⟩;have HS2_:=(hb.cell (zl _ _ (hHeld.2.2.1))).trans (hHeld.2.2.1);have HS3_:=(hb.cell (zl _ _ (hHeld.2.2.2))).trans (hHeld.2.2.2);refine ⟨_,rfl,?_⟩;replace HO_6:=zh (yg jN hb);replace HO_67:=zh (yg jAK hb);replace BK292:=zh (cD BK292.out jL hb);replace BK312:=zh (cD BK312.out jA2 hb);replace HB:=zh (zC jq hb);(try clear hb);(try clear hb2);(try clear hk);(try clear hi);refine hK.out _ _ ⟨(zz BK312.out 0).trans rfl,(zz BK312.out 1).trans rfl,HS2_,HS3_⟩ (fun hHeld=>?_);clear hK K;refine norm_ (a':=?_) ?_ ?_;rotate_left
               ·
                show Act.put _ (some 75) _=_
                simp only [Act.put,zi,zj,zk,zG,zH]
                rfl
               refine pure_ (i:=2) (N:=some 76) (v:=?_) (a':=?_) (bm_ 3 17) rfl rfl (any_of HT_.out jA) (fun _ _ _ h=>h) (Or.inl ⟨by rfl,?_⟩) ?_ ?_;rotate_left;exact jb;rotate_left;exact jc
               refine pure_ (i:=3) (N:=some 77) (v:=?_) (a':=?_) (bm_ 4 17) rfl rfl (any_of HT_.out jA) (fun _ _ _ h=>h) (Or.inl ⟨by rfl,?_⟩) ?_ ?_;rotate_left;exact jb;rotate_left;exact jc
               refine pure_ (i:=4) (N:=some 78) (v:=?_) (a':=?_) (bm_ 5 17) rfl rfl (any_of HT_.out jA) (fun _ _ _ h=>h) (Or.inl ⟨by rfl,?_⟩) ?_ ?_;rotate_left;exact jb;rotate_left;exact jc
               refine pure_ (i:=5) (N:=some 79) (v:=?_) (a':=?_) (bm_ 6 17) rfl rfl (any_of HT_.out jA) (fun _ _ _ h=>h) (Or.inl ⟨by rfl,?_⟩) ?_ ?_;rotate_left;exact jb;rotate_left;exact jc
               refine pure_ (i:=6) (N:=some 80) (v:=?_) (a':=?_) (bm_ 7 17) rfl rfl (any_of HT_.out jA) (fun _ _ _ h=>h) (Or.inl ⟨by rfl,?_⟩) ?_ ?_;rotate_left;exact jb;rotate_left;exact jc
               refine pure_ (i:=7) (N:=some 81) (v:=?_) (a':=?_) (bm_ 8 17) rfl rfl (any_of HT_.out jA) (fun _ _ _ h=>h) (Or.inl ⟨by rfl,?_⟩) ?_ ?_;rotate_left;exact jb;rotate_left;exact jc
               refine pure_ (i:=8) (N:=some 82) (v:=?_) (a':=?_) (bm_ 9 17) rfl rfl (any_of HT_.out jA) (fun _ _ _ h=>h) (Or.inl ⟨by rfl,?_⟩) ?_ ?_;rotate_left;exact jb;rotate_left;exact jc
               refine pure_ (i:=9) (N:=some 83) (v:=?_) (a':=?_) (bm_ 10 17) rfl rfl (any_of HT_.out jA) (fun _ _ _ h=>h) (Or.inl ⟨by rfl,?_⟩) ?_ ?_;rotate_left;exact jb;rotate_left;exact jc
               refine pure_ (i:=10) (N:=some 84) (v:=?_) (a':=?_) (bm_ 11 17) rfl rfl (any_of HT_.out jA) (fun _ _ _ h=>h) (Or.inl ⟨by rfl,?_⟩) ?_ ?_;rotate_left;exact jb;rotate_left;exact jc
               refine take_ (i:=11) (N:=some 85) (v:=?_) (a':=?_) (bm_ 12 17) rfl rfl (yo HT_.out HW_.out jA) (fun _ _ _ h=>h) (Or.inl ⟨by rfl,?_⟩) hHeld ?_ ?_;rotate_left
               ·
                rintro w' ⟨s0,s1,s2,s3⟩
                go_simp
                with_reducible rfl
               rotate_left
               exact jc
               refine take_ (i:=12) (N:=some 86) (v:=?_) (a':=?_) (bm_ 13 17) rfl rfl (yo HT_.out HW_.out jA) (fun _ _ _ h=>h) (Or.inl ⟨by rfl,?_⟩) hHeld ?_ ?_;rotate_left
               ·
                rintro w' ⟨s0,s1,s2,s3⟩
                go_simp
                with_reducible rfl
               rotate_left
               exact jc
               refine one_ (i:=13) (N:=some 87) (bm_ 14 17) rfl rfl (one_of HT_.out jA) jB (fun K hK=>?_);refine goes_ Try.func42 jA rfl #[.agg #[.string ((rd_T28 t308 (ji66)).f0),.int .i64 ((rd_T28 t308 (ji66)).f1)],.agg #[.string ((rd_T28 t308 x69_3).f0),.int .i64 ((rd_T28 t308 x69_3).f1)]] (by rfl) rfl rfl jCy ?_
               with_reducible refine (Fm.calls k3  ((rd_T28 t308 (ji66)).f0) ((rd_T28 t308 (ji66)).f1) ((rd_T28 t308 x69_3).f0) ((rd_T28 t308 x69_3).f1) t315 _ A69.out).mono ?_
               rintro e w77 ⟨rfl,hb⟩;have HS2_:=(hb.cell (zl _ _ (hHeld.2.2.1))).trans (hHeld.2.2.1);have HS3_:=(hb.cell (zl _ _ (hHeld.2.2.2))).trans (hHeld.2.2.2);refine ⟨_,rfl,?_⟩;replace HO_6:=zh (yg jN hb);replace HO_67:=zh (yg jAK hb);replace BK292:=zh (cD BK292.out jL hb);replace BK312:=zh (cD BK312.out jA2 hb);replace HB:=zh (zC jq hb);(try clear hb);(try clear hb2);(try clear hk);(try clear hi);refine hK.out _ _ ⟨(zz BK312.out 0).trans rfl,(zz BK312.out 1).trans rfl,HS2_,HS3_⟩ (fun hHeld=>?_);clear hK K;refine norm_ (a':=?_) ?_ ?_;rotate_left
               ·
                show Act.put _ (some 87) _=_
                simp only [Act.put,zi,zj,zk,zG,zH]
                rfl
               refine pure_ (i:=14) (N:=some 88) (v:=?_) (a':=?_) (bm_ 15 17) rfl rfl (any_of HT_.out jA) (fun _ _ _ h=>h) (Or.inl ⟨by rfl,?_⟩) ?_ ?_;rotate_left;exact jb;rotate_left;exact jc
               refine pure_ (i:=15) (N:=some 89) (v:=?_) (a':=?_) (bm_ 16 17) rfl rfl (any_of HT_.out jA) (fun _ _ _ h=>h) (Or.inl ⟨by rfl,?_⟩) ?_ ?_;rotate_left;exact jb;rotate_left;exact jc
               refine pure_ (i:=16) (N:=some 90) (v:=?_) (a':=?_) (bm_ 17 17) rfl rfl (any_of HT_.out jA) (fun _ _ _ h=>h) (Or.inl ⟨by rfl,?_⟩) ?_ ?_;rotate_left;exact jb;rotate_left;exact jc
               refine done_ (done_of HT_.out jA) ?_
               try go_wp2
               go_ret
               exact ⟨by first|rfl|(simp [yt,yu] <;> rfl)|(simp only [← hji66];first|rfl|(simp [yt,yu] <;> rfl))|(simp [*,yt,yu] <;> rfl),jq⟩
              rw [if_neg c70] at H;have c70b0 : decide (0≤t315)=false:=decide_eq_false c70;clear c70;have H':=zh H;clear H;have p311 : 0≤(x69_3 : Int):=zy jC;have q311 : x69_3<(t308.length : Int):=zy jC;obtain ⟨ad311,e311,hx311_0,hx311_1⟩:=at_T28 (yh HO_67.out).2.2 x69_3 p311 q311
              cases e311
              replace p311:=eq_true p311;replace q311:=eq_true q311
              try go_wp2_with (first|((with_reducible refine zK (N:=8) rfl ?_);(try (refine yy (by rfl) ?_;dsimp only));refine zI ?hg (N:=8) ?hd (cs:=#[.string (⟨#[]⟩ : ByteArray),.int .i64 0]) (t:=28) ?hr ?_;(case hd=>rfl);(case hg=>rfl);(case hr=>go_simp <;> rfl);intro gb312 hg w78 hbox hb;replace HO_6:=zh (yg (Kd.R_elderB jN gb312 (Nat.le_of_eq hg.symm)) hb);replace HO_67:=zh (yg (Kd.R_elderB jAK gb312 (Nat.le_of_eq hg.symm)) hb);have BK312:=zh (hbox);have hH_:=cH jX hb hg;have GW312:=zh hH_.1;have GE312:=GW312;replace HB:=zh hH_.2;have NB292_312:=zh ((jBb : gb292≠gb312));have NB312_292:=zh NB292_312.out.symm;replace BK292:=zh (cD BK292.out jL hb);clear hb hbox hg hH_;have hnb79:=NB312_292.out;have hnc79:=NB292_312.out;obtain ⟨hcz80_0,hcz80_1,hfz80_0,hfz80_1⟩:=cB2 BK312.out))
              have n0_ : Aside0 (Kd.R k28 28 ((w78.setCell ⟨gb312,0,none⟩ (.string ((rd_T28 t308 x69_3).f0))).setCell ⟨gb312,1,none⟩ (.int .i64 ((rd_T28 t308 x69_3).f1))) w.heap.size (fun k_=>k_≠gb312) (.slice (some ad311) t308.length co59) t308):=⟨jBc⟩;have n1_ : Aside0 (Kd.R k28 28 ((w78.setCell ⟨gb312,0,none⟩ (.string ((rd_T28 t308 x69_3).f0))).setCell ⟨gb312,1,none⟩ (.int .i64 ((rd_T28 t308 x69_3).f1))) w.heap.size (fun k_=>k_≠gb312) (.slice (some ad311) t308.length co59) t308):=⟨jBd⟩;have n2_ : Aside0 (((w78.setCell ⟨gb312,0,none⟩ (.string ((rd_T28 t308 x69_3).f0))).setCell ⟨gb312,1,none⟩ (.int .i64 ((rd_T28 t308 x69_3).f1))).heap[gb292]? = some (.cells #[.slice A0_0 l0_0.length c0_0,.int .i64 a0_1] 25 (0,0))):=⟨jBe⟩;have n3_ : Aside0 (((w78.setCell ⟨gb312,0,none⟩ (.string ((rd_T28 t308 x69_3).f0))).setCell ⟨gb312,1,none⟩ (.int .i64 ((rd_T28 t308 x69_3).f1))).heap[gb312]? = some (.cells #[.string ((rd_T28 t308 x69_3).f0),.int .i64 ((rd_T28 t308 x69_3).f1)] 28 (0,0))):=⟨jBf⟩;have n4_ : Aside0 (Below w.heap.size w ((w78.setCell ⟨gb312,0,none⟩ (.string ((rd_T28 t308 x69_3).f0))).setCell ⟨gb312,1,none⟩ (.int .i64 ((rd_T28 t308 x69_3).f1)))):=⟨jq⟩;(try clear HO_6);(try clear HO_67);(try clear BK292);(try clear BK312);(try clear HB);generalize ((w78.setCell ⟨gb312,0,none⟩ (.string ((rd_T28 t308 x69_3).f0))).setCell ⟨gb312,1,none⟩ (.int .i64 ((rd_T28 t308 x69_3).f1)))=w81 at n0_ n1_ n2_ n3_ n4_ ⊢;have HO_6:=n0_;have HO_67:=n1_;have BK292:=n2_;have BK312:=n3_;have HB:=n4_;clear n0_ n1_ n2_ n3_ n4_;replace HO_6:=zh (zo HO_6.out);replace HO_67:=zh (zo HO_67.out);replace BK292:=zh (zf BK292.out);replace BK312:=zh (zf BK312.out);replace HB:=zh (zc HB.out);have p314 : 0≤((ji66) : Int):=zy jC;have q314 : (ji66)<(t308.length : Int):=zy jC;obtain ⟨ad314,e314,hx314_0,hx314_1⟩:=at_T28 (yh HO_6.out).2.2 (ji66) p314 q314;obtain rfl : ad311=ad314:=(by injection e314);replace p314:=eq_true p314;replace q314:=eq_true q314;refine start_ (n:=17) (S:=fun w' => w'.cell? ⟨gb312,0,none⟩=some (.string ((rd_T28 t308 x69_3).f0))∧w'.cell? ⟨gb312,1,none⟩=some (.int .i64 ((rd_T28 t308 x69_3).f1))∧w'.cell? (ad311.add (((ji66)).toNat*2))=some (.string ((rd_T28 t308 (ji66)).f0))∧w'.cell? ⟨(ad311.add (((ji66)).toNat*2)).block,(ad311.add (((ji66)).toNat*2)).off+1,none⟩=some (.int .i64 ((rd_T28 t308 (ji66)).f1))) (ds:=[]) (bm_ 0 17) jA rfl rfl ⟨(zz BK312.out 0).trans rfl,(zz BK312.out 1).trans rfl,hx314_0,hx314_1⟩ (fun hHeld=>?_);refine with_tabW F3.tab15 F3.bits15 (fun HT_ HW_=>?_);generalize w81.drew=w82 at HO_6 HO_67 BK292 BK312 HB hx314_0 hx314_1 hHeld ⊢;refine take_ (i:=0) (N:=some 74) (v:=?_) (a':=?_) (bm_ 1 17) rfl rfl (yo HT_.out HW_.out jA) (fun _ _ _ h=>h) (Or.inl ⟨by rfl,?_⟩) hHeld ?_ ?_;rotate_left
              ·
               rintro w' ⟨s0,s1,s2,s3⟩
               go_simp
               with_reducible rfl
              rotate_left
              exact jc
              refine one_ (i:=1) (N:=some 75) (bm_ 2 17) rfl rfl (one_of HT_.out jA) jB (fun K hK=>?_);refine goes_ Try.func32 jA rfl #[.agg #[.string ((rd_T28 t308 x69_3).f0),.int .i64 ((rd_T28 t308 x69_3).f1)]] (by rfl) rfl rfl jF ?_
              with_reducible refine (F08.calls  ((rd_T28 t308 x69_3).f0) ((rd_T28 t308 x69_3).f1) true _ A63.out).mono ?_
              rintro e w83 ⟨rfl,hb⟩;have HS2_:=(hb.cell (zl _ _ (hHeld.2.2.1))).trans (hHeld.2.2.1);have HS3_:=(hb.cell (zl _ _ (hHeld.2.2.2))).trans (hHeld.2.2.2);refine ⟨_,rfl,?_⟩;replace HO_6:=zh (yg jN hb);replace HO_67:=zh (yg jAK hb);replace BK292:=zh (cD BK292.out jL hb);replace BK312:=zh (cD BK312.out jA2 hb);replace HB:=zh (zC jq hb);(try clear hb);(try clear hb2);(try clear hk);(try clear hi);refine hK.out _ _ ⟨(zz BK312.out 0).trans rfl,(zz BK312.out 1).trans rfl,HS2_,HS3_⟩ (fun hHeld=>?_);clear hK K;refine norm_ (a':=?_) ?_ ?_;rotate_left
              ·
               show Act.put _ (some 75) _=_
               simp only [Act.put,zi,zj,zk,zG,zH]
               rfl
              refine pure_ (i:=2) (N:=some 76) (v:=?_) (a':=?_) (bm_ 3 17) rfl rfl (any_of HT_.out jA) (fun _ _ _ h=>h) (Or.inl ⟨by rfl,?_⟩) ?_ ?_;rotate_left;exact jb;rotate_left;exact jc
              refine pure_ (i:=3) (N:=some 77) (v:=?_) (a':=?_) (bm_ 4 17) rfl rfl (any_of HT_.out jA) (fun _ _ _ h=>h) (Or.inl ⟨by rfl,?_⟩) ?_ ?_;rotate_left;exact jb;rotate_left;exact jc
              refine pure_ (i:=4) (N:=some 78) (v:=?_) (a':=?_) (bm_ 5 17) rfl rfl (any_of HT_.out jA) (fun _ _ _ h=>h) (Or.inl ⟨by rfl,?_⟩) ?_ ?_;rotate_left;exact jb;rotate_left;exact jc
              refine pure_ (i:=5) (N:=some 79) (v:=?_) (a':=?_) (bm_ 6 17) rfl rfl (any_of HT_.out jA) (fun _ _ _ h=>h) (Or.inl ⟨by rfl,?_⟩) ?_ ?_;rotate_left;exact jb;rotate_left;exact jc
              refine pure_ (i:=6) (N:=some 80) (v:=?_) (a':=?_) (bm_ 7 17) rfl rfl (any_of HT_.out jA) (fun _ _ _ h=>h) (Or.inl ⟨by rfl,?_⟩) ?_ ?_;rotate_left;exact jb;rotate_left;exact jc
              refine pure_ (i:=7) (N:=some 81) (v:=?_) (a':=?_) (bm_ 8 17) rfl rfl (any_of HT_.out jA) (fun _ _ _ h=>h) (Or.inl ⟨by rfl,?_⟩) ?_ ?_;rotate_left;exact jb;rotate_left;exact jc
              refine pure_ (i:=8) (N:=some 82) (v:=?_) (a':=?_) (bm_ 9 17) rfl rfl (any_of HT_.out jA) (fun _ _ _ h=>h) (Or.inl ⟨by rfl,?_⟩) ?_ ?_;rotate_left;exact jb;rotate_left;exact jc
              refine pure_ (i:=9) (N:=some 83) (v:=?_) (a':=?_) (bm_ 10 17) rfl rfl (any_of HT_.out jA) (fun _ _ _ h=>h) (Or.inl ⟨by rfl,?_⟩) ?_ ?_;rotate_left;exact jb;rotate_left;exact jc
              refine pure_ (i:=10) (N:=some 84) (v:=?_) (a':=?_) (bm_ 11 17) rfl rfl (any_of HT_.out jA) (fun _ _ _ h=>h) (Or.inl ⟨by rfl,?_⟩) ?_ ?_;rotate_left;exact jb;rotate_left;exact jc
              refine take_ (i:=11) (N:=some 85) (v:=?_) (a':=?_) (bm_ 12 17) rfl rfl (yo HT_.out HW_.out jA) (fun _ _ _ h=>h) (Or.inl ⟨by rfl,?_⟩) hHeld ?_ ?_;rotate_left
              ·
               rintro w' ⟨s0,s1,s2,s3⟩
               go_simp
               with_reducible rfl
              rotate_left
              exact jc
              refine take_ (i:=12) (N:=some 86) (v:=?_) (a':=?_) (bm_ 13 17) rfl rfl (yo HT_.out HW_.out jA) (fun _ _ _ h=>h) (Or.inl ⟨by rfl,?_⟩) hHeld ?_ ?_;rotate_left
              ·
               rintro w' ⟨s0,s1,s2,s3⟩
               go_simp
               with_reducible rfl
              rotate_left
              exact jc
              refine one_ (i:=13) (N:=some 87) (bm_ 14 17) rfl rfl (one_of HT_.out jA) jB (fun K hK=>?_);refine goes_ Try.func42 jA rfl #[.agg #[.string ((rd_T28 t308 (ji66)).f0),.int .i64 ((rd_T28 t308 (ji66)).f1)],.agg #[.string ((rd_T28 t308 x69_3).f0),.int .i64 ((rd_T28 t308 x69_3).f1)]] (by rfl) rfl rfl jCy ?_
              with_reducible refine (Fm.calls k3  ((rd_T28 t308 (ji66)).f0) ((rd_T28 t308 (ji66)).f1) ((rd_T28 t308 x69_3).f0) ((rd_T28 t308 x69_3).f1) t315 _ A69.out).mono ?_
              rintro e w84 ⟨rfl,hb⟩;have HS2_:=(hb.cell (zl _ _ (hHeld.2.2.1))).trans (hHeld.2.2.1);have HS3_:=(hb.cell (zl _ _ (hHeld.2.2.2))).trans (hHeld.2.2.2);refine ⟨_,rfl,?_⟩;replace HO_6:=zh (yg jN hb);replace HO_67:=zh (yg jAK hb);replace BK292:=zh (cD BK292.out jL hb);replace BK312:=zh (cD BK312.out jA2 hb);replace HB:=zh (zC jq hb);(try clear hb);(try clear hb2);(try clear hk);(try clear hi);refine hK.out _ _ ⟨(zz BK312.out 0).trans rfl,(zz BK312.out 1).trans rfl,HS2_,HS3_⟩ (fun hHeld=>?_);clear hK K;refine norm_ (a':=?_) ?_ ?_;rotate_left
              ·
               show Act.put _ (some 87) _=_
               simp only [Act.put,zi,zj,zk,zG,zH]
               rfl
              refine pure_ (i:=14) (N:=some 88) (v:=?_) (a':=?_) (bm_ 15 17) rfl rfl (any_of HT_.out jA) (fun _ _ _ h=>h) (Or.inl ⟨by rfl,?_⟩) ?_ ?_;rotate_left;exact jb;rotate_left;exact jc
              refine pure_ (i:=15) (N:=some 89) (v:=?_) (a':=?_) (bm_ 16 17) rfl rfl (any_of HT_.out jA) (fun _ _ _ h=>h) (Or.inl ⟨by rfl,?_⟩) ?_ ?_;rotate_left;exact jb;rotate_left;exact jc
              refine pure_ (i:=16) (N:=some 90) (v:=?_) (a':=?_) (bm_ 17 17) rfl rfl (any_of HT_.out jA) (fun _ _ _ h=>h) (Or.inl ⟨by rfl,?_⟩) ?_ ?_;rotate_left;exact jb;rotate_left;exact jc
              refine done_ (done_of HT_.out jA) ?_
              try go_wp2
              go_roundg k3
              case measure=>have:=HJ1.out;have:=HK2.out;have:=HK3.out;omega
              case rel=>exact ⟨(wrap64 (x69_3+1)),jE,H',⟨by have:=HJ1.out;have:=HK2.out;have:=HK3.out;omega⟩,⟨jCz⟩,⟨jC0⟩,⟨jL⟩,⟨jq⟩⟩
             rw [if_neg c68] at H;exact absurd H (by simp)
            rw [if_neg c67] at H;exact absurd H (by simp)
           rw [if_neg c65] at H;have c65b0 : decide (0<x69_3)=false:=decide_eq_false c65;clear c65;have H':=zh H;clear H;have p311 : 0≤(x69_3 : Int):=zy jC;have q311 : x69_3<(t308.length : Int):=zy jC;obtain ⟨ad311,e311,hx311_0,hx311_1⟩:=at_T28 (yh HO_67.out).2.2 x69_3 p311 q311
           cases e311
           replace p311:=eq_true p311;replace q311:=eq_true q311
           try go_wp2_with (first|((with_reducible refine zK (N:=8) rfl ?_);(try (refine yy (by rfl) ?_;dsimp only));refine zI ?hg (N:=8) ?hd (cs:=#[.string (⟨#[]⟩ : ByteArray),.int .i64 0]) (t:=28) ?hr ?_;(case hd=>rfl);(case hg=>rfl);(case hr=>go_simp <;> rfl);intro gb312 hg w85 hbox hb;replace HO_6:=zh (yg (Kd.R_elderB jN gb312 (Nat.le_of_eq hg.symm)) hb);replace HO_67:=zh (yg (Kd.R_elderB jAK gb312 (Nat.le_of_eq hg.symm)) hb);have BK312:=zh (hbox);have hH_:=cH jX hb hg;have GW312:=zh hH_.1;have GE312:=GW312;replace HB:=zh hH_.2;have NB292_312:=zh ((jBb : gb292≠gb312));have NB312_292:=zh NB292_312.out.symm;replace BK292:=zh (cD BK292.out jL hb);clear hb hbox hg hH_;have hnb86:=NB312_292.out;have hnc86:=NB292_312.out;obtain ⟨hcz87_0,hcz87_1,hfz87_0,hfz87_1⟩:=cB2 BK312.out))
           have n0_ : Aside0 (Kd.R k28 28 ((w85.setCell ⟨gb312,0,none⟩ (.string ((rd_T28 t308 x69_3).f0))).setCell ⟨gb312,1,none⟩ (.int .i64 ((rd_T28 t308 x69_3).f1))) w.heap.size (fun k_=>k_≠gb312) (.slice (some ad311) t308.length co59) t308):=⟨jBc⟩;have n1_ : Aside0 (Kd.R k28 28 ((w85.setCell ⟨gb312,0,none⟩ (.string ((rd_T28 t308 x69_3).f0))).setCell ⟨gb312,1,none⟩ (.int .i64 ((rd_T28 t308 x69_3).f1))) w.heap.size (fun k_=>k_≠gb312) (.slice (some ad311) t308.length co59) t308):=⟨jBd⟩;have n2_ : Aside0 (((w85.setCell ⟨gb312,0,none⟩ (.string ((rd_T28 t308 x69_3).f0))).setCell ⟨gb312,1,none⟩ (.int .i64 ((rd_T28 t308 x69_3).f1))).heap[gb292]? = some (.cells #[.slice A0_0 l0_0.length c0_0,.int .i64 a0_1] 25 (0,0))):=⟨jBe⟩;have n3_ : Aside0 (((w85.setCell ⟨gb312,0,none⟩ (.string ((rd_T28 t308 x69_3).f0))).setCell ⟨gb312,1,none⟩ (.int .i64 ((rd_T28 t308 x69_3).f1))).heap[gb312]? = some (.cells #[.string ((rd_T28 t308 x69_3).f0),.int .i64 ((rd_T28 t308 x69_3).f1)] 28 (0,0))):=⟨jBf⟩;have n4_ : Aside0 (Below w.heap.size w ((w85.setCell ⟨gb312,0,none⟩ (.string ((rd_T28 t308 x69_3).f0))).setCell ⟨gb312,1,none⟩ (.int .i64 ((rd_T28 t308 x69_3).f1)))):=⟨jq⟩;(try clear HO_6);(try clear HO_67);(try clear BK292);(try clear BK312);(try clear HB);generalize ((w85.setCell ⟨gb312,0,none⟩ (.string ((rd_T28 t308 x69_3).f0))).setCell ⟨gb312,1,none⟩ (.int .i64 ((rd_T28 t308 x69_3).f1)))=w88 at n0_ n1_ n2_ n3_ n4_ ⊢;have HO_6:=n0_;have HO_67:=n1_;have BK292:=n2_;have BK312:=n3_;have HB:=n4_;clear n0_ n1_ n2_ n3_ n4_;replace HO_6:=zh (zo HO_6.out);replace HO_67:=zh (zo HO_67.out);replace BK292:=zh (zf BK292.out);replace BK312:=zh (zf BK312.out);replace HB:=zh (zc HB.out);refine start_ (n:=17) (S:=fun w' => w'.cell? ⟨gb312,0,none⟩=some (.string ((rd_T28 t308 x69_3).f0))∧w'.cell? ⟨gb312,1,none⟩=some (.int .i64 ((rd_T28 t308 x69_3).f1))) (ds:=[]) (bm_ 0 17) jA rfl rfl ⟨(zz BK312.out 0).trans rfl,(zz BK312.out 1).trans rfl⟩ (fun hHeld=>?_);refine with_tabW F3.tab15 F3.bits15 (fun HT_ HW_=>?_);generalize w88.drew=w89 at HO_6 HO_67 BK292 BK312 HB hHeld ⊢;refine take_ (i:=0) (N:=some 74) (v:=?_) (a':=?_) (bm_ 1 17) rfl rfl (yo HT_.out HW_.out jA) (fun _ _ _ h=>h) (Or.inl ⟨by rfl,?_⟩) hHeld ?_ ?_;rotate_left
           ·
            rintro w' ⟨s0,s1⟩
            go_simp
            with_reducible rfl
           rotate_left
           exact jc
           refine one_ (i:=1) (N:=some 75) (bm_ 2 17) rfl rfl (one_of HT_.out jA) jB (fun K hK=>?_);refine goes_ Try.func32 jA rfl #[.agg #[.string ((rd_T28 t308 x69_3).f0),.int .i64 ((rd_T28 t308 x69_3).f1)]] (by rfl) rfl rfl jF ?_
           with_reducible refine (F08.calls  ((rd_T28 t308 x69_3).f0) ((rd_T28 t308 x69_3).f1) true _ A63.out).mono ?_
           rintro e w90 ⟨rfl,hb⟩;refine ⟨_,rfl,?_⟩;replace HO_6:=zh (yg jN hb);replace HO_67:=zh (yg jAK hb);replace BK292:=zh (cD BK292.out jL hb);replace BK312:=zh (cD BK312.out jA2 hb);replace HB:=zh (zC jq hb);(try clear hb);(try clear hb2);(try clear hk);(try clear hi);refine hK.out _ _ ⟨(zz BK312.out 0).trans rfl,(zz BK312.out 1).trans rfl⟩ (fun hHeld=>?_);clear hK K;refine norm_ (a':=?_) ?_ ?_;rotate_left
           ·
            show Act.put _ (some 75) _=_
            simp only [Act.put,zi,zj,zk,zG,zH]
            rfl
           refine pure_ (i:=2) (N:=some 76) (v:=?_) (a':=?_) (bm_ 3 17) rfl rfl (any_of HT_.out jA) (fun _ _ _ h=>h) (Or.inl ⟨by rfl,?_⟩) ?_ ?_;rotate_left;exact jb;rotate_left;exact jc
           refine pure_ (i:=3) (N:=some 77) (v:=?_) (a':=?_) (bm_ 4 17) rfl rfl (any_of HT_.out jA) (fun _ _ _ h=>h) (Or.inl ⟨by rfl,?_⟩) ?_ ?_;rotate_left;exact jb;rotate_left;exact jc
           refine pure_ (i:=4) (N:=some 78) (v:=?_) (a':=?_) (bm_ 5 17) rfl rfl (any_of HT_.out jA) (fun _ _ _ h=>h) (Or.inl ⟨by rfl,?_⟩) ?_ ?_;rotate_left;exact jb;rotate_left;exact jc
           refine pure_ (i:=5) (N:=some 79) (v:=?_) (a':=?_) (bm_ 6 17) rfl rfl (any_of HT_.out jA) (fun _ _ _ h=>h) (Or.inl ⟨by rfl,?_⟩) ?_ ?_;rotate_left;exact jb;rotate_left;exact jc
           refine pure_ (i:=6) (N:=some 80) (v:=?_) (a':=?_) (bm_ 7 17) rfl rfl (any_of HT_.out jA) (fun _ _ _ h=>h) (Or.inl ⟨by rfl,?_⟩) ?_ ?_;rotate_left;exact jb;rotate_left;exact jc
           refine pure_ (i:=7) (N:=some 81) (v:=undef) (a':=?_) (bm_ 8 17) rfl rfl (any_of HT_.out jA) (fun _ _ _ h=>h) (Or.inr ⟨by rfl,rfl⟩) ?_ ?_;rotate_left
           exact jc
           refine pure_ (i:=8) (N:=some 82) (v:=undef) (a':=?_) (bm_ 9 17) rfl rfl (any_of HT_.out jA) (fun _ _ _ h=>h) (Or.inr ⟨by rfl,rfl⟩) ?_ ?_;rotate_left
           exact jc
           refine pure_ (i:=9) (N:=some 83) (v:=undef) (a':=?_) (bm_ 10 17) rfl rfl (any_of HT_.out jA) (fun _ _ _ h=>h) (Or.inr ⟨by rfl,rfl⟩) ?_ ?_;rotate_left
           exact jc
           refine pure_ (i:=10) (N:=some 84) (v:=undef) (a':=?_) (bm_ 11 17) rfl rfl (any_of HT_.out jA) (fun _ _ _ h=>h) (Or.inr ⟨by rfl,rfl⟩) ?_ ?_;rotate_left
           exact jc
           refine pure_ (i:=11) (N:=some 85) (v:=undef) (a':=?_) (bm_ 12 17) rfl rfl (any_of HT_.out jA) (fun _ _ _ h=>h) (Or.inr ⟨by rfl,rfl⟩) ?_ ?_;rotate_left
           exact jc
           refine pure_ (i:=12) (N:=some 86) (v:=undef) (a':=?_) (bm_ 13 17) rfl rfl (any_of HT_.out jA) (fun _ _ _ h=>h) (Or.inr ⟨by rfl,rfl⟩) ?_ ?_;rotate_left
           exact jc
           refine pure_ (i:=13) (N:=some 87) (v:=undef) (a':=?_) (bm_ 14 17) rfl rfl (any_of HT_.out jA) (fun _ _ _ h=>h) (Or.inr ⟨by rfl,rfl⟩) ?_ ?_;rotate_left
           exact jc
           refine pure_ (i:=14) (N:=some 88) (v:=undef) (a':=?_) (bm_ 15 17) rfl rfl (any_of HT_.out jA) (fun _ _ _ h=>h) (Or.inr ⟨by rfl,rfl⟩) ?_ ?_;rotate_left
           exact jc
           refine pure_ (i:=15) (N:=some 89) (v:=?_) (a':=?_) (bm_ 16 17) rfl rfl (any_of HT_.out jA) (fun _ _ _ h=>h) (Or.inl ⟨by rfl,?_⟩) ?_ ?_;rotate_left;exact jb;rotate_left;exact jc
           refine pure_ (i:=16) (N:=some 90) (v:=?_) (a':=?_) (bm_ 17 17) rfl rfl (any_of HT_.out jA) (fun _ _ _ h=>h) (Or.inl ⟨by rfl,?_⟩) ?_ ?_;rotate_left;exact jb;rotate_left;exact jc
           refine done_ (done_of HT_.out jA) ?_
           try go_wp2
           go_roundg k3
           case measure=>have:=HJ1.out;have:=HK2.out;have:=HK3.out;omega
           case rel=>exact ⟨(wrap64 (x69_3+1)),jE,H',⟨by have:=HJ1.out;have:=HK2.out;have:=HK3.out;omega⟩,⟨jCz⟩,⟨jC0⟩,⟨jL⟩,⟨jq⟩⟩
          replace c64:=yb.mpr c64;subst c64;rw [if_neg (show ¬ (false=true) by decide)] at H;obtain rfl:=zU H;have p311 : 0≤(x69_3 : Int):=zy jC;have q311 : x69_3<(t308.length : Int):=zy jC;obtain ⟨ad311,e311,hx311_0,hx311_1⟩:=at_T28 (yh HO_67.out).2.2 x69_3 p311 q311
          cases e311
          replace p311:=eq_true p311;replace q311:=eq_true q311
          try go_wp2_with (first|((with_reducible refine zK (N:=8) rfl ?_);(try (refine yy (by rfl) ?_;dsimp only));refine zI ?hg (N:=8) ?hd (cs:=#[.string (⟨#[]⟩ : ByteArray),.int .i64 0]) (t:=28) ?hr ?_;(case hd=>rfl);(case hg=>rfl);(case hr=>go_simp <;> rfl);intro gb312 hg w91 hbox hb;replace HO_6:=zh (yg (Kd.R_elderB jN gb312 (Nat.le_of_eq hg.symm)) hb);replace HO_67:=zh (yg (Kd.R_elderB jAK gb312 (Nat.le_of_eq hg.symm)) hb);have BK312:=zh (hbox);have hH_:=cH jX hb hg;have GW312:=zh hH_.1;have GE312:=GW312;replace HB:=zh hH_.2;have NB292_312:=zh ((jBb : gb292≠gb312));have NB312_292:=zh NB292_312.out.symm;replace BK292:=zh (cD BK292.out jL hb);clear hb hbox hg hH_;have hnb92:=NB312_292.out;have hnc92:=NB292_312.out;obtain ⟨hcz93_0,hcz93_1,hfz93_0,hfz93_1⟩:=cB2 BK312.out))
          have n0_ : Aside0 (Kd.R k28 28 ((w91.setCell ⟨gb312,0,none⟩ (.string ((rd_T28 t308 x69_3).f0))).setCell ⟨gb312,1,none⟩ (.int .i64 ((rd_T28 t308 x69_3).f1))) w.heap.size (fun k_=>k_≠gb312) (.slice (some ad311) t308.length co59) t308):=⟨jBc⟩;have n1_ : Aside0 (Kd.R k28 28 ((w91.setCell ⟨gb312,0,none⟩ (.string ((rd_T28 t308 x69_3).f0))).setCell ⟨gb312,1,none⟩ (.int .i64 ((rd_T28 t308 x69_3).f1))) w.heap.size (fun k_=>k_≠gb312) (.slice (some ad311) t308.length co59) t308):=⟨jBd⟩;have n2_ : Aside0 (((w91.setCell ⟨gb312,0,none⟩ (.string ((rd_T28 t308 x69_3).f0))).setCell ⟨gb312,1,none⟩ (.int .i64 ((rd_T28 t308 x69_3).f1))).heap[gb292]? = some (.cells #[.slice A0_0 l0_0.length c0_0,.int .i64 a0_1] 25 (0,0))):=⟨jBe⟩;have n3_ : Aside0 (((w91.setCell ⟨gb312,0,none⟩ (.string ((rd_T28 t308 x69_3).f0))).setCell ⟨gb312,1,none⟩ (.int .i64 ((rd_T28 t308 x69_3).f1))).heap[gb312]? = some (.cells #[.string ((rd_T28 t308 x69_3).f0),.int .i64 ((rd_T28 t308 x69_3).f1)] 28 (0,0))):=⟨jBf⟩;have n4_ : Aside0 (Below w.heap.size w ((w91.setCell ⟨gb312,0,none⟩ (.string ((rd_T28 t308 x69_3).f0))).setCell ⟨gb312,1,none⟩ (.int .i64 ((rd_T28 t308 x69_3).f1)))):=⟨jq⟩;(try clear HO_6);(try clear HO_67);(try clear BK292);(try clear BK312);(try clear HB);generalize ((w91.setCell ⟨gb312,0,none⟩ (.string ((rd_T28 t308 x69_3).f0))).setCell ⟨gb312,1,none⟩ (.int .i64 ((rd_T28 t308 x69_3).f1)))=w94 at n0_ n1_ n2_ n3_ n4_ ⊢;have HO_6:=n0_;have HO_67:=n1_;have BK292:=n2_;have BK312:=n3_;have HB:=n4_;clear n0_ n1_ n2_ n3_ n4_;replace HO_6:=zh (zo HO_6.out);replace HO_67:=zh (zo HO_67.out);replace BK292:=zh (zf BK292.out);replace BK312:=zh (zf BK312.out);replace HB:=zh (zc HB.out);refine start_ (n:=17) (S:=fun w' => w'.cell? ⟨gb312,0,none⟩=some (.string ((rd_T28 t308 x69_3).f0))∧w'.cell? ⟨gb312,1,none⟩=some (.int .i64 ((rd_T28 t308 x69_3).f1))) (ds:=[]) (bm_ 0 17) jA rfl rfl ⟨(zz BK312.out 0).trans rfl,(zz BK312.out 1).trans rfl⟩ (fun hHeld=>?_);refine with_tabW F3.tab15 F3.bits15 (fun HT_ HW_=>?_);generalize w94.drew=w95 at HO_6 HO_67 BK292 BK312 HB hHeld ⊢;refine take_ (i:=0) (N:=some 74) (v:=?_) (a':=?_) (bm_ 1 17) rfl rfl (yo HT_.out HW_.out jA) (fun _ _ _ h=>h) (Or.inl ⟨by rfl,?_⟩) hHeld ?_ ?_;rotate_left
          ·
           rintro w' ⟨s0,s1⟩
           go_simp
           with_reducible rfl
          rotate_left
          exact jc
          refine one_ (i:=1) (N:=some 75) (bm_ 2 17) rfl rfl (one_of HT_.out jA) jB (fun K hK=>?_);refine goes_ Try.func32 jA rfl #[.agg #[.string ((rd_T28 t308 x69_3).f0),.int .i64 ((rd_T28 t308 x69_3).f1)]] (by rfl) rfl rfl jF ?_
          with_reducible refine (F08.calls  ((rd_T28 t308 x69_3).f0) ((rd_T28 t308 x69_3).f1) false _ A63.out).mono ?_
          rintro e w96 ⟨rfl,hb⟩;refine ⟨_,rfl,?_⟩;replace HO_6:=zh (yg jN hb);replace HO_67:=zh (yg jAK hb);replace BK292:=zh (cD BK292.out jL hb);replace BK312:=zh (cD BK312.out jA2 hb);replace HB:=zh (zC jq hb);(try clear hb);(try clear hb2);(try clear hk);(try clear hi);refine hK.out _ _ ⟨(zz BK312.out 0).trans rfl,(zz BK312.out 1).trans rfl⟩ (fun hHeld=>?_);clear hK K;refine norm_ (a':=?_) ?_ ?_;rotate_left
          ·
           show Act.put _ (some 75) _=_
           simp only [Act.put,zi,zj,zk,zG,zH]
           rfl
          refine pure_ (i:=2) (N:=some 76) (v:=?_) (a':=?_) (bm_ 3 17) rfl rfl (any_of HT_.out jA) (fun _ _ _ h=>h) (Or.inl ⟨by rfl,?_⟩) ?_ ?_;rotate_left;exact jb;rotate_left;exact jc
          refine pure_ (i:=3) (N:=some 77) (v:=?_) (a':=?_) (bm_ 4 17) rfl rfl (any_of HT_.out jA) (fun _ _ _ h=>h) (Or.inl ⟨by rfl,?_⟩) ?_ ?_;rotate_left;exact jb;rotate_left;exact jc
          refine pure_ (i:=4) (N:=some 78) (v:=undef) (a':=?_) (bm_ 5 17) rfl rfl (any_of HT_.out jA) (fun _ _ _ h=>h) (Or.inr ⟨by rfl,rfl⟩) ?_ ?_;rotate_left
          exact jc
          refine pure_ (i:=5) (N:=some 79) (v:=undef) (a':=?_) (bm_ 6 17) rfl rfl (any_of HT_.out jA) (fun _ _ _ h=>h) (Or.inr ⟨by rfl,rfl⟩) ?_ ?_;rotate_left
          exact jc
          refine pure_ (i:=6) (N:=some 80) (v:=undef) (a':=?_) (bm_ 7 17) rfl rfl (any_of HT_.out jA) (fun _ _ _ h=>h) (Or.inr ⟨by rfl,rfl⟩) ?_ ?_;rotate_left
          exact jc
          refine pure_ (i:=7) (N:=some 81) (v:=undef) (a':=?_) (bm_ 8 17) rfl rfl (any_of HT_.out jA) (fun _ _ _ h=>h) (Or.inr ⟨by rfl,rfl⟩) ?_ ?_;rotate_left
          exact jc
          refine pure_ (i:=8) (N:=some 82) (v:=undef) (a':=?_) (bm_ 9 17) rfl rfl (any_of HT_.out jA) (fun _ _ _ h=>h) (Or.inr ⟨by rfl,rfl⟩) ?_ ?_;rotate_left
          exact jc
          refine pure_ (i:=9) (N:=some 83) (v:=undef) (a':=?_) (bm_ 10 17) rfl rfl (any_of HT_.out jA) (fun _ _ _ h=>h) (Or.inr ⟨by rfl,rfl⟩) ?_ ?_;rotate_left
          exact jc
          refine pure_ (i:=10) (N:=some 84) (v:=undef) (a':=?_) (bm_ 11 17) rfl rfl (any_of HT_.out jA) (fun _ _ _ h=>h) (Or.inr ⟨by rfl,rfl⟩) ?_ ?_;rotate_left
          exact jc
          refine pure_ (i:=11) (N:=some 85) (v:=undef) (a':=?_) (bm_ 12 17) rfl rfl (any_of HT_.out jA) (fun _ _ _ h=>h) (Or.inr ⟨by rfl,rfl⟩) ?_ ?_;rotate_left
          exact jc
          refine pure_ (i:=12) (N:=some 86) (v:=undef) (a':=?_) (bm_ 13 17) rfl rfl (any_of HT_.out jA) (fun _ _ _ h=>h) (Or.inr ⟨by rfl,rfl⟩) ?_ ?_;rotate_left
          exact jc
          refine pure_ (i:=13) (N:=some 87) (v:=undef) (a':=?_) (bm_ 14 17) rfl rfl (any_of HT_.out jA) (fun _ _ _ h=>h) (Or.inr ⟨by rfl,rfl⟩) ?_ ?_;rotate_left
          exact jc
          refine pure_ (i:=14) (N:=some 88) (v:=undef) (a':=?_) (bm_ 15 17) rfl rfl (any_of HT_.out jA) (fun _ _ _ h=>h) (Or.inr ⟨by rfl,rfl⟩) ?_ ?_;rotate_left
          exact jc
          refine pure_ (i:=15) (N:=some 89) (v:=undef) (a':=?_) (bm_ 16 17) rfl rfl (any_of HT_.out jA) (fun _ _ _ h=>h) (Or.inr ⟨by rfl,rfl⟩) ?_ ?_;rotate_left
          exact jc
          refine pure_ (i:=16) (N:=some 90) (v:=?_) (a':=?_) (bm_ 17 17) rfl rfl (any_of HT_.out jA) (fun _ _ _ h=>h) (Or.inl ⟨by rfl,?_⟩) ?_ ?_;rotate_left;exact jb;rotate_left;exact jc
          refine done_ (done_of HT_.out jA) ?_
          try go_wp2
          go_ret
          exact ⟨jG,jq⟩
         rw [if_neg c62] at H;exact absurd H (by simp)
        rw [if_neg c61] at H;exact absurd H (by simp)
       rw [if_neg c60] at H;have c60b0 : decide (x69_3<(t308.length : Int))=false:=decide_eq_false c60;clear c60;obtain rfl:=zU H
       go_wp2
       go_ret
       exact ⟨jG,jX⟩

end Go.Proofs.Ytgifonogfgpjdaa.Q
end
section
namespace Go.Proofs.Ytgifonogfgpjdaa.Q
open Go.RowKit Go.Proofs.YtgifonogfgpjdaaW.PrintWords Go.Proofs.YtgifonogfgpjdaaW.PrintLast Go.Proofs.YtgifonogfgpjdaaW.PrintMore
attribute [local go_sem] max2_int min2_int max_two min_two max_three min_three max_four min_four max2_str min2_str str_geq str_gtr str_leq
set_option linter.unusedVariables false
set_option linter.unusedSimpArgs false

def F0b.f (l0 : List S28) : Option (List S28):=if l0.length*24≤140737488355328 then (some l0) else (none)
theorem F0b.R_empty (base : Nat) (W : World) (hb : base≤W.heap.size) : Kd.R k28 28 (W.alloc (.cells #[] 28)) base (fun _=>True) (.slice (some ⟨W.heap.size,0,none⟩) 0 0) [] :=
 ⟨fun _ _=>trivial,[],⟨by simp,.inr ⟨W.heap.size,0,#[],rfl,hb,blk_new W _,ye _,by unfold maxLen;omega,by simp,by simp⟩⟩,Reps.none _ _⟩
theorem F0b.R_nil (base : Nat) (W : World) : Kd.R k28 28 W base (fun _=>True) (.slice none 0 0) [] :=
 ⟨fun _ _=>trivial,[],⟨by simp,.inl ⟨rfl,rfl⟩⟩,Reps.none _ _⟩
theorem F0b.run_nil {P : Program} (t e : TypeId) (ht : P.underlying t=some (.slice e)) (A : Option Addr) (n c : Nat) (w : World) : (binOp .eql t (.slice A n c) (.slice none 0 0)).run P w = .ok (.bool A.isNone) w:=by
 have h : ∀ d,(Op.equalIn (d+1) t (.slice A n c) (.slice none 0 0)).run P w = .ok A.isNone w:=fun d=>by
  unfold Op.equalIn;rw [Sem.run_bind,run_underlying ht];cases A <;> rfl
 have h2 : (Op.equal t (.slice A n c) (.slice none 0 0)).run P w = .ok A.isNone w:=h 9999;simp [binOp,h2]
set_option maxHeartbeats 4000000 in
set_option maxRecDepth 100000 in
theorem F0b.calls (A0 : Option Addr) (c0 : Nat) (l0 : List S28) (r : List S28) (w : World) (hr0 : Kd.C k28 w A0 l0.length l0) (hc0 : l0.length≤c0) (h : F0b.f l0=some r) :
  Calls Try.prog 54 #[.slice A0 l0.length c0] w fun e w' => ∃ v0_ : Value,e = .returned (v0_)∧Kd.R k28 28 w' w.heap.size (fun _=>True) v0_ r∧Below w.heap.size w w':=by
 unfold F0b.f at h
 by_cases hl : l0.length*24≤140737488355328
 case neg=>rw [if_neg hl] at h;cases h
 rw [if_pos hl] at h;obtain rfl:=zU h;have hnil:=fun A n c w=>F0b.run_nil (P:=Try.prog) 33 28 Try.underlying33 A n c w
 cases A0 with
 | none =>
  have h0 : l0=[]:=by
   rcases Nat.eq_zero_or_pos l0.length with h0|h0
   ·
    exact List.eq_nil_of_length_eq_zero h0
   obtain ⟨ad,h9,_⟩:=hr0.2.2 h0
   cases h9
  subst h0
  go_enter Try.func54,Try.ntmps54
  go_wp2_with fail
  go_ret
  exact ⟨_,rfl,F0b.R_nil _ _,Below.refl _ _⟩
 | some ad =>
  have hC:=Kd.C_alloc hr0 (.cells #[] 28);have hO:=F0b.R_empty w.heap.size w (ye _);have hB:=za (Below.refl w.heap.size w) (.cells #[] 28)
  go_enter Try.func54,Try.ntmps54
  go_wp2_with (at_builtin;refine Kd.R_append_rows k28 w.heap.size (by rfl) (.tmp 5) (.tmp 6) 33 28 (.agg #[(.string ⟨#[]⟩),(.int .i64 0)]) 24 rfl Try.underlying33 info28 rfl jB jB (.slice (some ⟨w.heap.size,0,none⟩) 0 0) [] l0 (some ad) l0.length c0 (fun _=>True) (fun _=>False) rfl rfl hO hC (fun x cs h9=>by rw [k28_open h9];exact k28_mkM _ _ _ _) (fun _ h9=>h9.elim) (fun _ _=>trivial) hB hB.size (by simpa using hl) ?_;intro v1 w1 hR hb hg hat)
  go_ret
  exact ⟨v1,rfl,by simpa using hR,hb⟩


def Fh.l0 : Nat→List (S60)→Int→Int→List (S60)→Int→Option ((List (S60))×Int)
 | 0,_,_,_,_,_=>none
 | k+1,x10,x11,x12,x479000,x479001=>if x12<x11 then (if 0≤x12 then (if x12<(x10.length : Int) then ((F0b.f ((rd_T60 x10 x12).f1)).bind fun t481=>(if x479000.length<4398046511104 then (Fh.l0 k x10 x11 (wrap64 (x12+1)) (x479000 ++ [(⟨(rd_T60 x10 x12).f0,t481⟩ : S60)]) x479001) else (none))) else (none)) else (none)) else (some (x479000,x479001))
def Fh.f (k : Nat) (l0_0 : List (S60)) (a0_1 : Int) : Option ((List (S60))×Int):=Fh.l0 k l0_0 (l0_0.length : Int) 0 ([] : List (S60)) a0_1
theorem Fh.mono_l : ∀ k,(∀ y0 y1 y2 y3 y4,LeO (Fh.l0 k y0 y1 y2 y3 y4) (Fh.l0 (k+1) y0 y1 y2 y3 y4))
 | 0=>fun _ _ _ _ _ r h=>by simp [Fh.l0] at h
 | k+1=>by
  have ih0:=Fh.mono_l k;intro y0 y1 y2 y3 y4;unfold Fh.l0
  repeat' first|(with_reducible first|exact ih0 _ _ _ _ _|exact zQ _|exact zN _|refine zP ?_ ?_|refine zO ?_ (fun _=>?_))|refine zP ?_ ?_|refine zO ?_ (fun _=>?_)
theorem Fh.mono : ∀ a0 a1 k,LeO (Fh.f k a0 a1) (Fh.f (k+1) a0 a1):=by
 intro a0 a1 k;have ih0:=Fh.mono_l k;unfold Fh.f
 repeat' first|(with_reducible first|exact ih0 _ _ _ _ _|exact zQ _|exact zN _|refine zP ?_ ?_|refine zO ?_ (fun _=>?_))|refine zP ?_ ?_|refine zO ?_ (fun _=>?_)
def Fh.T5 : Bool×List (List Nat×List Nat):=(true,[([],[]),([0],[0]),([],[]),([2],[2]),([],[]),([4],[4]),([5],[5]),([3,6],[3,6]),([7],[7]),([1,8,6],[1,8]),([0,1,2,3,4,5,6,7,8,9],[]),([10,9,9,0,1,2,3,4,5,6,7,8,9],[9,10])])
def Fh.B5 : List Nat:=[0,1,0,4,0,16,48,124,252,511,1023,2047]
theorem Fh.tab5 : rtab .any (opsOf Try.f33 5)=Fh.T5:=by kernel_rfl
theorem Fh.bits5 : waitsOk Fh.T5.2 Fh.B5=true:=by kernel_rfl
set_option maxHeartbeats 8000000 in
set_option maxRecDepth 100000 in
theorem Fh.calls (k : Nat) (A0_0 : Option Addr) (c0_0 : Nat) (l0_0 : List (S60)) (a0_1 : Int) (r1 : List (S60)) (r2 : Int) (w : World) (hr0_0 : Kd.C k60 w A0_0 l0_0.length l0_0) (hc0_0 : l0_0.length≤c0_0) (h : Fh.f k l0_0 a0_1=some (r1,r2)) :
  Calls Try.prog 33 #[.agg #[.slice A0_0 l0_0.length c0_0,.int .i64 a0_1]] w fun e w' => ∃ v0_ : Value,e = .returned (.agg #[v0_,.int .i64 r2])∧Kd.S k60 60 w' w.heap.size (fun _=>True) v0_ r1∧Below w.heap.size w w':=by
 have hu25:=Try.underlying25;have hu60:=Try.underlying60;have HR0_0:=zh hr0_0;have HC0_0:=zh hc0_0;clear hr0_0 hc0_0;have HB:=zh (Below.refl w.heap.size w);have H : (Fh.l0 k l0_0 (l0_0.length : Int) 0 ([] : List (S60)) a0_1)=some (r1,r2):=h;clear h;have H':=zh H;clear H
 go_enter Try.func33,Try.ntmps33
 go_wp2_with (first|((with_reducible refine zK (N:=1) rfl ?_);refine zI ?hg (N:=1) ?hd (cs:=#[.slice A0_0 l0_0.length c0_0,.int .i64 a0_1]) (t:=25) ?hr ?_;(case hd=>rfl);(case hg=>rfl);(case hr=>go_simp <;> rfl);intro gb476 hg w2 hbox hb;have BK476:=zh (hbox);have hH_:=cH jH hb hg;have GW476:=zh hH_.1;have GE476:=GW476;replace HB:=zh hH_.2;clear hb hbox hg hH_)|((with_reducible refine zK (N:=2) rfl ?_);refine zI ?hg (N:=2) ?hd (cs:=#[.slice none 0 0,.int .i64 0]) (t:=25) ?hr ?_;(case hd=>rfl);(case hg=>rfl);(case hr=>go_simp <;> rfl);intro gb477 hg w3 hbox hb;have BK477:=zh (hbox);have hH_:=cH (by repeat (with_reducible first|exact HB.out|apply za|apply zb|apply zc|refine zd ?_ GE476.out)) hb hg;have GW477:=zh hH_.1;have GE477:=GW477;replace HB:=zh hH_.2;have NB476_477:=zh ((jC1 : gb476≠gb477));have NB477_476:=zh NB476_477.out.symm;replace BK476:=zh (cD BK476.out jAn hb);clear hb hbox hg hH_;have hnb4:=NB476_477.out;have hnc4:=NB477_476.out;obtain ⟨hcz5_0,hcz5_1,hfz5_0,hfz5_1⟩:=cB2 BK476.out)|((with_reducible refine zK (N:=3) rfl ?_);refine zI ?hg (N:=3) ?hd (cs:=#[.slice none 0 0,.int .i64 0]) (t:=25) ?hr ?_;(case hd=>rfl);(case hg=>rfl);(case hr=>go_simp <;> rfl);intro gb478 hg w6 hbox hb;have BK478:=zh (hbox);have hH_:=cH (by repeat (with_reducible first|exact HB.out|apply za|apply zb|apply zc|refine zd ?_ GE476.out|refine zd ?_ GE477.out)) hb hg;have GW478:=zh hH_.1;have GE478:=GW478;replace HB:=zh hH_.2;have NB476_478:=zh ((jC1 : gb476≠gb478));have NB478_476:=zh NB476_478.out.symm;replace BK476:=zh (cD BK476.out jAn hb);have NB477_478:=zh ((jC2 : gb477≠gb478));have NB478_477:=zh NB477_478.out.symm;replace BK477:=zh (cD BK477.out jBM hb);clear hb hbox hg hH_;have hnb7:=NB478_476.out;have hnc7:=NB476_478.out;have hnb8:=NB478_477.out;have hnc8:=NB477_478.out;obtain ⟨hcz9_0,hcz9_1,hfz9_0,hfz9_1⟩:=cB2 BK478.out;obtain ⟨hcz10_0,hcz10_1,hfz10_0,hfz10_1⟩:=cB2 BK476.out))
 go_loopg [12] k (fun kq v12 w' => ∃ (x12_1 : Int) (x479000_1 : List (S60)) (u479000 : Value),v12 = .int .i64 x12_1∧Aside0 (Fh.l0 kq l0_0 (l0_0.length : Int) x12_1 x479000_1 a0_1=some (r1,r2))∧Aside0 (kq≤k)∧Aside0 (Kd.S k60 60 w' w.heap.size (fun _=>True) u479000 x479000_1)∧Aside0 (w'.heap[gb476]? = some (.cells #[(.slice A0_0 l0_0.length c0_0),.int .i64 a0_1] 25 (0,0)))∧Aside0 (w'.heap[gb477]? = some (.cells #[(.slice none 0 0),.int .i64 0] 25 (0,0)))∧Aside0 (w'.heap[gb478]? = some (.cells #[u479000,.int .i64 a0_1] 25 (0,0)))∧Aside0 (Below w.heap.size w w'))
 case atStart=>exact ⟨(0),(([] : List (S60))),(.slice none 0 0),jE,H',⟨ye _⟩,⟨jC3⟩,⟨by (with_reducible repeat first|apply ze|apply zf|apply zg);refine cS2 ?_ NB476_478.out;(with_reducible repeat first|apply ze|apply zf|apply zg);exact BK476.out⟩,⟨by (with_reducible repeat first|apply ze|apply zf|apply zg);refine cS2 ?_ NB477_478.out;(with_reducible repeat first|apply ze|apply zf|apply zg);exact BK477.out⟩,⟨by (with_reducible repeat first|apply ze|apply zf|apply zg);refine zL (cs:=#[.slice none 0 0,.int .i64 0]) ?_ 1 _ rfl;(with_reducible repeat first|apply ze|apply zf|apply zg);refine zL (cs:=#[.slice none 0 0,.int .i64 0]) ?_ 0 _ rfl;(with_reducible repeat first|apply ze|apply zf|apply zg);exact BK478.out⟩,⟨jB7⟩⟩
 case round =>
  clear H'
  try clear p2
  try clear c3 c4 c7 c8
  try clear hcz10_0 hcz10_1
  try clear hcz5_0 hcz5_1
  try clear hcz9_0 hcz9_1
  try clear hfz10_0 hfz10_1
  try clear hfz5_0 hfz5_1
  try clear hfz9_0 hfz9_1
  obtain ⟨x12_1,x479000_1,u479000,rfl,HA,HK1,HO_479000,BK476,BK477,BK478,HB⟩:=hrel
  cases gk with
  | zero=>exact absurd HA.out (by simp [Fh.l0])
  | succ k1 =>
   have H:=HA.out;clear HA;simp only [Fh.l0] at H
   by_cases c11 : x12_1<(l0_0.length : Int)
   ·
    rw [if_pos c11] at H
    have c11b0 : decide (x12_1<(l0_0.length : Int))=true:=decide_eq_true c11;clear c11
    by_cases c12 : 0≤x12_1
    ·
     rw [if_pos c12] at H
     have c12b0 : decide (0≤x12_1)=true:=decide_eq_true c12;clear c12
     by_cases c13 : x12_1<(l0_0.length : Int)
     ·
      rw [if_pos c13] at H
      have c13b0 : decide (x12_1<(l0_0.length : Int))=true:=decide_eq_true c13;clear c13;replace H:=zT.mp H;obtain ⟨t481,A140,H⟩:=H;have A14:=zh A140;clear A140
      by_cases c15 : x479000_1.length<4398046511104
      ·
       rw [if_pos c15] at H
       have LMc15:=zh c15;clear c15;obtain ⟨y484,hy484⟩ : ∃ y_ : List (S60),y_=(x479000_1 ++ [(⟨(rd_T60 l0_0 x12_1).f0,t481⟩ : S60)]):=⟨_,rfl⟩;replace H : (Fh.l0 k1 l0_0 (l0_0.length : Int) (wrap64 (x12_1+1)) y484 a0_1)=some (r1,r2):=by first|(rw [hy484];with_reducible exact H)|(have H2_:=(Option.bind_some _ _).symm.trans H;rw [hy484];with_reducible exact H2_)|(have H2_:=(Option.bind_some _ _).symm.trans H;with_reducible exact H2_)|with_reducible exact H|(rw [hy484];exact H)|exact H
       have Ny484:=zh hy484;clear hy484;have H':=zh H;clear H;have p479 : 0≤(x12_1 : Int):=zy jC;have q479 : x12_1<(l0_0.length : Int):=zy jC;obtain ⟨ad479,A479_1,c479_1,e479,hx479_0,hx479_1,hl479_1,hi479_1⟩:=at_T60 HR0_0.out x12_1 p479 q479
       cases e479
       replace hx479_0:=(HB.out.cell (zl w _ hx479_0)).trans hx479_0;replace hx479_1:=(HB.out.cell (zl w _ hx479_1)).trans hx479_1;have HR479_1:=zh hi479_1;have HC479_1:=zh hl479_1;clear hi479_1 hl479_1;replace p479:=eq_true p479;replace q479:=eq_true q479
       try go_wp2_with (first|((with_reducible refine zK (N:=5) rfl ?_);refine zI ?hg (N:=5) ?hd (cs:=#[.int .i64 0,.slice none 0 0]) (t:=60) ?hr ?_;(case hd=>rfl);(case hg=>rfl);(case hr=>go_simp <;> rfl);intro gb480 hg w16 hbox hb;replace HO_479000:=zh (Kd.S_below (Kd.S_elderB jC4 gb480 (Nat.le_of_eq hg.symm)) hb);have BK480:=zh (hbox);have hH_:=cH jB7 hb hg;have GW480:=zh hH_.1;have GE480:=GW480;replace HB:=zh hH_.2;have NB476_480:=zh ((by rw [hg];exact yc (yi (g:=gb476) (o:=.cells #[.slice (some ad479) l0_0.length c0_0,.int .i64 a0_1] 25 (0,0)) jAn) : gb476≠gb480));have NB480_476:=zh NB476_480.out.symm;replace BK476:=zh (cD BK476.out jAn hb);have NB477_480:=zh ((jC2 : gb477≠gb480));have NB480_477:=zh NB477_480.out.symm;replace BK477:=zh (cD BK477.out jBM hb);have NB478_480:=zh ((by rw [hg];exact yc (yi (g:=gb478) (o:=.cells #[u479000,.int .i64 a0_1] 25 (0,0)) jBg) : gb478≠gb480));have NB480_478:=zh NB478_480.out.symm;replace BK478:=zh (cD BK478.out jBg hb);clear hb hbox hg hH_;have hnb17:=NB480_476.out;have hnc17:=NB476_480.out;have hnb18:=NB480_477.out;have hnc18:=NB477_480.out;have hnb19:=NB480_478.out;have hnc19:=NB478_480.out;obtain ⟨hcz20_0,hcz20_1,hfz20_0,hfz20_1⟩:=cB2 BK480.out))
       have n0_ : Aside0 (Kd.S k60 60 ((w16.setCell ⟨gb480,0,none⟩ (.int .i64 ((rd_T60 l0_0 x12_1).f0))).setCell ⟨gb480,1,none⟩ (.slice A479_1 ((rd_T60 l0_0 x12_1).f1).length c479_1)) w.heap.size (fun k_=>k_≠gb480) u479000 x479000_1):=⟨by (with_reducible repeat (first|apply Kd.S_alloc|apply Kd.S_drewN|apply Kd.S_drew));exact Kd.S_mono (Kd.S_far (p:=⟨gb480,1,none⟩) (Kd.S_far (p:=⟨gb480,0,none⟩) (Kd.S_mono HO_479000.out (fun k_ hk=>(⟨hk,hk.2⟩ : _∧k_≠gb480))) (fun _ hk=>hk.2) (.int .i64 ((rd_T60 l0_0 x12_1).f0))) (fun _ hk=>hk.2) (.slice A479_1 ((rd_T60 l0_0 x12_1).f1).length c479_1)) (fun _ hk=>hk.1.2)⟩;have n1_ : Aside0 (((w16.setCell ⟨gb480,0,none⟩ (.int .i64 ((rd_T60 l0_0 x12_1).f0))).setCell ⟨gb480,1,none⟩ (.slice A479_1 ((rd_T60 l0_0 x12_1).f1).length c479_1)).heap[gb476]? = some (.cells #[.slice (some ad479) l0_0.length c0_0,.int .i64 a0_1] 25 (0,0))):=⟨by (with_reducible repeat first|apply ze|apply zf|apply zg);refine cS2 ?_ NB476_480.out;(with_reducible repeat first|apply ze|apply zf|apply zg);exact BK476.out⟩;have n2_ : Aside0 (((w16.setCell ⟨gb480,0,none⟩ (.int .i64 ((rd_T60 l0_0 x12_1).f0))).setCell ⟨gb480,1,none⟩ (.slice A479_1 ((rd_T60 l0_0 x12_1).f1).length c479_1)).heap[gb477]? = some (.cells #[.slice none 0 0,.int .i64 0] 25 (0,0))):=⟨by (with_reducible repeat first|apply ze|apply zf|apply zg);refine cS2 ?_ NB477_480.out;(with_reducible repeat first|apply ze|apply zf|apply zg);exact BK477.out⟩;have n3_ : Aside0 (((w16.setCell ⟨gb480,0,none⟩ (.int .i64 ((rd_T60 l0_0 x12_1).f0))).setCell ⟨gb480,1,none⟩ (.slice A479_1 ((rd_T60 l0_0 x12_1).f1).length c479_1)).heap[gb478]? = some (.cells #[u479000,.int .i64 a0_1] 25 (0,0))):=⟨by (with_reducible repeat first|apply ze|apply zf|apply zg);refine cS2 ?_ NB478_480.out;(with_reducible repeat first|apply ze|apply zf|apply zg);exact BK478.out⟩;have n4_ : Aside0 (((w16.setCell ⟨gb480,0,none⟩ (.int .i64 ((rd_T60 l0_0 x12_1).f0))).setCell ⟨gb480,1,none⟩ (.slice A479_1 ((rd_T60 l0_0 x12_1).f1).length c479_1)).heap[gb480]? = some (.cells #[.int .i64 ((rd_T60 l0_0 x12_1).f0),.slice A479_1 ((rd_T60 l0_0 x12_1).f1).length c479_1] 60 (0,0))):=⟨by (with_reducible repeat first|apply ze|apply zf|apply zg);refine zL (cs:=#[.int .i64 ((rd_T60 l0_0 x12_1).f0),.slice none 0 0]) ?_ 1 _ rfl;(with_reducible repeat first|apply ze|apply zf|apply zg);refine zL (cs:=#[.int .i64 0,.slice none 0 0]) ?_ 0 _ rfl;(with_reducible repeat first|apply ze|apply zf|apply zg);exact BK480.out⟩;have n5_ : Aside0 (Below w.heap.size w ((w16.setCell ⟨gb480,0,none⟩ (.int .i64 ((rd_T60 l0_0 x12_1).f0))).setCell ⟨gb480,1,none⟩ (.slice A479_1 ((rd_T60 l0_0 x12_1).f1).length c479_1))):=⟨jA3⟩;(try clear HO_479000);(try clear BK476);(try clear BK477);(try clear BK478);(try clear BK480);(try clear HB);generalize ((w16.setCell ⟨gb480,0,none⟩ (.int .i64 ((rd_T60 l0_0 x12_1).f0))).setCell ⟨gb480,1,none⟩ (.slice A479_1 ((rd_T60 l0_0 x12_1).f1).length c479_1))=w21 at n0_ n1_ n2_ n3_ n4_ n5_ ⊢;have HO_479000:=n0_;have BK476:=n1_;have BK477:=n2_;have BK478:=n3_;have BK480:=n4_;have HB:=n5_;clear n0_ n1_ n2_ n3_ n4_ n5_;replace HO_479000:=zh (Kd.S_drew HO_479000.out);replace BK476:=zh (zf BK476.out);replace BK477:=zh (zf BK477.out);replace BK478:=zh (zf BK478.out);replace BK480:=zh (zf BK480.out);replace HB:=zh (zc HB.out);refine start_ (n:=12) (S:=fun w' => w'.cell? ⟨gb478,0,none⟩=some (u479000)∧w'.cell? ⟨gb478,1,none⟩=some (.int .i64 a0_1)∧w'.cell? ⟨gb480,0,none⟩=some (.int .i64 ((rd_T60 l0_0 x12_1).f0))∧w'.cell? ⟨gb480,1,none⟩=some (.slice A479_1 ((rd_T60 l0_0 x12_1).f1).length c479_1)) (ds:=[11]) (bm_ 0 12) jA rfl rfl ⟨(zz BK478.out 0).trans rfl,(zz BK478.out 1).trans rfl,(zz BK480.out 0).trans rfl,(zz BK480.out 1).trans rfl⟩ (fun hHeld=>?_);refine with_tabW Fh.tab5 Fh.bits5 (fun HT_ HW_=>?_);generalize w21.drew=w22 at HO_479000 BK476 BK477 BK478 BK480 HB hHeld ⊢;refine pure_ (i:=0) (N:=some 16) (v:=?_) (a':=?_) (bm_ 1 12) rfl rfl (any_of HT_.out jA) (fun _ _ _ h=>h) (Or.inl ⟨by rfl,?_⟩) ?_ ?_;rotate_left;exact jb;rotate_left;exact jc
       refine pure_ (i:=2) (N:=some 18) (v:=?_) (a':=?_) #[true,false,true,false,false,false,false,false,false,false,false,false] rfl rfl (any_of HT_.out jA) (fun _ _ _ h=>h) (Or.inl ⟨by rfl,?_⟩) ?_ ?_;rotate_left;exact jb;rotate_left;exact jc
       refine pure_ (i:=4) (N:=some 20) (v:=?_) (a':=?_) #[true,false,true,false,true,false,false,false,false,false,false,false] rfl rfl (any_of HT_.out jA) (fun _ _ _ h=>h) (Or.inl ⟨by rfl,?_⟩) ?_ ?_;rotate_left;exact jb;rotate_left;exact jc
       refine take_ (i:=1) (N:=some 17) (v:=?_) (a':=?_) #[true,true,true,false,true,false,false,false,false,false,false,false] rfl rfl (yo HT_.out HW_.out jA) (fun _ _ _ h=>h) (Or.inl ⟨by rfl,?_⟩) hHeld ?_ ?_;rotate_left
       ·
        rintro w' ⟨s0,s1,s2,s3⟩
        go_simp
        with_reducible rfl
       rotate_left
       exact jc
       refine take_ (i:=3) (N:=some 19) (v:=?_) (a':=?_) (bm_ 5 12) rfl rfl (yo HT_.out HW_.out jA) (fun _ _ _ h=>h) (Or.inl ⟨by rfl,?_⟩) hHeld ?_ ?_;rotate_left
       ·
        rintro w' ⟨s0,s1,s2,s3⟩
        go_simp
        with_reducible rfl
       rotate_left
       exact jc
       refine take_ (i:=5) (N:=some 21) (v:=?_) (a':=?_) (bm_ 6 12) rfl rfl (yo HT_.out HW_.out jA) (fun _ _ _ h=>h) (Or.inl ⟨by rfl,?_⟩) hHeld ?_ ?_;rotate_left
       ·
        rintro w' ⟨s0,s1,s2,s3⟩
        go_simp
        with_reducible rfl
       rotate_left
       exact jc
       refine one_ (i:=6) (N:=some 22) (bm_ 7 12) rfl rfl (one_of HT_.out jA) jB (fun K hK=>?_);refine goes_ Try.func54 jA rfl #[.slice A479_1 ((rd_T60 l0_0 x12_1).f1).length c479_1] (by rfl) rfl rfl jF ?_
       with_reducible refine (F0b.calls  _ _ ((rd_T60 l0_0 x12_1).f1) t481 _ ?side1 ?side2 A14.out).mono ?_
       (case side1=>repeat (first|exact (Kd.C_below HR479_1.out HB.out)|(with_reducible refine Kd.C_alloc ?_ _)|(with_reducible refine Kd.C_drewN ?_ _)|(with_reducible refine Kd.C_drew ?_)))
       (case side2=>exact HC479_1.out)
       rintro e w23 ⟨v482,rfl,ho0,hb⟩;refine ⟨_,rfl,?_⟩;replace HO_479000:=zh (Kd.S_elder' jC4 (Kd.R_base ho0) hb);have HO483:=zh (yx ho0 (zB jA3));replace BK476:=zh (cD BK476.out jAn hb);replace BK477:=zh (cD BK477.out jBM hb);replace BK478:=zh (cD BK478.out jBg hb);replace BK480:=zh (cD BK480.out jB8 hb);replace HB:=zh (zC jA3 hb);(try clear hb);(try clear hb2);(try clear hk);(try clear hi);(try clear ho0);obtain ⟨Ao24,co24,eo24⟩:=yk HO483.out;(first|subst eo24|(injection eo24 with f1_ f2_ f3_;have f4_:=f1_.symm;have f5_:=f3_.symm;clear f1_ f2_ f3_;subst f4_;subst f5_));refine hK.out _ _ ⟨(zz BK478.out 0).trans rfl,(zz BK478.out 1).trans rfl,(zz BK480.out 0).trans rfl,(zz BK480.out 1).trans rfl⟩ (fun hHeld=>?_);clear hK K;refine norm_ (a':=?_) ?_ ?_;rotate_left
       ·
        show Act.put _ (some 22) _=_
        simp only [Act.put,zi,zj,zk,zG,zH]
        rfl
       refine pure_ (i:=7) (N:=some 23) (v:=?_) (a':=?_) (bm_ 8 12) rfl rfl (any_of HT_.out jA) (fun _ _ _ h=>h) (Or.inl ⟨by rfl,?_⟩) ?_ ?_;rotate_left;exact jb;rotate_left;exact jc
       refine one_ (i:=8) (N:=some 24) (bm_ 9 12) rfl rfl (one_of HT_.out jA) jB (fun K hK=>?_);refine value_ (w1:=?_) (v:=?_) (by rfl) rfl ?_ ?_;rotate_left 2
       ·
        go_simp
        constructor
        ·
         rfl
        rfl
       refine hK.out _ _ ⟨(zz (zg BK478.out _) 0).trans rfl,(zz (zg BK478.out _) 1).trans rfl,(zz (zg BK480.out _) 0).trans rfl,(zz (zg BK480.out _) 1).trans rfl⟩ (fun hHeld=>?_);clear hK K;refine norm_ (a':=?_) ?_ ?_;rotate_left
       ·
        show Act.put _ (some 24) _=_
        simp only [Act.put,zi,zj,zk,zG,zH]
        rfl
       refine one_ (i:=9) (N:=some 25) (bm_ 10 12) rfl rfl (one_of HT_.out jA) jB (fun K hK=>?_);refine Kd.S_append_step k60 (w0:=w) w.heap.size (by rfl) (.tmp 17) (.tmp 24) 23 60 (.agg #[(.int .i64 0),(.slice none 0 0)]) 32 rfl Try.underlying23 info60 rfl jB jD u479000 x479000_1 (⟨(rd_T60 l0_0 x12_1).f0,t481⟩ : S60) [.int .i64 ((rd_T60 l0_0 x12_1).f0),.slice Ao24 t481.length co24] (fun k_=>k_≠gb480) (fun k_=>some k_=(.slice Ao24 t481.length co24 : Value).ownBlock) rfl rfl ?aP (fun k_ hk_=>((zM (ok':=fun k_=>((fun k_=>k_≠gb480)) k_∧some k_≠(u479000 : Value).ownBlock) (yf (Kd.R_apart' (HO483.out) (Kd.S_typed HO_479000.out) jB) BK480.out jB) (fun k_ hk=>⟨hk.2,hk.1.2⟩))).1 k_ hk_.symm) ?aF ?aO ?aB ?aS ?aL ?_;(case aP=>exact k60_mkM _ _ _ (⟨(rd_T60 l0_0 x12_1).f0,t481⟩ : S60) (zM (Kd.R_tight rfl (zM (ok':=fun k_=>((fun k_=>k_≠gb480)) k_∧some k_≠(u479000 : Value).ownBlock) (yf (Kd.R_apart' (HO483.out) (Kd.S_typed HO_479000.out) jB) BK480.out jB) (fun k_ hk=>⟨hk.2,hk.1.2⟩))) (fun _ h_=>h_)))
       (case aB=>exact jA3)
       (case aF=>exact (fun k_ hk=>Kd.freshB (g:=gb480) (o:=.cells #[.int .i64 ((rd_T60 l0_0 x12_1).f0),.slice A479_1 ((rd_T60 l0_0 x12_1).f1).length c479_1] 60 (0,0)) jB8 k_ hk))
       (case aO=>exact (by (with_reducible repeat (first|apply Kd.S_alloc|apply Kd.S_drewN|apply Kd.S_drew));exact Kd.S_mono HO_479000.out (fun k_ hk=>⟨hk.1,fun e_=>hk.2 e_⟩)))
       (case aS=>exact (zB jA3))
       (case aL=>have:=LMc15.out;omega)
       intro v485 w25 ho hb hg hat;rw [← Ny484.out] at ho;replace BK476:=zh (yv (g:=gb476) (o:=.cells #[.slice (some ad479) l0_0.length c0_0,.int .i64 a0_1] 25 (0,0)) jAn hg (Kd.S_ne HO_479000.out BK476.out jB));replace BK477:=zh (yv (g:=gb477) (o:=.cells #[.slice none 0 0,.int .i64 0] 25 (0,0)) jBM hg (Kd.S_ne HO_479000.out BK477.out jB));replace BK478:=zh (yv (g:=gb478) (o:=.cells #[u479000,.int .i64 a0_1] 25 (0,0)) jBg hg (Kd.S_ne HO_479000.out BK478.out jB));replace BK480:=zh (yv (g:=gb480) (o:=.cells #[.int .i64 ((rd_T60 l0_0 x12_1).f0),.slice A479_1 ((rd_T60 l0_0 x12_1).f1).length c479_1] 60 (0,0)) jB8 hg (Kd.S_away HO_479000.out (fun _ hk=>hk.1)));replace HB:=zh (hb);have HO486:=zh (ho);clear HO_479000 HO483 ho hb hg hat;obtain ⟨Ao26,co26,eo26⟩:=Kd.S_slice HO486.out;(first|subst eo26|(injection eo26 with f1_ f2_ f3_;have f4_:=f1_.symm;have f5_:=f3_.symm;clear f1_ f2_ f3_;subst f4_;subst f5_));refine hK.out _ _ ⟨(zz BK478.out 0).trans rfl,(zz BK478.out 1).trans rfl,(zz BK480.out 0).trans rfl,(zz BK480.out 1).trans rfl⟩ (fun hHeld=>?_);clear hK K;refine norm_ (a':=?_) ?_ ?_;rotate_left
       ·
        show Act.put _ (some 25) _=_
        simp only [Act.put,zi,zj,zk,zG,zH]
        rfl
       refine pure_ (i:=10) (N:=some 26) (v:=?_) (a':=?_) (bm_ 11 12) rfl rfl (any_of HT_.out jA) (fun _ _ _ h=>h) (Or.inl ⟨by rfl,?_⟩) ?_ ?_;rotate_left;exact jb;rotate_left;exact jc
       refine last_ (i:=11) (N:=none) (bm_ 12 12) rfl rfl (one_of HT_.out jA) jB (fun K hK=>?_);have hs27 : w25.cell? ⟨gb478,0,none⟩=some (u479000):=(zz BK478.out 0).trans rfl;have hfs27:=zA BK478.out 0;have hns27_0:=NB476_478.out;have hns27_1:=NB477_478.out;have hns27_3:=NB480_478.out;have hms27_0:=NB478_476.out;have hms27_1:=NB478_477.out;have hms27_3:=NB478_480.out;refine skip_ (w1:=?_) (by rfl) rfl ?_ ?_;rotate_left
       ·
        go_simp
        rfl
       refine hK.out _ _ ?_;clear hK K;refine done_ (done_of HT_.out jA) ?_
       try go_wp2
       go_roundg k1
       case measure=>have:=HK1.out;omega
       case rel=>exact ⟨(wrap64 (x12_1+1)),(y484),(.slice Ao26 y484.length co26),jE,H',⟨jR⟩,⟨by (with_reducible repeat (first|apply Kd.S_alloc|apply Kd.S_drewN|apply Kd.S_drew));exact Kd.S_mono (Kd.S_far (p:=⟨gb478,0,none⟩) (Kd.S_types HO486.out BK478.out jB) (fun _ hk=>hk.2) (.slice Ao26 y484.length co26)) (fun _ hk=>trivial)⟩,⟨by (with_reducible repeat first|apply ze|apply zf|apply zg);refine zS ?_ NB476_478.out _;(with_reducible repeat first|apply ze|apply zf|apply zg);exact BK476.out⟩,⟨by (with_reducible repeat first|apply ze|apply zf|apply zg);refine zS ?_ NB477_478.out _;(with_reducible repeat first|apply ze|apply zf|apply zg);exact BK477.out⟩,⟨by (with_reducible repeat first|apply ze|apply zf|apply zg);refine zL (cs:=#[u479000,.int .i64 a0_1]) ?_ 0 _ rfl;(with_reducible repeat first|apply ze|apply zf|apply zg);exact BK478.out⟩,⟨jA3⟩⟩
      rw [if_neg c15] at H;exact absurd H (by simp)
     rw [if_neg c13] at H;exact absurd H (by simp)
    rw [if_neg c12] at H;exact absurd H (by simp)
   rw [if_neg c11] at H;have c11b0 : decide (x12_1<(l0_0.length : Int))=false:=decide_eq_false c11;clear c11;simp only [Option.some.injEq,Prod.mk.injEq] at H;obtain ⟨rfl,rfl⟩:=H;have hnb28:=NB478_476.out;have hnc28:=NB476_478.out;have hnb29:=NB478_477.out;have hnc29:=NB477_478.out;obtain ⟨hcz30_0,hcz30_1,hfz30_0,hfz30_1⟩:=cB2 BK478.out;obtain ⟨Ao31,co31,eo31⟩:=Kd.S_slice HO_479000.out;subst eo31;have hnb32:=NB477_476.out;have hnc32:=NB476_477.out;obtain ⟨hcz33_0,hcz33_1,hfz33_0,hfz33_1⟩:=cB2 BK477.out
   go_wp2
   refine bodyPost_ret (results_cell_row rfl _ _ gb477 25 #[.slice Ao31 x479000_1.length co31,.int .i64 a0_1] (0,0) _ rfl (by (with_reducible repeat first|apply ze|apply zf|apply zg);refine zL (cs:=#[.slice Ao31 x479000_1.length co31,.int .i64 0]) ?_ 1 _ rfl;(with_reducible repeat first|apply ze|apply zf|apply zg);refine zL (cs:=#[.slice none 0 0,.int .i64 0]) ?_ 0 _ rfl;(with_reducible repeat first|apply ze|apply zf|apply zg);exact BK477.out) Try.underlying25 rfl jA) rfl ?_;exact ⟨_,jG,by (with_reducible repeat (first|apply Kd.S_alloc|apply Kd.S_drewN|apply Kd.S_drew));exact Kd.S_mono (Kd.S_far (p:=⟨gb477,1,none⟩) (Kd.S_far (p:=⟨gb477,0,none⟩) (Kd.S_types HO_479000.out BK477.out jB) (fun _ hk=>hk.2) (.slice Ao31 x479000_1.length co31)) (fun _ hk=>hk.2) (.int .i64 a0_1)) (fun _ hk=>trivial),jB7⟩

end Go.Proofs.Ytgifonogfgpjdaa.Q
end
