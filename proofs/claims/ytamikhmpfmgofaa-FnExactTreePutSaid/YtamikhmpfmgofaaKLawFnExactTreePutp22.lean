/- Texts of this claim, merged by a program of this session. -/
import Derived.Test.YtamikhmpfmgofaaProg
import Derived.Lib.Strings
import Derived.Lib.Slices
import Derived.Lib.Walk
import Derived.Lib.Bytealg
import Derived.Test.YtamikhmpfmgofaaKLawFnExactTreePutp12
import Derived.Test.YtamikhmpfmgofaaKLawFnExactTreePutp14
import Derived.Test.YtamikhmpfmgofaaKLawFnExactTreePutp16
import Derived.Test.YtamikhmpfmgofaaKLawFnExactTreePutp17
import Derived.Test.YtamikhmpfmgofaaKLawFnExactTreePutp18
import Derived.Test.YtamikhmpfmgofaaKLawFnExactTreePutp20
import Derived.Test.YtamikhmpfmgofaaKLawFnExactTreePutp21
section
namespace Go.Proofs.Ytamikhmpfmgofaa.Q
open Go.RowKit Go.Proofs.YtamikhmpfmgofaaW.PrintWords Go.Proofs.YtamikhmpfmgofaaW.PrintLast Go.Proofs.YtamikhmpfmgofaaW.PrintMore
attribute [local go_sem] max2_int min2_int max_two min_two max_three min_three max_four min_four max2_str min2_str str_geq str_gtr str_leq
set_option linter.unusedVariables false
set_option linter.unusedSimpArgs false



def errW : Option Int→Value
 | none => .nilIface
 | some c => .iface 0 (.int .i64 c)
theorem errW_none : errW none = .nilIface:=rfl
theorem errW_some (c : Int) : errW (some c) = .iface 0 (.int .i64 c):=rfl

theorem info3 : (Try.prog.info? 3).map (fun i=>(i.zero,i.size,i.bytes))=some (some (.int .i64 0),1,8):=by kernel_rfl
theorem info51 : (Try.prog.info? 51).map (fun i=>(i.zero,i.size,i.bytes))=some (some (.agg #[(.string ⟨#[]⟩),(.int .i64 0)]),2,24):=by kernel_rfl
theorem info67 : (Try.prog.info? 67).map (fun i=>(i.zero,i.size,i.bytes))=some (some (.agg #[(.int .i64 0),(.slice none 0 0)]),2,32):=by kernel_rfl
-- the values' own types
structure S47 where
 f0 : ByteArray
 f1 : Int
def z47 : S47:=⟨(⟨#[]⟩ : ByteArray),(0 : Int)⟩
def k47 : Kd S47:=Kd.iso (Kd.pair Kd.string (Kd.int .i64)) (fun x : S47=>(x.f0,x.f1))
theorem k47_open {w : World} {x : S47} {cs : List Value} (h : k47.K w x cs) : cs=[.string x.f0,.int .i64 x.f1]:=by
 obtain ⟨_,_,rfl,rfl,rfl⟩:=h
 exact rfl
def rd_T47 (xs : List S47) (i : Int) : S47:=xs.getD i.toNat z47
theorem at_T47 {w : World} {A : Option Addr} {n : Nat} {xs : List S47} (h : Kd.C k47 w A n xs) (i : Int) (h0 : 0≤i) (h1 : i<n) : ∃ ad ,A=some ad∧w.cell? (ad.add (i.toNat*2))=some (.string (rd_T47 xs i).f0)∧w.cell? ⟨(ad.add (i.toNat*2)).block,(ad.add (i.toNat*2)).off+1,none⟩=some (.int .i64 (rd_T47 xs i).f1):=by
 obtain ⟨ad,c,e,_,hK,hc0⟩:=Kd.C_get h z47 i h0 h1
 have hc : ∀ j u,c[j]? = some u→w.cell? (ad.add (i.toNat*2+j))=some u:=hc0
 obtain rfl:=k47_open hK
 exact ⟨ad,e,hc 0 _ rfl,by rw [← add_field _ _ 1 (by omega)];exact hc 1 _ rfl⟩

def rd_L3 (xs : List (List S47)) (i : Int) : (List S47):=xs.getD i.toNat ([] : List S47)
structure S79 where
 f0 : Int
 f1 : (List S47)
def z79 : S79:=⟨(0 : Int),([] : List S47)⟩
def k79 : Kd S79:=Kd.iso (Kd.pair (Kd.int .i64) (Kd.slice 47 k47)) (fun x : S79=>(x.f0,x.f1))
theorem k79_open {w : World} {x : S79} {cs : List Value} (h : k79.K w x cs) : ∃ A1 c1,cs=[.int .i64 x.f0,.slice A1 x.f1.length c1]∧x.f1.length≤c1∧k47.C w A1 x.f1.length x.f1:=by
 obtain ⟨_,_,rfl,rfl,⟨A1,c1,rfl,l1,g1⟩⟩:=h
 exact ⟨A1,c1,rfl,l1,g1⟩
def rd_T79 (xs : List S79) (i : Int) : S79:=xs.getD i.toNat z79
theorem at_T79 {w : World} {A : Option Addr} {n : Nat} {xs : List S79} (h : Kd.C k79 w A n xs) (i : Int) (h0 : 0≤i) (h1 : i<n) : ∃ ad A1 c1,A=some ad∧w.cell? (ad.add (i.toNat*2))=some (.int .i64 (rd_T79 xs i).f0)∧w.cell? ⟨(ad.add (i.toNat*2)).block,(ad.add (i.toNat*2)).off+1,none⟩=some (.slice A1 (rd_T79 xs i).f1.length c1)∧(rd_T79 xs i).f1.length≤c1∧k47.C w A1 (rd_T79 xs i).f1.length (rd_T79 xs i).f1:=by
 obtain ⟨ad,c,e,_,hK,hc0⟩:=Kd.C_get h z79 i h0 h1
 have hc : ∀ j u,c[j]? = some u→w.cell? (ad.add (i.toNat*2+j))=some u:=hc0
 obtain ⟨A1,c1,rfl,l1,g1⟩:=k79_open hK
 exact ⟨ad,A1,c1,e,hc 0 _ rfl,by rw [← add_field _ _ 1 (by omega)];exact hc 1 _ rfl,l1,g1⟩

structure S51 where
 f0 : ByteArray
 f1 : Int
def z51 : S51:=⟨(⟨#[]⟩ : ByteArray),(0 : Int)⟩
def k51 : Kd S51:=Kd.iso (Kd.pair Kd.string (Kd.int .i64)) (fun x : S51=>(x.f0,x.f1))
theorem k51_heap : Kd.Heap k51:=Kd.heap_iso _ (Kd.heap_pair Kd.heap_string (Kd.heap_int .i64))
theorem k51_open {w : World} {x : S51} {cs : List Value} (h : k51.K w x cs) : cs=[.string x.f0,.int .i64 x.f1]:=by
 obtain ⟨_,_,rfl,rfl,rfl⟩:=h
 exact rfl
theorem k51_openM {w : World} {base : Nat} {ok : Nat→Prop} {x : S51} {cs : List Value} (h : k51.M w base ok x cs) : cs=[.string x.f0,.int .i64 x.f1]:=by
 obtain ⟨_,_,rfl,rfl,rfl⟩:=h
 exact rfl
theorem k51_mkM (w : World) (base : Nat) (ok : Nat→Prop) (x : S51)  : k51.M w base ok x [.string x.f0,.int .i64 x.f1]:=⟨[.string x.f0],[.int .i64 x.f1],rfl,rfl,rfl⟩
def rd_T51 (xs : List S51) (i : Int) : S51:=xs.getD i.toNat z51
theorem at_T51 {w : World} {A : Option Addr} {n : Nat} {xs : List S51} (h : Kd.C k51 w A n xs) (i : Int) (h0 : 0≤i) (h1 : i<n) : ∃ ad ,A=some ad∧w.cell? (ad.add (i.toNat*2))=some (.string (rd_T51 xs i).f0)∧w.cell? ⟨(ad.add (i.toNat*2)).block,(ad.add (i.toNat*2)).off+1,none⟩=some (.int .i64 (rd_T51 xs i).f1):=by
 obtain ⟨ad,c,e,_,hK,hc0⟩:=Kd.C_get h z51 i h0 h1
 have hc : ∀ j u,c[j]? = some u→w.cell? (ad.add (i.toNat*2+j))=some u:=hc0
 obtain rfl:=k51_open hK
 exact ⟨ad,e,hc 0 _ rfl,by rw [← add_field _ _ 1 (by omega)];exact hc 1 _ rfl⟩

def rd_L6 (xs : List (List S51)) (i : Int) : (List S51):=xs.getD i.toNat ([] : List S51)
structure S67 where
 f0 : Int
 f1 : (List S51)
def z67 : S67:=⟨(0 : Int),([] : List S51)⟩
def k67 : Kd S67:=Kd.iso (Kd.pair (Kd.int .i64) (Kd.slice 51 k51)) (fun x : S67=>(x.f0,x.f1))
theorem k67_heap : Kd.Heap k67:=Kd.heap_iso _ (Kd.heap_pair (Kd.heap_int .i64) (Kd.heap_slice 51 k51_heap))
theorem k67_open {w : World} {x : S67} {cs : List Value} (h : k67.K w x cs) : ∃ A1 c1,cs=[.int .i64 x.f0,.slice A1 x.f1.length c1]∧x.f1.length≤c1∧k51.C w A1 x.f1.length x.f1:=by
 obtain ⟨_,_,rfl,rfl,⟨A1,c1,rfl,l1,g1⟩⟩:=h
 exact ⟨A1,c1,rfl,l1,g1⟩
theorem k67_openM {w : World} {base : Nat} {ok : Nat→Prop} {x : S67} {cs : List Value} (h : k67.M w base ok x cs) : ∃ v1,cs=[.int .i64 x.f0,v1]∧k51.R 51 w base ok v1 x.f1:=by
 obtain ⟨_,_,rfl,rfl,⟨v1,rfl,g1⟩⟩:=h
 exact ⟨v1,rfl,g1⟩
theorem k67_mk (w : World) (x : S67) {A1 : Option Addr} {c1 : Nat} (l1 : x.f1.length≤c1) (g1 : k51.C w A1 x.f1.length x.f1) : k67.K w x [.int .i64 x.f0,.slice A1 x.f1.length c1]:=⟨[.int .i64 x.f0],[.slice A1 x.f1.length c1],rfl,rfl,⟨A1,c1,rfl,l1,g1⟩⟩
theorem k67_mkM (w : World) (base : Nat) (ok : Nat→Prop) (x : S67) {v1 : Value} (g1 : k51.R 51 w base ok v1 x.f1) : k67.M w base ok x [.int .i64 x.f0,v1]:=⟨[.int .i64 x.f0],[v1],rfl,rfl,⟨v1,rfl,g1⟩⟩
theorem k67_openF {W : World} {ok : Nat→Prop} {x : S67} {cs : List Value} (h : Kd.FK k67 W ok x cs) : ∃ A1 c1,cs=[.int .i64 x.f0,.slice A1 x.f1.length c1]∧x.f1.length≤c1∧Kd.F k51 W ok A1 x.f1.length x.f1:=by
 obtain ⟨A1,c1,rfl,l1,_⟩:=k67_open (Kd.FK_now h)
 exact ⟨A1,c1,rfl,l1,(fun W' hW=>by obtain ⟨A1_,c1_,he,l1_,g1_⟩:=k67_open (h W' hW);injection (Option.some.inj (show some (Value.slice A1 x.f1.length c1)=some (Value.slice A1_ x.f1.length c1_) from congrArg (fun l=>l[1]?) he)) with ha_ _ _;rw [ha_];exact g1_)⟩
theorem k67_mkF (W : World) (ok : Nat→Prop) (x : S67) {A1 : Option Addr} {c1 : Nat} (l1 : x.f1.length≤c1) (g1 : Kd.F k51 W ok A1 x.f1.length x.f1) : Kd.FK k67 W ok x [.int .i64 x.f0,.slice A1 x.f1.length c1]:=fun W2 hW=>k67_mk W2 x l1 (g1 W2 hW)
def rd_T67 (xs : List S67) (i : Int) : S67:=xs.getD i.toNat z67
theorem at_T67 {w : World} {A : Option Addr} {n : Nat} {xs : List S67} (h : Kd.C k67 w A n xs) (i : Int) (h0 : 0≤i) (h1 : i<n) : ∃ ad A1 c1,A=some ad∧w.cell? (ad.add (i.toNat*2))=some (.int .i64 (rd_T67 xs i).f0)∧w.cell? ⟨(ad.add (i.toNat*2)).block,(ad.add (i.toNat*2)).off+1,none⟩=some (.slice A1 (rd_T67 xs i).f1.length c1)∧(rd_T67 xs i).f1.length≤c1∧k51.C w A1 (rd_T67 xs i).f1.length (rd_T67 xs i).f1:=by
 obtain ⟨ad,c,e,_,hK,hc0⟩:=Kd.C_get h z67 i h0 h1
 have hc : ∀ j u,c[j]? = some u→w.cell? (ad.add (i.toNat*2+j))=some u:=hc0
 obtain ⟨A1,c1,rfl,l1,g1⟩:=k67_open hK
 exact ⟨ad,A1,c1,e,hc 0 _ rfl,by rw [← add_field _ _ 1 (by omega)];exact hc 1 _ rfl,l1,g1⟩

def rd_L9 (xs : List (List S79)) (i : Int) : (List S79):=xs.getD i.toNat ([] : List S79)
structure S24 where
 f0 : (List S79)
 f1 : Int
def z24 : S24:=⟨([] : List S79),(0 : Int)⟩
def k24 : Kd S24:=Kd.iso (Kd.pair (Kd.slice 79 k79) (Kd.int .i64)) (fun x : S24=>(x.f0,x.f1))
theorem k24_open {w : World} {x : S24} {cs : List Value} (h : k24.K w x cs) : ∃ A0 c0,cs=[.slice A0 x.f0.length c0,.int .i64 x.f1]∧x.f0.length≤c0∧k79.C w A0 x.f0.length x.f0:=by
 obtain ⟨_,_,rfl,⟨A0,c0,rfl,l0,g0⟩,rfl⟩:=h
 exact ⟨A0,c0,rfl,l0,g0⟩
def rd_T24 (xs : List S24) (i : Int) : S24:=xs.getD i.toNat z24
structure S26 where
 f0 : ByteArray
 f1 : ByteArray
 f2 : Bool
def z26 : S26:=⟨(⟨#[]⟩ : ByteArray),(⟨#[]⟩ : ByteArray),false⟩
def k26 : Kd S26:=Kd.iso (Kd.pair Kd.string (Kd.pair Kd.string Kd.bool)) (fun x : S26=>(x.f0,x.f1,x.f2))
def rd_T26 (xs : List S26) (i : Int) : S26:=xs.getD i.toNat z26
abbrev bm_ (i n : Nat) : Array Bool:=(List.replicate i true++List.replicate (n - i) false).toArray
abbrev za:=@below_alloc
abbrev zb:=@pw_below_drewN
abbrev zc:=@below_drew1
abbrev zd:=@below_set
abbrev ze:=@blk_drewN
abbrev zf:=@blk_drew
abbrev zg:=@blk_alloc
abbrev zh:=@Aside0.mk
abbrev zi:=@List.setIfInBounds_toArray
abbrev zj:=@List.set_cons_zero
abbrev zk:=@List.set_cons_succ
abbrev zl:=@World.block_lt_of_cell?
abbrev zm:=@Kd.R_alloc
abbrev zn:=@Kd.R_drewN
abbrev zo:=@Kd.R_drew
abbrev zp:=@Kept.drewN
abbrev zq:=@Kept.drew
abbrev zr:=@Kept.alloc
abbrev zs:=@Kept.setCell
abbrev zt:=@List.map_toArray
abbrev zu:=@List.map_cons
abbrev zv:=@List.map_nil
abbrev zw:=@List.length_drop
abbrev zx:=@List.length_take
abbrev zy:=@of_decide_eq_true
abbrev zz:=@blk_cell
abbrev zA:=@blk_frozen
abbrev zB:=@below_size
abbrev zC:=@below_step
abbrev zD:=@blk_below
abbrev zE:=@Kd.R_far
abbrev zF:=@add_block
abbrev zG:=@i64_w
abbrev zH:=@i32_w
abbrev zI:=@box_event
abbrev zJ:=@gate_callee
abbrev zK:=@gate_dst
abbrev zL:=@blk_put
abbrev zM:=@Kd.R_mono
abbrev zN:=@LeO.none
abbrev zO:=@LeO.bind
abbrev zP:=@LeO.ite
abbrev zQ:=@LeO.refl
abbrev zR:=@cell_far
abbrev zS:=@blk_far
abbrev zT:=@Option.bind_eq_some_iff
abbrev zU:=@Option.some.inj
abbrev zV:=@Int.ofNat_lt
abbrev zW:=@Int.ofNat_le
abbrev zX:=@bne_eq_false_iff_eq
abbrev zY:=@beq_eq_false_iff_ne
abbrev zZ:=@bne_iff_ne
abbrev ya:=@beq_iff_eq
abbrev yb:=@Bool.eq_false_iff
abbrev yc:=@Nat.ne_of_lt
abbrev yd:=@Nat.ne_of_gt
abbrev ye:=@Nat.le_refl
abbrev yf:=@Kd.R_types
abbrev yg:=@Kd.R_below
abbrev yh:=@Kd.R_reads'
abbrev yi:=@blk_lt
abbrev yj:=@goesL_
abbrev yk:=@Kd.R_slice
abbrev yl:=@KeepBut.set_
abbrev ym:=@keep_drewN
abbrev yn:=@keep_alloc
abbrev yo:=@take_ofW
abbrev yp:=@Drawn0.refl
abbrev yq:=@Drawn0.step
abbrev yr:=@gt_iff_lt
abbrev ys:=@ge_iff_le
abbrev yt:=@errW_none
abbrev yu:=@errW_some
abbrev yv:=@blk_grown
abbrev yw:=@keep_drew
abbrev yx:=@Kd.R_lower
abbrev yy:=@gate_guard
abbrev yz:=@Kept.of_grown
abbrev yA:=@gate_builtin
theorem cB1 {w : World} {g : Nat} {t : TypeId} {a0 : Value} (h : w.heap[g]? = some (.cells #[a0] t (0, 0))) : w.cell? ⟨g, 0, none⟩ = some a0 ∧ w.frozen? ⟨g, 0, none⟩ = false := ⟨blk_cell h 0, blk_frozen h 0⟩
theorem cB2 {w : World} {g : Nat} {t : TypeId} {a0 a1 : Value} (h : w.heap[g]? = some (.cells #[a0, a1] t (0, 0))) : w.cell? ⟨g, 0, none⟩ = some a0 ∧ w.cell? ⟨g, 1, none⟩ = some a1 ∧ w.frozen? ⟨g, 0, none⟩ = false ∧ w.frozen? ⟨g, 1, none⟩ = false := ⟨blk_cell h 0, blk_cell h 1, blk_frozen h 0, blk_frozen h 1⟩
theorem cB3 {w : World} {g : Nat} {t : TypeId} {a0 a1 a2 : Value} (h : w.heap[g]? = some (.cells #[a0, a1, a2] t (0, 0))) : w.cell? ⟨g, 0, none⟩ = some a0 ∧ w.cell? ⟨g, 1, none⟩ = some a1 ∧ w.cell? ⟨g, 2, none⟩ = some a2 ∧ w.frozen? ⟨g, 0, none⟩ = false ∧ w.frozen? ⟨g, 1, none⟩ = false ∧ w.frozen? ⟨g, 2, none⟩ = false := ⟨blk_cell h 0, blk_cell h 1, blk_cell h 2, blk_frozen h 0, blk_frozen h 1, blk_frozen h 2⟩
theorem cB4 {w : World} {g : Nat} {t : TypeId} {a0 a1 a2 a3 : Value} (h : w.heap[g]? = some (.cells #[a0, a1, a2, a3] t (0, 0))) : w.cell? ⟨g, 0, none⟩ = some a0 ∧ w.cell? ⟨g, 1, none⟩ = some a1 ∧ w.cell? ⟨g, 2, none⟩ = some a2 ∧ w.cell? ⟨g, 3, none⟩ = some a3 ∧ w.frozen? ⟨g, 0, none⟩ = false ∧ w.frozen? ⟨g, 1, none⟩ = false ∧ w.frozen? ⟨g, 2, none⟩ = false ∧ w.frozen? ⟨g, 3, none⟩ = false := ⟨blk_cell h 0, blk_cell h 1, blk_cell h 2, blk_cell h 3, blk_frozen h 0, blk_frozen h 1, blk_frozen h 2, blk_frozen h 3⟩
theorem cB5 {w : World} {g : Nat} {t : TypeId} {a0 a1 a2 a3 a4 : Value} (h : w.heap[g]? = some (.cells #[a0, a1, a2, a3, a4] t (0, 0))) : w.cell? ⟨g, 0, none⟩ = some a0 ∧ w.cell? ⟨g, 1, none⟩ = some a1 ∧ w.cell? ⟨g, 2, none⟩ = some a2 ∧ w.cell? ⟨g, 3, none⟩ = some a3 ∧ w.cell? ⟨g, 4, none⟩ = some a4 ∧ w.frozen? ⟨g, 0, none⟩ = false ∧ w.frozen? ⟨g, 1, none⟩ = false ∧ w.frozen? ⟨g, 2, none⟩ = false ∧ w.frozen? ⟨g, 3, none⟩ = false ∧ w.frozen? ⟨g, 4, none⟩ = false := ⟨blk_cell h 0, blk_cell h 1, blk_cell h 2, blk_cell h 3, blk_cell h 4, blk_frozen h 0, blk_frozen h 1, blk_frozen h 2, blk_frozen h 3, blk_frozen h 4⟩
theorem cB6 {w : World} {g : Nat} {t : TypeId} {a0 a1 a2 a3 a4 a5 : Value} (h : w.heap[g]? = some (.cells #[a0, a1, a2, a3, a4, a5] t (0, 0))) : w.cell? ⟨g, 0, none⟩ = some a0 ∧ w.cell? ⟨g, 1, none⟩ = some a1 ∧ w.cell? ⟨g, 2, none⟩ = some a2 ∧ w.cell? ⟨g, 3, none⟩ = some a3 ∧ w.cell? ⟨g, 4, none⟩ = some a4 ∧ w.cell? ⟨g, 5, none⟩ = some a5 ∧ w.frozen? ⟨g, 0, none⟩ = false ∧ w.frozen? ⟨g, 1, none⟩ = false ∧ w.frozen? ⟨g, 2, none⟩ = false ∧ w.frozen? ⟨g, 3, none⟩ = false ∧ w.frozen? ⟨g, 4, none⟩ = false ∧ w.frozen? ⟨g, 5, none⟩ = false := ⟨blk_cell h 0, blk_cell h 1, blk_cell h 2, blk_cell h 3, blk_cell h 4, blk_cell h 5, blk_frozen h 0, blk_frozen h 1, blk_frozen h 2, blk_frozen h 3, blk_frozen h 4, blk_frozen h 5⟩
theorem cB7 {w : World} {g : Nat} {t : TypeId} {a0 a1 a2 a3 a4 a5 a6 : Value} (h : w.heap[g]? = some (.cells #[a0, a1, a2, a3, a4, a5, a6] t (0, 0))) : w.cell? ⟨g, 0, none⟩ = some a0 ∧ w.cell? ⟨g, 1, none⟩ = some a1 ∧ w.cell? ⟨g, 2, none⟩ = some a2 ∧ w.cell? ⟨g, 3, none⟩ = some a3 ∧ w.cell? ⟨g, 4, none⟩ = some a4 ∧ w.cell? ⟨g, 5, none⟩ = some a5 ∧ w.cell? ⟨g, 6, none⟩ = some a6 ∧ w.frozen? ⟨g, 0, none⟩ = false ∧ w.frozen? ⟨g, 1, none⟩ = false ∧ w.frozen? ⟨g, 2, none⟩ = false ∧ w.frozen? ⟨g, 3, none⟩ = false ∧ w.frozen? ⟨g, 4, none⟩ = false ∧ w.frozen? ⟨g, 5, none⟩ = false ∧ w.frozen? ⟨g, 6, none⟩ = false := ⟨blk_cell h 0, blk_cell h 1, blk_cell h 2, blk_cell h 3, blk_cell h 4, blk_cell h 5, blk_cell h 6, blk_frozen h 0, blk_frozen h 1, blk_frozen h 2, blk_frozen h 3, blk_frozen h 4, blk_frozen h 5, blk_frozen h 6⟩
theorem cB8 {w : World} {g : Nat} {t : TypeId} {a0 a1 a2 a3 a4 a5 a6 a7 : Value} (h : w.heap[g]? = some (.cells #[a0, a1, a2, a3, a4, a5, a6, a7] t (0, 0))) : w.cell? ⟨g, 0, none⟩ = some a0 ∧ w.cell? ⟨g, 1, none⟩ = some a1 ∧ w.cell? ⟨g, 2, none⟩ = some a2 ∧ w.cell? ⟨g, 3, none⟩ = some a3 ∧ w.cell? ⟨g, 4, none⟩ = some a4 ∧ w.cell? ⟨g, 5, none⟩ = some a5 ∧ w.cell? ⟨g, 6, none⟩ = some a6 ∧ w.cell? ⟨g, 7, none⟩ = some a7 ∧ w.frozen? ⟨g, 0, none⟩ = false ∧ w.frozen? ⟨g, 1, none⟩ = false ∧ w.frozen? ⟨g, 2, none⟩ = false ∧ w.frozen? ⟨g, 3, none⟩ = false ∧ w.frozen? ⟨g, 4, none⟩ = false ∧ w.frozen? ⟨g, 5, none⟩ = false ∧ w.frozen? ⟨g, 6, none⟩ = false ∧ w.frozen? ⟨g, 7, none⟩ = false := ⟨blk_cell h 0, blk_cell h 1, blk_cell h 2, blk_cell h 3, blk_cell h 4, blk_cell h 5, blk_cell h 6, blk_cell h 7, blk_frozen h 0, blk_frozen h 1, blk_frozen h 2, blk_frozen h 3, blk_frozen h 4, blk_frozen h 5, blk_frozen h 6, blk_frozen h 7⟩
theorem cD {w0 w w1 : World} {g : Nat} {o : Obj} (_ : w0.heap[g]? = some o) (h : w.heap[g]? = some o) (hb : Below w.heap.size w w1) : w1.heap[g]? = some o := blk_below h hb
theorem cH {w0 w w1 : World} {g : Nat} (h : Below w0.heap.size w0 w) (hb : Below w.heap.size w w1) (hg : g = w.heap.size) : w0.heap.size ≤ g ∧ Below w0.heap.size w0 w1 := ⟨hg ▸ h.size, below_step h hb⟩
theorem cS2 {w : World} {g b i0 i1 : Nat} {u0 u1 : Value} {t : TypeId} {cs : Array Value} (h : w.heap[g]? = some (.cells cs t (0, 0))) (hp : g ≠ b) : ((w.setCell ⟨b, i0, none⟩ u0).setCell ⟨b, i1, none⟩ u1).heap[g]? = some (.cells cs t (0, 0)) := blk_far (blk_far h hp u0) hp u1
theorem cS3 {w : World} {g b i0 i1 i2 : Nat} {u0 u1 u2 : Value} {t : TypeId} {cs : Array Value} (h : w.heap[g]? = some (.cells cs t (0, 0))) (hp : g ≠ b) : (((w.setCell ⟨b, i0, none⟩ u0).setCell ⟨b, i1, none⟩ u1).setCell ⟨b, i2, none⟩ u2).heap[g]? = some (.cells cs t (0, 0)) := blk_far (blk_far (blk_far h hp u0) hp u1) hp u2
theorem cS4 {w : World} {g b i0 i1 i2 i3 : Nat} {u0 u1 u2 u3 : Value} {t : TypeId} {cs : Array Value} (h : w.heap[g]? = some (.cells cs t (0, 0))) (hp : g ≠ b) : ((((w.setCell ⟨b, i0, none⟩ u0).setCell ⟨b, i1, none⟩ u1).setCell ⟨b, i2, none⟩ u2).setCell ⟨b, i3, none⟩ u3).heap[g]? = some (.cells cs t (0, 0)) := blk_far (blk_far (blk_far (blk_far h hp u0) hp u1) hp u2) hp u3
theorem cS5 {w : World} {g b i0 i1 i2 i3 i4 : Nat} {u0 u1 u2 u3 u4 : Value} {t : TypeId} {cs : Array Value} (h : w.heap[g]? = some (.cells cs t (0, 0))) (hp : g ≠ b) : (((((w.setCell ⟨b, i0, none⟩ u0).setCell ⟨b, i1, none⟩ u1).setCell ⟨b, i2, none⟩ u2).setCell ⟨b, i3, none⟩ u3).setCell ⟨b, i4, none⟩ u4).heap[g]? = some (.cells cs t (0, 0)) := blk_far (blk_far (blk_far (blk_far (blk_far h hp u0) hp u1) hp u2) hp u3) hp u4
theorem ja (P:Prop)[Decidable P](h:decide P=true:=by first|(with_reducible assumption)|assumption):P=True:=eq_true (zy h)
theorem jb{P:Prop}(h:P:=by intro w';go_simp;with_reducible rfl):P:=h
theorem jc{P:Prop}(h:P:=by simp only [Act.put,zi,zj,zk,zG,zH];rfl):P:=h
theorem jj {ops : Array Oper} {Q : Exit → Act → World → Prop} {rest : List Oper} {oi : Oper} {a : Act} {w : World} (N : Option Tmp) {f : FuncId} {as_ : Array Operand} {ts : Array TypeId} (hd : oi.dst = N) (hg : oi.guard = none) (hop : oi.op = .call { callee:=.value (.func f),args:=as_,argTypes:=ts }) (fn : Func) (args : Array Value)
 (h : Calls Try.prog f args w fun e w' => ∃ v,e = .returned v∧wpList Try.prog ops Q rest (a.put N v) w') (hf : Try.prog.funcs[f]? = some fn := by kernel_rfl) (hn : (fn.name == "runtime.NumGoroutine") = false := by exact rfl) (hb : fn.body.isSome = true := by exact rfl)
 (hargs : as_.map a.eval=args := by (try simp only [zt,zu,zv]);first|done|rfl|(simp only [zw,zx];rfl)|(simp only [yr,ys,zV,zW];rfl)) : wpList Try.prog ops Q (oi :: rest) a w := goesL_ N hd hg hf hn hb args hop hargs h
theorem jD{P:Prop}(h:P:=by omega):P:=h
theorem jB{P:Prop}(h:P:=by decide):P:=h
theorem jA{P:Prop}(h:P:=by kernel_rfl):P:=h
theorem jAI{P:Prop}(h:P:=by have:=HI.out;omega):P:=h
theorem jAo{P:Prop}(h:P:=by rw [htl];exact ye _):P:=h
theorem jAe{P:Prop}(h:P:=by rw [hYl];exact hjl2):P:=h
theorem jAE{P:Prop}(h:P:=by rw [hW2,hW1,hV];rfl):P:=h
theorem jAF{P:Prop}(h:P:=by have:=Hlm.out;omega):P:=h
theorem jL{P:Prop}(h:P:=by have:=HK1.out;omega):P:=h
theorem jAp{P:Prop}(h:P:=by simp [hcl,htl];omega):P:=h
theorem jAD{P:Prop}(h:P:=by simp [hcl,hil];omega):P:=h
theorem jAr{P:Prop}(h:P:=by rw [hlen];exact hR2t):P:=h
theorem jo{P:Prop}(h:P:=by simp [Value.ownBlock]):P:=h
theorem jw{P:Prop}(h:P:=by first|omega|exact ye _):P:=h
theorem jT{P:Prop}(h:P:=by simp [Act.eval,Act.put]):P:=h
theorem jI{P:Prop}(h:P:=by simp only [zt,zu,zv];rfl):P:=h
theorem jBA{P:Prop}(h:P:=by rw [if_neg jB];exact h):P:=h
theorem jJ{P:Prop}(h:P:=by repeat (first|exact yp _|apply yq)):P:=h
theorem jAd{P:Prop}(h:P:=by have:=XL.out;have:=HFL.out;simp;omega):P:=h
theorem jE{P:Prop}(h:P:=by first|rfl|(simp;done)|(simp [*];done)):P:=h
theorem jp{P:Prop}(h:P:=by injection hk with hk;subst hk;exact hPg):P:=h
theorem jAq{P:Prop}(h:P:=by simp only [List.size_toArray];exact hR2l):P:=h
theorem jAJ{P:Prop}(h:P:=by have:=HLM.out.2;have:=HIL.out;simp;omega):P:=h
theorem jC{P:Prop}(h:P:=by first|(with_reducible assumption)|assumption):P:=h
theorem jBw{P:Prop}(h:P:=by simp only [List.size_toArray];rw [hR1l,hdl];omega):P:=h
theorem jBx{P:Prop}(h:P:=by simp only [List.size_toArray];rw [hR1l,hcl];omega):P:=h
theorem jBc{P:Prop}(h:P:=by rw [← add_field _ _ 1 jD];exact hc 1 _ rfl):P:=h
theorem jAY{P:Prop}(h:P:=by have:=HJ1.out;have:=HK2.out;first|omega|exact ye _):P:=h
theorem jBu{P:Prop}(h:P:=by rw [zw];have:=Nat.mod_lt q (show 0<2 by decide);omega):P:=h
theorem jAK{P:Prop}(h:P:=by have:=HT2.out;have:=HYL2.out;have:=HJL2.out;simp;omega):P:=h
theorem jH{P:Prop}(h:P:=by first|rfl|(simp [yt,yu] <;> rfl)|(simp [*,yt,yu] <;> rfl)):P:=h
theorem jB2{P:Prop}(h:P:=by rw [if_neg hc1];exact (congrArg some (add_plain _ _)).symm):P:=h
theorem jBy{P:Prop}(h:P:=by repeat (first|exact Below.refl _ _|apply za|apply zc|apply zb)):P:=h
theorem jAt{P:Prop}(h:P:=by first|(simp [Act.eval,Act.put];done)|(simp [Act.eval,Act.put];omega)):P:=h
theorem jBv{P:Prop}(h:P:=by rw [hgo];rcases hat with hat|hat;exact .inl hat;exact .inr (.inr hat)):P:=h
theorem jX{P:Prop}(h:P:=by repeat (with_reducible first|exact HK.out|apply zr|apply zp|apply zq)):P:=h
theorem jF{P:Prop}(h:P:=by repeat (with_reducible first|exact HB.out|apply za|apply zb|apply zc)):P:=h
theorem jBX{P:Prop}(h:P:=by (with_reducible repeat first|apply ze|apply zf|apply zg);exact BK490.out):P:=h
theorem jBt{P:Prop}(h:P:=by (with_reducible repeat first|apply ze|apply zf|apply zg);exact BK482.out):P:=h
theorem jAn{P:Prop}(h:P:=by (with_reducible repeat first|apply ze|apply zf|apply zg);exact BK481.out):P:=h
theorem jAC{P:Prop}(h:P:=by (with_reducible repeat first|apply ze|apply zf|apply zg);exact BK476.out):P:=h
theorem jBE{P:Prop}(h:P:=by (with_reducible repeat first|apply ze|apply zf|apply zg);exact BK469.out):P:=h
theorem jAm{P:Prop}(h:P:=by (with_reducible repeat first|apply ze|apply zf|apply zg);exact BK467.out):P:=h
theorem jAO{P:Prop}(h:P:=by (with_reducible repeat first|apply ze|apply zf|apply zg);exact BK466.out):P:=h
theorem jt{P:Prop}(h:P:=by (with_reducible repeat first|apply ze|apply zf|apply zg);exact BK465.out):P:=h
theorem jh{P:Prop}(h:P:=by (with_reducible repeat first|apply ze|apply zf|apply zg);exact BK452.out):P:=h
theorem jf{P:Prop}(h:P:=by (with_reducible repeat first|apply ze|apply zf|apply zg);exact BK451.out):P:=h
theorem jW{P:Prop}(h:P:=by (with_reducible repeat first|apply ze|apply zf|apply zg);exact BK450.out):P:=h
theorem jx{P:Prop}(h:P:=by (with_reducible repeat first|apply ze|apply zf|apply zg);exact BK388.out):P:=h
theorem jk{P:Prop}(h:P:=by (with_reducible repeat first|apply ze|apply zf|apply zg);exact BK387.out):P:=h
theorem jA5{P:Prop}(h:P:=by (with_reducible repeat first|apply ze|apply zf|apply zg);exact BK307.out):P:=h
theorem jq{P:Prop}(h:P:=by (with_reducible repeat first|apply ze|apply zf|apply zg);exact BK306.out):P:=h
theorem jBV{P:Prop}(h:P:=by (with_reducible repeat first|apply ze|apply zf|apply zg);exact BK301.out):P:=h
theorem ju{P:Prop}(h:P:=by (with_reducible repeat first|apply ze|apply zf|apply zg);exact BK300.out):P:=h
theorem jAU{P:Prop}(h:P:=by (with_reducible repeat first|apply ze|apply zf|apply zg);exact BK293.out):P:=h
theorem jBq{P:Prop}(h:P:=by (with_reducible repeat first|apply ze|apply zf|apply zg);exact BK259.out):P:=h
theorem je{P:Prop}(h:P:=by (with_reducible repeat first|apply ze|apply zf|apply zg);exact BK257.out):P:=h
theorem jS{P:Prop}(h:P:=by (with_reducible repeat first|apply ze|apply zf|apply zg);exact BK256.out):P:=h
theorem jAA{P:Prop}(h:P:=by (with_reducible repeat first|apply ze|apply zf|apply zg);exact BK249.out):P:=h
theorem jK{P:Prop}(h:P:=by (with_reducible repeat first|apply ze|apply zf|apply zg);exact BK229.out):P:=h
theorem jBB{P:Prop}(h:P:=by (with_reducible repeat first|apply ze|apply zf|apply zg);exact BK221.out):P:=h
theorem jAM{P:Prop}(h:P:=by (with_reducible repeat first|apply ze|apply zf|apply zg);exact BK205.out):P:=h
theorem jAw{P:Prop}(h:P:=by (with_reducible repeat first|apply ze|apply zf|apply zg);exact BK197.out):P:=h
theorem jAT{P:Prop}(h:P:=by (with_reducible repeat first|apply ze|apply zf|apply zg);exact BK196.out):P:=h
theorem jBT{P:Prop}(h:P:=by (with_reducible repeat first|apply ze|apply zf|apply zg);exact BK182.out):P:=h
theorem jAv{P:Prop}(h:P:=by (with_reducible repeat first|apply ze|apply zf|apply zg);exact BK181.out):P:=h
theorem jBR{P:Prop}(h:P:=by (with_reducible repeat first|apply ze|apply zf|apply zg);exact BK172.out):P:=h
theorem jAu{P:Prop}(h:P:=by (with_reducible repeat first|apply ze|apply zf|apply zg);exact BK171.out):P:=h
theorem jy{P:Prop}(h:P:=by (with_reducible repeat first|apply ze|apply zf|apply zg);exact BK129.out):P:=h
theorem jl{P:Prop}(h:P:=by (with_reducible repeat first|apply ze|apply zf|apply zg);exact BK128.out):P:=h
theorem ji{P:Prop}(h:P:=by (with_reducible repeat first|apply ze|apply zf|apply zg);exact BK120.out):P:=h
theorem jU{P:Prop}(h:P:=by (with_reducible repeat first|apply ze|apply zf|apply zg);exact BK118.out):P:=h
theorem jP{P:Prop}(h:P:=by (with_reducible repeat first|apply ze|apply zf|apply zg);exact BK115.out):P:=h
theorem jAW{P:Prop}(h:P:=by (with_reducible repeat first|apply ze|apply zf|apply zg);exact BK113.out):P:=h
theorem jBP{P:Prop}(h:P:=by (with_reducible repeat first|apply ze|apply zf|apply zg);exact BK108.out):P:=h
theorem jBO{P:Prop}(h:P:=by (with_reducible repeat first|apply ze|apply zf|apply zg);exact BK104.out):P:=h
theorem jBW{P:Prop}(h:P:=by (with_reducible repeat (first|apply zm|apply zn|apply zo));exact HO0.out):P:=h
theorem jAs{P:Prop}(h:P:=by repeat (first|assumption|exact Below.refl _ _|apply za|apply zc|apply zb)):P:=h
theorem jZ{P:Prop}(h:P:=by (with_reducible repeat (first|apply zm|apply zn|apply zo));exact HO_6.out):P:=h
theorem jR{P:Prop}(h:P:=by (with_reducible repeat (first|apply zm|apply zn|apply zo));exact HO_3.out):P:=h
theorem jr{P:Prop}(h:P:=by (with_reducible repeat (first|apply zm|apply zn|apply zo));exact HO_0.out):P:=h
theorem jd{P:Prop}(h:P:=by (with_reducible repeat (first|apply zm|apply zn|apply zo));exact HO_67.out):P:=h
theorem jBh{P:Prop}(h:P:=by (with_reducible repeat (first|apply zm|apply zn|apply zo));exact HO247.out):P:=h
theorem jBb{P:Prop}(h:P:=by have:=HJ1.out;have:=HK2.out;have:=HJ14.out;have:=HK4.out;have:=HK5.out;omega):P:=h
theorem jBs{P:Prop}(h:P:=by first|rfl|(simp;done)|(simp only [← hji6] <;> (first|rfl|simp))|(simp [*];done)):P:=h
theorem jM{P:Prop}(h:P:=by first|(simp only [putAll,Act.put,zi,zj,zk];done)|(simp only [putAll,Act.put,zi,zj,zk];rfl)):P:=h
theorem jAV{P:Prop}(h:P:=by repeat (with_reducible first|exact HB.out|apply za|apply zb|apply zc|refine zd ?_ GE490.out)):P:=h
theorem jn{P:Prop}(h:P:=by repeat (with_reducible first|exact HB.out|apply za|apply zb|apply zc|refine zd ?_ GE476.out)):P:=h
theorem jA3{P:Prop}(h:P:=by repeat (with_reducible first|exact HB.out|apply za|apply zb|apply zc|refine zd ?_ GE306.out)):P:=h
theorem jA1{P:Prop}(h:P:=by repeat (with_reducible first|exact HB.out|apply za|apply zb|apply zc|refine zd ?_ GE300.out)):P:=h
theorem jAy{P:Prop}(h:P:=by repeat (with_reducible first|exact HB.out|apply za|apply zb|apply zc|refine zd ?_ GE293.out)):P:=h
theorem jN{P:Prop}(h:P:=by repeat (with_reducible first|exact HB.out|apply za|apply zb|apply zc|refine zd ?_ GE229.out)):P:=h
theorem jBd{P:Prop}(h:P:=by repeat (with_reducible first|exact HB.out|apply za|apply zb|apply zc|refine zd ?_ GE214.out)):P:=h
theorem jAL{P:Prop}(h:P:=by repeat (with_reducible first|exact HB.out|apply za|apply zb|apply zc|refine zd ?_ GE205.out)):P:=h
theorem jAX{P:Prop}(h:P:=by repeat (with_reducible first|exact HB.out|apply za|apply zb|apply zc|refine zd ?_ GE115.out)):P:=h
theorem jA6{P:Prop}(h:P:=by repeat (with_reducible first|exact HB.out|apply za|apply zb|apply zc|refine zd ?_ GE113.out)):P:=h
theorem jBY{P:Prop}(h:P:=by repeat (with_reducible first|exact HB.out|apply za|apply zb|apply zc|refine zd ?_ GE111.out)):P:=h
theorem jAR{P:Prop}(h:P:=by repeat (with_reducible first|exact HB.out|apply za|apply zb|apply zc|refine zd ?_ GE108.out)):P:=h
theorem jAQ{P:Prop}(h:P:=by repeat (with_reducible first|exact HB.out|apply za|apply zb|apply zc|refine zd ?_ GE104.out)):P:=h
theorem jBN{P:Prop}(h:P:=by repeat (with_reducible first|exact HB.out|apply za|apply zb|apply zc|refine zd ?_ GE101.out)):P:=h
theorem jG{P:Prop}(h:P:=by (try simp only [zt,zu,zv]);first|done|rfl|(simp only [zw,zx];rfl)|(simp only [yr,ys,zV,zW];rfl)):P:=h
theorem jBk{P:Prop}(h:P:=by (with_reducible repeat (first|apply zm|apply zn|apply zo));exact zM HO_6.out (fun _ hk=>trivial)):P:=h
theorem jAG{P:Prop}(h:P:=by (with_reducible repeat (first|apply Kd.S_alloc|apply Kd.S_drewN|apply Kd.S_drew));exact HO_3.out):P:=h
theorem jBl{P:Prop}(h:P:=by (with_reducible repeat (first|apply zm|apply zn|apply zo));exact zM HO_67.out (fun _ hk=>trivial)):P:=h
theorem jBp{P:Prop}(h:P:=by (with_reducible repeat (first|apply Kd.S_alloc|apply Kd.S_drewN|apply Kd.S_drew));exact HO_468000.out):P:=h
theorem jBK{P:Prop}(h:P:=by repeat (with_reducible first|exact HB.out|apply za|apply zb|apply zc|refine zd ?_ GE481.out|refine zd ?_ GE482.out)):P:=h
theorem jV{P:Prop}(h:P:=by repeat (with_reducible first|exact HB.out|apply za|apply zb|apply zc|refine zd ?_ GE387.out|refine zd ?_ GE388.out)):P:=h
theorem jv{P:Prop}(h:P:=by repeat (with_reducible first|exact HB.out|apply za|apply zb|apply zc|refine zd ?_ GE306.out|refine zd ?_ GE307.out)):P:=h
theorem jAH{P:Prop}(h:P:=by repeat (with_reducible first|exact HB.out|apply za|apply zb|apply zc|refine zd ?_ GE300.out|refine zd ?_ GE301.out)):P:=h
theorem jA0{P:Prop}(h:P:=by repeat (with_reducible first|exact HB.out|apply za|apply zb|apply zc|refine zd ?_ GE293.out|refine zd ?_ GE294.out)):P:=h
theorem jAP{P:Prop}(h:P:=by repeat (with_reducible first|exact HB.out|apply za|apply zb|apply zc|refine zd ?_ GE256.out|refine zd ?_ GE257.out)):P:=h
theorem jQ{P:Prop}(h:P:=by repeat (with_reducible first|exact HB.out|apply za|apply zb|apply zc|refine zd ?_ GE229.out|refine zd ?_ GE249.out)):P:=h
theorem jY{P:Prop}(h:P:=by repeat (with_reducible first|exact HB.out|apply za|apply zb|apply zc|refine zd ?_ GE229.out|refine zd ?_ GE236.out)):P:=h
theorem jBC{P:Prop}(h:P:=by repeat (with_reducible first|exact HB.out|apply za|apply zb|apply zc|refine zd ?_ GE221.out|refine zd ?_ GE222.out)):P:=h
theorem jAf{P:Prop}(h:P:=by repeat (with_reducible first|exact HB.out|apply za|apply zb|apply zc|refine zd ?_ GE205.out|refine zd ?_ GE210.out)):P:=h
theorem js{P:Prop}(h:P:=by repeat (with_reducible first|exact HB.out|apply za|apply zb|apply zc|refine zd ?_ GE128.out|refine zd ?_ GE129.out)):P:=h
theorem jA9{P:Prop}(h:P:=by repeat (with_reducible first|exact HB.out|apply za|apply zb|apply zc|refine zd ?_ GE115.out|refine zd ?_ GE118.out)):P:=h
theorem jA8{P:Prop}(h:P:=by repeat (with_reducible first|exact HB.out|apply za|apply zb|apply zc|refine zd ?_ GE113.out|refine zd ?_ GE114.out)):P:=h
theorem jBr{P:Prop}(h:P:=by (try simp only [zt,zu,zv]);first|done|(simp only [hji6];rfl)|rfl|(simp only [zw,zx];rfl)|(simp only [yr,ys,zV,zW];rfl)):P:=h
theorem jBi{P:Prop}(h:P:=by (try simp only [zt,zu,zv]);first|done|(simp only [hji66];rfl)|rfl|(simp only [zw,zx];rfl)|(simp only [yr,ys,zV,zW];rfl)):P:=h
theorem jBo{P:Prop}(h:P:=by first|exact Kd.S_nil _ _ _ _ _|exact Kd.N_nil _ _ _ _ _|exact Kd.V_nil _ _ _ _ _|exact Kd.Q_nil _ _ _ _ _|exact Kd.R_nil _ _ _ _ _):P:=h
theorem jBD{P:Prop}(h:P:=by repeat (with_reducible first|exact HB.out|apply za|apply zb|apply zc|refine zd ?_ GE465.out|refine zd ?_ GE466.out|refine zd ?_ GE467.out)):P:=h
theorem jg{P:Prop}(h:P:=by repeat (with_reducible first|exact HB.out|apply za|apply zb|apply zc|refine zd ?_ GE450.out|refine zd ?_ GE451.out|refine zd ?_ GE452.out)):P:=h
theorem jm{P:Prop}(h:P:=by repeat (with_reducible first|exact HB.out|apply za|apply zb|apply zc|refine zd ?_ GE256.out|refine zd ?_ GE257.out|refine zd ?_ GE259.out)):P:=h
theorem jAx{P:Prop}(h:P:=by repeat (with_reducible first|exact HB.out|apply za|apply zb|apply zc|refine zd ?_ GE196.out|refine zd ?_ GE197.out|refine zd ?_ GE198.out)):P:=h
theorem jAS{P:Prop}(h:P:=by repeat (with_reducible first|exact HB.out|apply za|apply zb|apply zc|refine zd ?_ GE181.out|refine zd ?_ GE182.out|refine zd ?_ GE183.out)):P:=h
theorem jO{P:Prop}(h:P:=by repeat (with_reducible first|exact HB.out|apply za|apply zb|apply zc|refine zd ?_ GE115.out|refine zd ?_ GE118.out|refine zd ?_ GE120.out)):P:=h
theorem jB1{P:Prop}(h:P:=by (with_reducible repeat first|apply ze|apply zf|apply zg);refine cS2 ?_ NB451_460.out;(with_reducible repeat first|apply ze|apply zf|apply zg);exact BK451.out):P:=h
theorem jBI{P:Prop}(h:P:=by (with_reducible repeat first|apply ze|apply zf|apply zg);refine cS2 ?_ NB257_259.out;(with_reducible repeat first|apply ze|apply zf|apply zg);exact BK257.out):P:=h
theorem jBH{P:Prop}(h:P:=by (with_reducible repeat first|apply ze|apply zf|apply zg);refine cS2 ?_ NB256_259.out;(with_reducible repeat first|apply ze|apply zf|apply zg);exact BK256.out):P:=h
theorem jAk{P:Prop}(h:P:=by (with_reducible repeat first|apply ze|apply zf|apply zg);refine cS2 ?_ NB229_249.out;(with_reducible repeat first|apply ze|apply zf|apply zg);exact BK229.out):P:=h
theorem jBf{P:Prop}(h:P:=by (with_reducible repeat first|apply ze|apply zf|apply zg);refine cS2 ?_ NB229_236.out;(with_reducible repeat first|apply ze|apply zf|apply zg);exact BK229.out):P:=h
theorem jAb{P:Prop}(h:P:=by (with_reducible repeat first|apply ze|apply zf|apply zg);refine cS2 ?_ NB118_120.out;(with_reducible repeat first|apply ze|apply zf|apply zg);exact BK118.out):P:=h
theorem jAZ{P:Prop}(h:P:=by (with_reducible repeat first|apply ze|apply zf|apply zg);refine cS2 ?_ NB115_120.out;(with_reducible repeat first|apply ze|apply zf|apply zg);exact BK115.out):P:=h
theorem jBZ{P:Prop}(h:P:=by (with_reducible repeat first|apply ze|apply zf|apply zg);refine cS2 ?_ NB115_118.out;(with_reducible repeat first|apply ze|apply zf|apply zg);exact BK115.out):P:=h
theorem jAB{P:Prop}(h:P:=by repeat (with_reducible first|exact HB.out|apply za|apply zb|apply zc|refine zd ?_ GE465.out|refine zd ?_ GE466.out|refine zd ?_ GE467.out|refine zd ?_ GE469.out)):P:=h
theorem jBM{P:Prop}(h:P:=by repeat (with_reducible first|exact HB.out|apply za|apply zb|apply zc|refine zd ?_ GE450.out|refine zd ?_ GE451.out|refine zd ?_ GE452.out|refine zd ?_ GE460.out)):P:=h
theorem jBn{P:Prop}(h:P:=by rw [hg];exact yc (yi (g:=gb466) (o:=.cells #[.slice none 0 0,.int .i64 0] 35 (0,0)) jAO)):P:=h
theorem jBz{P:Prop}(h:P:=by rw [hg];exact yc (yi (g:=gb451) (o:=.cells #[.string a1_0,.int .i64 a1_1] 51 (0,0)) jf)):P:=h
theorem jAz{P:Prop}(h:P:=by rw [hg];exact yc (yi (g:=gb293) (o:=.cells #[.string a0_0,.int .i64 a0_1] 51 (0,0)) jAU)):P:=h
theorem jBG{P:Prop}(h:P:=by rw [hg];exact yc (yi (g:=gb257) (o:=.cells #[.string a1_0,.int .i64 a1_1] 51 (0,0)) je)):P:=h
theorem jBQ{P:Prop}(h:P:=by rw [hg];exact yc (yi (g:=gb171) (o:=.cells #[.string a0_0,.int .i64 a0_1] 47 (0,0)) jAu)):P:=h
theorem jA7{P:Prop}(h:P:=by rw [hg];exact yc (yi (g:=gb113) (o:=.cells #[.string a0_0,.int .i64 a0_1] 51 (0,0)) jAW)):P:=h
theorem jBm{P:Prop}(h:P:=by rw [hg];exact yc (yi (g:=gb465) (o:=.cells #[.slice A0_0 l0_0.length c0_0,.int .i64 a0_1] 35 (0,0)) jt)):P:=h
theorem jBL{P:Prop}(h:P:=by rw [hg];exact yc (yi (g:=gb450) (o:=.cells #[.slice A0_0 l0_0.length c0_0,.int .i64 a0_1] 35 (0,0)) jW)):P:=h
theorem jA4{P:Prop}(h:P:=by rw [hg];exact yc (yi (g:=gb306) (o:=.cells #[.slice A0_0 l0_0.length c0_0,.int .i64 a0_1] 35 (0,0)) jq)):P:=h
theorem jA2{P:Prop}(h:P:=by rw [hg];exact yc (yi (g:=gb300) (o:=.cells #[.int .i64 a0_0,.slice A0_1 l0_1.length c0_1] 67 (0,0)) ju)):P:=h
theorem jAg{P:Prop}(h:P:=by rw [hg];exact yc (yi (g:=gb229) (o:=.cells #[.slice A0_0 l0_0.length c0_0,.int .i64 a0_1] 35 (0,0)) jK)):P:=h
theorem jBU{P:Prop}(h:P:=by rw [hg];exact yc (yi (g:=gb196) (o:=.cells #[.slice A0_0 l0_0.length c0_0,.int .i64 a0_1] 24 (0,0)) jAT)):P:=h
theorem jBS{P:Prop}(h:P:=by rw [hg];exact yc (yi (g:=gb181) (o:=.cells #[.int .i64 a0_0,.slice A0_1 l0_1.length c0_1] 79 (0,0)) jAv)):P:=h
theorem jBF{P:Prop}(h:P:=by rw [hg];exact yc (yi (g:=gb256) (o:=.cells #[.slice (some ad258) l0_0.length c0_0,.int .i64 a0_1] 35 (0,0)) jS)):P:=h
theorem jz{P:Prop}(h:P:=by rw [hg];exact yc (yi (g:=gb229) (o:=.cells #[.slice (some ad235) l0_0.length c0_0,.int .i64 a0_1] 35 (0,0)) jK)):P:=h
theorem jAh{P:Prop}(h:P:=by (with_reducible repeat (first|apply zm|apply zn|apply zo));exact zM (zE (p:=⟨gb249,1,none⟩) (zE (p:=⟨gb249,0,none⟩) (zM HO_6.out (fun k_ hk=>(⟨hk,hk.2⟩ : _∧k_≠gb249))) (fun _ hk=>hk.2) (.string ((rd_T51 t245 x69_3).f0))) (fun _ hk=>hk.2) (.int .i64 ((rd_T51 t245 x69_3).f1))) (fun _ hk=>hk.1.2)):P:=h
theorem jAi{P:Prop}(h:P:=by (with_reducible repeat (first|apply zm|apply zn|apply zo));exact zM (zE (p:=⟨gb249,1,none⟩) (zE (p:=⟨gb249,0,none⟩) (zM HO_67.out (fun k_ hk=>(⟨hk,hk.2⟩ : _∧k_≠gb249))) (fun _ hk=>hk.2) (.string ((rd_T51 t245 x69_3).f0))) (fun _ hk=>hk.2) (.int .i64 ((rd_T51 t245 x69_3).f1))) (fun _ hk=>hk.1.2)):P:=h
theorem jAN{P:Prop}(h:P:=by (with_reducible repeat (first|apply zm|apply zn|apply zo));exact (zM (zE (p:=⟨gb236,1,none⟩) (zE (p:=⟨gb236,0,none⟩) (yf HO_3.out BK236.out jB) (fun _ hk=>hk.2) (.int .i64 ((rd_T67 l0_0 x24_2).f0))) (fun _ hk=>hk.2) (.slice A235_1 ((rd_T67 l0_0 x24_2).f1).length c235_1)) (fun _ h_=>h_.1))):P:=h
theorem jBe{P:Prop}(h:P:=by (with_reducible repeat (first|apply zm|apply zn|apply zo));exact zM (zE (p:=⟨gb236,1,none⟩) (zE (p:=⟨gb236,0,none⟩) (yf HO_3.out BK236.out jB) (fun _ hk=>hk.2) (.int .i64 ((rd_T67 l0_0 x24_2).f0))) (fun _ hk=>hk.2) (.slice A235_1 ((rd_T67 l0_0 x24_2).f1).length c235_1)) (fun _ hk=>trivial)):P:=h
theorem jB0{P:Prop}(h:P:=by (with_reducible repeat (first|apply Kd.V_alloc|apply Kd.V_drewN|apply Kd.V_drew));exact (Kd.V_mono (Kd.V_far (p:=⟨gb460,1,none⟩) (Kd.V_far (p:=⟨gb460,0,none⟩) (Kd.V_mono HO457.out (fun k_ hk=>(⟨hk,hk.2⟩ : _∧k_≠gb460))) (fun _ hk=>hk.2) (.slice Ao34 t455.length co34)) (fun _ hk=>hk.2) (.int .i64 t458)) (fun _ h_=>h_.1))):P:=h
theorem jAc{P:Prop}(h:P:=by (with_reducible repeat first|apply ze|apply zf|apply zg);refine zL (cs:=#[.int .i64 ((rd_T67 l0_0 x4_2).f0),.slice none 0 0]) ?_ 1 _ rfl;(with_reducible repeat first|apply ze|apply zf|apply zg);refine zL (cs:=#[.int .i64 0,.slice none 0 0]) ?_ 0 _ rfl;(with_reducible repeat first|apply ze|apply zf|apply zg);exact BK120.out):P:=h
theorem jBg{P:Prop}(h:P:=by (with_reducible repeat first|apply ze|apply zf|apply zg);refine zL (cs:=#[.int .i64 ((rd_T67 l0_0 x24_2).f0),.slice none 0 0]) ?_ 1 _ rfl;(with_reducible repeat first|apply ze|apply zf|apply zg);refine zL (cs:=#[.int .i64 0,.slice none 0 0]) ?_ 0 _ rfl;(with_reducible repeat first|apply ze|apply zf|apply zg);exact BK236.out):P:=h
theorem jBJ{P:Prop}(h:P:=by (with_reducible repeat first|apply ze|apply zf|apply zg);refine zL (cs:=#[.int .i64 ((rd_T67 l0_0 x11_1).f0),.slice none 0 0]) ?_ 1 _ rfl;(with_reducible repeat first|apply ze|apply zf|apply zg);refine zL (cs:=#[.int .i64 0,.slice none 0 0]) ?_ 0 _ rfl;(with_reducible repeat first|apply ze|apply zf|apply zg);exact BK259.out):P:=h
theorem jAl{P:Prop}(h:P:=by (with_reducible repeat first|apply ze|apply zf|apply zg);refine zL (cs:=#[.string ((rd_T51 t245 x69_3).f0),.int .i64 0]) ?_ 1 _ rfl;(with_reducible repeat first|apply ze|apply zf|apply zg);refine zL (cs:=#[.string (⟨#[]⟩ : ByteArray),.int .i64 0]) ?_ 0 _ rfl;(with_reducible repeat first|apply ze|apply zf|apply zg);exact BK249.out):P:=h

def Fh.f (a0_0 : ByteArray) (a0_1 : Int) (a1 : Int) : Option (Int):=if (wrap64 (a1 - (a0_0.size : Int)))<0 then (some (-1)) else (some (wrap64 (a1 - (a0_0.size : Int))))
set_option maxHeartbeats 8000000 in
set_option maxRecDepth 100000 in
theorem Fh.calls (a0_0 : ByteArray) (a0_1 : Int) (a1 : Int) (r : Int) (w : World) (h : Fh.f a0_0 a0_1 a1=some r) :
  Calls Try.prog 20 #[.agg #[.string a0_0,.int .i64 a0_1],.int .i64 a1] w fun e w' => e = .returned (.int .i64 r)∧Below w.heap.size w w':=by
 have hu47:=Try.underlying47;have HB:=zh (Below.refl w.heap.size w);have H : (if (wrap64 (a1 - (a0_0.size : Int)))<0 then (some (-1)) else (some (wrap64 (a1 - (a0_0.size : Int)))))=some r:=h;clear h
 by_cases c3 : (wrap64 (a1 - (a0_0.size : Int)))<0
 ·
  rw [if_pos c3] at H
  have c3b0 : decide ((wrap64 (a1 - (a0_0.size : Int)))<0)=true:=decide_eq_true c3;clear c3;obtain rfl:=zU H
  go_enter Try.func20,Try.ntmps20
  go_wp2_with (first|((with_reducible refine zK (N:=2) rfl ?_);refine zI ?hg (N:=2) ?hd (cs:=#[.string a0_0,.int .i64 a0_1]) (t:=47) ?hr ?_;(case hd=>rfl);(case hg=>rfl);(case hr=>go_simp <;> rfl);intro gb101 hg w4 hbox hb;have BK101:=zh (hbox);have hH_:=cH jF hb hg;have GW101:=zh hH_.1;have GE101:=GW101;replace HB:=zh hH_.2;clear hb hbox hg hH_;obtain ⟨hcz5_0,hcz5_1,hfz5_0,hfz5_1⟩:=cB2 BK101.out))
  go_ret
  exact ⟨jH,jBN⟩
 rw [if_neg c3] at H;have c3b0 : decide ((wrap64 (a1 - (a0_0.size : Int)))<0)=false:=decide_eq_false c3;clear c3;obtain rfl:=zU H
 go_enter Try.func20,Try.ntmps20
 go_wp2_with (first|((with_reducible refine zK (N:=2) rfl ?_);refine zI ?hg (N:=2) ?hd (cs:=#[.string a0_0,.int .i64 a0_1]) (t:=47) ?hr ?_;(case hd=>rfl);(case hg=>rfl);(case hr=>go_simp <;> rfl);intro gb101 hg w6 hbox hb;have BK101:=zh (hbox);have hH_:=cH jF hb hg;have GW101:=zh hH_.1;have GE101:=GW101;replace HB:=zh hH_.2;clear hb hbox hg hH_;obtain ⟨hcz7_0,hcz7_1,hfz7_0,hfz7_1⟩:=cB2 BK101.out))
 go_ret
 exact ⟨jH,jBN⟩


def Fp.l0 : Nat→List (S47)→Int→Int→Option (Int)
 | 0,_,_,_=>none
 | k+1,x0,x1,x5=>if x5<(x0.length : Int) then (if 0≤x5 then ((Fh.f ((rd_T47 x0 x5).f0) ((rd_T47 x0 x5).f1) x1).bind fun t103=>(if t103<0 then (some (-1)) else (Fp.l0 k x0 t103 (wrap64 (x5+1))))) else (none)) else (some x1)
def Fp.f (k : Nat) (l0 : List (S47)) (a1 : Int) : Option (Int):=if (wrap64 (a1 - (l0.length : Int)))<0 then (some (-1)) else (Fp.l0 k l0 (wrap64 (a1 - (l0.length : Int))) 0)
theorem Fp.mono_l : ∀ k,(∀ y0 y1 y2,LeO (Fp.l0 k y0 y1 y2) (Fp.l0 (k+1) y0 y1 y2))
 | 0=>fun _ _ _ r h=>by simp [Fp.l0] at h
 | k+1=>by
  have ih0:=Fp.mono_l k;intro y0 y1 y2;unfold Fp.l0
  repeat' first|(with_reducible first|exact ih0 _ _ _|exact zQ _|exact zN _|refine zP ?_ ?_|refine zO ?_ (fun _=>?_))|refine zP ?_ ?_|refine zO ?_ (fun _=>?_)
theorem Fp.mono : ∀ a0 a1 k,LeO (Fp.f k a0 a1) (Fp.f (k+1) a0 a1):=by
 intro a0 a1 k;have ih0:=Fp.mono_l k;unfold Fp.f
 repeat' first|(with_reducible first|exact ih0 _ _ _|exact zQ _|exact zN _|refine zP ?_ ?_|refine zO ?_ (fun _=>?_))|refine zP ?_ ?_|refine zO ?_ (fun _=>?_)
set_option maxHeartbeats 8000000 in
set_option maxRecDepth 100000 in
theorem Fp.calls (k : Nat) (A0 : Option Addr) (c0 : Nat) (l0 : List (S47)) (a1 : Int) (r : Int) (w : World) (hr0 : Kd.C k47 w A0 l0.length l0) (hc0 : l0.length≤c0) (h : Fp.f k l0 a1=some r) :
  Calls Try.prog 67 #[.slice A0 l0.length c0,.int .i64 a1] w fun e w' => e = .returned (.int .i64 r)∧Below w.heap.size w w':=by
 have hu47:=Try.underlying47;have HR0:=zh hr0;have HC0:=zh hc0;clear hr0 hc0;have HB:=zh (Below.refl w.heap.size w);have H : (if (wrap64 (a1 - (l0.length : Int)))<0 then (some (-1)) else (Fp.l0 k l0 (wrap64 (a1 - (l0.length : Int))) 0))=some r:=h;clear h
 by_cases c3 : (wrap64 (a1 - (l0.length : Int)))<0
 ·
  rw [if_pos c3] at H
  have c3b0 : decide ((wrap64 (a1 - (l0.length : Int)))<0)=true:=decide_eq_true c3;clear c3;obtain rfl:=zU H
  go_enter Try.func67,Try.ntmps67
  go_wp2
  go_ret
  exact ⟨jH,jF⟩
 rw [if_neg c3] at H;have c3b0 : decide ((wrap64 (a1 - (l0.length : Int)))<0)=false:=decide_eq_false c3;clear c3;have H':=zh H;clear H
 go_enter Try.func67,Try.ntmps67
 go_wp2
 go_loopg [1,5] k (fun kq v1 v5 w' => ∃ (x1_1 : Int) (x5_1 : Int),v1 = .int .i64 x1_1∧v5 = .int .i64 x5_1∧Aside0 (Fp.l0 kq l0 x1_1 x5_1=some r)∧Aside0 (kq≤k)∧Aside0 (Below w.heap.size w w'))
 case atStart=>exact ⟨(wrap64 (a1 - (l0.length : Int))),(0),jE,jE,H',⟨ye _⟩,⟨jF⟩⟩
 case round =>
  clear H'
  try clear p2
  try clear c3 c3b0
  obtain ⟨x1_1,x5_1,rfl,rfl,HA,HK1,HB⟩:=hrel
  cases gk with
  | zero=>exact absurd HA.out (by simp [Fp.l0])
  | succ k1 =>
   have H:=HA.out;clear HA;simp only [Fp.l0] at H
   by_cases c4 : x5_1<(l0.length : Int)
   ·
    rw [if_pos c4] at H
    have c4b0 : decide (x5_1<(l0.length : Int))=true:=decide_eq_true c4;clear c4
    by_cases c5 : 0≤x5_1
    ·
     rw [if_pos c5] at H
     have c5b0 : decide (0≤x5_1)=true:=decide_eq_true c5;clear c5;replace H:=zT.mp H;obtain ⟨t103,A60,H⟩:=H;have A6:=zh A60;clear A60
     by_cases c7 : t103<0
     ·
      rw [if_pos c7] at H
      have c7b0 : decide (t103<0)=true:=decide_eq_true c7;clear c7;obtain rfl:=zU H;have p102 : 0≤(x5_1 : Int):=zy jC;have q102 : x5_1<(l0.length : Int):=zy jC;obtain ⟨ad102,e102,hx102_0,hx102_1⟩:=at_T47 HR0.out x5_1 p102 q102
      cases e102
      replace hx102_0:=(HB.out.cell (zl w _ hx102_0)).trans hx102_0;replace hx102_1:=(HB.out.cell (zl w _ hx102_1)).trans hx102_1;replace p102:=eq_true p102;replace q102:=eq_true q102
      go_wp2_with (first|((with_reducible refine zJ (f:=20) rfl ?_);refine yj (some 23) rfl rfl Try.func20 jA rfl #[.agg #[.string ((rd_T47 l0 x5_1).f0),.int .i64 ((rd_T47 l0 x5_1).f1)],.int .i64 x1_1] rfl jG ?_;(with_reducible refine (Fh.calls  ((rd_T47 l0 x5_1).f0) ((rd_T47 l0 x5_1).f1) x1_1 t103 _ A6.out).mono ?_);rintro e w8 ⟨rfl,hb⟩;refine ⟨_,rfl,?_⟩;replace HB:=zh (zC jF hb);(try clear hb);(try clear hb2);(try clear hk);(try clear hi)))
      go_ret
      exact ⟨jH,jF⟩
     rw [if_neg c7] at H;have c7b0 : decide (t103<0)=false:=decide_eq_false c7;clear c7;have H':=zh H;clear H;have p102 : 0≤(x5_1 : Int):=zy jC;have q102 : x5_1<(l0.length : Int):=zy jC;obtain ⟨ad102,e102,hx102_0,hx102_1⟩:=at_T47 HR0.out x5_1 p102 q102
     cases e102
     replace hx102_0:=(HB.out.cell (zl w _ hx102_0)).trans hx102_0;replace hx102_1:=(HB.out.cell (zl w _ hx102_1)).trans hx102_1;replace p102:=eq_true p102;replace q102:=eq_true q102
     go_wp2_with (first|((with_reducible refine zJ (f:=20) rfl ?_);refine yj (some 23) rfl rfl Try.func20 jA rfl #[.agg #[.string ((rd_T47 l0 x5_1).f0),.int .i64 ((rd_T47 l0 x5_1).f1)],.int .i64 x1_1] rfl jG ?_;(with_reducible refine (Fh.calls  ((rd_T47 l0 x5_1).f0) ((rd_T47 l0 x5_1).f1) x1_1 t103 _ A6.out).mono ?_);rintro e w9 ⟨rfl,hb⟩;refine ⟨_,rfl,?_⟩;replace HB:=zh (zC jF hb);(try clear hb);(try clear hb2);(try clear hk);(try clear hi)))
     go_roundg k1
     case measure=>have:=HK1.out;omega
     case rel=>exact ⟨(t103),(wrap64 (x5_1+1)),jE,jE,H',⟨jL⟩,⟨jF⟩⟩
    rw [if_neg c5] at H;exact absurd H (by simp)
   rw [if_neg c4] at H;have c4b0 : decide (x5_1<(l0.length : Int))=false:=decide_eq_false c4;clear c4;obtain rfl:=zU H
   go_wp2
   go_ret
   exact ⟨jH,jF⟩


def Fd.f (k : Nat) (a0_0 : Int) (l0_1 : List (S47)) (a1 : Int) : Option (Int):=(Fp.f k l0_1 a1).bind fun t105=>(if t105<0 then (some (-1)) else (some t105))
theorem Fd.mono : ∀ a0 a1 a2 k,LeO (Fd.f k a0 a1 a2) (Fd.f (k+1) a0 a1 a2):=by
 intro a0 a1 a2 k;unfold Fd.f
 repeat' first|(with_reducible first|exact Fp.mono _ _ _|exact zQ _|exact zN _|refine zP ?_ ?_|refine zO ?_ (fun _=>?_))|refine zP ?_ ?_|refine zO ?_ (fun _=>?_)
set_option maxHeartbeats 8000000 in
set_option maxRecDepth 100000 in
theorem Fd.calls (k : Nat) (a0_0 : Int) (A0_1 : Option Addr) (c0_1 : Nat) (l0_1 : List (S47)) (a1 : Int) (r : Int) (w : World) (hr0_1 : Kd.C k47 w A0_1 l0_1.length l0_1) (hc0_1 : l0_1.length≤c0_1) (h : Fd.f k a0_0 l0_1 a1=some r) :
  Calls Try.prog 50 #[.agg #[.int .i64 a0_0,.slice A0_1 l0_1.length c0_1],.int .i64 a1] w fun e w' => e = .returned (.int .i64 r)∧Below w.heap.size w w':=by
 have hu79:=Try.underlying79;have HR0_1:=zh hr0_1;have HC0_1:=zh hc0_1;clear hr0_1 hc0_1;have HB:=zh (Below.refl w.heap.size w);have H : ((Fp.f k l0_1 a1).bind fun t105=>(if t105<0 then (some (-1)) else (some t105)))=some r:=h;clear h;replace H:=zT.mp H;obtain ⟨t105,A30,H⟩:=H;have A3:=zh A30;clear A30
 by_cases c4 : t105<0
 ·
  rw [if_pos c4] at H
  have c4b0 : decide (t105<0)=true:=decide_eq_true c4;clear c4;obtain rfl:=zU H
  go_enter Try.func50,Try.ntmps50
  go_wp2_with (first|((with_reducible refine zK (N:=2) rfl ?_);refine zI ?hg (N:=2) ?hd (cs:=#[.int .i64 a0_0,.slice A0_1 l0_1.length c0_1]) (t:=79) ?hr ?_;(case hd=>rfl);(case hg=>rfl);(case hr=>go_simp <;> rfl);intro gb104 hg w5 hbox hb;have BK104:=zh (hbox);have hH_:=cH jF hb hg;have GW104:=zh hH_.1;have GE104:=GW104;replace HB:=zh hH_.2;clear hb hbox hg hH_;obtain ⟨hcz6_0,hcz6_1,hfz6_0,hfz6_1⟩:=cB2 BK104.out)|((with_reducible refine zJ (f:=67) rfl ?_);refine yj (some 8) rfl rfl Try.func67 jA rfl #[.slice A0_1 l0_1.length c0_1,.int .i64 a1] rfl jG ?_;(with_reducible refine (Fp.calls k  _ _ l0_1 a1 t105 _ ?side1 ?side2 A3.out).mono ?_);(case side1=>repeat (first|exact (Kd.C_below HR0_1.out HB.out)|(with_reducible refine Kd.C_alloc ?_ _)|(with_reducible refine Kd.C_drewN ?_ _)|(with_reducible refine Kd.C_drew ?_)));(case side2=>exact HC0_1.out);rintro e w7 ⟨rfl,hb⟩;refine ⟨_,rfl,?_⟩;replace BK104:=zh (cD BK104.out jBO hb);replace HB:=zh (zC jAQ hb);(try clear hb);(try clear hb2);(try clear hk);(try clear hi)))
  go_ret
  exact ⟨jH,jAQ⟩
 rw [if_neg c4] at H;have c4b0 : decide (t105<0)=false:=decide_eq_false c4;clear c4;obtain rfl:=zU H
 go_enter Try.func50,Try.ntmps50
 go_wp2_with (first|((with_reducible refine zK (N:=2) rfl ?_);refine zI ?hg (N:=2) ?hd (cs:=#[.int .i64 a0_0,.slice A0_1 l0_1.length c0_1]) (t:=79) ?hr ?_;(case hd=>rfl);(case hg=>rfl);(case hr=>go_simp <;> rfl);intro gb104 hg w8 hbox hb;have BK104:=zh (hbox);have hH_:=cH jF hb hg;have GW104:=zh hH_.1;have GE104:=GW104;replace HB:=zh hH_.2;clear hb hbox hg hH_;obtain ⟨hcz9_0,hcz9_1,hfz9_0,hfz9_1⟩:=cB2 BK104.out)|((with_reducible refine zJ (f:=67) rfl ?_);refine yj (some 8) rfl rfl Try.func67 jA rfl #[.slice A0_1 l0_1.length c0_1,.int .i64 a1] rfl jG ?_;(with_reducible refine (Fp.calls k  _ _ l0_1 a1 t105 _ ?side1 ?side2 A3.out).mono ?_);(case side1=>repeat (first|exact (Kd.C_below HR0_1.out HB.out)|(with_reducible refine Kd.C_alloc ?_ _)|(with_reducible refine Kd.C_drewN ?_ _)|(with_reducible refine Kd.C_drew ?_)));(case side2=>exact HC0_1.out);rintro e w10 ⟨rfl,hb⟩;refine ⟨_,rfl,?_⟩;replace BK104:=zh (cD BK104.out jBO hb);replace HB:=zh (zC jAQ hb);(try clear hb);(try clear hb2);(try clear hk);(try clear hi)))
 go_ret
 exact ⟨jH,jAQ⟩


def Fq.l0 : Nat→List (S79)→Int→Int→Option (Int)
 | 0,_,_,_=>none
 | k+1,x0,x1,x5=>if x5<(x0.length : Int) then (if 0≤x5 then ((Fd.f k ((rd_T79 x0 x5).f0) ((rd_T79 x0 x5).f1) x1).bind fun t107=>(if t107<0 then (some (-1)) else (Fq.l0 k x0 t107 (wrap64 (x5+1))))) else (none)) else (some x1)
def Fq.f (k : Nat) (l0 : List (S79)) (a1 : Int) : Option (Int):=if (wrap64 (a1 - (l0.length : Int)))<0 then (some (-1)) else (Fq.l0 k l0 (wrap64 (a1 - (l0.length : Int))) 0)
theorem Fq.mono_l : ∀ k,(∀ y0 y1 y2,LeO (Fq.l0 k y0 y1 y2) (Fq.l0 (k+1) y0 y1 y2))
 | 0=>fun _ _ _ r h=>by simp [Fq.l0] at h
 | k+1=>by
  have ih0:=Fq.mono_l k;intro y0 y1 y2;unfold Fq.l0
  repeat' first|(with_reducible first|exact ih0 _ _ _|exact Fd.mono _ _ _ _|exact zQ _|exact zN _|refine zP ?_ ?_|refine zO ?_ (fun _=>?_))|refine zP ?_ ?_|refine zO ?_ (fun _=>?_)
theorem Fq.mono : ∀ a0 a1 k,LeO (Fq.f k a0 a1) (Fq.f (k+1) a0 a1):=by
 intro a0 a1 k;have ih0:=Fq.mono_l k;unfold Fq.f
 repeat' first|(with_reducible first|exact ih0 _ _ _|exact Fd.mono _ _ _ _|exact zQ _|exact zN _|refine zP ?_ ?_|refine zO ?_ (fun _=>?_))|refine zP ?_ ?_|refine zO ?_ (fun _=>?_)
set_option maxHeartbeats 8000000 in
set_option maxRecDepth 100000 in
theorem Fq.calls (k : Nat) (A0 : Option Addr) (c0 : Nat) (l0 : List (S79)) (a1 : Int) (r : Int) (w : World) (hr0 : Kd.C k79 w A0 l0.length l0) (hc0 : l0.length≤c0) (h : Fq.f k l0 a1=some r) :
  Calls Try.prog 27 #[.slice A0 l0.length c0,.int .i64 a1] w fun e w' => e = .returned (.int .i64 r)∧Below w.heap.size w w':=by
 have hu79:=Try.underlying79;have HR0:=zh hr0;have HC0:=zh hc0;clear hr0 hc0;have HB:=zh (Below.refl w.heap.size w);have H : (if (wrap64 (a1 - (l0.length : Int)))<0 then (some (-1)) else (Fq.l0 k l0 (wrap64 (a1 - (l0.length : Int))) 0))=some r:=h;clear h
 by_cases c3 : (wrap64 (a1 - (l0.length : Int)))<0
 ·
  rw [if_pos c3] at H
  have c3b0 : decide ((wrap64 (a1 - (l0.length : Int)))<0)=true:=decide_eq_true c3;clear c3;obtain rfl:=zU H
  go_enter Try.func27,Try.ntmps27
  go_wp2
  go_ret
  exact ⟨jH,jF⟩
 rw [if_neg c3] at H;have c3b0 : decide ((wrap64 (a1 - (l0.length : Int)))<0)=false:=decide_eq_false c3;clear c3;have H':=zh H;clear H
 go_enter Try.func27,Try.ntmps27
 go_wp2
 go_loopg [1,5] k (fun kq v1 v5 w' => ∃ (x1_1 : Int) (x5_1 : Int),v1 = .int .i64 x1_1∧v5 = .int .i64 x5_1∧Aside0 (Fq.l0 kq l0 x1_1 x5_1=some r)∧Aside0 (kq≤k)∧Aside0 (Below w.heap.size w w'))
 case atStart=>exact ⟨(wrap64 (a1 - (l0.length : Int))),(0),jE,jE,H',⟨ye _⟩,⟨jF⟩⟩
 case round =>
  clear H'
  try clear c2
  try clear p2
  try clear c3 c3b0
  obtain ⟨x1_1,x5_1,rfl,rfl,HA,HK1,HB⟩:=hrel
  cases gk with
  | zero=>exact absurd HA.out (by simp [Fq.l0])
  | succ k1 =>
   have H:=HA.out;clear HA;simp only [Fq.l0] at H
   by_cases c4 : x5_1<(l0.length : Int)
   ·
    rw [if_pos c4] at H
    have c4b0 : decide (x5_1<(l0.length : Int))=true:=decide_eq_true c4;clear c4
    by_cases c5 : 0≤x5_1
    ·
     rw [if_pos c5] at H
     have c5b0 : decide (0≤x5_1)=true:=decide_eq_true c5;clear c5;replace H:=zT.mp H;obtain ⟨t107,A60,H⟩:=H;have A6:=zh A60;clear A60
     by_cases c7 : t107<0
     ·
      rw [if_pos c7] at H
      have c7b0 : decide (t107<0)=true:=decide_eq_true c7;clear c7;obtain rfl:=zU H;have p106 : 0≤(x5_1 : Int):=zy jC;have q106 : x5_1<(l0.length : Int):=zy jC;obtain ⟨ad106,A106_1,c106_1,e106,hx106_0,hx106_1,hl106_1,hi106_1⟩:=at_T79 HR0.out x5_1 p106 q106
      cases e106
      replace hx106_0:=(HB.out.cell (zl w _ hx106_0)).trans hx106_0;replace hx106_1:=(HB.out.cell (zl w _ hx106_1)).trans hx106_1;have HR106_1:=zh hi106_1;have HC106_1:=zh hl106_1;clear hi106_1 hl106_1;replace p106:=eq_true p106;replace q106:=eq_true q106
      go_wp2_with (first|((with_reducible refine zJ (f:=50) rfl ?_);refine yj (some 23) rfl rfl Try.func50 jA rfl #[.agg #[.int .i64 ((rd_T79 l0 x5_1).f0),.slice A106_1 ((rd_T79 l0 x5_1).f1).length c106_1],.int .i64 x1_1] rfl jG ?_;(with_reducible refine (Fd.calls k1  ((rd_T79 l0 x5_1).f0) _ _ ((rd_T79 l0 x5_1).f1) x1_1 t107 _ ?side1 ?side2 A6.out).mono ?_);(case side1=>repeat (first|exact (Kd.C_below HR106_1.out HB.out)|(with_reducible refine Kd.C_alloc ?_ _)|(with_reducible refine Kd.C_drewN ?_ _)|(with_reducible refine Kd.C_drew ?_)));(case side2=>exact HC106_1.out);rintro e w8 ⟨rfl,hb⟩;refine ⟨_,rfl,?_⟩;replace HB:=zh (zC jF hb);(try clear hb);(try clear hb2);(try clear hk);(try clear hi)))
      go_ret
      exact ⟨jH,jF⟩
     rw [if_neg c7] at H;have c7b0 : decide (t107<0)=false:=decide_eq_false c7;clear c7;have H':=zh H;clear H;have p106 : 0≤(x5_1 : Int):=zy jC;have q106 : x5_1<(l0.length : Int):=zy jC;obtain ⟨ad106,A106_1,c106_1,e106,hx106_0,hx106_1,hl106_1,hi106_1⟩:=at_T79 HR0.out x5_1 p106 q106
     cases e106
     replace hx106_0:=(HB.out.cell (zl w _ hx106_0)).trans hx106_0;replace hx106_1:=(HB.out.cell (zl w _ hx106_1)).trans hx106_1;have HR106_1:=zh hi106_1;have HC106_1:=zh hl106_1;clear hi106_1 hl106_1;replace p106:=eq_true p106;replace q106:=eq_true q106
     go_wp2_with (first|((with_reducible refine zJ (f:=50) rfl ?_);refine yj (some 23) rfl rfl Try.func50 jA rfl #[.agg #[.int .i64 ((rd_T79 l0 x5_1).f0),.slice A106_1 ((rd_T79 l0 x5_1).f1).length c106_1],.int .i64 x1_1] rfl jG ?_;(with_reducible refine (Fd.calls k1  ((rd_T79 l0 x5_1).f0) _ _ ((rd_T79 l0 x5_1).f1) x1_1 t107 _ ?side1 ?side2 A6.out).mono ?_);(case side1=>repeat (first|exact (Kd.C_below HR106_1.out HB.out)|(with_reducible refine Kd.C_alloc ?_ _)|(with_reducible refine Kd.C_drewN ?_ _)|(with_reducible refine Kd.C_drew ?_)));(case side2=>exact HC106_1.out);rintro e w9 ⟨rfl,hb⟩;refine ⟨_,rfl,?_⟩;replace HB:=zh (zC jF hb);(try clear hb);(try clear hb2);(try clear hk);(try clear hi)))
     go_roundg k1
     case measure=>have:=HK1.out;omega
     case rel=>exact ⟨(t107),(wrap64 (x5_1+1)),jE,jE,H',⟨jL⟩,⟨jF⟩⟩
    rw [if_neg c5] at H;exact absurd H (by simp)
   rw [if_neg c4] at H;have c4b0 : decide (x5_1<(l0.length : Int))=false:=decide_eq_false c4;clear c4;obtain rfl:=zU H
   go_wp2
   go_ret
   exact ⟨jH,jF⟩


def F0j.f (k : Nat) (l0_0 : List (S79)) (a0_1 : Int) (a1 : Int) : Option (Int):=(Fq.f k l0_0 a1).bind fun t109=>(if t109<0 then (some (-1)) else (some t109))
theorem F0j.mono : ∀ a0 a1 a2 k,LeO (F0j.f k a0 a1 a2) (F0j.f (k+1) a0 a1 a2):=by
 intro a0 a1 a2 k;unfold F0j.f
 repeat' first|(with_reducible first|exact Fq.mono _ _ _|exact zQ _|exact zN _|refine zP ?_ ?_|refine zO ?_ (fun _=>?_))|refine zP ?_ ?_|refine zO ?_ (fun _=>?_)
set_option maxHeartbeats 8000000 in
set_option maxRecDepth 100000 in
theorem F0j.calls (k : Nat) (A0_0 : Option Addr) (c0_0 : Nat) (l0_0 : List (S79)) (a0_1 : Int) (a1 : Int) (r : Int) (w : World) (hr0_0 : Kd.C k79 w A0_0 l0_0.length l0_0) (hc0_0 : l0_0.length≤c0_0) (h : F0j.f k l0_0 a0_1 a1=some r) :
  Calls Try.prog 6 #[.agg #[.slice A0_0 l0_0.length c0_0,.int .i64 a0_1],.int .i64 a1] w fun e w' => e = .returned (.int .i64 r)∧Below w.heap.size w w':=by
 have hu24:=Try.underlying24;have HR0_0:=zh hr0_0;have HC0_0:=zh hc0_0;clear hr0_0 hc0_0;have HB:=zh (Below.refl w.heap.size w);have H : ((Fq.f k l0_0 a1).bind fun t109=>(if t109<0 then (some (-1)) else (some t109)))=some r:=h;clear h;replace H:=zT.mp H;obtain ⟨t109,A30,H⟩:=H;have A3:=zh A30;clear A30
 by_cases c4 : t109<0
 ·
  rw [if_pos c4] at H
  have c4b0 : decide (t109<0)=true:=decide_eq_true c4;clear c4;obtain rfl:=zU H
  go_enter Try.func6,Try.ntmps6
  go_wp2_with (first|((with_reducible refine zK (N:=2) rfl ?_);refine zI ?hg (N:=2) ?hd (cs:=#[.slice A0_0 l0_0.length c0_0,.int .i64 a0_1]) (t:=24) ?hr ?_;(case hd=>rfl);(case hg=>rfl);(case hr=>go_simp <;> rfl);intro gb108 hg w5 hbox hb;have BK108:=zh (hbox);have hH_:=cH jF hb hg;have GW108:=zh hH_.1;have GE108:=GW108;replace HB:=zh hH_.2;clear hb hbox hg hH_;obtain ⟨hcz6_0,hcz6_1,hfz6_0,hfz6_1⟩:=cB2 BK108.out)|((with_reducible refine zJ (f:=27) rfl ?_);refine yj (some 8) rfl rfl Try.func27 jA rfl #[.slice A0_0 l0_0.length c0_0,.int .i64 a1] rfl jG ?_;(with_reducible refine (Fq.calls k  _ _ l0_0 a1 t109 _ ?side1 ?side2 A3.out).mono ?_);(case side1=>repeat (first|exact (Kd.C_below HR0_0.out HB.out)|(with_reducible refine Kd.C_alloc ?_ _)|(with_reducible refine Kd.C_drewN ?_ _)|(with_reducible refine Kd.C_drew ?_)));(case side2=>exact HC0_0.out);rintro e w7 ⟨rfl,hb⟩;refine ⟨_,rfl,?_⟩;replace BK108:=zh (cD BK108.out jBP hb);replace HB:=zh (zC jAR hb);(try clear hb);(try clear hb2);(try clear hk);(try clear hi)))
  go_ret
  exact ⟨jH,jAR⟩
 rw [if_neg c4] at H;have c4b0 : decide (t109<0)=false:=decide_eq_false c4;clear c4;obtain rfl:=zU H
 go_enter Try.func6,Try.ntmps6
 go_wp2_with (first|((with_reducible refine zK (N:=2) rfl ?_);refine zI ?hg (N:=2) ?hd (cs:=#[.slice A0_0 l0_0.length c0_0,.int .i64 a0_1]) (t:=24) ?hr ?_;(case hd=>rfl);(case hg=>rfl);(case hr=>go_simp <;> rfl);intro gb108 hg w8 hbox hb;have BK108:=zh (hbox);have hH_:=cH jF hb hg;have GW108:=zh hH_.1;have GE108:=GW108;replace HB:=zh hH_.2;clear hb hbox hg hH_;obtain ⟨hcz9_0,hcz9_1,hfz9_0,hfz9_1⟩:=cB2 BK108.out)|((with_reducible refine zJ (f:=27) rfl ?_);refine yj (some 8) rfl rfl Try.func27 jA rfl #[.slice A0_0 l0_0.length c0_0,.int .i64 a1] rfl jG ?_;(with_reducible refine (Fq.calls k  _ _ l0_0 a1 t109 _ ?side1 ?side2 A3.out).mono ?_);(case side1=>repeat (first|exact (Kd.C_below HR0_0.out HB.out)|(with_reducible refine Kd.C_alloc ?_ _)|(with_reducible refine Kd.C_drewN ?_ _)|(with_reducible refine Kd.C_drew ?_)));(case side2=>exact HC0_0.out);rintro e w10 ⟨rfl,hb⟩;refine ⟨_,rfl,?_⟩;replace BK108:=zh (cD BK108.out jBP hb);replace HB:=zh (zC jAR hb);(try clear hb);(try clear hb2);(try clear hk);(try clear hi)))
 go_ret
 exact ⟨jH,jAR⟩


def F9.f (a0_0 : ByteArray) (a0_1 : Int) : Option (ByteArray×Int):=some (a0_0,a0_1)
set_option maxHeartbeats 8000000 in
set_option maxRecDepth 100000 in
theorem F9.calls (a0_0 : ByteArray) (a0_1 : Int) (r1 : ByteArray) (r2 : Int) (w : World) (h : F9.f a0_0 a0_1=some (r1,r2)) :
  Calls Try.prog 22 #[.agg #[.string a0_0,.int .i64 a0_1]] w fun e w' => e = .returned (.agg #[.string r1,.int .i64 r2])∧Below w.heap.size w w':=by
 have hu47:=Try.underlying47;have hu51:=Try.underlying51;have HB:=zh (Below.refl w.heap.size w);have H : (some (a0_0,a0_1))=some (r1,r2):=h;clear h;simp only [Option.some.injEq,Prod.mk.injEq] at H;obtain ⟨rfl,rfl⟩:=H
 go_enter Try.func22,Try.ntmps22
 go_wp2_with (first|((with_reducible refine zK (N:=1) rfl ?_);refine zI ?hg (N:=1) ?hd (cs:=#[.string a0_0,.int .i64 a0_1]) (t:=47) ?hr ?_;(case hd=>rfl);(case hg=>rfl);(case hr=>go_simp <;> rfl);intro gb171 hg w2 hbox hb;have BK171:=zh (hbox);have hH_:=cH jF hb hg;have GW171:=zh hH_.1;have GE171:=GW171;replace HB:=zh hH_.2;clear hb hbox hg hH_)|((with_reducible refine zK (N:=2) rfl ?_);refine zI ?hg (N:=2) ?hd (cs:=#[.string (⟨#[]⟩ : ByteArray),.int .i64 0]) (t:=51) ?hr ?_;(case hd=>rfl);(case hg=>rfl);(case hr=>go_simp <;> rfl);intro gb172 hg w3 hbox hb;have BK172:=zh (hbox);have hH_:=cH (by repeat (with_reducible first|exact HB.out|apply za|apply zb|apply zc|refine zd ?_ GE171.out)) hb hg;have GW172:=zh hH_.1;have GE172:=GW172;replace HB:=zh hH_.2;have NB171_172:=zh ((jBQ : gb171≠gb172));have NB172_171:=zh NB171_172.out.symm;replace BK171:=zh (cD BK171.out jAu hb);clear hb hbox hg hH_)|((with_reducible refine zK (N:=3) rfl ?_);refine zI ?hg (N:=3) ?hd (cs:=#[.string (⟨#[]⟩ : ByteArray),.int .i64 0]) (t:=51) ?hr ?_;(case hd=>rfl);(case hg=>rfl);(case hr=>go_simp <;> rfl);intro gb173 hg w4 hbox hb;have BK173:=zh (hbox);have hH_:=cH (by repeat (with_reducible first|exact HB.out|apply za|apply zb|apply zc|refine zd ?_ GE171.out|refine zd ?_ GE172.out)) hb hg;have GW173:=zh hH_.1;have GE173:=GW173;replace HB:=zh hH_.2;have NB171_173:=zh ((jBQ : gb171≠gb173));have NB173_171:=zh NB171_173.out.symm;replace BK171:=zh (cD BK171.out jAu hb);have NB172_173:=zh ((by rw [hg];exact yc (yi (g:=gb172) (o:=.cells #[.string (⟨#[]⟩ : ByteArray),.int .i64 0] 51 (0,0)) jBR) : gb172≠gb173));have NB173_172:=zh NB172_173.out.symm;replace BK172:=zh (cD BK172.out jBR hb);clear hb hbox hg hH_;have hnb5:=NB171_172.out;have hnc5:=NB172_171.out;have hnb6:=NB171_173.out;have hnc6:=NB173_171.out;obtain ⟨hcz7_0,hcz7_1,hfz7_0,hfz7_1⟩:=cB2 BK171.out;have hnb8:=NB173_172.out;have hnc8:=NB172_173.out;obtain ⟨hcz9_0,hcz9_1,hfz9_0,hfz9_1⟩:=cB2 BK173.out;obtain ⟨hcz10_0,hcz10_1,hfz10_0,hfz10_1⟩:=cB2 BK172.out))
 refine bodyPost_ret (results_cell_row rfl _ _ gb172 51 #[.string a0_0,.int .i64 a0_1] (0,0) _ rfl (by (with_reducible repeat first|apply ze|apply zf|apply zg);refine zL (cs:=#[.string a0_0,.int .i64 0]) ?_ 1 _ rfl;(with_reducible repeat first|apply ze|apply zf|apply zg);refine zL (cs:=#[.string (⟨#[]⟩ : ByteArray),.int .i64 0]) ?_ 0 _ rfl;(with_reducible repeat first|apply ze|apply zf|apply zg);refine cS2 ?_ NB172_173.out;(with_reducible repeat first|apply ze|apply zf|apply zg);exact BK172.out) Try.underlying51 rfl jA) rfl ?_;exact ⟨jH,by repeat (with_reducible first|exact HB.out|apply za|apply zb|apply zc|refine zd ?_ GE171.out|refine zd ?_ GE172.out|refine zd ?_ GE173.out)⟩


def Fm.l0 : Nat→List (S47)→List (S51)→Int→Option ((List (S51)))
 | 0,_,_,_=>none
 | k+1,x0,x3,x4=>if x4<(x0.length : Int) then (if 0≤x4 then ((F9.f ((rd_T47 x0 x4).f0) ((rd_T47 x0 x4).f1)).bind fun bt178=>(if x4<(x3.length : Int) then (Fm.l0 k x0 (x3.set (x4 : Int).toNat (⟨bt178.1,bt178.2⟩ : S51)) (wrap64 (x4+1))) else (none))) else (none)) else (some x3)
def Fm.f (k : Nat) (l0 : List (S47)) : Option ((List (S51))):=if 0≤(l0.length : Int) then (if ((l0.length : Int) : Int).toNat≤11728124029610 then (Fm.l0 k l0 (List.replicate ((l0.length : Int) : Int).toNat z51) 0) else (none)) else (none)
theorem Fm.mono_l : ∀ k,(∀ y0 y1 y2,LeO (Fm.l0 k y0 y1 y2) (Fm.l0 (k+1) y0 y1 y2))
 | 0=>fun _ _ _ r h=>by simp [Fm.l0] at h
 | k+1=>by
  have ih0:=Fm.mono_l k;intro y0 y1 y2;unfold Fm.l0
  repeat' first|(with_reducible first|exact ih0 _ _ _|exact zQ _|exact zN _|refine zP ?_ ?_|refine zO ?_ (fun _=>?_))|refine zP ?_ ?_|refine zO ?_ (fun _=>?_)
theorem Fm.mono : ∀ a0 k,LeO (Fm.f k a0) (Fm.f (k+1) a0):=by
 intro a0 k;have ih0:=Fm.mono_l k;unfold Fm.f
 repeat' first|(with_reducible first|exact ih0 _ _ _|exact zQ _|exact zN _|refine zP ?_ ?_|refine zO ?_ (fun _=>?_))|refine zP ?_ ?_|refine zO ?_ (fun _=>?_)
set_option maxHeartbeats 8000000 in
set_option maxRecDepth 100000 in
theorem Fm.calls (k : Nat) (A0 : Option Addr) (c0 : Nat) (l0 : List (S47)) (r : List (S51)) (w : World) (hr0 : Kd.C k47 w A0 l0.length l0) (hc0 : l0.length≤c0) (h : Fm.f k l0=some r) :
  Calls Try.prog 68 #[.slice A0 l0.length c0] w fun e w' => ∃ v0_ : Value,e = .returned (v0_)∧Kd.R k51 51 w' w.heap.size (fun _=>True) v0_ r∧Below w.heap.size w w':=by
 have hu47:=Try.underlying47;have hu51:=Try.underlying51;have HR0:=zh hr0;have HC0:=zh hc0;clear hr0 hc0;have HB:=zh (Below.refl w.heap.size w);have H : (if 0≤(l0.length : Int) then (if ((l0.length : Int) : Int).toNat≤11728124029610 then (Fm.l0 k l0 (List.replicate ((l0.length : Int) : Int).toNat z51) 0) else (none)) else (none))=some r:=h;clear h
 by_cases c2 : 0≤(l0.length : Int)
 ·
  rw [if_pos c2] at H
  have c2b0:=eq_true c2;have c2b1 : decide (0≤(l0.length : Int))=true:=decide_eq_true c2;clear c2
  by_cases c3 : ((l0.length : Int) : Int).toNat≤11728124029610
  ·
   rw [if_pos c3] at H
   have c3b0:=eq_true c3;have c3b1 : decide (((l0.length : Int) : Int).toNat≤11728124029610)=true:=decide_eq_true c3;clear c3;obtain ⟨y174,hy174⟩ : ∃ y_ : List (S51),y_=(List.replicate ((l0.length : Int) : Int).toNat z51):=⟨_,rfl⟩;replace H : (Fm.l0 k l0 y174 0)=some r:=by first|(rw [hy174];with_reducible exact H)|(have H2_:=(Option.bind_some _ _).symm.trans H;rw [hy174];with_reducible exact H2_)|(have H2_:=(Option.bind_some _ _).symm.trans H;with_reducible exact H2_)|with_reducible exact H|(rw [hy174];exact H)|exact H
   have Ny174:=zh hy174;clear hy174;have H':=zh H;clear H
   go_enter Try.func68,Try.ntmps68
   go_wp2_with (first|((with_reducible refine zK (N:=7) rfl ?_);refine Kd.R_make k51 _ 51 rfl (N:=7) rfl 29 _ _ rfl (l0.length : Int) rfl rfl Try.underlying29 (.agg #[(.string ⟨#[]⟩),(.int .i64 0)]) 24 info51 rfl jB jD z51 (ok:=fun _=>True) (okp:=fun _=>True) (k51_mkM _ _ _ z51 ) (fun _ hk=>hk) trivial (zy jC) (Nat.le_trans (Nat.mul_le_mul_right _ (zy jC : (l0.length : Int).toNat≤11728124029610)) jD) (Below.refl _ _) (ye _) ?_;intro v175 w4 ho5 hb hg_ hnew_;clear hg_ hnew_;(first|rw [← Ny174.out] at ho5|(simp only [Int.reduceToNat] at ho5;rw [← Ny174.out] at ho5));have HO176:=zh (yx ho5 (zB jF));replace HB:=zh (zC jF hb);clear hb ho5))
   go_loopg [4] k (fun kq v4 w' => ∃ (x3_1 : List (S51)) (x4_1 : Int),v4 = .int .i64 x4_1∧Aside0 (Fm.l0 kq l0 x3_1 x4_1=some r)∧Aside0 (kq≤k)∧Aside0 (Kd.R k51 51 w' w.heap.size (fun _=>True) v175 x3_1)∧Aside0 (Below w.heap.size w w'))
   case atStart=>exact ⟨(y174),(0),jE,H',⟨ye _⟩,⟨by (with_reducible repeat (first|apply zm|apply zn|apply zo));exact HO176.out⟩,⟨jF⟩⟩
   case round =>
    clear H'
    try clear c2 c2b0 c2b1
    try clear p2
    try clear c3 c3b0 c3b1
    obtain ⟨x3_1,x4_1,rfl,HA,HK1,HO_3,HB⟩:=hrel
    cases gk with
    | zero=>exact absurd HA.out (by simp [Fm.l0])
    | succ k1 =>
     have H:=HA.out;clear HA;simp only [Fm.l0] at H
     by_cases c6 : x4_1<(l0.length : Int)
     ·
      rw [if_pos c6] at H
      have c6b0 : decide (x4_1<(l0.length : Int))=true:=decide_eq_true c6;clear c6
      by_cases c7 : 0≤x4_1
      ·
       rw [if_pos c7] at H
       have c7b0 : decide (0≤x4_1)=true:=decide_eq_true c7;clear c7;replace H:=zT.mp H;obtain ⟨⟨t178,t179⟩,A80,H⟩:=H;have A8:=zh A80;clear A80
       by_cases c9 : x4_1<(x3_1.length : Int)
       ·
        rw [if_pos c9] at H
        have c9b0 : decide (x4_1<(x3_1.length : Int))=true:=decide_eq_true c9;clear c9;obtain ⟨y180,hy180⟩ : ∃ y_ : List (S51),y_=(x3_1.set (x4_1 : Int).toNat (⟨t178,t179⟩ : S51)):=⟨_,rfl⟩;replace H : (Fm.l0 k1 l0 y180 (wrap64 (x4_1+1)))=some r:=by first|(rw [hy180];with_reducible exact H)|(have H2_:=(Option.bind_some _ _).symm.trans H;rw [hy180];with_reducible exact H2_)|(have H2_:=(Option.bind_some _ _).symm.trans H;with_reducible exact H2_)|with_reducible exact H|(rw [hy180];exact H)|exact H
        have Ny180:=zh hy180;clear hy180;have H':=zh H;clear H;have p177 : 0≤(x4_1 : Int):=zy jC;have q177 : x4_1<(l0.length : Int):=zy jC;obtain ⟨ad177,e177,hx177_0,hx177_1⟩:=at_T47 HR0.out x4_1 p177 q177
        cases e177
        replace hx177_0:=(HB.out.cell (zl w _ hx177_0)).trans hx177_0;replace hx177_1:=(HB.out.cell (zl w _ hx177_1)).trans hx177_1;replace p177:=eq_true p177;replace q177:=eq_true q177
        go_wp2_with (first|((with_reducible refine zJ (f:=22) rfl ?_);refine yj (some 20) rfl rfl Try.func22 jA rfl #[.agg #[.string ((rd_T47 l0 x4_1).f0),.int .i64 ((rd_T47 l0 x4_1).f1)]] rfl jG ?_;(with_reducible refine (F9.calls  ((rd_T47 l0 x4_1).f0) ((rd_T47 l0 x4_1).f1) t178 t179 _ A8.out).mono ?_);rintro e w11 ⟨rfl,hb⟩;refine ⟨_,rfl,?_⟩;replace HO_3:=zh (yg jR hb);replace HB:=zh (zC jF hb);(try clear hb);(try clear hb2);(try clear hk);(try clear hi);have p10 : 0≤(x4_1 : Int):=zy jC;have q10 : (x4_1 : Int)<((x3_1.length : Int) : Int):=zy jC;obtain ⟨go10,co10,eo10,gb10,gl10,cl10,HG10⟩:=Kd.R_form HO_3.out jD;(first|cases eo10|(injection eo10 with ea_ en_ ec_;(first|subst ea_|(injection ea_ with ea_;subst ea_));subst ec_;clear en_));have GB10:=zh gb10;have GG10:=zh HG10;clear gb10 gl10 HG10;obtain ⟨ce10,hcl10,hM10,hcc10,hfr10⟩:=Kd.R_elem HO_3.out z51 (x4_1 : Int) p10 q10;obtain rfl:=k51_openM hM10;have hx10_0 : w11.cell? ⟨go10,(x4_1 : Int).toNat*2,none⟩=some (.string ((rd_T51 x3_1 x4_1).f0)):=hcc10 0 _ rfl;have hx10_1 : w11.cell? ⟨go10,(x4_1 : Int).toNat*2+1,none⟩=some (.int .i64 ((rd_T51 x3_1 x4_1).f1)):=hcc10 1 _ rfl;have hf10_0 : w11.frozen? ⟨go10,(x4_1 : Int).toNat*2,none⟩=false:=hfr10 0;have hf10_1 : w11.frozen? ⟨go10,(x4_1 : Int).toNat*2+1,none⟩=false:=hfr10 1;clear hcl10 hcc10 hfr10 hM10;replace p10:=eq_true p10;replace q10:=eq_true q10;have HX12:=zh (show Kd.R k51 51 w11 w.heap.size (fun _=>True) (.slice (some ⟨go10,0,none⟩) x3_1.length co10) x3_1 from jR);obtain ⟨ce12,hcl12,hM12,hcc12,hfr12⟩:=Kd.R_elem HX12.out z51 (x4_1 : Int) (zy jC) (by have h_ : (x4_1 : Int)<((x3_1.length : Int) : Int):=zy jC;first|exact h_|(have e_:=(yh HO_3.out).1;omega)|simpa using h_);obtain rfl:=k51_openM hM12;have HP12:=Kd.R_seg HX12.out (x4_1 : Int) (zy jC) (by have h_ : (x4_1 : Int)<((x3_1.length : Int) : Int):=zy jC;first|exact h_|(have e_:=(yh HO_3.out).1;omega)|simpa using h_) (seg:=[.string t178,.int .i64 t179]) (j:=0) hcl12 hcc12 (show 2≤2 from by decide) (x':=(⟨t178,t179⟩ : S51)) (k51_mkM _ _ _ (⟨t178,t179⟩ : S51) ) (fun _ hk=>hk);have hx12_0:=hcc12 0 _ rfl;(try simp only [show (k51).sz=2 from rfl,Nat.mul_one,Nat.add_zero] at hx12_0);have hf12_0:=hfr12 0;(try simp only [show (k51).sz=2 from rfl,Nat.mul_one,Nat.add_zero] at hf12_0);have hx12_1:=hcc12 1 _ rfl;(try simp only [show (k51).sz=2 from rfl,Nat.mul_one,Nat.add_zero] at hx12_1);have hf12_1:=hfr12 1;(try simp only [show (k51).sz=2 from rfl,Nat.mul_one,Nat.add_zero] at hf12_1);clear hcl12 hcc12 hfr12 hM12)|((with_reducible refine gate_store (t:=51) (p:=21) rfl ?_);refine store_event (t:=51) (p:=21) (v:=?vo_w13) (w1:=((w11.setCell ⟨go10,(x4_1 : Int).toNat*2,none⟩ (.string t178)).setCell ⟨go10,(x4_1 : Int).toNat*2+1,none⟩ (.int .i64 t179))) ?hg ?ho ?hn ?hr ?_;(case ho=>rfl);(case hg=>rfl);(case hn=>rfl);(case hr=>go_simp <;> rfl);intro w13 hw;have hg : w11.grownBy w13 (some go10):=(by rw [hw];exact HP12.2);have hp_ : Kd.R k51 51 w13 w.heap.size (fun _=>True) (.slice (some ⟨go10,0,none⟩) x3_1.length co10) y180:=(by rw [hw,Ny180.out];exact HP12.1);clear HP12;replace HO_3:=zh (hp_);replace HB:=zh ((by rw [hw];exact zd (zd (HB.out) GB10.out) GB10.out : Below w.heap.size w w13));clear hg hw hp_))
        go_roundg k1
        case measure=>have:=HK1.out;omega
        case rel=>exact ⟨(y180),(wrap64 (x4_1+1)),jE,H',⟨jL⟩,⟨jR⟩,⟨jF⟩⟩
       rw [if_neg c9] at H;exact absurd H (by simp)
      rw [if_neg c7] at H;exact absurd H (by simp)
     rw [if_neg c6] at H;have c6b0 : decide (x4_1<(l0.length : Int))=false:=decide_eq_false c6;clear c6;obtain rfl:=zU H
     go_wp2
     go_ret
     exact ⟨_,jH,jR,jF⟩
  rw [if_neg c3] at H;exact absurd H (by simp)
 rw [if_neg c2] at H;exact absurd H (by simp)


def Fe.f (k : Nat) (a0_0 : Int) (l0_1 : List (S47)) : Option (Int×(List (S51))):=(Fm.f k l0_1).bind fun t184=>(some (a0_0,t184))
theorem Fe.mono : ∀ a0 a1 k,LeO (Fe.f k a0 a1) (Fe.f (k+1) a0 a1):=by
 intro a0 a1 k;unfold Fe.f
 repeat' first|(with_reducible first|exact Fm.mono _ _|exact zQ _|exact zN _|refine zP ?_ ?_|refine zO ?_ (fun _=>?_))|refine zP ?_ ?_|refine zO ?_ (fun _=>?_)
set_option maxHeartbeats 8000000 in
set_option maxRecDepth 100000 in
theorem Fe.calls (k : Nat) (a0_0 : Int) (A0_1 : Option Addr) (c0_1 : Nat) (l0_1 : List (S47)) (r1 : Int) (r2 : List (S51)) (w : World) (hr0_1 : Kd.C k47 w A0_1 l0_1.length l0_1) (hc0_1 : l0_1.length≤c0_1) (h : Fe.f k a0_0 l0_1=some (r1,r2)) :
  Calls Try.prog 55 #[.agg #[.int .i64 a0_0,.slice A0_1 l0_1.length c0_1]] w fun e w' => ∃ v1_ : Value,e = .returned (.agg #[.int .i64 r1,v1_])∧Kd.R k51 51 w' w.heap.size (fun _=>True) v1_ r2∧Below w.heap.size w w':=by
 have hu79:=Try.underlying79;have hu67:=Try.underlying67;have HR0_1:=zh hr0_1;have HC0_1:=zh hc0_1;clear hr0_1 hc0_1;have HB:=zh (Below.refl w.heap.size w);have H : ((Fm.f k l0_1).bind fun t184=>(some (a0_0,t184)))=some (r1,r2):=h;clear h;replace H:=zT.mp H;obtain ⟨t184,A20,H⟩:=H;have A2:=zh A20;clear A20;simp only [Option.some.injEq,Prod.mk.injEq] at H;obtain ⟨rfl,rfl⟩:=H
 go_enter Try.func55,Try.ntmps55
 go_wp2_with (first|((with_reducible refine zK (N:=1) rfl ?_);refine zI ?hg (N:=1) ?hd (cs:=#[.int .i64 a0_0,.slice A0_1 l0_1.length c0_1]) (t:=79) ?hr ?_;(case hd=>rfl);(case hg=>rfl);(case hr=>go_simp <;> rfl);intro gb181 hg w3 hbox hb;have BK181:=zh (hbox);have hH_:=cH jF hb hg;have GW181:=zh hH_.1;have GE181:=GW181;replace HB:=zh hH_.2;clear hb hbox hg hH_)|((with_reducible refine zK (N:=2) rfl ?_);refine zI ?hg (N:=2) ?hd (cs:=#[.int .i64 0,.slice none 0 0]) (t:=67) ?hr ?_;(case hd=>rfl);(case hg=>rfl);(case hr=>go_simp <;> rfl);intro gb182 hg w4 hbox hb;have BK182:=zh (hbox);have hH_:=cH (by repeat (with_reducible first|exact HB.out|apply za|apply zb|apply zc|refine zd ?_ GE181.out)) hb hg;have GW182:=zh hH_.1;have GE182:=GW182;replace HB:=zh hH_.2;have NB181_182:=zh ((jBS : gb181≠gb182));have NB182_181:=zh NB181_182.out.symm;replace BK181:=zh (cD BK181.out jAv hb);clear hb hbox hg hH_)|((with_reducible refine zK (N:=3) rfl ?_);refine zI ?hg (N:=3) ?hd (cs:=#[.int .i64 0,.slice none 0 0]) (t:=67) ?hr ?_;(case hd=>rfl);(case hg=>rfl);(case hr=>go_simp <;> rfl);intro gb183 hg w5 hbox hb;have BK183:=zh (hbox);have hH_:=cH (by repeat (with_reducible first|exact HB.out|apply za|apply zb|apply zc|refine zd ?_ GE181.out|refine zd ?_ GE182.out)) hb hg;have GW183:=zh hH_.1;have GE183:=GW183;replace HB:=zh hH_.2;have NB181_183:=zh ((jBS : gb181≠gb183));have NB183_181:=zh NB181_183.out.symm;replace BK181:=zh (cD BK181.out jAv hb);have NB182_183:=zh ((by rw [hg];exact yc (yi (g:=gb182) (o:=.cells #[.int .i64 0,.slice none 0 0] 67 (0,0)) jBT) : gb182≠gb183));have NB183_182:=zh NB182_183.out.symm;replace BK182:=zh (cD BK182.out jBT hb);clear hb hbox hg hH_;have hnb6:=NB181_182.out;have hnc6:=NB182_181.out;have hnb7:=NB181_183.out;have hnc7:=NB183_181.out;obtain ⟨hcz8_0,hcz8_1,hfz8_0,hfz8_1⟩:=cB2 BK181.out;have hnb9:=NB183_182.out;have hnc9:=NB182_183.out;obtain ⟨hcz10_0,hcz10_1,hfz10_0,hfz10_1⟩:=cB2 BK183.out)|((with_reducible refine zJ (f:=68) rfl ?_);refine yj (some 9) rfl rfl Try.func68 jA rfl #[.slice A0_1 l0_1.length c0_1] rfl jG ?_;(with_reducible refine (Fm.calls k  _ _ l0_1 t184 _ ?side1 ?side2 A2.out).mono ?_);(case side1=>exact Kd.C_below HR0_1.out jAS);(case side2=>exact HC0_1.out);rintro e w11 ⟨v185,rfl,ho0,hb⟩;refine ⟨_,rfl,?_⟩;have HO186:=zh (yx ho0 (zB jAS));replace BK181:=zh (cD BK181.out (by (with_reducible repeat first|apply ze|apply zf|apply zg);refine zS ?_ NB181_183.out _;(with_reducible repeat first|apply ze|apply zf|apply zg);exact BK181.out) hb);replace BK182:=zh (cD BK182.out (by (with_reducible repeat first|apply ze|apply zf|apply zg);refine zS ?_ NB182_183.out _;(with_reducible repeat first|apply ze|apply zf|apply zg);exact BK182.out) hb);replace BK183:=zh (zD (g:=gb183) (o:=.cells #[.int .i64 a0_0,.slice none 0 0] 67 (0,0)) (by (with_reducible repeat first|apply ze|apply zf|apply zg);refine zL (cs:=#[.int .i64 0,.slice none 0 0]) ?_ 0 _ rfl;(with_reducible repeat first|apply ze|apply zf|apply zg);exact BK183.out) hb);replace HB:=zh (zC jAS hb);(try clear hb);(try clear hb2);(try clear hk);(try clear hi);(try clear ho0);obtain ⟨Ao12,co12,eo12⟩:=yk HO186.out;subst eo12;obtain ⟨hcz13_0,hcz13_1,hfz13_0,hfz13_1⟩:=cB2 BK183.out;obtain ⟨hcz14_0,hcz14_1,hfz14_0,hfz14_1⟩:=cB2 BK182.out))
 refine bodyPost_ret (results_cell_row rfl _ _ gb182 67 #[.int .i64 a0_0,.slice Ao12 t184.length co12] (0,0) _ rfl (by (with_reducible repeat first|apply ze|apply zf|apply zg);refine zL (cs:=#[.int .i64 a0_0,.slice none 0 0]) ?_ 1 _ rfl;(with_reducible repeat first|apply ze|apply zf|apply zg);refine zL (cs:=#[.int .i64 0,.slice none 0 0]) ?_ 0 _ rfl;(with_reducible repeat first|apply ze|apply zf|apply zg);refine zS ?_ NB182_183.out _;(with_reducible repeat first|apply ze|apply zf|apply zg);exact BK182.out) Try.underlying67 rfl jA) rfl ?_;exact ⟨_,jH,by (with_reducible repeat (first|apply zm|apply zn|apply zo));exact zM (zE (p:=⟨gb182,1,none⟩) (zE (p:=⟨gb182,0,none⟩) (zE (p:=⟨gb183,1,none⟩) (yf (yf HO186.out BK183.out jB) BK182.out jB) (fun _ hk=>hk.1.2) (.slice Ao12 t184.length co12)) (fun _ hk=>hk.2) (.int .i64 a0_0)) (fun _ hk=>hk.2) (.slice Ao12 t184.length co12)) (fun _ hk=>trivial),jAS⟩


def Fn.l0 : Nat→List (S79)→List (S67)→Int→Option ((List (S67)))
 | 0,_,_,_=>none
 | k+1,x0,x3,x4=>if x4<(x0.length : Int) then (if 0≤x4 then ((Fe.f k ((rd_T79 x0 x4).f0) ((rd_T79 x0 x4).f1)).bind fun bt191=>(if x4<(x3.length : Int) then (Fn.l0 k x0 (x3.set (x4 : Int).toNat (⟨bt191.1,bt191.2⟩ : S67)) (wrap64 (x4+1))) else (none))) else (none)) else (some x3)
def Fn.f (k : Nat) (l0 : List (S79)) : Option ((List (S67))):=if 0≤(l0.length : Int) then (if ((l0.length : Int) : Int).toNat≤8796093022208 then (Fn.l0 k l0 (List.replicate ((l0.length : Int) : Int).toNat z67) 0) else (none)) else (none)
theorem Fn.mono_l : ∀ k,(∀ y0 y1 y2,LeO (Fn.l0 k y0 y1 y2) (Fn.l0 (k+1) y0 y1 y2))
 | 0=>fun _ _ _ r h=>by simp [Fn.l0] at h
 | k+1=>by
  have ih0:=Fn.mono_l k;intro y0 y1 y2;unfold Fn.l0
  repeat' first|(with_reducible first|exact ih0 _ _ _|exact Fe.mono _ _ _|exact zQ _|exact zN _|refine zP ?_ ?_|refine zO ?_ (fun _=>?_))|refine zP ?_ ?_|refine zO ?_ (fun _=>?_)
theorem Fn.mono : ∀ a0 k,LeO (Fn.f k a0) (Fn.f (k+1) a0):=by
 intro a0 k;have ih0:=Fn.mono_l k;unfold Fn.f
 repeat' first|(with_reducible first|exact ih0 _ _ _|exact Fe.mono _ _ _|exact zQ _|exact zN _|refine zP ?_ ?_|refine zO ?_ (fun _=>?_))|refine zP ?_ ?_|refine zO ?_ (fun _=>?_)
set_option maxHeartbeats 8000000 in
set_option maxRecDepth 100000 in
theorem Fn.calls (k : Nat) (A0 : Option Addr) (c0 : Nat) (l0 : List (S79)) (r : List (S67)) (w : World) (hr0 : Kd.C k79 w A0 l0.length l0) (hc0 : l0.length≤c0) (h : Fn.f k l0=some r) :
  Calls Try.prog 30 #[.slice A0 l0.length c0] w fun e w' => ∃ v0_ : Value,e = .returned (v0_)∧Kd.S k67 67 w' w.heap.size (fun _=>True) v0_ r∧Below w.heap.size w w':=by
 have hu79:=Try.underlying79;have hu67:=Try.underlying67;have HR0:=zh hr0;have HC0:=zh hc0;clear hr0 hc0;have HB:=zh (Below.refl w.heap.size w);have H : (if 0≤(l0.length : Int) then (if ((l0.length : Int) : Int).toNat≤8796093022208 then (Fn.l0 k l0 (List.replicate ((l0.length : Int) : Int).toNat z67) 0) else (none)) else (none))=some r:=h;clear h
 by_cases c2 : 0≤(l0.length : Int)
 ·
  rw [if_pos c2] at H
  have c2b0:=eq_true c2;have c2b1 : decide (0≤(l0.length : Int))=true:=decide_eq_true c2;clear c2
  by_cases c3 : ((l0.length : Int) : Int).toNat≤8796093022208
  ·
   rw [if_pos c3] at H
   have c3b0:=eq_true c3;have c3b1 : decide (((l0.length : Int) : Int).toNat≤8796093022208)=true:=decide_eq_true c3;clear c3;obtain ⟨y187,hy187⟩ : ∃ y_ : List (S67),y_=(List.replicate ((l0.length : Int) : Int).toNat z67):=⟨_,rfl⟩;replace H : (Fn.l0 k l0 y187 0)=some r:=by first|(rw [hy187];with_reducible exact H)|(have H2_:=(Option.bind_some _ _).symm.trans H;rw [hy187];with_reducible exact H2_)|(have H2_:=(Option.bind_some _ _).symm.trans H;with_reducible exact H2_)|with_reducible exact H|(rw [hy187];exact H)|exact H
   have Ny187:=zh hy187;clear hy187;have H':=zh H;clear H
   go_enter Try.func30,Try.ntmps30
   go_wp2_with (first|((with_reducible refine zK (N:=7) rfl ?_);refine Kd.S_make k67 _ 67 rfl (N:=7) rfl 33 _ _ rfl (l0.length : Int) rfl rfl Try.underlying33 (.agg #[(.int .i64 0),(.slice none 0 0)]) 32 info67 rfl jB jD z67 (ok:=fun _=>True) (okp:=fun _=>True) (k67_mkM _ _ _ z67 (Kd.R_nil _ _ _ _ _)) (fun _ hk=>hk) trivial (zy jC) (Nat.le_trans (Nat.mul_le_mul_right _ (zy jC : (l0.length : Int).toNat≤8796093022208)) jD) (Below.refl _ _) (ye _) ?_;intro v188 w4 ho5 hb hg_ hnew_;clear hg_ hnew_;(first|rw [← Ny187.out] at ho5|(simp only [Int.reduceToNat] at ho5;rw [← Ny187.out] at ho5));have HO189:=zh (Kd.S_lower ho5 (zB jF));replace HB:=zh (zC jF hb);clear hb ho5))
   go_loopg [4] k (fun kq v4 w' => ∃ (x3_1 : List (S67)) (x4_1 : Int),v4 = .int .i64 x4_1∧Aside0 (Fn.l0 kq l0 x3_1 x4_1=some r)∧Aside0 (kq≤k)∧Aside0 (Kd.S k67 67 w' w.heap.size (fun _=>True) v188 x3_1)∧Aside0 (Below w.heap.size w w'))
   case atStart=>exact ⟨(y187),(0),jE,H',⟨ye _⟩,⟨by (with_reducible repeat (first|apply Kd.S_alloc|apply Kd.S_drewN|apply Kd.S_drew));exact HO189.out⟩,⟨jF⟩⟩
   case round =>
    clear H'
    try clear c2 c2b0 c2b1
    try clear p2
    try clear c3 c3b0 c3b1
    obtain ⟨x3_1,x4_1,rfl,HA,HK1,HO_3,HB⟩:=hrel
    cases gk with
    | zero=>exact absurd HA.out (by simp [Fn.l0])
    | succ k1 =>
     have H:=HA.out;clear HA;simp only [Fn.l0] at H
     by_cases c6 : x4_1<(l0.length : Int)
     ·
      rw [if_pos c6] at H
      have c6b0 : decide (x4_1<(l0.length : Int))=true:=decide_eq_true c6;clear c6
      by_cases c7 : 0≤x4_1
      ·
       rw [if_pos c7] at H
       have c7b0 : decide (0≤x4_1)=true:=decide_eq_true c7;clear c7;replace H:=zT.mp H;obtain ⟨⟨t191,t192⟩,A80,H⟩:=H;have A8:=zh A80;clear A80
       by_cases c9 : x4_1<(x3_1.length : Int)
       ·
        rw [if_pos c9] at H
        have c9b0 : decide (x4_1<(x3_1.length : Int))=true:=decide_eq_true c9;clear c9;obtain ⟨y195,hy195⟩ : ∃ y_ : List (S67),y_=(x3_1.set (x4_1 : Int).toNat (⟨t191,t192⟩ : S67)):=⟨_,rfl⟩;replace H : (Fn.l0 k1 l0 y195 (wrap64 (x4_1+1)))=some r:=by first|(rw [hy195];with_reducible exact H)|(have H2_:=(Option.bind_some _ _).symm.trans H;rw [hy195];with_reducible exact H2_)|(have H2_:=(Option.bind_some _ _).symm.trans H;with_reducible exact H2_)|with_reducible exact H|(rw [hy195];exact H)|exact H
        have Ny195:=zh hy195;clear hy195;have H':=zh H;clear H;have p190 : 0≤(x4_1 : Int):=zy jC;have q190 : x4_1<(l0.length : Int):=zy jC;obtain ⟨ad190,A190_1,c190_1,e190,hx190_0,hx190_1,hl190_1,hi190_1⟩:=at_T79 HR0.out x4_1 p190 q190
        cases e190
        replace hx190_0:=(HB.out.cell (zl w _ hx190_0)).trans hx190_0;replace hx190_1:=(HB.out.cell (zl w _ hx190_1)).trans hx190_1;have HR190_1:=zh hi190_1;have HC190_1:=zh hl190_1;clear hi190_1 hl190_1;replace p190:=eq_true p190;replace q190:=eq_true q190
        go_wp2_with (first|((with_reducible refine zJ (f:=55) rfl ?_);refine yj (some 20) rfl rfl Try.func55 jA rfl #[.agg #[.int .i64 ((rd_T79 l0 x4_1).f0),.slice A190_1 ((rd_T79 l0 x4_1).f1).length c190_1]] rfl jG ?_;(with_reducible refine (Fe.calls k1  ((rd_T79 l0 x4_1).f0) _ _ ((rd_T79 l0 x4_1).f1) t191 t192 _ ?side1 ?side2 A8.out).mono ?_);(case side1=>repeat (first|exact (Kd.C_below HR190_1.out HB.out)|(with_reducible refine Kd.C_alloc ?_ _)|(with_reducible refine Kd.C_drewN ?_ _)|(with_reducible refine Kd.C_drew ?_)));(case side2=>exact HC190_1.out);rintro e w11 ⟨v193,rfl,ho0,hb⟩;refine ⟨_,rfl,?_⟩;replace HO_3:=zh (Kd.S_elder' jAG (Kd.R_base ho0) hb);have HO194:=zh (yx ho0 (zB jF));replace HB:=zh (zC jF hb);(try clear hb);(try clear hb2);(try clear hk);(try clear hi);(try clear ho0);have p10 : 0≤(x4_1 : Int):=zy jC;have q10 : (x4_1 : Int)<((x3_1.length : Int) : Int):=zy jC;obtain ⟨go10,co10,eo10,gb10,gl10,cl10,HG10⟩:=Kd.S_form HO_3.out jD;(first|cases eo10|(injection eo10 with ea_ en_ ec_;(first|subst ea_|(injection ea_ with ea_;subst ea_));subst ec_;clear en_));have GB10:=zh gb10;have GG10:=zh HG10;clear gb10 gl10 HG10;obtain ⟨_,ce10,hcl10,hM10,hcc10,hfr10,_,_⟩:=Kd.S_elem HO_3.out z67 (x4_1 : Int) p10 q10;obtain ⟨ve10_1,rfl,ge10_1⟩:=k67_openM hM10;have hx10_0 : w11.cell? ⟨go10,(x4_1 : Int).toNat*2,none⟩=some (.int .i64 ((rd_T67 x3_1 x4_1).f0)):=hcc10 0 _ rfl;have hx10_1 : w11.cell? ⟨go10,(x4_1 : Int).toNat*2+1,none⟩=some (ve10_1):=hcc10 1 _ rfl;have hf10_0 : w11.frozen? ⟨go10,(x4_1 : Int).toNat*2,none⟩=false:=hfr10 0;have hf10_1 : w11.frozen? ⟨go10,(x4_1 : Int).toNat*2+1,none⟩=false:=hfr10 1;clear hcl10 hcc10 hfr10 hM10;replace p10:=eq_true p10;replace q10:=eq_true q10;obtain ⟨Ao12,co12,eo12⟩:=yk HO194.out;subst eo12;have n_:=zh (Kd.S_mono (ok':=(fun k_=>some k_≠(.slice Ao12 t192.length co12 : Value).ownBlock)) HO_3.out (fun k_ hk=>hk.2));clear HO_3;have HO_3:=n_;clear n_;have HX13:=zh (show Kd.S k67 67 w11 w.heap.size (fun k_=>((fun _=>True)) k_ ∧ ¬ ((fun k_=>some k_=(.slice Ao12 t192.length co12 : Value).ownBlock)) k_) (.slice (some ⟨go10,0,none⟩) x3_1.length co10) x3_1 from (by (with_reducible repeat (first|apply Kd.S_alloc|apply Kd.S_drewN|apply Kd.S_drew));exact Kd.S_mono HO_3.out (fun k_ hk=>⟨trivial,fun e_=>hk e_⟩)));obtain ⟨oki13,ce13,hcl13,hM13,hcc13,hfr13,hoki13,hH13⟩:=Kd.S_elem HX13.out z67 (x4_1 : Int) (zy jC) (by have h_ : (x4_1 : Int)<((x3_1.length : Int) : Int):=zy jC;first|exact h_|(have e_:=(Kd.S_reads' HO_3.out).1;omega)|simpa using h_);obtain ⟨ve13_1,rfl,ge13_1⟩:=k67_openM hM13;have HP13:=Kd.S_seg hH13 (zy jC) (by have h_ : (x4_1 : Int)<((x3_1.length : Int) : Int):=zy jC;first|exact h_|(have e_:=(Kd.S_reads' HO_3.out).1;omega)|simpa using h_) (seg:=[.int .i64 t191,.slice Ao12 t192.length co12]) (j:=0) (show 2≤2 from by decide) (x':=(⟨t191,t192⟩ : S67)) (k67_mkM _ _ _ (⟨t191,t192⟩ : S67) (zM (Kd.R_tight rfl (zM (ok':=fun k_=>((fun _=>True)) k_∧k_≠go10) (Kd.R_apart' (HO194.out) (Kd.S_typed HO_3.out) jB) (fun k_ hk=>⟨trivial,fun e_=>(hk.2) (by rw [e_];rfl)⟩))) (fun _ h_=>Or.inr (h_)))) (fun _ hk=>hk) (fun k_ hk_=>((zM (ok':=fun k_=>((fun _=>True)) k_∧k_≠go10) (Kd.R_apart' (HO194.out) (Kd.S_typed HO_3.out) jB) (fun k_ hk=>⟨trivial,fun e_=>(hk.2) (by rw [e_];rfl)⟩))).1 k_ hk_.symm);have hx13_0:=hcc13 0 _ rfl;(try simp only [show (k67).sz=2 from rfl,Nat.mul_one,Nat.add_zero] at hx13_0);have hf13_0:=hfr13 0;(try simp only [show (k67).sz=2 from rfl,Nat.mul_one,Nat.add_zero] at hf13_0);have hx13_1:=hcc13 1 _ rfl;(try simp only [show (k67).sz=2 from rfl,Nat.mul_one,Nat.add_zero] at hx13_1);have hf13_1:=hfr13 1;(try simp only [show (k67).sz=2 from rfl,Nat.mul_one,Nat.add_zero] at hf13_1);clear hcl13 hcc13 hfr13 hM13 hoki13 hH13)|((with_reducible refine gate_store (t:=67) (p:=21) rfl ?_);refine store_event (t:=67) (p:=21) (v:=?vo_w14) (w1:=((w11.setCell ⟨go10,(x4_1 : Int).toNat*2,none⟩ (.int .i64 t191)).setCell ⟨go10,(x4_1 : Int).toNat*2+1,none⟩ (.slice Ao12 t192.length co12))) ?hg ?ho ?hn ?hr ?_;(case ho=>rfl);(case hg=>rfl);(case hn=>rfl);(case hr=>go_simp <;> rfl);intro w14 hw;have hg : w11.grownBy w14 (some go10):=(by rw [hw];exact HP13.2);have hp_ : Kd.S k67 67 w14 w.heap.size (fun _=>True) (.slice (some ⟨go10,0,none⟩) x3_1.length co10) y195:=(by rw [hw,Ny195.out];exact HP13.1);clear HP13;replace HO_3:=zh (hp_);replace HB:=zh ((by rw [hw];exact zd (zd (HB.out) GB10.out) GB10.out : Below w.heap.size w w14));clear HO194 hg hw hp_))
        go_roundg k1
        case measure=>have:=HK1.out;omega
        case rel=>exact ⟨(y195),(wrap64 (x4_1+1)),jE,H',⟨jL⟩,⟨jAG⟩,⟨jF⟩⟩
       rw [if_neg c9] at H;exact absurd H (by simp)
      rw [if_neg c7] at H;exact absurd H (by simp)
     rw [if_neg c6] at H;have c6b0 : decide (x4_1<(l0.length : Int))=false:=decide_eq_false c6;clear c6;obtain rfl:=zU H
     go_wp2
     go_ret
     exact ⟨_,jH,jAG,jF⟩
  rw [if_neg c3] at H;exact absurd H (by simp)
 rw [if_neg c2] at H;exact absurd H (by simp)


def F0b.f (k : Nat) (l0_0 : List (S79)) (a0_1 : Int) : Option ((List (S67))×Int):=(Fn.f k l0_0).bind fun t199=>(some (t199,a0_1))
theorem F0b.mono : ∀ a0 a1 k,LeO (F0b.f k a0 a1) (F0b.f (k+1) a0 a1):=by
 intro a0 a1 k;unfold F0b.f
 repeat' first|(with_reducible first|exact Fn.mono _ _|exact zQ _|exact zN _|refine zP ?_ ?_|refine zO ?_ (fun _=>?_))|refine zP ?_ ?_|refine zO ?_ (fun _=>?_)
set_option maxHeartbeats 8000000 in
set_option maxRecDepth 100000 in
theorem F0b.calls (k : Nat) (A0_0 : Option Addr) (c0_0 : Nat) (l0_0 : List (S79)) (a0_1 : Int) (r1 : List (S67)) (r2 : Int) (w : World) (hr0_0 : Kd.C k79 w A0_0 l0_0.length l0_0) (hc0_0 : l0_0.length≤c0_0) (h : F0b.f k l0_0 a0_1=some (r1,r2)) :
  Calls Try.prog 9 #[.agg #[.slice A0_0 l0_0.length c0_0,.int .i64 a0_1]] w fun e w' => ∃ v0_ : Value,e = .returned (.agg #[v0_,.int .i64 r2])∧Kd.S k67 67 w' w.heap.size (fun _=>True) v0_ r1∧Below w.heap.size w w':=by
 have hu24:=Try.underlying24;have hu35:=Try.underlying35;have HR0_0:=zh hr0_0;have HC0_0:=zh hc0_0;clear hr0_0 hc0_0;have HB:=zh (Below.refl w.heap.size w);have H : ((Fn.f k l0_0).bind fun t199=>(some (t199,a0_1)))=some (r1,r2):=h;clear h;replace H:=zT.mp H;obtain ⟨t199,A20,H⟩:=H;have A2:=zh A20;clear A20;simp only [Option.some.injEq,Prod.mk.injEq] at H;obtain ⟨rfl,rfl⟩:=H
 go_enter Try.func9,Try.ntmps9
 go_wp2_with (first|((with_reducible refine zK (N:=1) rfl ?_);refine zI ?hg (N:=1) ?hd (cs:=#[.slice A0_0 l0_0.length c0_0,.int .i64 a0_1]) (t:=24) ?hr ?_;(case hd=>rfl);(case hg=>rfl);(case hr=>go_simp <;> rfl);intro gb196 hg w3 hbox hb;have BK196:=zh (hbox);have hH_:=cH jF hb hg;have GW196:=zh hH_.1;have GE196:=GW196;replace HB:=zh hH_.2;clear hb hbox hg hH_)|((with_reducible refine zK (N:=2) rfl ?_);refine zI ?hg (N:=2) ?hd (cs:=#[.slice none 0 0,.int .i64 0]) (t:=35) ?hr ?_;(case hd=>rfl);(case hg=>rfl);(case hr=>go_simp <;> rfl);intro gb197 hg w4 hbox hb;have BK197:=zh (hbox);have hH_:=cH (by repeat (with_reducible first|exact HB.out|apply za|apply zb|apply zc|refine zd ?_ GE196.out)) hb hg;have GW197:=zh hH_.1;have GE197:=GW197;replace HB:=zh hH_.2;have NB196_197:=zh ((jBU : gb196≠gb197));have NB197_196:=zh NB196_197.out.symm;replace BK196:=zh (cD BK196.out jAT hb);clear hb hbox hg hH_)|((with_reducible refine zK (N:=3) rfl ?_);refine zI ?hg (N:=3) ?hd (cs:=#[.slice none 0 0,.int .i64 0]) (t:=35) ?hr ?_;(case hd=>rfl);(case hg=>rfl);(case hr=>go_simp <;> rfl);intro gb198 hg w5 hbox hb;have BK198:=zh (hbox);have hH_:=cH (by repeat (with_reducible first|exact HB.out|apply za|apply zb|apply zc|refine zd ?_ GE196.out|refine zd ?_ GE197.out)) hb hg;have GW198:=zh hH_.1;have GE198:=GW198;replace HB:=zh hH_.2;have NB196_198:=zh ((jBU : gb196≠gb198));have NB198_196:=zh NB196_198.out.symm;replace BK196:=zh (cD BK196.out jAT hb);have NB197_198:=zh ((by rw [hg];exact yc (yi (g:=gb197) (o:=.cells #[.slice none 0 0,.int .i64 0] 35 (0,0)) jAw) : gb197≠gb198));have NB198_197:=zh NB197_198.out.symm;replace BK197:=zh (cD BK197.out jAw hb);clear hb hbox hg hH_;have hnb6:=NB196_197.out;have hnc6:=NB197_196.out;have hnb7:=NB196_198.out;have hnc7:=NB198_196.out;obtain ⟨hcz8_0,hcz8_1,hfz8_0,hfz8_1⟩:=cB2 BK196.out)|((with_reducible refine zJ (f:=30) rfl ?_);refine yj (some 6) rfl rfl Try.func30 jA rfl #[.slice A0_0 l0_0.length c0_0] rfl jG ?_;(with_reducible refine (Fn.calls k  _ _ l0_0 t199 _ ?side1 ?side2 A2.out).mono ?_);(case side1=>repeat (first|exact (Kd.C_below HR0_0.out HB.out)|(with_reducible refine Kd.C_alloc ?_ _)|(with_reducible refine Kd.C_drewN ?_ _)|(with_reducible refine Kd.C_drew ?_)));(case side2=>exact HC0_0.out);rintro e w9 ⟨v200,rfl,ho0,hb⟩;refine ⟨_,rfl,?_⟩;have HO201:=zh (Kd.S_lower ho0 (zB jAx));replace BK196:=zh (cD BK196.out jAT hb);replace BK197:=zh (cD BK197.out jAw hb);replace BK198:=zh (cD BK198.out (by (with_reducible repeat first|apply ze|apply zf|apply zg);exact BK198.out) hb);replace HB:=zh (zC jAx hb);(try clear hb);(try clear hb2);(try clear hk);(try clear hi);(try clear ho0);obtain ⟨Ao10,co10,eo10⟩:=Kd.S_slice HO201.out;subst eo10;have hnb11:=NB198_197.out;have hnc11:=NB197_198.out;obtain ⟨hcz12_0,hcz12_1,hfz12_0,hfz12_1⟩:=cB2 BK198.out;obtain ⟨hcz13_0,hcz13_1,hfz13_0,hfz13_1⟩:=cB2 BK196.out;obtain ⟨hcz14_0,hcz14_1,hfz14_0,hfz14_1⟩:=cB2 BK197.out))
 refine bodyPost_ret (results_cell_row rfl _ _ gb197 35 #[.slice Ao10 t199.length co10,.int .i64 a0_1] (0,0) _ rfl (by (with_reducible repeat first|apply ze|apply zf|apply zg);refine zL (cs:=#[.slice Ao10 t199.length co10,.int .i64 0]) ?_ 1 _ rfl;(with_reducible repeat first|apply ze|apply zf|apply zg);refine zL (cs:=#[.slice none 0 0,.int .i64 0]) ?_ 0 _ rfl;(with_reducible repeat first|apply ze|apply zf|apply zg);refine cS2 ?_ NB197_198.out;(with_reducible repeat first|apply ze|apply zf|apply zg);exact BK197.out) Try.underlying35 rfl jA) rfl ?_;exact ⟨_,jH,by (with_reducible repeat (first|apply Kd.S_alloc|apply Kd.S_drewN|apply Kd.S_drew));exact Kd.S_mono (Kd.S_far (p:=⟨gb197,1,none⟩) (Kd.S_far (p:=⟨gb197,0,none⟩) (Kd.S_far (p:=⟨gb198,1,none⟩) (Kd.S_far (p:=⟨gb198,0,none⟩) (Kd.S_types (Kd.S_types HO201.out BK198.out jB) BK197.out jB) (fun _ hk=>hk.1.2) (.slice Ao10 t199.length co10)) (fun _ hk=>hk.1.2) (.int .i64 a0_1)) (fun _ hk=>hk.2) (.slice Ao10 t199.length co10)) (fun _ hk=>hk.2) (.int .i64 a0_1)) (fun _ hk=>trivial),jAx⟩


def F5.f (a0_0 : ByteArray) (a0_1 : Int) (a1_0 : ByteArray) (a1_1 : Int) : Option (Bool):=if a0_0.toList=a1_0.toList then (if a0_1=a1_1 then (some true) else (some false)) else (some false)
set_option maxHeartbeats 8000000 in
set_option maxRecDepth 100000 in
theorem F5.calls (a0_0 : ByteArray) (a0_1 : Int) (a1_0 : ByteArray) (a1_1 : Int) (r : Bool) (w : World) (h : F5.f a0_0 a0_1 a1_0 a1_1=some r) :
  Calls Try.prog 37 #[.agg #[.string a0_0,.int .i64 a0_1],.agg #[.string a1_0,.int .i64 a1_1]] w fun e w' => e = .returned (.bool r)∧Below w.heap.size w w':=by
 have hu51:=Try.underlying51;have HB:=zh (Below.refl w.heap.size w);have H : (if a0_0.toList=a1_0.toList then (if a0_1=a1_1 then (some true) else (some false)) else (some false))=some r:=h;clear h
 by_cases c3 : a0_0.toList=a1_0.toList
 ·
  rw [if_pos c3] at H
  have c3b0 : (a0_0.toList == a1_0.toList)=true:=ya.mpr c3;have c3b1 : (a0_0.toList != a1_0.toList)=false:=zX.mpr c3;clear c3
  by_cases c4 : a0_1=a1_1
  ·
   rw [if_pos c4] at H
   have c4b0 : (a0_1 == a1_1)=true:=ya.mpr c4;have c4b1 : (a0_1 != a1_1)=false:=zX.mpr c4;clear c4;obtain rfl:=zU H
   go_enter Try.func37,Try.ntmps37
   go_wp2_with (first|((with_reducible refine zK (N:=2) rfl ?_);refine zI ?hg (N:=2) ?hd (cs:=#[.string a0_0,.int .i64 a0_1]) (t:=51) ?hr ?_;(case hd=>rfl);(case hg=>rfl);(case hr=>go_simp <;> rfl);intro gb293 hg w5 hbox hb;have BK293:=zh (hbox);have hH_:=cH jF hb hg;have GW293:=zh hH_.1;have GE293:=GW293;replace HB:=zh hH_.2;clear hb hbox hg hH_)|((with_reducible refine zK (N:=3) rfl ?_);refine zI ?hg (N:=3) ?hd (cs:=#[.string a1_0,.int .i64 a1_1]) (t:=51) ?hr ?_;(case hd=>rfl);(case hg=>rfl);(case hr=>go_simp <;> rfl);intro gb294 hg w6 hbox hb;have BK294:=zh (hbox);have hH_:=cH jAy hb hg;have GW294:=zh hH_.1;have GE294:=GW294;replace HB:=zh hH_.2;have NB293_294:=zh ((jAz : gb293≠gb294));have NB294_293:=zh NB293_294.out.symm;replace BK293:=zh (cD BK293.out jAU hb);clear hb hbox hg hH_;have hnb7:=NB293_294.out;have hnc7:=NB294_293.out;obtain ⟨hcz8_0,hcz8_1,hfz8_0,hfz8_1⟩:=cB2 BK293.out;obtain ⟨hcz9_0,hcz9_1,hfz9_0,hfz9_1⟩:=cB2 BK294.out))
   go_ret
   exact ⟨jH,jA0⟩
  rw [if_neg c4] at H;have c4b0 : (a0_1 == a1_1)=false:=zY.mpr c4;have c4b1 : (a0_1 != a1_1)=true:=zZ.mpr c4;obtain rfl:=zU H
  go_enter Try.func37,Try.ntmps37
  go_wp2_with (first|((with_reducible refine zK (N:=2) rfl ?_);refine zI ?hg (N:=2) ?hd (cs:=#[.string a0_0,.int .i64 a0_1]) (t:=51) ?hr ?_;(case hd=>rfl);(case hg=>rfl);(case hr=>go_simp <;> rfl);intro gb293 hg w10 hbox hb;have BK293:=zh (hbox);have hH_:=cH jF hb hg;have GW293:=zh hH_.1;have GE293:=GW293;replace HB:=zh hH_.2;clear hb hbox hg hH_)|((with_reducible refine zK (N:=3) rfl ?_);refine zI ?hg (N:=3) ?hd (cs:=#[.string a1_0,.int .i64 a1_1]) (t:=51) ?hr ?_;(case hd=>rfl);(case hg=>rfl);(case hr=>go_simp <;> rfl);intro gb294 hg w11 hbox hb;have BK294:=zh (hbox);have hH_:=cH jAy hb hg;have GW294:=zh hH_.1;have GE294:=GW294;replace HB:=zh hH_.2;have NB293_294:=zh ((jAz : gb293≠gb294));have NB294_293:=zh NB293_294.out.symm;replace BK293:=zh (cD BK293.out jAU hb);clear hb hbox hg hH_;have hnb12:=NB293_294.out;have hnc12:=NB294_293.out;obtain ⟨hcz13_0,hcz13_1,hfz13_0,hfz13_1⟩:=cB2 BK293.out;obtain ⟨hcz14_0,hcz14_1,hfz14_0,hfz14_1⟩:=cB2 BK294.out))
  go_ret
  exact ⟨jH,jA0⟩
 rw [if_neg c3] at H;have c3b0 : (a0_0.toList == a1_0.toList)=false:=zY.mpr c3;have c3b1 : (a0_0.toList != a1_0.toList)=true:=zZ.mpr c3;obtain rfl:=zU H
 go_enter Try.func37,Try.ntmps37
 go_wp2_with (first|((with_reducible refine zK (N:=2) rfl ?_);refine zI ?hg (N:=2) ?hd (cs:=#[.string a0_0,.int .i64 a0_1]) (t:=51) ?hr ?_;(case hd=>rfl);(case hg=>rfl);(case hr=>go_simp <;> rfl);intro gb293 hg w15 hbox hb;have BK293:=zh (hbox);have hH_:=cH jF hb hg;have GW293:=zh hH_.1;have GE293:=GW293;replace HB:=zh hH_.2;clear hb hbox hg hH_)|((with_reducible refine zK (N:=3) rfl ?_);refine zI ?hg (N:=3) ?hd (cs:=#[.string a1_0,.int .i64 a1_1]) (t:=51) ?hr ?_;(case hd=>rfl);(case hg=>rfl);(case hr=>go_simp <;> rfl);intro gb294 hg w16 hbox hb;have BK294:=zh (hbox);have hH_:=cH jAy hb hg;have GW294:=zh hH_.1;have GE294:=GW294;replace HB:=zh hH_.2;have NB293_294:=zh ((jAz : gb293≠gb294));have NB294_293:=zh NB293_294.out.symm;replace BK293:=zh (cD BK293.out jAU hb);clear hb hbox hg hH_;have hnb17:=NB293_294.out;have hnc17:=NB294_293.out;obtain ⟨hcz18_0,hcz18_1,hfz18_0,hfz18_1⟩:=cB2 BK293.out;obtain ⟨hcz19_0,hcz19_1,hfz19_0,hfz19_1⟩:=cB2 BK294.out))
 go_ret
 exact ⟨jH,jA0⟩


def Fb.l0 : Nat→List (S51)→List (S51)→Int→Option (Bool)
 | 0,_,_,_=>none
 | k+1,x0,x1,x5=>if x5<(x0.length : Int) then (if 0≤x5 then (if x5<(x1.length : Int) then ((F5.f ((rd_T51 x0 x5).f0) ((rd_T51 x0 x5).f1) ((rd_T51 x1 x5).f0) ((rd_T51 x1 x5).f1)).bind fun t297=>(if t297=true then (Fb.l0 k x0 x1 (wrap64 (x5+1))) else (some false))) else (none)) else (none)) else (some true)
def Fb.f (k : Nat) (l0 : List (S51)) (l1 : List (S51)) : Option (Bool):=if (l0.length : Int)=(l1.length : Int) then (Fb.l0 k l0 l1 0) else (some false)
theorem Fb.mono_l : ∀ k,(∀ y0 y1 y2,LeO (Fb.l0 k y0 y1 y2) (Fb.l0 (k+1) y0 y1 y2))
 | 0=>fun _ _ _ r h=>by simp [Fb.l0] at h
 | k+1=>by
  have ih0:=Fb.mono_l k;intro y0 y1 y2;unfold Fb.l0
  repeat' first|(with_reducible first|exact ih0 _ _ _|exact zQ _|exact zN _|refine zP ?_ ?_|refine zO ?_ (fun _=>?_))|refine zP ?_ ?_|refine zO ?_ (fun _=>?_)
theorem Fb.mono : ∀ a0 a1 k,LeO (Fb.f k a0 a1) (Fb.f (k+1) a0 a1):=by
 intro a0 a1 k;have ih0:=Fb.mono_l k;unfold Fb.f
 repeat' first|(with_reducible first|exact ih0 _ _ _|exact zQ _|exact zN _|refine zP ?_ ?_|refine zO ?_ (fun _=>?_))|refine zP ?_ ?_|refine zO ?_ (fun _=>?_)
def Fb.T6 : Bool×List (List Nat×List Nat):=(true,[([],[]),([],[]),([0,1],[0,1]),([2],[2]),([],[]),([],[]),([4,5],[4,5]),([6],[6]),([3,7],[3,7]),([8],[8])])
def Fb.B6 : List Nat:=[0,0,3,7,0,0,48,112,255,511]
theorem Fb.tab6 : rtab .any (opsOf Try.f12 6)=Fb.T6:=by kernel_rfl
theorem Fb.bits6 : waitsOk Fb.T6.2 Fb.B6=true:=by kernel_rfl
set_option maxHeartbeats 8000000 in
set_option maxRecDepth 100000 in
theorem Fb.calls (k : Nat) (A0 : Option Addr) (c0 : Nat) (l0 : List (S51)) (A1 : Option Addr) (c1 : Nat) (l1 : List (S51)) (r : Bool) (w : World) (hr0 : Kd.C k51 w A0 l0.length l0) (hc0 : l0.length≤c0) (hr1 : Kd.C k51 w A1 l1.length l1) (hc1 : l1.length≤c1) (h : Fb.f k l0 l1=some r) :
  Calls Try.prog 12 #[.slice A0 l0.length c0,.slice A1 l1.length c1] w fun e w' => e = .returned (.bool r)∧Below w.heap.size w w':=by
 have hu51:=Try.underlying51;have HR0:=zh hr0;have HC0:=zh hc0;clear hr0 hc0;have HR1:=zh hr1;have HC1:=zh hc1;clear hr1 hc1;have HB:=zh (Below.refl w.heap.size w);have H : (if (l0.length : Int)=(l1.length : Int) then (Fb.l0 k l0 l1 0) else (some false))=some r:=h;clear h
 by_cases c3 : (l0.length : Int)=(l1.length : Int)
 ·
  rw [if_pos c3] at H
  have c3b0 : ((l0.length : Int) == (l1.length : Int))=true:=ya.mpr c3;have c3b1 : ((l0.length : Int) != (l1.length : Int))=false:=zX.mpr c3;have c3b2 : (l0.length == l1.length)=true:=by first|simpa using c3|(simp at c3 ⊢;omega)
  clear c3;have H':=zh H;clear H
  go_enter Try.func12,Try.ntmps12
  go_wp2
  go_loopg [5] k (fun kq v5 w' => ∃ (x5_1 : Int),v5 = .int .i64 x5_1∧Aside0 (Fb.l0 kq l0 l1 x5_1=some r)∧Aside0 (kq≤k)∧Aside0 (Below w.heap.size w w'))
  case atStart=>exact ⟨(0),jE,H',⟨ye _⟩,⟨jF⟩⟩
  case round =>
   clear H'
   try clear c1
   try clear p2
   try clear c3 c3b0 c3b1 c3b2
   obtain ⟨x5_1,rfl,HA,HK1,HB⟩:=hrel
   cases gk with
   | zero=>exact absurd HA.out (by simp [Fb.l0])
   | succ k1 =>
    have H:=HA.out;clear HA;simp only [Fb.l0] at H
    by_cases c4 : x5_1<(l0.length : Int)
    ·
     rw [if_pos c4] at H
     have c4b0 : decide (x5_1<(l0.length : Int))=true:=decide_eq_true c4;clear c4
     by_cases c5 : 0≤x5_1
     ·
      rw [if_pos c5] at H
      have c5b0 : decide (0≤x5_1)=true:=decide_eq_true c5;clear c5
      by_cases c6 : x5_1<(l1.length : Int)
      ·
       rw [if_pos c6] at H
       have c6b0 : decide (x5_1<(l1.length : Int))=true:=decide_eq_true c6;clear c6;replace H:=zT.mp H;obtain ⟨t297,A70,H⟩:=H;have A7:=zh A70;clear A70
       by_cases c8 : t297=true
       ·
        subst c8
        rw [if_pos rfl] at H;have H':=zh H;clear H
        try go_wp2
        replace HB:=zh (zc HB.out);have p295 : 0≤(x5_1 : Int):=zy jC;have q295 : x5_1<(l0.length : Int):=zy jC;obtain ⟨ad295,e295,hx295_0,hx295_1⟩:=at_T51 HR0.out x5_1 p295 q295;have hw295_1:=hx295_1;have hw295_0:=hx295_0
        cases e295
        replace hx295_0:=(HB.out.cell (zl w _ hx295_0)).trans hx295_0;replace hx295_1:=(HB.out.cell (zl w _ hx295_1)).trans hx295_1;replace p295:=eq_true p295;replace q295:=eq_true q295;have p296 : 0≤(x5_1 : Int):=zy jC;have q296 : x5_1<(l1.length : Int):=zy jC;obtain ⟨ad296,e296,hx296_0,hx296_1⟩:=at_T51 HR1.out x5_1 p296 q296;have hw296_1:=hx296_1;have hw296_0:=hx296_0
        cases e296
        replace hx296_0:=(HB.out.cell (zl w _ hx296_0)).trans hx296_0;replace hx296_1:=(HB.out.cell (zl w _ hx296_1)).trans hx296_1;replace p296:=eq_true p296;replace q296:=eq_true q296;refine start_ (n:=10) (S:=fun w' => w'.cell? (ad295.add ((x5_1).toNat*2))=some (.string ((rd_T51 l0 x5_1).f0))∧w'.cell? ⟨(ad295.add ((x5_1).toNat*2)).block,(ad295.add ((x5_1).toNat*2)).off+1,none⟩=some (.int .i64 ((rd_T51 l0 x5_1).f1))∧w'.cell? (ad296.add ((x5_1).toNat*2))=some (.string ((rd_T51 l1 x5_1).f0))∧w'.cell? ⟨(ad296.add ((x5_1).toNat*2)).block,(ad296.add ((x5_1).toNat*2)).off+1,none⟩=some (.int .i64 ((rd_T51 l1 x5_1).f1))) (ds:=[]) (bm_ 0 10) jA rfl rfl ⟨((HB.out.cell (zl w _ hw295_0)).trans hw295_0),((HB.out.cell (zl w _ hw295_1)).trans hw295_1),((HB.out.cell (zl w _ hw296_0)).trans hw296_0),((HB.out.cell (zl w _ hw296_1)).trans hw296_1)⟩ (fun hHeld=>?_);refine with_tabW Fb.tab6 Fb.bits6 (fun HT_ HW_=>?_);generalize wr.drew=w9 at HB hx295_0 hx295_1 hx296_0 hx296_1 hHeld ⊢;refine pure_ (i:=0) (N:=some 17) (v:=?_) (a':=?_) (bm_ 1 10) rfl rfl (any_of HT_.out jA) (fun _ _ _ h=>h) (Or.inl ⟨by rfl,?_⟩) ?_ ?_;rotate_left;exact jb;rotate_left;exact jc
        refine pure_ (i:=1) (N:=some 18) (v:=?_) (a':=?_) (bm_ 2 10) rfl rfl (any_of HT_.out jA) (fun _ _ _ h=>h) (Or.inl ⟨by rfl,?_⟩) ?_ ?_;rotate_left;exact jb;rotate_left;exact jc
        refine pure_ (i:=2) (N:=some 19) (v:=?_) (a':=?_) (bm_ 3 10) rfl rfl (any_of HT_.out jA) (fun _ _ _ h=>h) (Or.inl ⟨by rfl,?_⟩) ?_ ?_;rotate_left;exact jb;rotate_left;exact jc
        refine pure_ (i:=4) (N:=some 21) (v:=?_) (a':=?_) #[true,true,true,false,true,false,false,false,false,false] rfl rfl (any_of HT_.out jA) (fun _ _ _ h=>h) (Or.inl ⟨by rfl,?_⟩) ?_ ?_;rotate_left;exact jb;rotate_left;exact jc
        refine pure_ (i:=5) (N:=some 22) (v:=?_) (a':=?_) #[true,true,true,false,true,true,false,false,false,false] rfl rfl (any_of HT_.out jA) (fun _ _ _ h=>h) (Or.inl ⟨by rfl,?_⟩) ?_ ?_;rotate_left;exact jb;rotate_left;exact jc
        refine pure_ (i:=6) (N:=some 23) (v:=?_) (a':=?_) #[true,true,true,false,true,true,true,false,false,false] rfl rfl (any_of HT_.out jA) (fun _ _ _ h=>h) (Or.inl ⟨by rfl,?_⟩) ?_ ?_;rotate_left;exact jb;rotate_left;exact jc
        refine take_ (i:=3) (N:=some 20) (v:=?_) (a':=?_) (bm_ 7 10) rfl rfl (yo HT_.out HW_.out jA) (fun _ _ _ h=>h) (Or.inl ⟨by rfl,?_⟩) hHeld ?_ ?_;rotate_left
        ·
         rintro w' ⟨s0,s1,s2,s3⟩
         go_simp
         with_reducible rfl
        rotate_left
        exact jc
        refine take_ (i:=7) (N:=some 24) (v:=?_) (a':=?_) (bm_ 8 10) rfl rfl (yo HT_.out HW_.out jA) (fun _ _ _ h=>h) (Or.inl ⟨by rfl,?_⟩) hHeld ?_ ?_;rotate_left
        ·
         rintro w' ⟨s0,s1,s2,s3⟩
         go_simp
         with_reducible rfl
        rotate_left
        exact jc
        refine one_ (i:=8) (N:=some 25) (bm_ 9 10) rfl rfl (one_of HT_.out jA) jB (fun K hK=>?_);refine goes_ Try.func37 jA rfl #[.agg #[.string ((rd_T51 l0 x5_1).f0),.int .i64 ((rd_T51 l0 x5_1).f1)],.agg #[.string ((rd_T51 l1 x5_1).f0),.int .i64 ((rd_T51 l1 x5_1).f1)]] (by rfl) rfl rfl jG ?_
        with_reducible refine (F5.calls  ((rd_T51 l0 x5_1).f0) ((rd_T51 l0 x5_1).f1) ((rd_T51 l1 x5_1).f0) ((rd_T51 l1 x5_1).f1) true _ A7.out).mono ?_
        rintro e w10 ⟨rfl,hb⟩;refine ⟨_,rfl,?_⟩;replace HB:=zh (zC jF hb);(try clear hb);(try clear hb2);(try clear hk);(try clear hi);refine hK.out _ _ ⟨((HB.out.cell (zl w _ hw295_0)).trans hw295_0),((HB.out.cell (zl w _ hw295_1)).trans hw295_1),((HB.out.cell (zl w _ hw296_0)).trans hw296_0),((HB.out.cell (zl w _ hw296_1)).trans hw296_1)⟩ (fun hHeld=>?_);clear hK K;refine norm_ (a':=?_) ?_ ?_;rotate_left
        ·
         show Act.put _ (some 25) _=_
         simp only [Act.put,zi,zj,zk,zG,zH]
         rfl
        refine pure_ (i:=9) (N:=some 26) (v:=?_) (a':=?_) (bm_ 10 10) rfl rfl (any_of HT_.out jA) (fun _ _ _ h=>h) (Or.inl ⟨by rfl,?_⟩) ?_ ?_;rotate_left;exact jb;rotate_left;exact jc
        refine done_ (done_of HT_.out jA) ?_
        try go_wp2
        go_roundg k1
        case measure=>have:=HK1.out;omega
        case rel=>exact ⟨(wrap64 (x5_1+1)),jE,H',⟨jL⟩,⟨jF⟩⟩
       replace c8:=yb.mpr c8;subst c8;rw [if_neg (show ¬ (false=true) by decide)] at H;obtain rfl:=zU H
       try go_wp2
       replace HB:=zh (zc HB.out);have p295 : 0≤(x5_1 : Int):=zy jC;have q295 : x5_1<(l0.length : Int):=zy jC;obtain ⟨ad295,e295,hx295_0,hx295_1⟩:=at_T51 HR0.out x5_1 p295 q295;have hw295_1:=hx295_1;have hw295_0:=hx295_0
       cases e295
       replace hx295_0:=(HB.out.cell (zl w _ hx295_0)).trans hx295_0;replace hx295_1:=(HB.out.cell (zl w _ hx295_1)).trans hx295_1;replace p295:=eq_true p295;replace q295:=eq_true q295;have p296 : 0≤(x5_1 : Int):=zy jC;have q296 : x5_1<(l1.length : Int):=zy jC;obtain ⟨ad296,e296,hx296_0,hx296_1⟩:=at_T51 HR1.out x5_1 p296 q296;have hw296_1:=hx296_1;have hw296_0:=hx296_0
       cases e296
       replace hx296_0:=(HB.out.cell (zl w _ hx296_0)).trans hx296_0;replace hx296_1:=(HB.out.cell (zl w _ hx296_1)).trans hx296_1;replace p296:=eq_true p296;replace q296:=eq_true q296;refine start_ (n:=10) (S:=fun w' => w'.cell? (ad295.add ((x5_1).toNat*2))=some (.string ((rd_T51 l0 x5_1).f0))∧w'.cell? ⟨(ad295.add ((x5_1).toNat*2)).block,(ad295.add ((x5_1).toNat*2)).off+1,none⟩=some (.int .i64 ((rd_T51 l0 x5_1).f1))∧w'.cell? (ad296.add ((x5_1).toNat*2))=some (.string ((rd_T51 l1 x5_1).f0))∧w'.cell? ⟨(ad296.add ((x5_1).toNat*2)).block,(ad296.add ((x5_1).toNat*2)).off+1,none⟩=some (.int .i64 ((rd_T51 l1 x5_1).f1))) (ds:=[]) (bm_ 0 10) jA rfl rfl ⟨((HB.out.cell (zl w _ hw295_0)).trans hw295_0),((HB.out.cell (zl w _ hw295_1)).trans hw295_1),((HB.out.cell (zl w _ hw296_0)).trans hw296_0),((HB.out.cell (zl w _ hw296_1)).trans hw296_1)⟩ (fun hHeld=>?_);refine with_tabW Fb.tab6 Fb.bits6 (fun HT_ HW_=>?_);generalize wr.drew=w11 at HB hx295_0 hx295_1 hx296_0 hx296_1 hHeld ⊢;refine pure_ (i:=0) (N:=some 17) (v:=?_) (a':=?_) (bm_ 1 10) rfl rfl (any_of HT_.out jA) (fun _ _ _ h=>h) (Or.inl ⟨by rfl,?_⟩) ?_ ?_;rotate_left;exact jb;rotate_left;exact jc
       refine pure_ (i:=1) (N:=some 18) (v:=?_) (a':=?_) (bm_ 2 10) rfl rfl (any_of HT_.out jA) (fun _ _ _ h=>h) (Or.inl ⟨by rfl,?_⟩) ?_ ?_;rotate_left;exact jb;rotate_left;exact jc
       refine pure_ (i:=2) (N:=some 19) (v:=?_) (a':=?_) (bm_ 3 10) rfl rfl (any_of HT_.out jA) (fun _ _ _ h=>h) (Or.inl ⟨by rfl,?_⟩) ?_ ?_;rotate_left;exact jb;rotate_left;exact jc
       refine pure_ (i:=4) (N:=some 21) (v:=?_) (a':=?_) #[true,true,true,false,true,false,false,false,false,false] rfl rfl (any_of HT_.out jA) (fun _ _ _ h=>h) (Or.inl ⟨by rfl,?_⟩) ?_ ?_;rotate_left;exact jb;rotate_left;exact jc
       refine pure_ (i:=5) (N:=some 22) (v:=?_) (a':=?_) #[true,true,true,false,true,true,false,false,false,false] rfl rfl (any_of HT_.out jA) (fun _ _ _ h=>h) (Or.inl ⟨by rfl,?_⟩) ?_ ?_;rotate_left;exact jb;rotate_left;exact jc
       refine pure_ (i:=6) (N:=some 23) (v:=?_) (a':=?_) #[true,true,true,false,true,true,true,false,false,false] rfl rfl (any_of HT_.out jA) (fun _ _ _ h=>h) (Or.inl ⟨by rfl,?_⟩) ?_ ?_;rotate_left;exact jb;rotate_left;exact jc
       refine take_ (i:=3) (N:=some 20) (v:=?_) (a':=?_) (bm_ 7 10) rfl rfl (yo HT_.out HW_.out jA) (fun _ _ _ h=>h) (Or.inl ⟨by rfl,?_⟩) hHeld ?_ ?_;rotate_left
       ·
        rintro w' ⟨s0,s1,s2,s3⟩
        go_simp
        with_reducible rfl
       rotate_left
       exact jc
       refine take_ (i:=7) (N:=some 24) (v:=?_) (a':=?_) (bm_ 8 10) rfl rfl (yo HT_.out HW_.out jA) (fun _ _ _ h=>h) (Or.inl ⟨by rfl,?_⟩) hHeld ?_ ?_;rotate_left
       ·
        rintro w' ⟨s0,s1,s2,s3⟩
        go_simp
        with_reducible rfl
       rotate_left
       exact jc
       refine one_ (i:=8) (N:=some 25) (bm_ 9 10) rfl rfl (one_of HT_.out jA) jB (fun K hK=>?_);refine goes_ Try.func37 jA rfl #[.agg #[.string ((rd_T51 l0 x5_1).f0),.int .i64 ((rd_T51 l0 x5_1).f1)],.agg #[.string ((rd_T51 l1 x5_1).f0),.int .i64 ((rd_T51 l1 x5_1).f1)]] (by rfl) rfl rfl jG ?_
       with_reducible refine (F5.calls  ((rd_T51 l0 x5_1).f0) ((rd_T51 l0 x5_1).f1) ((rd_T51 l1 x5_1).f0) ((rd_T51 l1 x5_1).f1) false _ A7.out).mono ?_
       rintro e w12 ⟨rfl,hb⟩;refine ⟨_,rfl,?_⟩;replace HB:=zh (zC jF hb);(try clear hb);(try clear hb2);(try clear hk);(try clear hi);refine hK.out _ _ ⟨((HB.out.cell (zl w _ hw295_0)).trans hw295_0),((HB.out.cell (zl w _ hw295_1)).trans hw295_1),((HB.out.cell (zl w _ hw296_0)).trans hw296_0),((HB.out.cell (zl w _ hw296_1)).trans hw296_1)⟩ (fun hHeld=>?_);clear hK K;refine norm_ (a':=?_) ?_ ?_;rotate_left
       ·
        show Act.put _ (some 25) _=_
        simp only [Act.put,zi,zj,zk,zG,zH]
        rfl
       refine pure_ (i:=9) (N:=some 26) (v:=?_) (a':=?_) (bm_ 10 10) rfl rfl (any_of HT_.out jA) (fun _ _ _ h=>h) (Or.inl ⟨by rfl,?_⟩) ?_ ?_;rotate_left;exact jb;rotate_left;exact jc
       refine done_ (done_of HT_.out jA) ?_
       try go_wp2
       go_ret
       exact ⟨jH,jF⟩
      rw [if_neg c6] at H;exact absurd H (by simp)
     rw [if_neg c5] at H;exact absurd H (by simp)
    rw [if_neg c4] at H;have c4b0 : decide (x5_1<(l0.length : Int))=false:=decide_eq_false c4;clear c4;obtain rfl:=zU H
    go_wp2
    go_ret
    exact ⟨jH,jF⟩
 rw [if_neg c3] at H;have c3b0 : ((l0.length : Int) == (l1.length : Int))=false:=zY.mpr c3;have c3b1 : ((l0.length : Int) != (l1.length : Int))=true:=zZ.mpr c3;have c3b2 : (l0.length == l1.length)=false:=by first|simpa using c3|(simp at c3 ⊢;omega)
 obtain rfl:=zU H
 go_enter Try.func12,Try.ntmps12
 go_wp2
 go_ret
 exact ⟨jH,jF⟩


def F4.f (k : Nat) (a0_0 : Int) (l0_1 : List (S51)) (a1_0 : Int) (l1_1 : List (S51)) : Option (Bool):=if a0_0=a1_0 then ((Fb.f k l0_1 l1_1).bind fun t302=>(if t302=true then (some true) else (some false))) else (some false)
theorem F4.mono : ∀ a0 a1 a2 a3 k,LeO (F4.f k a0 a1 a2 a3) (F4.f (k+1) a0 a1 a2 a3):=by
 intro a0 a1 a2 a3 k;unfold F4.f
 repeat' first|(with_reducible first|exact Fb.mono _ _ _|exact zQ _|exact zN _|refine zP ?_ ?_|refine zO ?_ (fun _=>?_))|refine zP ?_ ?_|refine zO ?_ (fun _=>?_)
set_option maxHeartbeats 8000000 in
set_option maxRecDepth 100000 in
theorem F4.calls (k : Nat) (a0_0 : Int) (A0_1 : Option Addr) (c0_1 : Nat) (l0_1 : List (S51)) (a1_0 : Int) (A1_1 : Option Addr) (c1_1 : Nat) (l1_1 : List (S51)) (r : Bool) (w : World) (hr0_1 : Kd.C k51 w A0_1 l0_1.length l0_1) (hc0_1 : l0_1.length≤c0_1) (hr1_1 : Kd.C k51 w A1_1 l1_1.length l1_1) (hc1_1 : l1_1.length≤c1_1) (h : F4.f k a0_0 l0_1 a1_0 l1_1=some r) :
  Calls Try.prog 60 #[.agg #[.int .i64 a0_0,.slice A0_1 l0_1.length c0_1],.agg #[.int .i64 a1_0,.slice A1_1 l1_1.length c1_1]] w fun e w' => e = .returned (.bool r)∧Below w.heap.size w w':=by
 have hu67:=Try.underlying67;have HR0_1:=zh hr0_1;have HC0_1:=zh hc0_1;clear hr0_1 hc0_1;have HR1_1:=zh hr1_1;have HC1_1:=zh hc1_1;clear hr1_1 hc1_1;have HB:=zh (Below.refl w.heap.size w);have H : (if a0_0=a1_0 then ((Fb.f k l0_1 l1_1).bind fun t302=>(if t302=true then (some true) else (some false))) else (some false))=some r:=h;clear h
 by_cases c3 : a0_0=a1_0
 ·
  rw [if_pos c3] at H
  have c3b0 : (a0_0 == a1_0)=true:=ya.mpr c3;have c3b1 : (a0_0 != a1_0)=false:=zX.mpr c3;clear c3;replace H:=zT.mp H;obtain ⟨t302,A40,H⟩:=H;have A4:=zh A40;clear A40
  by_cases c5 : t302=true
  ·
   subst c5
   rw [if_pos rfl] at H;obtain rfl:=zU H
   go_enter Try.func60,Try.ntmps60
   go_wp2_with (first|((with_reducible refine zK (N:=2) rfl ?_);refine zI ?hg (N:=2) ?hd (cs:=#[.int .i64 a0_0,.slice A0_1 l0_1.length c0_1]) (t:=67) ?hr ?_;(case hd=>rfl);(case hg=>rfl);(case hr=>go_simp <;> rfl);intro gb300 hg w6 hbox hb;have BK300:=zh (hbox);have hH_:=cH jF hb hg;have GW300:=zh hH_.1;have GE300:=GW300;replace HB:=zh hH_.2;clear hb hbox hg hH_)|((with_reducible refine zK (N:=3) rfl ?_);refine zI ?hg (N:=3) ?hd (cs:=#[.int .i64 a1_0,.slice A1_1 l1_1.length c1_1]) (t:=67) ?hr ?_;(case hd=>rfl);(case hg=>rfl);(case hr=>go_simp <;> rfl);intro gb301 hg w7 hbox hb;have BK301:=zh (hbox);have hH_:=cH jA1 hb hg;have GW301:=zh hH_.1;have GE301:=GW301;replace HB:=zh hH_.2;have NB300_301:=zh ((jA2 : gb300≠gb301));have NB301_300:=zh NB300_301.out.symm;replace BK300:=zh (cD BK300.out ju hb);clear hb hbox hg hH_;have hnb8:=NB300_301.out;have hnc8:=NB301_300.out;obtain ⟨hcz9_0,hcz9_1,hfz9_0,hfz9_1⟩:=cB2 BK300.out;obtain ⟨hcz10_0,hcz10_1,hfz10_0,hfz10_1⟩:=cB2 BK301.out)|((with_reducible refine zJ (f:=12) rfl ?_);refine yj (some 14) rfl rfl Try.func12 jA rfl #[.slice A0_1 l0_1.length c0_1,.slice A1_1 l1_1.length c1_1] rfl jG ?_;(with_reducible refine (Fb.calls k  _ _ l0_1 _ _ l1_1 true _ ?side1 ?side2 ?side3 ?side4 A4.out).mono ?_);(case side1=>repeat (first|exact (Kd.C_below HR0_1.out HB.out)|(with_reducible refine Kd.C_alloc ?_ _)|(with_reducible refine Kd.C_drewN ?_ _)|(with_reducible refine Kd.C_drew ?_)));(case side2=>exact HC0_1.out);(case side3=>repeat (first|exact (Kd.C_below HR1_1.out HB.out)|(with_reducible refine Kd.C_alloc ?_ _)|(with_reducible refine Kd.C_drewN ?_ _)|(with_reducible refine Kd.C_drew ?_)));(case side4=>exact HC1_1.out);rintro e w11 ⟨rfl,hb⟩;refine ⟨_,rfl,?_⟩;replace BK300:=zh (cD BK300.out ju hb);replace BK301:=zh (cD BK301.out jBV hb);replace HB:=zh (zC jAH hb);(try clear hb);(try clear hb2);(try clear hk);(try clear hi)))
   go_ret
   exact ⟨jH,jAH⟩
  replace c5:=yb.mpr c5;subst c5;rw [if_neg (show ¬ (false=true) by decide)] at H;obtain rfl:=zU H
  go_enter Try.func60,Try.ntmps60
  go_wp2_with (first|((with_reducible refine zK (N:=2) rfl ?_);refine zI ?hg (N:=2) ?hd (cs:=#[.int .i64 a0_0,.slice A0_1 l0_1.length c0_1]) (t:=67) ?hr ?_;(case hd=>rfl);(case hg=>rfl);(case hr=>go_simp <;> rfl);intro gb300 hg w12 hbox hb;have BK300:=zh (hbox);have hH_:=cH jF hb hg;have GW300:=zh hH_.1;have GE300:=GW300;replace HB:=zh hH_.2;clear hb hbox hg hH_)|((with_reducible refine zK (N:=3) rfl ?_);refine zI ?hg (N:=3) ?hd (cs:=#[.int .i64 a1_0,.slice A1_1 l1_1.length c1_1]) (t:=67) ?hr ?_;(case hd=>rfl);(case hg=>rfl);(case hr=>go_simp <;> rfl);intro gb301 hg w13 hbox hb;have BK301:=zh (hbox);have hH_:=cH jA1 hb hg;have GW301:=zh hH_.1;have GE301:=GW301;replace HB:=zh hH_.2;have NB300_301:=zh ((jA2 : gb300≠gb301));have NB301_300:=zh NB300_301.out.symm;replace BK300:=zh (cD BK300.out ju hb);clear hb hbox hg hH_;have hnb14:=NB300_301.out;have hnc14:=NB301_300.out;obtain ⟨hcz15_0,hcz15_1,hfz15_0,hfz15_1⟩:=cB2 BK300.out;obtain ⟨hcz16_0,hcz16_1,hfz16_0,hfz16_1⟩:=cB2 BK301.out)|((with_reducible refine zJ (f:=12) rfl ?_);refine yj (some 14) rfl rfl Try.func12 jA rfl #[.slice A0_1 l0_1.length c0_1,.slice A1_1 l1_1.length c1_1] rfl jG ?_;(with_reducible refine (Fb.calls k  _ _ l0_1 _ _ l1_1 false _ ?side1 ?side2 ?side3 ?side4 A4.out).mono ?_);(case side1=>repeat (first|exact (Kd.C_below HR0_1.out HB.out)|(with_reducible refine Kd.C_alloc ?_ _)|(with_reducible refine Kd.C_drewN ?_ _)|(with_reducible refine Kd.C_drew ?_)));(case side2=>exact HC0_1.out);(case side3=>repeat (first|exact (Kd.C_below HR1_1.out HB.out)|(with_reducible refine Kd.C_alloc ?_ _)|(with_reducible refine Kd.C_drewN ?_ _)|(with_reducible refine Kd.C_drew ?_)));(case side4=>exact HC1_1.out);rintro e w17 ⟨rfl,hb⟩;refine ⟨_,rfl,?_⟩;replace BK300:=zh (cD BK300.out ju hb);replace BK301:=zh (cD BK301.out jBV hb);replace HB:=zh (zC jAH hb);(try clear hb);(try clear hb2);(try clear hk);(try clear hi)))
  go_ret
  exact ⟨jH,jAH⟩
 rw [if_neg c3] at H;have c3b0 : (a0_0 == a1_0)=false:=zY.mpr c3;have c3b1 : (a0_0 != a1_0)=true:=zZ.mpr c3;obtain rfl:=zU H
 go_enter Try.func60,Try.ntmps60
 go_wp2_with (first|((with_reducible refine zK (N:=2) rfl ?_);refine zI ?hg (N:=2) ?hd (cs:=#[.int .i64 a0_0,.slice A0_1 l0_1.length c0_1]) (t:=67) ?hr ?_;(case hd=>rfl);(case hg=>rfl);(case hr=>go_simp <;> rfl);intro gb300 hg w18 hbox hb;have BK300:=zh (hbox);have hH_:=cH jF hb hg;have GW300:=zh hH_.1;have GE300:=GW300;replace HB:=zh hH_.2;clear hb hbox hg hH_)|((with_reducible refine zK (N:=3) rfl ?_);refine zI ?hg (N:=3) ?hd (cs:=#[.int .i64 a1_0,.slice A1_1 l1_1.length c1_1]) (t:=67) ?hr ?_;(case hd=>rfl);(case hg=>rfl);(case hr=>go_simp <;> rfl);intro gb301 hg w19 hbox hb;have BK301:=zh (hbox);have hH_:=cH jA1 hb hg;have GW301:=zh hH_.1;have GE301:=GW301;replace HB:=zh hH_.2;have NB300_301:=zh ((jA2 : gb300≠gb301));have NB301_300:=zh NB300_301.out.symm;replace BK300:=zh (cD BK300.out ju hb);clear hb hbox hg hH_;have hnb20:=NB300_301.out;have hnc20:=NB301_300.out;obtain ⟨hcz21_0,hcz21_1,hfz21_0,hfz21_1⟩:=cB2 BK300.out;obtain ⟨hcz22_0,hcz22_1,hfz22_0,hfz22_1⟩:=cB2 BK301.out))
 go_ret
 exact ⟨jH,jAH⟩


def Ff.l0 : Nat→List (S67)→List (S67)→Int→Option (Bool)
 | 0,_,_,_=>none
 | k+1,x0,x1,x5=>if x5<(x0.length : Int) then (if 0≤x5 then (if x5<(x1.length : Int) then ((F4.f k ((rd_T67 x0 x5).f0) ((rd_T67 x0 x5).f1) ((rd_T67 x1 x5).f0) ((rd_T67 x1 x5).f1)).bind fun t305=>(if t305=true then (Ff.l0 k x0 x1 (wrap64 (x5+1))) else (some false))) else (none)) else (none)) else (some true)
def Ff.f (k : Nat) (l0 : List (S67)) (l1 : List (S67)) : Option (Bool):=if (l0.length : Int)=(l1.length : Int) then (Ff.l0 k l0 l1 0) else (some false)
theorem Ff.mono_l : ∀ k,(∀ y0 y1 y2,LeO (Ff.l0 k y0 y1 y2) (Ff.l0 (k+1) y0 y1 y2))
 | 0=>fun _ _ _ r h=>by simp [Ff.l0] at h
 | k+1=>by
  have ih0:=Ff.mono_l k;intro y0 y1 y2;unfold Ff.l0
  repeat' first|(with_reducible first|exact ih0 _ _ _|exact F4.mono _ _ _ _ _|exact zQ _|exact zN _|refine zP ?_ ?_|refine zO ?_ (fun _=>?_))|refine zP ?_ ?_|refine zO ?_ (fun _=>?_)
theorem Ff.mono : ∀ a0 a1 k,LeO (Ff.f k a0 a1) (Ff.f (k+1) a0 a1):=by
 intro a0 a1 k;have ih0:=Ff.mono_l k;unfold Ff.f
 repeat' first|(with_reducible first|exact ih0 _ _ _|exact F4.mono _ _ _ _ _|exact zQ _|exact zN _|refine zP ?_ ?_|refine zO ?_ (fun _=>?_))|refine zP ?_ ?_|refine zO ?_ (fun _=>?_)
def Ff.T6 : Bool×List (List Nat×List Nat):=(true,[([],[]),([],[]),([0,1],[0,1]),([2],[2]),([],[]),([],[]),([4,5],[4,5]),([6],[6]),([3,7],[3,7]),([8],[8])])
def Ff.B6 : List Nat:=[0,0,3,7,0,0,48,112,255,511]
theorem Ff.tab6 : rtab .any (opsOf Try.f38 6)=Ff.T6:=by kernel_rfl
theorem Ff.bits6 : waitsOk Ff.T6.2 Ff.B6=true:=by kernel_rfl
set_option maxHeartbeats 8000000 in
set_option maxRecDepth 100000 in
theorem Ff.calls (k : Nat) (A0 : Option Addr) (c0 : Nat) (l0 : List (S67)) (A1 : Option Addr) (c1 : Nat) (l1 : List (S67)) (r : Bool) (w : World) (hr0 : Kd.C k67 w A0 l0.length l0) (hc0 : l0.length≤c0) (hr1 : Kd.C k67 w A1 l1.length l1) (hc1 : l1.length≤c1) (h : Ff.f k l0 l1=some r) :
  Calls Try.prog 38 #[.slice A0 l0.length c0,.slice A1 l1.length c1] w fun e w' => e = .returned (.bool r)∧Below w.heap.size w w':=by
 have hu67:=Try.underlying67;have HR0:=zh hr0;have HC0:=zh hc0;clear hr0 hc0;have HR1:=zh hr1;have HC1:=zh hc1;clear hr1 hc1;have HB:=zh (Below.refl w.heap.size w);have H : (if (l0.length : Int)=(l1.length : Int) then (Ff.l0 k l0 l1 0) else (some false))=some r:=h;clear h
 by_cases c3 : (l0.length : Int)=(l1.length : Int)
 ·
  rw [if_pos c3] at H
  have c3b0 : ((l0.length : Int) == (l1.length : Int))=true:=ya.mpr c3;have c3b1 : ((l0.length : Int) != (l1.length : Int))=false:=zX.mpr c3;have c3b2 : (l0.length == l1.length)=true:=by first|simpa using c3|(simp at c3 ⊢;omega)
  clear c3;have H':=zh H;clear H
  go_enter Try.func38,Try.ntmps38
  go_wp2
  go_loopg [5] k (fun kq v5 w' => ∃ (x5_1 : Int),v5 = .int .i64 x5_1∧Aside0 (Ff.l0 kq l0 l1 x5_1=some r)∧Aside0 (kq≤k)∧Aside0 (Below w.heap.size w w'))
  case atStart=>exact ⟨(0),jE,H',⟨ye _⟩,⟨jF⟩⟩
  case round =>
   clear H'
   try clear c1
   try clear p2
   try clear c3 c3b0 c3b1 c3b2
   obtain ⟨x5_1,rfl,HA,HK1,HB⟩:=hrel
   cases gk with
   | zero=>exact absurd HA.out (by simp [Ff.l0])
   | succ k1 =>
    have H:=HA.out;clear HA;simp only [Ff.l0] at H
    by_cases c4 : x5_1<(l0.length : Int)
    ·
     rw [if_pos c4] at H
     have c4b0 : decide (x5_1<(l0.length : Int))=true:=decide_eq_true c4;clear c4
     by_cases c5 : 0≤x5_1
     ·
      rw [if_pos c5] at H
      have c5b0 : decide (0≤x5_1)=true:=decide_eq_true c5;clear c5
      by_cases c6 : x5_1<(l1.length : Int)
      ·
       rw [if_pos c6] at H
       have c6b0 : decide (x5_1<(l1.length : Int))=true:=decide_eq_true c6;clear c6;replace H:=zT.mp H;obtain ⟨t305,A70,H⟩:=H;have A7:=zh A70;clear A70
       by_cases c8 : t305=true
       ·
        subst c8
        rw [if_pos rfl] at H;have H':=zh H;clear H
        try go_wp2
        replace HB:=zh (zc HB.out);have p303 : 0≤(x5_1 : Int):=zy jC;have q303 : x5_1<(l0.length : Int):=zy jC;obtain ⟨ad303,A303_1,c303_1,e303,hx303_0,hx303_1,hl303_1,hi303_1⟩:=at_T67 HR0.out x5_1 p303 q303;have hw303_1:=hx303_1;have hw303_0:=hx303_0
        cases e303
        replace hx303_0:=(HB.out.cell (zl w _ hx303_0)).trans hx303_0;replace hx303_1:=(HB.out.cell (zl w _ hx303_1)).trans hx303_1;have HR303_1:=zh hi303_1;have HC303_1:=zh hl303_1;clear hi303_1 hl303_1;replace p303:=eq_true p303;replace q303:=eq_true q303;have p304 : 0≤(x5_1 : Int):=zy jC;have q304 : x5_1<(l1.length : Int):=zy jC;obtain ⟨ad304,A304_1,c304_1,e304,hx304_0,hx304_1,hl304_1,hi304_1⟩:=at_T67 HR1.out x5_1 p304 q304;have hw304_1:=hx304_1;have hw304_0:=hx304_0
        cases e304
        replace hx304_0:=(HB.out.cell (zl w _ hx304_0)).trans hx304_0;replace hx304_1:=(HB.out.cell (zl w _ hx304_1)).trans hx304_1;have HR304_1:=zh hi304_1;have HC304_1:=zh hl304_1;clear hi304_1 hl304_1;replace p304:=eq_true p304;replace q304:=eq_true q304;refine start_ (n:=10) (S:=fun w' => w'.cell? (ad303.add ((x5_1).toNat*2))=some (.int .i64 ((rd_T67 l0 x5_1).f0))∧w'.cell? ⟨(ad303.add ((x5_1).toNat*2)).block,(ad303.add ((x5_1).toNat*2)).off+1,none⟩=some (.slice A303_1 ((rd_T67 l0 x5_1).f1).length c303_1)∧w'.cell? (ad304.add ((x5_1).toNat*2))=some (.int .i64 ((rd_T67 l1 x5_1).f0))∧w'.cell? ⟨(ad304.add ((x5_1).toNat*2)).block,(ad304.add ((x5_1).toNat*2)).off+1,none⟩=some (.slice A304_1 ((rd_T67 l1 x5_1).f1).length c304_1)) (ds:=[]) (bm_ 0 10) jA rfl rfl ⟨((HB.out.cell (zl w _ hw303_0)).trans hw303_0),((HB.out.cell (zl w _ hw303_1)).trans hw303_1),((HB.out.cell (zl w _ hw304_0)).trans hw304_0),((HB.out.cell (zl w _ hw304_1)).trans hw304_1)⟩ (fun hHeld=>?_);refine with_tabW Ff.tab6 Ff.bits6 (fun HT_ HW_=>?_);generalize wr.drew=w9 at HB HR303_1 HR304_1 hx303_0 hx303_1 hx304_0 hx304_1 hHeld ⊢;refine pure_ (i:=0) (N:=some 17) (v:=?_) (a':=?_) (bm_ 1 10) rfl rfl (any_of HT_.out jA) (fun _ _ _ h=>h) (Or.inl ⟨by rfl,?_⟩) ?_ ?_;rotate_left;exact jb;rotate_left;exact jc
        refine pure_ (i:=1) (N:=some 18) (v:=?_) (a':=?_) (bm_ 2 10) rfl rfl (any_of HT_.out jA) (fun _ _ _ h=>h) (Or.inl ⟨by rfl,?_⟩) ?_ ?_;rotate_left;exact jb;rotate_left;exact jc
        refine pure_ (i:=2) (N:=some 19) (v:=?_) (a':=?_) (bm_ 3 10) rfl rfl (any_of HT_.out jA) (fun _ _ _ h=>h) (Or.inl ⟨by rfl,?_⟩) ?_ ?_;rotate_left;exact jb;rotate_left;exact jc
        refine pure_ (i:=4) (N:=some 21) (v:=?_) (a':=?_) #[true,true,true,false,true,false,false,false,false,false] rfl rfl (any_of HT_.out jA) (fun _ _ _ h=>h) (Or.inl ⟨by rfl,?_⟩) ?_ ?_;rotate_left;exact jb;rotate_left;exact jc
        refine pure_ (i:=5) (N:=some 22) (v:=?_) (a':=?_) #[true,true,true,false,true,true,false,false,false,false] rfl rfl (any_of HT_.out jA) (fun _ _ _ h=>h) (Or.inl ⟨by rfl,?_⟩) ?_ ?_;rotate_left;exact jb;rotate_left;exact jc
        refine pure_ (i:=6) (N:=some 23) (v:=?_) (a':=?_) #[true,true,true,false,true,true,true,false,false,false] rfl rfl (any_of HT_.out jA) (fun _ _ _ h=>h) (Or.inl ⟨by rfl,?_⟩) ?_ ?_;rotate_left;exact jb;rotate_left;exact jc
        refine take_ (i:=3) (N:=some 20) (v:=?_) (a':=?_) (bm_ 7 10) rfl rfl (yo HT_.out HW_.out jA) (fun _ _ _ h=>h) (Or.inl ⟨by rfl,?_⟩) hHeld ?_ ?_;rotate_left
        ·
         rintro w' ⟨s0,s1,s2,s3⟩
         go_simp
         with_reducible rfl
        rotate_left
        exact jc
        refine take_ (i:=7) (N:=some 24) (v:=?_) (a':=?_) (bm_ 8 10) rfl rfl (yo HT_.out HW_.out jA) (fun _ _ _ h=>h) (Or.inl ⟨by rfl,?_⟩) hHeld ?_ ?_;rotate_left
        ·
         rintro w' ⟨s0,s1,s2,s3⟩
         go_simp
         with_reducible rfl
        rotate_left
        exact jc
        refine one_ (i:=8) (N:=some 25) (bm_ 9 10) rfl rfl (one_of HT_.out jA) jB (fun K hK=>?_);refine goes_ Try.func60 jA rfl #[.agg #[.int .i64 ((rd_T67 l0 x5_1).f0),.slice A303_1 ((rd_T67 l0 x5_1).f1).length c303_1],.agg #[.int .i64 ((rd_T67 l1 x5_1).f0),.slice A304_1 ((rd_T67 l1 x5_1).f1).length c304_1]] (by rfl) rfl rfl jG ?_
        with_reducible refine (F4.calls k1  ((rd_T67 l0 x5_1).f0) _ _ ((rd_T67 l0 x5_1).f1) ((rd_T67 l1 x5_1).f0) _ _ ((rd_T67 l1 x5_1).f1) true _ ?side1 ?side2 ?side3 ?side4 A7.out).mono ?_
        (case side1=>repeat (first|exact (Kd.C_below HR303_1.out HB.out)|(with_reducible refine Kd.C_alloc ?_ _)|(with_reducible refine Kd.C_drewN ?_ _)|(with_reducible refine Kd.C_drew ?_)))
        (case side2=>exact HC303_1.out)
        (case side3=>repeat (first|exact (Kd.C_below HR304_1.out HB.out)|(with_reducible refine Kd.C_alloc ?_ _)|(with_reducible refine Kd.C_drewN ?_ _)|(with_reducible refine Kd.C_drew ?_)))
        (case side4=>exact HC304_1.out)
        rintro e w10 ⟨rfl,hb⟩;refine ⟨_,rfl,?_⟩;replace HB:=zh (zC jF hb);(try clear hb);(try clear hb2);(try clear hk);(try clear hi);refine hK.out _ _ ⟨((HB.out.cell (zl w _ hw303_0)).trans hw303_0),((HB.out.cell (zl w _ hw303_1)).trans hw303_1),((HB.out.cell (zl w _ hw304_0)).trans hw304_0),((HB.out.cell (zl w _ hw304_1)).trans hw304_1)⟩ (fun hHeld=>?_);clear hK K;refine norm_ (a':=?_) ?_ ?_;rotate_left
        ·
         show Act.put _ (some 25) _=_
         simp only [Act.put,zi,zj,zk,zG,zH]
         rfl
        refine pure_ (i:=9) (N:=some 26) (v:=?_) (a':=?_) (bm_ 10 10) rfl rfl (any_of HT_.out jA) (fun _ _ _ h=>h) (Or.inl ⟨by rfl,?_⟩) ?_ ?_;rotate_left;exact jb;rotate_left;exact jc
        refine done_ (done_of HT_.out jA) ?_
        try go_wp2
        go_roundg k1
        case measure=>have:=HK1.out;omega
        case rel=>exact ⟨(wrap64 (x5_1+1)),jE,H',⟨jL⟩,⟨jF⟩⟩
       replace c8:=yb.mpr c8;subst c8;rw [if_neg (show ¬ (false=true) by decide)] at H;obtain rfl:=zU H
       try go_wp2
       replace HB:=zh (zc HB.out);have p303 : 0≤(x5_1 : Int):=zy jC;have q303 : x5_1<(l0.length : Int):=zy jC;obtain ⟨ad303,A303_1,c303_1,e303,hx303_0,hx303_1,hl303_1,hi303_1⟩:=at_T67 HR0.out x5_1 p303 q303;have hw303_1:=hx303_1;have hw303_0:=hx303_0
       cases e303
       replace hx303_0:=(HB.out.cell (zl w _ hx303_0)).trans hx303_0;replace hx303_1:=(HB.out.cell (zl w _ hx303_1)).trans hx303_1;have HR303_1:=zh hi303_1;have HC303_1:=zh hl303_1;clear hi303_1 hl303_1;replace p303:=eq_true p303;replace q303:=eq_true q303;have p304 : 0≤(x5_1 : Int):=zy jC;have q304 : x5_1<(l1.length : Int):=zy jC;obtain ⟨ad304,A304_1,c304_1,e304,hx304_0,hx304_1,hl304_1,hi304_1⟩:=at_T67 HR1.out x5_1 p304 q304;have hw304_1:=hx304_1;have hw304_0:=hx304_0
       cases e304
       replace hx304_0:=(HB.out.cell (zl w _ hx304_0)).trans hx304_0;replace hx304_1:=(HB.out.cell (zl w _ hx304_1)).trans hx304_1;have HR304_1:=zh hi304_1;have HC304_1:=zh hl304_1;clear hi304_1 hl304_1;replace p304:=eq_true p304;replace q304:=eq_true q304;refine start_ (n:=10) (S:=fun w' => w'.cell? (ad303.add ((x5_1).toNat*2))=some (.int .i64 ((rd_T67 l0 x5_1).f0))∧w'.cell? ⟨(ad303.add ((x5_1).toNat*2)).block,(ad303.add ((x5_1).toNat*2)).off+1,none⟩=some (.slice A303_1 ((rd_T67 l0 x5_1).f1).length c303_1)∧w'.cell? (ad304.add ((x5_1).toNat*2))=some (.int .i64 ((rd_T67 l1 x5_1).f0))∧w'.cell? ⟨(ad304.add ((x5_1).toNat*2)).block,(ad304.add ((x5_1).toNat*2)).off+1,none⟩=some (.slice A304_1 ((rd_T67 l1 x5_1).f1).length c304_1)) (ds:=[]) (bm_ 0 10) jA rfl rfl ⟨((HB.out.cell (zl w _ hw303_0)).trans hw303_0),((HB.out.cell (zl w _ hw303_1)).trans hw303_1),((HB.out.cell (zl w _ hw304_0)).trans hw304_0),((HB.out.cell (zl w _ hw304_1)).trans hw304_1)⟩ (fun hHeld=>?_);refine with_tabW Ff.tab6 Ff.bits6 (fun HT_ HW_=>?_);generalize wr.drew=w11 at HB HR303_1 HR304_1 hx303_0 hx303_1 hx304_0 hx304_1 hHeld ⊢;refine pure_ (i:=0) (N:=some 17) (v:=?_) (a':=?_) (bm_ 1 10) rfl rfl (any_of HT_.out jA) (fun _ _ _ h=>h) (Or.inl ⟨by rfl,?_⟩) ?_ ?_;rotate_left;exact jb;rotate_left;exact jc
       refine pure_ (i:=1) (N:=some 18) (v:=?_) (a':=?_) (bm_ 2 10) rfl rfl (any_of HT_.out jA) (fun _ _ _ h=>h) (Or.inl ⟨by rfl,?_⟩) ?_ ?_;rotate_left;exact jb;rotate_left;exact jc
       refine pure_ (i:=2) (N:=some 19) (v:=?_) (a':=?_) (bm_ 3 10) rfl rfl (any_of HT_.out jA) (fun _ _ _ h=>h) (Or.inl ⟨by rfl,?_⟩) ?_ ?_;rotate_left;exact jb;rotate_left;exact jc
       refine pure_ (i:=4) (N:=some 21) (v:=?_) (a':=?_) #[true,true,true,false,true,false,false,false,false,false] rfl rfl (any_of HT_.out jA) (fun _ _ _ h=>h) (Or.inl ⟨by rfl,?_⟩) ?_ ?_;rotate_left;exact jb;rotate_left;exact jc
       refine pure_ (i:=5) (N:=some 22) (v:=?_) (a':=?_) #[true,true,true,false,true,true,false,false,false,false] rfl rfl (any_of HT_.out jA) (fun _ _ _ h=>h) (Or.inl ⟨by rfl,?_⟩) ?_ ?_;rotate_left;exact jb;rotate_left;exact jc
       refine pure_ (i:=6) (N:=some 23) (v:=?_) (a':=?_) #[true,true,true,false,true,true,true,false,false,false] rfl rfl (any_of HT_.out jA) (fun _ _ _ h=>h) (Or.inl ⟨by rfl,?_⟩) ?_ ?_;rotate_left;exact jb;rotate_left;exact jc
       refine take_ (i:=3) (N:=some 20) (v:=?_) (a':=?_) (bm_ 7 10) rfl rfl (yo HT_.out HW_.out jA) (fun _ _ _ h=>h) (Or.inl ⟨by rfl,?_⟩) hHeld ?_ ?_;rotate_left
       ·
        rintro w' ⟨s0,s1,s2,s3⟩
        go_simp
        with_reducible rfl
       rotate_left
       exact jc
       refine take_ (i:=7) (N:=some 24) (v:=?_) (a':=?_) (bm_ 8 10) rfl rfl (yo HT_.out HW_.out jA) (fun _ _ _ h=>h) (Or.inl ⟨by rfl,?_⟩) hHeld ?_ ?_;rotate_left
       ·
        rintro w' ⟨s0,s1,s2,s3⟩
        go_simp
        with_reducible rfl
       rotate_left
       exact jc
       refine one_ (i:=8) (N:=some 25) (bm_ 9 10) rfl rfl (one_of HT_.out jA) jB (fun K hK=>?_);refine goes_ Try.func60 jA rfl #[.agg #[.int .i64 ((rd_T67 l0 x5_1).f0),.slice A303_1 ((rd_T67 l0 x5_1).f1).length c303_1],.agg #[.int .i64 ((rd_T67 l1 x5_1).f0),.slice A304_1 ((rd_T67 l1 x5_1).f1).length c304_1]] (by rfl) rfl rfl jG ?_
       with_reducible refine (F4.calls k1  ((rd_T67 l0 x5_1).f0) _ _ ((rd_T67 l0 x5_1).f1) ((rd_T67 l1 x5_1).f0) _ _ ((rd_T67 l1 x5_1).f1) false _ ?side1 ?side2 ?side3 ?side4 A7.out).mono ?_
       (case side1=>repeat (first|exact (Kd.C_below HR303_1.out HB.out)|(with_reducible refine Kd.C_alloc ?_ _)|(with_reducible refine Kd.C_drewN ?_ _)|(with_reducible refine Kd.C_drew ?_)))
       (case side2=>exact HC303_1.out)
       (case side3=>repeat (first|exact (Kd.C_below HR304_1.out HB.out)|(with_reducible refine Kd.C_alloc ?_ _)|(with_reducible refine Kd.C_drewN ?_ _)|(with_reducible refine Kd.C_drew ?_)))
       (case side4=>exact HC304_1.out)
       rintro e w12 ⟨rfl,hb⟩;refine ⟨_,rfl,?_⟩;replace HB:=zh (zC jF hb);(try clear hb);(try clear hb2);(try clear hk);(try clear hi);refine hK.out _ _ ⟨((HB.out.cell (zl w _ hw303_0)).trans hw303_0),((HB.out.cell (zl w _ hw303_1)).trans hw303_1),((HB.out.cell (zl w _ hw304_0)).trans hw304_0),((HB.out.cell (zl w _ hw304_1)).trans hw304_1)⟩ (fun hHeld=>?_);clear hK K;refine norm_ (a':=?_) ?_ ?_;rotate_left
       ·
        show Act.put _ (some 25) _=_
        simp only [Act.put,zi,zj,zk,zG,zH]
        rfl
       refine pure_ (i:=9) (N:=some 26) (v:=?_) (a':=?_) (bm_ 10 10) rfl rfl (any_of HT_.out jA) (fun _ _ _ h=>h) (Or.inl ⟨by rfl,?_⟩) ?_ ?_;rotate_left;exact jb;rotate_left;exact jc
       refine done_ (done_of HT_.out jA) ?_
       try go_wp2
       go_ret
       exact ⟨jH,jF⟩
      rw [if_neg c6] at H;exact absurd H (by simp)
     rw [if_neg c5] at H;exact absurd H (by simp)
    rw [if_neg c4] at H;have c4b0 : decide (x5_1<(l0.length : Int))=false:=decide_eq_false c4;clear c4;obtain rfl:=zU H
    go_wp2
    go_ret
    exact ⟨jH,jF⟩
 rw [if_neg c3] at H;have c3b0 : ((l0.length : Int) == (l1.length : Int))=false:=zY.mpr c3;have c3b1 : ((l0.length : Int) != (l1.length : Int))=true:=zZ.mpr c3;have c3b2 : (l0.length == l1.length)=false:=by first|simpa using c3|(simp at c3 ⊢;omega)
 obtain rfl:=zU H
 go_enter Try.func38,Try.ntmps38
 go_wp2
 go_ret
 exact ⟨jH,jF⟩


def F0a.f (k : Nat) (l0_0 : List (S67)) (a0_1 : Int) (l1_0 : List (S67)) (a1_1 : Int) : Option (Bool):=(Ff.f k l0_0 l1_0).bind fun t308=>(if t308=true then (if a0_1=a1_1 then (some true) else (some false)) else (some false))
theorem F0a.mono : ∀ a0 a1 a2 a3 k,LeO (F0a.f k a0 a1 a2 a3) (F0a.f (k+1) a0 a1 a2 a3):=by
 intro a0 a1 a2 a3 k;unfold F0a.f
 repeat' first|(with_reducible first|exact Ff.mono _ _ _|exact zQ _|exact zN _|refine zP ?_ ?_|refine zO ?_ (fun _=>?_))|refine zP ?_ ?_|refine zO ?_ (fun _=>?_)
set_option maxHeartbeats 8000000 in
set_option maxRecDepth 100000 in
theorem F0a.calls (k : Nat) (A0_0 : Option Addr) (c0_0 : Nat) (l0_0 : List (S67)) (a0_1 : Int) (A1_0 : Option Addr) (c1_0 : Nat) (l1_0 : List (S67)) (a1_1 : Int) (r : Bool) (w : World) (hr0_0 : Kd.C k67 w A0_0 l0_0.length l0_0) (hc0_0 : l0_0.length≤c0_0) (hr1_0 : Kd.C k67 w A1_0 l1_0.length l1_0) (hc1_0 : l1_0.length≤c1_0) (h : F0a.f k l0_0 a0_1 l1_0 a1_1=some r) :
  Calls Try.prog 14 #[.agg #[.slice A0_0 l0_0.length c0_0,.int .i64 a0_1],.agg #[.slice A1_0 l1_0.length c1_0,.int .i64 a1_1]] w fun e w' => e = .returned (.bool r)∧Below w.heap.size w w':=by
 have hu35:=Try.underlying35;have HR0_0:=zh hr0_0;have HC0_0:=zh hc0_0;clear hr0_0 hc0_0;have HR1_0:=zh hr1_0;have HC1_0:=zh hc1_0;clear hr1_0 hc1_0;have HB:=zh (Below.refl w.heap.size w);have H : ((Ff.f k l0_0 l1_0).bind fun t308=>(if t308=true then (if a0_1=a1_1 then (some true) else (some false)) else (some false)))=some r:=h;clear h;replace H:=zT.mp H;obtain ⟨t308,A30,H⟩:=H;have A3:=zh A30;clear A30
 by_cases c4 : t308=true
 ·
  subst c4
  rw [if_pos rfl] at H
  by_cases c5 : a0_1=a1_1
  ·
   rw [if_pos c5] at H
   have c5b0 : (a0_1 == a1_1)=true:=ya.mpr c5;have c5b1 : (a0_1 != a1_1)=false:=zX.mpr c5;clear c5;obtain rfl:=zU H
   go_enter Try.func14,Try.ntmps14
   go_wp2_with (first|((with_reducible refine zK (N:=2) rfl ?_);refine zI ?hg (N:=2) ?hd (cs:=#[.slice A0_0 l0_0.length c0_0,.int .i64 a0_1]) (t:=35) ?hr ?_;(case hd=>rfl);(case hg=>rfl);(case hr=>go_simp <;> rfl);intro gb306 hg w6 hbox hb;have BK306:=zh (hbox);have hH_:=cH jF hb hg;have GW306:=zh hH_.1;have GE306:=GW306;replace HB:=zh hH_.2;clear hb hbox hg hH_)|((with_reducible refine zK (N:=3) rfl ?_);refine zI ?hg (N:=3) ?hd (cs:=#[.slice A1_0 l1_0.length c1_0,.int .i64 a1_1]) (t:=35) ?hr ?_;(case hd=>rfl);(case hg=>rfl);(case hr=>go_simp <;> rfl);intro gb307 hg w7 hbox hb;have BK307:=zh (hbox);have hH_:=cH jA3 hb hg;have GW307:=zh hH_.1;have GE307:=GW307;replace HB:=zh hH_.2;have NB306_307:=zh ((jA4 : gb306≠gb307));have NB307_306:=zh NB306_307.out.symm;replace BK306:=zh (cD BK306.out jq hb);clear hb hbox hg hH_;have hnb8:=NB306_307.out;have hnc8:=NB307_306.out;obtain ⟨hcz9_0,hcz9_1,hfz9_0,hfz9_1⟩:=cB2 BK306.out;obtain ⟨hcz10_0,hcz10_1,hfz10_0,hfz10_1⟩:=cB2 BK307.out)|((with_reducible refine zJ (f:=38) rfl ?_);refine yj (some 9) rfl rfl Try.func38 jA rfl #[.slice A0_0 l0_0.length c0_0,.slice A1_0 l1_0.length c1_0] rfl jG ?_;(with_reducible refine (Ff.calls k  _ _ l0_0 _ _ l1_0 true _ ?side1 ?side2 ?side3 ?side4 A3.out).mono ?_);(case side1=>repeat (first|exact (Kd.C_below HR0_0.out HB.out)|(with_reducible refine Kd.C_alloc ?_ _)|(with_reducible refine Kd.C_drewN ?_ _)|(with_reducible refine Kd.C_drew ?_)));(case side2=>exact HC0_0.out);(case side3=>repeat (first|exact (Kd.C_below HR1_0.out HB.out)|(with_reducible refine Kd.C_alloc ?_ _)|(with_reducible refine Kd.C_drewN ?_ _)|(with_reducible refine Kd.C_drew ?_)));(case side4=>exact HC1_0.out);rintro e w11 ⟨rfl,hb⟩;refine ⟨_,rfl,?_⟩;replace BK306:=zh (cD BK306.out jq hb);replace BK307:=zh (cD BK307.out jA5 hb);replace HB:=zh (zC jv hb);(try clear hb);(try clear hb2);(try clear hk);(try clear hi);obtain ⟨hcz12_0,hcz12_1,hfz12_0,hfz12_1⟩:=cB2 BK306.out;obtain ⟨hcz13_0,hcz13_1,hfz13_0,hfz13_1⟩:=cB2 BK307.out))
   go_ret
   exact ⟨jH,jv⟩
  rw [if_neg c5] at H;have c5b0 : (a0_1 == a1_1)=false:=zY.mpr c5;have c5b1 : (a0_1 != a1_1)=true:=zZ.mpr c5;obtain rfl:=zU H
  go_enter Try.func14,Try.ntmps14
  go_wp2_with (first|((with_reducible refine zK (N:=2) rfl ?_);refine zI ?hg (N:=2) ?hd (cs:=#[.slice A0_0 l0_0.length c0_0,.int .i64 a0_1]) (t:=35) ?hr ?_;(case hd=>rfl);(case hg=>rfl);(case hr=>go_simp <;> rfl);intro gb306 hg w14 hbox hb;have BK306:=zh (hbox);have hH_:=cH jF hb hg;have GW306:=zh hH_.1;have GE306:=GW306;replace HB:=zh hH_.2;clear hb hbox hg hH_)|((with_reducible refine zK (N:=3) rfl ?_);refine zI ?hg (N:=3) ?hd (cs:=#[.slice A1_0 l1_0.length c1_0,.int .i64 a1_1]) (t:=35) ?hr ?_;(case hd=>rfl);(case hg=>rfl);(case hr=>go_simp <;> rfl);intro gb307 hg w15 hbox hb;have BK307:=zh (hbox);have hH_:=cH jA3 hb hg;have GW307:=zh hH_.1;have GE307:=GW307;replace HB:=zh hH_.2;have NB306_307:=zh ((jA4 : gb306≠gb307));have NB307_306:=zh NB306_307.out.symm;replace BK306:=zh (cD BK306.out jq hb);clear hb hbox hg hH_;have hnb16:=NB306_307.out;have hnc16:=NB307_306.out;obtain ⟨hcz17_0,hcz17_1,hfz17_0,hfz17_1⟩:=cB2 BK306.out;obtain ⟨hcz18_0,hcz18_1,hfz18_0,hfz18_1⟩:=cB2 BK307.out)|((with_reducible refine zJ (f:=38) rfl ?_);refine yj (some 9) rfl rfl Try.func38 jA rfl #[.slice A0_0 l0_0.length c0_0,.slice A1_0 l1_0.length c1_0] rfl jG ?_;(with_reducible refine (Ff.calls k  _ _ l0_0 _ _ l1_0 true _ ?side1 ?side2 ?side3 ?side4 A3.out).mono ?_);(case side1=>repeat (first|exact (Kd.C_below HR0_0.out HB.out)|(with_reducible refine Kd.C_alloc ?_ _)|(with_reducible refine Kd.C_drewN ?_ _)|(with_reducible refine Kd.C_drew ?_)));(case side2=>exact HC0_0.out);(case side3=>repeat (first|exact (Kd.C_below HR1_0.out HB.out)|(with_reducible refine Kd.C_alloc ?_ _)|(with_reducible refine Kd.C_drewN ?_ _)|(with_reducible refine Kd.C_drew ?_)));(case side4=>exact HC1_0.out);rintro e w19 ⟨rfl,hb⟩;refine ⟨_,rfl,?_⟩;replace BK306:=zh (cD BK306.out jq hb);replace BK307:=zh (cD BK307.out jA5 hb);replace HB:=zh (zC jv hb);(try clear hb);(try clear hb2);(try clear hk);(try clear hi);obtain ⟨hcz20_0,hcz20_1,hfz20_0,hfz20_1⟩:=cB2 BK306.out;obtain ⟨hcz21_0,hcz21_1,hfz21_0,hfz21_1⟩:=cB2 BK307.out))
  go_ret
  exact ⟨jH,jv⟩
 replace c4:=yb.mpr c4;subst c4;rw [if_neg (show ¬ (false=true) by decide)] at H;obtain rfl:=zU H
 go_enter Try.func14,Try.ntmps14
 go_wp2_with (first|((with_reducible refine zK (N:=2) rfl ?_);refine zI ?hg (N:=2) ?hd (cs:=#[.slice A0_0 l0_0.length c0_0,.int .i64 a0_1]) (t:=35) ?hr ?_;(case hd=>rfl);(case hg=>rfl);(case hr=>go_simp <;> rfl);intro gb306 hg w22 hbox hb;have BK306:=zh (hbox);have hH_:=cH jF hb hg;have GW306:=zh hH_.1;have GE306:=GW306;replace HB:=zh hH_.2;clear hb hbox hg hH_)|((with_reducible refine zK (N:=3) rfl ?_);refine zI ?hg (N:=3) ?hd (cs:=#[.slice A1_0 l1_0.length c1_0,.int .i64 a1_1]) (t:=35) ?hr ?_;(case hd=>rfl);(case hg=>rfl);(case hr=>go_simp <;> rfl);intro gb307 hg w23 hbox hb;have BK307:=zh (hbox);have hH_:=cH jA3 hb hg;have GW307:=zh hH_.1;have GE307:=GW307;replace HB:=zh hH_.2;have NB306_307:=zh ((jA4 : gb306≠gb307));have NB307_306:=zh NB306_307.out.symm;replace BK306:=zh (cD BK306.out jq hb);clear hb hbox hg hH_;have hnb24:=NB306_307.out;have hnc24:=NB307_306.out;obtain ⟨hcz25_0,hcz25_1,hfz25_0,hfz25_1⟩:=cB2 BK306.out;obtain ⟨hcz26_0,hcz26_1,hfz26_0,hfz26_1⟩:=cB2 BK307.out)|((with_reducible refine zJ (f:=38) rfl ?_);refine yj (some 9) rfl rfl Try.func38 jA rfl #[.slice A0_0 l0_0.length c0_0,.slice A1_0 l1_0.length c1_0] rfl jG ?_;(with_reducible refine (Ff.calls k  _ _ l0_0 _ _ l1_0 false _ ?side1 ?side2 ?side3 ?side4 A3.out).mono ?_);(case side1=>repeat (first|exact (Kd.C_below HR0_0.out HB.out)|(with_reducible refine Kd.C_alloc ?_ _)|(with_reducible refine Kd.C_drewN ?_ _)|(with_reducible refine Kd.C_drew ?_)));(case side2=>exact HC0_0.out);(case side3=>repeat (first|exact (Kd.C_below HR1_0.out HB.out)|(with_reducible refine Kd.C_alloc ?_ _)|(with_reducible refine Kd.C_drewN ?_ _)|(with_reducible refine Kd.C_drew ?_)));(case side4=>exact HC1_0.out);rintro e w27 ⟨rfl,hb⟩;refine ⟨_,rfl,?_⟩;replace BK306:=zh (cD BK306.out jq hb);replace BK307:=zh (cD BK307.out jA5 hb);replace HB:=zh (zC jv hb);(try clear hb);(try clear hb2);(try clear hk);(try clear hi)))
 go_ret
 exact ⟨jH,jv⟩


def Fj.l0 : Nat→Int→ByteArray→Option (ByteArray)
 | 0,_,_=>none
 | k+1,x0,x3=>if x0 > 0 then ((some (([(wrap64 (48+(Int.tmod x0 10))) % 256] : List Int) : List Int)).bind fun y309=>(if (strOfNums y309).size+x3.size≤9223372036854775807 then (Fj.l0 k (wrap64 (Int.tdiv x0 10)) ((strOfNums y309)++x3)) else (none))) else (if 1+x3.size≤9223372036854775807 then (some ((⟨#[109]⟩ : ByteArray)++x3)) else (none))
def Fj.f (k : Nat) (a0 : Int) : Option (ByteArray):=if a0≤0 then (some (⟨#[109,48]⟩ : ByteArray)) else (Fj.l0 k a0 (⟨#[]⟩ : ByteArray))
theorem Fj.mono_l : ∀ k,(∀ y0 y1,LeO (Fj.l0 k y0 y1) (Fj.l0 (k+1) y0 y1))
 | 0=>fun _ _ r h=>by simp [Fj.l0] at h
 | k+1=>by
  have ih0:=Fj.mono_l k;intro y0 y1;unfold Fj.l0
  repeat' first|(with_reducible first|exact ih0 _ _|exact zQ _|exact zN _|refine zP ?_ ?_|refine zO ?_ (fun _=>?_))|refine zP ?_ ?_|refine zO ?_ (fun _=>?_)
theorem Fj.mono : ∀ a0 k,LeO (Fj.f k a0) (Fj.f (k+1) a0):=by
 intro a0 k;have ih0:=Fj.mono_l k;unfold Fj.f
 repeat' first|(with_reducible first|exact ih0 _ _|exact zQ _|exact zN _|refine zP ?_ ?_|refine zO ?_ (fun _=>?_))|refine zP ?_ ?_|refine zO ?_ (fun _=>?_)
set_option maxHeartbeats 8000000 in
set_option maxRecDepth 100000 in
theorem Fj.calls (k : Nat) (a0 : Int) (r : ByteArray) (w : World) (h : Fj.f k a0=some r) :
  Calls Try.prog 40 #[.int .i64 a0] w fun e w' => e = .returned (.string r)∧Below w.heap.size w w':=by
 have HB:=zh (Below.refl w.heap.size w);have H : (if a0≤0 then (some (⟨#[109,48]⟩ : ByteArray)) else (Fj.l0 k a0 (⟨#[]⟩ : ByteArray)))=some r:=h;clear h
 by_cases c2 : a0≤0
 ·
  rw [if_pos c2] at H
  have c2b0 : decide (a0≤0)=true:=decide_eq_true c2;clear c2;obtain rfl:=zU H
  go_enter Try.func40,Try.ntmps40
  go_wp2
  go_ret
  exact ⟨jH,jF⟩
 rw [if_neg c2] at H;have c2b0 : decide (a0≤0)=false:=decide_eq_false c2;clear c2;have H':=zh H;clear H
 go_enter Try.func40,Try.ntmps40
 go_wp2
 go_loopg [0,3] k (fun kq v0 v3 w' => ∃ (x0_1 : Int) (x3_1 : ByteArray),v0 = .int .i64 x0_1∧v3 = .string x3_1∧Aside0 (Fj.l0 kq x0_1 x3_1=some r)∧Aside0 (kq≤k)∧Aside0 (Below w.heap.size w w'))
 case atStart=>exact ⟨(a0),((⟨#[]⟩ : ByteArray)),jE,jE,H',⟨ye _⟩,⟨jF⟩⟩
 case round =>
  clear H'
  try clear c2 c2b0
  try clear p2
  obtain ⟨x0_1,x3_1,rfl,rfl,HA,HK1,HB⟩:=hrel
  cases gk with
  | zero=>exact absurd HA.out (by simp [Fj.l0])
  | succ k1 =>
   have H:=HA.out;clear HA;simp only [Fj.l0] at H
   by_cases c3 : x0_1 > 0
   ·
    rw [if_pos c3] at H
    have c3b0 : decide (0<x0_1)=true:=decide_eq_true c3;clear c3;obtain ⟨y309,hy309⟩ : ∃ y_ : List Int,y_=(([(wrap64 (48+(Int.tmod x0_1 10))) % 256] : List Int)):=⟨_,rfl⟩;replace H : (if (strOfNums y309).size+x3_1.size≤9223372036854775807 then (Fj.l0 k1 (wrap64 (Int.tdiv x0_1 10)) ((strOfNums y309)++x3_1)) else (none))=some r:=by first|(rw [hy309];with_reducible exact H)|(have H2_:=(Option.bind_some _ _).symm.trans H;rw [hy309];with_reducible exact H2_)|(have H2_:=(Option.bind_some _ _).symm.trans H;with_reducible exact H2_)|with_reducible exact H|(rw [hy309];exact H)|exact H
    have Ny309:=zh hy309;clear hy309
    by_cases c4 : (strOfNums y309).size+x3_1.size≤9223372036854775807
    ·
     rw [if_pos c4] at H
     have c4b0:=eq_true c4;have c4b1 : decide ((strOfNums y309).size+x3_1.size≤9223372036854775807)=true:=decide_eq_true c4
     try have c4b2 : (9223372036854775807<(strOfNums y309).size+x3_1.size)=False:=eq_false (Nat.not_lt.2 c4)
     have H':=zh H;clear H
     go_wp2_with (first|((with_reducible refine zK (N:=12) rfl ?_);refine Kd.R_lit (Kd.int .u8) _ 5 ?hg (N:=12) ?hd (xs:=([(wrap64 (48+(Int.tmod x0_1 10))) % 256] : List Int)) (inner:=[.int .u8 ((wrap64 (48+(Int.tmod x0_1 10))) % 256)]) (ok:=fun _=>True) (okp:=fun _=>True) ?hr ?hp (fun _ hk=>hk) trivial (Below.refl _ _) (ye _) (by simp) ?_;(case hd=>rfl);(case hg=>rfl);(case hr=>go_simp <;> rfl);(case hp=>exact (Reps.one (show Kd.M (Kd.int .u8) _ _ _ ((wrap64 (48+(Int.tmod x0_1 10))) % 256) [.int .u8 ((wrap64 (48+(Int.tmod x0_1 10))) % 256)] from rfl) (Reps.none _ _)));intro v310 w5 ho6 hb hg_ hnew_;clear hg_ hnew_;(first|rw [← Ny309.out] at ho6|(simp only [Int.reduceToNat] at ho6;rw [← Ny309.out] at ho6));have HO311:=zh (yx ho6 (zB jF));replace HB:=zh (zC jF hb);clear hb ho6;have hcv7:=own_string (P:=Try.prog) Try.underlying88 Try.underlying5 Try.underlying9 (Kd.own_of_R HO311.out)))
     go_roundg k1
     case measure=>have:=HK1.out;omega
     case rel=>exact ⟨(wrap64 (Int.tdiv x0_1 10)),((strOfNums y309)++x3_1),jE,jE,H',⟨jL⟩,⟨jF⟩⟩
    rw [if_neg c4] at H;exact absurd H (by simp)
   rw [if_neg c3] at H;have c3b0 : decide (0<x0_1)=false:=decide_eq_false c3;clear c3
   by_cases c8 : 1+x3_1.size≤9223372036854775807
   ·
    rw [if_pos c8] at H
    have c8b0:=eq_true c8;have c8b1 : decide (1+x3_1.size≤9223372036854775807)=true:=decide_eq_true c8
    try have c8b2 : (9223372036854775807<1+x3_1.size)=False:=eq_false (Nat.not_lt.2 c8)
    obtain rfl:=zU H
    go_wp2
    go_ret
    exact ⟨jH,jF⟩
   rw [if_neg c8] at H;exact absurd H (by simp)


def Fo.l0 : Nat→List (S51)→Int→Int→Option (Int×(List (S51)))
 | 0,_,_,_=>none
 | k+1,x0,x1,x5=>if x5<(x0.length : Int) then ((Fj.f k x1).bind fun t312=>(if 0≤x5 then ((some (x0.set (x5 : Int).toNat (⟨t312,(rd_T51 x0 x5).f1⟩ : S51) : List (S51))).bind fun y313=>(Fo.l0 k (y313.set (x5 : Int).toNat (⟨(rd_T51 y313 x5).f0,wrap64 (x1+1)⟩ : S51)) (wrap64 ((wrap64 (x1+1))+1)) (wrap64 (x5+1)))) else (none))) else (some (x1,x0))
def Fo.f (k : Nat) (l0 : List (S51)) (a1 : Int) : Option (Int×(List (S51))):=Fo.l0 k l0 a1 0
theorem Fo.mono_l : ∀ k,(∀ y0 y1 y2,LeO (Fo.l0 k y0 y1 y2) (Fo.l0 (k+1) y0 y1 y2))
 | 0=>fun _ _ _ r h=>by simp [Fo.l0] at h
 | k+1=>by
  have ih0:=Fo.mono_l k;intro y0 y1 y2;unfold Fo.l0
  repeat' first|(with_reducible first|exact ih0 _ _ _|exact Fj.mono _ _|exact zQ _|exact zN _|refine zP ?_ ?_|refine zO ?_ (fun _=>?_))|refine zP ?_ ?_|refine zO ?_ (fun _=>?_)
theorem Fo.mono : ∀ a0 a1 k,LeO (Fo.f k a0 a1) (Fo.f (k+1) a0 a1):=by
 intro a0 a1 k;have ih0:=Fo.mono_l k;unfold Fo.f
 repeat' first|(with_reducible first|exact ih0 _ _ _|exact Fj.mono _ _|exact zQ _|exact zN _|refine zP ?_ ?_|refine zO ?_ (fun _=>?_))|refine zP ?_ ?_|refine zO ?_ (fun _=>?_)
set_option maxHeartbeats 8000000 in
set_option maxRecDepth 100000 in
theorem Fo.calls (k : Nat) (P0_ : Nat→Prop) (u9000_ : Value) (l0 : List (S51)) (a1 : Int) (r1 : Int) (r2 : List (S51)) (w0 w : World) (hB : Below w0.heap.size w0 w) (ho0 : Kd.R k51 51 w w0.heap.size P0_ u9000_ l0) (h : Fo.f k l0 a1=some (r1,r2)) :
  Calls Try.prog 16 #[u9000_,.int .i64 a1] w fun e w' => e = .returned (.int .i64 r1)∧Kd.R k51 51 w' w0.heap.size (fun k_=>(P0_ k_∨w.heap.size≤k_)) u9000_ r2∧Below w0.heap.size w0 w' ∧ Kept w w' (fun k_=>P0_ k_):=by
 have HO0:=zh (show Kd.R k51 51 w w0.heap.size (fun k_=>(P0_ k_∨w.heap.size≤k_)) u9000_ l0 from zM ho0 (fun k_ hk=>(.inl hk)));have HK:=zh (Kept.refl w (fun k_=>P0_ k_));have HW0:=zh hB.size;have HB:=zh hB;clear hB;have H : (Fo.l0 k l0 a1 0)=some (r1,r2):=h;clear h;have H':=zh H;clear H
 go_enter Try.func16,Try.ntmps16
 go_wp2
 go_loopg [1,5] k (fun kq v1 v5 w' => ∃ (x0_1 : List (S51)) (x1_1 : Int) (x5_1 : Int),v1 = .int .i64 x1_1∧v5 = .int .i64 x5_1∧Aside0 (Fo.l0 kq x0_1 x1_1 x5_1=some (r1,r2))∧Aside0 (kq≤k)∧Aside0 (Kd.R k51 51 w' w0.heap.size (fun k_=>(P0_ k_∨w.heap.size≤k_)) u9000_ x0_1)∧Aside0 (Kept w w' (fun k_=>P0_ k_))∧Aside0 (Below w0.heap.size w0 w'))
 case atStart=>exact ⟨(l0),(a1),(0),jE,jE,H',⟨ye _⟩,⟨jBW⟩,⟨jX⟩,⟨jF⟩⟩
 case round =>
  clear H'
  try clear c1
  try clear p2
  obtain ⟨x0_1,x1_1,x5_1,rfl,rfl,HA,HK1,HO_0,HK,HB⟩:=hrel
  cases gk with
  | zero=>exact absurd HA.out (by simp [Fo.l0])
  | succ k1 =>
   have H:=HA.out;clear HA;simp only [Fo.l0] at H
   by_cases c3 : x5_1<(x0_1.length : Int)
   ·
    rw [if_pos c3] at H
    have c3b0 : decide (x5_1<(x0_1.length : Int))=true:=decide_eq_true c3;clear c3;replace H:=zT.mp H;obtain ⟨t312,A40,H⟩:=H;have A4:=zh A40;clear A40
    by_cases c5 : 0≤x5_1
    ·
     rw [if_pos c5] at H
     have c5b0 : decide (0≤x5_1)=true:=decide_eq_true c5;clear c5;obtain ⟨y313,hy313⟩ : ∃ y_ : List (S51),y_=(x0_1.set (x5_1 : Int).toNat (⟨t312,(rd_T51 x0_1 x5_1).f1⟩ : S51)):=⟨_,rfl⟩;replace H : (Fo.l0 k1 (y313.set (x5_1 : Int).toNat (⟨(rd_T51 y313 x5_1).f0,wrap64 (x1_1+1)⟩ : S51)) (wrap64 ((wrap64 (x1_1+1))+1)) (wrap64 (x5_1+1)))=some (r1,r2):=by first|(rw [hy313];with_reducible exact H)|(have H2_:=(Option.bind_some _ _).symm.trans H;rw [hy313];with_reducible exact H2_)|(have H2_:=(Option.bind_some _ _).symm.trans H;with_reducible exact H2_)|with_reducible exact H|(rw [hy313];exact H)|exact H
     have Ny313:=zh hy313;clear hy313;obtain ⟨y314,hy314⟩ : ∃ y_ : List (S51),y_=(y313.set (x5_1 : Int).toNat (⟨(rd_T51 y313 x5_1).f0,wrap64 (x1_1+1)⟩ : S51)):=⟨_,rfl⟩;replace H : (Fo.l0 k1 y314 (wrap64 ((wrap64 (x1_1+1))+1)) (wrap64 (x5_1+1)))=some (r1,r2):=by first|(rw [hy314];with_reducible exact H)|(have H2_:=(Option.bind_some _ _).symm.trans H;rw [hy314];with_reducible exact H2_)|(have H2_:=(Option.bind_some _ _).symm.trans H;with_reducible exact H2_)|with_reducible exact H|(rw [hy314];exact H)|exact H
     have Ny314:=zh hy314;clear hy314;have H':=zh H;clear H;obtain ⟨Ao8,co8,eo8⟩:=yk HO_0.out;subst eo8
     go_wp2_with (first|((with_reducible refine zJ (f:=40) rfl ?_);refine yj (some 15) rfl rfl Try.func40 jA rfl #[.int .i64 x1_1] rfl jG ?_;(with_reducible refine (Fj.calls k1  x1_1 t312 _ A4.out).mono ?_);rintro e w9 ⟨rfl,hb⟩;refine ⟨_,rfl,?_⟩;replace HO_0:=zh (yg jr hb);replace HK:=zh (Kept.below (S:=(fun k_=>P0_ k_)) jX hb);replace HB:=zh (zC jF hb);(try clear hb);(try clear hb2);(try clear hk);(try clear hi);have p6 : 0≤(x5_1 : Int):=zy jC;have q6 : (x5_1 : Int)<((x0_1.length : Int) : Int):=zy jC;obtain ⟨go6,co6,eo6,gb6,gl6,cl6,HG6⟩:=Kd.R_form HO_0.out jD;(first|cases eo6|(injection eo6 with ea_ en_ ec_;(first|subst ea_|(injection ea_ with ea_;subst ea_));subst ec_;clear en_));have GB6:=zh gb6;have GG6:=zh HG6;clear gb6 gl6 HG6;have HMgo6:=zh (show (P0_ go6∨w.heap.size≤go6) from (HO_0.out.1 _ rfl));obtain ⟨ce6,hcl6,hM6,hcc6,hfr6⟩:=Kd.R_elem HO_0.out z51 (x5_1 : Int) p6 q6;obtain rfl:=k51_openM hM6;have hx6_0 : w9.cell? ⟨go6,(x5_1 : Int).toNat*2,none⟩=some (.string ((rd_T51 x0_1 x5_1).f0)):=hcc6 0 _ rfl;have hx6_1 : w9.cell? ⟨go6,(x5_1 : Int).toNat*2+1,none⟩=some (.int .i64 ((rd_T51 x0_1 x5_1).f1)):=hcc6 1 _ rfl;have hf6_0 : w9.frozen? ⟨go6,(x5_1 : Int).toNat*2,none⟩=false:=hfr6 0;have hf6_1 : w9.frozen? ⟨go6,(x5_1 : Int).toNat*2+1,none⟩=false:=hfr6 1;clear hcl6 hcc6 hfr6 hM6;replace p6:=eq_true p6;replace q6:=eq_true q6;have HX10:=zh (show Kd.R k51 51 w9 w0.heap.size (fun k_=>(P0_ k_∨w.heap.size≤k_)) (.slice (some ⟨go6,0,none⟩) x0_1.length co8) x0_1 from jr);obtain ⟨ce10,hcl10,hM10,hcc10,hfr10⟩:=Kd.R_elem HX10.out z51 (x5_1 : Int) (zy jC) (by have h_ : (x5_1 : Int)<((x0_1.length : Int) : Int):=zy jC;first|exact h_|(have e_:=(yh HO_0.out).1;omega)|simpa using h_);obtain rfl:=k51_openM hM10;have HP10:=Kd.R_seg HX10.out (x5_1 : Int) (zy jC) (by have h_ : (x5_1 : Int)<((x0_1.length : Int) : Int):=zy jC;first|exact h_|(have e_:=(yh HO_0.out).1;omega)|simpa using h_) (seg:=[.string t312]) (j:=0) hcl10 hcc10 (show 1≤2 from by decide) (x':=(⟨t312,(rd_T51 x0_1 x5_1).f1⟩ : S51)) (k51_mkM _ _ _ (⟨t312,(rd_T51 x0_1 x5_1).f1⟩ : S51) ) (fun _ hk=>hk);have hx10_0:=hcc10 0 _ rfl;(try simp only [show (k51).sz=2 from rfl,Nat.mul_one,Nat.add_zero] at hx10_0);have hf10_0:=hfr10 0;(try simp only [show (k51).sz=2 from rfl,Nat.mul_one,Nat.add_zero] at hf10_0);clear hcl10 hcc10 hfr10 hM10)|((with_reducible refine gate_store (t:=9) (p:=17) rfl ?_);refine store_event (t:=9) (p:=17) (v:=?vo_w11) (w1:=(w9.setCell ⟨go6,(x5_1 : Int).toNat*2,none⟩ (.string t312))) ?hg ?ho ?hn ?hr ?_;(case ho=>rfl);(case hg=>rfl);(case hn=>rfl);(case hr=>go_simp <;> rfl);intro w11 hw;have hg : w9.grownBy w11 (some go6):=(by rw [hw];exact HP10.2);have hp_ : Kd.R k51 51 w11 w0.heap.size (fun k_=>(P0_ k_∨w.heap.size≤k_)) (.slice (some ⟨go6,0,none⟩) x0_1.length co8) y313:=(by rw [hw,Ny313.out];exact HP10.1);clear HP10;replace HB:=zh ((by rw [hw];exact zd (HB.out) GB6.out : Below w0.heap.size w0 w11));replace HK:=zh (yz (S:=(fun k_=>P0_ k_)) hg jX (fun k_ e_=>(HO_0.out.1 k_ e_)));replace HO_0:=zh (hp_);clear hg hw hp_;have p7 : 0≤(x5_1 : Int):=zy jC;have q7 : (x5_1 : Int)<((x0_1.length : Int) : Int):=zy jC;obtain ⟨ce7,hcl7,hM7,hcc7,hfr7⟩:=Kd.R_elem HO_0.out z51 (x5_1 : Int) p7 q7;obtain rfl:=k51_openM hM7;have hx7_0 : w11.cell? ⟨go6,(x5_1 : Int).toNat*2,none⟩=some (.string ((rd_T51 y313 x5_1).f0)):=hcc7 0 _ rfl;have hx7_1 : w11.cell? ⟨go6,(x5_1 : Int).toNat*2+1,none⟩=some (.int .i64 ((rd_T51 y313 x5_1).f1)):=hcc7 1 _ rfl;have hf7_0 : w11.frozen? ⟨go6,(x5_1 : Int).toNat*2,none⟩=false:=hfr7 0;have hf7_1 : w11.frozen? ⟨go6,(x5_1 : Int).toNat*2+1,none⟩=false:=hfr7 1;clear hcl7 hcc7 hfr7 hM7;replace p7:=eq_true p7;replace q7:=eq_true q7;have HX12:=zh (show Kd.R k51 51 w11 w0.heap.size (fun k_=>(P0_ k_∨w.heap.size≤k_)) (.slice (some ⟨go6,0,none⟩) x0_1.length co8) y313 from jr);obtain ⟨ce12,hcl12,hM12,hcc12,hfr12⟩:=Kd.R_elem HX12.out z51 (x5_1 : Int) (zy jC) (by have h_ : (x5_1 : Int)<((x0_1.length : Int) : Int):=zy jC;first|exact h_|(have e_:=(yh HO_0.out).1;omega)|simpa using h_);obtain rfl:=k51_openM hM12;have HP12:=Kd.R_seg HX12.out (x5_1 : Int) (zy jC) (by have h_ : (x5_1 : Int)<((x0_1.length : Int) : Int):=zy jC;first|exact h_|(have e_:=(yh HO_0.out).1;omega)|simpa using h_) (seg:=[.int .i64 (wrap64 (x1_1+1))]) (j:=1) hcl12 hcc12 (show 2≤2 from by decide) (x':=(⟨(rd_T51 y313 x5_1).f0,wrap64 (x1_1+1)⟩ : S51)) (k51_mkM _ _ _ (⟨(rd_T51 y313 x5_1).f0,wrap64 (x1_1+1)⟩ : S51) ) (fun _ hk=>hk);have hx12_1:=hcc12 1 _ rfl;(try simp only [show (k51).sz=2 from rfl,Nat.mul_one,Nat.add_zero] at hx12_1);have hf12_1:=hfr12 1;(try simp only [show (k51).sz=2 from rfl,Nat.mul_one,Nat.add_zero] at hf12_1);clear hcl12 hcc12 hfr12 hM12)|((with_reducible refine gate_store (t:=3) (p:=24) rfl ?_);refine store_event (t:=3) (p:=24) (v:=?vo_w13) (w1:=(w11.setCell ⟨go6,(x5_1 : Int).toNat*2+1,none⟩ (.int .i64 (wrap64 (x1_1+1))))) ?hg ?ho ?hn ?hr ?_;(case ho=>rfl);(case hg=>rfl);(case hn=>rfl);(case hr=>go_simp <;> rfl);intro w13 hw;have hg : w11.grownBy w13 (some go6):=(by rw [hw];exact HP12.2);have hp_ : Kd.R k51 51 w13 w0.heap.size (fun k_=>(P0_ k_∨w.heap.size≤k_)) (.slice (some ⟨go6,0,none⟩) x0_1.length co8) y314:=(by rw [hw,Ny314.out];exact HP12.1);clear HP12;replace HB:=zh ((by rw [hw];exact zd (HB.out) GB6.out : Below w0.heap.size w0 w13));replace HK:=zh (yz (S:=(fun k_=>P0_ k_)) hg jX (fun k_ e_=>(HO_0.out.1 k_ e_)));replace HO_0:=zh (hp_);clear hg hw hp_))
     go_roundg k1
     case measure=>have:=HK1.out;omega
     case rel=>exact ⟨(y314),(wrap64 ((wrap64 (x1_1+1))+1)),(wrap64 (x5_1+1)),jE,jE,H',⟨jL⟩,⟨jr⟩,⟨jX⟩,⟨jF⟩⟩
    rw [if_neg c5] at H;exact absurd H (by simp)
   rw [if_neg c3] at H;have c3b0 : decide (x5_1<(x0_1.length : Int))=false:=decide_eq_false c3;clear c3;simp only [Option.some.injEq,Prod.mk.injEq] at H;obtain ⟨rfl,rfl⟩:=H;obtain ⟨Ao14,co14,eo14⟩:=yk HO_0.out;subst eo14
   go_wp2
   go_ret
   exact ⟨jH,jr,jF,jX⟩


def Fg.l0 : Nat→List (S51)→Int→Int→Option (Int)
 | 0,_,_,_=>none
 | k+1,x0,x1,x5=>if x5<(x0.length : Int) then (if 0≤x5 then ((Fj.f k x1).bind fun t317=>(if ((rd_T51 x0 x5).f0).toList=t317.toList then (if ((rd_T51 x0 x5).f1)=(wrap64 (x1+1)) then (Fg.l0 k x0 (wrap64 ((wrap64 (x1+1))+1)) (wrap64 (x5+1))) else (some (-1))) else (some (-1)))) else (none)) else (some x1)
def Fg.f (k : Nat) (l0 : List (S51)) (a1 : Int) : Option (Int):=Fg.l0 k l0 a1 0
theorem Fg.mono_l : ∀ k,(∀ y0 y1 y2,LeO (Fg.l0 k y0 y1 y2) (Fg.l0 (k+1) y0 y1 y2))
 | 0=>fun _ _ _ r h=>by simp [Fg.l0] at h
 | k+1=>by
  have ih0:=Fg.mono_l k;intro y0 y1 y2;unfold Fg.l0
  repeat' first|(with_reducible first|exact ih0 _ _ _|exact Fj.mono _ _|exact zQ _|exact zN _|refine zP ?_ ?_|refine zO ?_ (fun _=>?_))|refine zP ?_ ?_|refine zO ?_ (fun _=>?_)
theorem Fg.mono : ∀ a0 a1 k,LeO (Fg.f k a0 a1) (Fg.f (k+1) a0 a1):=by
 intro a0 a1 k;have ih0:=Fg.mono_l k;unfold Fg.f
 repeat' first|(with_reducible first|exact ih0 _ _ _|exact Fj.mono _ _|exact zQ _|exact zN _|refine zP ?_ ?_|refine zO ?_ (fun _=>?_))|refine zP ?_ ?_|refine zO ?_ (fun _=>?_)
def Fg.T4 : Bool×List (List Nat×List Nat):=(true,[([],[]),([],[]),([0,1],[0,1]),([2],[2]),([3],[3]),([],[]),([5],[5]),([4,6],[4,6])])
def Fg.B4 : List Nat:=[0,0,3,7,15,0,32,127]
theorem Fg.tab4 : rtab .any (opsOf Try.f18 4)=Fg.T4:=by kernel_rfl
theorem Fg.bits4 : waitsOk Fg.T4.2 Fg.B4=true:=by kernel_rfl
set_option maxHeartbeats 8000000 in
set_option maxRecDepth 100000 in
theorem Fg.calls (k : Nat) (A0 : Option Addr) (c0 : Nat) (l0 : List (S51)) (a1 : Int) (r : Int) (w : World) (hr0 : Kd.C k51 w A0 l0.length l0) (hc0 : l0.length≤c0) (h : Fg.f k l0 a1=some r) :
  Calls Try.prog 18 #[.slice A0 l0.length c0,.int .i64 a1] w fun e w' => e = .returned (.int .i64 r)∧Below w.heap.size w w':=by
 have HR0:=zh hr0;have HC0:=zh hc0;clear hr0 hc0;have HB:=zh (Below.refl w.heap.size w);have H : (Fg.l0 k l0 a1 0)=some r:=h;clear h;have H':=zh H;clear H
 go_enter Try.func18,Try.ntmps18
 go_wp2
 go_loopg [1,5] k (fun kq v1 v5 w' => ∃ (x1_1 : Int) (x5_1 : Int),v1 = .int .i64 x1_1∧v5 = .int .i64 x5_1∧Aside0 (Fg.l0 kq l0 x1_1 x5_1=some r)∧Aside0 (kq≤k)∧Aside0 (Below w.heap.size w w'))
 case atStart=>exact ⟨(a1),(0),jE,jE,H',⟨ye _⟩,⟨jF⟩⟩
 case round =>
  clear H'
  try clear c1
  try clear p2
  obtain ⟨x1_1,x5_1,rfl,rfl,HA,HK1,HB⟩:=hrel
  cases gk with
  | zero=>exact absurd HA.out (by simp [Fg.l0])
  | succ k1 =>
   have H:=HA.out;clear HA;simp only [Fg.l0] at H
   by_cases c3 : x5_1<(l0.length : Int)
   ·
    rw [if_pos c3] at H
    have c3b0 : decide (x5_1<(l0.length : Int))=true:=decide_eq_true c3;clear c3
    by_cases c4 : 0≤x5_1
    ·
     rw [if_pos c4] at H
     have c4b0 : decide (0≤x5_1)=true:=decide_eq_true c4;clear c4;replace H:=zT.mp H;obtain ⟨t317,A50,H⟩:=H;have A5:=zh A50;clear A50
     by_cases c6 : ((rd_T51 l0 x5_1).f0).toList=t317.toList
     ·
      rw [if_pos c6] at H
      have c6b0 : (((rd_T51 l0 x5_1).f0).toList == t317.toList)=true:=ya.mpr c6;have c6b1 : (((rd_T51 l0 x5_1).f0).toList != t317.toList)=false:=zX.mpr c6;clear c6
      by_cases c7 : ((rd_T51 l0 x5_1).f1)=(wrap64 (x1_1+1))
      ·
       rw [if_pos c7] at H
       have c7b0 : (((rd_T51 l0 x5_1).f1) == (wrap64 (x1_1+1)))=true:=ya.mpr c7;have c7b1 : (((rd_T51 l0 x5_1).f1) != (wrap64 (x1_1+1)))=false:=zX.mpr c7;clear c7;have H':=zh H;clear H
       try go_wp2
       replace HB:=zh (zc HB.out);have p316 : 0≤(x5_1 : Int):=zy jC;have q316 : x5_1<(l0.length : Int):=zy jC;obtain ⟨ad316,e316,hx316_0,hx316_1⟩:=at_T51 HR0.out x5_1 p316 q316;have hw316_1:=hx316_1;have hw316_0:=hx316_0
       cases e316
       replace hx316_0:=(HB.out.cell (zl w _ hx316_0)).trans hx316_0;replace hx316_1:=(HB.out.cell (zl w _ hx316_1)).trans hx316_1;replace p316:=eq_true p316;replace q316:=eq_true q316;refine start_ (n:=8) (S:=fun w' => w'.cell? (ad316.add ((x5_1).toNat*2))=some (.string ((rd_T51 l0 x5_1).f0))∧w'.cell? ⟨(ad316.add ((x5_1).toNat*2)).block,(ad316.add ((x5_1).toNat*2)).off+1,none⟩=some (.int .i64 ((rd_T51 l0 x5_1).f1))) (ds:=[]) (bm_ 0 8) jA rfl rfl ⟨((HB.out.cell (zl w _ hw316_0)).trans hw316_0),((HB.out.cell (zl w _ hw316_1)).trans hw316_1)⟩ (fun hHeld=>?_);refine with_tabW Fg.tab4 Fg.bits4 (fun HT_ HW_=>?_);generalize wr.drew=w8 at HB hx316_0 hx316_1 hHeld ⊢;refine pure_ (i:=0) (N:=some 12) (v:=?_) (a':=?_) (bm_ 1 8) rfl rfl (any_of HT_.out jA) (fun _ _ _ h=>h) (Or.inl ⟨by rfl,?_⟩) ?_ ?_;rotate_left;exact jb;rotate_left;exact jc
       refine pure_ (i:=1) (N:=some 13) (v:=?_) (a':=?_) (bm_ 2 8) rfl rfl (any_of HT_.out jA) (fun _ _ _ h=>h) (Or.inl ⟨by rfl,?_⟩) ?_ ?_;rotate_left;exact jb;rotate_left;exact jc
       refine pure_ (i:=2) (N:=some 14) (v:=?_) (a':=?_) (bm_ 3 8) rfl rfl (any_of HT_.out jA) (fun _ _ _ h=>h) (Or.inl ⟨by rfl,?_⟩) ?_ ?_;rotate_left;exact jb;rotate_left;exact jc
       refine pure_ (i:=3) (N:=some 15) (v:=?_) (a':=?_) (bm_ 4 8) rfl rfl (any_of HT_.out jA) (fun _ _ _ h=>h) (Or.inl ⟨by rfl,?_⟩) ?_ ?_;rotate_left;exact jb;rotate_left;exact jc
       refine pure_ (i:=5) (N:=some 17) (v:=?_) (a':=?_) #[true,true,true,true,false,true,false,false] rfl rfl (any_of HT_.out jA) (fun _ _ _ h=>h) (Or.inl ⟨by rfl,?_⟩) ?_ ?_;rotate_left;exact jb;rotate_left;exact jc
       refine take_ (i:=4) (N:=some 16) (v:=?_) (a':=?_) (bm_ 6 8) rfl rfl (yo HT_.out HW_.out jA) (fun _ _ _ h=>h) (Or.inl ⟨by rfl,?_⟩) hHeld ?_ ?_;rotate_left
       ·
        rintro w' ⟨s0,s1⟩
        go_simp
        with_reducible rfl
       rotate_left
       exact jc
       refine one_ (i:=6) (N:=some 18) (bm_ 7 8) rfl rfl (one_of HT_.out jA) jB (fun K hK=>?_);refine goes_ Try.func40 jA rfl #[.int .i64 x1_1] (by rfl) rfl rfl jG ?_
       with_reducible refine (Fj.calls k1  x1_1 t317 _ A5.out).mono ?_
       rintro e w9 ⟨rfl,hb⟩;refine ⟨_,rfl,?_⟩;replace HB:=zh (zC jF hb);(try clear hb);(try clear hb2);(try clear hk);(try clear hi);refine hK.out _ _ ⟨((HB.out.cell (zl w _ hw316_0)).trans hw316_0),((HB.out.cell (zl w _ hw316_1)).trans hw316_1)⟩ (fun hHeld=>?_);clear hK K;refine norm_ (a':=?_) ?_ ?_;rotate_left
       ·
        show Act.put _ (some 18) _=_
        simp only [Act.put,zi,zj,zk,zG,zH]
        rfl
       refine pure_ (i:=7) (N:=some 19) (v:=?_) (a':=?_) (bm_ 8 8) rfl rfl (any_of HT_.out jA) (fun _ _ _ h=>h) (Or.inl ⟨by rfl,?_⟩) ?_ ?_;rotate_left;exact jb;rotate_left;exact jc
       refine done_ (done_of HT_.out jA) ?_;have p318 : 0≤(x5_1 : Int):=zy jC;have q318 : x5_1<(l0.length : Int):=zy jC;obtain ⟨ad318,e318,hx318_0,hx318_1⟩:=at_T51 HR0.out x5_1 p318 q318;obtain rfl : ad316=ad318:=(by injection e318);replace hx318_0:=(HB.out.cell (zl w _ hx318_0)).trans hx318_0;replace hx318_1:=(HB.out.cell (zl w _ hx318_1)).trans hx318_1;replace p318:=eq_true p318;replace q318:=eq_true q318
       try go_wp2
       go_roundg k1
       case measure=>have:=HK1.out;omega
       case rel=>exact ⟨(wrap64 ((wrap64 (x1_1+1))+1)),(wrap64 (x5_1+1)),jE,jE,H',⟨jL⟩,⟨jF⟩⟩
      rw [if_neg c7] at H;have c7b0 : (((rd_T51 l0 x5_1).f1) == (wrap64 (x1_1+1)))=false:=zY.mpr c7;have c7b1 : (((rd_T51 l0 x5_1).f1) != (wrap64 (x1_1+1)))=true:=zZ.mpr c7;obtain rfl:=zU H
      try go_wp2
      replace HB:=zh (zc HB.out);have p316 : 0≤(x5_1 : Int):=zy jC;have q316 : x5_1<(l0.length : Int):=zy jC;obtain ⟨ad316,e316,hx316_0,hx316_1⟩:=at_T51 HR0.out x5_1 p316 q316;have hw316_1:=hx316_1;have hw316_0:=hx316_0
      cases e316
      replace hx316_0:=(HB.out.cell (zl w _ hx316_0)).trans hx316_0;replace hx316_1:=(HB.out.cell (zl w _ hx316_1)).trans hx316_1;replace p316:=eq_true p316;replace q316:=eq_true q316;refine start_ (n:=8) (S:=fun w' => w'.cell? (ad316.add ((x5_1).toNat*2))=some (.string ((rd_T51 l0 x5_1).f0))∧w'.cell? ⟨(ad316.add ((x5_1).toNat*2)).block,(ad316.add ((x5_1).toNat*2)).off+1,none⟩=some (.int .i64 ((rd_T51 l0 x5_1).f1))) (ds:=[]) (bm_ 0 8) jA rfl rfl ⟨((HB.out.cell (zl w _ hw316_0)).trans hw316_0),((HB.out.cell (zl w _ hw316_1)).trans hw316_1)⟩ (fun hHeld=>?_);refine with_tabW Fg.tab4 Fg.bits4 (fun HT_ HW_=>?_);generalize wr.drew=w10 at HB hx316_0 hx316_1 hHeld ⊢;refine pure_ (i:=0) (N:=some 12) (v:=?_) (a':=?_) (bm_ 1 8) rfl rfl (any_of HT_.out jA) (fun _ _ _ h=>h) (Or.inl ⟨by rfl,?_⟩) ?_ ?_;rotate_left;exact jb;rotate_left;exact jc
      refine pure_ (i:=1) (N:=some 13) (v:=?_) (a':=?_) (bm_ 2 8) rfl rfl (any_of HT_.out jA) (fun _ _ _ h=>h) (Or.inl ⟨by rfl,?_⟩) ?_ ?_;rotate_left;exact jb;rotate_left;exact jc
      refine pure_ (i:=2) (N:=some 14) (v:=?_) (a':=?_) (bm_ 3 8) rfl rfl (any_of HT_.out jA) (fun _ _ _ h=>h) (Or.inl ⟨by rfl,?_⟩) ?_ ?_;rotate_left;exact jb;rotate_left;exact jc
      refine pure_ (i:=3) (N:=some 15) (v:=?_) (a':=?_) (bm_ 4 8) rfl rfl (any_of HT_.out jA) (fun _ _ _ h=>h) (Or.inl ⟨by rfl,?_⟩) ?_ ?_;rotate_left;exact jb;rotate_left;exact jc
      refine pure_ (i:=5) (N:=some 17) (v:=?_) (a':=?_) #[true,true,true,true,false,true,false,false] rfl rfl (any_of HT_.out jA) (fun _ _ _ h=>h) (Or.inl ⟨by rfl,?_⟩) ?_ ?_;rotate_left;exact jb;rotate_left;exact jc
      refine take_ (i:=4) (N:=some 16) (v:=?_) (a':=?_) (bm_ 6 8) rfl rfl (yo HT_.out HW_.out jA) (fun _ _ _ h=>h) (Or.inl ⟨by rfl,?_⟩) hHeld ?_ ?_;rotate_left
      ·
       rintro w' ⟨s0,s1⟩
       go_simp
       with_reducible rfl
      rotate_left
      exact jc
      refine one_ (i:=6) (N:=some 18) (bm_ 7 8) rfl rfl (one_of HT_.out jA) jB (fun K hK=>?_);refine goes_ Try.func40 jA rfl #[.int .i64 x1_1] (by rfl) rfl rfl jG ?_
      with_reducible refine (Fj.calls k1  x1_1 t317 _ A5.out).mono ?_
      rintro e w11 ⟨rfl,hb⟩;refine ⟨_,rfl,?_⟩;replace HB:=zh (zC jF hb);(try clear hb);(try clear hb2);(try clear hk);(try clear hi);refine hK.out _ _ ⟨((HB.out.cell (zl w _ hw316_0)).trans hw316_0),((HB.out.cell (zl w _ hw316_1)).trans hw316_1)⟩ (fun hHeld=>?_);clear hK K;refine norm_ (a':=?_) ?_ ?_;rotate_left
      ·
       show Act.put _ (some 18) _=_
       simp only [Act.put,zi,zj,zk,zG,zH]
       rfl
      refine pure_ (i:=7) (N:=some 19) (v:=?_) (a':=?_) (bm_ 8 8) rfl rfl (any_of HT_.out jA) (fun _ _ _ h=>h) (Or.inl ⟨by rfl,?_⟩) ?_ ?_;rotate_left;exact jb;rotate_left;exact jc
      refine done_ (done_of HT_.out jA) ?_;have p318 : 0≤(x5_1 : Int):=zy jC;have q318 : x5_1<(l0.length : Int):=zy jC;obtain ⟨ad318,e318,hx318_0,hx318_1⟩:=at_T51 HR0.out x5_1 p318 q318;obtain rfl : ad316=ad318:=(by injection e318);replace hx318_0:=(HB.out.cell (zl w _ hx318_0)).trans hx318_0;replace hx318_1:=(HB.out.cell (zl w _ hx318_1)).trans hx318_1;replace p318:=eq_true p318;replace q318:=eq_true q318
      try go_wp2
      go_ret
      exact ⟨jH,jF⟩
     rw [if_neg c6] at H;have c6b0 : (((rd_T51 l0 x5_1).f0).toList == t317.toList)=false:=zY.mpr c6;have c6b1 : (((rd_T51 l0 x5_1).f0).toList != t317.toList)=true:=zZ.mpr c6;obtain rfl:=zU H
     try go_wp2
     replace HB:=zh (zc HB.out);have p316 : 0≤(x5_1 : Int):=zy jC;have q316 : x5_1<(l0.length : Int):=zy jC;obtain ⟨ad316,e316,hx316_0,hx316_1⟩:=at_T51 HR0.out x5_1 p316 q316;have hw316_1:=hx316_1;have hw316_0:=hx316_0
     cases e316
     replace hx316_0:=(HB.out.cell (zl w _ hx316_0)).trans hx316_0;replace hx316_1:=(HB.out.cell (zl w _ hx316_1)).trans hx316_1;replace p316:=eq_true p316;replace q316:=eq_true q316;refine start_ (n:=8) (S:=fun w' => w'.cell? (ad316.add ((x5_1).toNat*2))=some (.string ((rd_T51 l0 x5_1).f0))∧w'.cell? ⟨(ad316.add ((x5_1).toNat*2)).block,(ad316.add ((x5_1).toNat*2)).off+1,none⟩=some (.int .i64 ((rd_T51 l0 x5_1).f1))) (ds:=[]) (bm_ 0 8) jA rfl rfl ⟨((HB.out.cell (zl w _ hw316_0)).trans hw316_0),((HB.out.cell (zl w _ hw316_1)).trans hw316_1)⟩ (fun hHeld=>?_);refine with_tabW Fg.tab4 Fg.bits4 (fun HT_ HW_=>?_);generalize wr.drew=w12 at HB hx316_0 hx316_1 hHeld ⊢;refine pure_ (i:=0) (N:=some 12) (v:=?_) (a':=?_) (bm_ 1 8) rfl rfl (any_of HT_.out jA) (fun _ _ _ h=>h) (Or.inl ⟨by rfl,?_⟩) ?_ ?_;rotate_left;exact jb;rotate_left;exact jc
     refine pure_ (i:=1) (N:=some 13) (v:=?_) (a':=?_) (bm_ 2 8) rfl rfl (any_of HT_.out jA) (fun _ _ _ h=>h) (Or.inl ⟨by rfl,?_⟩) ?_ ?_;rotate_left;exact jb;rotate_left;exact jc
     refine pure_ (i:=2) (N:=some 14) (v:=?_) (a':=?_) (bm_ 3 8) rfl rfl (any_of HT_.out jA) (fun _ _ _ h=>h) (Or.inl ⟨by rfl,?_⟩) ?_ ?_;rotate_left;exact jb;rotate_left;exact jc
     refine pure_ (i:=3) (N:=some 15) (v:=?_) (a':=?_) (bm_ 4 8) rfl rfl (any_of HT_.out jA) (fun _ _ _ h=>h) (Or.inl ⟨by rfl,?_⟩) ?_ ?_;rotate_left;exact jb;rotate_left;exact jc
     refine pure_ (i:=5) (N:=some 17) (v:=?_) (a':=?_) #[true,true,true,true,false,true,false,false] rfl rfl (any_of HT_.out jA) (fun _ _ _ h=>h) (Or.inl ⟨by rfl,?_⟩) ?_ ?_;rotate_left;exact jb;rotate_left;exact jc
     refine take_ (i:=4) (N:=some 16) (v:=?_) (a':=?_) (bm_ 6 8) rfl rfl (yo HT_.out HW_.out jA) (fun _ _ _ h=>h) (Or.inl ⟨by rfl,?_⟩) hHeld ?_ ?_;rotate_left
     ·
      rintro w' ⟨s0,s1⟩
      go_simp
      with_reducible rfl
     rotate_left
     exact jc
     refine one_ (i:=6) (N:=some 18) (bm_ 7 8) rfl rfl (one_of HT_.out jA) jB (fun K hK=>?_);refine goes_ Try.func40 jA rfl #[.int .i64 x1_1] (by rfl) rfl rfl jG ?_
     with_reducible refine (Fj.calls k1  x1_1 t317 _ A5.out).mono ?_
     rintro e w13 ⟨rfl,hb⟩;refine ⟨_,rfl,?_⟩;replace HB:=zh (zC jF hb);(try clear hb);(try clear hb2);(try clear hk);(try clear hi);refine hK.out _ _ ⟨((HB.out.cell (zl w _ hw316_0)).trans hw316_0),((HB.out.cell (zl w _ hw316_1)).trans hw316_1)⟩ (fun hHeld=>?_);clear hK K;refine norm_ (a':=?_) ?_ ?_;rotate_left
     ·
      show Act.put _ (some 18) _=_
      simp only [Act.put,zi,zj,zk,zG,zH]
      rfl
     refine pure_ (i:=7) (N:=some 19) (v:=?_) (a':=?_) (bm_ 8 8) rfl rfl (any_of HT_.out jA) (fun _ _ _ h=>h) (Or.inl ⟨by rfl,?_⟩) ?_ ?_;rotate_left;exact jb;rotate_left;exact jc
     refine done_ (done_of HT_.out jA) ?_
     try go_wp2
     go_ret
     exact ⟨jH,jF⟩
    rw [if_neg c4] at H;exact absurd H (by simp)
   rw [if_neg c3] at H;have c3b0 : decide (x5_1<(l0.length : Int))=false:=decide_eq_false c3;clear c3;obtain rfl:=zU H
   go_wp2
   go_ret
   exact ⟨jH,jF⟩


def Ft.l0 : Nat→List (S67)→Int→Int→Option (Int)
 | 0,_,_,_=>none
 | k+1,x0,x1,x5=>if x5<(x0.length : Int) then (if 0≤x5 then (if ((rd_T67 x0 x5).f0)=x1 then ((Fg.f k ((rd_T67 x0 x5).f1) (wrap64 (x1+1))).bind fun t489=>(if t489<0 then (some (-1)) else (Ft.l0 k x0 t489 (wrap64 (x5+1))))) else (some (-1))) else (none)) else (some x1)
def Ft.f (k : Nat) (l0 : List (S67)) (a1 : Int) : Option (Int):=Ft.l0 k l0 a1 0
theorem Ft.mono_l : ∀ k,(∀ y0 y1 y2,LeO (Ft.l0 k y0 y1 y2) (Ft.l0 (k+1) y0 y1 y2))
 | 0=>fun _ _ _ r h=>by simp [Ft.l0] at h
 | k+1=>by
  have ih0:=Ft.mono_l k;intro y0 y1 y2;unfold Ft.l0
  repeat' first|(with_reducible first|exact ih0 _ _ _|exact Fg.mono _ _ _|exact zQ _|exact zN _|refine zP ?_ ?_|refine zO ?_ (fun _=>?_))|refine zP ?_ ?_|refine zO ?_ (fun _=>?_)
theorem Ft.mono : ∀ a0 a1 k,LeO (Ft.f k a0 a1) (Ft.f (k+1) a0 a1):=by
 intro a0 a1 k;have ih0:=Ft.mono_l k;unfold Ft.f
 repeat' first|(with_reducible first|exact ih0 _ _ _|exact Fg.mono _ _ _|exact zQ _|exact zN _|refine zP ?_ ?_|refine zO ?_ (fun _=>?_))|refine zP ?_ ?_|refine zO ?_ (fun _=>?_)
set_option maxHeartbeats 8000000 in
set_option maxRecDepth 100000 in
theorem Ft.calls (k : Nat) (A0 : Option Addr) (c0 : Nat) (l0 : List (S67)) (a1 : Int) (r : Int) (w : World) (hr0 : Kd.C k67 w A0 l0.length l0) (hc0 : l0.length≤c0) (h : Ft.f k l0 a1=some r) :
  Calls Try.prog 47 #[.slice A0 l0.length c0,.int .i64 a1] w fun e w' => e = .returned (.int .i64 r)∧Below w.heap.size w w':=by
 have HR0:=zh hr0;have HC0:=zh hc0;clear hr0 hc0;have HB:=zh (Below.refl w.heap.size w);have H : (Ft.l0 k l0 a1 0)=some r:=h;clear h;have H':=zh H;clear H
 go_enter Try.func47,Try.ntmps47
 go_wp2
 go_loopg [1,5] k (fun kq v1 v5 w' => ∃ (x1_1 : Int) (x5_1 : Int),v1 = .int .i64 x1_1∧v5 = .int .i64 x5_1∧Aside0 (Ft.l0 kq l0 x1_1 x5_1=some r)∧Aside0 (kq≤k)∧Aside0 (Below w.heap.size w w'))
 case atStart=>exact ⟨(a1),(0),jE,jE,H',⟨ye _⟩,⟨jF⟩⟩
 case round =>
  clear H'
  try clear p2
  obtain ⟨x1_1,x5_1,rfl,rfl,HA,HK1,HB⟩:=hrel
  cases gk with
  | zero=>exact absurd HA.out (by simp [Ft.l0])
  | succ k1 =>
   have H:=HA.out;clear HA;simp only [Ft.l0] at H
   by_cases c3 : x5_1<(l0.length : Int)
   ·
    rw [if_pos c3] at H
    have c3b0 : decide (x5_1<(l0.length : Int))=true:=decide_eq_true c3;clear c3
    by_cases c4 : 0≤x5_1
    ·
     rw [if_pos c4] at H
     have c4b0 : decide (0≤x5_1)=true:=decide_eq_true c4;clear c4
     by_cases c5 : ((rd_T67 l0 x5_1).f0)=x1_1
     ·
      rw [if_pos c5] at H
      have c5b0 : (((rd_T67 l0 x5_1).f0) == x1_1)=true:=ya.mpr c5;have c5b1 : (((rd_T67 l0 x5_1).f0) != x1_1)=false:=zX.mpr c5;clear c5;replace H:=zT.mp H;obtain ⟨t489,A60,H⟩:=H;have A6:=zh A60;clear A60
      by_cases c7 : t489<0
      ·
       rw [if_pos c7] at H
       have c7b0 : decide (t489<0)=true:=decide_eq_true c7;clear c7;obtain rfl:=zU H;have p487 : 0≤(x5_1 : Int):=zy jC;have q487 : x5_1<(l0.length : Int):=zy jC;obtain ⟨ad487,A487_1,c487_1,e487,hx487_0,hx487_1,hl487_1,hi487_1⟩:=at_T67 HR0.out x5_1 p487 q487
       cases e487
       replace hx487_0:=(HB.out.cell (zl w _ hx487_0)).trans hx487_0;replace hx487_1:=(HB.out.cell (zl w _ hx487_1)).trans hx487_1;have HR487_1:=zh hi487_1;have HC487_1:=zh hl487_1;clear hi487_1 hl487_1;replace p487:=eq_true p487;replace q487:=eq_true q487;have p488 : 0≤(x5_1 : Int):=zy jC;have q488 : x5_1<(l0.length : Int):=zy jC;obtain ⟨ad488,A488_1,c488_1,e488,hx488_0,hx488_1,hl488_1,hi488_1⟩:=at_T67 HR0.out x5_1 p488 q488;obtain rfl : ad487=ad488:=(by injection e488);replace hx488_0:=(HB.out.cell (zl w _ hx488_0)).trans hx488_0;replace hx488_1:=(HB.out.cell (zl w _ hx488_1)).trans hx488_1;have HR488_1:=zh hi488_1;have HC488_1:=zh hl488_1;clear hi488_1 hl488_1;replace p488:=eq_true p488;replace q488:=eq_true q488;have ea_:=zU (hx487_1.symm.trans hx488_1);injection ea_ with ea_ en_ ec_;subst ea_;subst ec_;clear en_
       go_wp2_with (first|((with_reducible refine zJ (f:=18) rfl ?_);refine yj (some 27) rfl rfl Try.func18 jA rfl #[.slice A487_1 ((rd_T67 l0 x5_1).f1).length c487_1,.int .i64 (wrap64 (x1_1+1))] rfl jG ?_;(with_reducible refine (Fg.calls k1  _ _ ((rd_T67 l0 x5_1).f1) (wrap64 (x1_1+1)) t489 _ ?side1 ?side2 A6.out).mono ?_);(case side1=>repeat (first|exact (Kd.C_below HR488_1.out HB.out)|(with_reducible refine Kd.C_alloc ?_ _)|(with_reducible refine Kd.C_drewN ?_ _)|(with_reducible refine Kd.C_drew ?_)));(case side2=>exact HC488_1.out);rintro e w8 ⟨rfl,hb⟩;refine ⟨_,rfl,?_⟩;replace HB:=zh (zC jF hb);(try clear hb);(try clear hb2);(try clear hk);(try clear hi)))
       go_ret
       exact ⟨jH,jF⟩
      rw [if_neg c7] at H;have c7b0 : decide (t489<0)=false:=decide_eq_false c7;clear c7;have H':=zh H;clear H;have p487 : 0≤(x5_1 : Int):=zy jC;have q487 : x5_1<(l0.length : Int):=zy jC;obtain ⟨ad487,A487_1,c487_1,e487,hx487_0,hx487_1,hl487_1,hi487_1⟩:=at_T67 HR0.out x5_1 p487 q487
      cases e487
      replace hx487_0:=(HB.out.cell (zl w _ hx487_0)).trans hx487_0;replace hx487_1:=(HB.out.cell (zl w _ hx487_1)).trans hx487_1;have HR487_1:=zh hi487_1;have HC487_1:=zh hl487_1;clear hi487_1 hl487_1;replace p487:=eq_true p487;replace q487:=eq_true q487;have p488 : 0≤(x5_1 : Int):=zy jC;have q488 : x5_1<(l0.length : Int):=zy jC;obtain ⟨ad488,A488_1,c488_1,e488,hx488_0,hx488_1,hl488_1,hi488_1⟩:=at_T67 HR0.out x5_1 p488 q488;obtain rfl : ad487=ad488:=(by injection e488);replace hx488_0:=(HB.out.cell (zl w _ hx488_0)).trans hx488_0;replace hx488_1:=(HB.out.cell (zl w _ hx488_1)).trans hx488_1;have HR488_1:=zh hi488_1;have HC488_1:=zh hl488_1;clear hi488_1 hl488_1;replace p488:=eq_true p488;replace q488:=eq_true q488;have ea_:=zU (hx487_1.symm.trans hx488_1);injection ea_ with ea_ en_ ec_;subst ea_;subst ec_;clear en_
      go_wp2_with (first|((with_reducible refine zJ (f:=18) rfl ?_);refine yj (some 27) rfl rfl Try.func18 jA rfl #[.slice A487_1 ((rd_T67 l0 x5_1).f1).length c487_1,.int .i64 (wrap64 (x1_1+1))] rfl jG ?_;(with_reducible refine (Fg.calls k1  _ _ ((rd_T67 l0 x5_1).f1) (wrap64 (x1_1+1)) t489 _ ?side1 ?side2 A6.out).mono ?_);(case side1=>repeat (first|exact (Kd.C_below HR488_1.out HB.out)|(with_reducible refine Kd.C_alloc ?_ _)|(with_reducible refine Kd.C_drewN ?_ _)|(with_reducible refine Kd.C_drew ?_)));(case side2=>exact HC488_1.out);rintro e w9 ⟨rfl,hb⟩;refine ⟨_,rfl,?_⟩;replace HB:=zh (zC jF hb);(try clear hb);(try clear hb2);(try clear hk);(try clear hi)))
      go_roundg k1
      case measure=>have:=HK1.out;omega
      case rel=>exact ⟨(t489),(wrap64 (x5_1+1)),jE,jE,H',⟨jL⟩,⟨jF⟩⟩
     rw [if_neg c5] at H;have c5b0 : (((rd_T67 l0 x5_1).f0) == x1_1)=false:=zY.mpr c5;have c5b1 : (((rd_T67 l0 x5_1).f0) != x1_1)=true:=zZ.mpr c5;obtain rfl:=zU H;have p487 : 0≤(x5_1 : Int):=zy jC;have q487 : x5_1<(l0.length : Int):=zy jC;obtain ⟨ad487,A487_1,c487_1,e487,hx487_0,hx487_1,hl487_1,hi487_1⟩:=at_T67 HR0.out x5_1 p487 q487
     cases e487
     replace hx487_0:=(HB.out.cell (zl w _ hx487_0)).trans hx487_0;replace hx487_1:=(HB.out.cell (zl w _ hx487_1)).trans hx487_1;have HR487_1:=zh hi487_1;have HC487_1:=zh hl487_1;clear hi487_1 hl487_1;replace p487:=eq_true p487;replace q487:=eq_true q487
     go_wp2
     go_ret
     exact ⟨jH,jF⟩
    rw [if_neg c4] at H;exact absurd H (by simp)
   rw [if_neg c3] at H;have c3b0 : decide (x5_1<(l0.length : Int))=false:=decide_eq_false c3;clear c3;obtain rfl:=zU H
   go_wp2
   go_ret
   exact ⟨jH,jF⟩


def F0i.f (k : Nat) (l0_0 : List (S67)) (a0_1 : Int) (a1 : Int) : Option (Int):=(Ft.f k l0_0 a1).bind fun t491=>(if t491<0 then (some (-1)) else (some t491))
theorem F0i.mono : ∀ a0 a1 a2 k,LeO (F0i.f k a0 a1 a2) (F0i.f (k+1) a0 a1 a2):=by
 intro a0 a1 a2 k;unfold F0i.f
 repeat' first|(with_reducible first|exact Ft.mono _ _ _|exact zQ _|exact zN _|refine zP ?_ ?_|refine zO ?_ (fun _=>?_))|refine zP ?_ ?_|refine zO ?_ (fun _=>?_)
set_option maxHeartbeats 8000000 in
set_option maxRecDepth 100000 in
theorem F0i.calls (k : Nat) (A0_0 : Option Addr) (c0_0 : Nat) (l0_0 : List (S67)) (a0_1 : Int) (a1 : Int) (r : Int) (w : World) (hr0_0 : Kd.C k67 w A0_0 l0_0.length l0_0) (hc0_0 : l0_0.length≤c0_0) (h : F0i.f k l0_0 a0_1 a1=some r) :
  Calls Try.prog 24 #[.agg #[.slice A0_0 l0_0.length c0_0,.int .i64 a0_1],.int .i64 a1] w fun e w' => e = .returned (.int .i64 r)∧Below w.heap.size w w':=by
 have hu35:=Try.underlying35;have HR0_0:=zh hr0_0;have HC0_0:=zh hc0_0;clear hr0_0 hc0_0;have HB:=zh (Below.refl w.heap.size w);have H : ((Ft.f k l0_0 a1).bind fun t491=>(if t491<0 then (some (-1)) else (some t491)))=some r:=h;clear h;replace H:=zT.mp H;obtain ⟨t491,A30,H⟩:=H;have A3:=zh A30;clear A30
 by_cases c4 : t491<0
 ·
  rw [if_pos c4] at H
  have c4b0 : decide (t491<0)=true:=decide_eq_true c4;clear c4;obtain rfl:=zU H
  go_enter Try.func24,Try.ntmps24
  go_wp2_with (first|((with_reducible refine zK (N:=2) rfl ?_);refine zI ?hg (N:=2) ?hd (cs:=#[.slice A0_0 l0_0.length c0_0,.int .i64 a0_1]) (t:=35) ?hr ?_;(case hd=>rfl);(case hg=>rfl);(case hr=>go_simp <;> rfl);intro gb490 hg w5 hbox hb;have BK490:=zh (hbox);have hH_:=cH jF hb hg;have GW490:=zh hH_.1;have GE490:=GW490;replace HB:=zh hH_.2;clear hb hbox hg hH_;obtain ⟨hcz6_0,hcz6_1,hfz6_0,hfz6_1⟩:=cB2 BK490.out)|((with_reducible refine zJ (f:=47) rfl ?_);refine yj (some 8) rfl rfl Try.func47 jA rfl #[.slice A0_0 l0_0.length c0_0,.int .i64 a1] rfl jG ?_;(with_reducible refine (Ft.calls k  _ _ l0_0 a1 t491 _ ?side1 ?side2 A3.out).mono ?_);(case side1=>repeat (first|exact (Kd.C_below HR0_0.out HB.out)|(with_reducible refine Kd.C_alloc ?_ _)|(with_reducible refine Kd.C_drewN ?_ _)|(with_reducible refine Kd.C_drew ?_)));(case side2=>exact HC0_0.out);rintro e w7 ⟨rfl,hb⟩;refine ⟨_,rfl,?_⟩;replace BK490:=zh (cD BK490.out jBX hb);replace HB:=zh (zC jAV hb);(try clear hb);(try clear hb2);(try clear hk);(try clear hi)))
  go_ret
  exact ⟨jH,jAV⟩
 rw [if_neg c4] at H;have c4b0 : decide (t491<0)=false:=decide_eq_false c4;clear c4;obtain rfl:=zU H
 go_enter Try.func24,Try.ntmps24
 go_wp2_with (first|((with_reducible refine zK (N:=2) rfl ?_);refine zI ?hg (N:=2) ?hd (cs:=#[.slice A0_0 l0_0.length c0_0,.int .i64 a0_1]) (t:=35) ?hr ?_;(case hd=>rfl);(case hg=>rfl);(case hr=>go_simp <;> rfl);intro gb490 hg w8 hbox hb;have BK490:=zh (hbox);have hH_:=cH jF hb hg;have GW490:=zh hH_.1;have GE490:=GW490;replace HB:=zh hH_.2;clear hb hbox hg hH_;obtain ⟨hcz9_0,hcz9_1,hfz9_0,hfz9_1⟩:=cB2 BK490.out)|((with_reducible refine zJ (f:=47) rfl ?_);refine yj (some 8) rfl rfl Try.func47 jA rfl #[.slice A0_0 l0_0.length c0_0,.int .i64 a1] rfl jG ?_;(with_reducible refine (Ft.calls k  _ _ l0_0 a1 t491 _ ?side1 ?side2 A3.out).mono ?_);(case side1=>repeat (first|exact (Kd.C_below HR0_0.out HB.out)|(with_reducible refine Kd.C_alloc ?_ _)|(with_reducible refine Kd.C_drewN ?_ _)|(with_reducible refine Kd.C_drew ?_)));(case side2=>exact HC0_0.out);rintro e w10 ⟨rfl,hb⟩;refine ⟨_,rfl,?_⟩;replace BK490:=zh (cD BK490.out jBX hb);replace HB:=zh (zC jAV hb);(try clear hb);(try clear hb2);(try clear hk);(try clear hi)))
 go_ret
 exact ⟨jH,jAV⟩

end Go.Proofs.Ytamikhmpfmgofaa.Q
end
