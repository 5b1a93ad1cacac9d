/- Texts of this claim, merged by a program of this session. -/
import Derived.Lib.Strings
import Derived.Lib.Slices
import Derived.Lib.Walk
import Derived.Lib.Bytealg
import Derived.Test.YthjgfjlogilleaaGreatDoorKLawFnExactReadOKp12
import Derived.Test.YthjgfjlogilleaaGreatDoorKLawFnExactReadOKp14
import Derived.Test.YthjgfjlogilleaaGreatDoorKLawFnExactReadOKp16
import Derived.Test.YthjgfjlogilleaaGreatDoorKLawFnExactReadOKp17
import Derived.Test.YthjgfjlogilleaaGreatDoorKLawFnExactReadOKp18
import Derived.Test.YthjgfjlogilleaaGreatDoorKLawFnExactReadOKp20
import Derived.Test.YthjgfjlogilleaaGreatDoorKLawFnExactReadOKp21
section
namespace Go.Proofs.YthjgfjlogilleaaGreatDoor.Q
open Go.RowKit Go.Proofs.YthjgfjlogilleaaGreatDoorW.PrintWords Go.Proofs.YthjgfjlogilleaaGreatDoorW.PrintLast Go.Proofs.YthjgfjlogilleaaGreatDoorW.PrintMore
attribute [local go_sem] max2_int min2_int max_two min_two max_three min_three max_four min_four max2_str min2_str str_geq str_gtr str_leq
set_option linter.unusedVariables false
set_option linter.unusedSimpArgs false



def errW : Option Int→Value
 | none => .nilIface
 | some c => .iface 0 (.int .i64 c)
theorem errW_none : errW none = .nilIface:=rfl
theorem errW_some (c : Int) : errW (some c) = .iface 0 (.int .i64 c):=rfl

theorem info9 : (Tryz.prog.info? 9).map (fun i => (i.zero,i.size,i.bytes))=some (some (.string ⟨#[]⟩),1,16):=by kernel_rfl
theorem info46 : (Tryz.prog.info? 46).map (fun i => (i.zero,i.size,i.bytes))=some (some (.agg #[(.slice none 0 0)]),1,24):=by kernel_rfl
theorem info49 : (Tryz.prog.info? 49).map (fun i => (i.zero,i.size,i.bytes))=some (some (.agg #[(.int .i64 0),(.int .i64 0),(.string ⟨#[]⟩)]),3,32):=by kernel_rfl
theorem info51 : (Tryz.prog.info? 51).map (fun i => (i.zero,i.size,i.bytes))=some (some (.agg #[(.int .i64 0),(.string ⟨#[]⟩),(.int .i64 0),(.int .i64 0),(.string ⟨#[]⟩)]),5,56):=by kernel_rfl
theorem info87 : (Tryz.prog.info? 87).map (fun i => (i.zero,i.size,i.bytes))=some (some (.agg #[(.string ⟨#[]⟩),(.int .i64 0),(.int .i64 0),(.string ⟨#[]⟩)]),4,48):=by kernel_rfl
-- the values' own types
structure S77 where
 f0 : Int
 f1 : Int
 f2 : ByteArray
def z77 : S77:=⟨(0 : Int),(0 : Int),(⟨#[]⟩ : ByteArray)⟩
def k77 : Kd S77:=Kd.iso (Kd.pair (Kd.int .i64) (Kd.pair (Kd.int .i64) Kd.string)) (fun x : S77 => (x.f0,x.f1,x.f2))
theorem k77_open {w : World} {x : S77} {cs : List Value} (h : k77.K w x cs) : cs=[.int .i64 x.f0,.int .i64 x.f1,.string x.f2]:=by
 obtain ⟨_,_,rfl,rfl,⟨_,_,rfl,rfl,rfl⟩⟩:=h
 exact rfl
def rd_T77 (xs : List S77) (i : Int) : S77:=xs.getD i.toNat z77
structure S79 where
 f0 : Int
 f1 : ByteArray
 f2 : S77
def z79 : S79:=⟨(0 : Int),(⟨#[]⟩ : ByteArray),z77⟩
def k79 : Kd S79:=Kd.iso (Kd.pair (Kd.int .i64) (Kd.pair Kd.string k77)) (fun x : S79 => (x.f0,x.f1,x.f2))
theorem k79_open {w : World} {x : S79} {cs : List Value} (h : k79.K w x cs) : cs=[.int .i64 x.f0,.string x.f1,.int .i64 x.f2.f0,.int .i64 x.f2.f1,.string x.f2.f2]:=by
 obtain ⟨_,_,rfl,rfl,⟨_,_,rfl,rfl,s2⟩⟩:=h
 obtain rfl:=k77_open s2
 exact rfl
def rd_T79 (xs : List S79) (i : Int) : S79:=xs.getD i.toNat z79
theorem at_T79 {w : World} {A : Option Addr} {n : Nat} {xs : List S79} (h : Kd.C k79 w A n xs) (i : Int) (h0 : 0≤i) (h1 : i<n) : ∃ ad ,A=some ad∧w.cell? (ad.add (i.toNat * 5))=some (.int .i64 (rd_T79 xs i).f0)∧w.cell? ⟨(ad.add (i.toNat * 5)).block,(ad.add (i.toNat * 5)).off + 1,none⟩=some (.string (rd_T79 xs i).f1)∧w.cell? ⟨(ad.add (i.toNat * 5)).block,(ad.add (i.toNat * 5)).off + 2,none⟩=some (.int .i64 (rd_T79 xs i).f2.f0)∧w.cell? ⟨(ad.add (i.toNat * 5)).block,(ad.add (i.toNat * 5)).off + 3,none⟩=some (.int .i64 (rd_T79 xs i).f2.f1)∧w.cell? ⟨(ad.add (i.toNat * 5)).block,(ad.add (i.toNat * 5)).off + 4,none⟩=some (.string (rd_T79 xs i).f2.f2):=by
 obtain ⟨ad,c,e,_,hK,hc0⟩:=Kd.C_get h z79 i h0 h1
 have hc : ∀ j u,c[j]? = some u→w.cell? (ad.add (i.toNat * 5 + j))=some u:=hc0
 obtain rfl:=k79_open hK
 exact ⟨ad,e,hc 0 _ rfl,by rw [← add_field _ _ 1 (by omega)];exact hc 1 _ rfl,by rw [← add_field _ _ 2 (by omega)];exact hc 2 _ rfl,by rw [← add_field _ _ 3 (by omega)];exact hc 3 _ rfl,by rw [← add_field _ _ 4 (by omega)];exact hc 4 _ rfl⟩

def rd_L4 (xs : List (List S79)) (i : Int) : (List S79):=xs.getD i.toNat ([] : List S79)
structure S61 where
 f0 : (List S79)
def z61 : S61:=⟨([] : List S79)⟩
def k61 : Kd S61:=Kd.iso (Kd.slice 79 k79) (fun x : S61 => x.f0)
theorem k61_open {w : World} {x : S61} {cs : List Value} (h : k61.K w x cs) : ∃ A0 c0,cs=[.slice A0 x.f0.length c0]∧x.f0.length≤c0∧k79.C w A0 x.f0.length x.f0:=by
 obtain ⟨A0,c0,rfl,l0,g0⟩:=h
 exact ⟨A0,c0,rfl,l0,g0⟩
def rd_T61 (xs : List S61) (i : Int) : S61:=xs.getD i.toNat z61
theorem at_T61 {w : World} {A : Option Addr} {n : Nat} {xs : List S61} (h : Kd.C k61 w A n xs) (i : Int) (h0 : 0≤i) (h1 : i<n) : ∃ ad A0 c0,A=some ad∧w.cell? (ad.add i.toNat)=some (.slice A0 (rd_T61 xs i).f0.length c0)∧(rd_T61 xs i).f0.length≤c0∧k79.C w A0 (rd_T61 xs i).f0.length (rd_T61 xs i).f0:=by
 obtain ⟨ad,c,e,_,hK,hc0⟩:=Kd.C_get h z61 i h0 h1
 have hc : ∀ j u,c[j]? = some u→w.cell? (ad.add (i.toNat * 1 + j))=some u:=hc0
 obtain ⟨A0,c0,rfl,l0,g0⟩:=k61_open hK
 exact ⟨ad,A0,c0,e,by have hq:=hc 0 _ rfl;rwa [Nat.mul_one,Nat.add_zero] at hq,l0,g0⟩

structure S49 where
 f0 : Int
 f1 : Int
 f2 : ByteArray
def z49 : S49:=⟨(0 : Int),(0 : Int),(⟨#[]⟩ : ByteArray)⟩
def k49 : Kd S49:=Kd.iso (Kd.pair (Kd.int .i64) (Kd.pair (Kd.int .i64) Kd.string)) (fun x : S49 => (x.f0,x.f1,x.f2))
theorem k49_open {w : World} {x : S49} {cs : List Value} (h : k49.K w x cs) : cs=[.int .i64 x.f0,.int .i64 x.f1,.string x.f2]:=by
 obtain ⟨_,_,rfl,rfl,⟨_,_,rfl,rfl,rfl⟩⟩:=h
 exact rfl
theorem k49_openM {w : World} {base : Nat} {ok : Nat→Prop} {x : S49} {cs : List Value} (h : k49.M w base ok x cs) : cs=[.int .i64 x.f0,.int .i64 x.f1,.string x.f2]:=by
 obtain ⟨_,_,rfl,rfl,⟨_,_,rfl,rfl,rfl⟩⟩:=h
 exact rfl
theorem k49_mkM (w : World) (base : Nat) (ok : Nat→Prop) (x : S49)  : k49.M w base ok x [.int .i64 x.f0,.int .i64 x.f1,.string x.f2]:=⟨[.int .i64 x.f0],[.int .i64 x.f1,.string x.f2],rfl,rfl,⟨[.int .i64 x.f1],[.string x.f2],rfl,rfl,rfl⟩⟩
def rd_T49 (xs : List S49) (i : Int) : S49:=xs.getD i.toNat z49
theorem at_T49 {w : World} {A : Option Addr} {n : Nat} {xs : List S49} (h : Kd.C k49 w A n xs) (i : Int) (h0 : 0≤i) (h1 : i<n) : ∃ ad ,A=some ad∧w.cell? (ad.add (i.toNat * 3))=some (.int .i64 (rd_T49 xs i).f0)∧w.cell? ⟨(ad.add (i.toNat * 3)).block,(ad.add (i.toNat * 3)).off + 1,none⟩=some (.int .i64 (rd_T49 xs i).f1)∧w.cell? ⟨(ad.add (i.toNat * 3)).block,(ad.add (i.toNat * 3)).off + 2,none⟩=some (.string (rd_T49 xs i).f2):=by
 obtain ⟨ad,c,e,_,hK,hc0⟩:=Kd.C_get h z49 i h0 h1
 have hc : ∀ j u,c[j]? = some u→w.cell? (ad.add (i.toNat * 3 + j))=some u:=hc0
 obtain rfl:=k49_open hK
 exact ⟨ad,e,hc 0 _ rfl,by rw [← add_field _ _ 1 (by omega)];exact hc 1 _ rfl,by rw [← add_field _ _ 2 (by omega)];exact hc 2 _ rfl⟩

structure S87 where
 f0 : ByteArray
 f1 : S49
def z87 : S87:=⟨(⟨#[]⟩ : ByteArray),z49⟩
def k87 : Kd S87:=Kd.iso (Kd.pair Kd.string k49) (fun x : S87 => (x.f0,x.f1))
theorem k87_open {w : World} {x : S87} {cs : List Value} (h : k87.K w x cs) : cs=[.string x.f0,.int .i64 x.f1.f0,.int .i64 x.f1.f1,.string x.f1.f2]:=by
 obtain ⟨_,_,rfl,rfl,s1⟩:=h
 obtain rfl:=k49_open s1
 exact rfl
theorem k87_mkM (w : World) (base : Nat) (ok : Nat→Prop) (x : S87)  : k87.M w base ok x [.string x.f0,.int .i64 x.f1.f0,.int .i64 x.f1.f1,.string x.f1.f2]:=⟨[.string x.f0],[.int .i64 x.f1.f0,.int .i64 x.f1.f1,.string x.f1.f2],rfl,rfl,(k49_mkM w base ok x.f1 )⟩
def rd_T87 (xs : List S87) (i : Int) : S87:=xs.getD i.toNat z87
theorem at_T87 {w : World} {A : Option Addr} {n : Nat} {xs : List S87} (h : Kd.C k87 w A n xs) (i : Int) (h0 : 0≤i) (h1 : i<n) : ∃ ad ,A=some ad∧w.cell? (ad.add (i.toNat * 4))=some (.string (rd_T87 xs i).f0)∧w.cell? ⟨(ad.add (i.toNat * 4)).block,(ad.add (i.toNat * 4)).off + 1,none⟩=some (.int .i64 (rd_T87 xs i).f1.f0)∧w.cell? ⟨(ad.add (i.toNat * 4)).block,(ad.add (i.toNat * 4)).off + 2,none⟩=some (.int .i64 (rd_T87 xs i).f1.f1)∧w.cell? ⟨(ad.add (i.toNat * 4)).block,(ad.add (i.toNat * 4)).off + 3,none⟩=some (.string (rd_T87 xs i).f1.f2):=by
 obtain ⟨ad,c,e,_,hK,hc0⟩:=Kd.C_get h z87 i h0 h1
 have hc : ∀ j u,c[j]? = some u→w.cell? (ad.add (i.toNat * 4 + j))=some u:=hc0
 obtain rfl:=k87_open hK
 exact ⟨ad,e,hc 0 _ rfl,by rw [← add_field _ _ 1 (by omega)];exact hc 1 _ rfl,by rw [← add_field _ _ 2 (by omega)];exact hc 2 _ rfl,by rw [← add_field _ _ 3 (by omega)];exact hc 3 _ rfl⟩

structure S51 where
 f0 : Int
 f1 : ByteArray
 f2 : S49
def z51 : S51:=⟨(0 : Int),(⟨#[]⟩ : ByteArray),z49⟩
def k51 : Kd S51:=Kd.iso (Kd.pair (Kd.int .i64) (Kd.pair Kd.string k49)) (fun x : S51 => (x.f0,x.f1,x.f2))
theorem k51_open {w : World} {x : S51} {cs : List Value} (h : k51.K w x cs) : cs=[.int .i64 x.f0,.string x.f1,.int .i64 x.f2.f0,.int .i64 x.f2.f1,.string x.f2.f2]:=by
 obtain ⟨_,_,rfl,rfl,⟨_,_,rfl,rfl,s2⟩⟩:=h
 obtain rfl:=k49_open s2
 exact rfl
theorem k51_openM {w : World} {base : Nat} {ok : Nat→Prop} {x : S51} {cs : List Value} (h : k51.M w base ok x cs) : cs=[.int .i64 x.f0,.string x.f1,.int .i64 x.f2.f0,.int .i64 x.f2.f1,.string x.f2.f2]:=by
 obtain ⟨_,_,rfl,rfl,⟨_,_,rfl,rfl,s2⟩⟩:=h
 obtain rfl:=k49_openM s2
 exact rfl
theorem k51_mkM (w : World) (base : Nat) (ok : Nat→Prop) (x : S51)  : k51.M w base ok x [.int .i64 x.f0,.string x.f1,.int .i64 x.f2.f0,.int .i64 x.f2.f1,.string x.f2.f2]:=⟨[.int .i64 x.f0],[.string x.f1,.int .i64 x.f2.f0,.int .i64 x.f2.f1,.string x.f2.f2],rfl,rfl,⟨[.string x.f1],[.int .i64 x.f2.f0,.int .i64 x.f2.f1,.string x.f2.f2],rfl,rfl,(k49_mkM w base ok x.f2 )⟩⟩
def rd_T51 (xs : List S51) (i : Int) : S51:=xs.getD i.toNat z51
theorem at_T51 {w : World} {A : Option Addr} {n : Nat} {xs : List S51} (h : Kd.C k51 w A n xs) (i : Int) (h0 : 0≤i) (h1 : i<n) : ∃ ad ,A=some ad∧w.cell? (ad.add (i.toNat * 5))=some (.int .i64 (rd_T51 xs i).f0)∧w.cell? ⟨(ad.add (i.toNat * 5)).block,(ad.add (i.toNat * 5)).off + 1,none⟩=some (.string (rd_T51 xs i).f1)∧w.cell? ⟨(ad.add (i.toNat * 5)).block,(ad.add (i.toNat * 5)).off + 2,none⟩=some (.int .i64 (rd_T51 xs i).f2.f0)∧w.cell? ⟨(ad.add (i.toNat * 5)).block,(ad.add (i.toNat * 5)).off + 3,none⟩=some (.int .i64 (rd_T51 xs i).f2.f1)∧w.cell? ⟨(ad.add (i.toNat * 5)).block,(ad.add (i.toNat * 5)).off + 4,none⟩=some (.string (rd_T51 xs i).f2.f2):=by
 obtain ⟨ad,c,e,_,hK,hc0⟩:=Kd.C_get h z51 i h0 h1
 have hc : ∀ j u,c[j]? = some u→w.cell? (ad.add (i.toNat * 5 + j))=some u:=hc0
 obtain rfl:=k51_open hK
 exact ⟨ad,e,hc 0 _ rfl,by rw [← add_field _ _ 1 (by omega)];exact hc 1 _ rfl,by rw [← add_field _ _ 2 (by omega)];exact hc 2 _ rfl,by rw [← add_field _ _ 3 (by omega)];exact hc 3 _ rfl,by rw [← add_field _ _ 4 (by omega)];exact hc 4 _ rfl⟩

def rd_L9 (xs : List (List S51)) (i : Int) : (List S51):=xs.getD i.toNat ([] : List S51)
structure S46 where
 f0 : (List S51)
def z46 : S46:=⟨([] : List S51)⟩
def k46 : Kd S46:=Kd.iso (Kd.slice 51 k51) (fun x : S46 => x.f0)
theorem k46_open {w : World} {x : S46} {cs : List Value} (h : k46.K w x cs) : ∃ A0 c0,cs=[.slice A0 x.f0.length c0]∧x.f0.length≤c0∧k51.C w A0 x.f0.length x.f0:=by
 obtain ⟨A0,c0,rfl,l0,g0⟩:=h
 exact ⟨A0,c0,rfl,l0,g0⟩
theorem k46_openM {w : World} {base : Nat} {ok : Nat→Prop} {x : S46} {cs : List Value} (h : k46.M w base ok x cs) : ∃ v0,cs=[v0]∧k51.R 51 w base ok v0 x.f0:=by
 obtain ⟨v0,rfl,g0⟩:=h
 exact ⟨v0,rfl,g0⟩
theorem k46_mkM (w : World) (base : Nat) (ok : Nat→Prop) (x : S46) {v0 : Value} (g0 : k51.R 51 w base ok v0 x.f0) : k46.M w base ok x [v0]:=⟨v0,rfl,g0⟩
def rd_T46 (xs : List S46) (i : Int) : S46:=xs.getD i.toNat z46
theorem at_T46 {w : World} {A : Option Addr} {n : Nat} {xs : List S46} (h : Kd.C k46 w A n xs) (i : Int) (h0 : 0≤i) (h1 : i<n) : ∃ ad A0 c0,A=some ad∧w.cell? (ad.add i.toNat)=some (.slice A0 (rd_T46 xs i).f0.length c0)∧(rd_T46 xs i).f0.length≤c0∧k51.C w A0 (rd_T46 xs i).f0.length (rd_T46 xs i).f0:=by
 obtain ⟨ad,c,e,_,hK,hc0⟩:=Kd.C_get h z46 i h0 h1
 have hc : ∀ j u,c[j]? = some u→w.cell? (ad.add (i.toNat * 1 + j))=some u:=hc0
 obtain ⟨A0,c0,rfl,l0,g0⟩:=k46_open hK
 exact ⟨ad,A0,c0,e,by have hq:=hc 0 _ rfl;rwa [Nat.mul_one,Nat.add_zero] at hq,l0,g0⟩

def rd_L12 (xs : List (List S61)) (i : Int) : (List S61):=xs.getD i.toNat ([] : List S61)
structure S24 where
 f0 : (List S61)
def z24 : S24:=⟨([] : List S61)⟩
def k24 : Kd S24:=Kd.iso (Kd.slice 61 k61) (fun x : S24 => x.f0)
theorem k24_open {w : World} {x : S24} {cs : List Value} (h : k24.K w x cs) : ∃ A0 c0,cs=[.slice A0 x.f0.length c0]∧x.f0.length≤c0∧k61.C w A0 x.f0.length x.f0:=by
 obtain ⟨A0,c0,rfl,l0,g0⟩:=h
 exact ⟨A0,c0,rfl,l0,g0⟩
def rd_T24 (xs : List S24) (i : Int) : S24:=xs.getD i.toNat z24
structure S34 where
 f0 : ByteArray
 f1 : S24
def z34 : S34:=⟨(⟨#[]⟩ : ByteArray),z24⟩
def k34 : Kd S34:=Kd.iso (Kd.pair Kd.string k24) (fun x : S34 => (x.f0,x.f1))
theorem k34_open {w : World} {x : S34} {cs : List Value} (h : k34.K w x cs) : ∃ A1 c1,cs=[.string x.f0,.slice A1 x.f1.f0.length c1]∧x.f1.f0.length≤c1∧k61.C w A1 x.f1.f0.length x.f1.f0:=by
 obtain ⟨_,_,rfl,rfl,s1⟩:=h
 obtain ⟨A1,c1,rfl,l1,g1⟩:=k24_open s1
 exact ⟨A1,c1,rfl,l1,g1⟩
def rd_T34 (xs : List S34) (i : Int) : S34:=xs.getD i.toNat z34
abbrev bm_ (i n : Nat) : Array Bool:=(List.replicate i true ++ List.replicate (n - i) false).toArray
abbrev za:=@below_alloc
abbrev zb:=@pw_below_drewN
abbrev zc:=@below_drew1
abbrev zd:=@below_set
abbrev ze:=@blk_drewN
abbrev zf:=@blk_drew
abbrev zg:=@blk_alloc
abbrev zh:=@Aside0.mk
abbrev zi:=@List.setIfInBounds_toArray
abbrev zj:=@List.set_cons_zero
abbrev zk:=@List.set_cons_succ
abbrev zl:=@World.block_lt_of_cell?
abbrev zm:=@Kd.R_alloc
abbrev zn:=@Kd.R_drewN
abbrev zo:=@Kd.R_drew
abbrev zp:=@Kept.drewN
abbrev zq:=@Kept.drew
abbrev zr:=@Kept.alloc
abbrev zs:=@Kept.setCell
abbrev zt:=@List.map_toArray
abbrev zu:=@List.map_cons
abbrev zv:=@List.map_nil
abbrev zw:=@List.length_drop
abbrev zx:=@List.length_take
abbrev zy:=@of_decide_eq_true
abbrev zz:=@blk_cell
abbrev zA:=@blk_frozen
abbrev zB:=@below_size
abbrev zC:=@below_step
abbrev zD:=@blk_below
abbrev zE:=@Kd.R_far
abbrev zF:=@add_block
abbrev zG:=@i64_w
abbrev zH:=@i32_w
abbrev zI:=@box_event
abbrev zJ:=@gate_callee
abbrev zK:=@gate_dst
abbrev zL:=@blk_put
abbrev zM:=@Kd.R_mono
abbrev zN:=@LeO.none
abbrev zO:=@LeO.bind
abbrev zP:=@LeO.ite
abbrev zQ:=@LeO.refl
abbrev zR:=@cell_far
abbrev zS:=@blk_far
abbrev zT:=@Option.bind_eq_some_iff
abbrev zU:=@Option.some.inj
abbrev zV:=@Int.ofNat_lt
abbrev zW:=@Int.ofNat_le
abbrev zX:=@bne_eq_false_iff_eq
abbrev zY:=@beq_eq_false_iff_ne
abbrev zZ:=@bne_iff_ne
abbrev ya:=@beq_iff_eq
abbrev yb:=@Bool.eq_false_iff
abbrev yc:=@Nat.ne_of_lt
abbrev yd:=@Nat.ne_of_gt
abbrev ye:=@Nat.le_refl
abbrev yf:=@Kd.R_types
abbrev yg:=@Kd.R_below
abbrev yh:=@Kd.R_reads'
abbrev yi:=@blk_lt
abbrev yj:=@goesL_
abbrev yk:=@Kd.R_slice
abbrev yl:=@KeepBut.set_
abbrev ym:=@keep_drewN
abbrev yn:=@keep_alloc
abbrev yo:=@take_ofW
abbrev yp:=@Drawn0.refl
abbrev yq:=@Drawn0.step
abbrev yr:=@gt_iff_lt
abbrev ys:=@ge_iff_le
abbrev yt:=@errW_none
abbrev yu:=@errW_some
abbrev yv:=@Kd.R_away
abbrev yw:=@blk_grown
abbrev yx:=@keep_drew
abbrev yy:=@Kd.R_lower
abbrev yz:=@gate_guard
abbrev yA:=@Kept.of_grown
abbrev yB:=@gate_builtin

def F0v.f (a0_0 : Int) (a0_1 : Int) (a0_2 : ByteArray) (a1 : Int) : Option (Int):=if (wrap64 (a1 - (a0_2.size : Int)))<0 then (some (-1)) else (some (wrap64 (a1 - (a0_2.size : Int))))
set_option maxHeartbeats 8000000 in
set_option maxRecDepth 100000 in
theorem F0v.calls (a0_0 : Int) (a0_1 : Int) (a0_2 : ByteArray) (a1 : Int) (r : Int) (w : World) (h : F0v.f a0_0 a0_1 a0_2 a1=some r) :
  Calls Tryz.prog 64 #[.agg #[.int .i64 a0_0,.int .i64 a0_1,.string a0_2],.int .i64 a1] w fun e w' => e = .returned (.int .i64 r)∧Below w.heap.size w w':=by
 have hu77:=Tryz.underlying77;have HB:=zh (Below.refl w.heap.size w);have H : (if (wrap64 (a1 - (a0_2.size : Int)))<0 then (some (-1)) else (some (wrap64 (a1 - (a0_2.size : Int)))))=some r:=h;clear h
 by_cases c3 : (wrap64 (a1 - (a0_2.size : Int)))<0
 ·
  rw [if_pos c3] at H
  have c3b0 : decide ((wrap64 (a1 - (a0_2.size : Int)))<0)=true:=decide_eq_true c3;clear c3;obtain rfl:=zU H
  go_enter Tryz.func64,Tryz.ntmps64
  go_wp2_with (first|((with_reducible refine zK (N:=2) rfl ?_);refine zI ?hg (N:=2) ?hd (cs:=#[.int .i64 a0_0,.int .i64 a0_1,.string a0_2]) (t:=77) ?hr ?_;(case hd => rfl);(case hg => rfl);(case hr => first|(go_simp;done)|(go_simp;rfl));intro gb101 hg w4 hbox hb;have BK101:=zh (hbox);have GW101:=zh ((by rw [hg];exact (zB (by repeat (with_reducible first|exact HB.out|apply za|apply zb|apply zc))) : w.heap.size≤gb101));have GE101:=zh ((by rw [hg];exact (zB (by repeat (with_reducible first|exact HB.out|apply za|apply zb|apply zc))) : w.heap.size≤gb101));replace HB:=zh (zC (by repeat (with_reducible first|exact HB.out|apply za|apply zb|apply zc)) hb);clear hb hbox hg;have hcz5_0 : w4.cell? ⟨gb101,0,none⟩=some (.int .i64 a0_0):=(zz BK101.out 0).trans rfl;have hcz5_1 : w4.cell? ⟨gb101,1,none⟩=some (.int .i64 a0_1):=(zz BK101.out 1).trans rfl;have hcz5_2 : w4.cell? ⟨gb101,2,none⟩=some (.string a0_2):=(zz BK101.out 2).trans rfl;have hfz5_0:=zA BK101.out 0;have hfz5_1:=zA BK101.out 1;have hfz5_2:=zA BK101.out 2))
  go_ret
  exact ⟨by first|rfl|(simp [yt,yu] <;> rfl)|(simp [*,yt,yu] <;> rfl),by repeat (with_reducible first|exact HB.out|apply za|apply zb|apply zc|refine zd ?_ GE101.out)⟩
 rw [if_neg c3] at H;have c3b0 : decide ((wrap64 (a1 - (a0_2.size : Int)))<0)=false:=decide_eq_false c3;clear c3;obtain rfl:=zU H
 go_enter Tryz.func64,Tryz.ntmps64
 go_wp2_with (first|((with_reducible refine zK (N:=2) rfl ?_);refine zI ?hg (N:=2) ?hd (cs:=#[.int .i64 a0_0,.int .i64 a0_1,.string a0_2]) (t:=77) ?hr ?_;(case hd => rfl);(case hg => rfl);(case hr => first|(go_simp;done)|(go_simp;rfl));intro gb101 hg w6 hbox hb;have BK101:=zh (hbox);have GW101:=zh ((by rw [hg];exact (zB (by repeat (with_reducible first|exact HB.out|apply za|apply zb|apply zc))) : w.heap.size≤gb101));have GE101:=zh ((by rw [hg];exact (zB (by repeat (with_reducible first|exact HB.out|apply za|apply zb|apply zc))) : w.heap.size≤gb101));replace HB:=zh (zC (by repeat (with_reducible first|exact HB.out|apply za|apply zb|apply zc)) hb);clear hb hbox hg;have hcz7_0 : w6.cell? ⟨gb101,0,none⟩=some (.int .i64 a0_0):=(zz BK101.out 0).trans rfl;have hcz7_1 : w6.cell? ⟨gb101,1,none⟩=some (.int .i64 a0_1):=(zz BK101.out 1).trans rfl;have hcz7_2 : w6.cell? ⟨gb101,2,none⟩=some (.string a0_2):=(zz BK101.out 2).trans rfl;have hfz7_0:=zA BK101.out 0;have hfz7_1:=zA BK101.out 1;have hfz7_2:=zA BK101.out 2))
 go_ret
 exact ⟨by first|rfl|(simp [yt,yu] <;> rfl)|(simp [*,yt,yu] <;> rfl),by repeat (with_reducible first|exact HB.out|apply za|apply zb|apply zc|refine zd ?_ GE101.out)⟩


def Fl.f (a0_0 : Int) (a0_1 : ByteArray) (a0_2 : Int) (a0_3 : Int) (a0_4 : ByteArray) (a1 : Int) : Option (Int):=if (wrap64 (a1 - (a0_1.size : Int)))<0 then (some (-1)) else ((F0v.f a0_2 a0_3 a0_4 (wrap64 (a1 - (a0_1.size : Int)))).bind fun t103 => (if t103<0 then (some (-1)) else (some t103)))
set_option maxHeartbeats 8000000 in
set_option maxRecDepth 100000 in
theorem Fl.calls (a0_0 : Int) (a0_1 : ByteArray) (a0_2 : Int) (a0_3 : Int) (a0_4 : ByteArray) (a1 : Int) (r : Int) (w : World) (h : Fl.f a0_0 a0_1 a0_2 a0_3 a0_4 a1=some r) :
  Calls Tryz.prog 51 #[.agg #[.int .i64 a0_0,.string a0_1,.int .i64 a0_2,.int .i64 a0_3,.string a0_4],.int .i64 a1] w fun e w' => e = .returned (.int .i64 r)∧Below w.heap.size w w':=by
 have hu79:=Tryz.underlying79;have hu77:=Tryz.underlying77;have HB:=zh (Below.refl w.heap.size w);have H : (if (wrap64 (a1 - (a0_1.size : Int)))<0 then (some (-1)) else ((F0v.f a0_2 a0_3 a0_4 (wrap64 (a1 - (a0_1.size : Int)))).bind fun t103 => (if t103<0 then (some (-1)) else (some t103))))=some r:=h;clear h
 by_cases c3 : (wrap64 (a1 - (a0_1.size : Int)))<0
 ·
  rw [if_pos c3] at H
  have c3b0 : decide ((wrap64 (a1 - (a0_1.size : Int)))<0)=true:=decide_eq_true c3;clear c3;obtain rfl:=zU H
  go_enter Tryz.func51,Tryz.ntmps51
  go_wp2_with (first|((with_reducible refine zK (N:=2) rfl ?_);refine zI ?hg (N:=2) ?hd (cs:=#[.int .i64 a0_0,.string a0_1,.int .i64 a0_2,.int .i64 a0_3,.string a0_4]) (t:=79) ?hr ?_;(case hd => rfl);(case hg => rfl);(case hr => first|(go_simp;done)|(go_simp;rfl));intro gb102 hg w4 hbox hb;have BK102:=zh (hbox);have GW102:=zh ((by rw [hg];exact (zB (by repeat (with_reducible first|exact HB.out|apply za|apply zb|apply zc))) : w.heap.size≤gb102));have GE102:=zh ((by rw [hg];exact (zB (by repeat (with_reducible first|exact HB.out|apply za|apply zb|apply zc))) : w.heap.size≤gb102));replace HB:=zh (zC (by repeat (with_reducible first|exact HB.out|apply za|apply zb|apply zc)) hb);clear hb hbox hg;have hcz5_0 : w4.cell? ⟨gb102,0,none⟩=some (.int .i64 a0_0):=(zz BK102.out 0).trans rfl;have hcz5_1 : w4.cell? ⟨gb102,1,none⟩=some (.string a0_1):=(zz BK102.out 1).trans rfl;have hcz5_2 : w4.cell? ⟨gb102,2,none⟩=some (.int .i64 a0_2):=(zz BK102.out 2).trans rfl;have hcz5_3 : w4.cell? ⟨gb102,3,none⟩=some (.int .i64 a0_3):=(zz BK102.out 3).trans rfl;have hcz5_4 : w4.cell? ⟨gb102,4,none⟩=some (.string a0_4):=(zz BK102.out 4).trans rfl;have hfz5_0:=zA BK102.out 0;have hfz5_1:=zA BK102.out 1;have hfz5_2:=zA BK102.out 2;have hfz5_3:=zA BK102.out 3;have hfz5_4:=zA BK102.out 4))
  go_ret
  exact ⟨by first|rfl|(simp [yt,yu] <;> rfl)|(simp [*,yt,yu] <;> rfl),by repeat (with_reducible first|exact HB.out|apply za|apply zb|apply zc|refine zd ?_ GE102.out)⟩
 rw [if_neg c3] at H;have c3b0 : decide ((wrap64 (a1 - (a0_1.size : Int)))<0)=false:=decide_eq_false c3;clear c3;replace H:=zT.mp H;obtain ⟨t103,A60,H⟩:=H;replace H : (if t103<0 then (some (-1)) else (some t103))=some r:=H;have A6:=zh A60;clear A60
 by_cases c7 : t103<0
 ·
  rw [if_pos c7] at H
  have c7b0 : decide (t103<0)=true:=decide_eq_true c7;clear c7;obtain rfl:=zU H
  go_enter Tryz.func51,Tryz.ntmps51
  go_wp2_with (first|((with_reducible refine zK (N:=2) rfl ?_);refine zI ?hg (N:=2) ?hd (cs:=#[.int .i64 a0_0,.string a0_1,.int .i64 a0_2,.int .i64 a0_3,.string a0_4]) (t:=79) ?hr ?_;(case hd => rfl);(case hg => rfl);(case hr => first|(go_simp;done)|(go_simp;rfl));intro gb102 hg w8 hbox hb;have BK102:=zh (hbox);have GW102:=zh ((by rw [hg];exact (zB (by repeat (with_reducible first|exact HB.out|apply za|apply zb|apply zc))) : w.heap.size≤gb102));have GE102:=zh ((by rw [hg];exact (zB (by repeat (with_reducible first|exact HB.out|apply za|apply zb|apply zc))) : w.heap.size≤gb102));replace HB:=zh (zC (by repeat (with_reducible first|exact HB.out|apply za|apply zb|apply zc)) hb);clear hb hbox hg;have hcz9_0 : w8.cell? ⟨gb102,0,none⟩=some (.int .i64 a0_0):=(zz BK102.out 0).trans rfl;have hcz9_1 : w8.cell? ⟨gb102,1,none⟩=some (.string a0_1):=(zz BK102.out 1).trans rfl;have hcz9_2 : w8.cell? ⟨gb102,2,none⟩=some (.int .i64 a0_2):=(zz BK102.out 2).trans rfl;have hcz9_3 : w8.cell? ⟨gb102,3,none⟩=some (.int .i64 a0_3):=(zz BK102.out 3).trans rfl;have hcz9_4 : w8.cell? ⟨gb102,4,none⟩=some (.string a0_4):=(zz BK102.out 4).trans rfl;have hfz9_0:=zA BK102.out 0;have hfz9_1:=zA BK102.out 1;have hfz9_2:=zA BK102.out 2;have hfz9_3:=zA BK102.out 3;have hfz9_4:=zA BK102.out 4)|((with_reducible refine zJ (f:=64) rfl ?_);refine yj (some 15) rfl rfl Tryz.func64 (by kernel_rfl) rfl #[.agg #[.int .i64 a0_2,.int .i64 a0_3,.string a0_4],.int .i64 (wrap64 (a1 - (a0_1.size : Int)))] rfl (by (try simp only [zt,zu,zv]);first|done|rfl|(simp only [zw,zx];rfl)|(simp only [yr,ys,zV,zW];rfl)) ?_;(with_reducible refine (F0v.calls  a0_2 a0_3 a0_4 (wrap64 (a1 - (a0_1.size : Int))) t103 _ A6.out).mono ?_);rintro e w10 ⟨rfl,hb⟩;refine ⟨_,rfl,?_⟩;replace BK102:=zh (zD (g:=gb102) (o:=.cells #[.int .i64 a0_0,.string a0_1,.int .i64 a0_2,.int .i64 a0_3,.string a0_4] 79 (0,0)) (by (with_reducible repeat (first|refine ze ?_ _|refine zf ?_|refine zg ?_ _));exact BK102.out) hb);replace HB:=zh (zC (by repeat (with_reducible first|exact HB.out|apply za|apply zb|apply zc|refine zd ?_ GE102.out)) hb);(try clear hb);(try clear hb2);(try clear hk);(try clear hi)))
  go_ret
  exact ⟨by first|rfl|(simp [yt,yu] <;> rfl)|(simp [*,yt,yu] <;> rfl),by repeat (with_reducible first|exact HB.out|apply za|apply zb|apply zc|refine zd ?_ GE102.out)⟩
 rw [if_neg c7] at H;have c7b0 : decide (t103<0)=false:=decide_eq_false c7;clear c7;obtain rfl:=zU H
 go_enter Tryz.func51,Tryz.ntmps51
 go_wp2_with (first|((with_reducible refine zK (N:=2) rfl ?_);refine zI ?hg (N:=2) ?hd (cs:=#[.int .i64 a0_0,.string a0_1,.int .i64 a0_2,.int .i64 a0_3,.string a0_4]) (t:=79) ?hr ?_;(case hd => rfl);(case hg => rfl);(case hr => first|(go_simp;done)|(go_simp;rfl));intro gb102 hg w11 hbox hb;have BK102:=zh (hbox);have GW102:=zh ((by rw [hg];exact (zB (by repeat (with_reducible first|exact HB.out|apply za|apply zb|apply zc))) : w.heap.size≤gb102));have GE102:=zh ((by rw [hg];exact (zB (by repeat (with_reducible first|exact HB.out|apply za|apply zb|apply zc))) : w.heap.size≤gb102));replace HB:=zh (zC (by repeat (with_reducible first|exact HB.out|apply za|apply zb|apply zc)) hb);clear hb hbox hg;have hcz12_0 : w11.cell? ⟨gb102,0,none⟩=some (.int .i64 a0_0):=(zz BK102.out 0).trans rfl;have hcz12_1 : w11.cell? ⟨gb102,1,none⟩=some (.string a0_1):=(zz BK102.out 1).trans rfl;have hcz12_2 : w11.cell? ⟨gb102,2,none⟩=some (.int .i64 a0_2):=(zz BK102.out 2).trans rfl;have hcz12_3 : w11.cell? ⟨gb102,3,none⟩=some (.int .i64 a0_3):=(zz BK102.out 3).trans rfl;have hcz12_4 : w11.cell? ⟨gb102,4,none⟩=some (.string a0_4):=(zz BK102.out 4).trans rfl;have hfz12_0:=zA BK102.out 0;have hfz12_1:=zA BK102.out 1;have hfz12_2:=zA BK102.out 2;have hfz12_3:=zA BK102.out 3;have hfz12_4:=zA BK102.out 4)|((with_reducible refine zJ (f:=64) rfl ?_);refine yj (some 15) rfl rfl Tryz.func64 (by kernel_rfl) rfl #[.agg #[.int .i64 a0_2,.int .i64 a0_3,.string a0_4],.int .i64 (wrap64 (a1 - (a0_1.size : Int)))] rfl (by (try simp only [zt,zu,zv]);first|done|rfl|(simp only [zw,zx];rfl)|(simp only [yr,ys,zV,zW];rfl)) ?_;(with_reducible refine (F0v.calls  a0_2 a0_3 a0_4 (wrap64 (a1 - (a0_1.size : Int))) t103 _ A6.out).mono ?_);rintro e w13 ⟨rfl,hb⟩;refine ⟨_,rfl,?_⟩;replace BK102:=zh (zD (g:=gb102) (o:=.cells #[.int .i64 a0_0,.string a0_1,.int .i64 a0_2,.int .i64 a0_3,.string a0_4] 79 (0,0)) (by (with_reducible repeat (first|refine ze ?_ _|refine zf ?_|refine zg ?_ _));exact BK102.out) hb);replace HB:=zh (zC (by repeat (with_reducible first|exact HB.out|apply za|apply zb|apply zc|refine zd ?_ GE102.out)) hb);(try clear hb);(try clear hb2);(try clear hk);(try clear hi)))
 go_ret
 exact ⟨by first|rfl|(simp [yt,yu] <;> rfl)|(simp [*,yt,yu] <;> rfl),by repeat (with_reducible first|exact HB.out|apply za|apply zb|apply zc|refine zd ?_ GE102.out)⟩


def Fz.l0 : Nat→List (S79)→Int→Int→Option (Int)
 | 0,_,_,_ => none
 | k + 1,x0,x1,x5 => if x5<(x0.length : Int) then (if 0≤x5 then ((Fl.f ((rd_T79 x0 x5).f0) ((rd_T79 x0 x5).f1) ((rd_T79 x0 x5).f2.f0) ((rd_T79 x0 x5).f2.f1) ((rd_T79 x0 x5).f2.f2) x1).bind fun t105 => (if t105<0 then (some (-1)) else (Fz.l0 k x0 t105 (wrap64 (x5 + 1))))) else (none)) else (some x1)
def Fz.f (k : Nat) (l0 : List (S79)) (a1 : Int) : Option (Int):=if (wrap64 (a1 - (l0.length : Int)))<0 then (some (-1)) else (Fz.l0 k l0 (wrap64 (a1 - (l0.length : Int))) 0)
theorem Fz.mono_l : ∀ k,(∀ y0 y1 y2,LeO (Fz.l0 k y0 y1 y2) (Fz.l0 (k + 1) y0 y1 y2))
 | 0 => fun _ _ _ r h => by simp [Fz.l0] at h
 | k + 1 => by
  have ih0:=Fz.mono_l k;intro y0 y1 y2;unfold Fz.l0
  repeat' first|(with_reducible first|exact ih0 _ _ _|exact zQ _|exact zN _|refine zP ?_ ?_|refine zO ?_ (fun _ => ?_))|refine zP ?_ ?_|refine zO ?_ (fun _ => ?_)
theorem Fz.mono : ∀ a0 a1 k,LeO (Fz.f k a0 a1) (Fz.f (k + 1) a0 a1):=by
 intro a0 a1 k;have ih0:=Fz.mono_l k;unfold Fz.f
 repeat' first|(with_reducible first|exact ih0 _ _ _|exact zQ _|exact zN _|refine zP ?_ ?_|refine zO ?_ (fun _ => ?_))|refine zP ?_ ?_|refine zO ?_ (fun _ => ?_)
set_option maxHeartbeats 8000000 in
set_option maxRecDepth 100000 in
theorem Fz.calls (k : Nat) (A0 : Option Addr) (c0 : Nat) (l0 : List (S79)) (a1 : Int) (r : Int) (w : World) (hr0 : Kd.C k79 w A0 l0.length l0) (hc0 : l0.length≤c0) (h : Fz.f k l0 a1=some r) :
  Calls Tryz.prog 39 #[.slice A0 l0.length c0,.int .i64 a1] w fun e w' => e = .returned (.int .i64 r)∧Below w.heap.size w w':=by
 have hu79:=Tryz.underlying79;have HR0:=zh hr0;have HC0:=zh hc0;clear hr0 hc0;have HB:=zh (Below.refl w.heap.size w);have H : (if (wrap64 (a1 - (l0.length : Int)))<0 then (some (-1)) else (Fz.l0 k l0 (wrap64 (a1 - (l0.length : Int))) 0))=some r:=h;clear h
 by_cases c3 : (wrap64 (a1 - (l0.length : Int)))<0
 ·
  rw [if_pos c3] at H
  have c3b0 : decide ((wrap64 (a1 - (l0.length : Int)))<0)=true:=decide_eq_true c3;clear c3;obtain rfl:=zU H
  go_enter Tryz.func39,Tryz.ntmps39
  go_wp2
  go_ret
  exact ⟨by first|rfl|(simp [yt,yu] <;> rfl)|(simp [*,yt,yu] <;> rfl),by repeat (with_reducible first|exact HB.out|apply za|apply zb|apply zc)⟩
 rw [if_neg c3] at H;have c3b0 : decide ((wrap64 (a1 - (l0.length : Int)))<0)=false:=decide_eq_false c3;clear c3;have H':=zh H;clear H
 go_enter Tryz.func39,Tryz.ntmps39
 go_wp2
 go_loopg [1,5] k (fun kq v1 v5 w' => ∃ (x1_1 : Int) (x5_1 : Int),v1 = .int .i64 x1_1∧v5 = .int .i64 x5_1∧Aside0 (Fz.l0 kq l0 x1_1 x5_1=some r)∧Aside0 (kq≤k)∧Aside0 (Below w.heap.size w w'))
 case atStart => exact ⟨(wrap64 (a1 - (l0.length : Int))),(0),(by first|rfl|(simp;done)|(simp [*];done)),(by first|rfl|(simp;done)|(simp [*];done)),H',⟨ye _⟩,⟨by repeat (with_reducible first|exact HB.out|apply za|apply zb|apply zc)⟩⟩
 case round =>
  clear H'
  try clear p2
  try clear c3
  try clear c3b0
  obtain ⟨x1_1,x5_1,rfl,rfl,HA,HK1,HB⟩:=hrel
  cases gk with
  | zero => exact absurd HA.out (by simp [Fz.l0])
  | succ k1 =>
   have H:=HA.out;clear HA;simp only [Fz.l0] at H
   by_cases c4 : x5_1<(l0.length : Int)
   ·
    rw [if_pos c4] at H
    have c4b0 : decide (x5_1<(l0.length : Int))=true:=decide_eq_true c4;clear c4
    by_cases c5 : 0≤x5_1
    ·
     rw [if_pos c5] at H
     have c5b0 : decide (0≤x5_1)=true:=decide_eq_true c5;clear c5;replace H:=zT.mp H;obtain ⟨t105,A60,H⟩:=H;replace H : (if t105<0 then (some (-1)) else (Fz.l0 k1 l0 t105 (wrap64 (x5_1 + 1))))=some r:=H;have A6:=zh A60;clear A60
     by_cases c7 : t105<0
     ·
      rw [if_pos c7] at H
      have c7b0 : decide (t105<0)=true:=decide_eq_true c7;clear c7;obtain rfl:=zU H;have p104 : 0≤(x5_1 : Int):=zy (by first|(with_reducible assumption)|assumption);have q104 : x5_1<(l0.length : Int):=zy (by first|(with_reducible assumption)|assumption);obtain ⟨ad104,e104,hx104_0,hx104_1,hx104_2,hx104_3,hx104_4⟩:=at_T79 HR0.out x5_1 p104 q104
      cases e104
      replace hx104_0:=(HB.out.cell (zl w _ hx104_0)).trans hx104_0;replace hx104_1:=(HB.out.cell (zl w _ hx104_1)).trans hx104_1;replace hx104_2:=(HB.out.cell (zl w _ hx104_2)).trans hx104_2;replace hx104_3:=(HB.out.cell (zl w _ hx104_3)).trans hx104_3;replace hx104_4:=(HB.out.cell (zl w _ hx104_4)).trans hx104_4;replace p104:=eq_true p104;replace q104:=eq_true q104
      go_wp2_with (first|((with_reducible refine zJ (f:=51) rfl ?_);refine yj (some 23) rfl rfl Tryz.func51 (by kernel_rfl) rfl #[.agg #[.int .i64 ((rd_T79 l0 x5_1).f0),.string ((rd_T79 l0 x5_1).f1),.int .i64 ((rd_T79 l0 x5_1).f2.f0),.int .i64 ((rd_T79 l0 x5_1).f2.f1),.string ((rd_T79 l0 x5_1).f2.f2)],.int .i64 x1_1] rfl (by (try simp only [zt,zu,zv]);first|done|rfl|(simp only [zw,zx];rfl)|(simp only [yr,ys,zV,zW];rfl)) ?_;(with_reducible refine (Fl.calls  ((rd_T79 l0 x5_1).f0) ((rd_T79 l0 x5_1).f1) ((rd_T79 l0 x5_1).f2.f0) ((rd_T79 l0 x5_1).f2.f1) ((rd_T79 l0 x5_1).f2.f2) x1_1 t105 _ A6.out).mono ?_);rintro e w8 ⟨rfl,hb⟩;refine ⟨_,rfl,?_⟩;replace HB:=zh (zC (by repeat (with_reducible first|exact HB.out|apply za|apply zb|apply zc)) hb);(try clear hb);(try clear hb2);(try clear hk);(try clear hi)))
      go_ret
      exact ⟨by first|rfl|(simp [yt,yu] <;> rfl)|(simp [*,yt,yu] <;> rfl),by repeat (with_reducible first|exact HB.out|apply za|apply zb|apply zc)⟩
     rw [if_neg c7] at H;have c7b0 : decide (t105<0)=false:=decide_eq_false c7;clear c7;have H':=zh H;clear H;have p104 : 0≤(x5_1 : Int):=zy (by first|(with_reducible assumption)|assumption);have q104 : x5_1<(l0.length : Int):=zy (by first|(with_reducible assumption)|assumption);obtain ⟨ad104,e104,hx104_0,hx104_1,hx104_2,hx104_3,hx104_4⟩:=at_T79 HR0.out x5_1 p104 q104
     cases e104
     replace hx104_0:=(HB.out.cell (zl w _ hx104_0)).trans hx104_0;replace hx104_1:=(HB.out.cell (zl w _ hx104_1)).trans hx104_1;replace hx104_2:=(HB.out.cell (zl w _ hx104_2)).trans hx104_2;replace hx104_3:=(HB.out.cell (zl w _ hx104_3)).trans hx104_3;replace hx104_4:=(HB.out.cell (zl w _ hx104_4)).trans hx104_4;replace p104:=eq_true p104;replace q104:=eq_true q104
     go_wp2_with (first|((with_reducible refine zJ (f:=51) rfl ?_);refine yj (some 23) rfl rfl Tryz.func51 (by kernel_rfl) rfl #[.agg #[.int .i64 ((rd_T79 l0 x5_1).f0),.string ((rd_T79 l0 x5_1).f1),.int .i64 ((rd_T79 l0 x5_1).f2.f0),.int .i64 ((rd_T79 l0 x5_1).f2.f1),.string ((rd_T79 l0 x5_1).f2.f2)],.int .i64 x1_1] rfl (by (try simp only [zt,zu,zv]);first|done|rfl|(simp only [zw,zx];rfl)|(simp only [yr,ys,zV,zW];rfl)) ?_;(with_reducible refine (Fl.calls  ((rd_T79 l0 x5_1).f0) ((rd_T79 l0 x5_1).f1) ((rd_T79 l0 x5_1).f2.f0) ((rd_T79 l0 x5_1).f2.f1) ((rd_T79 l0 x5_1).f2.f2) x1_1 t105 _ A6.out).mono ?_);rintro e w9 ⟨rfl,hb⟩;refine ⟨_,rfl,?_⟩;replace HB:=zh (zC (by repeat (with_reducible first|exact HB.out|apply za|apply zb|apply zc)) hb);(try clear hb);(try clear hb2);(try clear hk);(try clear hi)))
     go_roundg k1
     case measure => have:=HK1.out;omega
     case rel => exact ⟨(t105),(wrap64 (x5_1 + 1)),(by first|rfl|(simp;done)|(simp [*];done)),(by first|rfl|(simp;done)|(simp [*];done)),H',⟨by have:=HK1.out;omega⟩,⟨by repeat (with_reducible first|exact HB.out|apply za|apply zb|apply zc)⟩⟩
    rw [if_neg c5] at H;exact absurd H (by simp)
   rw [if_neg c4] at H;have c4b0 : decide (x5_1<(l0.length : Int))=false:=decide_eq_false c4;clear c4;obtain rfl:=zU H
   go_wp2
   go_ret
   exact ⟨by first|rfl|(simp [yt,yu] <;> rfl)|(simp [*,yt,yu] <;> rfl),by repeat (with_reducible first|exact HB.out|apply za|apply zb|apply zc)⟩


def Fe.f (k : Nat) (l0_0 : List (S79)) (a1 : Int) : Option (Int):=(Fz.f k l0_0 a1).bind fun t107 => (if t107<0 then (some (-1)) else (some t107))
theorem Fe.mono : ∀ a0 a1 k,LeO (Fe.f k a0 a1) (Fe.f (k + 1) a0 a1):=by
 intro a0 a1 k;unfold Fe.f
 repeat' first|(with_reducible first|exact Fz.mono _ _ _|exact zQ _|exact zN _|refine zP ?_ ?_|refine zO ?_ (fun _ => ?_))|refine zP ?_ ?_|refine zO ?_ (fun _ => ?_)
set_option maxHeartbeats 8000000 in
set_option maxRecDepth 100000 in
theorem Fe.calls (k : Nat) (A0_0 : Option Addr) (c0_0 : Nat) (l0_0 : List (S79)) (a1 : Int) (r : Int) (w : World) (hr0_0 : Kd.C k79 w A0_0 l0_0.length l0_0) (hc0_0 : l0_0.length≤c0_0) (h : Fe.f k l0_0 a1=some r) :
  Calls Tryz.prog 28 #[.agg #[.slice A0_0 l0_0.length c0_0],.int .i64 a1] w fun e w' => e = .returned (.int .i64 r)∧Below w.heap.size w w':=by
 have hu61:=Tryz.underlying61;have HR0_0:=zh hr0_0;have HC0_0:=zh hc0_0;clear hr0_0 hc0_0;have HB:=zh (Below.refl w.heap.size w);have H : ((Fz.f k l0_0 a1).bind fun t107 => (if t107<0 then (some (-1)) else (some t107)))=some r:=h;clear h;replace H:=zT.mp H;obtain ⟨t107,A30,H⟩:=H;replace H : (if t107<0 then (some (-1)) else (some t107))=some r:=H;have A3:=zh A30;clear A30
 by_cases c4 : t107<0
 ·
  rw [if_pos c4] at H
  have c4b0 : decide (t107<0)=true:=decide_eq_true c4;clear c4;obtain rfl:=zU H
  go_enter Tryz.func28,Tryz.ntmps28
  go_wp2_with (first|((with_reducible refine zK (N:=2) rfl ?_);refine zI ?hg (N:=2) ?hd (cs:=#[.slice A0_0 l0_0.length c0_0]) (t:=61) ?hr ?_;(case hd => rfl);(case hg => rfl);(case hr => first|(go_simp;done)|(go_simp;rfl));intro gb106 hg w5 hbox hb;have BK106:=zh (hbox);have GW106:=zh ((by rw [hg];exact (zB (by repeat (with_reducible first|exact HB.out|apply za|apply zb|apply zc))) : w.heap.size≤gb106));have GE106:=zh ((by rw [hg];exact (zB (by repeat (with_reducible first|exact HB.out|apply za|apply zb|apply zc))) : w.heap.size≤gb106));replace HB:=zh (zC (by repeat (with_reducible first|exact HB.out|apply za|apply zb|apply zc)) hb);clear hb hbox hg;have hcz6_0 : w5.cell? ⟨gb106,0,none⟩=some (.slice A0_0 l0_0.length c0_0):=(zz BK106.out 0).trans rfl;have hfz6_0:=zA BK106.out 0)|((with_reducible refine zJ (f:=39) rfl ?_);refine yj (some 8) rfl rfl Tryz.func39 (by kernel_rfl) rfl #[.slice A0_0 l0_0.length c0_0,.int .i64 a1] rfl (by (try simp only [zt,zu,zv]);first|done|rfl|(simp only [zw,zx];rfl)|(simp only [yr,ys,zV,zW];rfl)) ?_;(with_reducible refine (Fz.calls k  _ _ l0_0 a1 t107 _ ?side1 ?side2 A3.out).mono ?_);(case side1 => repeat (first|exact (Kd.C_below HR0_0.out HB.out)|(with_reducible refine Kd.C_alloc ?_ _)|(with_reducible refine Kd.C_drewN ?_ _)|(with_reducible refine Kd.C_drew ?_)));(case side2 => exact HC0_0.out);rintro e w7 ⟨rfl,hb⟩;refine ⟨_,rfl,?_⟩;replace BK106:=zh (zD (g:=gb106) (o:=.cells #[.slice A0_0 l0_0.length c0_0] 61 (0,0)) (by (with_reducible repeat (first|refine ze ?_ _|refine zf ?_|refine zg ?_ _));exact BK106.out) hb);replace HB:=zh (zC (by repeat (with_reducible first|exact HB.out|apply za|apply zb|apply zc|refine zd ?_ GE106.out)) hb);(try clear hb);(try clear hb2);(try clear hk);(try clear hi)))
  go_ret
  exact ⟨by first|rfl|(simp [yt,yu] <;> rfl)|(simp [*,yt,yu] <;> rfl),by repeat (with_reducible first|exact HB.out|apply za|apply zb|apply zc|refine zd ?_ GE106.out)⟩
 rw [if_neg c4] at H;have c4b0 : decide (t107<0)=false:=decide_eq_false c4;clear c4;obtain rfl:=zU H
 go_enter Tryz.func28,Tryz.ntmps28
 go_wp2_with (first|((with_reducible refine zK (N:=2) rfl ?_);refine zI ?hg (N:=2) ?hd (cs:=#[.slice A0_0 l0_0.length c0_0]) (t:=61) ?hr ?_;(case hd => rfl);(case hg => rfl);(case hr => first|(go_simp;done)|(go_simp;rfl));intro gb106 hg w8 hbox hb;have BK106:=zh (hbox);have GW106:=zh ((by rw [hg];exact (zB (by repeat (with_reducible first|exact HB.out|apply za|apply zb|apply zc))) : w.heap.size≤gb106));have GE106:=zh ((by rw [hg];exact (zB (by repeat (with_reducible first|exact HB.out|apply za|apply zb|apply zc))) : w.heap.size≤gb106));replace HB:=zh (zC (by repeat (with_reducible first|exact HB.out|apply za|apply zb|apply zc)) hb);clear hb hbox hg;have hcz9_0 : w8.cell? ⟨gb106,0,none⟩=some (.slice A0_0 l0_0.length c0_0):=(zz BK106.out 0).trans rfl;have hfz9_0:=zA BK106.out 0)|((with_reducible refine zJ (f:=39) rfl ?_);refine yj (some 8) rfl rfl Tryz.func39 (by kernel_rfl) rfl #[.slice A0_0 l0_0.length c0_0,.int .i64 a1] rfl (by (try simp only [zt,zu,zv]);first|done|rfl|(simp only [zw,zx];rfl)|(simp only [yr,ys,zV,zW];rfl)) ?_;(with_reducible refine (Fz.calls k  _ _ l0_0 a1 t107 _ ?side1 ?side2 A3.out).mono ?_);(case side1 => repeat (first|exact (Kd.C_below HR0_0.out HB.out)|(with_reducible refine Kd.C_alloc ?_ _)|(with_reducible refine Kd.C_drewN ?_ _)|(with_reducible refine Kd.C_drew ?_)));(case side2 => exact HC0_0.out);rintro e w10 ⟨rfl,hb⟩;refine ⟨_,rfl,?_⟩;replace BK106:=zh (zD (g:=gb106) (o:=.cells #[.slice A0_0 l0_0.length c0_0] 61 (0,0)) (by (with_reducible repeat (first|refine ze ?_ _|refine zf ?_|refine zg ?_ _));exact BK106.out) hb);replace HB:=zh (zC (by repeat (with_reducible first|exact HB.out|apply za|apply zb|apply zc|refine zd ?_ GE106.out)) hb);(try clear hb);(try clear hb2);(try clear hk);(try clear hi)))
 go_ret
 exact ⟨by first|rfl|(simp [yt,yu] <;> rfl)|(simp [*,yt,yu] <;> rfl),by repeat (with_reducible first|exact HB.out|apply za|apply zb|apply zc|refine zd ?_ GE106.out)⟩


def Fy.l0 : Nat→List (S61)→Int→Int→Option (Int)
 | 0,_,_,_ => none
 | k + 1,x0,x1,x5 => if x5<(x0.length : Int) then (if 0≤x5 then ((Fe.f k ((rd_T61 x0 x5).f0) x1).bind fun t109 => (if t109<0 then (some (-1)) else (Fy.l0 k x0 t109 (wrap64 (x5 + 1))))) else (none)) else (some x1)
def Fy.f (k : Nat) (l0 : List (S61)) (a1 : Int) : Option (Int):=if (wrap64 (a1 - (l0.length : Int)))<0 then (some (-1)) else (Fy.l0 k l0 (wrap64 (a1 - (l0.length : Int))) 0)
theorem Fy.mono_l : ∀ k,(∀ y0 y1 y2,LeO (Fy.l0 k y0 y1 y2) (Fy.l0 (k + 1) y0 y1 y2))
 | 0 => fun _ _ _ r h => by simp [Fy.l0] at h
 | k + 1 => by
  have ih0:=Fy.mono_l k;intro y0 y1 y2;unfold Fy.l0
  repeat' first|(with_reducible first|exact ih0 _ _ _|exact Fe.mono _ _ _|exact zQ _|exact zN _|refine zP ?_ ?_|refine zO ?_ (fun _ => ?_))|refine zP ?_ ?_|refine zO ?_ (fun _ => ?_)
theorem Fy.mono : ∀ a0 a1 k,LeO (Fy.f k a0 a1) (Fy.f (k + 1) a0 a1):=by
 intro a0 a1 k;have ih0:=Fy.mono_l k;unfold Fy.f
 repeat' first|(with_reducible first|exact ih0 _ _ _|exact Fe.mono _ _ _|exact zQ _|exact zN _|refine zP ?_ ?_|refine zO ?_ (fun _ => ?_))|refine zP ?_ ?_|refine zO ?_ (fun _ => ?_)
set_option maxHeartbeats 8000000 in
set_option maxRecDepth 100000 in
theorem Fy.calls (k : Nat) (A0 : Option Addr) (c0 : Nat) (l0 : List (S61)) (a1 : Int) (r : Int) (w : World) (hr0 : Kd.C k61 w A0 l0.length l0) (hc0 : l0.length≤c0) (h : Fy.f k l0 a1=some r) :
  Calls Tryz.prog 15 #[.slice A0 l0.length c0,.int .i64 a1] w fun e w' => e = .returned (.int .i64 r)∧Below w.heap.size w w':=by
 have hu61:=Tryz.underlying61;have HR0:=zh hr0;have HC0:=zh hc0;clear hr0 hc0;have HB:=zh (Below.refl w.heap.size w);have H : (if (wrap64 (a1 - (l0.length : Int)))<0 then (some (-1)) else (Fy.l0 k l0 (wrap64 (a1 - (l0.length : Int))) 0))=some r:=h;clear h
 by_cases c3 : (wrap64 (a1 - (l0.length : Int)))<0
 ·
  rw [if_pos c3] at H
  have c3b0 : decide ((wrap64 (a1 - (l0.length : Int)))<0)=true:=decide_eq_true c3;clear c3;obtain rfl:=zU H
  go_enter Tryz.func15,Tryz.ntmps15
  go_wp2
  go_ret
  exact ⟨by first|rfl|(simp [yt,yu] <;> rfl)|(simp [*,yt,yu] <;> rfl),by repeat (with_reducible first|exact HB.out|apply za|apply zb|apply zc)⟩
 rw [if_neg c3] at H;have c3b0 : decide ((wrap64 (a1 - (l0.length : Int)))<0)=false:=decide_eq_false c3;clear c3;have H':=zh H;clear H
 go_enter Tryz.func15,Tryz.ntmps15
 go_wp2
 go_loopg [1,5] k (fun kq v1 v5 w' => ∃ (x1_1 : Int) (x5_1 : Int),v1 = .int .i64 x1_1∧v5 = .int .i64 x5_1∧Aside0 (Fy.l0 kq l0 x1_1 x5_1=some r)∧Aside0 (kq≤k)∧Aside0 (Below w.heap.size w w'))
 case atStart => exact ⟨(wrap64 (a1 - (l0.length : Int))),(0),(by first|rfl|(simp;done)|(simp [*];done)),(by first|rfl|(simp;done)|(simp [*];done)),H',⟨ye _⟩,⟨by repeat (with_reducible first|exact HB.out|apply za|apply zb|apply zc)⟩⟩
 case round =>
  clear H'
  try clear c1
  try clear p2
  try clear c3
  try clear c3b0
  obtain ⟨x1_1,x5_1,rfl,rfl,HA,HK1,HB⟩:=hrel
  cases gk with
  | zero => exact absurd HA.out (by simp [Fy.l0])
  | succ k1 =>
   have H:=HA.out;clear HA;simp only [Fy.l0] at H
   by_cases c4 : x5_1<(l0.length : Int)
   ·
    rw [if_pos c4] at H
    have c4b0 : decide (x5_1<(l0.length : Int))=true:=decide_eq_true c4;clear c4
    by_cases c5 : 0≤x5_1
    ·
     rw [if_pos c5] at H
     have c5b0 : decide (0≤x5_1)=true:=decide_eq_true c5;clear c5;replace H:=zT.mp H;obtain ⟨t109,A60,H⟩:=H;replace H : (if t109<0 then (some (-1)) else (Fy.l0 k1 l0 t109 (wrap64 (x5_1 + 1))))=some r:=H;have A6:=zh A60;clear A60
     by_cases c7 : t109<0
     ·
      rw [if_pos c7] at H
      have c7b0 : decide (t109<0)=true:=decide_eq_true c7;clear c7;obtain rfl:=zU H;have p108 : 0≤(x5_1 : Int):=zy (by first|(with_reducible assumption)|assumption);have q108 : x5_1<(l0.length : Int):=zy (by first|(with_reducible assumption)|assumption);obtain ⟨ad108,A108_0,c108_0,e108,hx108_0,hl108_0,hi108_0⟩:=at_T61 HR0.out x5_1 p108 q108
      cases e108
      replace hx108_0:=(HB.out.cell (zl w _ hx108_0)).trans hx108_0;have HR108_0:=zh hi108_0;have HC108_0:=zh hl108_0;clear hi108_0 hl108_0;replace p108:=eq_true p108;replace q108:=eq_true q108
      go_wp2_with (first|((with_reducible refine zJ (f:=28) rfl ?_);refine yj (some 23) rfl rfl Tryz.func28 (by kernel_rfl) rfl #[.agg #[.slice A108_0 ((rd_T61 l0 x5_1).f0).length c108_0],.int .i64 x1_1] rfl (by (try simp only [zt,zu,zv]);first|done|rfl|(simp only [zw,zx];rfl)|(simp only [yr,ys,zV,zW];rfl)) ?_;(with_reducible refine (Fe.calls k1  _ _ ((rd_T61 l0 x5_1).f0) x1_1 t109 _ ?side1 ?side2 A6.out).mono ?_);(case side1 => repeat (first|exact (Kd.C_below HR108_0.out HB.out)|(with_reducible refine Kd.C_alloc ?_ _)|(with_reducible refine Kd.C_drewN ?_ _)|(with_reducible refine Kd.C_drew ?_)));(case side2 => exact HC108_0.out);rintro e w8 ⟨rfl,hb⟩;refine ⟨_,rfl,?_⟩;replace HB:=zh (zC (by repeat (with_reducible first|exact HB.out|apply za|apply zb|apply zc)) hb);(try clear hb);(try clear hb2);(try clear hk);(try clear hi)))
      go_ret
      exact ⟨by first|rfl|(simp [yt,yu] <;> rfl)|(simp [*,yt,yu] <;> rfl),by repeat (with_reducible first|exact HB.out|apply za|apply zb|apply zc)⟩
     rw [if_neg c7] at H;have c7b0 : decide (t109<0)=false:=decide_eq_false c7;clear c7;have H':=zh H;clear H;have p108 : 0≤(x5_1 : Int):=zy (by first|(with_reducible assumption)|assumption);have q108 : x5_1<(l0.length : Int):=zy (by first|(with_reducible assumption)|assumption);obtain ⟨ad108,A108_0,c108_0,e108,hx108_0,hl108_0,hi108_0⟩:=at_T61 HR0.out x5_1 p108 q108
     cases e108
     replace hx108_0:=(HB.out.cell (zl w _ hx108_0)).trans hx108_0;have HR108_0:=zh hi108_0;have HC108_0:=zh hl108_0;clear hi108_0 hl108_0;replace p108:=eq_true p108;replace q108:=eq_true q108
     go_wp2_with (first|((with_reducible refine zJ (f:=28) rfl ?_);refine yj (some 23) rfl rfl Tryz.func28 (by kernel_rfl) rfl #[.agg #[.slice A108_0 ((rd_T61 l0 x5_1).f0).length c108_0],.int .i64 x1_1] rfl (by (try simp only [zt,zu,zv]);first|done|rfl|(simp only [zw,zx];rfl)|(simp only [yr,ys,zV,zW];rfl)) ?_;(with_reducible refine (Fe.calls k1  _ _ ((rd_T61 l0 x5_1).f0) x1_1 t109 _ ?side1 ?side2 A6.out).mono ?_);(case side1 => repeat (first|exact (Kd.C_below HR108_0.out HB.out)|(with_reducible refine Kd.C_alloc ?_ _)|(with_reducible refine Kd.C_drewN ?_ _)|(with_reducible refine Kd.C_drew ?_)));(case side2 => exact HC108_0.out);rintro e w9 ⟨rfl,hb⟩;refine ⟨_,rfl,?_⟩;replace HB:=zh (zC (by repeat (with_reducible first|exact HB.out|apply za|apply zb|apply zc)) hb);(try clear hb);(try clear hb2);(try clear hk);(try clear hi)))
     go_roundg k1
     case measure => have:=HK1.out;omega
     case rel => exact ⟨(t109),(wrap64 (x5_1 + 1)),(by first|rfl|(simp;done)|(simp [*];done)),(by first|rfl|(simp;done)|(simp [*];done)),H',⟨by have:=HK1.out;omega⟩,⟨by repeat (with_reducible first|exact HB.out|apply za|apply zb|apply zc)⟩⟩
    rw [if_neg c5] at H;exact absurd H (by simp)
   rw [if_neg c4] at H;have c4b0 : decide (x5_1<(l0.length : Int))=false:=decide_eq_false c4;clear c4;obtain rfl:=zU H
   go_wp2
   go_ret
   exact ⟨by first|rfl|(simp [yt,yu] <;> rfl)|(simp [*,yt,yu] <;> rfl),by repeat (with_reducible first|exact HB.out|apply za|apply zb|apply zc)⟩


def F0i.f (k : Nat) (l0_0 : List (S61)) (a1 : Int) : Option (Int):=(Fy.f k l0_0 a1).bind fun t111 => (if t111<0 then (some (-1)) else (some t111))
theorem F0i.mono : ∀ a0 a1 k,LeO (F0i.f k a0 a1) (F0i.f (k + 1) a0 a1):=by
 intro a0 a1 k;unfold F0i.f
 repeat' first|(with_reducible first|exact Fy.mono _ _ _|exact zQ _|exact zN _|refine zP ?_ ?_|refine zO ?_ (fun _ => ?_))|refine zP ?_ ?_|refine zO ?_ (fun _ => ?_)
set_option maxHeartbeats 8000000 in
set_option maxRecDepth 100000 in
theorem F0i.calls (k : Nat) (A0_0 : Option Addr) (c0_0 : Nat) (l0_0 : List (S61)) (a1 : Int) (r : Int) (w : World) (hr0_0 : Kd.C k61 w A0_0 l0_0.length l0_0) (hc0_0 : l0_0.length≤c0_0) (h : F0i.f k l0_0 a1=some r) :
  Calls Tryz.prog 5 #[.agg #[.slice A0_0 l0_0.length c0_0],.int .i64 a1] w fun e w' => e = .returned (.int .i64 r)∧Below w.heap.size w w':=by
 have hu24:=Tryz.underlying24;have HR0_0:=zh hr0_0;have HC0_0:=zh hc0_0;clear hr0_0 hc0_0;have HB:=zh (Below.refl w.heap.size w);have H : ((Fy.f k l0_0 a1).bind fun t111 => (if t111<0 then (some (-1)) else (some t111)))=some r:=h;clear h;replace H:=zT.mp H;obtain ⟨t111,A30,H⟩:=H;replace H : (if t111<0 then (some (-1)) else (some t111))=some r:=H;have A3:=zh A30;clear A30
 by_cases c4 : t111<0
 ·
  rw [if_pos c4] at H
  have c4b0 : decide (t111<0)=true:=decide_eq_true c4;clear c4;obtain rfl:=zU H
  go_enter Tryz.func5,Tryz.ntmps5
  go_wp2_with (first|((with_reducible refine zK (N:=2) rfl ?_);refine zI ?hg (N:=2) ?hd (cs:=#[.slice A0_0 l0_0.length c0_0]) (t:=24) ?hr ?_;(case hd => rfl);(case hg => rfl);(case hr => first|(go_simp;done)|(go_simp;rfl));intro gb110 hg w5 hbox hb;have BK110:=zh (hbox);have GW110:=zh ((by rw [hg];exact (zB (by repeat (with_reducible first|exact HB.out|apply za|apply zb|apply zc))) : w.heap.size≤gb110));have GE110:=zh ((by rw [hg];exact (zB (by repeat (with_reducible first|exact HB.out|apply za|apply zb|apply zc))) : w.heap.size≤gb110));replace HB:=zh (zC (by repeat (with_reducible first|exact HB.out|apply za|apply zb|apply zc)) hb);clear hb hbox hg;have hcz6_0 : w5.cell? ⟨gb110,0,none⟩=some (.slice A0_0 l0_0.length c0_0):=(zz BK110.out 0).trans rfl;have hfz6_0:=zA BK110.out 0)|((with_reducible refine zJ (f:=15) rfl ?_);refine yj (some 8) rfl rfl Tryz.func15 (by kernel_rfl) rfl #[.slice A0_0 l0_0.length c0_0,.int .i64 a1] rfl (by (try simp only [zt,zu,zv]);first|done|rfl|(simp only [zw,zx];rfl)|(simp only [yr,ys,zV,zW];rfl)) ?_;(with_reducible refine (Fy.calls k  _ _ l0_0 a1 t111 _ ?side1 ?side2 A3.out).mono ?_);(case side1 => repeat (first|exact (Kd.C_below HR0_0.out HB.out)|(with_reducible refine Kd.C_alloc ?_ _)|(with_reducible refine Kd.C_drewN ?_ _)|(with_reducible refine Kd.C_drew ?_)));(case side2 => exact HC0_0.out);rintro e w7 ⟨rfl,hb⟩;refine ⟨_,rfl,?_⟩;replace BK110:=zh (zD (g:=gb110) (o:=.cells #[.slice A0_0 l0_0.length c0_0] 24 (0,0)) (by (with_reducible repeat (first|refine ze ?_ _|refine zf ?_|refine zg ?_ _));exact BK110.out) hb);replace HB:=zh (zC (by repeat (with_reducible first|exact HB.out|apply za|apply zb|apply zc|refine zd ?_ GE110.out)) hb);(try clear hb);(try clear hb2);(try clear hk);(try clear hi)))
  go_ret
  exact ⟨by first|rfl|(simp [yt,yu] <;> rfl)|(simp [*,yt,yu] <;> rfl),by repeat (with_reducible first|exact HB.out|apply za|apply zb|apply zc|refine zd ?_ GE110.out)⟩
 rw [if_neg c4] at H;have c4b0 : decide (t111<0)=false:=decide_eq_false c4;clear c4;obtain rfl:=zU H
 go_enter Tryz.func5,Tryz.ntmps5
 go_wp2_with (first|((with_reducible refine zK (N:=2) rfl ?_);refine zI ?hg (N:=2) ?hd (cs:=#[.slice A0_0 l0_0.length c0_0]) (t:=24) ?hr ?_;(case hd => rfl);(case hg => rfl);(case hr => first|(go_simp;done)|(go_simp;rfl));intro gb110 hg w8 hbox hb;have BK110:=zh (hbox);have GW110:=zh ((by rw [hg];exact (zB (by repeat (with_reducible first|exact HB.out|apply za|apply zb|apply zc))) : w.heap.size≤gb110));have GE110:=zh ((by rw [hg];exact (zB (by repeat (with_reducible first|exact HB.out|apply za|apply zb|apply zc))) : w.heap.size≤gb110));replace HB:=zh (zC (by repeat (with_reducible first|exact HB.out|apply za|apply zb|apply zc)) hb);clear hb hbox hg;have hcz9_0 : w8.cell? ⟨gb110,0,none⟩=some (.slice A0_0 l0_0.length c0_0):=(zz BK110.out 0).trans rfl;have hfz9_0:=zA BK110.out 0)|((with_reducible refine zJ (f:=15) rfl ?_);refine yj (some 8) rfl rfl Tryz.func15 (by kernel_rfl) rfl #[.slice A0_0 l0_0.length c0_0,.int .i64 a1] rfl (by (try simp only [zt,zu,zv]);first|done|rfl|(simp only [zw,zx];rfl)|(simp only [yr,ys,zV,zW];rfl)) ?_;(with_reducible refine (Fy.calls k  _ _ l0_0 a1 t111 _ ?side1 ?side2 A3.out).mono ?_);(case side1 => repeat (first|exact (Kd.C_below HR0_0.out HB.out)|(with_reducible refine Kd.C_alloc ?_ _)|(with_reducible refine Kd.C_drewN ?_ _)|(with_reducible refine Kd.C_drew ?_)));(case side2 => exact HC0_0.out);rintro e w10 ⟨rfl,hb⟩;refine ⟨_,rfl,?_⟩;replace BK110:=zh (zD (g:=gb110) (o:=.cells #[.slice A0_0 l0_0.length c0_0] 24 (0,0)) (by (with_reducible repeat (first|refine ze ?_ _|refine zf ?_|refine zg ?_ _));exact BK110.out) hb);replace HB:=zh (zC (by repeat (with_reducible first|exact HB.out|apply za|apply zb|apply zc|refine zd ?_ GE110.out)) hb);(try clear hb);(try clear hb2);(try clear hk);(try clear hi)))
 go_ret
 exact ⟨by first|rfl|(simp [yt,yu] <;> rfl)|(simp [*,yt,yu] <;> rfl),by repeat (with_reducible first|exact HB.out|apply za|apply zb|apply zc|refine zd ?_ GE110.out)⟩


def F0g.f (k : Nat) (a0_0 : ByteArray) (l0_1 : List (S61)) (a1 : Int) : Option (Int):=if (wrap64 (a1 - (a0_0.size : Int)))<0 then (some (-1)) else ((F0i.f k l0_1 (wrap64 (a1 - (a0_0.size : Int)))).bind fun t410 => (if t410<0 then (some (-1)) else (some t410)))
theorem F0g.mono : ∀ a0 a1 a2 k,LeO (F0g.f k a0 a1 a2) (F0g.f (k + 1) a0 a1 a2):=by
 intro a0 a1 a2 k;unfold F0g.f
 repeat' first|(with_reducible first|exact F0i.mono _ _ _|exact zQ _|exact zN _|refine zP ?_ ?_|refine zO ?_ (fun _ => ?_))|refine zP ?_ ?_|refine zO ?_ (fun _ => ?_)
set_option maxHeartbeats 8000000 in
set_option maxRecDepth 100000 in
theorem F0g.calls (k : Nat) (a0_0 : ByteArray) (A0_1 : Option Addr) (c0_1 : Nat) (l0_1 : List (S61)) (a1 : Int) (r : Int) (w : World) (hr0_1 : Kd.C k61 w A0_1 l0_1.length l0_1) (hc0_1 : l0_1.length≤c0_1) (h : F0g.f k a0_0 l0_1 a1=some r) :
  Calls Tryz.prog 10 #[.agg #[.string a0_0,.slice A0_1 l0_1.length c0_1],.int .i64 a1] w fun e w' => e = .returned (.int .i64 r)∧Below w.heap.size w w':=by
 have hu34:=Tryz.underlying34;have hu24:=Tryz.underlying24;have HR0_1:=zh hr0_1;have HC0_1:=zh hc0_1;clear hr0_1 hc0_1;have HB:=zh (Below.refl w.heap.size w);have H : (if (wrap64 (a1 - (a0_0.size : Int)))<0 then (some (-1)) else ((F0i.f k l0_1 (wrap64 (a1 - (a0_0.size : Int)))).bind fun t410 => (if t410<0 then (some (-1)) else (some t410))))=some r:=h;clear h
 by_cases c3 : (wrap64 (a1 - (a0_0.size : Int)))<0
 ·
  rw [if_pos c3] at H
  have c3b0 : decide ((wrap64 (a1 - (a0_0.size : Int)))<0)=true:=decide_eq_true c3;clear c3;obtain rfl:=zU H
  go_enter Tryz.func10,Tryz.ntmps10
  go_wp2_with (first|((with_reducible refine zK (N:=2) rfl ?_);refine zI ?hg (N:=2) ?hd (cs:=#[.string a0_0,.slice A0_1 l0_1.length c0_1]) (t:=34) ?hr ?_;(case hd => rfl);(case hg => rfl);(case hr => first|(go_simp;done)|(go_simp;rfl));intro gb409 hg w4 hbox hb;have BK409:=zh (hbox);have GW409:=zh ((by rw [hg];exact (zB (by repeat (with_reducible first|exact HB.out|apply za|apply zb|apply zc))) : w.heap.size≤gb409));have GE409:=zh ((by rw [hg];exact (zB (by repeat (with_reducible first|exact HB.out|apply za|apply zb|apply zc))) : w.heap.size≤gb409));replace HB:=zh (zC (by repeat (with_reducible first|exact HB.out|apply za|apply zb|apply zc)) hb);clear hb hbox hg;have hcz5_0 : w4.cell? ⟨gb409,0,none⟩=some (.string a0_0):=(zz BK409.out 0).trans rfl;have hcz5_1 : w4.cell? ⟨gb409,1,none⟩=some (.slice A0_1 l0_1.length c0_1):=(zz BK409.out 1).trans rfl;have hfz5_0:=zA BK409.out 0;have hfz5_1:=zA BK409.out 1))
  go_ret
  exact ⟨by first|rfl|(simp [yt,yu] <;> rfl)|(simp [*,yt,yu] <;> rfl),by repeat (with_reducible first|exact HB.out|apply za|apply zb|apply zc|refine zd ?_ GE409.out)⟩
 rw [if_neg c3] at H;have c3b0 : decide ((wrap64 (a1 - (a0_0.size : Int)))<0)=false:=decide_eq_false c3;clear c3;replace H:=zT.mp H;obtain ⟨t410,A60,H⟩:=H;replace H : (if t410<0 then (some (-1)) else (some t410))=some r:=H;have A6:=zh A60;clear A60
 by_cases c7 : t410<0
 ·
  rw [if_pos c7] at H
  have c7b0 : decide (t410<0)=true:=decide_eq_true c7;clear c7;obtain rfl:=zU H
  go_enter Tryz.func10,Tryz.ntmps10
  go_wp2_with (first|((with_reducible refine zK (N:=2) rfl ?_);refine zI ?hg (N:=2) ?hd (cs:=#[.string a0_0,.slice A0_1 l0_1.length c0_1]) (t:=34) ?hr ?_;(case hd => rfl);(case hg => rfl);(case hr => first|(go_simp;done)|(go_simp;rfl));intro gb409 hg w8 hbox hb;have BK409:=zh (hbox);have GW409:=zh ((by rw [hg];exact (zB (by repeat (with_reducible first|exact HB.out|apply za|apply zb|apply zc))) : w.heap.size≤gb409));have GE409:=zh ((by rw [hg];exact (zB (by repeat (with_reducible first|exact HB.out|apply za|apply zb|apply zc))) : w.heap.size≤gb409));replace HB:=zh (zC (by repeat (with_reducible first|exact HB.out|apply za|apply zb|apply zc)) hb);clear hb hbox hg;have hcz9_0 : w8.cell? ⟨gb409,0,none⟩=some (.string a0_0):=(zz BK409.out 0).trans rfl;have hcz9_1 : w8.cell? ⟨gb409,1,none⟩=some (.slice A0_1 l0_1.length c0_1):=(zz BK409.out 1).trans rfl;have hfz9_0:=zA BK409.out 0;have hfz9_1:=zA BK409.out 1)|((with_reducible refine zJ (f:=5) rfl ?_);refine yj (some 15) rfl rfl Tryz.func5 (by kernel_rfl) rfl #[.agg #[.slice A0_1 l0_1.length c0_1],.int .i64 (wrap64 (a1 - (a0_0.size : Int)))] rfl (by (try simp only [zt,zu,zv]);first|done|rfl|(simp only [zw,zx];rfl)|(simp only [yr,ys,zV,zW];rfl)) ?_;(with_reducible refine (F0i.calls k  _ _ l0_1 (wrap64 (a1 - (a0_0.size : Int))) t410 _ ?side1 ?side2 A6.out).mono ?_);(case side1 => repeat (first|exact (Kd.C_below HR0_1.out HB.out)|(with_reducible refine Kd.C_alloc ?_ _)|(with_reducible refine Kd.C_drewN ?_ _)|(with_reducible refine Kd.C_drew ?_)));(case side2 => exact HC0_1.out);rintro e w10 ⟨rfl,hb⟩;refine ⟨_,rfl,?_⟩;replace BK409:=zh (zD (g:=gb409) (o:=.cells #[.string a0_0,.slice A0_1 l0_1.length c0_1] 34 (0,0)) (by (with_reducible repeat (first|refine ze ?_ _|refine zf ?_|refine zg ?_ _));exact BK409.out) hb);replace HB:=zh (zC (by repeat (with_reducible first|exact HB.out|apply za|apply zb|apply zc|refine zd ?_ GE409.out)) hb);(try clear hb);(try clear hb2);(try clear hk);(try clear hi)))
  go_ret
  exact ⟨by first|rfl|(simp [yt,yu] <;> rfl)|(simp [*,yt,yu] <;> rfl),by repeat (with_reducible first|exact HB.out|apply za|apply zb|apply zc|refine zd ?_ GE409.out)⟩
 rw [if_neg c7] at H;have c7b0 : decide (t410<0)=false:=decide_eq_false c7;clear c7;obtain rfl:=zU H
 go_enter Tryz.func10,Tryz.ntmps10
 go_wp2_with (first|((with_reducible refine zK (N:=2) rfl ?_);refine zI ?hg (N:=2) ?hd (cs:=#[.string a0_0,.slice A0_1 l0_1.length c0_1]) (t:=34) ?hr ?_;(case hd => rfl);(case hg => rfl);(case hr => first|(go_simp;done)|(go_simp;rfl));intro gb409 hg w11 hbox hb;have BK409:=zh (hbox);have GW409:=zh ((by rw [hg];exact (zB (by repeat (with_reducible first|exact HB.out|apply za|apply zb|apply zc))) : w.heap.size≤gb409));have GE409:=zh ((by rw [hg];exact (zB (by repeat (with_reducible first|exact HB.out|apply za|apply zb|apply zc))) : w.heap.size≤gb409));replace HB:=zh (zC (by repeat (with_reducible first|exact HB.out|apply za|apply zb|apply zc)) hb);clear hb hbox hg;have hcz12_0 : w11.cell? ⟨gb409,0,none⟩=some (.string a0_0):=(zz BK409.out 0).trans rfl;have hcz12_1 : w11.cell? ⟨gb409,1,none⟩=some (.slice A0_1 l0_1.length c0_1):=(zz BK409.out 1).trans rfl;have hfz12_0:=zA BK409.out 0;have hfz12_1:=zA BK409.out 1)|((with_reducible refine zJ (f:=5) rfl ?_);refine yj (some 15) rfl rfl Tryz.func5 (by kernel_rfl) rfl #[.agg #[.slice A0_1 l0_1.length c0_1],.int .i64 (wrap64 (a1 - (a0_0.size : Int)))] rfl (by (try simp only [zt,zu,zv]);first|done|rfl|(simp only [zw,zx];rfl)|(simp only [yr,ys,zV,zW];rfl)) ?_;(with_reducible refine (F0i.calls k  _ _ l0_1 (wrap64 (a1 - (a0_0.size : Int))) t410 _ ?side1 ?side2 A6.out).mono ?_);(case side1 => repeat (first|exact (Kd.C_below HR0_1.out HB.out)|(with_reducible refine Kd.C_alloc ?_ _)|(with_reducible refine Kd.C_drewN ?_ _)|(with_reducible refine Kd.C_drew ?_)));(case side2 => exact HC0_1.out);rintro e w13 ⟨rfl,hb⟩;refine ⟨_,rfl,?_⟩;replace BK409:=zh (zD (g:=gb409) (o:=.cells #[.string a0_0,.slice A0_1 l0_1.length c0_1] 34 (0,0)) (by (with_reducible repeat (first|refine ze ?_ _|refine zf ?_|refine zg ?_ _));exact BK409.out) hb);replace HB:=zh (zC (by repeat (with_reducible first|exact HB.out|apply za|apply zb|apply zc|refine zd ?_ GE409.out)) hb);(try clear hb);(try clear hb2);(try clear hk);(try clear hi)))
 go_ret
 exact ⟨by first|rfl|(simp [yt,yu] <;> rfl)|(simp [*,yt,yu] <;> rfl),by repeat (with_reducible first|exact HB.out|apply za|apply zb|apply zc|refine zd ?_ GE409.out)⟩


def F0q.f (a0 : Int) : Option (Bool):=if a0 ≥ 97 then (if a0≤122 then (some true) else (if a0 ≥ 65 then (if a0≤90 then (some true) else (some (a0 == 95))) else (some (a0 == 95)))) else (if a0 ≥ 65 then (if a0≤90 then (some true) else (some (a0 == 95))) else (some (a0 == 95)))
set_option maxHeartbeats 8000000 in
set_option maxRecDepth 100000 in
theorem F0q.calls (a0 : Int) (r : Bool) (w : World) (h : F0q.f a0=some r) :
  Calls Tryz.prog 62 #[.int .u8 a0] w fun e w' => e = .returned (.bool r)∧Drawn0 w w':=by
 have H : (if a0 ≥ 97 then (if a0≤122 then (some true) else (if a0 ≥ 65 then (if a0≤90 then (some true) else (some (a0 == 95))) else (some (a0 == 95)))) else (if a0 ≥ 65 then (if a0≤90 then (some true) else (some (a0 == 95))) else (some (a0 == 95))))=some r:=h;clear h
 by_cases c2 : a0 ≥ 97
 ·
  rw [if_pos c2] at H
  have c2b0 : decide (97≤a0)=true:=decide_eq_true c2;clear c2
  by_cases c3 : a0≤122
  ·
   rw [if_pos c3] at H
   have c3b0 : decide (a0≤122)=true:=decide_eq_true c3;clear c3;obtain rfl:=zU H
   go_enter Tryz.func62,Tryz.ntmps62
   go_wp2
   go_ret
   exact ⟨by first|rfl|(simp;done)|(simp [*];done),by repeat (first|exact yp _|apply yq)⟩
  rw [if_neg c3] at H;have c3b0 : decide (a0≤122)=false:=decide_eq_false c3;clear c3
  by_cases c4 : a0 ≥ 65
  ·
   rw [if_pos c4] at H
   have c4b0 : decide (65≤a0)=true:=decide_eq_true c4;clear c4
   by_cases c5 : a0≤90
   ·
    rw [if_pos c5] at H
    have c5b0 : decide (a0≤90)=true:=decide_eq_true c5;clear c5;obtain rfl:=zU H
    go_enter Tryz.func62,Tryz.ntmps62
    go_wp2
    go_ret
    exact ⟨by first|rfl|(simp;done)|(simp [*];done),by repeat (first|exact yp _|apply yq)⟩
   rw [if_neg c5] at H;have c5b0 : decide (a0≤90)=false:=decide_eq_false c5;clear c5;obtain rfl:=zU H
   go_enter Tryz.func62,Tryz.ntmps62
   go_wp2
   go_ret
   exact ⟨by first|rfl|(simp;done)|(simp [*];done),by repeat (first|exact yp _|apply yq)⟩
  rw [if_neg c4] at H;have c4b0 : decide (65≤a0)=false:=decide_eq_false c4;clear c4;obtain rfl:=zU H
  go_enter Tryz.func62,Tryz.ntmps62
  go_wp2
  go_ret
  exact ⟨by first|rfl|(simp;done)|(simp [*];done),by repeat (first|exact yp _|apply yq)⟩
 rw [if_neg c2] at H;have c2b0 : decide (97≤a0)=false:=decide_eq_false c2;clear c2
 by_cases c6 : a0 ≥ 65
 ·
  rw [if_pos c6] at H
  have c6b0 : decide (65≤a0)=true:=decide_eq_true c6;clear c6
  by_cases c7 : a0≤90
  ·
   rw [if_pos c7] at H
   have c7b0 : decide (a0≤90)=true:=decide_eq_true c7;clear c7;obtain rfl:=zU H
   go_enter Tryz.func62,Tryz.ntmps62
   go_wp2
   go_ret
   exact ⟨by first|rfl|(simp;done)|(simp [*];done),by repeat (first|exact yp _|apply yq)⟩
  rw [if_neg c7] at H;have c7b0 : decide (a0≤90)=false:=decide_eq_false c7;clear c7;obtain rfl:=zU H
  go_enter Tryz.func62,Tryz.ntmps62
  go_wp2
  go_ret
  exact ⟨by first|rfl|(simp;done)|(simp [*];done),by repeat (first|exact yp _|apply yq)⟩
 rw [if_neg c6] at H;have c6b0 : decide (65≤a0)=false:=decide_eq_false c6;clear c6;obtain rfl:=zU H
 go_enter Tryz.func62,Tryz.ntmps62
 go_wp2
 go_ret
 exact ⟨by first|rfl|(simp;done)|(simp [*];done),by repeat (first|exact yp _|apply yq)⟩


def F0t.f (a0 : Int) : Option (Bool):=if a0 ≥ 48 then (some (decide (a0≤57))) else (some false)
set_option maxHeartbeats 8000000 in
set_option maxRecDepth 100000 in
theorem F0t.calls (a0 : Int) (r : Bool) (w : World) (h : F0t.f a0=some r) :
  Calls Tryz.prog 63 #[.int .u8 a0] w fun e w' => e = .returned (.bool r)∧Drawn0 w w':=by
 have H : (if a0 ≥ 48 then (some (decide (a0≤57))) else (some false))=some r:=h;clear h
 by_cases c2 : a0 ≥ 48
 ·
  rw [if_pos c2] at H
  have c2b0 : decide (48≤a0)=true:=decide_eq_true c2;clear c2;obtain rfl:=zU H
  go_enter Tryz.func63,Tryz.ntmps63
  go_wp2
  go_ret
  exact ⟨by first|rfl|(simp;done)|(simp [*];done),by repeat (first|exact yp _|apply yq)⟩
 rw [if_neg c2] at H;have c2b0 : decide (48≤a0)=false:=decide_eq_false c2;clear c2;obtain rfl:=zU H
 go_enter Tryz.func63,Tryz.ntmps63
 go_wp2
 go_ret
 exact ⟨by first|rfl|(simp;done)|(simp [*];done),by repeat (first|exact yp _|apply yq)⟩

end Go.Proofs.YthjgfjlogilleaaGreatDoor.Q
end
section
namespace Go.Proofs.YthjgfjlogilleaaGreatDoor.Q
open Go.RowKit Go.Proofs.YthjgfjlogilleaaGreatDoorW.PrintWords Go.Proofs.YthjgfjlogilleaaGreatDoorW.PrintLast Go.Proofs.YthjgfjlogilleaaGreatDoorW.PrintMore
attribute [local go_sem] max2_int min2_int max_two min_two max_three min_three max_four min_four max2_str min2_str str_geq str_gtr str_leq   -- for this text's walks alone
set_option linter.unusedVariables false
set_option linter.unusedSimpArgs false

mutual
def F7.j0 : Nat→ByteArray→Bool→Option (Bool)
 | 0,_,_ => none
 | k + 1,x0,x17 => if x17=true then (some false) else (F7.l0 k x0 1)
def F7.l0 : Nat→ByteArray→Int→Option (Bool)
 | 0,_,_ => none
 | k + 1,x0,x3 => if x3<(x0.size : Int) then (if 0≤x3 then ((F0q.f (bt x0 x3)).bind fun t113 => (if t113=true then (F7.l0 k x0 (wrap64 (x3 + 1))) else ((F0t.f (bt x0 x3)).bind fun t114 => (if t114=true then (F7.l0 k x0 (wrap64 (x3 + 1))) else (some false))))) else (none)) else (some true)
end
def F7.f (k : Nat) (a0 : ByteArray) : Option (Bool):=if (a0.size : Int)<1 then (F7.j0 k a0 true) else (if (a0.size : Int) > 40 then (F7.j0 k a0 true) else (if 0<(a0.size : Int) then ((F0q.f (bt a0 0)).bind fun t112 => (F7.j0 k a0 (!t112))) else (none)))
theorem F7.mono_l : ∀ k,(∀ y0 y1,LeO (F7.j0 k y0 y1) (F7.j0 (k + 1) y0 y1))∧(∀ y0 y1,LeO (F7.l0 k y0 y1) (F7.l0 (k + 1) y0 y1))
 | 0 => ⟨fun _ _ r h => by simp [F7.j0] at h,fun _ _ r h => by simp [F7.l0] at h⟩
 | k + 1 => by
  obtain ⟨ih0,ih1⟩:=F7.mono_l k;refine ⟨?_,?_⟩
  ·
   intro y0 y1
   unfold F7.j0
   repeat' first|(with_reducible first|exact ih0 _ _|exact ih1 _ _|exact zQ _|exact zN _|refine zP ?_ ?_|refine zO ?_ (fun _ => ?_))|refine zP ?_ ?_|refine zO ?_ (fun _ => ?_)
  intro y0 y1;unfold F7.l0
  repeat' first|(with_reducible first|exact ih0 _ _|exact ih1 _ _|exact zQ _|exact zN _|refine zP ?_ ?_|refine zO ?_ (fun _ => ?_))|refine zP ?_ ?_|refine zO ?_ (fun _ => ?_)
theorem F7.mono : ∀ a0 k,LeO (F7.f k a0) (F7.f (k + 1) a0):=by
 intro a0 k;obtain ⟨ih0,ih1⟩:=F7.mono_l k;unfold F7.f
 repeat' first|(with_reducible first|exact ih0 _ _|exact ih1 _ _|exact zQ _|exact zN _|refine zP ?_ ?_|refine zO ?_ (fun _ => ?_))|refine zP ?_ ?_|refine zO ?_ (fun _ => ?_)
set_option maxHeartbeats 8000000 in
set_option maxRecDepth 100000 in
theorem F7.calls (k : Nat) (a0 : ByteArray) (r : Bool) (w : World) (h : F7.f k a0=some r) :
  Calls Tryz.prog 48 #[.string a0] w fun e w' => e = .returned (.bool r)∧Drawn0 w w':=by
 have H : (if (a0.size : Int)<1 then (F7.j0 k a0 true) else (if (a0.size : Int) > 40 then (F7.j0 k a0 true) else (if 0<(a0.size : Int) then ((F0q.f (bt a0 0)).bind fun t112 => (F7.j0 k a0 (!t112))) else (none))))=some r:=h;clear h;have HC2:=zh H;clear H
 go_enter Tryz.func48,Tryz.ntmps48
 go_upto_region 1 with (fail)
 go_cut [17] (fun v17 wc => ∃ (kq : Nat) (x17_1 : Bool),v17 = .bool x17_1∧Aside0 (F7.j0 kq a0 x17_1=some r)∧Aside0 (kq≤k)∧Drawn0 w wc)
 case first =>
  have H:=HC2.out;clear HC2
  by_cases c3 : (a0.size : Int)<1
  ·
   rw [if_pos c3] at H
   have c3b0 : decide ((a0.size : Int)<1)=true:=decide_eq_true c3;have c3b1 : decide (a0.size<1)=true:=decide_eq_true (by omega);clear c3;(first|rw [c3b0]|(simp only [zG,zH];rw [c3b0])|skip);have H':=zh H;clear H
   go_wp2
   go_meet
   case rel => exact ⟨_,(true),(by first|rfl|(simp;done)|(simp [*];done)),H',⟨by first|omega|exact ye _⟩,by repeat (first|exact yp _|apply yq)⟩
  rw [if_neg c3] at H;have c3b0 : decide ((a0.size : Int)<1)=false:=decide_eq_false c3;have c3b1 : decide (a0.size<1)=false:=decide_eq_false (by omega);clear c3;(first|rw [c3b0]|(simp only [zG,zH];rw [c3b0])|skip)
  by_cases c4 : (a0.size : Int) > 40
  ·
   rw [if_pos c4] at H
   have c4b0 : decide (40<(a0.size : Int))=true:=decide_eq_true c4;have c4b1 : decide (40<a0.size)=true:=decide_eq_true (by omega);clear c4;have H':=zh H;clear H
   go_wp2
   go_meet
   case rel => exact ⟨_,(true),(by first|rfl|(simp;done)|(simp [*];done)),H',⟨by first|omega|exact ye _⟩,by repeat (first|exact yp _|apply yq)⟩
  rw [if_neg c4] at H;have c4b0 : decide (40<(a0.size : Int))=false:=decide_eq_false c4;have c4b1 : decide (40<a0.size)=false:=decide_eq_false (by omega);clear c4
  by_cases c5 : 0<(a0.size : Int)
  ·
   rw [if_pos c5] at H
   have c5b0 : decide (0<(a0.size : Int))=true:=decide_eq_true c5;have c5b1 : decide (0<a0.size)=true:=decide_eq_true (by omega);clear c5;replace H:=zT.mp H;obtain ⟨t112,A70,H⟩:=H;replace H : (F7.j0 k a0 (!t112))=some r:=H;have A7:=zh A70;clear A70;have H':=zh H;clear H;have p6 : 0≤(0 : Int):=(by omega);have q6 : 0<a0.size:=(by have : (0 : Int)<(a0.size : Int):=zy (by first|(with_reducible assumption)|assumption);omega);have hx6 : ∀ h : 0<a0.size,((a0[0]'h).toNat : Int)=bt a0 0:=bt_at a0 0;clear p6;have qi6 : (0<(a0.size : Int))=True:=eq_true (zy (by first|(with_reducible assumption)|assumption));replace q6:=eq_true q6
   go_wp2_with (first|(go_at_call 62;(with_reducible refine (F0q.calls  (bt a0 0) t112 _ A7.out).mono ?_);rintro e w' ⟨rfl,⟨nd,rfl⟩⟩))
   go_meet
   case rel => exact ⟨_,(!t112),(by first|rfl|(simp;done)|(simp [*];done)),H',⟨by first|omega|exact ye _⟩,by repeat (first|exact yp _|apply yq)⟩
  rw [if_neg c5] at H;exact absurd H (by simp)
 case rest =>
  clear HC2
  try clear p2
  try clear c3
  try clear c3b0
  try clear c3b1
  try clear c4
  try clear c4b0
  try clear c4b1
  try clear c5
  try clear c5b0
  try clear c5b1
  try clear p6
  try clear q6
  try clear hx6
  try clear qi6
  try clear p6
  try clear q6
  obtain ⟨kq,x17_1,rfl,HA,HJ1,⟨mc1,rfl⟩⟩:=hcut
  cases kq with
  | zero => exact absurd HA.out (by simp [F7.j0])
  | succ kj1 =>
   have H:=HA.out;clear HA;simp only [F7.j0] at H
   by_cases c8 : x17_1=true
   ·
    subst c8
    have H1 : (some false)=some r:=by rw [if_pos rfl] at H;exact H
    clear H;have H:=H1;clear H1;obtain rfl:=zU H
    go_wp2
    go_ret
    exact ⟨by first|rfl|(simp;done)|(simp [*];done),by repeat (first|exact yp _|apply yq)⟩
   replace c8:=yb.mpr c8;subst c8;have H1 : (F7.l0 kj1 a0 1)=some r:=by rw [if_neg (show ¬ (false=true) by decide)] at H;exact H
   clear H;have H:=H1;clear H1;have H':=zh H;clear H
   go_wp2
   go_loopg [3] kj1 (fun kq v3 w' => ∃ (x3_2 : Int),v3 = .int .i64 x3_2∧Aside0 (F7.l0 kq a0 x3_2=some r)∧Aside0 (kq≤kj1)∧Drawn0 w w')
   case atStart => exact ⟨(1),(by first|rfl|(simp;done)|(simp [*];done)),H',⟨ye _⟩,by repeat (first|exact yp _|apply yq)⟩
   case round =>
    clear H'
    try clear c1
    try clear p2
    try clear c3
    try clear c3b0
    try clear c3b1
    try clear c4
    try clear c4b0
    try clear c4b1
    try clear c5
    try clear c5b0
    try clear c5b1
    try clear p6
    try clear q6
    try clear hx6
    try clear qi6
    try clear c8
    try clear p2
    try clear p6
    try clear q6
    obtain ⟨x3_2,rfl,HA,HK2,⟨m2,rfl⟩⟩:=hrel
    cases gk with
    | zero => exact absurd HA.out (by simp [F7.l0])
    | succ k2 =>
     have H:=HA.out;clear HA;simp only [F7.l0] at H
     by_cases c9 : x3_2<(a0.size : Int)
     ·
      rw [if_pos c9] at H
      have c9b0 : decide (x3_2<(a0.size : Int))=true:=decide_eq_true c9;clear c9
      by_cases c10 : 0≤x3_2
      ·
       rw [if_pos c10] at H
       have c10b0 : decide (0≤x3_2)=true:=decide_eq_true c10;clear c10;replace H:=zT.mp H;obtain ⟨t113,A120,H⟩:=H;replace H : (if t113=true then (F7.l0 k2 a0 (wrap64 (x3_2 + 1))) else ((F0t.f (bt a0 x3_2)).bind fun t114 => (if t114=true then (F7.l0 k2 a0 (wrap64 (x3_2 + 1))) else (some false))))=some r:=H;have A12:=zh A120;clear A120
       by_cases c13 : t113=true
       ·
        subst c13
        have H1 : (F7.l0 k2 a0 (wrap64 (x3_2 + 1)))=some r:=by rw [if_pos rfl] at H;exact H
        clear H;have H:=H1;clear H1;have H':=zh H;clear H;have p11 : 0≤(x3_2 : Int):=zy (by first|(with_reducible assumption)|assumption);have q11 : x3_2<(a0.size : Int):=zy (by first|(with_reducible assumption)|assumption);have hx11:=bt_at a0 x3_2;replace p11:=eq_true p11;replace q11:=eq_true q11
        go_wp2_with (first|((with_reducible refine zJ (f:=62) rfl ?_);refine yj (some 27) rfl rfl Tryz.func62 (by kernel_rfl) rfl #[.int .u8 (bt a0 x3_2)] rfl (by (try simp only [zt,zu,zv]);first|done|rfl|(simp only [zw,zx];rfl)|(simp only [yr,ys,zV,zW];rfl)) ?_;(with_reducible refine (F0q.calls  (bt a0 x3_2) true _ A12.out).mono ?_);rintro e w' ⟨rfl,⟨nd,rfl⟩⟩;refine ⟨_,rfl,?_⟩))
        go_roundg k2
        case measure => have:=HJ1.out;have:=HK2.out;omega
        case rel => exact ⟨(wrap64 (x3_2 + 1)),(by first|rfl|(simp;done)|(simp [*];done)),H',⟨by have:=HJ1.out;have:=HK2.out;omega⟩,by repeat (first|exact yp _|apply yq)⟩
       replace c13:=yb.mpr c13;subst c13;have H1 : ((F0t.f (bt a0 x3_2)).bind fun t114 => (if t114=true then (F7.l0 k2 a0 (wrap64 (x3_2 + 1))) else (some false)))=some r:=by rw [if_neg (show ¬ (false=true) by decide)] at H;exact H
       clear H;have H:=H1;clear H1;replace H:=zT.mp H;obtain ⟨t114,A150,H⟩:=H;replace H : (if t114=true then (F7.l0 k2 a0 (wrap64 (x3_2 + 1))) else (some false))=some r:=H;have A15:=zh A150;clear A150
       by_cases c16 : t114=true
       ·
        subst c16
        have H1 : (F7.l0 k2 a0 (wrap64 (x3_2 + 1)))=some r:=by rw [if_pos rfl] at H;exact H
        clear H;have H:=H1;clear H1;have H':=zh H;clear H;have p11 : 0≤(x3_2 : Int):=zy (by first|(with_reducible assumption)|assumption);have q11 : x3_2<(a0.size : Int):=zy (by first|(with_reducible assumption)|assumption);have hx11:=bt_at a0 x3_2;replace p11:=eq_true p11;replace q11:=eq_true q11
        go_wp2_with (first|((with_reducible refine zJ (f:=62) rfl ?_);refine yj (some 27) rfl rfl Tryz.func62 (by kernel_rfl) rfl #[.int .u8 (bt a0 x3_2)] rfl (by (try simp only [zt,zu,zv]);first|done|rfl|(simp only [zw,zx];rfl)|(simp only [yr,ys,zV,zW];rfl)) ?_;(with_reducible refine (F0q.calls  (bt a0 x3_2) false _ A12.out).mono ?_);rintro e w' ⟨rfl,⟨nd,rfl⟩⟩;refine ⟨_,rfl,?_⟩;have p14 : 0≤(x3_2 : Int):=zy (by first|(with_reducible assumption)|assumption);have q14 : x3_2<(a0.size : Int):=zy (by first|(with_reducible assumption)|assumption);have hx14:=bt_at a0 x3_2;replace p14:=eq_true p14;replace q14:=eq_true q14)|(go_at_call 63;(with_reducible refine (F0t.calls  (bt a0 x3_2) true _ A15.out).mono ?_);rintro e w' ⟨rfl,⟨nd,rfl⟩⟩))
        go_roundg k2
        case measure => have:=HJ1.out;have:=HK2.out;omega
        case rel => exact ⟨(wrap64 (x3_2 + 1)),(by first|rfl|(simp;done)|(simp [*];done)),H',⟨by have:=HJ1.out;have:=HK2.out;omega⟩,by repeat (first|exact yp _|apply yq)⟩
       replace c16:=yb.mpr c16;subst c16;have H1 : (some false)=some r:=by rw [if_neg (show ¬ (false=true) by decide)] at H;exact H
       clear H;have H:=H1;clear H1;obtain rfl:=zU H;have p11 : 0≤(x3_2 : Int):=zy (by first|(with_reducible assumption)|assumption);have q11 : x3_2<(a0.size : Int):=zy (by first|(with_reducible assumption)|assumption);have hx11:=bt_at a0 x3_2;replace p11:=eq_true p11;replace q11:=eq_true q11
       go_wp2_with (first|((with_reducible refine zJ (f:=62) rfl ?_);refine yj (some 27) rfl rfl Tryz.func62 (by kernel_rfl) rfl #[.int .u8 (bt a0 x3_2)] rfl (by (try simp only [zt,zu,zv]);first|done|rfl|(simp only [zw,zx];rfl)|(simp only [yr,ys,zV,zW];rfl)) ?_;(with_reducible refine (F0q.calls  (bt a0 x3_2) false _ A12.out).mono ?_);rintro e w' ⟨rfl,⟨nd,rfl⟩⟩;refine ⟨_,rfl,?_⟩;have p14 : 0≤(x3_2 : Int):=zy (by first|(with_reducible assumption)|assumption);have q14 : x3_2<(a0.size : Int):=zy (by first|(with_reducible assumption)|assumption);have hx14:=bt_at a0 x3_2;replace p14:=eq_true p14;replace q14:=eq_true q14)|(go_at_call 63;(with_reducible refine (F0t.calls  (bt a0 x3_2) false _ A15.out).mono ?_);rintro e w' ⟨rfl,⟨nd,rfl⟩⟩))
       go_ret
       exact ⟨by first|rfl|(simp;done)|(simp [*];done),by repeat (first|exact yp _|apply yq)⟩
      rw [if_neg c10] at H;exact absurd H (by simp)
     rw [if_neg c9] at H;have c9b0 : decide (x3_2<(a0.size : Int))=false:=decide_eq_false c9;clear c9;obtain rfl:=zU H
     go_wp2
     go_ret
     exact ⟨by first|rfl|(simp;done)|(simp [*];done),by repeat (first|exact yp _|apply yq)⟩

end Go.Proofs.YthjgfjlogilleaaGreatDoor.Q
end
section
namespace Go.Proofs.YthjgfjlogilleaaGreatDoor.Q
open Go.RowKit Go.Proofs.YthjgfjlogilleaaGreatDoorW.PrintWords Go.Proofs.YthjgfjlogilleaaGreatDoorW.PrintLast Go.Proofs.YthjgfjlogilleaaGreatDoorW.PrintMore
attribute [local go_sem] max2_int min2_int max_two min_two max_three min_three max_four min_four max2_str min2_str str_geq str_gtr str_leq
set_option linter.unusedVariables false
set_option linter.unusedSimpArgs false

def F0p.f (k : Nat) (a0 : ByteArray) : Option (Bool):=(F7.f k a0).bind fun t115 => (some t115)
theorem F0p.mono : ∀ a0 k,LeO (F0p.f k a0) (F0p.f (k + 1) a0):=by
 intro a0 k;unfold F0p.f
 repeat' first|(with_reducible first|exact F7.mono _ _|exact zQ _|exact zN _|refine zP ?_ ?_|refine zO ?_ (fun _ => ?_))|refine zP ?_ ?_|refine zO ?_ (fun _ => ?_)
set_option maxHeartbeats 8000000 in
set_option maxRecDepth 100000 in
theorem F0p.calls (k : Nat) (a0 : ByteArray) (r : Bool) (w : World) (h : F0p.f k a0=some r) :
  Calls Tryz.prog 37 #[.string a0] w fun e w' => e = .returned (.bool r)∧Drawn0 w w':=by
 have H : ((F7.f k a0).bind fun t115 => (some t115))=some r:=h;clear h;replace H:=zT.mp H;obtain ⟨t115,A20,H⟩:=H;replace H : (some t115)=some r:=H;have A2:=zh A20;clear A20;obtain rfl:=zU H
 go_enter Tryz.func37,Tryz.ntmps37
 go_wp2_with (first|((with_reducible refine zJ (f:=48) rfl ?_);refine yj (some 4) rfl rfl Tryz.func48 (by kernel_rfl) rfl #[.string a0] rfl (by (try simp only [zt,zu,zv]);first|done|rfl|(simp only [zw,zx];rfl)|(simp only [yr,ys,zV,zW];rfl)) ?_;(with_reducible refine (F7.calls k  a0 t115 _ A2.out).mono ?_);rintro e w' ⟨rfl,⟨nd,rfl⟩⟩;refine ⟨_,rfl,?_⟩))
 go_ret
 exact ⟨by first|rfl|(simp;done)|(simp [*];done),by repeat (first|exact yp _|apply yq)⟩


def F00.f (k : Nat) (a0 : ByteArray) : Option (Bool):=(F0p.f k a0).bind fun t116 => (if t116=true then (some (decide ((a0.size : Int)≤12))) else (some false))
theorem F00.mono : ∀ a0 k,LeO (F00.f k a0) (F00.f (k + 1) a0):=by
 intro a0 k;unfold F00.f
 repeat' first|(with_reducible first|exact F0p.mono _ _|exact zQ _|exact zN _|refine zP ?_ ?_|refine zO ?_ (fun _ => ?_))|refine zP ?_ ?_|refine zO ?_ (fun _ => ?_)
set_option maxHeartbeats 8000000 in
set_option maxRecDepth 100000 in
theorem F00.calls (k : Nat) (a0 : ByteArray) (r : Bool) (w : World) (h : F00.f k a0=some r) :
  Calls Tryz.prog 26 #[.string a0] w fun e w' => e = .returned (.bool r)∧Drawn0 w w':=by
 have H : ((F0p.f k a0).bind fun t116 => (if t116=true then (some (decide ((a0.size : Int)≤12))) else (some false)))=some r:=h;clear h;replace H:=zT.mp H;obtain ⟨t116,A20,H⟩:=H;replace H : (if t116=true then (some (decide ((a0.size : Int)≤12))) else (some false))=some r:=H;have A2:=zh A20;clear A20
 by_cases c3 : t116=true
 ·
  subst c3
  have H1 : (some (decide ((a0.size : Int)≤12)))=some r:=by rw [if_pos rfl] at H;exact H
  clear H;have H:=H1;clear H1;obtain rfl:=zU H
  go_enter Tryz.func26,Tryz.ntmps26
  go_wp2_with (first|((with_reducible refine zJ (f:=37) rfl ?_);refine yj (some 4) rfl rfl Tryz.func37 (by kernel_rfl) rfl #[.string a0] rfl (by (try simp only [zt,zu,zv]);first|done|rfl|(simp only [zw,zx];rfl)|(simp only [yr,ys,zV,zW];rfl)) ?_;(with_reducible refine (F0p.calls k  a0 true _ A2.out).mono ?_);rintro e w' ⟨rfl,⟨nd,rfl⟩⟩;refine ⟨_,rfl,?_⟩))
  go_ret
  exact ⟨by first|rfl|(simp;done)|(simp [*];done),by repeat (first|exact yp _|apply yq)⟩
 replace c3:=yb.mpr c3;subst c3;have H1 : (some false)=some r:=by rw [if_neg (show ¬ (false=true) by decide)] at H;exact H
 clear H;have H:=H1;clear H1;obtain rfl:=zU H
 go_enter Tryz.func26,Tryz.ntmps26
 go_wp2_with (first|((with_reducible refine zJ (f:=37) rfl ?_);refine yj (some 4) rfl rfl Tryz.func37 (by kernel_rfl) rfl #[.string a0] rfl (by (try simp only [zt,zu,zv]);first|done|rfl|(simp only [zw,zx];rfl)|(simp only [yr,ys,zV,zW];rfl)) ?_;(with_reducible refine (F0p.calls k  a0 false _ A2.out).mono ?_);rintro e w' ⟨rfl,⟨nd,rfl⟩⟩;refine ⟨_,rfl,?_⟩))
 go_ret
 exact ⟨by first|rfl|(simp;done)|(simp [*];done),by repeat (first|exact yp _|apply yq)⟩


def F09.f (a0 : Int) (a1 : Int) (a2 : Int) : Option (Bool):=if a1≤a0 then (some (decide (a0≤a2))) else (some false)
set_option maxHeartbeats 8000000 in
set_option maxRecDepth 100000 in
theorem F09.calls (a0 : Int) (a1 : Int) (a2 : Int) (r : Bool) (w : World) (h : F09.f a0 a1 a2=some r) :
  Calls Tryz.prog 16 #[.int .i64 a0,.int .i64 a1,.int .i64 a2] w fun e w' => e = .returned (.bool r)∧Drawn0 w w':=by
 have H : (if a1≤a0 then (some (decide (a0≤a2))) else (some false))=some r:=h;clear h
 by_cases c4 : a1≤a0
 ·
  rw [if_pos c4] at H
  have c4b0 : decide (a1≤a0)=true:=decide_eq_true c4;clear c4;obtain rfl:=zU H
  go_enter Tryz.func16,Tryz.ntmps16
  go_wp2
  go_ret
  exact ⟨by first|rfl|(simp;done)|(simp [*];done),by repeat (first|exact yp _|apply yq)⟩
 rw [if_neg c4] at H;have c4b0 : decide (a1≤a0)=false:=decide_eq_false c4;clear c4;obtain rfl:=zU H
 go_enter Tryz.func16,Tryz.ntmps16
 go_wp2
 go_ret
 exact ⟨by first|rfl|(simp;done)|(simp [*];done),by repeat (first|exact yp _|apply yq)⟩


def Fs.l0 : Nat→ByteArray→Int→List ByteArray→Int→Int→Option (List ByteArray)
 | 0,_,_,_,_,_ => none
 | k + 1,x0,x1,x5,x6,x7 => if x7<(x0.size : Int) then (if 0≤x7 then (if (bt x0 x7)=x1 then (if 0≤x6 then (if x6≤x7 then (if x7≤(x0.size : Int) then (if x5.length<8796093022208 then (Fs.l0 k x0 x1 (x5 ++ [x0.extract (x6 : Int).toNat (x7 : Int).toNat]) (wrap64 (x7 + 1)) (wrap64 (x7 + 1))) else (none)) else (none)) else (none)) else (none)) else (Fs.l0 k x0 x1 x5 x6 (wrap64 (x7 + 1)))) else (none)) else (if 0≤x6 then (if x6≤(x0.size : Int) then (if x5.length<8796093022208 then (some (x5 ++ [x0.extract (x6 : Int).toNat x0.size])) else (none)) else (none)) else (none))
def Fs.f (k : Nat) (a0 : ByteArray) (a1 : Int) : Option (List ByteArray):=Fs.l0 k a0 a1 (([] : List ByteArray)) 0 0
theorem Fs.mono_l : ∀ k,(∀ y0 y1 y2 y3 y4,LeO (Fs.l0 k y0 y1 y2 y3 y4) (Fs.l0 (k + 1) y0 y1 y2 y3 y4))
 | 0 => fun _ _ _ _ _ r h => by simp [Fs.l0] at h
 | k + 1 => by
  have ih0:=Fs.mono_l k;intro y0 y1 y2 y3 y4;unfold Fs.l0
  repeat' first|(with_reducible first|exact ih0 _ _ _ _ _|exact zQ _|exact zN _|refine zP ?_ ?_|refine zO ?_ (fun _ => ?_))|refine zP ?_ ?_|refine zO ?_ (fun _ => ?_)
theorem Fs.mono : ∀ a0 a1 k,LeO (Fs.f k a0 a1) (Fs.f (k + 1) a0 a1):=by
 intro a0 a1 k;have ih0:=Fs.mono_l k;unfold Fs.f
 repeat' first|(with_reducible first|exact ih0 _ _ _ _ _|exact zQ _|exact zN _|refine zP ?_ ?_|refine zO ?_ (fun _ => ?_))|refine zP ?_ ?_|refine zO ?_ (fun _ => ?_)
set_option maxHeartbeats 8000000 in
set_option maxRecDepth 100000 in
theorem Fs.calls (k : Nat) (a0 : ByteArray) (a1 : Int) (r : List ByteArray) (w : World) (h : Fs.f k a0 a1=some r) :
  Calls Tryz.prog 40 #[.string a0,.int .u8 a1] w fun e w' => ∃ v0_ : Value,e = .returned (v0_)∧Kd.R Kd.string 9 w' w.heap.size (fun _ => True) v0_ r∧Below w.heap.size w w':=by
 have HB:=zh (Below.refl w.heap.size w);have H : (Fs.l0 k a0 a1 (([] : List ByteArray)) 0 0)=some r:=h;clear h;obtain ⟨y117,hy117⟩ : ∃ y_ : List ByteArray,y_=(([] : List ByteArray)):=⟨_,rfl⟩;replace H : (Fs.l0 k a0 a1 y117 0 0)=some r:=by first|(rw [hy117];with_reducible exact H)|(have H2_:=(Option.bind_some _ _).symm.trans H;rw [hy117];with_reducible exact H2_)|(have H2_:=(Option.bind_some _ _).symm.trans H;with_reducible exact H2_)|with_reducible exact H|(rw [hy117];exact H)|exact H
 have Ny117:=zh hy117;clear hy117;have H':=zh H;clear H
 go_enter Tryz.func40,Tryz.ntmps40
 go_wp2_with (first|((with_reducible refine zK (N:=8) rfl ?_);refine Kd.R_lit Kd.string _ 9 ?hg (N:=8) ?hd (xs:=([] : List ByteArray)) (inner:=[]) (ok:=fun _ => True) (okp:=fun _ => True) ?hr ?hp (fun _ hk => hk) trivial (Below.refl _ _) (ye _) (by simp) ?_;(case hd => rfl);(case hg => rfl);(case hr => first|(go_simp;done)|(go_simp;rfl));(case hp => exact (Reps.none _ _));intro v118 w3 ho4 hb hg_ hnew_;clear hg_ hnew_;(first|rw [← Ny117.out] at ho4|(simp only [Int.reduceToNat] at ho4;rw [← Ny117.out] at ho4));have HO119:=zh (yy ho4 (zB (by repeat (with_reducible first|exact HB.out|apply za|apply zb|apply zc))));replace HB:=zh (zC (by repeat (with_reducible first|exact HB.out|apply za|apply zb|apply zc)) hb);clear hb ho4))
 go_loopg [5,6,7] k (fun kq v5 v6 v7 w' => ∃ (x5_1 : List ByteArray) (x6_1 : Int) (x7_1 : Int),v6 = .int .i64 x6_1∧v7 = .int .i64 x7_1∧Aside0 (Fs.l0 kq a0 a1 x5_1 x6_1 x7_1=some r)∧Aside0 (kq≤k)∧Aside0 (Kd.R Kd.string 9 w' w.heap.size (fun _ => True) v5 x5_1)∧Aside0 (Below w.heap.size w w'))
 case atStart => exact ⟨(y117),(0),(0),(by first|rfl|(simp;done)|(simp [*];done)),(by first|rfl|(simp;done)|(simp [*];done)),H',⟨ye _⟩,⟨by (with_reducible repeat (first|apply zm|apply zn|apply zo));exact HO119.out⟩,⟨by repeat (with_reducible first|exact HB.out|apply za|apply zb|apply zc)⟩⟩
 case round =>
  clear H'
  try clear p2
  try clear c4
  obtain ⟨x5_1,x6_1,x7_1,rfl,rfl,HA,HK1,HO_5,HB⟩:=hrel
  cases gk with
  | zero => exact absurd HA.out (by simp [Fs.l0])
  | succ k1 =>
   have H:=HA.out;clear HA;simp only [Fs.l0] at H
   by_cases c5 : x7_1<(a0.size : Int)
   ·
    rw [if_pos c5] at H
    have c5b0 : decide (x7_1<(a0.size : Int))=true:=decide_eq_true c5;clear c5
    by_cases c6 : 0≤x7_1
    ·
     rw [if_pos c6] at H
     have c6b0 : decide (0≤x7_1)=true:=decide_eq_true c6;clear c6
     by_cases c8 : (bt a0 x7_1)=a1
     ·
      rw [if_pos c8] at H
      have c8b0 : ((bt a0 x7_1) == a1)=true:=ya.mpr c8;have c8b1 : ((bt a0 x7_1) != a1)=false:=zX.mpr c8;clear c8
      by_cases c9 : 0≤x6_1
      ·
       rw [if_pos c9] at H
       have c9b0:=eq_true c9;have c9b1 : decide (0≤x6_1)=true:=decide_eq_true c9;clear c9
       by_cases c10 : x6_1≤x7_1
       ·
        rw [if_pos c10] at H
        have c10b0:=eq_true c10;have c10b1 : decide (x6_1≤x7_1)=true:=decide_eq_true c10;clear c10
        by_cases c11 : x7_1≤(a0.size : Int)
        ·
         rw [if_pos c11] at H
         have c11b0:=eq_true c11;have c11b1 : decide (x7_1≤(a0.size : Int))=true:=decide_eq_true c11;clear c11
         by_cases c12 : x5_1.length<8796093022208
         ·
          rw [if_pos c12] at H
          have LMc12:=zh c12;clear c12;obtain ⟨y120,hy120⟩ : ∃ y_ : List ByteArray,y_=(x5_1 ++ [a0.extract (x6_1 : Int).toNat (x7_1 : Int).toNat]):=⟨_,rfl⟩;replace H : (Fs.l0 k1 a0 a1 y120 (wrap64 (x7_1 + 1)) (wrap64 (x7_1 + 1)))=some r:=by first|(rw [hy120];with_reducible exact H)|(have H2_:=(Option.bind_some _ _).symm.trans H;rw [hy120];with_reducible exact H2_)|(have H2_:=(Option.bind_some _ _).symm.trans H;with_reducible exact H2_)|with_reducible exact H|(rw [hy120];exact H)|exact H
          have Ny120:=zh hy120;clear hy120;have H':=zh H;clear H;have p7 : 0≤(x7_1 : Int):=zy (by first|(with_reducible assumption)|assumption);have q7 : x7_1<(a0.size : Int):=zy (by first|(with_reducible assumption)|assumption);have hx7:=bt_at a0 x7_1;replace p7:=eq_true p7;replace q7:=eq_true q7
          go_wp2_with (first|((with_reducible refine yB (b:=.append) (xs:=#[.tmp 20,.tmp 25]) rfl ?_);at_builtin;refine Kd.R_append Kd.string (w0:=w) w.heap.size rfl (.tmp 20) (.tmp 25) 68 9 (.string ⟨#[]⟩) 16 rfl Tryz.underlying68 info9 rfl (by decide) (by omega) u5 x5_1 (a0.extract (x6_1 : Int).toNat (x7_1 : Int).toNat) [.string (a0.extract (x6_1 : Int).toNat (x7_1 : Int).toNat)] (fun _ => True) (fun _ => False) rfl rfl ?aP (fun _ hk => hk.elim) ?aF ?aO ?aB ?aS ?aL ?_;(case aP => exact rfl);(case aB => exact (by repeat (with_reducible first|exact HB.out|apply za|apply zb|apply zc)));(case aF => exact (fun _ _ => trivial));(case aO => exact (by (with_reducible repeat (first|apply zm|apply zn|apply zo));exact HO_5.out));(case aS => exact (zB (by repeat (with_reducible first|exact HB.out|apply za|apply zb|apply zc))));(case aL => have:=LMc12.out;omega);intro v121 w13 ho hb hg hat;rw [← Ny120.out] at ho;replace HB:=zh (hb);have HO122:=zh (ho);clear HO_5 ho hb hg hat))
          go_roundg k1
          case measure => have:=HK1.out;omega
          case rel => exact ⟨(y120),(wrap64 (x7_1 + 1)),(wrap64 (x7_1 + 1)),(by first|rfl|(simp;done)|(simp [*];done)),(by first|rfl|(simp;done)|(simp [*];done)),H',⟨by have:=HK1.out;omega⟩,⟨by (with_reducible repeat (first|apply zm|apply zn|apply zo));exact HO122.out⟩,⟨by repeat (with_reducible first|exact HB.out|apply za|apply zb|apply zc)⟩⟩
         rw [if_neg c12] at H;exact absurd H (by simp)
        rw [if_neg c11] at H;exact absurd H (by simp)
       rw [if_neg c10] at H;exact absurd H (by simp)
      rw [if_neg c9] at H;exact absurd H (by simp)
     rw [if_neg c8] at H;have c8b0 : ((bt a0 x7_1) == a1)=false:=zY.mpr c8;have c8b1 : ((bt a0 x7_1) != a1)=true:=zZ.mpr c8;have H':=zh H;clear H;have p7 : 0≤(x7_1 : Int):=zy (by first|(with_reducible assumption)|assumption);have q7 : x7_1<(a0.size : Int):=zy (by first|(with_reducible assumption)|assumption);have hx7:=bt_at a0 x7_1;replace p7:=eq_true p7;replace q7:=eq_true q7
     go_wp2
     go_roundg k1
     case measure => have:=HK1.out;omega
     case rel => exact ⟨(x5_1),(x6_1),(wrap64 (x7_1 + 1)),(by first|rfl|(simp;done)|(simp [*];done)),(by first|rfl|(simp;done)|(simp [*];done)),H',⟨by have:=HK1.out;omega⟩,⟨by (with_reducible repeat (first|apply zm|apply zn|apply zo));exact HO_5.out⟩,⟨by repeat (with_reducible first|exact HB.out|apply za|apply zb|apply zc)⟩⟩
    rw [if_neg c6] at H;exact absurd H (by simp)
   rw [if_neg c5] at H;have c5b0 : decide (x7_1<(a0.size : Int))=false:=decide_eq_false c5;clear c5
   by_cases c14 : 0≤x6_1
   ·
    rw [if_pos c14] at H
    have c14b0:=eq_true c14;have c14b1 : decide (0≤x6_1)=true:=decide_eq_true c14;clear c14
    by_cases c15 : x6_1≤(a0.size : Int)
    ·
     rw [if_pos c15] at H
     have c15b0:=eq_true c15;have c15b1 : decide (x6_1≤(a0.size : Int))=true:=decide_eq_true c15;clear c15
     by_cases c16 : x5_1.length<8796093022208
     ·
      rw [if_pos c16] at H
      have LMc16:=zh c16;clear c16;obtain ⟨y123,hy123⟩ : ∃ y_ : List ByteArray,y_=(x5_1 ++ [a0.extract (x6_1 : Int).toNat a0.size]):=⟨_,rfl⟩;replace H : (some y123)=some r:=by first|(rw [hy123];with_reducible exact H)|(have H2_:=(Option.bind_some _ _).symm.trans H;rw [hy123];with_reducible exact H2_)|(have H2_:=(Option.bind_some _ _).symm.trans H;with_reducible exact H2_)|with_reducible exact H|(rw [hy123];exact H)|exact H
      have Ny123:=zh hy123;clear hy123;obtain rfl:=zU H
      go_wp2_with (first|((with_reducible refine yB (b:=.append) (xs:=#[.tmp 29,.tmp 33]) rfl ?_);at_builtin;refine Kd.R_append Kd.string (w0:=w) w.heap.size rfl (.tmp 29) (.tmp 33) 68 9 (.string ⟨#[]⟩) 16 rfl Tryz.underlying68 info9 rfl (by decide) (by omega) u5 x5_1 (a0.extract (x6_1 : Int).toNat a0.size) [.string (a0.extract (x6_1 : Int).toNat a0.size)] (fun _ => True) (fun _ => False) rfl rfl ?aP (fun _ hk => hk.elim) ?aF ?aO ?aB ?aS ?aL ?_;(case aP => exact rfl);(case aB => exact (by repeat (with_reducible first|exact HB.out|apply za|apply zb|apply zc)));(case aF => exact (fun _ _ => trivial));(case aO => exact (by (with_reducible repeat (first|apply zm|apply zn|apply zo));exact HO_5.out));(case aS => exact (zB (by repeat (with_reducible first|exact HB.out|apply za|apply zb|apply zc))));(case aL => have:=LMc16.out;omega);intro v124 w17 ho hb hg hat;rw [← Ny123.out] at ho;replace HB:=zh (hb);have HO125:=zh (ho);clear HO_5 ho hb hg hat))
      go_ret
      exact ⟨_,by first|rfl|(simp [yt,yu] <;> rfl)|(simp [*,yt,yu] <;> rfl),by (with_reducible repeat (first|apply zm|apply zn|apply zo));exact HO125.out,by repeat (with_reducible first|exact HB.out|apply za|apply zb|apply zc)⟩
     rw [if_neg c16] at H;exact absurd H (by simp)
    rw [if_neg c15] at H;exact absurd H (by simp)
   rw [if_neg c14] at H;exact absurd H (by simp)

end Go.Proofs.YthjgfjlogilleaaGreatDoor.Q
end
section
namespace Go.Proofs.YthjgfjlogilleaaGreatDoor.Q
open Go.RowKit Go.Proofs.YthjgfjlogilleaaGreatDoorW.PrintWords Go.Proofs.YthjgfjlogilleaaGreatDoorW.PrintLast Go.Proofs.YthjgfjlogilleaaGreatDoorW.PrintMore
attribute [local go_sem] max2_int min2_int max_two min_two max_three min_three max_four min_four max2_str min2_str str_geq str_gtr str_leq   -- for this text's walks alone
set_option linter.unusedVariables false
set_option linter.unusedSimpArgs false

mutual
def F9.j0 : Nat→List ByteArray→Bool→Option (Bool)
 | 0,_,_ => none
 | k + 1,x3,x17 => if x17=true then (some false) else (F9.l0 k x3 0)
def F9.l0 : Nat→List ByteArray→Int→Option (Bool)
 | 0,_,_ => none
 | k + 1,x3,x4 => if x4<(x3.length : Int) then (if 0≤x4 then ((F00.f k (rdOf ByteArray.empty x3 x4)).bind fun t130 => (if t130=true then (F9.l0 k x3 (wrap64 (x4 + 1))) else (some false))) else (none)) else (some true)
end
def F9.f (k : Nat) (a0 : ByteArray) : Option (Bool):=if (a0.size : Int) > 65536 then (some false) else ((Fs.f k a0 46).bind fun t126 => (if (t126.length : Int) > 4 then (F9.j0 k t126 true) else (F9.j0 k t126 (decide ((a0.size : Int) > 50)))))
theorem F9.mono_l : ∀ k,(∀ y0 y1,LeO (F9.j0 k y0 y1) (F9.j0 (k + 1) y0 y1))∧(∀ y0 y1,LeO (F9.l0 k y0 y1) (F9.l0 (k + 1) y0 y1))
 | 0 => ⟨fun _ _ r h => by simp [F9.j0] at h,fun _ _ r h => by simp [F9.l0] at h⟩
 | k + 1 => by
  obtain ⟨ih0,ih1⟩:=F9.mono_l k;refine ⟨?_,?_⟩
  ·
   intro y0 y1
   unfold F9.j0
   repeat' first|(with_reducible first|exact ih0 _ _|exact ih1 _ _|exact F00.mono _ _|exact Fs.mono _ _ _|exact zQ _|exact zN _|refine zP ?_ ?_|refine zO ?_ (fun _ => ?_))|refine zP ?_ ?_|refine zO ?_ (fun _ => ?_)
  intro y0 y1;unfold F9.l0
  repeat' first|(with_reducible first|exact ih0 _ _|exact ih1 _ _|exact F00.mono _ _|exact Fs.mono _ _ _|exact zQ _|exact zN _|refine zP ?_ ?_|refine zO ?_ (fun _ => ?_))|refine zP ?_ ?_|refine zO ?_ (fun _ => ?_)
theorem F9.mono : ∀ a0 k,LeO (F9.f k a0) (F9.f (k + 1) a0):=by
 intro a0 k;obtain ⟨ih0,ih1⟩:=F9.mono_l k;unfold F9.f
 repeat' first|(with_reducible first|exact ih0 _ _|exact ih1 _ _|exact F00.mono _ _|exact Fs.mono _ _ _|exact zQ _|exact zN _|refine zP ?_ ?_|refine zO ?_ (fun _ => ?_))|refine zP ?_ ?_|refine zO ?_ (fun _ => ?_)
set_option maxHeartbeats 8000000 in
set_option maxRecDepth 100000 in
theorem F9.calls (k : Nat) (a0 : ByteArray) (r : Bool) (w : World) (h : F9.f k a0=some r) :
  Calls Tryz.prog 29 #[.string a0] w fun e w' => e = .returned (.bool r)∧Below w.heap.size w w':=by
 have HB:=zh (Below.refl w.heap.size w);have H : (if (a0.size : Int) > 65536 then (some false) else ((Fs.f k a0 46).bind fun t126 => (if (t126.length : Int) > 4 then (F9.j0 k t126 true) else (F9.j0 k t126 (decide ((a0.size : Int) > 50))))))=some r:=h;clear h
 by_cases c2 : (a0.size : Int) > 65536
 ·
  rw [if_pos c2] at H
  have c2b0 : decide (65536<(a0.size : Int))=true:=decide_eq_true c2;have c2b1 : decide (65536<a0.size)=true:=decide_eq_true (by omega);clear c2;obtain rfl:=zU H
  go_enter Tryz.func29,Tryz.ntmps29
  go_wp2
  go_ret
  exact ⟨by first|rfl|(simp [yt,yu] <;> rfl)|(simp [*,yt,yu] <;> rfl),by repeat (with_reducible first|exact HB.out|apply za|apply zb|apply zc)⟩
 rw [if_neg c2] at H;have c2b0 : decide (65536<(a0.size : Int))=false:=decide_eq_false c2;have c2b1 : decide (65536<a0.size)=false:=decide_eq_false (by omega);clear c2;replace H:=zT.mp H;obtain ⟨t126,A30,H⟩:=H;replace H : (if (t126.length : Int) > 4 then (F9.j0 k t126 true) else (F9.j0 k t126 (decide ((a0.size : Int) > 50))))=some r:=H;have A3:=zh A30;clear A30;have HC4:=zh H;clear H
 go_enter Tryz.func29,Tryz.ntmps29
 go_upto_region 4 with (first|((with_reducible refine zJ (f:=40) rfl ?_);refine yj (some 9) rfl rfl Tryz.func40 (by kernel_rfl) rfl #[.string a0,.int .u8 46] rfl (by (try simp only [zt,zu,zv]);first|done|rfl|(simp only [zw,zx];rfl)|(simp only [yr,ys,zV,zW];rfl)) ?_;(with_reducible refine (Fs.calls k  a0 46 t126 _ A3.out).mono ?_);rintro e w5 ⟨v127,rfl,ho0,hb⟩;refine ⟨_,rfl,?_⟩;have HO128:=zh (yy ho0 (zB (by repeat (with_reducible first|exact HB.out|apply za|apply zb|apply zc))));replace HB:=zh (zC (by repeat (with_reducible first|exact HB.out|apply za|apply zb|apply zc)) hb);(try clear hb);(try clear hb2);(try clear hk);(try clear hi);(try clear ho0)))
 (try simp only [Act.put,zi,zj,zk])
 go_cut [17] (fun v17 wc => ∃ (kq : Nat) (x17_3 : Bool),v17 = .bool x17_3∧Aside0 (F9.j0 kq t126 x17_3=some r)∧Aside0 (kq≤k)∧Aside0 (Kd.R Kd.string 9 wc w.heap.size (fun _ => True) v127 t126)∧Aside0 (Below w.heap.size w wc))
 case first =>
  have H:=HC4.out;clear HC4
  by_cases c6 : (t126.length : Int) > 4
  ·
   rw [if_pos c6] at H
   have c6b0 : decide (4<(t126.length : Int))=true:=decide_eq_true c6;have c6b1 : decide (4<t126.length)=true:=decide_eq_true (by omega);clear c6;(first|rw [c6b0]|(simp only [zG,zH];rw [c6b0])|skip);have H':=zh H;clear H;obtain ⟨Ao7,co7,eo7⟩:=yk HO128.out;subst eo7
   go_wp2
   go_meet
   case rel => exact ⟨_,(true),(by first|rfl|(simp;done)|(simp [*];done)),H',⟨by first|omega|exact ye _⟩,⟨by (with_reducible repeat (first|apply zm|apply zn|apply zo));exact HO128.out⟩,⟨by repeat (with_reducible first|exact HB.out|apply za|apply zb|apply zc)⟩⟩
  rw [if_neg c6] at H;have c6b0 : decide (4<(t126.length : Int))=false:=decide_eq_false c6;have c6b1 : decide (4<t126.length)=false:=decide_eq_false (by omega);clear c6;(first|rw [c6b0]|(simp only [zG,zH];rw [c6b0])|skip);have H':=zh H;clear H;obtain ⟨Ao8,co8,eo8⟩:=yk HO128.out;subst eo8
  go_wp2
  go_meet
  case rel => exact ⟨_,(decide ((a0.size : Int) > 50)),(by first|rfl|(simp;done)|(simp [*];done)),H',⟨by first|omega|exact ye _⟩,⟨by (with_reducible repeat (first|apply zm|apply zn|apply zo));exact HO128.out⟩,⟨by repeat (with_reducible first|exact HB.out|apply za|apply zb|apply zc)⟩⟩
 case rest =>
  clear HC4
  try clear c2
  try clear c2b0
  try clear c2b1
  try clear p2
  try clear c4
  try clear c6
  try clear c6b0
  try clear c6b1
  obtain ⟨kq,x17_3,rfl,HA,HJ3,HO_3,HB⟩:=hcut
  cases kq with
  | zero => exact absurd HA.out (by simp [F9.j0])
  | succ kj3 =>
   have H:=HA.out;clear HA;simp only [F9.j0] at H
   by_cases c9 : x17_3=true
   ·
    subst c9
    have H1 : (some false)=some r:=by rw [if_pos rfl] at H;exact H
    clear H;have H:=H1;clear H1;obtain rfl:=zU H
    go_wp2
    go_ret
    exact ⟨by first|rfl|(simp [yt,yu] <;> rfl)|(simp [*,yt,yu] <;> rfl),by repeat (with_reducible first|exact HB.out|apply za|apply zb|apply zc)⟩
   replace c9:=yb.mpr c9;subst c9;have H1 : (F9.l0 kj3 t126 0)=some r:=by rw [if_neg (show ¬ (false=true) by decide)] at H;exact H
   clear H;have H:=H1;clear H1;have H':=zh H;clear H
   go_wp2
   go_loopg [4] kj3 (fun kq v4 w' => ∃ (x4_2 : Int),v4 = .int .i64 x4_2∧Aside0 (F9.l0 kq t126 x4_2=some r)∧Aside0 (kq≤kj3)∧Aside0 (Kd.R Kd.string 9 w' w.heap.size (fun _ => True) v127 t126)∧Aside0 (Below w.heap.size w w'))
   case atStart => exact ⟨(0),(by first|rfl|(simp;done)|(simp [*];done)),H',⟨ye _⟩,⟨by (with_reducible repeat (first|apply zm|apply zn|apply zo));exact HO_3.out⟩,⟨by repeat (with_reducible first|exact HB.out|apply za|apply zb|apply zc)⟩⟩
   case round =>
    clear H'
    try clear c2
    try clear c2b0
    try clear c2b1
    try clear p2
    try clear c4
    try clear c6
    try clear c6b0
    try clear c6b1
    try clear c9
    try clear p2
    obtain ⟨x4_2,rfl,HA,HK2,HO_3,HB⟩:=hrel
    cases gk with
    | zero => exact absurd HA.out (by simp [F9.l0])
    | succ k2 =>
     have H:=HA.out;clear HA;simp only [F9.l0] at H
     by_cases c10 : x4_2<(t126.length : Int)
     ·
      rw [if_pos c10] at H
      have c10b0 : decide (x4_2<(t126.length : Int))=true:=decide_eq_true c10;clear c10
      by_cases c11 : 0≤x4_2
      ·
       rw [if_pos c11] at H
       have c11b0 : decide (0≤x4_2)=true:=decide_eq_true c11;clear c11;replace H:=zT.mp H;obtain ⟨t130,A120,H⟩:=H;replace H : (if t130=true then (F9.l0 k2 t126 (wrap64 (x4_2 + 1))) else (some false))=some r:=H;have A12:=zh A120;clear A120
       by_cases c13 : t130=true
       ·
        subst c13
        have H1 : (F9.l0 k2 t126 (wrap64 (x4_2 + 1)))=some r:=by rw [if_pos rfl] at H;exact H
        clear H;have H:=H1;clear H1;have H':=zh H;clear H;obtain ⟨Ao14,co14,eo14⟩:=yk HO_3.out;subst eo14;have p129 : 0≤(x4_2 : Int):=zy (by first|(with_reducible assumption)|assumption);have q129 : x4_2<(t126.length : Int):=zy (by first|(with_reducible assumption)|assumption);obtain ⟨ad129,e129,hx129_0⟩:=Kd.at_string (yh HO_3.out).2.2 x4_2 p129 q129
        cases e129
        replace p129:=eq_true p129;replace q129:=eq_true q129
        go_wp2_with (first|((with_reducible refine zJ (f:=26) rfl ?_);refine yj (some 28) rfl rfl Tryz.func26 (by kernel_rfl) rfl #[.string (rdOf ByteArray.empty t126 x4_2)] rfl (by (try simp only [zt,zu,zv]);first|done|rfl|(simp only [zw,zx];rfl)|(simp only [yr,ys,zV,zW];rfl)) ?_;(with_reducible refine (F00.calls k2  (rdOf ByteArray.empty t126 x4_2) true _ A12.out).mono ?_);rintro e w' ⟨rfl,⟨nd,rfl⟩⟩;refine ⟨_,rfl,?_⟩))
        go_roundg k2
        case measure => have:=HJ3.out;have:=HK2.out;omega
        case rel => exact ⟨(wrap64 (x4_2 + 1)),(by first|rfl|(simp;done)|(simp [*];done)),H',⟨by have:=HJ3.out;have:=HK2.out;omega⟩,⟨by (with_reducible repeat (first|apply zm|apply zn|apply zo));exact HO_3.out⟩,⟨by repeat (with_reducible first|exact HB.out|apply za|apply zb|apply zc)⟩⟩
       replace c13:=yb.mpr c13;subst c13;have H1 : (some false)=some r:=by rw [if_neg (show ¬ (false=true) by decide)] at H;exact H
       clear H;have H:=H1;clear H1;obtain rfl:=zU H;obtain ⟨Ao15,co15,eo15⟩:=yk HO_3.out;subst eo15;have p129 : 0≤(x4_2 : Int):=zy (by first|(with_reducible assumption)|assumption);have q129 : x4_2<(t126.length : Int):=zy (by first|(with_reducible assumption)|assumption);obtain ⟨ad129,e129,hx129_0⟩:=Kd.at_string (yh HO_3.out).2.2 x4_2 p129 q129
       cases e129
       replace p129:=eq_true p129;replace q129:=eq_true q129
       go_wp2_with (first|((with_reducible refine zJ (f:=26) rfl ?_);refine yj (some 28) rfl rfl Tryz.func26 (by kernel_rfl) rfl #[.string (rdOf ByteArray.empty t126 x4_2)] rfl (by (try simp only [zt,zu,zv]);first|done|rfl|(simp only [zw,zx];rfl)|(simp only [yr,ys,zV,zW];rfl)) ?_;(with_reducible refine (F00.calls k2  (rdOf ByteArray.empty t126 x4_2) false _ A12.out).mono ?_);rintro e w' ⟨rfl,⟨nd,rfl⟩⟩;refine ⟨_,rfl,?_⟩))
       go_ret
       exact ⟨by first|rfl|(simp [yt,yu] <;> rfl)|(simp [*,yt,yu] <;> rfl),by repeat (with_reducible first|exact HB.out|apply za|apply zb|apply zc)⟩
      rw [if_neg c11] at H;exact absurd H (by simp)
     rw [if_neg c10] at H;have c10b0 : decide (x4_2<(t126.length : Int))=false:=decide_eq_false c10;clear c10;obtain rfl:=zU H;obtain ⟨Ao16,co16,eo16⟩:=yk HO_3.out;subst eo16
     go_wp2
     go_ret
     exact ⟨by first|rfl|(simp [yt,yu] <;> rfl)|(simp [*,yt,yu] <;> rfl),by repeat (with_reducible first|exact HB.out|apply za|apply zb|apply zc)⟩

end Go.Proofs.YthjgfjlogilleaaGreatDoor.Q
end
section
namespace Go.Proofs.YthjgfjlogilleaaGreatDoor.Q
open Go.RowKit Go.Proofs.YthjgfjlogilleaaGreatDoorW.PrintWords Go.Proofs.YthjgfjlogilleaaGreatDoorW.PrintLast Go.Proofs.YthjgfjlogilleaaGreatDoorW.PrintMore
attribute [local go_sem] max2_int min2_int max_two min_two max_three min_three max_four min_four max2_str min2_str str_geq str_gtr str_leq
set_option linter.unusedVariables false
set_option linter.unusedSimpArgs false

def Ft.l0 : Nat→ByteArray→Int→Int→Option (Int)
 | 0,_,_,_ => none
 | k + 1,x0,x3,x4 => if x4<(x0.size : Int) then (if 0≤x4 then (Ft.l0 k x0 (wrap64 ((wrap64 (x3 * 256)) + (wrap64 (bt x0 x4)))) (wrap64 (x4 + 1))) else (none)) else (some x3)
def Ft.f (k : Nat) (a0 : ByteArray) : Option (Int):=Ft.l0 k a0 0 0
theorem Ft.mono_l : ∀ k,(∀ y0 y1 y2,LeO (Ft.l0 k y0 y1 y2) (Ft.l0 (k + 1) y0 y1 y2))
 | 0 => fun _ _ _ r h => by simp [Ft.l0] at h
 | k + 1 => by
  have ih0:=Ft.mono_l k;intro y0 y1 y2;unfold Ft.l0
  repeat' first|(with_reducible first|exact ih0 _ _ _|exact zQ _|exact zN _|refine zP ?_ ?_|refine zO ?_ (fun _ => ?_))|refine zP ?_ ?_|refine zO ?_ (fun _ => ?_)
theorem Ft.mono : ∀ a0 k,LeO (Ft.f k a0) (Ft.f (k + 1) a0):=by
 intro a0 k;have ih0:=Ft.mono_l k;unfold Ft.f
 repeat' first|(with_reducible first|exact ih0 _ _ _|exact zQ _|exact zN _|refine zP ?_ ?_|refine zO ?_ (fun _ => ?_))|refine zP ?_ ?_|refine zO ?_ (fun _ => ?_)
set_option maxHeartbeats 8000000 in
set_option maxRecDepth 100000 in
theorem Ft.calls (k : Nat) (a0 : ByteArray) (r : Int) (w : World) (h : Ft.f k a0=some r) :
  Calls Tryz.prog 74 #[.string a0] w fun e w' => e = .returned (.int .i64 r)∧Drawn0 w w':=by
 have H : (Ft.l0 k a0 0 0)=some r:=h;clear h;have H':=zh H;clear H
 go_enter Tryz.func74,Tryz.ntmps74
 go_wp2
 go_loopg [3,4] k (fun kq v3 v4 w' => ∃ (x3_1 : Int) (x4_1 : Int),v3 = .int .i64 x3_1∧v4 = .int .i64 x4_1∧Aside0 (Ft.l0 kq a0 x3_1 x4_1=some r)∧Aside0 (kq≤k)∧Drawn0 w w')
 case atStart => exact ⟨(0),(0),(by first|rfl|(simp;done)|(simp [*];done)),(by first|rfl|(simp;done)|(simp [*];done)),H',⟨ye _⟩,by repeat (first|exact yp _|apply yq)⟩
 case round =>
  clear H';obtain ⟨x3_1,x4_1,rfl,rfl,HA,HK1,⟨m1,rfl⟩⟩:=hrel
  cases gk with
  | zero => exact absurd HA.out (by simp [Ft.l0])
  | succ k1 =>
   have H:=HA.out;clear HA;simp only [Ft.l0] at H
   by_cases c2 : x4_1<(a0.size : Int)
   ·
    rw [if_pos c2] at H
    have c2b0 : decide (x4_1<(a0.size : Int))=true:=decide_eq_true c2;clear c2
    by_cases c3 : 0≤x4_1
    ·
     rw [if_pos c3] at H
     have c3b0 : decide (0≤x4_1)=true:=decide_eq_true c3;clear c3;have H':=zh H;clear H;have p4 : 0≤(x4_1 : Int):=zy (by first|(with_reducible assumption)|assumption);have q4 : x4_1<(a0.size : Int):=zy (by first|(with_reducible assumption)|assumption);have hx4:=bt_at a0 x4_1;replace p4:=eq_true p4;replace q4:=eq_true q4
     go_wp2
     go_roundg k1
     case measure => have:=HK1.out;omega
     case rel => exact ⟨(wrap64 ((wrap64 (x3_1 * 256)) + (wrap64 (bt a0 x4_1)))),(wrap64 (x4_1 + 1)),(by first|rfl|(simp;done)|(simp [*];done)),(by first|rfl|(simp;done)|(simp [*];done)),H',⟨by have:=HK1.out;omega⟩,by repeat (first|exact yp _|apply yq)⟩
    rw [if_neg c3] at H;exact absurd H (by simp)
   rw [if_neg c2] at H;have c2b0 : decide (x4_1<(a0.size : Int))=false:=decide_eq_false c2;clear c2;obtain rfl:=zU H
   go_wp2
   go_ret
   exact ⟨by first|rfl|(simp;done)|(simp [*];done),by repeat (first|exact yp _|apply yq)⟩

end Go.Proofs.YthjgfjlogilleaaGreatDoor.Q
end
section
namespace Go.Proofs.YthjgfjlogilleaaGreatDoor.Q
open Go.RowKit Go.Proofs.YthjgfjlogilleaaGreatDoorW.PrintWords Go.Proofs.YthjgfjlogilleaaGreatDoorW.PrintLast Go.Proofs.YthjgfjlogilleaaGreatDoorW.PrintMore
attribute [local go_sem] max2_int min2_int max_two min_two max_three min_three max_four min_four max2_str min2_str str_geq str_gtr str_leq   -- for this text's walks alone
set_option linter.unusedVariables false
set_option linter.unusedSimpArgs false

mutual
def F1.j1 : Nat→ByteArray→Int→Int→Int→ByteArray→Option (Int×Int×ByteArray×ByteArray×Bool)
 | 0,_,_,_,_,_ => none
 | k + 1,x0,x6,x133000,x133001,x133002 => if (x0.size : Int)<(wrap64 (1 + x6)) then (some (0,0,(⟨#[]⟩ : ByteArray),(⟨#[]⟩ : ByteArray),false)) else (if x6=1 then (if 1<(x0.size : Int) then (if 0≤(wrap64 (1 + x6)) then (if (wrap64 (1 + x6))≤(x0.size : Int) then (some (x133000,wrap64 (bt x0 1),x133002,x0.extract ((wrap64 (1 + x6)) : Int).toNat x0.size,true)) else (none)) else (none)) else (none)) else (if 1<(x0.size : Int) then (if (bt x0 1) > 127 then (some (0,0,(⟨#[]⟩ : ByteArray),(⟨#[]⟩ : ByteArray),false)) else (if 1≤9 then (if 9≤(x0.size : Int) then ((Ft.f k (x0.extract 1 9)).bind fun t134 => (if 0≤(wrap64 (1 + x6)) then (if (wrap64 (1 + x6))≤(x0.size : Int) then (some (x133000,wrap64 (t134 - 4611686018427387904),x133002,x0.extract ((wrap64 (1 + x6)) : Int).toNat x0.size,true)) else (none)) else (none))) else (none)) else (none))) else (none)))
def F1.j0 : Nat→ByteArray→Bool→Int→Int→ByteArray→Option (Int×Int×ByteArray×ByteArray×Bool)
 | 0,_,_,_,_,_ => none
 | k + 1,x0,x28,x133000,x133001,x133002 => if x28=true then (if (x0.size : Int)<3 then (some (0,0,(⟨#[]⟩ : ByteArray),(⟨#[]⟩ : ByteArray),false)) else (if 1≤3 then (if 3≤(x0.size : Int) then ((Ft.f k (x0.extract 1 3)).bind fun t133 => (if (x0.size : Int)<(wrap64 (3 + t133)) then (some (0,0,(⟨#[]⟩ : ByteArray),(⟨#[]⟩ : ByteArray),false)) else (if 3≤(wrap64 (3 + t133)) then (if (wrap64 (3 + t133))≤(x0.size : Int) then (if 0≤(wrap64 (3 + t133)) then (some (x133000,x133001,x0.extract 3 ((wrap64 (3 + t133)) : Int).toNat,x0.extract ((wrap64 (3 + t133)) : Int).toNat x0.size,true)) else (none)) else (none)) else (none)))) else (none)) else (none))) else (some (0,0,(⟨#[]⟩ : ByteArray),(⟨#[]⟩ : ByteArray),false))
end
def F1.f (k : Nat) (a0 : ByteArray) : Option (Int×Int×ByteArray×ByteArray×Bool):=if (a0.size : Int)=0 then (some (0,0,(⟨#[]⟩ : ByteArray),(⟨#[]⟩ : ByteArray),false)) else (if 0<(a0.size : Int) then (if (wrap64 (bt a0 0))=0 then (if 1≤(a0.size : Int) then (some (wrap64 (bt a0 0),0,(⟨#[]⟩ : ByteArray),a0.extract 1 a0.size,true)) else (none)) else (if (wrap64 (bt a0 0))=1 then (F1.j1 k a0 1 (wrap64 (bt a0 0)) 0 (⟨#[]⟩ : ByteArray)) else (if (wrap64 (bt a0 0))=2 then (F1.j1 k a0 8 (wrap64 (bt a0 0)) 0 (⟨#[]⟩ : ByteArray)) else (if (wrap64 (bt a0 0))=3 then (F1.j0 k a0 ((wrap64 (bt a0 0)) == 3) (wrap64 (bt a0 0)) 0 (⟨#[]⟩ : ByteArray)) else (if (wrap64 (bt a0 0))=4 then (F1.j0 k a0 ((wrap64 (bt a0 0)) == 4) (wrap64 (bt a0 0)) 0 (⟨#[]⟩ : ByteArray)) else (F1.j0 k a0 ((wrap64 (bt a0 0)) == 5) (wrap64 (bt a0 0)) 0 (⟨#[]⟩ : ByteArray))))))) else (none))
theorem F1.mono_l : ∀ k,(∀ y0 y1 y2 y3 y4,LeO (F1.j1 k y0 y1 y2 y3 y4) (F1.j1 (k + 1) y0 y1 y2 y3 y4))∧(∀ y0 y1 y2 y3 y4,LeO (F1.j0 k y0 y1 y2 y3 y4) (F1.j0 (k + 1) y0 y1 y2 y3 y4))
 | 0 => ⟨fun _ _ _ _ _ r h => by simp [F1.j1] at h,fun _ _ _ _ _ r h => by simp [F1.j0] at h⟩
 | k + 1 => by
  obtain ⟨ih0,ih1⟩:=F1.mono_l k;refine ⟨?_,?_⟩
  ·
   intro y0 y1 y2 y3 y4
   unfold F1.j1
   repeat' first|(with_reducible first|exact ih0 _ _ _ _ _|exact ih1 _ _ _ _ _|exact Ft.mono _ _|exact zQ _|exact zN _|refine zP ?_ ?_|refine zO ?_ (fun _ => ?_))|refine zP ?_ ?_|refine zO ?_ (fun _ => ?_)
  intro y0 y1 y2 y3 y4;unfold F1.j0
  repeat' first|(with_reducible first|exact ih0 _ _ _ _ _|exact ih1 _ _ _ _ _|exact Ft.mono _ _|exact zQ _|exact zN _|refine zP ?_ ?_|refine zO ?_ (fun _ => ?_))|refine zP ?_ ?_|refine zO ?_ (fun _ => ?_)
theorem F1.mono : ∀ a0 k,LeO (F1.f k a0) (F1.f (k + 1) a0):=by
 intro a0 k;obtain ⟨ih0,ih1⟩:=F1.mono_l k;unfold F1.f
 repeat' first|(with_reducible first|exact ih0 _ _ _ _ _|exact ih1 _ _ _ _ _|exact Ft.mono _ _|exact zQ _|exact zN _|refine zP ?_ ?_|refine zO ?_ (fun _ => ?_))|refine zP ?_ ?_|refine zO ?_ (fun _ => ?_)
def F1.T22 : Bool×List (List Nat×List Nat):=(true,[([],[]),([],[]),([],[]),([2],[2]),([1,3],[1,3]),([0,0],[0]),([4,5,0,1,2,3,4,5],[4]),([6,0,1,2,3,4,5,6],[])])
def F1.B22 : List Nat:=[0,0,0,4,14,1,63,127]
theorem F1.tab22 : rtab .any (opsOf Tryz.f65 22)=F1.T22:=by kernel_rfl
theorem F1.bits22 : waitsOk F1.T22.2 F1.B22=true:=by kernel_rfl
def F1.T30 : Bool×List (List Nat×List Nat):=(true,[([],[]),([],[]),([],[]),([2],[2]),([1,3],[1,3]),([0,0],[0]),([4,5,0,1,2,3,4,5],[4]),([6,0,1,2,3,4,5,6],[])])
def F1.B30 : List Nat:=[0,0,0,4,14,1,63,127]
theorem F1.tab30 : rtab .any (opsOf Tryz.f65 30)=F1.T30:=by kernel_rfl
theorem F1.bits30 : waitsOk F1.T30.2 F1.B30=true:=by kernel_rfl
set_option maxHeartbeats 8000000 in
set_option maxRecDepth 100000 in
theorem F1.calls (k : Nat) (a0 : ByteArray) (r1 : Int) (r2 : Int) (r3 : ByteArray) (r4 : ByteArray) (r5 : Bool) (w : World) (h : F1.f k a0=some (r1,r2,r3,r4,r5)) :
  Calls Tryz.prog 65 #[.string a0] w fun e w' => e = .returned (.tuple #[.agg #[.int .i64 r1,.int .i64 r2,.string r3],.string r4,.bool r5])∧Below w.heap.size w w':=by
 have hu49:=Tryz.underlying49;have HB:=zh (Below.refl w.heap.size w);have H : (if (a0.size : Int)=0 then (some (0,0,(⟨#[]⟩ : ByteArray),(⟨#[]⟩ : ByteArray),false)) else (if 0<(a0.size : Int) then (if (wrap64 (bt a0 0))=0 then (if 1≤(a0.size : Int) then (some (wrap64 (bt a0 0),0,(⟨#[]⟩ : ByteArray),a0.extract 1 a0.size,true)) else (none)) else (if (wrap64 (bt a0 0))=1 then (F1.j1 k a0 1 (wrap64 (bt a0 0)) 0 (⟨#[]⟩ : ByteArray)) else (if (wrap64 (bt a0 0))=2 then (F1.j1 k a0 8 (wrap64 (bt a0 0)) 0 (⟨#[]⟩ : ByteArray)) else (if (wrap64 (bt a0 0))=3 then (F1.j0 k a0 ((wrap64 (bt a0 0)) == 3) (wrap64 (bt a0 0)) 0 (⟨#[]⟩ : ByteArray)) else (if (wrap64 (bt a0 0))=4 then (F1.j0 k a0 ((wrap64 (bt a0 0)) == 4) (wrap64 (bt a0 0)) 0 (⟨#[]⟩ : ByteArray)) else (F1.j0 k a0 ((wrap64 (bt a0 0)) == 5) (wrap64 (bt a0 0)) 0 (⟨#[]⟩ : ByteArray))))))) else (none)))=some (r1,r2,r3,r4,r5):=h;clear h
 by_cases c2 : (a0.size : Int)=0
 ·
  rw [if_pos c2] at H
  have c2b0 : ((a0.size : Int) == 0)=true:=ya.mpr c2;have c2b1 : ((a0.size : Int) != 0)=false:=zX.mpr c2;clear c2;simp only [Option.some.injEq,Prod.mk.injEq] at H;obtain ⟨rfl,rfl,rfl,rfl,rfl⟩:=H
  go_enter Tryz.func65,Tryz.ntmps65
  go_wp2_with (first|((with_reducible refine zK (N:=2) rfl ?_);refine zI ?hg (N:=2) ?hd (cs:=#[.int .i64 0,.int .i64 0,.string (⟨#[]⟩ : ByteArray)]) (t:=49) ?hr ?_;(case hd => rfl);(case hg => rfl);(case hr => first|(go_simp;done)|(go_simp;rfl));intro gb131 hg w3 hbox hb;have BK131:=zh (hbox);have GW131:=zh ((by rw [hg];exact (zB (by repeat (with_reducible first|exact HB.out|apply za|apply zb|apply zc))) : w.heap.size≤gb131));have GE131:=zh ((by rw [hg];exact (zB (by repeat (with_reducible first|exact HB.out|apply za|apply zb|apply zc))) : w.heap.size≤gb131));replace HB:=zh (zC (by repeat (with_reducible first|exact HB.out|apply za|apply zb|apply zc)) hb);clear hb hbox hg;have hcz4_0 : w3.cell? ⟨gb131,0,none⟩=some (.int .i64 0):=(zz BK131.out 0).trans rfl;have hcz4_1 : w3.cell? ⟨gb131,1,none⟩=some (.int .i64 0):=(zz BK131.out 1).trans rfl;have hcz4_2 : w3.cell? ⟨gb131,2,none⟩=some (.string (⟨#[]⟩ : ByteArray)):=(zz BK131.out 2).trans rfl;have hfz4_0:=zA BK131.out 0;have hfz4_1:=zA BK131.out 1;have hfz4_2:=zA BK131.out 2))
  refine bodyPost_ret (results_ctt rfl _ _ gb131 49 #[.int .i64 0,.int .i64 0,.string (⟨#[]⟩ : ByteArray)] (0,0) _ rfl (by (with_reducible repeat (first|refine ze ?_ _|refine zf ?_|refine zg ?_ _));refine zL (cs:=#[.int .i64 0,.int .i64 0,.string (⟨#[]⟩ : ByteArray)]) ?_ 2 _ rfl;(with_reducible repeat (first|refine ze ?_ _|refine zf ?_|refine zg ?_ _));refine zL (cs:=#[.int .i64 0,.int .i64 0,.string (⟨#[]⟩ : ByteArray)]) ?_ 1 _ rfl;(with_reducible repeat (first|refine ze ?_ _|refine zf ?_|refine zg ?_ _));refine zL (cs:=#[.int .i64 0,.int .i64 0,.string (⟨#[]⟩ : ByteArray)]) ?_ 0 _ rfl;(with_reducible repeat (first|refine ze ?_ _|refine zf ?_|refine zg ?_ _));exact BK131.out) Tryz.underlying49 rfl (by kernel_rfl)) rfl ?_;exact ⟨by first|rfl|(simp [yt,yu] <;> rfl)|(simp [*,yt,yu] <;> rfl),by repeat (with_reducible first|exact HB.out|apply za|apply zb|apply zc|refine zd ?_ GE131.out)⟩
 rw [if_neg c2] at H;have c2b0 : ((a0.size : Int) == 0)=false:=zY.mpr c2;have c2b1 : ((a0.size : Int) != 0)=true:=zZ.mpr c2
 by_cases c5 : 0<(a0.size : Int)
 ·
  rw [if_pos c5] at H
  have c5b0 : decide (0<(a0.size : Int))=true:=decide_eq_true c5;have c5b1 : decide (0<a0.size)=true:=decide_eq_true (by omega);clear c5;have HC7:=zh H;clear H
  go_enter Tryz.func65,Tryz.ntmps65
  go_upto_block 0 with (first|((with_reducible refine zK (N:=2) rfl ?_);refine zI ?hg (N:=2) ?hd (cs:=#[.int .i64 0,.int .i64 0,.string (⟨#[]⟩ : ByteArray)]) (t:=49) ?hr ?_;(case hd => rfl);(case hg => rfl);(case hr => first|(go_simp;done)|(go_simp;rfl));intro gb131 hg w8 hbox hb;have BK131:=zh (hbox);have GW131:=zh ((by rw [hg];exact (zB (by repeat (with_reducible first|exact HB.out|apply za|apply zb|apply zc))) : w.heap.size≤gb131));have GE131:=zh ((by rw [hg];exact (zB (by repeat (with_reducible first|exact HB.out|apply za|apply zb|apply zc))) : w.heap.size≤gb131));replace HB:=zh (zC (by repeat (with_reducible first|exact HB.out|apply za|apply zb|apply zc)) hb);clear hb hbox hg;have p6 : 0≤(0 : Int):=(by omega);have q6 : 0<a0.size:=(by have : (0 : Int)<(a0.size : Int):=zy (by first|(with_reducible assumption)|assumption);omega);have hx6 : ∀ h : 0<a0.size,((a0[0]'h).toNat : Int)=bt a0 0:=bt_at a0 0;clear p6;have qi6 : (0<(a0.size : Int))=True:=eq_true (zy (by first|(with_reducible assumption)|assumption));replace q6:=eq_true q6)|((with_reducible refine zK (N:=5) rfl ?_);refine zI ?hg (N:=5) ?hd (cs:=#[.int .i64 0,.int .i64 0,.string (⟨#[]⟩ : ByteArray)]) (t:=49) ?hr ?_;(case hd => rfl);(case hg => rfl);(case hr => first|(go_simp;done)|(go_simp;rfl));intro gb132 hg w9 hbox hb;have BK132:=zh (hbox);have GW132:=zh ((by rw [hg];exact (zB (by repeat (with_reducible first|exact HB.out|apply za|apply zb|apply zc|refine zd ?_ GE131.out))) : w.heap.size≤gb132));have GE132:=zh ((by rw [hg];exact (zB (by repeat (with_reducible first|exact HB.out|apply za|apply zb|apply zc|refine zd ?_ GE131.out))) : w.heap.size≤gb132));replace HB:=zh (zC (by repeat (with_reducible first|exact HB.out|apply za|apply zb|apply zc|refine zd ?_ GE131.out)) hb);have NB131_132:=zh ((by rw [hg];exact yc (yi (g:=gb131) (o:=.cells #[.int .i64 0,.int .i64 0,.string (⟨#[]⟩ : ByteArray)] 49 (0,0)) (by (with_reducible repeat (first|refine ze ?_ _|refine zf ?_|refine zg ?_ _));exact BK131.out)) : gb131≠gb132));have NB132_131:=zh ((by rw [hg];exact yd (yi (g:=gb131) (o:=.cells #[.int .i64 0,.int .i64 0,.string (⟨#[]⟩ : ByteArray)] 49 (0,0)) (by (with_reducible repeat (first|refine ze ?_ _|refine zf ?_|refine zg ?_ _));exact BK131.out)) : gb132≠gb131));replace BK131:=zh (zD (g:=gb131) (o:=.cells #[.int .i64 0,.int .i64 0,.string (⟨#[]⟩ : ByteArray)] 49 (0,0)) (by (with_reducible repeat (first|refine ze ?_ _|refine zf ?_|refine zg ?_ _));exact BK131.out) hb);clear hb hbox hg;have hnb10:=NB132_131.out;have hnc10:=NB131_132.out;have hcz11_0 : w9.cell? ⟨gb132,0,none⟩=some (.int .i64 0):=(zz BK132.out 0).trans rfl;have hcz11_1 : w9.cell? ⟨gb132,1,none⟩=some (.int .i64 0):=(zz BK132.out 1).trans rfl;have hcz11_2 : w9.cell? ⟨gb132,2,none⟩=some (.string (⟨#[]⟩ : ByteArray)):=(zz BK132.out 2).trans rfl;have hfz11_0:=zA BK132.out 0;have hfz11_1:=zA BK132.out 1;have hfz11_2:=zA BK132.out 2))
  (try simp only [Act.put,zi,zj,zk])
  go_cut [6] (fun v6 wc => ∃ (kq : Nat) (x6_6 : Int) (x132000_6 : Int) (x132001_6 : Int) (x132002_6 : ByteArray) (x133002_6 : ByteArray),v6 = .int .i64 x6_6∧Aside0 (F1.j1 kq a0 x6_6 (wrap64 (bt a0 0)) 0 x133002_6=some (r1,r2,r3,r4,r5))∧Aside0 (kq≤k)∧Aside0 (wc.heap[gb131]? = some (.cells #[.int .i64 x132000_6,.int .i64 x132001_6,.string x132002_6] 49 (0,0)))∧Aside0 (wc.heap[gb132]? = some (.cells #[.int .i64 (wrap64 (bt a0 0)),.int .i64 0,.string x133002_6] 49 (0,0)))∧Aside0 (Below w.heap.size w wc))
  case first =>
   have H:=HC7.out;clear HC7
   by_cases c12 : (wrap64 (bt a0 0))=0
   ·
    rw [if_pos c12] at H
    have c12b0 : ((wrap64 (bt a0 0)) == 0)=true:=ya.mpr c12;have c12b1 : ((wrap64 (bt a0 0)) != 0)=false:=zX.mpr c12;clear c12;(first|rw [c12b0]|(simp only [zG,zH];rw [c12b0])|skip)
    by_cases c13 : 1≤(a0.size : Int)
    ·
     rw [if_pos c13] at H
     have c13b0:=eq_true c13;have c13b1 : decide (1≤(a0.size : Int))=true:=decide_eq_true c13;clear c13;simp only [Option.some.injEq,Prod.mk.injEq] at H;obtain ⟨rfl,rfl,rfl,rfl,rfl⟩:=H
     try go_wp2
     have n0_ : Aside0 ((((w9.setCell ⟨gb132,0,none⟩ (.int .i64 (wrap64 (bt a0 0)))).setCell ⟨gb132,1,none⟩ (.int .i64 0)).setCell ⟨gb132,2,none⟩ (.string (⟨#[]⟩ : ByteArray))).heap[gb131]? = some (.cells #[.int .i64 0,.int .i64 0,.string (⟨#[]⟩ : ByteArray)] 49 (0,0))):=⟨by (with_reducible repeat (first|refine ze ?_ _|refine zf ?_|refine zg ?_ _));refine zS ?_ NB131_132.out _;(with_reducible repeat (first|refine ze ?_ _|refine zf ?_|refine zg ?_ _));refine zS ?_ NB131_132.out _;(with_reducible repeat (first|refine ze ?_ _|refine zf ?_|refine zg ?_ _));refine zS ?_ NB131_132.out _;(with_reducible repeat (first|refine ze ?_ _|refine zf ?_|refine zg ?_ _));exact BK131.out⟩;have n1_ : Aside0 ((((w9.setCell ⟨gb132,0,none⟩ (.int .i64 (wrap64 (bt a0 0)))).setCell ⟨gb132,1,none⟩ (.int .i64 0)).setCell ⟨gb132,2,none⟩ (.string (⟨#[]⟩ : ByteArray))).heap[gb132]? = some (.cells #[.int .i64 (wrap64 (bt a0 0)),.int .i64 0,.string (⟨#[]⟩ : ByteArray)] 49 (0,0))):=⟨by (with_reducible repeat (first|refine ze ?_ _|refine zf ?_|refine zg ?_ _));refine zL (cs:=#[.int .i64 (wrap64 (bt a0 0)),.int .i64 0,.string (⟨#[]⟩ : ByteArray)]) ?_ 2 _ rfl;(with_reducible repeat (first|refine ze ?_ _|refine zf ?_|refine zg ?_ _));refine zL (cs:=#[.int .i64 (wrap64 (bt a0 0)),.int .i64 0,.string (⟨#[]⟩ : ByteArray)]) ?_ 1 _ rfl;(with_reducible repeat (first|refine ze ?_ _|refine zf ?_|refine zg ?_ _));refine zL (cs:=#[.int .i64 0,.int .i64 0,.string (⟨#[]⟩ : ByteArray)]) ?_ 0 _ rfl;(with_reducible repeat (first|refine ze ?_ _|refine zf ?_|refine zg ?_ _));exact BK132.out⟩;have n2_ : Aside0 (Below w.heap.size w (((w9.setCell ⟨gb132,0,none⟩ (.int .i64 (wrap64 (bt a0 0)))).setCell ⟨gb132,1,none⟩ (.int .i64 0)).setCell ⟨gb132,2,none⟩ (.string (⟨#[]⟩ : ByteArray)))):=⟨by repeat (with_reducible first|exact HB.out|apply za|apply zb|apply zc|refine zd ?_ GE131.out|refine zd ?_ GE132.out)⟩;(try clear BK131);(try clear BK132);(try clear HB);generalize (((w9.setCell ⟨gb132,0,none⟩ (.int .i64 (wrap64 (bt a0 0)))).setCell ⟨gb132,1,none⟩ (.int .i64 0)).setCell ⟨gb132,2,none⟩ (.string (⟨#[]⟩ : ByteArray)))=w14 at n0_ n1_ n2_ ⊢;have BK131:=n0_;have BK132:=n1_;have HB:=n2_;clear n0_ n1_ n2_;replace BK131:=zh (zf BK131.out);replace BK132:=zh (zf BK132.out);replace HB:=zh (zc HB.out);refine start_ (n:=6) (S:=fun w' => w'.cell? ⟨gb132,0,none⟩=some (.int .i64 (wrap64 (bt a0 0)))∧w'.cell? ⟨gb132,1,none⟩=some (.int .i64 0)∧w'.cell? ⟨gb132,2,none⟩=some (.string (⟨#[]⟩ : ByteArray))) (ds:=[]) (bm_ 0 6) (by kernel_rfl) rfl rfl ⟨(zz BK132.out 0).trans rfl,(zz BK132.out 1).trans rfl,(zz BK132.out 2).trans rfl⟩ (fun hHeld => ?_);generalize w14.drew=w15 at BK131 BK132 HB hHeld ⊢;refine pure_ (i:=1) (N:=some 22) (v:=?_) (a':=?_) #[false,true,false,false,false,false] rfl rfl (by kernel_rfl) (fun _ _ _ h => h) (Or.inl ⟨by rfl,?_⟩) ?_ ?_;rotate_left
     ·
      intro w'
      go_simp
      with_reducible rfl
     rotate_left
     ·
      simp only [Act.put,zi,zj,zk,zG,zH]
      rfl
     refine pure_ (i:=2) (N:=some 23) (v:=?_) (a':=?_) #[false,true,true,false,false,false] rfl rfl (by kernel_rfl) (fun _ _ _ h => h) (Or.inl ⟨by rfl,?_⟩) ?_ ?_;rotate_left
     ·
      intro w'
      go_simp
      with_reducible rfl
     rotate_left
     ·
      simp only [Act.put,zi,zj,zk,zG,zH]
      rfl
     refine take_ (i:=0) (N:=some 21) (v:=?_) (a':=?_) (bm_ 3 6) rfl rfl (by kernel_rfl) (fun _ _ _ h => h) (Or.inl ⟨by rfl,?_⟩) hHeld ?_ ?_;rotate_left
     ·
      rintro w' ⟨s0,s1,s2⟩
      go_simp
      with_reducible rfl
     rotate_left
     ·
      simp only [Act.put,zi,zj,zk,zG,zH]
      rfl
     refine one_ (i:=3) (N:=none) (bm_ 4 6) rfl rfl (by kernel_rfl) (by decide) (fun K hK => ?_);have hs16 : w15.cell? ⟨gb131,0,none⟩=some (.int .i64 0):=(zz BK131.out 0).trans rfl;have hfs16:=zA BK131.out 0;have hns16_1:=NB132_131.out;have hms16_1:=NB131_132.out;have hs17 : w15.cell? ⟨gb131,1,none⟩=some (.int .i64 0):=(zz BK131.out 1).trans rfl;have hfs17:=zA BK131.out 1;have hns17_1:=NB132_131.out;have hms17_1:=NB131_132.out;have hs18 : w15.cell? ⟨gb131,2,none⟩=some (.string (⟨#[]⟩ : ByteArray)):=(zz BK131.out 2).trans rfl;have hfs18:=zA BK131.out 2;have hns18_1:=NB132_131.out;have hms18_1:=NB131_132.out;refine skip_ (w1:=?_) (by rfl) rfl ?_ ?_;rotate_left
     ·
      go_simp
      rfl
     refine hK.out _ _ ⟨((zR (p:=⟨gb131,_,none⟩) NB132_131.out _).trans (((zR (p:=⟨gb131,_,none⟩) NB132_131.out _).trans (((zR (p:=⟨gb131,_,none⟩) NB132_131.out _).trans (hHeld.1)))))),((zR (p:=⟨gb131,_,none⟩) NB132_131.out _).trans (((zR (p:=⟨gb131,_,none⟩) NB132_131.out _).trans (((zR (p:=⟨gb131,_,none⟩) NB132_131.out _).trans (hHeld.2.1)))))),((zR (p:=⟨gb131,_,none⟩) NB132_131.out _).trans (((zR (p:=⟨gb131,_,none⟩) NB132_131.out _).trans (((zR (p:=⟨gb131,_,none⟩) NB132_131.out _).trans (hHeld.2.2))))))⟩ (fun hHeld => ?_);clear hK K;refine pure_ (i:=4) (N:=some 3) (v:=?_) (a':=?_) (bm_ 5 6) rfl rfl (by kernel_rfl) (fun _ _ _ h => h) (Or.inl ⟨by rfl,?_⟩) ?_ ?_;rotate_left
     ·
      intro w'
      go_simp
      with_reducible rfl
     rotate_left
     ·
      simp only [Act.put,zi,zj,zk,zG,zH]
      rfl
     refine pure_ (i:=5) (N:=some 4) (v:=?_) (a':=?_) (bm_ 6 6) rfl rfl (by kernel_rfl) (fun _ _ _ h => h) (Or.inl ⟨by rfl,?_⟩) ?_ ?_;rotate_left
     ·
      intro w'
      go_simp
      with_reducible rfl
     rotate_left
     ·
      simp only [Act.put,zi,zj,zk,zG,zH]
      rfl
     refine done_ (by kernel_rfl) ?_
     try go_wp2
     refine bodyPost_ret (results_ctt rfl _ _ gb131 49 #[.int .i64 (wrap64 (bt a0 0)),.int .i64 0,.string (⟨#[]⟩ : ByteArray)] (0,0) _ rfl (by (with_reducible repeat (first|refine ze ?_ _|refine zf ?_|refine zg ?_ _));refine zL (cs:=#[.int .i64 (wrap64 (bt a0 0)),.int .i64 0,.string (⟨#[]⟩ : ByteArray)]) ?_ 2 _ rfl;(with_reducible repeat (first|refine ze ?_ _|refine zf ?_|refine zg ?_ _));refine zL (cs:=#[.int .i64 (wrap64 (bt a0 0)),.int .i64 0,.string (⟨#[]⟩ : ByteArray)]) ?_ 1 _ rfl;(with_reducible repeat (first|refine ze ?_ _|refine zf ?_|refine zg ?_ _));refine zL (cs:=#[.int .i64 0,.int .i64 0,.string (⟨#[]⟩ : ByteArray)]) ?_ 0 _ rfl;(with_reducible repeat (first|refine ze ?_ _|refine zf ?_|refine zg ?_ _));exact BK131.out) Tryz.underlying49 rfl (by kernel_rfl)) rfl ?_;exact ⟨by first|rfl|(simp [yt,yu] <;> rfl)|(simp [*,yt,yu] <;> rfl),by repeat (with_reducible first|exact HB.out|apply za|apply zb|apply zc|refine zd ?_ GE131.out|refine zd ?_ GE132.out)⟩
    rw [if_neg c13] at H;exact absurd H (by simp)
   rw [if_neg c12] at H;have c12b0 : ((wrap64 (bt a0 0)) == 0)=false:=zY.mpr c12;have c12b1 : ((wrap64 (bt a0 0)) != 0)=true:=zZ.mpr c12;(first|rw [c12b0]|(simp only [zG,zH];rw [c12b0])|skip)
   by_cases c19 : (wrap64 (bt a0 0))=1
   ·
    rw [if_pos c19] at H
    have c19b0 : ((wrap64 (bt a0 0)) == 1)=true:=ya.mpr c19;have c19b1 : ((wrap64 (bt a0 0)) != 1)=false:=zX.mpr c19;clear c19;have H':=zh H;clear H
    go_wp2
    go_meet
    case rel => exact ⟨_,(1),(0),(0),((⟨#[]⟩ : ByteArray)),((⟨#[]⟩ : ByteArray)),(by first|rfl|(simp;done)|(simp [*];done)),H',⟨by first|omega|exact ye _⟩,⟨by (with_reducible repeat (first|refine ze ?_ _|refine zf ?_|refine zg ?_ _));refine zS ?_ NB131_132.out _;(with_reducible repeat (first|refine ze ?_ _|refine zf ?_|refine zg ?_ _));refine zS ?_ NB131_132.out _;(with_reducible repeat (first|refine ze ?_ _|refine zf ?_|refine zg ?_ _));refine zS ?_ NB131_132.out _;(with_reducible repeat (first|refine ze ?_ _|refine zf ?_|refine zg ?_ _));exact BK131.out⟩,⟨by (with_reducible repeat (first|refine ze ?_ _|refine zf ?_|refine zg ?_ _));refine zL (cs:=#[.int .i64 (wrap64 (bt a0 0)),.int .i64 0,.string (⟨#[]⟩ : ByteArray)]) ?_ 2 _ rfl;(with_reducible repeat (first|refine ze ?_ _|refine zf ?_|refine zg ?_ _));refine zL (cs:=#[.int .i64 (wrap64 (bt a0 0)),.int .i64 0,.string (⟨#[]⟩ : ByteArray)]) ?_ 1 _ rfl;(with_reducible repeat (first|refine ze ?_ _|refine zf ?_|refine zg ?_ _));refine zL (cs:=#[.int .i64 0,.int .i64 0,.string (⟨#[]⟩ : ByteArray)]) ?_ 0 _ rfl;(with_reducible repeat (first|refine ze ?_ _|refine zf ?_|refine zg ?_ _));exact BK132.out⟩,⟨by repeat (with_reducible first|exact HB.out|apply za|apply zb|apply zc|refine zd ?_ GE131.out|refine zd ?_ GE132.out)⟩⟩
   rw [if_neg c19] at H;have c19b0 : ((wrap64 (bt a0 0)) == 1)=false:=zY.mpr c19;have c19b1 : ((wrap64 (bt a0 0)) != 1)=true:=zZ.mpr c19
   by_cases c20 : (wrap64 (bt a0 0))=2
   ·
    rw [if_pos c20] at H
    have c20b0 : ((wrap64 (bt a0 0)) == 2)=true:=ya.mpr c20;have c20b1 : ((wrap64 (bt a0 0)) != 2)=false:=zX.mpr c20;clear c20;have H':=zh H;clear H
    go_wp2
    go_meet
    case rel => exact ⟨_,(8),(0),(0),((⟨#[]⟩ : ByteArray)),((⟨#[]⟩ : ByteArray)),(by first|rfl|(simp;done)|(simp [*];done)),H',⟨by first|omega|exact ye _⟩,⟨by (with_reducible repeat (first|refine ze ?_ _|refine zf ?_|refine zg ?_ _));refine zS ?_ NB131_132.out _;(with_reducible repeat (first|refine ze ?_ _|refine zf ?_|refine zg ?_ _));refine zS ?_ NB131_132.out _;(with_reducible repeat (first|refine ze ?_ _|refine zf ?_|refine zg ?_ _));refine zS ?_ NB131_132.out _;(with_reducible repeat (first|refine ze ?_ _|refine zf ?_|refine zg ?_ _));exact BK131.out⟩,⟨by (with_reducible repeat (first|refine ze ?_ _|refine zf ?_|refine zg ?_ _));refine zL (cs:=#[.int .i64 (wrap64 (bt a0 0)),.int .i64 0,.string (⟨#[]⟩ : ByteArray)]) ?_ 2 _ rfl;(with_reducible repeat (first|refine ze ?_ _|refine zf ?_|refine zg ?_ _));refine zL (cs:=#[.int .i64 (wrap64 (bt a0 0)),.int .i64 0,.string (⟨#[]⟩ : ByteArray)]) ?_ 1 _ rfl;(with_reducible repeat (first|refine ze ?_ _|refine zf ?_|refine zg ?_ _));refine zL (cs:=#[.int .i64 0,.int .i64 0,.string (⟨#[]⟩ : ByteArray)]) ?_ 0 _ rfl;(with_reducible repeat (first|refine ze ?_ _|refine zf ?_|refine zg ?_ _));exact BK132.out⟩,⟨by repeat (with_reducible first|exact HB.out|apply za|apply zb|apply zc|refine zd ?_ GE131.out|refine zd ?_ GE132.out)⟩⟩
   rw [if_neg c20] at H;have c20b0 : ((wrap64 (bt a0 0)) == 2)=false:=zY.mpr c20;have c20b1 : ((wrap64 (bt a0 0)) != 2)=true:=zZ.mpr c20;have HC21:=zh H;clear H
   go_upto_if 28 with (fail)
   go_cut [28] (fun v28 wc => ∃ (kq : Nat) (x28_20 : Bool),v28 = .bool x28_20∧Aside0 (F1.j0 kq a0 x28_20 (wrap64 (bt a0 0)) 0 (⟨#[]⟩ : ByteArray)=some (r1,r2,r3,r4,r5))∧Aside0 (kq≤k)∧Aside0 (wc.heap[gb131]? = some (.cells #[.int .i64 0,.int .i64 0,.string (⟨#[]⟩ : ByteArray)] 49 (0,0)))∧Aside0 (wc.heap[gb132]? = some (.cells #[.int .i64 (wrap64 (bt a0 0)),.int .i64 0,.string (⟨#[]⟩ : ByteArray)] 49 (0,0)))∧Aside0 (Below w.heap.size w wc))
   case first =>
    have H:=HC21.out;clear HC21
    by_cases c22 : (wrap64 (bt a0 0))=3
    ·
     rw [if_pos c22] at H
     have c22b0 : ((wrap64 (bt a0 0)) == 3)=true:=ya.mpr c22;have c22b1 : ((wrap64 (bt a0 0)) != 3)=false:=zX.mpr c22;clear c22;(first|rw [c22b0]|(simp only [zG,zH];rw [c22b0])|skip);have H':=zh H;clear H
     go_wp2
     go_meet
     case rel => exact ⟨_,(((wrap64 (bt a0 0)) == 3)),(by first|rfl|(simp;done)|(simp [*];done)),H',⟨by first|omega|exact ye _⟩,⟨by (with_reducible repeat (first|refine ze ?_ _|refine zf ?_|refine zg ?_ _));refine zS ?_ NB131_132.out _;(with_reducible repeat (first|refine ze ?_ _|refine zf ?_|refine zg ?_ _));refine zS ?_ NB131_132.out _;(with_reducible repeat (first|refine ze ?_ _|refine zf ?_|refine zg ?_ _));refine zS ?_ NB131_132.out _;(with_reducible repeat (first|refine ze ?_ _|refine zf ?_|refine zg ?_ _));exact BK131.out⟩,⟨by (with_reducible repeat (first|refine ze ?_ _|refine zf ?_|refine zg ?_ _));refine zL (cs:=#[.int .i64 (wrap64 (bt a0 0)),.int .i64 0,.string (⟨#[]⟩ : ByteArray)]) ?_ 2 _ rfl;(with_reducible repeat (first|refine ze ?_ _|refine zf ?_|refine zg ?_ _));refine zL (cs:=#[.int .i64 (wrap64 (bt a0 0)),.int .i64 0,.string (⟨#[]⟩ : ByteArray)]) ?_ 1 _ rfl;(with_reducible repeat (first|refine ze ?_ _|refine zf ?_|refine zg ?_ _));refine zL (cs:=#[.int .i64 0,.int .i64 0,.string (⟨#[]⟩ : ByteArray)]) ?_ 0 _ rfl;(with_reducible repeat (first|refine ze ?_ _|refine zf ?_|refine zg ?_ _));exact BK132.out⟩,⟨by repeat (with_reducible first|exact HB.out|apply za|apply zb|apply zc|refine zd ?_ GE131.out|refine zd ?_ GE132.out)⟩⟩
    rw [if_neg c22] at H;have c22b0 : ((wrap64 (bt a0 0)) == 3)=false:=zY.mpr c22;have c22b1 : ((wrap64 (bt a0 0)) != 3)=true:=zZ.mpr c22;(first|rw [c22b0]|(simp only [zG,zH];rw [c22b0])|skip)
    by_cases c23 : (wrap64 (bt a0 0))=4
    ·
     rw [if_pos c23] at H
     have c23b0 : ((wrap64 (bt a0 0)) == 4)=true:=ya.mpr c23;have c23b1 : ((wrap64 (bt a0 0)) != 4)=false:=zX.mpr c23;clear c23;have H':=zh H;clear H
     go_wp2
     go_meet
     case rel => exact ⟨_,(((wrap64 (bt a0 0)) == 4)),(by first|rfl|(simp;done)|(simp [*];done)),H',⟨by first|omega|exact ye _⟩,⟨by (with_reducible repeat (first|refine ze ?_ _|refine zf ?_|refine zg ?_ _));refine zS ?_ NB131_132.out _;(with_reducible repeat (first|refine ze ?_ _|refine zf ?_|refine zg ?_ _));refine zS ?_ NB131_132.out _;(with_reducible repeat (first|refine ze ?_ _|refine zf ?_|refine zg ?_ _));refine zS ?_ NB131_132.out _;(with_reducible repeat (first|refine ze ?_ _|refine zf ?_|refine zg ?_ _));exact BK131.out⟩,⟨by (with_reducible repeat (first|refine ze ?_ _|refine zf ?_|refine zg ?_ _));refine zL (cs:=#[.int .i64 (wrap64 (bt a0 0)),.int .i64 0,.string (⟨#[]⟩ : ByteArray)]) ?_ 2 _ rfl;(with_reducible repeat (first|refine ze ?_ _|refine zf ?_|refine zg ?_ _));refine zL (cs:=#[.int .i64 (wrap64 (bt a0 0)),.int .i64 0,.string (⟨#[]⟩ : ByteArray)]) ?_ 1 _ rfl;(with_reducible repeat (first|refine ze ?_ _|refine zf ?_|refine zg ?_ _));refine zL (cs:=#[.int .i64 0,.int .i64 0,.string (⟨#[]⟩ : ByteArray)]) ?_ 0 _ rfl;(with_reducible repeat (first|refine ze ?_ _|refine zf ?_|refine zg ?_ _));exact BK132.out⟩,⟨by repeat (with_reducible first|exact HB.out|apply za|apply zb|apply zc|refine zd ?_ GE131.out|refine zd ?_ GE132.out)⟩⟩
    rw [if_neg c23] at H;have c23b0 : ((wrap64 (bt a0 0)) == 4)=false:=zY.mpr c23;have c23b1 : ((wrap64 (bt a0 0)) != 4)=true:=zZ.mpr c23;have H':=zh H;clear H
    go_wp2
    go_meet
    case rel => exact ⟨_,(((wrap64 (bt a0 0)) == 5)),(by first|rfl|(simp;done)|(simp [*];done)),H',⟨by first|omega|exact ye _⟩,⟨by (with_reducible repeat (first|refine ze ?_ _|refine zf ?_|refine zg ?_ _));refine zS ?_ NB131_132.out _;(with_reducible repeat (first|refine ze ?_ _|refine zf ?_|refine zg ?_ _));refine zS ?_ NB131_132.out _;(with_reducible repeat (first|refine ze ?_ _|refine zf ?_|refine zg ?_ _));refine zS ?_ NB131_132.out _;(with_reducible repeat (first|refine ze ?_ _|refine zf ?_|refine zg ?_ _));exact BK131.out⟩,⟨by (with_reducible repeat (first|refine ze ?_ _|refine zf ?_|refine zg ?_ _));refine zL (cs:=#[.int .i64 (wrap64 (bt a0 0)),.int .i64 0,.string (⟨#[]⟩ : ByteArray)]) ?_ 2 _ rfl;(with_reducible repeat (first|refine ze ?_ _|refine zf ?_|refine zg ?_ _));refine zL (cs:=#[.int .i64 (wrap64 (bt a0 0)),.int .i64 0,.string (⟨#[]⟩ : ByteArray)]) ?_ 1 _ rfl;(with_reducible repeat (first|refine ze ?_ _|refine zf ?_|refine zg ?_ _));refine zL (cs:=#[.int .i64 0,.int .i64 0,.string (⟨#[]⟩ : ByteArray)]) ?_ 0 _ rfl;(with_reducible repeat (first|refine ze ?_ _|refine zf ?_|refine zg ?_ _));exact BK132.out⟩,⟨by repeat (with_reducible first|exact HB.out|apply za|apply zb|apply zc|refine zd ?_ GE131.out|refine zd ?_ GE132.out)⟩⟩
   case rest =>
    clear HC21
    try clear c1
    try clear c2
    try clear c2b0
    try clear c2b1
    try clear p2
    try clear c5
    try clear c5b0
    try clear c5b1
    try clear c6
    try clear p6
    try clear q6
    try clear hx6
    try clear qi6
    try clear c10
    try clear c12
    try clear c12b0
    try clear c12b1
    try clear c13
    try clear c13b0
    try clear c13b1
    try clear c19
    try clear c19b0
    try clear c19b1
    try clear c20
    try clear c20b0
    try clear c20b1
    try clear c22
    try clear c22b0
    try clear c22b1
    try clear c23
    try clear c23b0
    try clear c23b1
    try clear hcz11_0
    try clear hcz11_1
    try clear hcz11_2
    try clear hcz4_0
    try clear hcz4_1
    try clear hcz4_2
    try clear hfz11_0
    try clear hfz11_1
    try clear hfz11_2
    try clear hfz4_0
    try clear hfz4_1
    try clear hfz4_2
    try clear p6
    try clear q6
    obtain ⟨kq,x28_20,rfl,HA,HJ20,BK131,BK132,HB⟩:=hcut
    cases kq with
    | zero => exact absurd HA.out (by simp [F1.j0])
    | succ kj20 =>
     have H:=HA.out;clear HA;simp only [F1.j0] at H
     by_cases c24 : x28_20=true
     ·
      subst c24
      have H1 : (if (a0.size : Int)<3 then (some (0,0,(⟨#[]⟩ : ByteArray),(⟨#[]⟩ : ByteArray),false)) else (if 1≤3 then (if 3≤(a0.size : Int) then ((Ft.f kj20 (a0.extract 1 3)).bind fun t133 => (if (a0.size : Int)<(wrap64 (3 + t133)) then (some (0,0,(⟨#[]⟩ : ByteArray),(⟨#[]⟩ : ByteArray),false)) else (if 3≤(wrap64 (3 + t133)) then (if (wrap64 (3 + t133))≤(a0.size : Int) then (if 0≤(wrap64 (3 + t133)) then (some ((wrap64 (bt a0 0)),0,a0.extract 3 ((wrap64 (3 + t133)) : Int).toNat,a0.extract ((wrap64 (3 + t133)) : Int).toNat a0.size,true)) else (none)) else (none)) else (none)))) else (none)) else (none)))=some (r1,r2,r3,r4,r5):=by rw [if_pos rfl] at H;exact H
      clear H;have H:=H1;clear H1
      by_cases c25 : (a0.size : Int)<3
      ·
       rw [if_pos c25] at H
       have c25b0 : decide ((a0.size : Int)<3)=true:=decide_eq_true c25;have c25b1 : decide (a0.size<3)=true:=decide_eq_true (by omega);clear c25;simp only [Option.some.injEq,Prod.mk.injEq] at H;obtain ⟨rfl,rfl,rfl,rfl,rfl⟩:=H;have hnb26:=NB131_132.out;have hnc26:=NB132_131.out;have hcz27_0 : wc.cell? ⟨gb131,0,none⟩=some (.int .i64 0):=(zz BK131.out 0).trans rfl;have hcz27_1 : wc.cell? ⟨gb131,1,none⟩=some (.int .i64 0):=(zz BK131.out 1).trans rfl;have hcz27_2 : wc.cell? ⟨gb131,2,none⟩=some (.string (⟨#[]⟩ : ByteArray)):=(zz BK131.out 2).trans rfl;have hfz27_0:=zA BK131.out 0;have hfz27_1:=zA BK131.out 1;have hfz27_2:=zA BK131.out 2
       go_wp2
       refine bodyPost_ret (results_ctt rfl _ _ gb131 49 #[.int .i64 0,.int .i64 0,.string (⟨#[]⟩ : ByteArray)] (0,0) _ rfl (by (with_reducible repeat (first|refine ze ?_ _|refine zf ?_|refine zg ?_ _));refine zL (cs:=#[.int .i64 0,.int .i64 0,.string (⟨#[]⟩ : ByteArray)]) ?_ 2 _ rfl;(with_reducible repeat (first|refine ze ?_ _|refine zf ?_|refine zg ?_ _));refine zL (cs:=#[.int .i64 0,.int .i64 0,.string (⟨#[]⟩ : ByteArray)]) ?_ 1 _ rfl;(with_reducible repeat (first|refine ze ?_ _|refine zf ?_|refine zg ?_ _));refine zL (cs:=#[.int .i64 0,.int .i64 0,.string (⟨#[]⟩ : ByteArray)]) ?_ 0 _ rfl;(with_reducible repeat (first|refine ze ?_ _|refine zf ?_|refine zg ?_ _));exact BK131.out) Tryz.underlying49 rfl (by kernel_rfl)) rfl ?_;exact ⟨by first|rfl|(simp [yt,yu] <;> rfl)|(simp [*,yt,yu] <;> rfl),by repeat (with_reducible first|exact HB.out|apply za|apply zb|apply zc|refine zd ?_ GE131.out|refine zd ?_ GE132.out)⟩
      rw [if_neg c25] at H;have c25b0 : decide ((a0.size : Int)<3)=false:=decide_eq_false c25;have c25b1 : decide (a0.size<3)=false:=decide_eq_false (by omega);clear c25
      by_cases c28 : 1≤3
      ·
       rw [if_pos c28] at H
       have c28b0:=eq_true c28;have c28b1 : decide (1≤3)=true:=decide_eq_true c28;clear c28
       by_cases c29 : 3≤(a0.size : Int)
       ·
        rw [if_pos c29] at H
        have c29b0:=eq_true c29;have c29b1 : decide (3≤(a0.size : Int))=true:=decide_eq_true c29;clear c29;replace H:=zT.mp H;obtain ⟨t133,A300,H⟩:=H;replace H : (if (a0.size : Int)<(wrap64 (3 + t133)) then (some (0,0,(⟨#[]⟩ : ByteArray),(⟨#[]⟩ : ByteArray),false)) else (if 3≤(wrap64 (3 + t133)) then (if (wrap64 (3 + t133))≤(a0.size : Int) then (if 0≤(wrap64 (3 + t133)) then (some ((wrap64 (bt a0 0)),0,a0.extract 3 ((wrap64 (3 + t133)) : Int).toNat,a0.extract ((wrap64 (3 + t133)) : Int).toNat a0.size,true)) else (none)) else (none)) else (none)))=some (r1,r2,r3,r4,r5):=H;have A30:=zh A300;clear A300
        by_cases c31 : (a0.size : Int)<(wrap64 (3 + t133))
        ·
         rw [if_pos c31] at H
         have c31b0 : decide ((a0.size : Int)<(wrap64 (3 + t133)))=true:=decide_eq_true c31;clear c31;simp only [Option.some.injEq,Prod.mk.injEq] at H;obtain ⟨rfl,rfl,rfl,rfl,rfl⟩:=H
         go_wp2_with (first|((with_reducible refine zJ (f:=74) rfl ?_);refine yj (some 38) rfl rfl Tryz.func74 (by kernel_rfl) rfl #[.string (a0.extract 1 3)] rfl (by (try simp only [zt,zu,zv]);first|done|rfl|(simp only [zw,zx];rfl)|(simp only [yr,ys,zV,zW];rfl)) ?_;(with_reducible refine (Ft.calls kj20  (a0.extract 1 3) t133 _ A30.out).mono ?_);rintro e w' ⟨rfl,⟨nd,rfl⟩⟩;refine ⟨_,rfl,?_⟩;(try (rw [drewN_self wc];generalize hq_ : World.drewN wc _=wc;replace BK131 : Aside0 (wc.heap[gb131]? = some (.cells #[.int .i64 0,.int .i64 0,.string (⟨#[]⟩ : ByteArray)] 49 (0,0))):=⟨by rw [← hq_];exact (by (with_reducible repeat (first|refine ze ?_ _|refine zf ?_|refine zg ?_ _));exact BK131.out)⟩;replace BK132 : Aside0 (wc.heap[gb132]? = some (.cells #[.int .i64 (wrap64 (bt a0 0)),.int .i64 0,.string (⟨#[]⟩ : ByteArray)] 49 (0,0))):=⟨by rw [← hq_];exact (by (with_reducible repeat (first|refine ze ?_ _|refine zf ?_|refine zg ?_ _));exact BK132.out)⟩;replace HB : Aside0 (Below w.heap.size w wc):=⟨by rw [← hq_];exact (by repeat (with_reducible first|exact HB.out|apply za|apply zb|apply zc|refine zd ?_ GE131.out|refine zd ?_ GE132.out))⟩;clear hq_));have hnb32:=NB131_132.out;have hnc32:=NB132_131.out;have hcz33_0 : wc.cell? ⟨gb131,0,none⟩=some (.int .i64 0):=(zz BK131.out 0).trans rfl;have hcz33_1 : wc.cell? ⟨gb131,1,none⟩=some (.int .i64 0):=(zz BK131.out 1).trans rfl;have hcz33_2 : wc.cell? ⟨gb131,2,none⟩=some (.string (⟨#[]⟩ : ByteArray)):=(zz BK131.out 2).trans rfl;have hfz33_0:=zA BK131.out 0;have hfz33_1:=zA BK131.out 1;have hfz33_2:=zA BK131.out 2))
         refine bodyPost_ret (results_ctt rfl _ _ gb131 49 #[.int .i64 0,.int .i64 0,.string (⟨#[]⟩ : ByteArray)] (0,0) _ rfl (by (with_reducible repeat (first|refine ze ?_ _|refine zf ?_|refine zg ?_ _));refine zL (cs:=#[.int .i64 0,.int .i64 0,.string (⟨#[]⟩ : ByteArray)]) ?_ 2 _ rfl;(with_reducible repeat (first|refine ze ?_ _|refine zf ?_|refine zg ?_ _));refine zL (cs:=#[.int .i64 0,.int .i64 0,.string (⟨#[]⟩ : ByteArray)]) ?_ 1 _ rfl;(with_reducible repeat (first|refine ze ?_ _|refine zf ?_|refine zg ?_ _));refine zL (cs:=#[.int .i64 0,.int .i64 0,.string (⟨#[]⟩ : ByteArray)]) ?_ 0 _ rfl;(with_reducible repeat (first|refine ze ?_ _|refine zf ?_|refine zg ?_ _));exact BK131.out) Tryz.underlying49 rfl (by kernel_rfl)) rfl ?_;exact ⟨by first|rfl|(simp [yt,yu] <;> rfl)|(simp [*,yt,yu] <;> rfl),by repeat (with_reducible first|exact HB.out|apply za|apply zb|apply zc|refine zd ?_ GE131.out|refine zd ?_ GE132.out)⟩
        rw [if_neg c31] at H;have c31b0 : decide ((a0.size : Int)<(wrap64 (3 + t133)))=false:=decide_eq_false c31;clear c31
        by_cases c34 : 3≤(wrap64 (3 + t133))
        ·
         rw [if_pos c34] at H
         have c34b0:=eq_true c34;have c34b1 : decide (3≤(wrap64 (3 + t133)))=true:=decide_eq_true c34
         by_cases c35 : (wrap64 (3 + t133))≤(a0.size : Int)
         ·
          rw [if_pos c35] at H
          have c35b0:=eq_true c35;have c35b1 : decide ((wrap64 (3 + t133))≤(a0.size : Int))=true:=decide_eq_true c35;obtain ⟨ji36,hji36⟩ : ∃ j_ : Int,(wrap64 (3 + t133))=j_:=⟨_,rfl⟩;replace H : (if 0≤(ji36) then (some ((wrap64 (bt a0 0)),0,a0.extract 3 ((ji36) : Int).toNat,a0.extract ((ji36) : Int).toNat a0.size,true)) else (none))=some (r1,r2,r3,r4,r5):=by first|(rw [hji36] at H;exact H)|(simp only [hji36] at H ⊢;exact H)
          (try rw [hji36] at c31b0);(try rw [hji36] at c34b0);(try rw [hji36] at c34b1);(try rw [hji36] at c34);(try rw [hji36] at c35b0);(try rw [hji36] at c35b1);(try rw [hji36] at c35);(try rw [hji36] at A30);have hji36w : (IntKind.i64.wrap (3 + t133))=ji36:=(zG _).trans hji36
          by_cases c37 : 0≤(ji36)
          ·
           rw [if_pos c37] at H
           have c37b0:=eq_true c37;have c37b1 : decide (0≤(ji36))=true:=decide_eq_true c37;clear c37;have c38b0:=eq_true (zy (by first|(with_reducible assumption)|assumption) : (ji36)≤(a0.size : Int));simp only [Option.some.injEq,Prod.mk.injEq] at H;obtain ⟨rfl,rfl,rfl,rfl,rfl⟩:=H
           try go_wp2_with (first|((with_reducible refine zJ (f:=74) rfl ?_);refine yj (some 38) rfl rfl Tryz.func74 (by kernel_rfl) rfl #[.string (a0.extract 1 3)] rfl (by (try simp only [zt,zu,zv]);first|done|rfl|(simp only [zw,zx];rfl)|(simp only [yr,ys,zV,zW];rfl)) ?_;(with_reducible refine (Ft.calls kj20  (a0.extract 1 3) t133 _ A30.out).mono ?_);rintro e w' ⟨rfl,⟨nd,rfl⟩⟩;refine ⟨_,rfl,?_⟩;(try (rw [drewN_self wc];generalize hq_ : World.drewN wc _=wc;replace BK131 : Aside0 (wc.heap[gb131]? = some (.cells #[.int .i64 0,.int .i64 0,.string (⟨#[]⟩ : ByteArray)] 49 (0,0))):=⟨by rw [← hq_];exact (by (with_reducible repeat (first|refine ze ?_ _|refine zf ?_|refine zg ?_ _));exact BK131.out)⟩;replace BK132 : Aside0 (wc.heap[gb132]? = some (.cells #[.int .i64 (wrap64 (bt a0 0)),.int .i64 0,.string (⟨#[]⟩ : ByteArray)] 49 (0,0))):=⟨by rw [← hq_];exact (by (with_reducible repeat (first|refine ze ?_ _|refine zf ?_|refine zg ?_ _));exact BK132.out)⟩;replace HB : Aside0 (Below w.heap.size w wc):=⟨by rw [← hq_];exact (by repeat (with_reducible first|exact HB.out|apply za|apply zb|apply zc|refine zd ?_ GE131.out|refine zd ?_ GE132.out))⟩;clear hq_));have hnb39:=NB132_131.out;have hnc39:=NB131_132.out;have hcz40_0 : wc.cell? ⟨gb132,0,none⟩=some (.int .i64 (wrap64 (bt a0 0))):=(zz BK132.out 0).trans rfl;have hcz40_1 : wc.cell? ⟨gb132,1,none⟩=some (.int .i64 0):=(zz BK132.out 1).trans rfl;have hcz40_2 : wc.cell? ⟨gb132,2,none⟩=some (.string (⟨#[]⟩ : ByteArray)):=(zz BK132.out 2).trans rfl;have hfz40_0:=zA BK132.out 0;have hfz40_1:=zA BK132.out 1;have hfz40_2:=zA BK132.out 2))
           have n0_ : Aside0 ((wc.setCell ⟨gb132,2,none⟩ (.string (a0.extract 3 ((ji36) : Int).toNat))).heap[gb131]? = some (.cells #[.int .i64 0,.int .i64 0,.string (⟨#[]⟩ : ByteArray)] 49 (0,0))):=⟨by (with_reducible repeat (first|refine ze ?_ _|refine zf ?_|refine zg ?_ _));refine zS ?_ NB131_132.out _;(with_reducible repeat (first|refine ze ?_ _|refine zf ?_|refine zg ?_ _));exact BK131.out⟩;have n1_ : Aside0 ((wc.setCell ⟨gb132,2,none⟩ (.string (a0.extract 3 ((ji36) : Int).toNat))).heap[gb132]? = some (.cells #[.int .i64 (wrap64 (bt a0 0)),.int .i64 0,.string (a0.extract 3 ((ji36) : Int).toNat)] 49 (0,0))):=⟨by (with_reducible repeat (first|refine ze ?_ _|refine zf ?_|refine zg ?_ _));refine zL (cs:=#[.int .i64 (wrap64 (bt a0 0)),.int .i64 0,.string (⟨#[]⟩ : ByteArray)]) ?_ 2 _ rfl;(with_reducible repeat (first|refine ze ?_ _|refine zf ?_|refine zg ?_ _));exact BK132.out⟩;have n2_ : Aside0 (Below w.heap.size w (wc.setCell ⟨gb132,2,none⟩ (.string (a0.extract 3 ((ji36) : Int).toNat)))):=⟨by repeat (with_reducible first|exact HB.out|apply za|apply zb|apply zc|refine zd ?_ GE131.out|refine zd ?_ GE132.out)⟩;(try clear BK131);(try clear BK132);(try clear HB);generalize (wc.setCell ⟨gb132,2,none⟩ (.string (a0.extract 3 ((ji36) : Int).toNat)))=w41 at n0_ n1_ n2_ ⊢;have BK131:=n0_;have BK132:=n1_;have HB:=n2_;clear n0_ n1_ n2_;replace BK131:=zh (zf BK131.out);replace BK132:=zh (zf BK132.out);replace HB:=zh (zc HB.out);refine start_ (n:=8) (S:=fun w' => w'.cell? ⟨gb132,0,none⟩=some (.int .i64 (wrap64 (bt a0 0)))∧w'.cell? ⟨gb132,1,none⟩=some (.int .i64 0)∧w'.cell? ⟨gb132,2,none⟩=some (.string (a0.extract 3 ((ji36) : Int).toNat))) (ds:=[]) (bm_ 0 8) (by kernel_rfl) rfl rfl ⟨(zz BK132.out 0).trans rfl,(zz BK132.out 1).trans rfl,(zz BK132.out 2).trans rfl⟩ (fun hHeld => ?_);refine with_tabW F1.tab22 F1.bits22 (fun HT_ HW_ => ?_);generalize w41.drew=w42 at BK131 BK132 HB hHeld ⊢;refine pure_ (i:=1) (N:=some 51) (v:=?_) (a':=?_) #[false,true,false,false,false,false,false,false] rfl rfl (any_of HT_.out (by kernel_rfl)) (fun _ _ _ h => h) (Or.inl ⟨by rfl,?_⟩) ?_ ?_;rotate_left
           ·
            intro w'
            go_simp
            with_reducible rfl
           rotate_left
           ·
            simp only [Act.put,zi,zj,zk,zG,zH]
            rfl
           refine pure_ (i:=2) (N:=some 52) (v:=?_) (a':=?_) #[false,true,true,false,false,false,false,false] rfl rfl (any_of HT_.out (by kernel_rfl)) (fun _ _ _ h => h) (Or.inl ⟨by rfl,?_⟩) ?_ ?_;rotate_left
           ·
            intro w'
            go_simp
            with_reducible rfl
           rotate_left
           ·
            simp only [Act.put,zi,zj,zk,zG,zH]
            rfl
           refine pure_ (i:=3) (N:=some 53) (v:=?_) (a':=?_) #[false,true,true,true,false,false,false,false] rfl rfl (any_of HT_.out (by kernel_rfl)) (fun _ _ _ h => h) (Or.inl ⟨by rfl,?_⟩) ?_ ?_;rotate_left
           ·
            intro w'
            go_simp
            with_reducible rfl
           rotate_left
           ·
            simp only [Act.put,zi,zj,zk,zG,zH]
            rfl
           refine pure_ (i:=4) (N:=some 54) (v:=?_) (a':=?_) #[false,true,true,true,true,false,false,false] rfl rfl (any_of HT_.out (by kernel_rfl)) (fun _ _ _ h => h) (Or.inl ⟨by rfl,?_⟩) ?_ ?_;rotate_left
           ·
            intro w'
            go_simp
            with_reducible rfl
           rotate_left
           ·
            simp only [Act.put,zi,zj,zk,zG,zH]
            rfl
           refine take_ (i:=0) (N:=some 50) (v:=?_) (a':=?_) (bm_ 5 8) rfl rfl (yo HT_.out HW_.out (by kernel_rfl)) (fun _ _ _ h => h) (Or.inl ⟨by rfl,?_⟩) hHeld ?_ ?_;rotate_left
           ·
            rintro w' ⟨s0,s1,s2⟩
            go_simp
            with_reducible rfl
           rotate_left
           ·
            simp only [Act.put,zi,zj,zk,zG,zH]
            rfl
           refine one_ (i:=5) (N:=none) (bm_ 6 8) rfl rfl (one_of HT_.out (by kernel_rfl)) (by decide) (fun K hK => ?_);have hs43 : w42.cell? ⟨gb131,0,none⟩=some (.int .i64 0):=(zz BK131.out 0).trans rfl;have hfs43:=zA BK131.out 0;have hns43_1:=NB132_131.out;have hms43_1:=NB131_132.out;have hs44 : w42.cell? ⟨gb131,1,none⟩=some (.int .i64 0):=(zz BK131.out 1).trans rfl;have hfs44:=zA BK131.out 1;have hns44_1:=NB132_131.out;have hms44_1:=NB131_132.out;have hs45 : w42.cell? ⟨gb131,2,none⟩=some (.string (⟨#[]⟩ : ByteArray)):=(zz BK131.out 2).trans rfl;have hfs45:=zA BK131.out 2;have hns45_1:=NB132_131.out;have hms45_1:=NB131_132.out;refine skip_ (w1:=?_) (by rfl) rfl ?_ ?_;rotate_left
           ·
            go_simp
            rfl
           refine hK.out _ _ ⟨((zR (p:=⟨gb131,_,none⟩) NB132_131.out _).trans (((zR (p:=⟨gb131,_,none⟩) NB132_131.out _).trans (((zR (p:=⟨gb131,_,none⟩) NB132_131.out _).trans (hHeld.1)))))),((zR (p:=⟨gb131,_,none⟩) NB132_131.out _).trans (((zR (p:=⟨gb131,_,none⟩) NB132_131.out _).trans (((zR (p:=⟨gb131,_,none⟩) NB132_131.out _).trans (hHeld.2.1)))))),((zR (p:=⟨gb131,_,none⟩) NB132_131.out _).trans (((zR (p:=⟨gb131,_,none⟩) NB132_131.out _).trans (((zR (p:=⟨gb131,_,none⟩) NB132_131.out _).trans (hHeld.2.2))))))⟩ (fun hHeld => ?_);clear hK K;refine pure_ (i:=6) (N:=some 3) (v:=?_) (a':=?_) (bm_ 7 8) rfl rfl (any_of HT_.out (by kernel_rfl)) (fun _ _ _ h => h) (Or.inl ⟨by rfl,?_⟩) ?_ ?_;rotate_left
           ·
            intro w'
            go_simp
            with_reducible rfl
           rotate_left
           ·
            simp only [Act.put,zi,zj,zk,zG,zH]
            rfl
           refine pure_ (i:=7) (N:=some 4) (v:=?_) (a':=?_) (bm_ 8 8) rfl rfl (any_of HT_.out (by kernel_rfl)) (fun _ _ _ h => h) (Or.inl ⟨by rfl,?_⟩) ?_ ?_;rotate_left
           ·
            intro w'
            go_simp
            with_reducible rfl
           rotate_left
           ·
            simp only [Act.put,zi,zj,zk,zG,zH]
            rfl
           refine done_ (done_of HT_.out (by kernel_rfl)) ?_
           try go_wp2
           refine bodyPost_ret (results_ctt rfl _ _ gb131 49 #[.int .i64 (wrap64 (bt a0 0)),.int .i64 0,.string (a0.extract 3 ((ji36) : Int).toNat)] (0,0) _ rfl (by (with_reducible repeat (first|refine ze ?_ _|refine zf ?_|refine zg ?_ _));refine zL (cs:=#[.int .i64 (wrap64 (bt a0 0)),.int .i64 0,.string (⟨#[]⟩ : ByteArray)]) ?_ 2 _ rfl;(with_reducible repeat (first|refine ze ?_ _|refine zf ?_|refine zg ?_ _));refine zL (cs:=#[.int .i64 (wrap64 (bt a0 0)),.int .i64 0,.string (⟨#[]⟩ : ByteArray)]) ?_ 1 _ rfl;(with_reducible repeat (first|refine ze ?_ _|refine zf ?_|refine zg ?_ _));refine zL (cs:=#[.int .i64 0,.int .i64 0,.string (⟨#[]⟩ : ByteArray)]) ?_ 0 _ rfl;(with_reducible repeat (first|refine ze ?_ _|refine zf ?_|refine zg ?_ _));exact BK131.out) Tryz.underlying49 rfl (by kernel_rfl)) rfl ?_;exact ⟨by first|rfl|(simp [yt,yu] <;> rfl)|(simp only [← hji36];first|rfl|(simp [yt,yu] <;> rfl))|(simp [*,yt,yu] <;> rfl),by repeat (with_reducible first|exact HB.out|apply za|apply zb|apply zc|refine zd ?_ GE131.out|refine zd ?_ GE132.out)⟩
          rw [if_neg c37] at H;exact absurd H (by simp)
         rw [if_neg c35] at H;exact absurd H (by simp)
        rw [if_neg c34] at H;exact absurd H (by simp)
       rw [if_neg c29] at H;exact absurd H (by simp)
      rw [if_neg c28] at H;exact absurd H (by simp)
     replace c24:=yb.mpr c24;subst c24;have H1 : (some (0,0,(⟨#[]⟩ : ByteArray),(⟨#[]⟩ : ByteArray),false))=some (r1,r2,r3,r4,r5):=by rw [if_neg (show ¬ (false=true) by decide)] at H;exact H
     clear H;have H:=H1;clear H1;simp only [Option.some.injEq,Prod.mk.injEq] at H;obtain ⟨rfl,rfl,rfl,rfl,rfl⟩:=H;have hnb46:=NB131_132.out;have hnc46:=NB132_131.out;have hcz47_0 : wc.cell? ⟨gb131,0,none⟩=some (.int .i64 0):=(zz BK131.out 0).trans rfl;have hcz47_1 : wc.cell? ⟨gb131,1,none⟩=some (.int .i64 0):=(zz BK131.out 1).trans rfl;have hcz47_2 : wc.cell? ⟨gb131,2,none⟩=some (.string (⟨#[]⟩ : ByteArray)):=(zz BK131.out 2).trans rfl;have hfz47_0:=zA BK131.out 0;have hfz47_1:=zA BK131.out 1;have hfz47_2:=zA BK131.out 2
     go_wp2
     refine bodyPost_ret (results_ctt rfl _ _ gb131 49 #[.int .i64 0,.int .i64 0,.string (⟨#[]⟩ : ByteArray)] (0,0) _ rfl (by (with_reducible repeat (first|refine ze ?_ _|refine zf ?_|refine zg ?_ _));refine zL (cs:=#[.int .i64 0,.int .i64 0,.string (⟨#[]⟩ : ByteArray)]) ?_ 2 _ rfl;(with_reducible repeat (first|refine ze ?_ _|refine zf ?_|refine zg ?_ _));refine zL (cs:=#[.int .i64 0,.int .i64 0,.string (⟨#[]⟩ : ByteArray)]) ?_ 1 _ rfl;(with_reducible repeat (first|refine ze ?_ _|refine zf ?_|refine zg ?_ _));refine zL (cs:=#[.int .i64 0,.int .i64 0,.string (⟨#[]⟩ : ByteArray)]) ?_ 0 _ rfl;(with_reducible repeat (first|refine ze ?_ _|refine zf ?_|refine zg ?_ _));exact BK131.out) Tryz.underlying49 rfl (by kernel_rfl)) rfl ?_;exact ⟨by first|rfl|(simp [yt,yu] <;> rfl)|(simp [*,yt,yu] <;> rfl),by repeat (with_reducible first|exact HB.out|apply za|apply zb|apply zc|refine zd ?_ GE131.out|refine zd ?_ GE132.out)⟩
  case rest =>
   clear HC7
   try clear c1
   try clear c2
   try clear c2b0
   try clear c2b1
   try clear p2
   try clear c3
   try clear c4
   try clear c5
   try clear c5b0
   try clear c5b1
   try clear c6
   try clear p6
   try clear q6
   try clear hx6
   try clear qi6
   try clear c7
   try clear c10
   try clear c12
   try clear c12b0
   try clear c12b1
   try clear c13
   try clear c13b0
   try clear c13b1
   try clear c19
   try clear c19b0
   try clear c19b1
   try clear c20
   try clear c20b0
   try clear c20b1
   try clear c22
   try clear c22b0
   try clear c22b1
   try clear c23
   try clear c23b0
   try clear c23b1
   try clear c24
   try clear c25
   try clear c25b0
   try clear c25b1
   try clear c26
   try clear c28
   try clear c28b0
   try clear c28b1
   try clear c29
   try clear c29b0
   try clear c29b1
   try clear c31
   try clear c31b0
   try clear c32
   try clear c34
   try clear c34b0
   try clear c34b1
   try clear c35
   try clear c35b0
   try clear c35b1
   try clear c37
   try clear c37b0
   try clear c37b1
   try clear c38
   try clear c38b0
   try clear c39
   try clear c46
   try clear hcz11_0
   try clear hcz11_1
   try clear hcz11_2
   try clear hcz27_0
   try clear hcz27_1
   try clear hcz27_2
   try clear hcz33_0
   try clear hcz33_1
   try clear hcz33_2
   try clear hcz40_0
   try clear hcz40_1
   try clear hcz40_2
   try clear hcz47_0
   try clear hcz47_1
   try clear hcz47_2
   try clear hcz4_0
   try clear hcz4_1
   try clear hcz4_2
   try clear hfz11_0
   try clear hfz11_1
   try clear hfz11_2
   try clear hfz27_0
   try clear hfz27_1
   try clear hfz27_2
   try clear hfz33_0
   try clear hfz33_1
   try clear hfz33_2
   try clear hfz40_0
   try clear hfz40_1
   try clear hfz40_2
   try clear hfz47_0
   try clear hfz47_1
   try clear hfz47_2
   try clear hfz4_0
   try clear hfz4_1
   try clear hfz4_2
   try clear p2
   try clear p6
   try clear q6
   obtain ⟨kq,x6_6,x132000_6,x132001_6,x132002_6,x133002_6,rfl,HA,HJ6,BK131,BK132,HB⟩:=hcut
   cases kq with
   | zero => exact absurd HA.out (by simp [F1.j1])
   | succ kj6 =>
    have H:=HA.out;clear HA;simp only [F1.j1] at H
    by_cases c48 : (a0.size : Int)<(wrap64 (1 + x6_6))
    ·
     rw [if_pos c48] at H
     have c48b0 : decide ((a0.size : Int)<(wrap64 (1 + x6_6)))=true:=decide_eq_true c48;clear c48;simp only [Option.some.injEq,Prod.mk.injEq] at H;obtain ⟨rfl,rfl,rfl,rfl,rfl⟩:=H;have hnb49:=NB131_132.out;have hnc49:=NB132_131.out;have hcz50_0 : wc.cell? ⟨gb131,0,none⟩=some (.int .i64 x132000_6):=(zz BK131.out 0).trans rfl;have hcz50_1 : wc.cell? ⟨gb131,1,none⟩=some (.int .i64 x132001_6):=(zz BK131.out 1).trans rfl;have hcz50_2 : wc.cell? ⟨gb131,2,none⟩=some (.string x132002_6):=(zz BK131.out 2).trans rfl;have hfz50_0:=zA BK131.out 0;have hfz50_1:=zA BK131.out 1;have hfz50_2:=zA BK131.out 2
     go_wp2
     refine bodyPost_ret (results_ctt rfl _ _ gb131 49 #[.int .i64 0,.int .i64 0,.string (⟨#[]⟩ : ByteArray)] (0,0) _ rfl (by (with_reducible repeat (first|refine ze ?_ _|refine zf ?_|refine zg ?_ _));refine zL (cs:=#[.int .i64 0,.int .i64 0,.string x132002_6]) ?_ 2 _ rfl;(with_reducible repeat (first|refine ze ?_ _|refine zf ?_|refine zg ?_ _));refine zL (cs:=#[.int .i64 0,.int .i64 x132001_6,.string x132002_6]) ?_ 1 _ rfl;(with_reducible repeat (first|refine ze ?_ _|refine zf ?_|refine zg ?_ _));refine zL (cs:=#[.int .i64 x132000_6,.int .i64 x132001_6,.string x132002_6]) ?_ 0 _ rfl;(with_reducible repeat (first|refine ze ?_ _|refine zf ?_|refine zg ?_ _));exact BK131.out) Tryz.underlying49 rfl (by kernel_rfl)) rfl ?_;exact ⟨by first|rfl|(simp [yt,yu] <;> rfl)|(simp [*,yt,yu] <;> rfl),by repeat (with_reducible first|exact HB.out|apply za|apply zb|apply zc|refine zd ?_ GE131.out|refine zd ?_ GE132.out)⟩
    rw [if_neg c48] at H;have c48b0 : decide ((a0.size : Int)<(wrap64 (1 + x6_6)))=false:=decide_eq_false c48;clear c48
    by_cases c51 : x6_6=1
    ·
     rw [if_pos c51] at H
     have c51b0 : (x6_6 == 1)=true:=ya.mpr c51;have c51b1 : (x6_6 != 1)=false:=zX.mpr c51;clear c51
     by_cases c52 : 1<(a0.size : Int)
     ·
      rw [if_pos c52] at H
      have c52b0 : decide (1<(a0.size : Int))=true:=decide_eq_true c52;have c52b1 : decide (1<a0.size)=true:=decide_eq_true (by omega);clear c52;obtain ⟨ji54,hji54⟩ : ∃ j_ : Int,(wrap64 (1 + x6_6))=j_:=⟨_,rfl⟩;replace H : (if 0≤(ji54) then (if (ji54)≤(a0.size : Int) then (some ((wrap64 (bt a0 0)),wrap64 (bt a0 1),x133002_6,a0.extract ((ji54) : Int).toNat a0.size,true)) else (none)) else (none))=some (r1,r2,r3,r4,r5):=by first|(rw [hji54] at H;exact H)|(simp only [hji54] at H ⊢;exact H)
      (try rw [hji54] at c48b0);have hji54w : (IntKind.i64.wrap (1 + x6_6))=ji54:=(zG _).trans hji54
      by_cases c55 : 0≤(ji54)
      ·
       rw [if_pos c55] at H
       have c55b0:=eq_true c55;have c55b1 : decide (0≤(ji54))=true:=decide_eq_true c55;clear c55
       by_cases c56 : (ji54)≤(a0.size : Int)
       ·
        rw [if_pos c56] at H
        have c56b0:=eq_true c56;have c56b1 : decide ((ji54)≤(a0.size : Int))=true:=decide_eq_true c56;clear c56;simp only [Option.some.injEq,Prod.mk.injEq] at H;obtain ⟨rfl,rfl,rfl,rfl,rfl⟩:=H;have p53 : 0≤(1 : Int):=(by omega);have q53 : 1<a0.size:=(by have : (1 : Int)<(a0.size : Int):=zy (by first|(with_reducible assumption)|assumption);omega);have hx53 : ∀ h : 1<a0.size,((a0[1]'h).toNat : Int)=bt a0 1:=bt_at a0 1;clear p53;have qi53 : (1<(a0.size : Int))=True:=eq_true (zy (by first|(with_reducible assumption)|assumption));replace q53:=eq_true q53;have hnb57:=NB132_131.out;have hnc57:=NB131_132.out;have hcz58_0 : wc.cell? ⟨gb132,0,none⟩=some (.int .i64 (wrap64 (bt a0 0))):=(zz BK132.out 0).trans rfl;have hcz58_1 : wc.cell? ⟨gb132,1,none⟩=some (.int .i64 0):=(zz BK132.out 1).trans rfl;have hcz58_2 : wc.cell? ⟨gb132,2,none⟩=some (.string x133002_6):=(zz BK132.out 2).trans rfl;have hfz58_0:=zA BK132.out 0;have hfz58_1:=zA BK132.out 1;have hfz58_2:=zA BK132.out 2
        try go_wp2
        have n0_ : Aside0 ((wc.setCell ⟨gb132,1,none⟩ (.int .i64 (wrap64 (bt a0 1)))).heap[gb131]? = some (.cells #[.int .i64 x132000_6,.int .i64 x132001_6,.string x132002_6] 49 (0,0))):=⟨by (with_reducible repeat (first|refine ze ?_ _|refine zf ?_|refine zg ?_ _));refine zS ?_ NB131_132.out _;(with_reducible repeat (first|refine ze ?_ _|refine zf ?_|refine zg ?_ _));exact BK131.out⟩;have n1_ : Aside0 ((wc.setCell ⟨gb132,1,none⟩ (.int .i64 (wrap64 (bt a0 1)))).heap[gb132]? = some (.cells #[.int .i64 (wrap64 (bt a0 0)),.int .i64 (wrap64 (bt a0 1)),.string x133002_6] 49 (0,0))):=⟨by (with_reducible repeat (first|refine ze ?_ _|refine zf ?_|refine zg ?_ _));refine zL (cs:=#[.int .i64 (wrap64 (bt a0 0)),.int .i64 0,.string x133002_6]) ?_ 1 _ rfl;(with_reducible repeat (first|refine ze ?_ _|refine zf ?_|refine zg ?_ _));exact BK132.out⟩;have n2_ : Aside0 (Below w.heap.size w (wc.setCell ⟨gb132,1,none⟩ (.int .i64 (wrap64 (bt a0 1))))):=⟨by repeat (with_reducible first|exact HB.out|apply za|apply zb|apply zc|refine zd ?_ GE131.out|refine zd ?_ GE132.out)⟩;(try clear BK131);(try clear BK132);(try clear HB);generalize (wc.setCell ⟨gb132,1,none⟩ (.int .i64 (wrap64 (bt a0 1))))=w59 at n0_ n1_ n2_ ⊢;have BK131:=n0_;have BK132:=n1_;have HB:=n2_;clear n0_ n1_ n2_;replace BK131:=zh (zf BK131.out);replace BK132:=zh (zf BK132.out);replace HB:=zh (zc HB.out);refine start_ (n:=8) (S:=fun w' => w'.cell? ⟨gb132,0,none⟩=some (.int .i64 (wrap64 (bt a0 0)))∧w'.cell? ⟨gb132,1,none⟩=some (.int .i64 (wrap64 (bt a0 1)))∧w'.cell? ⟨gb132,2,none⟩=some (.string x133002_6)) (ds:=[]) (bm_ 0 8) (by kernel_rfl) rfl rfl ⟨(zz BK132.out 0).trans rfl,(zz BK132.out 1).trans rfl,(zz BK132.out 2).trans rfl⟩ (fun hHeld => ?_);refine with_tabW F1.tab30 F1.bits30 (fun HT_ HW_ => ?_);generalize w59.drew=w60 at BK131 BK132 HB hHeld ⊢;refine pure_ (i:=1) (N:=some 77) (v:=?_) (a':=?_) #[false,true,false,false,false,false,false,false] rfl rfl (any_of HT_.out (by kernel_rfl)) (fun _ _ _ h => h) (Or.inl ⟨by rfl,?_⟩) ?_ ?_;rotate_left
        ·
         intro w'
         go_simp
         with_reducible rfl
        rotate_left
        ·
         simp only [Act.put,zi,zj,zk,zG,zH]
         rfl
        refine pure_ (i:=2) (N:=some 78) (v:=?_) (a':=?_) #[false,true,true,false,false,false,false,false] rfl rfl (any_of HT_.out (by kernel_rfl)) (fun _ _ _ h => h) (Or.inl ⟨by rfl,?_⟩) ?_ ?_;rotate_left
        ·
         intro w'
         go_simp
         with_reducible rfl
        rotate_left
        ·
         simp only [Act.put,zi,zj,zk,zG,zH]
         rfl
        refine pure_ (i:=3) (N:=some 79) (v:=?_) (a':=?_) #[false,true,true,true,false,false,false,false] rfl rfl (any_of HT_.out (by kernel_rfl)) (fun _ _ _ h => h) (Or.inl ⟨by rfl,?_⟩) ?_ ?_;rotate_left
        ·
         intro w'
         go_simp
         with_reducible rfl
        rotate_left
        ·
         simp only [Act.put,zi,zj,zk,zG,zH]
         rfl
        refine pure_ (i:=4) (N:=some 80) (v:=?_) (a':=?_) #[false,true,true,true,true,false,false,false] rfl rfl (any_of HT_.out (by kernel_rfl)) (fun _ _ _ h => h) (Or.inl ⟨by rfl,?_⟩) ?_ ?_;rotate_left
        ·
         intro w'
         go_simp
         with_reducible rfl
        rotate_left
        ·
         simp only [Act.put,zi,zj,zk,zG,zH]
         rfl
        refine take_ (i:=0) (N:=some 76) (v:=?_) (a':=?_) (bm_ 5 8) rfl rfl (yo HT_.out HW_.out (by kernel_rfl)) (fun _ _ _ h => h) (Or.inl ⟨by rfl,?_⟩) hHeld ?_ ?_;rotate_left
        ·
         rintro w' ⟨s0,s1,s2⟩
         go_simp
         with_reducible rfl
        rotate_left
        ·
         simp only [Act.put,zi,zj,zk,zG,zH]
         rfl
        refine one_ (i:=5) (N:=none) (bm_ 6 8) rfl rfl (one_of HT_.out (by kernel_rfl)) (by decide) (fun K hK => ?_);have hs61 : w60.cell? ⟨gb131,0,none⟩=some (.int .i64 x132000_6):=(zz BK131.out 0).trans rfl;have hfs61:=zA BK131.out 0;have hns61_1:=NB132_131.out;have hms61_1:=NB131_132.out;have hs62 : w60.cell? ⟨gb131,1,none⟩=some (.int .i64 x132001_6):=(zz BK131.out 1).trans rfl;have hfs62:=zA BK131.out 1;have hns62_1:=NB132_131.out;have hms62_1:=NB131_132.out;have hs63 : w60.cell? ⟨gb131,2,none⟩=some (.string x132002_6):=(zz BK131.out 2).trans rfl;have hfs63:=zA BK131.out 2;have hns63_1:=NB132_131.out;have hms63_1:=NB131_132.out;refine skip_ (w1:=?_) (by rfl) rfl ?_ ?_;rotate_left
        ·
         go_simp
         rfl
        refine hK.out _ _ ⟨((zR (p:=⟨gb131,_,none⟩) NB132_131.out _).trans (((zR (p:=⟨gb131,_,none⟩) NB132_131.out _).trans (((zR (p:=⟨gb131,_,none⟩) NB132_131.out _).trans (hHeld.1)))))),((zR (p:=⟨gb131,_,none⟩) NB132_131.out _).trans (((zR (p:=⟨gb131,_,none⟩) NB132_131.out _).trans (((zR (p:=⟨gb131,_,none⟩) NB132_131.out _).trans (hHeld.2.1)))))),((zR (p:=⟨gb131,_,none⟩) NB132_131.out _).trans (((zR (p:=⟨gb131,_,none⟩) NB132_131.out _).trans (((zR (p:=⟨gb131,_,none⟩) NB132_131.out _).trans (hHeld.2.2))))))⟩ (fun hHeld => ?_);clear hK K;refine pure_ (i:=6) (N:=some 3) (v:=?_) (a':=?_) (bm_ 7 8) rfl rfl (any_of HT_.out (by kernel_rfl)) (fun _ _ _ h => h) (Or.inl ⟨by rfl,?_⟩) ?_ ?_;rotate_left
        ·
         intro w'
         go_simp
         with_reducible rfl
        rotate_left
        ·
         simp only [Act.put,zi,zj,zk,zG,zH]
         rfl
        refine pure_ (i:=7) (N:=some 4) (v:=?_) (a':=?_) (bm_ 8 8) rfl rfl (any_of HT_.out (by kernel_rfl)) (fun _ _ _ h => h) (Or.inl ⟨by rfl,?_⟩) ?_ ?_;rotate_left
        ·
         intro w'
         go_simp
         with_reducible rfl
        rotate_left
        ·
         simp only [Act.put,zi,zj,zk,zG,zH]
         rfl
        refine done_ (done_of HT_.out (by kernel_rfl)) ?_
        try go_wp2
        refine bodyPost_ret (results_ctt rfl _ _ gb131 49 #[.int .i64 (wrap64 (bt a0 0)),.int .i64 (wrap64 (bt a0 1)),.string x133002_6] (0,0) _ rfl (by (with_reducible repeat (first|refine ze ?_ _|refine zf ?_|refine zg ?_ _));refine zL (cs:=#[.int .i64 (wrap64 (bt a0 0)),.int .i64 (wrap64 (bt a0 1)),.string x132002_6]) ?_ 2 _ rfl;(with_reducible repeat (first|refine ze ?_ _|refine zf ?_|refine zg ?_ _));refine zL (cs:=#[.int .i64 (wrap64 (bt a0 0)),.int .i64 x132001_6,.string x132002_6]) ?_ 1 _ rfl;(with_reducible repeat (first|refine ze ?_ _|refine zf ?_|refine zg ?_ _));refine zL (cs:=#[.int .i64 x132000_6,.int .i64 x132001_6,.string x132002_6]) ?_ 0 _ rfl;(with_reducible repeat (first|refine ze ?_ _|refine zf ?_|refine zg ?_ _));exact BK131.out) Tryz.underlying49 rfl (by kernel_rfl)) rfl ?_;exact ⟨by first|rfl|(simp [yt,yu] <;> rfl)|(simp only [← hji54];first|rfl|(simp [yt,yu] <;> rfl))|(simp [*,yt,yu] <;> rfl),by repeat (with_reducible first|exact HB.out|apply za|apply zb|apply zc|refine zd ?_ GE131.out|refine zd ?_ GE132.out)⟩
       rw [if_neg c56] at H;exact absurd H (by simp)
      rw [if_neg c55] at H;exact absurd H (by simp)
     rw [if_neg c52] at H;exact absurd H (by simp)
    rw [if_neg c51] at H;have c51b0 : (x6_6 == 1)=false:=zY.mpr c51;have c51b1 : (x6_6 != 1)=true:=zZ.mpr c51
    by_cases c64 : 1<(a0.size : Int)
    ·
     rw [if_pos c64] at H
     have c64b0 : decide (1<(a0.size : Int))=true:=decide_eq_true c64;have c64b1 : decide (1<a0.size)=true:=decide_eq_true (by omega);clear c64
     by_cases c66 : (bt a0 1) > 127
     ·
      rw [if_pos c66] at H
      have c66b0 : decide (127<(bt a0 1))=true:=decide_eq_true c66;clear c66;simp only [Option.some.injEq,Prod.mk.injEq] at H;obtain ⟨rfl,rfl,rfl,rfl,rfl⟩:=H;have p65 : 0≤(1 : Int):=(by omega);have q65 : 1<a0.size:=(by have : (1 : Int)<(a0.size : Int):=zy (by first|(with_reducible assumption)|assumption);omega);have hx65 : ∀ h : 1<a0.size,((a0[1]'h).toNat : Int)=bt a0 1:=bt_at a0 1;clear p65;have qi65 : (1<(a0.size : Int))=True:=eq_true (zy (by first|(with_reducible assumption)|assumption));replace q65:=eq_true q65;have hnb67:=NB131_132.out;have hnc67:=NB132_131.out;have hcz68_0 : wc.cell? ⟨gb131,0,none⟩=some (.int .i64 x132000_6):=(zz BK131.out 0).trans rfl;have hcz68_1 : wc.cell? ⟨gb131,1,none⟩=some (.int .i64 x132001_6):=(zz BK131.out 1).trans rfl;have hcz68_2 : wc.cell? ⟨gb131,2,none⟩=some (.string x132002_6):=(zz BK131.out 2).trans rfl;have hfz68_0:=zA BK131.out 0;have hfz68_1:=zA BK131.out 1;have hfz68_2:=zA BK131.out 2
      go_wp2
      refine bodyPost_ret (results_ctt rfl _ _ gb131 49 #[.int .i64 0,.int .i64 0,.string (⟨#[]⟩ : ByteArray)] (0,0) _ rfl (by (with_reducible repeat (first|refine ze ?_ _|refine zf ?_|refine zg ?_ _));refine zL (cs:=#[.int .i64 0,.int .i64 0,.string x132002_6]) ?_ 2 _ rfl;(with_reducible repeat (first|refine ze ?_ _|refine zf ?_|refine zg ?_ _));refine zL (cs:=#[.int .i64 0,.int .i64 x132001_6,.string x132002_6]) ?_ 1 _ rfl;(with_reducible repeat (first|refine ze ?_ _|refine zf ?_|refine zg ?_ _));refine zL (cs:=#[.int .i64 x132000_6,.int .i64 x132001_6,.string x132002_6]) ?_ 0 _ rfl;(with_reducible repeat (first|refine ze ?_ _|refine zf ?_|refine zg ?_ _));exact BK131.out) Tryz.underlying49 rfl (by kernel_rfl)) rfl ?_;exact ⟨by first|rfl|(simp [yt,yu] <;> rfl)|(simp [*,yt,yu] <;> rfl),by repeat (with_reducible first|exact HB.out|apply za|apply zb|apply zc|refine zd ?_ GE131.out|refine zd ?_ GE132.out)⟩
     rw [if_neg c66] at H;have c66b0 : decide (127<(bt a0 1))=false:=decide_eq_false c66;clear c66
     by_cases c69 : 1≤9
     ·
      rw [if_pos c69] at H
      have c69b0:=eq_true c69;have c69b1 : decide (1≤9)=true:=decide_eq_true c69;clear c69
      by_cases c70 : 9≤(a0.size : Int)
      ·
       rw [if_pos c70] at H
       have c70b0:=eq_true c70;have c70b1 : decide (9≤(a0.size : Int))=true:=decide_eq_true c70;clear c70;replace H:=zT.mp H;obtain ⟨t134,A710,H⟩:=H;replace H : (if 0≤(wrap64 (1 + x6_6)) then (if (wrap64 (1 + x6_6))≤(a0.size : Int) then (some ((wrap64 (bt a0 0)),wrap64 (t134 - 4611686018427387904),x133002_6,a0.extract ((wrap64 (1 + x6_6)) : Int).toNat a0.size,true)) else (none)) else (none))=some (r1,r2,r3,r4,r5):=H;have A71:=zh A710;clear A710;obtain ⟨ji72,hji72⟩ : ∃ j_ : Int,(wrap64 (1 + x6_6))=j_:=⟨_,rfl⟩;replace H : (if 0≤(ji72) then (if (ji72)≤(a0.size : Int) then (some ((wrap64 (bt a0 0)),wrap64 (t134 - 4611686018427387904),x133002_6,a0.extract ((ji72) : Int).toNat a0.size,true)) else (none)) else (none))=some (r1,r2,r3,r4,r5):=by first|(rw [hji72] at H;exact H)|(simp only [hji72] at H ⊢;exact H)
       (try rw [hji72] at c48b0);(try rw [hji72] at A71);have hji72w : (IntKind.i64.wrap (1 + x6_6))=ji72:=(zG _).trans hji72
       by_cases c73 : 0≤(ji72)
       ·
        rw [if_pos c73] at H
        have c73b0:=eq_true c73;have c73b1 : decide (0≤(ji72))=true:=decide_eq_true c73;clear c73
        by_cases c74 : (ji72)≤(a0.size : Int)
        ·
         rw [if_pos c74] at H
         have c74b0:=eq_true c74;have c74b1 : decide ((ji72)≤(a0.size : Int))=true:=decide_eq_true c74;clear c74;simp only [Option.some.injEq,Prod.mk.injEq] at H;obtain ⟨rfl,rfl,rfl,rfl,rfl⟩:=H;have p65 : 0≤(1 : Int):=(by omega);have q65 : 1<a0.size:=(by have : (1 : Int)<(a0.size : Int):=zy (by first|(with_reducible assumption)|assumption);omega);have hx65 : ∀ h : 1<a0.size,((a0[1]'h).toNat : Int)=bt a0 1:=bt_at a0 1;clear p65;have qi65 : (1<(a0.size : Int))=True:=eq_true (zy (by first|(with_reducible assumption)|assumption));replace q65:=eq_true q65
         try go_wp2_with (first|((with_reducible refine zJ (f:=74) rfl ?_);refine yj (some 73) rfl rfl Tryz.func74 (by kernel_rfl) rfl #[.string (a0.extract 1 9)] rfl (by (try simp only [zt,zu,zv]);first|done|rfl|(simp only [zw,zx];rfl)|(simp only [yr,ys,zV,zW];rfl)) ?_;(with_reducible refine (Ft.calls kj6  (a0.extract 1 9) t134 _ A71.out).mono ?_);rintro e w' ⟨rfl,⟨nd,rfl⟩⟩;refine ⟨_,rfl,?_⟩;(try (rw [drewN_self wc];generalize hq_ : World.drewN wc _=wc;replace BK131 : Aside0 (wc.heap[gb131]? = some (.cells #[.int .i64 x132000_6,.int .i64 x132001_6,.string x132002_6] 49 (0,0))):=⟨by rw [← hq_];exact (by (with_reducible repeat (first|refine ze ?_ _|refine zf ?_|refine zg ?_ _));exact BK131.out)⟩;replace BK132 : Aside0 (wc.heap[gb132]? = some (.cells #[.int .i64 (wrap64 (bt a0 0)),.int .i64 0,.string x133002_6] 49 (0,0))):=⟨by rw [← hq_];exact (by (with_reducible repeat (first|refine ze ?_ _|refine zf ?_|refine zg ?_ _));exact BK132.out)⟩;replace HB : Aside0 (Below w.heap.size w wc):=⟨by rw [← hq_];exact (by repeat (with_reducible first|exact HB.out|apply za|apply zb|apply zc|refine zd ?_ GE131.out|refine zd ?_ GE132.out))⟩;clear hq_));have hnb75:=NB132_131.out;have hnc75:=NB131_132.out;have hcz76_0 : wc.cell? ⟨gb132,0,none⟩=some (.int .i64 (wrap64 (bt a0 0))):=(zz BK132.out 0).trans rfl;have hcz76_1 : wc.cell? ⟨gb132,1,none⟩=some (.int .i64 0):=(zz BK132.out 1).trans rfl;have hcz76_2 : wc.cell? ⟨gb132,2,none⟩=some (.string x133002_6):=(zz BK132.out 2).trans rfl;have hfz76_0:=zA BK132.out 0;have hfz76_1:=zA BK132.out 1;have hfz76_2:=zA BK132.out 2))
         have n0_ : Aside0 ((wc.setCell ⟨gb132,1,none⟩ (.int .i64 (wrap64 (t134 - 4611686018427387904)))).heap[gb131]? = some (.cells #[.int .i64 x132000_6,.int .i64 x132001_6,.string x132002_6] 49 (0,0))):=⟨by (with_reducible repeat (first|refine ze ?_ _|refine zf ?_|refine zg ?_ _));refine zS ?_ NB131_132.out _;(with_reducible repeat (first|refine ze ?_ _|refine zf ?_|refine zg ?_ _));exact BK131.out⟩;have n1_ : Aside0 ((wc.setCell ⟨gb132,1,none⟩ (.int .i64 (wrap64 (t134 - 4611686018427387904)))).heap[gb132]? = some (.cells #[.int .i64 (wrap64 (bt a0 0)),.int .i64 (wrap64 (t134 - 4611686018427387904)),.string x133002_6] 49 (0,0))):=⟨by (with_reducible repeat (first|refine ze ?_ _|refine zf ?_|refine zg ?_ _));refine zL (cs:=#[.int .i64 (wrap64 (bt a0 0)),.int .i64 0,.string x133002_6]) ?_ 1 _ rfl;(with_reducible repeat (first|refine ze ?_ _|refine zf ?_|refine zg ?_ _));exact BK132.out⟩;have n2_ : Aside0 (Below w.heap.size w (wc.setCell ⟨gb132,1,none⟩ (.int .i64 (wrap64 (t134 - 4611686018427387904))))):=⟨by repeat (with_reducible first|exact HB.out|apply za|apply zb|apply zc|refine zd ?_ GE131.out|refine zd ?_ GE132.out)⟩;(try clear BK131);(try clear BK132);(try clear HB);generalize (wc.setCell ⟨gb132,1,none⟩ (.int .i64 (wrap64 (t134 - 4611686018427387904))))=w77 at n0_ n1_ n2_ ⊢;have BK131:=n0_;have BK132:=n1_;have HB:=n2_;clear n0_ n1_ n2_;replace BK131:=zh (zf BK131.out);replace BK132:=zh (zf BK132.out);replace HB:=zh (zc HB.out);refine start_ (n:=8) (S:=fun w' => w'.cell? ⟨gb132,0,none⟩=some (.int .i64 (wrap64 (bt a0 0)))∧w'.cell? ⟨gb132,1,none⟩=some (.int .i64 (wrap64 (t134 - 4611686018427387904)))∧w'.cell? ⟨gb132,2,none⟩=some (.string x133002_6)) (ds:=[]) (bm_ 0 8) (by kernel_rfl) rfl rfl ⟨(zz BK132.out 0).trans rfl,(zz BK132.out 1).trans rfl,(zz BK132.out 2).trans rfl⟩ (fun hHeld => ?_);refine with_tabW F1.tab30 F1.bits30 (fun HT_ HW_ => ?_);generalize w77.drew=w78 at BK131 BK132 HB hHeld ⊢;refine pure_ (i:=1) (N:=some 77) (v:=?_) (a':=?_) #[false,true,false,false,false,false,false,false] rfl rfl (any_of HT_.out (by kernel_rfl)) (fun _ _ _ h => h) (Or.inl ⟨by rfl,?_⟩) ?_ ?_;rotate_left
         ·
          intro w'
          go_simp
          with_reducible rfl
         rotate_left
         ·
          simp only [Act.put,zi,zj,zk,zG,zH]
          rfl
         refine pure_ (i:=2) (N:=some 78) (v:=?_) (a':=?_) #[false,true,true,false,false,false,false,false] rfl rfl (any_of HT_.out (by kernel_rfl)) (fun _ _ _ h => h) (Or.inl ⟨by rfl,?_⟩) ?_ ?_;rotate_left
         ·
          intro w'
          go_simp
          with_reducible rfl
         rotate_left
         ·
          simp only [Act.put,zi,zj,zk,zG,zH]
          rfl
         refine pure_ (i:=3) (N:=some 79) (v:=?_) (a':=?_) #[false,true,true,true,false,false,false,false] rfl rfl (any_of HT_.out (by kernel_rfl)) (fun _ _ _ h => h) (Or.inl ⟨by rfl,?_⟩) ?_ ?_;rotate_left
         ·
          intro w'
          go_simp
          with_reducible rfl
         rotate_left
         ·
          simp only [Act.put,zi,zj,zk,zG,zH]
          rfl
         refine pure_ (i:=4) (N:=some 80) (v:=?_) (a':=?_) #[false,true,true,true,true,false,false,false] rfl rfl (any_of HT_.out (by kernel_rfl)) (fun _ _ _ h => h) (Or.inl ⟨by rfl,?_⟩) ?_ ?_;rotate_left
         ·
          intro w'
          go_simp
          with_reducible rfl
         rotate_left
         ·
          simp only [Act.put,zi,zj,zk,zG,zH]
          rfl
         refine take_ (i:=0) (N:=some 76) (v:=?_) (a':=?_) (bm_ 5 8) rfl rfl (yo HT_.out HW_.out (by kernel_rfl)) (fun _ _ _ h => h) (Or.inl ⟨by rfl,?_⟩) hHeld ?_ ?_;rotate_left
         ·
          rintro w' ⟨s0,s1,s2⟩
          go_simp
          with_reducible rfl
         rotate_left
         ·
          simp only [Act.put,zi,zj,zk,zG,zH]
          rfl
         refine one_ (i:=5) (N:=none) (bm_ 6 8) rfl rfl (one_of HT_.out (by kernel_rfl)) (by decide) (fun K hK => ?_);have hs79 : w78.cell? ⟨gb131,0,none⟩=some (.int .i64 x132000_6):=(zz BK131.out 0).trans rfl;have hfs79:=zA BK131.out 0;have hns79_1:=NB132_131.out;have hms79_1:=NB131_132.out;have hs80 : w78.cell? ⟨gb131,1,none⟩=some (.int .i64 x132001_6):=(zz BK131.out 1).trans rfl;have hfs80:=zA BK131.out 1;have hns80_1:=NB132_131.out;have hms80_1:=NB131_132.out;have hs81 : w78.cell? ⟨gb131,2,none⟩=some (.string x132002_6):=(zz BK131.out 2).trans rfl;have hfs81:=zA BK131.out 2;have hns81_1:=NB132_131.out;have hms81_1:=NB131_132.out;refine skip_ (w1:=?_) (by rfl) rfl ?_ ?_;rotate_left
         ·
          go_simp
          rfl
         refine hK.out _ _ ⟨((zR (p:=⟨gb131,_,none⟩) NB132_131.out _).trans (((zR (p:=⟨gb131,_,none⟩) NB132_131.out _).trans (((zR (p:=⟨gb131,_,none⟩) NB132_131.out _).trans (hHeld.1)))))),((zR (p:=⟨gb131,_,none⟩) NB132_131.out _).trans (((zR (p:=⟨gb131,_,none⟩) NB132_131.out _).trans (((zR (p:=⟨gb131,_,none⟩) NB132_131.out _).trans (hHeld.2.1)))))),((zR (p:=⟨gb131,_,none⟩) NB132_131.out _).trans (((zR (p:=⟨gb131,_,none⟩) NB132_131.out _).trans (((zR (p:=⟨gb131,_,none⟩) NB132_131.out _).trans (hHeld.2.2))))))⟩ (fun hHeld => ?_);clear hK K;refine pure_ (i:=6) (N:=some 3) (v:=?_) (a':=?_) (bm_ 7 8) rfl rfl (any_of HT_.out (by kernel_rfl)) (fun _ _ _ h => h) (Or.inl ⟨by rfl,?_⟩) ?_ ?_;rotate_left
         ·
          intro w'
          go_simp
          with_reducible rfl
         rotate_left
         ·
          simp only [Act.put,zi,zj,zk,zG,zH]
          rfl
         refine pure_ (i:=7) (N:=some 4) (v:=?_) (a':=?_) (bm_ 8 8) rfl rfl (any_of HT_.out (by kernel_rfl)) (fun _ _ _ h => h) (Or.inl ⟨by rfl,?_⟩) ?_ ?_;rotate_left
         ·
          intro w'
          go_simp
          with_reducible rfl
         rotate_left
         ·
          simp only [Act.put,zi,zj,zk,zG,zH]
          rfl
         refine done_ (done_of HT_.out (by kernel_rfl)) ?_
         try go_wp2
         refine bodyPost_ret (results_ctt rfl _ _ gb131 49 #[.int .i64 (wrap64 (bt a0 0)),.int .i64 (wrap64 (t134 - 4611686018427387904)),.string x133002_6] (0,0) _ rfl (by (with_reducible repeat (first|refine ze ?_ _|refine zf ?_|refine zg ?_ _));refine zL (cs:=#[.int .i64 (wrap64 (bt a0 0)),.int .i64 (wrap64 (t134 - 4611686018427387904)),.string x132002_6]) ?_ 2 _ rfl;(with_reducible repeat (first|refine ze ?_ _|refine zf ?_|refine zg ?_ _));refine zL (cs:=#[.int .i64 (wrap64 (bt a0 0)),.int .i64 x132001_6,.string x132002_6]) ?_ 1 _ rfl;(with_reducible repeat (first|refine ze ?_ _|refine zf ?_|refine zg ?_ _));refine zL (cs:=#[.int .i64 x132000_6,.int .i64 x132001_6,.string x132002_6]) ?_ 0 _ rfl;(with_reducible repeat (first|refine ze ?_ _|refine zf ?_|refine zg ?_ _));exact BK131.out) Tryz.underlying49 rfl (by kernel_rfl)) rfl ?_;exact ⟨by first|rfl|(simp [yt,yu] <;> rfl)|(simp only [← hji72];first|rfl|(simp [yt,yu] <;> rfl))|(simp [*,yt,yu] <;> rfl),by repeat (with_reducible first|exact HB.out|apply za|apply zb|apply zc|refine zd ?_ GE131.out|refine zd ?_ GE132.out)⟩
        rw [if_neg c74] at H;exact absurd H (by simp)
       rw [if_neg c73] at H;exact absurd H (by simp)
      rw [if_neg c70] at H;exact absurd H (by simp)
     rw [if_neg c69] at H;exact absurd H (by simp)
    rw [if_neg c64] at H;exact absurd H (by simp)
 rw [if_neg c5] at H;exact absurd H (by simp)

end Go.Proofs.YthjgfjlogilleaaGreatDoor.Q
end
section
namespace Go.Proofs.YthjgfjlogilleaaGreatDoor.Q
open Go.RowKit Go.Proofs.YthjgfjlogilleaaGreatDoorW.PrintWords Go.Proofs.YthjgfjlogilleaaGreatDoorW.PrintLast Go.Proofs.YthjgfjlogilleaaGreatDoorW.PrintMore
attribute [local go_sem] max2_int min2_int max_two min_two max_three min_three max_four min_four max2_str min2_str str_geq str_gtr str_leq
set_option linter.unusedVariables false
set_option linter.unusedSimpArgs false

def Fo.l0 : Nat→ByteArray→List (S49)→Option ((List (S49))×Bool)
 | 0,_,_ => none
 | k + 1,x0,x4 => if (x0.size : Int) > 0 then ((F1.f k x0).bind fun bt138 => (if bt138.2.2.2.2=true then (if x4.length<4398046511104 then (Fo.l0 k bt138.2.2.2.1 (x4 ++ [(⟨bt138.1,bt138.2.1,bt138.2.2.1⟩ : S49)])) else (none)) else (some ((([] : List (S49))),false)))) else (some (x4,true))
def Fo.f (k : Nat) (a0 : ByteArray) : Option ((List (S49))×Bool):=Fo.l0 k a0 (([] : List (S49)))
theorem Fo.mono_l : ∀ k,(∀ y0 y1,LeO (Fo.l0 k y0 y1) (Fo.l0 (k + 1) y0 y1))
 | 0 => fun _ _ r h => by simp [Fo.l0] at h
 | k + 1 => by
  have ih0:=Fo.mono_l k;intro y0 y1;unfold Fo.l0
  repeat' first|(with_reducible first|exact ih0 _ _|exact F1.mono _ _|exact zQ _|exact zN _|refine zP ?_ ?_|refine zO ?_ (fun _ => ?_))|refine zP ?_ ?_|refine zO ?_ (fun _ => ?_)
theorem Fo.mono : ∀ a0 k,LeO (Fo.f k a0) (Fo.f (k + 1) a0):=by
 intro a0 k;have ih0:=Fo.mono_l k;unfold Fo.f
 repeat' first|(with_reducible first|exact ih0 _ _|exact F1.mono _ _|exact zQ _|exact zN _|refine zP ?_ ?_|refine zO ?_ (fun _ => ?_))|refine zP ?_ ?_|refine zO ?_ (fun _ => ?_)
set_option maxHeartbeats 8000000 in
set_option maxRecDepth 100000 in
theorem Fo.calls (k : Nat) (a0 : ByteArray) (r1 : List (S49)) (r2 : Bool) (w : World) (h : Fo.f k a0=some (r1,r2)) :
  Calls Tryz.prog 52 #[.string a0] w fun e w' => ∃ v0_ : Value,e = .returned (.tuple #[v0_,.bool r2])∧Kd.R k49 49 w' w.heap.size (fun _ => True) v0_ r1∧Below w.heap.size w w':=by
 have hu49:=Tryz.underlying49;have HB:=zh (Below.refl w.heap.size w);have H : (Fo.l0 k a0 (([] : List (S49))))=some (r1,r2):=h;clear h;obtain ⟨y135,hy135⟩ : ∃ y_ : List (S49),y_=(([] : List (S49))):=⟨_,rfl⟩;replace H : (Fo.l0 k a0 y135)=some (r1,r2):=by first|(rw [hy135];with_reducible exact H)|(have H2_:=(Option.bind_some _ _).symm.trans H;rw [hy135];with_reducible exact H2_)|(have H2_:=(Option.bind_some _ _).symm.trans H;with_reducible exact H2_)|with_reducible exact H|(rw [hy135];exact H)|exact H
 have Ny135:=zh hy135;clear hy135;have H':=zh H;clear H
 go_enter Tryz.func52,Tryz.ntmps52
 go_wp2_with (first|((with_reducible refine zK (N:=8) rfl ?_);refine Kd.R_lit k49 _ 49 ?hg (N:=8) ?hd (xs:=([] : List (S49))) (inner:=[]) (ok:=fun _ => True) (okp:=fun _ => True) ?hr ?hp (fun _ hk => hk) trivial (Below.refl _ _) (ye _) (by simp) ?_;(case hd => rfl);(case hg => rfl);(case hr => first|(go_simp;done)|(go_simp;rfl));(case hp => exact (Reps.none _ _));intro v136 w2 ho3 hb hg_ hnew_;clear hg_ hnew_;(first|rw [← Ny135.out] at ho3|(simp only [Int.reduceToNat] at ho3;rw [← Ny135.out] at ho3));have HO137:=zh (yy ho3 (zB (by repeat (with_reducible first|exact HB.out|apply za|apply zb|apply zc))));replace HB:=zh (zC (by repeat (with_reducible first|exact HB.out|apply za|apply zb|apply zc)) hb);clear hb ho3))
 go_loopg [0,4] k (fun kq v0 v4 w' => ∃ (x0_1 : ByteArray) (x4_1 : List (S49)),v0 = .string x0_1∧Aside0 (Fo.l0 kq x0_1 x4_1=some (r1,r2))∧Aside0 (kq≤k)∧Aside0 (Kd.R k49 49 w' w.heap.size (fun _ => True) v4 x4_1)∧Aside0 (Below w.heap.size w w'))
 case atStart => exact ⟨(a0),(y135),(by first|rfl|(simp;done)|(simp [*];done)),H',⟨ye _⟩,⟨by (with_reducible repeat (first|apply zm|apply zn|apply zo));exact HO137.out⟩,⟨by repeat (with_reducible first|exact HB.out|apply za|apply zb|apply zc)⟩⟩
 case round =>
  clear H'
  try clear p2
  obtain ⟨x0_1,x4_1,rfl,HA,HK1,HO_4,HB⟩:=hrel
  cases gk with
  | zero => exact absurd HA.out (by simp [Fo.l0])
  | succ k1 =>
   have H:=HA.out;clear HA;simp only [Fo.l0] at H
   by_cases c4 : (x0_1.size : Int) > 0
   ·
    rw [if_pos c4] at H
    have c4b0 : decide (0<(x0_1.size : Int))=true:=decide_eq_true c4;have c4b1 : decide (0<x0_1.size)=true:=decide_eq_true (by omega);clear c4;replace H:=zT.mp H;obtain ⟨⟨t138,t139,t140,t141,t142⟩,A50,H⟩:=H;replace H : (if t142=true then (if x4_1.length<4398046511104 then (Fo.l0 k1 t141 (x4_1 ++ [(⟨t138,t139,t140⟩ : S49)])) else (none)) else (some ((([] : List (S49))),false)))=some (r1,r2):=H;have A5:=zh A50;clear A50
    by_cases c6 : t142=true
    ·
     subst c6
     have H1 : (if x4_1.length<4398046511104 then (Fo.l0 k1 t141 (x4_1 ++ [(⟨t138,t139,t140⟩ : S49)])) else (none))=some (r1,r2):=by rw [if_pos rfl] at H;exact H
     clear H;have H:=H1;clear H1
     by_cases c7 : x4_1.length<4398046511104
     ·
      rw [if_pos c7] at H
      have LMc7:=zh c7;clear c7;obtain ⟨y144,hy144⟩ : ∃ y_ : List (S49),y_=(x4_1 ++ [(⟨t138,t139,t140⟩ : S49)]):=⟨_,rfl⟩;replace H : (Fo.l0 k1 t141 y144)=some (r1,r2):=by first|(rw [hy144];with_reducible exact H)|(have H2_:=(Option.bind_some _ _).symm.trans H;rw [hy144];with_reducible exact H2_)|(have H2_:=(Option.bind_some _ _).symm.trans H;with_reducible exact H2_)|with_reducible exact H|(rw [hy144];exact H)|exact H
      have Ny144:=zh hy144;clear hy144;have H':=zh H;clear H
      go_wp2_with (first|((with_reducible refine zJ (f:=65) rfl ?_);refine yj (some 14) rfl rfl Tryz.func65 (by kernel_rfl) rfl #[.string x0_1] rfl (by (try simp only [zt,zu,zv]);first|done|rfl|(simp only [zw,zx];rfl)|(simp only [yr,ys,zV,zW];rfl)) ?_;(with_reducible refine (F1.calls k1  x0_1 t138 t139 t140 t141 true _ A5.out).mono ?_);rintro e w8 ⟨rfl,hb⟩;refine ⟨_,rfl,?_⟩;replace HO_4:=zh (yg (by (with_reducible repeat (first|apply zm|apply zn|apply zo));exact HO_4.out) hb);replace HB:=zh (zC (by repeat (with_reducible first|exact HB.out|apply za|apply zb|apply zc)) hb);(try clear hb);(try clear hb2);(try clear hk);(try clear hi))|((with_reducible refine zK (N:=5) rfl ?_);refine zI ?hg (N:=5) ?hd (cs:=#[.int .i64 0,.int .i64 0,.string (⟨#[]⟩ : ByteArray)]) (t:=49) ?hr ?_;(case hd => rfl);(case hg => rfl);(case hr => first|(go_simp;done)|(go_simp;rfl));intro gb143 hg w9 hbox hb;replace HO_4:=zh (yg (Kd.R_elderB (by (with_reducible repeat (first|apply zm|apply zn|apply zo));exact HO_4.out) gb143 (Nat.le_of_eq hg.symm)) hb);have BK143:=zh (hbox);have GW143:=zh ((by rw [hg];exact (zB (by repeat (with_reducible first|exact HB.out|apply za|apply zb|apply zc))) : w.heap.size≤gb143));have GE143:=zh ((by rw [hg];exact (zB (by repeat (with_reducible first|exact HB.out|apply za|apply zb|apply zc))) : w.heap.size≤gb143));replace HB:=zh (zC (by repeat (with_reducible first|exact HB.out|apply za|apply zb|apply zc)) hb);clear hb hbox hg;have hcz10_0 : w9.cell? ⟨gb143,0,none⟩=some (.int .i64 0):=(zz BK143.out 0).trans rfl;have hcz10_1 : w9.cell? ⟨gb143,1,none⟩=some (.int .i64 0):=(zz BK143.out 1).trans rfl;have hcz10_2 : w9.cell? ⟨gb143,2,none⟩=some (.string (⟨#[]⟩ : ByteArray)):=(zz BK143.out 2).trans rfl;have hfz10_0:=zA BK143.out 0;have hfz10_1:=zA BK143.out 1;have hfz10_2:=zA BK143.out 2)|((with_reducible refine yB (b:=.append) (xs:=#[.tmp 21,.tmp 23]) rfl ?_);at_builtin;refine Kd.R_append k49 (w0:=w) w.heap.size rfl (.tmp 21) (.tmp 23) 80 49 (.agg #[(.int .i64 0),(.int .i64 0),(.string ⟨#[]⟩)]) 32 rfl Tryz.underlying80 info49 rfl (by decide) (by omega) u4 x4_1 (⟨t138,t139,t140⟩ : S49) [.int .i64 t138,.int .i64 t139,.string t140] (fun k_ => k_≠gb143) (fun _ => False) rfl (by first|(go_simp;done)|(go_simp;rfl)) ?aP (fun _ hk => hk.elim) ?aF ?aO ?aB ?aS ?aL ?_;(case aP => exact k49_mkM _ _ _ (⟨t138,t139,t140⟩ : S49));(case aB => exact (by repeat (with_reducible first|exact HB.out|apply za|apply zb|apply zc|refine zd ?_ GE143.out)));(case aF => exact (fun k_ hk => Kd.freshB (g:=gb143) (o:=.cells #[.int .i64 t138,.int .i64 t139,.string t140] 49 (0,0)) (by (with_reducible repeat (first|refine ze ?_ _|refine zf ?_|refine zg ?_ _));refine zL (cs:=#[.int .i64 t138,.int .i64 t139,.string (⟨#[]⟩ : ByteArray)]) ?_ 2 _ rfl;(with_reducible repeat (first|refine ze ?_ _|refine zf ?_|refine zg ?_ _));refine zL (cs:=#[.int .i64 t138,.int .i64 0,.string (⟨#[]⟩ : ByteArray)]) ?_ 1 _ rfl;(with_reducible repeat (first|refine ze ?_ _|refine zf ?_|refine zg ?_ _));refine zL (cs:=#[.int .i64 0,.int .i64 0,.string (⟨#[]⟩ : ByteArray)]) ?_ 0 _ rfl;(with_reducible repeat (first|refine ze ?_ _|refine zf ?_|refine zg ?_ _));exact BK143.out) k_ hk));(case aO => exact (by (with_reducible repeat (first|apply zm|apply zn|apply zo));exact zM (zE (p:=⟨gb143,2,none⟩) (zE (p:=⟨gb143,1,none⟩) (zE (p:=⟨gb143,0,none⟩) (zM HO_4.out (fun k_ hk => (⟨hk,hk.2⟩ : _∧k_≠gb143))) (fun _ hk => hk.2) (.int .i64 t138)) (fun _ hk => hk.2) (.int .i64 t139)) (fun _ hk => hk.2) (.string t140)) (fun _ hk => hk.1.2)));(case aS => exact (zB (by repeat (with_reducible first|exact HB.out|apply za|apply zb|apply zc|refine zd ?_ GE143.out))));(case aL => have:=LMc7.out;omega);intro v145 w11 ho hb hg hat;rw [← Ny144.out] at ho;replace BK143:=zh (yw (g:=gb143) (o:=.cells #[.int .i64 t138,.int .i64 t139,.string t140] 49 (0,0)) (by (with_reducible repeat (first|refine ze ?_ _|refine zf ?_|refine zg ?_ _));refine zL (cs:=#[.int .i64 t138,.int .i64 t139,.string (⟨#[]⟩ : ByteArray)]) ?_ 2 _ rfl;(with_reducible repeat (first|refine ze ?_ _|refine zf ?_|refine zg ?_ _));refine zL (cs:=#[.int .i64 t138,.int .i64 0,.string (⟨#[]⟩ : ByteArray)]) ?_ 1 _ rfl;(with_reducible repeat (first|refine ze ?_ _|refine zf ?_|refine zg ?_ _));refine zL (cs:=#[.int .i64 0,.int .i64 0,.string (⟨#[]⟩ : ByteArray)]) ?_ 0 _ rfl;(with_reducible repeat (first|refine ze ?_ _|refine zf ?_|refine zg ?_ _));exact BK143.out) hg (yv HO_4.out (fun _ hk => hk.2)));replace HB:=zh (hb);have HO146:=zh (ho);clear HO_4 ho hb hg hat))
      go_roundg k1
      case measure => have:=HK1.out;omega
      case rel => exact ⟨(t141),(y144),(by first|rfl|(simp;done)|(simp [*];done)),H',⟨by have:=HK1.out;omega⟩,⟨by (with_reducible repeat (first|apply zm|apply zn|apply zo));exact zM HO146.out (fun _ hk => trivial)⟩,⟨by repeat (with_reducible first|exact HB.out|apply za|apply zb|apply zc|refine zd ?_ GE143.out)⟩⟩
     rw [if_neg c7] at H;exact absurd H (by simp)
    replace c6:=yb.mpr c6;subst c6;have H1 : (some ((([] : List (S49))),false))=some (r1,r2):=by rw [if_neg (show ¬ (false=true) by decide)] at H;exact H
    clear H;have H:=H1;clear H1;obtain ⟨y147,hy147⟩ : ∃ y_ : List (S49),y_=(([] : List (S49))):=⟨_,rfl⟩;replace H : (some (y147,false))=some (r1,r2):=by first|(rw [hy147];with_reducible exact H)|(have H2_:=(Option.bind_some _ _).symm.trans H;rw [hy147];with_reducible exact H2_)|(have H2_:=(Option.bind_some _ _).symm.trans H;with_reducible exact H2_)|with_reducible exact H|(rw [hy147];exact H)|exact H
    have Ny147:=zh hy147;clear hy147;simp only [Option.some.injEq,Prod.mk.injEq] at H;obtain ⟨rfl,rfl⟩:=H
    go_wp2_with (first|((with_reducible refine zJ (f:=65) rfl ?_);refine yj (some 14) rfl rfl Tryz.func65 (by kernel_rfl) rfl #[.string x0_1] rfl (by (try simp only [zt,zu,zv]);first|done|rfl|(simp only [zw,zx];rfl)|(simp only [yr,ys,zV,zW];rfl)) ?_;(with_reducible refine (F1.calls k1  x0_1 t138 t139 t140 t141 false _ A5.out).mono ?_);rintro e w12 ⟨rfl,hb⟩;refine ⟨_,rfl,?_⟩;replace HO_4:=zh (yg (by (with_reducible repeat (first|apply zm|apply zn|apply zo));exact HO_4.out) hb);replace HB:=zh (zC (by repeat (with_reducible first|exact HB.out|apply za|apply zb|apply zc)) hb);(try clear hb);(try clear hb2);(try clear hk);(try clear hi))|((with_reducible refine zK (N:=5) rfl ?_);refine zI ?hg (N:=5) ?hd (cs:=#[.int .i64 0,.int .i64 0,.string (⟨#[]⟩ : ByteArray)]) (t:=49) ?hr ?_;(case hd => rfl);(case hg => rfl);(case hr => first|(go_simp;done)|(go_simp;rfl));intro gb143 hg w13 hbox hb;replace HO_4:=zh (yg (Kd.R_elderB (by (with_reducible repeat (first|apply zm|apply zn|apply zo));exact HO_4.out) gb143 (Nat.le_of_eq hg.symm)) hb);have BK143:=zh (hbox);have GW143:=zh ((by rw [hg];exact (zB (by repeat (with_reducible first|exact HB.out|apply za|apply zb|apply zc))) : w.heap.size≤gb143));have GE143:=zh ((by rw [hg];exact (zB (by repeat (with_reducible first|exact HB.out|apply za|apply zb|apply zc))) : w.heap.size≤gb143));replace HB:=zh (zC (by repeat (with_reducible first|exact HB.out|apply za|apply zb|apply zc)) hb);clear hb hbox hg;have hcz14_0 : w13.cell? ⟨gb143,0,none⟩=some (.int .i64 0):=(zz BK143.out 0).trans rfl;have hcz14_1 : w13.cell? ⟨gb143,1,none⟩=some (.int .i64 0):=(zz BK143.out 1).trans rfl;have hcz14_2 : w13.cell? ⟨gb143,2,none⟩=some (.string (⟨#[]⟩ : ByteArray)):=(zz BK143.out 2).trans rfl;have hfz14_0:=zA BK143.out 0;have hfz14_1:=zA BK143.out 1;have hfz14_2:=zA BK143.out 2)|((with_reducible refine zK (N:=20) rfl ?_);refine Kd.R_lit k49 _ 49 ?hg (N:=20) ?hd (xs:=([] : List (S49))) (inner:=[]) (ok:=fun _ => True) (okp:=fun _ => True) ?hr ?hp (fun _ hk => hk) trivial (Below.refl _ _) (ye _) (by simp) ?_;(case hd => rfl);(case hg => rfl);(case hr => first|(go_simp;done)|(go_simp;rfl));(case hp => exact (Reps.none _ _));intro v148 w15 ho16 hb hg_ hnew_;clear hg_ hnew_;(first|rw [← Ny147.out] at ho16|(simp only [Int.reduceToNat] at ho16;rw [← Ny147.out] at ho16));have HO149:=zh (yy (Kd.R_newB (Kd.R_new' ho16 (Kd.R_lt (by (with_reducible repeat (first|apply zm|apply zn|apply zo));exact (zM (zE (p:=⟨gb143,2,none⟩) (zE (p:=⟨gb143,1,none⟩) (zE (p:=⟨gb143,0,none⟩) (zM HO_4.out (fun k_ hk => (⟨hk,hk.2⟩ : _∧k_≠gb143))) (fun _ hk => hk.2) (.int .i64 t138)) (fun _ hk => hk.2) (.int .i64 t139)) (fun _ hk => hk.2) (.string t140)) (fun _ h_ => h_.1))))) (g:=gb143) (o:=.cells #[.int .i64 t138,.int .i64 t139,.string t140] 49 (0,0)) (by (with_reducible repeat (first|refine ze ?_ _|refine zf ?_|refine zg ?_ _));refine zL (cs:=#[.int .i64 t138,.int .i64 t139,.string (⟨#[]⟩ : ByteArray)]) ?_ 2 _ rfl;(with_reducible repeat (first|refine ze ?_ _|refine zf ?_|refine zg ?_ _));refine zL (cs:=#[.int .i64 t138,.int .i64 0,.string (⟨#[]⟩ : ByteArray)]) ?_ 1 _ rfl;(with_reducible repeat (first|refine ze ?_ _|refine zf ?_|refine zg ?_ _));refine zL (cs:=#[.int .i64 0,.int .i64 0,.string (⟨#[]⟩ : ByteArray)]) ?_ 0 _ rfl;(with_reducible repeat (first|refine ze ?_ _|refine zf ?_|refine zg ?_ _));exact BK143.out)) (zB (by repeat (with_reducible first|exact HB.out|apply za|apply zb|apply zc|refine zd ?_ GE143.out))));replace HO_4:=zh (Kd.R_elder' (by (with_reducible repeat (first|apply zm|apply zn|apply zo));exact (zM (zE (p:=⟨gb143,2,none⟩) (zE (p:=⟨gb143,1,none⟩) (zE (p:=⟨gb143,0,none⟩) (zM HO_4.out (fun k_ hk => (⟨hk,hk.2⟩ : _∧k_≠gb143))) (fun _ hk => hk.2) (.int .i64 t138)) (fun _ hk => hk.2) (.int .i64 t139)) (fun _ hk => hk.2) (.string t140)) (fun _ h_ => h_.1))) (Kd.R_base ho16) hb);replace BK143:=zh (zD (g:=gb143) (o:=.cells #[.int .i64 t138,.int .i64 t139,.string t140] 49 (0,0)) (by (with_reducible repeat (first|refine ze ?_ _|refine zf ?_|refine zg ?_ _));refine zL (cs:=#[.int .i64 t138,.int .i64 t139,.string (⟨#[]⟩ : ByteArray)]) ?_ 2 _ rfl;(with_reducible repeat (first|refine ze ?_ _|refine zf ?_|refine zg ?_ _));refine zL (cs:=#[.int .i64 t138,.int .i64 0,.string (⟨#[]⟩ : ByteArray)]) ?_ 1 _ rfl;(with_reducible repeat (first|refine ze ?_ _|refine zf ?_|refine zg ?_ _));refine zL (cs:=#[.int .i64 0,.int .i64 0,.string (⟨#[]⟩ : ByteArray)]) ?_ 0 _ rfl;(with_reducible repeat (first|refine ze ?_ _|refine zf ?_|refine zg ?_ _));exact BK143.out) hb);replace HB:=zh (zC (by repeat (with_reducible first|exact HB.out|apply za|apply zb|apply zc|refine zd ?_ GE143.out)) hb);clear hb ho16))
    go_ret2
    exact ⟨_,by first|rfl|(simp [yt,yu] <;> rfl)|(simp [*,yt,yu] <;> rfl),by (with_reducible repeat (first|apply zm|apply zn|apply zo));exact zM HO149.out (fun _ hk => trivial),by repeat (with_reducible first|exact HB.out|apply za|apply zb|apply zc|refine zd ?_ GE143.out)⟩
   rw [if_neg c4] at H;have c4b0 : decide (0<(x0_1.size : Int))=false:=decide_eq_false c4;have c4b1 : decide (0<x0_1.size)=false:=decide_eq_false (by omega);clear c4;simp only [Option.some.injEq,Prod.mk.injEq] at H;obtain ⟨rfl,rfl⟩:=H
   go_wp2
   go_ret2
   exact ⟨_,by first|rfl|(simp [yt,yu] <;> rfl)|(simp [*,yt,yu] <;> rfl),by (with_reducible repeat (first|apply zm|apply zn|apply zo));exact HO_4.out,by repeat (with_reducible first|exact HB.out|apply za|apply zb|apply zc)⟩


def Fn.l0 : Nat→ByteArray→List (S87)→Option ((List (S87))×Bool)
 | 0,_,_ => none
 | k + 1,x0,x4 => if (x0.size : Int) > 0 then (if 0<(x0.size : Int) then (if (x0.size : Int)<(wrap64 (1 + (wrap64 (bt x0 0)))) then (some ((([] : List (S87))),false)) else (if 1≤(wrap64 (1 + (wrap64 (bt x0 0)))) then (if (wrap64 (1 + (wrap64 (bt x0 0))))≤(x0.size : Int) then (if 0≤(wrap64 (1 + (wrap64 (bt x0 0)))) then ((F1.f k (x0.extract ((wrap64 (1 + (wrap64 (bt x0 0)))) : Int).toNat x0.size)).bind fun bt156 => (if bt156.2.2.2.2=true then (if x4.length<2932031007402 then (Fn.l0 k bt156.2.2.2.1 (x4 ++ [(⟨x0.extract 1 ((wrap64 (1 + (wrap64 (bt x0 0)))) : Int).toNat,(⟨bt156.1,bt156.2.1,bt156.2.2.1⟩ : S49)⟩ : S87)])) else (none)) else (some ((([] : List (S87))),false)))) else (none)) else (none)) else (none))) else (none)) else (some (x4,true))
def Fn.f (k : Nat) (a0 : ByteArray) : Option ((List (S87))×Bool):=Fn.l0 k a0 (([] : List (S87)))
theorem Fn.mono_l : ∀ k,(∀ y0 y1,LeO (Fn.l0 k y0 y1) (Fn.l0 (k + 1) y0 y1))
 | 0 => fun _ _ r h => by simp [Fn.l0] at h
 | k + 1 => by
  have ih0:=Fn.mono_l k;intro y0 y1;unfold Fn.l0
  repeat' first|(with_reducible first|exact ih0 _ _|exact F1.mono _ _|exact zQ _|exact zN _|refine zP ?_ ?_|refine zO ?_ (fun _ => ?_))|refine zP ?_ ?_|refine zO ?_ (fun _ => ?_)
theorem Fn.mono : ∀ a0 k,LeO (Fn.f k a0) (Fn.f (k + 1) a0):=by
 intro a0 k;have ih0:=Fn.mono_l k;unfold Fn.f
 repeat' first|(with_reducible first|exact ih0 _ _|exact F1.mono _ _|exact zQ _|exact zN _|refine zP ?_ ?_|refine zO ?_ (fun _ => ?_))|refine zP ?_ ?_|refine zO ?_ (fun _ => ?_)
set_option maxHeartbeats 8000000 in
set_option maxRecDepth 100000 in
theorem Fn.calls (k : Nat) (a0 : ByteArray) (r1 : List (S87)) (r2 : Bool) (w : World) (h : Fn.f k a0=some (r1,r2)) :
  Calls Tryz.prog 53 #[.string a0] w fun e w' => ∃ v0_ : Value,e = .returned (.tuple #[v0_,.bool r2])∧Kd.R k87 87 w' w.heap.size (fun _ => True) v0_ r1∧Below w.heap.size w w':=by
 have hu49:=Tryz.underlying49;have hu87:=Tryz.underlying87;have HB:=zh (Below.refl w.heap.size w);have H : (Fn.l0 k a0 (([] : List (S87))))=some (r1,r2):=h;clear h;obtain ⟨y150,hy150⟩ : ∃ y_ : List (S87),y_=(([] : List (S87))):=⟨_,rfl⟩;replace H : (Fn.l0 k a0 y150)=some (r1,r2):=by first|(rw [hy150];with_reducible exact H)|(have H2_:=(Option.bind_some _ _).symm.trans H;rw [hy150];with_reducible exact H2_)|(have H2_:=(Option.bind_some _ _).symm.trans H;with_reducible exact H2_)|with_reducible exact H|(rw [hy150];exact H)|exact H
 have Ny150:=zh hy150;clear hy150;have H':=zh H;clear H
 go_enter Tryz.func53,Tryz.ntmps53
 go_wp2_with (first|((with_reducible refine zK (N:=10) rfl ?_);refine Kd.R_lit k87 _ 87 ?hg (N:=10) ?hd (xs:=([] : List (S87))) (inner:=[]) (ok:=fun _ => True) (okp:=fun _ => True) ?hr ?hp (fun _ hk => hk) trivial (Below.refl _ _) (ye _) (by simp) ?_;(case hd => rfl);(case hg => rfl);(case hr => first|(go_simp;done)|(go_simp;rfl));(case hp => exact (Reps.none _ _));intro v151 w2 ho3 hb hg_ hnew_;clear hg_ hnew_;(first|rw [← Ny150.out] at ho3|(simp only [Int.reduceToNat] at ho3;rw [← Ny150.out] at ho3));have HO152:=zh (yy ho3 (zB (by repeat (with_reducible first|exact HB.out|apply za|apply zb|apply zc))));replace HB:=zh (zC (by repeat (with_reducible first|exact HB.out|apply za|apply zb|apply zc)) hb);clear hb ho3))
 go_loopg [0,4] k (fun kq v0 v4 w' => ∃ (x0_1 : ByteArray) (x4_1 : List (S87)),v0 = .string x0_1∧Aside0 (Fn.l0 kq x0_1 x4_1=some (r1,r2))∧Aside0 (kq≤k)∧Aside0 (Kd.R k87 87 w' w.heap.size (fun _ => True) v4 x4_1)∧Aside0 (Below w.heap.size w w'))
 case atStart => exact ⟨(a0),(y150),(by first|rfl|(simp;done)|(simp [*];done)),H',⟨ye _⟩,⟨by (with_reducible repeat (first|apply zm|apply zn|apply zo));exact HO152.out⟩,⟨by repeat (with_reducible first|exact HB.out|apply za|apply zb|apply zc)⟩⟩
 case round =>
  clear H'
  try clear p2
  obtain ⟨x0_1,x4_1,rfl,HA,HK1,HO_4,HB⟩:=hrel
  cases gk with
  | zero => exact absurd HA.out (by simp [Fn.l0])
  | succ k1 =>
   have H:=HA.out;clear HA;simp only [Fn.l0] at H
   by_cases c4 : (x0_1.size : Int) > 0
   ·
    rw [if_pos c4] at H
    have c4b0 : decide (0<(x0_1.size : Int))=true:=decide_eq_true c4;have c4b1 : decide (0<x0_1.size)=true:=decide_eq_true (by omega);clear c4
    by_cases c5 : 0<(x0_1.size : Int)
    ·
     rw [if_pos c5] at H
     have c5b0 : decide (0<(x0_1.size : Int))=true:=decide_eq_true c5;have c5b1 : decide (0<x0_1.size)=true:=decide_eq_true (by omega);clear c5
     by_cases c7 : (x0_1.size : Int)<(wrap64 (1 + (wrap64 (bt x0_1 0))))
     ·
      rw [if_pos c7] at H
      have c7b0 : decide ((x0_1.size : Int)<(wrap64 (1 + (wrap64 (bt x0_1 0)))))=true:=decide_eq_true c7;clear c7;obtain ⟨y153,hy153⟩ : ∃ y_ : List (S87),y_=(([] : List (S87))):=⟨_,rfl⟩;replace H : (some (y153,false))=some (r1,r2):=by first|(rw [hy153];with_reducible exact H)|(have H2_:=(Option.bind_some _ _).symm.trans H;rw [hy153];with_reducible exact H2_)|(have H2_:=(Option.bind_some _ _).symm.trans H;with_reducible exact H2_)|with_reducible exact H|(rw [hy153];exact H)|exact H
      have Ny153:=zh hy153;clear hy153;simp only [Option.some.injEq,Prod.mk.injEq] at H;obtain ⟨rfl,rfl⟩:=H;have p6 : 0≤(0 : Int):=(by omega);have q6 : 0<x0_1.size:=(by have : (0 : Int)<(x0_1.size : Int):=zy (by first|(with_reducible assumption)|assumption);omega);have hx6 : ∀ h : 0<x0_1.size,((x0_1[0]'h).toNat : Int)=bt x0_1 0:=bt_at x0_1 0;clear p6;have qi6 : (0<(x0_1.size : Int))=True:=eq_true (zy (by first|(with_reducible assumption)|assumption));replace q6:=eq_true q6
      go_wp2_with (first|((with_reducible refine zK (N:=22) rfl ?_);refine Kd.R_lit k87 _ 87 ?hg (N:=22) ?hd (xs:=([] : List (S87))) (inner:=[]) (ok:=fun _ => True) (okp:=fun _ => True) ?hr ?hp (fun _ hk => hk) trivial (Below.refl _ _) (ye _) (by simp) ?_;(case hd => rfl);(case hg => rfl);(case hr => first|(go_simp;done)|(go_simp;rfl));(case hp => exact (Reps.none _ _));intro v154 w8 ho9 hb hg_ hnew_;clear hg_ hnew_;(first|rw [← Ny153.out] at ho9|(simp only [Int.reduceToNat] at ho9;rw [← Ny153.out] at ho9));have HO155:=zh (yy (Kd.R_new' ho9 (Kd.R_lt (by (with_reducible repeat (first|apply zm|apply zn|apply zo));exact HO_4.out))) (zB (by repeat (with_reducible first|exact HB.out|apply za|apply zb|apply zc))));replace HO_4:=zh (Kd.R_elder' (by (with_reducible repeat (first|apply zm|apply zn|apply zo));exact HO_4.out) (Kd.R_base ho9) hb);replace HB:=zh (zC (by repeat (with_reducible first|exact HB.out|apply za|apply zb|apply zc)) hb);clear hb ho9))
      go_ret2
      exact ⟨_,by first|rfl|(simp [yt,yu] <;> rfl)|(simp [*,yt,yu] <;> rfl),by (with_reducible repeat (first|apply zm|apply zn|apply zo));exact zM HO155.out (fun _ hk => trivial),by repeat (with_reducible first|exact HB.out|apply za|apply zb|apply zc)⟩
     rw [if_neg c7] at H;have c7b0 : decide ((x0_1.size : Int)<(wrap64 (1 + (wrap64 (bt x0_1 0)))))=false:=decide_eq_false c7;clear c7
     by_cases c10 : 1≤(wrap64 (1 + (wrap64 (bt x0_1 0))))
     ·
      rw [if_pos c10] at H
      have c10b0:=eq_true c10;have c10b1 : decide (1≤(wrap64 (1 + (wrap64 (bt x0_1 0)))))=true:=decide_eq_true c10
      by_cases c11 : (wrap64 (1 + (wrap64 (bt x0_1 0))))≤(x0_1.size : Int)
      ·
       rw [if_pos c11] at H
       have c11b0:=eq_true c11;have c11b1 : decide ((wrap64 (1 + (wrap64 (bt x0_1 0))))≤(x0_1.size : Int))=true:=decide_eq_true c11;obtain ⟨ji12,hji12⟩ : ∃ j_ : Int,(wrap64 (1 + (wrap64 (bt x0_1 0))))=j_:=⟨_,rfl⟩;replace H : (if 0≤(ji12) then ((F1.f k1 (x0_1.extract ((ji12) : Int).toNat x0_1.size)).bind fun bt156 => (if bt156.2.2.2.2=true then (if x4_1.length<2932031007402 then (Fn.l0 k1 bt156.2.2.2.1 (x4_1 ++ [(⟨x0_1.extract 1 ((ji12) : Int).toNat,(⟨bt156.1,bt156.2.1,bt156.2.2.1⟩ : S49)⟩ : S87)])) else (none)) else (some ((([] : List (S87))),false)))) else (none))=some (r1,r2):=by first|(rw [hji12] at H;exact H)|(simp only [hji12] at H ⊢;exact H)
       (try rw [hji12] at c7b0);(try rw [hji12] at c10b0);(try rw [hji12] at c10b1);(try rw [hji12] at c10);(try rw [hji12] at c11b0);(try rw [hji12] at c11b1);(try rw [hji12] at c11);have hji12w : (IntKind.i64.wrap (1 + (wrap64 (bt x0_1 0))))=ji12:=(zG _).trans hji12
       by_cases c13 : 0≤(ji12)
       ·
        rw [if_pos c13] at H
        have c13b0:=eq_true c13;have c13b1 : decide (0≤(ji12))=true:=decide_eq_true c13;clear c13;have c14b0:=eq_true (zy (by first|(with_reducible assumption)|assumption) : (ji12)≤(x0_1.size : Int));replace H:=zT.mp H;obtain ⟨⟨t156,t157,t158,t159,t160⟩,A150,H⟩:=H;replace H : (if t160=true then (if x4_1.length<2932031007402 then (Fn.l0 k1 t159 (x4_1 ++ [(⟨x0_1.extract 1 ((ji12) : Int).toNat,(⟨t156,t157,t158⟩ : S49)⟩ : S87)])) else (none)) else (some ((([] : List (S87))),false)))=some (r1,r2):=H;have A15:=zh A150;clear A150
        by_cases c16 : t160=true
        ·
         subst c16
         have H1 : (if x4_1.length<2932031007402 then (Fn.l0 k1 t159 (x4_1 ++ [(⟨x0_1.extract 1 ((ji12) : Int).toNat,(⟨t156,t157,t158⟩ : S49)⟩ : S87)])) else (none))=some (r1,r2):=by rw [if_pos rfl] at H;exact H
         clear H;have H:=H1;clear H1
         by_cases c17 : x4_1.length<2932031007402
         ·
          rw [if_pos c17] at H
          have LMc17:=zh c17;clear c17;obtain ⟨y162,hy162⟩ : ∃ y_ : List (S87),y_=(x4_1 ++ [(⟨x0_1.extract 1 ((ji12) : Int).toNat,(⟨t156,t157,t158⟩ : S49)⟩ : S87)]):=⟨_,rfl⟩;replace H : (Fn.l0 k1 t159 y162)=some (r1,r2):=by first|(rw [hy162];with_reducible exact H)|(have H2_:=(Option.bind_some _ _).symm.trans H;rw [hy162];with_reducible exact H2_)|(have H2_:=(Option.bind_some _ _).symm.trans H;with_reducible exact H2_)|with_reducible exact H|(rw [hy162];exact H)|exact H
          have Ny162:=zh hy162;clear hy162;have H':=zh H;clear H;have p6 : 0≤(0 : Int):=(by omega);have q6 : 0<x0_1.size:=(by have : (0 : Int)<(x0_1.size : Int):=zy (by first|(with_reducible assumption)|assumption);omega);have hx6 : ∀ h : 0<x0_1.size,((x0_1[0]'h).toNat : Int)=bt x0_1 0:=bt_at x0_1 0;clear p6;have qi6 : (0<(x0_1.size : Int))=True:=eq_true (zy (by first|(with_reducible assumption)|assumption));replace q6:=eq_true q6
          go_wp2_with (first|((with_reducible refine zJ (f:=65) rfl ?_);refine yj (some 32) rfl rfl Tryz.func65 (by kernel_rfl) rfl #[.string (x0_1.extract ((ji12) : Int).toNat x0_1.size)] rfl (by (try simp only [zt,zu,zv]);first|done|(simp only [hji12];rfl)|rfl|(simp only [zw,zx];rfl)|(simp only [yr,ys,zV,zW];rfl)) ?_;(with_reducible refine (F1.calls k1  (x0_1.extract ((ji12) : Int).toNat x0_1.size) t156 t157 t158 t159 true _ A15.out).mono ?_);rintro e w18 ⟨rfl,hb⟩;refine ⟨_,rfl,?_⟩;replace HO_4:=zh (yg (by (with_reducible repeat (first|apply zm|apply zn|apply zo));exact HO_4.out) hb);replace HB:=zh (zC (by repeat (with_reducible first|exact HB.out|apply za|apply zb|apply zc)) hb);(try clear hb);(try clear hb2);(try clear hk);(try clear hi))|((with_reducible refine zK (N:=7) rfl ?_);refine zI ?hg (N:=7) ?hd (cs:=#[.int .i64 0,.int .i64 0,.string (⟨#[]⟩ : ByteArray)]) (t:=49) ?hr ?_;(case hd => rfl);(case hg => rfl);(case hr => first|(go_simp;done)|(go_simp;rfl));intro gb161 hg w19 hbox hb;replace HO_4:=zh (yg (by (with_reducible repeat (first|apply zm|apply zn|apply zo));exact HO_4.out) hb);have BK161:=zh (hbox);have GW161:=zh ((by rw [hg];exact (zB (by repeat (with_reducible first|exact HB.out|apply za|apply zb|apply zc))) : w.heap.size≤gb161));have GE161:=zh ((by rw [hg];exact (zB (by repeat (with_reducible first|exact HB.out|apply za|apply zb|apply zc))) : w.heap.size≤gb161));replace HB:=zh (zC (by repeat (with_reducible first|exact HB.out|apply za|apply zb|apply zc)) hb);clear hb hbox hg;have hcz20_0 : w19.cell? ⟨gb161,0,none⟩=some (.int .i64 0):=(zz BK161.out 0).trans rfl;have hcz20_1 : w19.cell? ⟨gb161,1,none⟩=some (.int .i64 0):=(zz BK161.out 1).trans rfl;have hcz20_2 : w19.cell? ⟨gb161,2,none⟩=some (.string (⟨#[]⟩ : ByteArray)):=(zz BK161.out 2).trans rfl;have hfz20_0:=zA BK161.out 0;have hfz20_1:=zA BK161.out 1;have hfz20_2:=zA BK161.out 2)|((with_reducible refine yB (b:=.append) (xs:=#[.tmp 39,.tmp 43]) rfl ?_);at_builtin;refine Kd.R_append k87 (w0:=w) w.heap.size rfl (.tmp 39) (.tmp 43) 83 87 (.agg #[(.string ⟨#[]⟩),(.int .i64 0),(.int .i64 0),(.string ⟨#[]⟩)]) 48 rfl Tryz.underlying83 info87 rfl (by decide) (by omega) u4 x4_1 (⟨x0_1.extract 1 ((ji12) : Int).toNat,(⟨t156,t157,t158⟩ : S49)⟩ : S87) [.string (x0_1.extract 1 ((ji12) : Int).toNat),.int .i64 t156,.int .i64 t157,.string t158] (fun _ => True) (fun _ => False) rfl (by first|(go_simp;done)|(go_simp;rfl)) ?aP (fun _ hk => hk.elim) ?aF ?aO ?aB ?aS ?aL ?_;(case aP => exact k87_mkM _ _ _ (⟨x0_1.extract 1 ((ji12) : Int).toNat,(⟨t156,t157,t158⟩ : S49)⟩ : S87));(case aB => exact (by repeat (with_reducible first|exact HB.out|apply za|apply zb|apply zc|refine zd ?_ GE161.out)));(case aF => exact (fun _ _ => trivial));(case aO => exact (by (with_reducible repeat (first|apply zm|apply zn|apply zo));exact zM (zE (p:=⟨gb161,2,none⟩) (zE (p:=⟨gb161,1,none⟩) (zE (p:=⟨gb161,0,none⟩) (yf HO_4.out BK161.out (by decide)) (fun _ hk => hk.2) (.int .i64 t156)) (fun _ hk => hk.2) (.int .i64 t157)) (fun _ hk => hk.2) (.string t158)) (fun _ hk => trivial)));(case aS => exact (zB (by repeat (with_reducible first|exact HB.out|apply za|apply zb|apply zc|refine zd ?_ GE161.out))));(case aL => have:=LMc17.out;omega);intro v163 w21 ho hb hg hat;rw [← Ny162.out] at ho;replace BK161:=zh (yw (g:=gb161) (o:=.cells #[.int .i64 t156,.int .i64 t157,.string t158] 49 (0,0)) (by (with_reducible repeat (first|refine ze ?_ _|refine zf ?_|refine zg ?_ _));refine zL (cs:=#[.int .i64 t156,.int .i64 t157,.string (⟨#[]⟩ : ByteArray)]) ?_ 2 _ rfl;(with_reducible repeat (first|refine ze ?_ _|refine zf ?_|refine zg ?_ _));refine zL (cs:=#[.int .i64 t156,.int .i64 0,.string (⟨#[]⟩ : ByteArray)]) ?_ 1 _ rfl;(with_reducible repeat (first|refine ze ?_ _|refine zf ?_|refine zg ?_ _));refine zL (cs:=#[.int .i64 0,.int .i64 0,.string (⟨#[]⟩ : ByteArray)]) ?_ 0 _ rfl;(with_reducible repeat (first|refine ze ?_ _|refine zf ?_|refine zg ?_ _));exact BK161.out) hg (Kd.R_ne HO_4.out BK161.out (by decide)));replace HB:=zh (hb);have HO164:=zh (ho);clear HO_4 ho hb hg hat))
          go_roundg k1
          case measure => have:=HK1.out;omega
          case rel => exact ⟨(t159),(y162),(by first|rfl|(simp;done)|(simp [*];done)),H',⟨by have:=HK1.out;omega⟩,⟨by (with_reducible repeat (first|apply zm|apply zn|apply zo));exact HO164.out⟩,⟨by repeat (with_reducible first|exact HB.out|apply za|apply zb|apply zc|refine zd ?_ GE161.out)⟩⟩
         rw [if_neg c17] at H;exact absurd H (by simp)
        replace c16:=yb.mpr c16;subst c16;have H1 : (some ((([] : List (S87))),false))=some (r1,r2):=by rw [if_neg (show ¬ (false=true) by decide)] at H;exact H
        clear H;have H:=H1;clear H1;obtain ⟨y165,hy165⟩ : ∃ y_ : List (S87),y_=(([] : List (S87))):=⟨_,rfl⟩;replace H : (some (y165,false))=some (r1,r2):=by first|(rw [hy165];with_reducible exact H)|(have H2_:=(Option.bind_some _ _).symm.trans H;rw [hy165];with_reducible exact H2_)|(have H2_:=(Option.bind_some _ _).symm.trans H;with_reducible exact H2_)|with_reducible exact H|(rw [hy165];exact H)|exact H
        have Ny165:=zh hy165;clear hy165;simp only [Option.some.injEq,Prod.mk.injEq] at H;obtain ⟨rfl,rfl⟩:=H;have p6 : 0≤(0 : Int):=(by omega);have q6 : 0<x0_1.size:=(by have : (0 : Int)<(x0_1.size : Int):=zy (by first|(with_reducible assumption)|assumption);omega);have hx6 : ∀ h : 0<x0_1.size,((x0_1[0]'h).toNat : Int)=bt x0_1 0:=bt_at x0_1 0;clear p6;have qi6 : (0<(x0_1.size : Int))=True:=eq_true (zy (by first|(with_reducible assumption)|assumption));replace q6:=eq_true q6
        go_wp2_with (first|((with_reducible refine zJ (f:=65) rfl ?_);refine yj (some 32) rfl rfl Tryz.func65 (by kernel_rfl) rfl #[.string (x0_1.extract ((ji12) : Int).toNat x0_1.size)] rfl (by (try simp only [zt,zu,zv]);first|done|(simp only [hji12];rfl)|rfl|(simp only [zw,zx];rfl)|(simp only [yr,ys,zV,zW];rfl)) ?_;(with_reducible refine (F1.calls k1  (x0_1.extract ((ji12) : Int).toNat x0_1.size) t156 t157 t158 t159 false _ A15.out).mono ?_);rintro e w22 ⟨rfl,hb⟩;refine ⟨_,rfl,?_⟩;replace HO_4:=zh (yg (by (with_reducible repeat (first|apply zm|apply zn|apply zo));exact HO_4.out) hb);replace HB:=zh (zC (by repeat (with_reducible first|exact HB.out|apply za|apply zb|apply zc)) hb);(try clear hb);(try clear hb2);(try clear hk);(try clear hi))|((with_reducible refine zK (N:=7) rfl ?_);refine zI ?hg (N:=7) ?hd (cs:=#[.int .i64 0,.int .i64 0,.string (⟨#[]⟩ : ByteArray)]) (t:=49) ?hr ?_;(case hd => rfl);(case hg => rfl);(case hr => first|(go_simp;done)|(go_simp;rfl));intro gb161 hg w23 hbox hb;replace HO_4:=zh (yg (by (with_reducible repeat (first|apply zm|apply zn|apply zo));exact HO_4.out) hb);have BK161:=zh (hbox);have GW161:=zh ((by rw [hg];exact (zB (by repeat (with_reducible first|exact HB.out|apply za|apply zb|apply zc))) : w.heap.size≤gb161));have GE161:=zh ((by rw [hg];exact (zB (by repeat (with_reducible first|exact HB.out|apply za|apply zb|apply zc))) : w.heap.size≤gb161));replace HB:=zh (zC (by repeat (with_reducible first|exact HB.out|apply za|apply zb|apply zc)) hb);clear hb hbox hg;have hcz24_0 : w23.cell? ⟨gb161,0,none⟩=some (.int .i64 0):=(zz BK161.out 0).trans rfl;have hcz24_1 : w23.cell? ⟨gb161,1,none⟩=some (.int .i64 0):=(zz BK161.out 1).trans rfl;have hcz24_2 : w23.cell? ⟨gb161,2,none⟩=some (.string (⟨#[]⟩ : ByteArray)):=(zz BK161.out 2).trans rfl;have hfz24_0:=zA BK161.out 0;have hfz24_1:=zA BK161.out 1;have hfz24_2:=zA BK161.out 2)|((with_reducible refine zK (N:=38) rfl ?_);refine Kd.R_lit k87 _ 87 ?hg (N:=38) ?hd (xs:=([] : List (S87))) (inner:=[]) (ok:=fun _ => True) (okp:=fun _ => True) ?hr ?hp (fun _ hk => hk) trivial (Below.refl _ _) (ye _) (by simp) ?_;(case hd => rfl);(case hg => rfl);(case hr => first|(go_simp;done)|(go_simp;rfl));(case hp => exact (Reps.none _ _));intro v166 w25 ho26 hb hg_ hnew_;clear hg_ hnew_;(first|rw [← Ny165.out] at ho26|(simp only [Int.reduceToNat] at ho26;rw [← Ny165.out] at ho26));have HO167:=zh (yy (Kd.R_new' ho26 (Kd.R_lt (by (with_reducible repeat (first|apply zm|apply zn|apply zo));exact (zM (zE (p:=⟨gb161,2,none⟩) (zE (p:=⟨gb161,1,none⟩) (zE (p:=⟨gb161,0,none⟩) (yf HO_4.out BK161.out (by decide)) (fun _ hk => hk.2) (.int .i64 t156)) (fun _ hk => hk.2) (.int .i64 t157)) (fun _ hk => hk.2) (.string t158)) (fun _ h_ => h_.1))))) (zB (by repeat (with_reducible first|exact HB.out|apply za|apply zb|apply zc|refine zd ?_ GE161.out))));replace HO_4:=zh (Kd.R_elder' (by (with_reducible repeat (first|apply zm|apply zn|apply zo));exact (zM (zE (p:=⟨gb161,2,none⟩) (zE (p:=⟨gb161,1,none⟩) (zE (p:=⟨gb161,0,none⟩) (yf HO_4.out BK161.out (by decide)) (fun _ hk => hk.2) (.int .i64 t156)) (fun _ hk => hk.2) (.int .i64 t157)) (fun _ hk => hk.2) (.string t158)) (fun _ h_ => h_.1))) (Kd.R_base ho26) hb);replace BK161:=zh (zD (g:=gb161) (o:=.cells #[.int .i64 t156,.int .i64 t157,.string t158] 49 (0,0)) (by (with_reducible repeat (first|refine ze ?_ _|refine zf ?_|refine zg ?_ _));refine zL (cs:=#[.int .i64 t156,.int .i64 t157,.string (⟨#[]⟩ : ByteArray)]) ?_ 2 _ rfl;(with_reducible repeat (first|refine ze ?_ _|refine zf ?_|refine zg ?_ _));refine zL (cs:=#[.int .i64 t156,.int .i64 0,.string (⟨#[]⟩ : ByteArray)]) ?_ 1 _ rfl;(with_reducible repeat (first|refine ze ?_ _|refine zf ?_|refine zg ?_ _));refine zL (cs:=#[.int .i64 0,.int .i64 0,.string (⟨#[]⟩ : ByteArray)]) ?_ 0 _ rfl;(with_reducible repeat (first|refine ze ?_ _|refine zf ?_|refine zg ?_ _));exact BK161.out) hb);replace HB:=zh (zC (by repeat (with_reducible first|exact HB.out|apply za|apply zb|apply zc|refine zd ?_ GE161.out)) hb);clear hb ho26))
        go_ret2
        exact ⟨_,by first|rfl|(simp [yt,yu] <;> rfl)|(simp only [← hji12];first|rfl|(simp [yt,yu] <;> rfl))|(simp [*,yt,yu] <;> rfl),by (with_reducible repeat (first|apply zm|apply zn|apply zo));exact zM HO167.out (fun _ hk => trivial),by repeat (with_reducible first|exact HB.out|apply za|apply zb|apply zc|refine zd ?_ GE161.out)⟩
       rw [if_neg c13] at H;exact absurd H (by simp)
      rw [if_neg c11] at H;exact absurd H (by simp)
     rw [if_neg c10] at H;exact absurd H (by simp)
    rw [if_neg c5] at H;exact absurd H (by simp)
   rw [if_neg c4] at H;have c4b0 : decide (0<(x0_1.size : Int))=false:=decide_eq_false c4;have c4b1 : decide (0<x0_1.size)=false:=decide_eq_false (by omega);clear c4;simp only [Option.some.injEq,Prod.mk.injEq] at H;obtain ⟨rfl,rfl⟩:=H
   go_wp2
   go_ret2
   exact ⟨_,by first|rfl|(simp [yt,yu] <;> rfl)|(simp [*,yt,yu] <;> rfl),by (with_reducible repeat (first|apply zm|apply zn|apply zo));exact HO_4.out,by repeat (with_reducible first|exact HB.out|apply za|apply zb|apply zc)⟩

end Go.Proofs.YthjgfjlogilleaaGreatDoor.Q
end
