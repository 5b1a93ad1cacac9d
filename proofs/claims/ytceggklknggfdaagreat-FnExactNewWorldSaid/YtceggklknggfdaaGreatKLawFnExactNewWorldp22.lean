/- Texts of this claim, merged by a program of this session. -/
import Derived.Test.YtceggklknggfdaaGreatProg
import Derived.Lib.Strings
import Derived.Lib.Slices
import Derived.Lib.Walk
import Derived.Lib.Bytealg
import Derived.Test.YtceggklknggfdaaGreatKLawFnExactNewWorldp12
import Derived.Test.YtceggklknggfdaaGreatKLawFnExactNewWorldp14
import Derived.Test.YtceggklknggfdaaGreatKLawFnExactNewWorldp16
import Derived.Test.YtceggklknggfdaaGreatKLawFnExactNewWorldp17
import Derived.Test.YtceggklknggfdaaGreatKLawFnExactNewWorldp18
import Derived.Test.YtceggklknggfdaaGreatKLawFnExactNewWorldp20
import Derived.Test.YtceggklknggfdaaGreatKLawFnExactNewWorldp21
section
namespace Go.Proofs.YtceggklknggfdaaGreat.Q
open Go.RowKit Go.Proofs.YtceggklknggfdaaGreatW.PrintWords Go.Proofs.YtceggklknggfdaaGreatW.PrintLast Go.Proofs.YtceggklknggfdaaGreatW.PrintMore
attribute [local go_sem] max2_int min2_int max_two min_two max_three min_three max_four min_four max2_str min2_str str_geq str_gtr str_leq
set_option linter.unusedVariables false
set_option linter.unusedSimpArgs false



def errW : Option Int→Value
 | none => .nilIface
 | some c => .iface 0 (.int .i64 c)
theorem errW_none : errW none = .nilIface:=rfl
theorem errW_some (c : Int) : errW (some c) = .iface 0 (.int .i64 c):=rfl

theorem info41 : (Tryz.prog.info? 41).map (fun i => (i.zero,i.size,i.bytes))=some (some (.agg #[(.int .i64 0),(.int .i64 0),(.slice none 0 0),(.slice none 0 0),(.bool false),(.bool false)]),6,72):=by kernel_rfl
theorem info44 : (Tryz.prog.info? 44).map (fun i => (i.zero,i.size,i.bytes))=some (some (.agg #[(.int .i64 0),(.int .i64 0),(.slice none 0 0),(.slice none 0 0),(.bool false),(.bool false),(.slice none 0 0)]),7,96):=by kernel_rfl
theorem info54 : (Tryz.prog.info? 54).map (fun i => (i.zero,i.size,i.bytes))=some (some (.agg #[(.string ⟨#[]⟩),(.slice none 0 0),(.slice none 0 0)]),3,64):=by kernel_rfl
theorem info71 : (Tryz.prog.info? 71).map (fun i => (i.zero,i.size,i.bytes))=some (some (.agg #[(.int .i64 0),(.int .i64 0),(.slice none 0 0),(.slice none 0 0)]),4,64):=by kernel_rfl
theorem info84 : (Tryz.prog.info? 84).map (fun i => (i.zero,i.size,i.bytes))=some (some (.agg #[(.string ⟨#[]⟩),(.slice none 0 0)]),2,40):=by kernel_rfl
theorem info104 : (Tryz.prog.info? 104).map (fun i => (i.zero,i.size,i.bytes))=some (some (.agg #[(.string ⟨#[]⟩),(.slice none 0 0)]),2,40):=by kernel_rfl
theorem info107 : (Tryz.prog.info? 107).map (fun i => (i.zero,i.size,i.bytes))=some (some (.agg #[(.string ⟨#[]⟩),(.int .i64 0),(.bool false),(.int .i64 0),(.int .i64 0),(.string ⟨#[]⟩)]),6,64):=by kernel_rfl
theorem info109 : (Tryz.prog.info? 109).map (fun i => (i.zero,i.size,i.bytes))=some (some (.agg #[(.string ⟨#[]⟩),(.int .i64 0),(.bool false),(.int .i64 0),(.int .i64 0),(.string ⟨#[]⟩),(.int .i64 0),(.int .i64 0),(.string ⟨#[]⟩),(.bool false)]),10,104):=by kernel_rfl
theorem info116 : (Tryz.prog.info? 116).map (fun i => (i.zero,i.size,i.bytes))=some (some (.agg #[(.int .i64 0),(.slice none 0 0)]),2,32):=by kernel_rfl
theorem info129 : (Tryz.prog.info? 129).map (fun i => (i.zero,i.size,i.bytes))=some (some (.agg #[(.slice none 0 0)]),1,24):=by kernel_rfl
theorem info131 : (Tryz.prog.info? 131).map (fun i => (i.zero,i.size,i.bytes))=some (some (.agg #[(.string ⟨#[]⟩),(.bool false)]),2,24):=by kernel_rfl
theorem info143 : (Tryz.prog.info? 143).map (fun i => (i.zero,i.size,i.bytes))=some (some (.agg #[(.int .i64 0),(.bool false),(.int .i64 0),(.int .i64 0),(.string ⟨#[]⟩)]),5,48):=by kernel_rfl
theorem info144 : (Tryz.prog.info? 144).map (fun i => (i.zero,i.size,i.bytes))=some (some (.agg #[(.int .i64 0),(.string ⟨#[]⟩),(.int .i64 0),(.int .i64 0),(.string ⟨#[]⟩)]),5,56):=by kernel_rfl
-- the values' own types
structure S75 where
 f0 : Int
 f1 : Int
 f2 : ByteArray
def z75 : S75:=⟨(0 : Int),(0 : Int),(⟨#[]⟩ : ByteArray)⟩
def k75 : Kd S75:=Kd.iso (Kd.pair (Kd.int .i64) (Kd.pair (Kd.int .i64) Kd.string)) (fun x : S75 => (x.f0,x.f1,x.f2))
def rd_T75 (xs : List S75) (i : Int) : S75:=xs.getD i.toNat z75
structure S143 where
 f0 : Int
 f1 : Bool
 f2 : S75
def z143 : S143:=⟨(0 : Int),false,z75⟩
def k143 : Kd S143:=Kd.iso (Kd.pair (Kd.int .i64) (Kd.pair Kd.bool k75)) (fun x : S143 => (x.f0,x.f1,x.f2))
def rd_T143 (xs : List S143) (i : Int) : S143:=xs.getD i.toNat z143
def rd_L5 (xs : List (List S143)) (i : Int) : (List S143):=xs.getD i.toNat ([] : List S143)
structure S116 where
 f0 : Int
 f1 : (List S143)
def z116 : S116:=⟨(0 : Int),([] : List S143)⟩
def k116 : Kd S116:=Kd.iso (Kd.pair (Kd.int .i64) (Kd.slice 143 k143)) (fun x : S116 => (x.f0,x.f1))
theorem k116_open {w : World} {x : S116} {cs : List Value} (h : k116.K w x cs) : ∃ A1 c1,cs=[.int .i64 x.f0,.slice A1 x.f1.length c1]∧x.f1.length≤c1∧k143.C w A1 x.f1.length x.f1:=by
 obtain ⟨_,_,rfl,rfl,⟨A1,c1,rfl,l1,g1⟩⟩:=h
 exact ⟨A1,c1,rfl,l1,g1⟩
theorem k116_mkM (w : World) (base : Nat) (ok : Nat→Prop) (x : S116) {v1 : Value} (g1 : k143.R 143 w base ok v1 x.f1) : k116.M w base ok x [.int .i64 x.f0,v1]:=⟨[.int .i64 x.f0],[v1],rfl,rfl,⟨v1,rfl,g1⟩⟩
def rd_T116 (xs : List S116) (i : Int) : S116:=xs.getD i.toNat z116
theorem at_T116 {w : World} {A : Option Addr} {n : Nat} {xs : List S116} (h : Kd.C k116 w A n xs) (i : Int) (h0 : 0≤i) (h1 : i<n) : ∃ ad A1 c1,A=some ad∧w.cell? (ad.add (i.toNat * 2))=some (.int .i64 (rd_T116 xs i).f0)∧w.cell? ⟨(ad.add (i.toNat * 2)).block,(ad.add (i.toNat * 2)).off + 1,none⟩=some (.slice A1 (rd_T116 xs i).f1.length c1)∧(rd_T116 xs i).f1.length≤c1∧k143.C w A1 (rd_T116 xs i).f1.length (rd_T116 xs i).f1:=by
 obtain ⟨ad,c,e,_,hK,hc0⟩:=Kd.C_get h z116 i h0 h1
 have hc : ∀ j u,c[j]? = some u→w.cell? (ad.add (i.toNat * 2 + j))=some u:=hc0
 obtain ⟨A1,c1,rfl,l1,g1⟩:=k116_open hK
 exact ⟨ad,A1,c1,e,hc 0 _ rfl,by rw [← add_field _ _ 1 (by omega)];exact hc 1 _ rfl,l1,g1⟩

structure S131 where
 f0 : ByteArray
 f1 : Bool
def z131 : S131:=⟨(⟨#[]⟩ : ByteArray),false⟩
def k131 : Kd S131:=Kd.iso (Kd.pair Kd.string Kd.bool) (fun x : S131 => (x.f0,x.f1))
def rd_T131 (xs : List S131) (i : Int) : S131:=xs.getD i.toNat z131
def rd_L8 (xs : List (List S131)) (i : Int) : (List S131):=xs.getD i.toNat ([] : List S131)
structure S84 where
 f0 : ByteArray
 f1 : (List S131)
def z84 : S84:=⟨(⟨#[]⟩ : ByteArray),([] : List S131)⟩
def k84 : Kd S84:=Kd.iso (Kd.pair Kd.string (Kd.slice 131 k131)) (fun x : S84 => (x.f0,x.f1))
theorem k84_open {w : World} {x : S84} {cs : List Value} (h : k84.K w x cs) : ∃ A1 c1,cs=[.string x.f0,.slice A1 x.f1.length c1]∧x.f1.length≤c1∧k131.C w A1 x.f1.length x.f1:=by
 obtain ⟨_,_,rfl,rfl,⟨A1,c1,rfl,l1,g1⟩⟩:=h
 exact ⟨A1,c1,rfl,l1,g1⟩
theorem k84_mkM (w : World) (base : Nat) (ok : Nat→Prop) (x : S84) {v1 : Value} (g1 : k131.R 131 w base ok v1 x.f1) : k84.M w base ok x [.string x.f0,v1]:=⟨[.string x.f0],[v1],rfl,rfl,⟨v1,rfl,g1⟩⟩
def rd_T84 (xs : List S84) (i : Int) : S84:=xs.getD i.toNat z84
theorem at_T84 {w : World} {A : Option Addr} {n : Nat} {xs : List S84} (h : Kd.C k84 w A n xs) (i : Int) (h0 : 0≤i) (h1 : i<n) : ∃ ad A1 c1,A=some ad∧w.cell? (ad.add (i.toNat * 2))=some (.string (rd_T84 xs i).f0)∧w.cell? ⟨(ad.add (i.toNat * 2)).block,(ad.add (i.toNat * 2)).off + 1,none⟩=some (.slice A1 (rd_T84 xs i).f1.length c1)∧(rd_T84 xs i).f1.length≤c1∧k131.C w A1 (rd_T84 xs i).f1.length (rd_T84 xs i).f1:=by
 obtain ⟨ad,c,e,_,hK,hc0⟩:=Kd.C_get h z84 i h0 h1
 have hc : ∀ j u,c[j]? = some u→w.cell? (ad.add (i.toNat * 2 + j))=some u:=hc0
 obtain ⟨A1,c1,rfl,l1,g1⟩:=k84_open hK
 exact ⟨ad,A1,c1,e,hc 0 _ rfl,by rw [← add_field _ _ 1 (by omega)];exact hc 1 _ rfl,l1,g1⟩

structure S144 where
 f0 : Int
 f1 : ByteArray
 f2 : S75
def z144 : S144:=⟨(0 : Int),(⟨#[]⟩ : ByteArray),z75⟩
def k144 : Kd S144:=Kd.iso (Kd.pair (Kd.int .i64) (Kd.pair Kd.string k75)) (fun x : S144 => (x.f0,x.f1,x.f2))
def rd_T144 (xs : List S144) (i : Int) : S144:=xs.getD i.toNat z144
def rd_L11 (xs : List (List S144)) (i : Int) : (List S144):=xs.getD i.toNat ([] : List S144)
structure S129 where
 f0 : (List S144)
def z129 : S129:=⟨([] : List S144)⟩
def k129 : Kd S129:=Kd.iso (Kd.slice 144 k144) (fun x : S129 => x.f0)
theorem k129_open {w : World} {x : S129} {cs : List Value} (h : k129.K w x cs) : ∃ A0 c0,cs=[.slice A0 x.f0.length c0]∧x.f0.length≤c0∧k144.C w A0 x.f0.length x.f0:=by
 obtain ⟨A0,c0,rfl,l0,g0⟩:=h
 exact ⟨A0,c0,rfl,l0,g0⟩
theorem k129_mkM (w : World) (base : Nat) (ok : Nat→Prop) (x : S129) {v0 : Value} (g0 : k144.R 144 w base ok v0 x.f0) : k129.M w base ok x [v0]:=⟨v0,rfl,g0⟩
def rd_T129 (xs : List S129) (i : Int) : S129:=xs.getD i.toNat z129
theorem at_T129 {w : World} {A : Option Addr} {n : Nat} {xs : List S129} (h : Kd.C k129 w A n xs) (i : Int) (h0 : 0≤i) (h1 : i<n) : ∃ ad A0 c0,A=some ad∧w.cell? (ad.add i.toNat)=some (.slice A0 (rd_T129 xs i).f0.length c0)∧(rd_T129 xs i).f0.length≤c0∧k144.C w A0 (rd_T129 xs i).f0.length (rd_T129 xs i).f0:=by
 obtain ⟨ad,c,e,_,hK,hc0⟩:=Kd.C_get h z129 i h0 h1
 have hc : ∀ j u,c[j]? = some u→w.cell? (ad.add (i.toNat * 1 + j))=some u:=hc0
 obtain ⟨A0,c0,rfl,l0,g0⟩:=k129_open hK
 exact ⟨ad,A0,c0,e,by have hq:=hc 0 _ rfl;rwa [Nat.mul_one,Nat.add_zero] at hq,l0,g0⟩

def rd_L13 (xs : List (List S129)) (i : Int) : (List S129):=xs.getD i.toNat ([] : List S129)
structure S78 where
 f0 : (List S129)
def z78 : S78:=⟨([] : List S129)⟩
def k78 : Kd S78:=Kd.iso (Kd.slice 129 k129) (fun x : S78 => x.f0)
theorem k78_open {w : World} {x : S78} {cs : List Value} (h : k78.K w x cs) : ∃ A0 c0,cs=[.slice A0 x.f0.length c0]∧x.f0.length≤c0∧k129.C w A0 x.f0.length x.f0:=by
 obtain ⟨A0,c0,rfl,l0,g0⟩:=h
 exact ⟨A0,c0,rfl,l0,g0⟩
theorem k78_mkM (w : World) (base : Nat) (ok : Nat→Prop) (x : S78) {v0 : Value} (g0 : k129.R 129 w base ok v0 x.f0) : k78.M w base ok x [v0]:=⟨v0,rfl,g0⟩
def rd_T78 (xs : List S78) (i : Int) : S78:=xs.getD i.toNat z78
structure S104 where
 f0 : ByteArray
 f1 : S78
def z104 : S104:=⟨(⟨#[]⟩ : ByteArray),z78⟩
def k104 : Kd S104:=Kd.iso (Kd.pair Kd.string k78) (fun x : S104 => (x.f0,x.f1))
theorem k104_open {w : World} {x : S104} {cs : List Value} (h : k104.K w x cs) : ∃ A1 c1,cs=[.string x.f0,.slice A1 x.f1.f0.length c1]∧x.f1.f0.length≤c1∧k129.C w A1 x.f1.f0.length x.f1.f0:=by
 obtain ⟨_,_,rfl,rfl,s1⟩:=h
 obtain ⟨A1,c1,rfl,l1,g1⟩:=k78_open s1
 exact ⟨A1,c1,rfl,l1,g1⟩
theorem k104_mkM (w : World) (base : Nat) (ok : Nat→Prop) (x : S104) {v1 : Value} (g1 : k129.R 129 w base ok v1 x.f1.f0) : k104.M w base ok x [.string x.f0,v1]:=⟨[.string x.f0],[v1],rfl,rfl,(k78_mkM w base ok x.f1 g1)⟩
def rd_T104 (xs : List S104) (i : Int) : S104:=xs.getD i.toNat z104
theorem at_T104 {w : World} {A : Option Addr} {n : Nat} {xs : List S104} (h : Kd.C k104 w A n xs) (i : Int) (h0 : 0≤i) (h1 : i<n) : ∃ ad A1 c1,A=some ad∧w.cell? (ad.add (i.toNat * 2))=some (.string (rd_T104 xs i).f0)∧w.cell? ⟨(ad.add (i.toNat * 2)).block,(ad.add (i.toNat * 2)).off + 1,none⟩=some (.slice A1 (rd_T104 xs i).f1.f0.length c1)∧(rd_T104 xs i).f1.f0.length≤c1∧k129.C w A1 (rd_T104 xs i).f1.f0.length (rd_T104 xs i).f1.f0:=by
 obtain ⟨ad,c,e,_,hK,hc0⟩:=Kd.C_get h z104 i h0 h1
 have hc : ∀ j u,c[j]? = some u→w.cell? (ad.add (i.toNat * 2 + j))=some u:=hc0
 obtain ⟨A1,c1,rfl,l1,g1⟩:=k104_open hK
 exact ⟨ad,A1,c1,e,hc 0 _ rfl,by rw [← add_field _ _ 1 (by omega)];exact hc 1 _ rfl,l1,g1⟩

structure S107 where
 f0 : ByteArray
 f1 : Int
 f2 : Bool
 f3 : S75
def z107 : S107:=⟨(⟨#[]⟩ : ByteArray),(0 : Int),false,z75⟩
def k107 : Kd S107:=Kd.iso (Kd.pair Kd.string (Kd.pair (Kd.int .i64) (Kd.pair Kd.bool k75))) (fun x : S107 => (x.f0,x.f1,x.f2,x.f3))
def rd_T107 (xs : List S107) (i : Int) : S107:=xs.getD i.toNat z107
def rd_L17 (xs : List (List S104)) (i : Int) : (List S104):=xs.getD i.toNat ([] : List S104)
structure S109 where
 f0 : S107
 f1 : S75
 f2 : Bool
def z109 : S109:=⟨z107,z75,false⟩
def k109 : Kd S109:=Kd.iso (Kd.pair k107 (Kd.pair k75 Kd.bool)) (fun x : S109 => (x.f0,x.f1,x.f2))
def rd_T109 (xs : List S109) (i : Int) : S109:=xs.getD i.toNat z109
def rd_L19 (xs : List (List S109)) (i : Int) : (List S109):=xs.getD i.toNat ([] : List S109)
structure S41 where
 f0 : Int
 f1 : Int
 f2 : (List S104)
 f3 : (List S109)
 f4 : Bool
 f5 : Bool
def z41 : S41:=⟨(0 : Int),(0 : Int),([] : List S104),([] : List S109),false,false⟩
def k41 : Kd S41:=Kd.iso (Kd.pair (Kd.int .i64) (Kd.pair (Kd.int .i64) (Kd.pair (Kd.slice 104 k104) (Kd.pair (Kd.slice 109 k109) (Kd.pair Kd.bool Kd.bool))))) (fun x : S41 => (x.f0,x.f1,x.f2,x.f3,x.f4,x.f5))
theorem k41_open {w : World} {x : S41} {cs : List Value} (h : k41.K w x cs) : ∃ A2 c2 A3 c3,cs=[.int .i64 x.f0,.int .i64 x.f1,.slice A2 x.f2.length c2,.slice A3 x.f3.length c3,.bool x.f4,.bool x.f5]∧x.f2.length≤c2∧k104.C w A2 x.f2.length x.f2∧x.f3.length≤c3∧k109.C w A3 x.f3.length x.f3:=by
 obtain ⟨_,_,rfl,rfl,⟨_,_,rfl,rfl,⟨_,_,rfl,⟨A2,c2,rfl,l2,g2⟩,⟨_,_,rfl,⟨A3,c3,rfl,l3,g3⟩,⟨_,_,rfl,rfl,rfl⟩⟩⟩⟩⟩:=h
 exact ⟨A2,c2,A3,c3,rfl,l2,g2,l3,g3⟩
theorem k41_openM {w : World} {base : Nat} {ok : Nat→Prop} {x : S41} {cs : List Value} (h : k41.M w base ok x cs) : ∃ v2 v3,cs=[.int .i64 x.f0,.int .i64 x.f1,v2,v3,.bool x.f4,.bool x.f5]∧k104.R 104 w base ok v2 x.f2∧k109.R 109 w base ok v3 x.f3:=by
 obtain ⟨_,_,rfl,rfl,⟨_,_,rfl,rfl,⟨_,_,rfl,⟨v2,rfl,g2⟩,⟨_,_,rfl,⟨v3,rfl,g3⟩,⟨_,_,rfl,rfl,rfl⟩⟩⟩⟩⟩:=h
 exact ⟨v2,v3,rfl,g2,g3⟩
theorem k41_mk (w : World) (x : S41) {A2 : Option Addr} {c2 : Nat} (l2 : x.f2.length≤c2) (g2 : k104.C w A2 x.f2.length x.f2) {A3 : Option Addr} {c3 : Nat} (l3 : x.f3.length≤c3) (g3 : k109.C w A3 x.f3.length x.f3) : k41.K w x [.int .i64 x.f0,.int .i64 x.f1,.slice A2 x.f2.length c2,.slice A3 x.f3.length c3,.bool x.f4,.bool x.f5]:=⟨[.int .i64 x.f0],[.int .i64 x.f1,.slice A2 x.f2.length c2,.slice A3 x.f3.length c3,.bool x.f4,.bool x.f5],rfl,rfl,⟨[.int .i64 x.f1],[.slice A2 x.f2.length c2,.slice A3 x.f3.length c3,.bool x.f4,.bool x.f5],rfl,rfl,⟨[.slice A2 x.f2.length c2],[.slice A3 x.f3.length c3,.bool x.f4,.bool x.f5],rfl,⟨A2,c2,rfl,l2,g2⟩,⟨[.slice A3 x.f3.length c3],[.bool x.f4,.bool x.f5],rfl,⟨A3,c3,rfl,l3,g3⟩,⟨[.bool x.f4],[.bool x.f5],rfl,rfl,rfl⟩⟩⟩⟩⟩
theorem k41_mkM (w : World) (base : Nat) (ok : Nat→Prop) (x : S41) {v2 : Value} (g2 : k104.R 104 w base ok v2 x.f2) {v3 : Value} (g3 : k109.R 109 w base ok v3 x.f3) : k41.M w base ok x [.int .i64 x.f0,.int .i64 x.f1,v2,v3,.bool x.f4,.bool x.f5]:=⟨[.int .i64 x.f0],[.int .i64 x.f1,v2,v3,.bool x.f4,.bool x.f5],rfl,rfl,⟨[.int .i64 x.f1],[v2,v3,.bool x.f4,.bool x.f5],rfl,rfl,⟨[v2],[v3,.bool x.f4,.bool x.f5],rfl,⟨v2,rfl,g2⟩,⟨[v3],[.bool x.f4,.bool x.f5],rfl,⟨v3,rfl,g3⟩,⟨[.bool x.f4],[.bool x.f5],rfl,rfl,rfl⟩⟩⟩⟩⟩
theorem k41_openF {W : World} {ok : Nat→Prop} {x : S41} {cs : List Value} (h : Kd.FK k41 W ok x cs) : ∃ A2 c2 A3 c3,cs=[.int .i64 x.f0,.int .i64 x.f1,.slice A2 x.f2.length c2,.slice A3 x.f3.length c3,.bool x.f4,.bool x.f5]∧x.f2.length≤c2∧Kd.F k104 W ok A2 x.f2.length x.f2∧x.f3.length≤c3∧Kd.F k109 W ok A3 x.f3.length x.f3:=by
 obtain ⟨A2,c2,A3,c3,rfl,l2,_,l3,_⟩:=k41_open (Kd.FK_now h)
 exact ⟨A2,c2,A3,c3,rfl,l2,(fun W' hW => by obtain ⟨A2_,c2_,A3_,c3_,he,l2_,g2_,l3_,g3_⟩:=k41_open (h W' hW);injection (Option.some.inj (show some (Value.slice A2 x.f2.length c2)=some (Value.slice A2_ x.f2.length c2_) from congrArg (fun l => l[2]?) he)) with ha_ _ _;rw [ha_];exact g2_),l3,(fun W' hW => by obtain ⟨A2_,c2_,A3_,c3_,he,l2_,g2_,l3_,g3_⟩:=k41_open (h W' hW);injection (Option.some.inj (show some (Value.slice A3 x.f3.length c3)=some (Value.slice A3_ x.f3.length c3_) from congrArg (fun l => l[3]?) he)) with ha_ _ _;rw [ha_];exact g3_)⟩
theorem k41_mkF (W : World) (ok : Nat→Prop) (x : S41) {A2 : Option Addr} {c2 : Nat} (l2 : x.f2.length≤c2) (g2 : Kd.F k104 W ok A2 x.f2.length x.f2) {A3 : Option Addr} {c3 : Nat} (l3 : x.f3.length≤c3) (g3 : Kd.F k109 W ok A3 x.f3.length x.f3) : Kd.FK k41 W ok x [.int .i64 x.f0,.int .i64 x.f1,.slice A2 x.f2.length c2,.slice A3 x.f3.length c3,.bool x.f4,.bool x.f5]:=fun W2 hW => k41_mk W2 x l2 (g2 W2 hW) l3 (g3 W2 hW)
def rd_T41 (xs : List S41) (i : Int) : S41:=xs.getD i.toNat z41
theorem at_T41 {w : World} {A : Option Addr} {n : Nat} {xs : List S41} (h : Kd.C k41 w A n xs) (i : Int) (h0 : 0≤i) (h1 : i<n) : ∃ ad A2 c2 A3 c3,A=some ad∧w.cell? (ad.add (i.toNat * 6))=some (.int .i64 (rd_T41 xs i).f0)∧w.cell? ⟨(ad.add (i.toNat * 6)).block,(ad.add (i.toNat * 6)).off + 1,none⟩=some (.int .i64 (rd_T41 xs i).f1)∧w.cell? ⟨(ad.add (i.toNat * 6)).block,(ad.add (i.toNat * 6)).off + 2,none⟩=some (.slice A2 (rd_T41 xs i).f2.length c2)∧w.cell? ⟨(ad.add (i.toNat * 6)).block,(ad.add (i.toNat * 6)).off + 3,none⟩=some (.slice A3 (rd_T41 xs i).f3.length c3)∧w.cell? ⟨(ad.add (i.toNat * 6)).block,(ad.add (i.toNat * 6)).off + 4,none⟩=some (.bool (rd_T41 xs i).f4)∧w.cell? ⟨(ad.add (i.toNat * 6)).block,(ad.add (i.toNat * 6)).off + 5,none⟩=some (.bool (rd_T41 xs i).f5)∧(rd_T41 xs i).f2.length≤c2∧k104.C w A2 (rd_T41 xs i).f2.length (rd_T41 xs i).f2∧(rd_T41 xs i).f3.length≤c3∧k109.C w A3 (rd_T41 xs i).f3.length (rd_T41 xs i).f3:=by
 obtain ⟨ad,c,e,_,hK,hc0⟩:=Kd.C_get h z41 i h0 h1
 have hc : ∀ j u,c[j]? = some u→w.cell? (ad.add (i.toNat * 6 + j))=some u:=hc0
 obtain ⟨A2,c2,A3,c3,rfl,l2,g2,l3,g3⟩:=k41_open hK
 exact ⟨ad,A2,c2,A3,c3,e,hc 0 _ rfl,by rw [← add_field _ _ 1 (by omega)];exact hc 1 _ rfl,by rw [← add_field _ _ 2 (by omega)];exact hc 2 _ rfl,by rw [← add_field _ _ 3 (by omega)];exact hc 3 _ rfl,by rw [← add_field _ _ 4 (by omega)];exact hc 4 _ rfl,by rw [← add_field _ _ 5 (by omega)];exact hc 5 _ rfl,l2,g2,l3,g3⟩

def rd_L21 (xs : List (List S116)) (i : Int) : (List S116):=xs.getD i.toNat ([] : List S116)
def rd_L22 (xs : List (List S84)) (i : Int) : (List S84):=xs.getD i.toNat ([] : List S84)
structure S54 where
 f0 : ByteArray
 f1 : (List S116)
 f2 : (List S84)
def z54 : S54:=⟨(⟨#[]⟩ : ByteArray),([] : List S116),([] : List S84)⟩
def k54 : Kd S54:=Kd.iso (Kd.pair Kd.string (Kd.pair (Kd.slice 116 k116) (Kd.slice 84 k84))) (fun x : S54 => (x.f0,x.f1,x.f2))
theorem k54_open {w : World} {x : S54} {cs : List Value} (h : k54.K w x cs) : ∃ A1 c1 A2 c2,cs=[.string x.f0,.slice A1 x.f1.length c1,.slice A2 x.f2.length c2]∧x.f1.length≤c1∧k116.C w A1 x.f1.length x.f1∧x.f2.length≤c2∧k84.C w A2 x.f2.length x.f2:=by
 obtain ⟨_,_,rfl,rfl,⟨_,_,rfl,⟨A1,c1,rfl,l1,g1⟩,⟨A2,c2,rfl,l2,g2⟩⟩⟩:=h
 exact ⟨A1,c1,A2,c2,rfl,l1,g1,l2,g2⟩
theorem k54_openM {w : World} {base : Nat} {ok : Nat→Prop} {x : S54} {cs : List Value} (h : k54.M w base ok x cs) : ∃ v1 v2,cs=[.string x.f0,v1,v2]∧k116.R 116 w base ok v1 x.f1∧k84.R 84 w base ok v2 x.f2:=by
 obtain ⟨_,_,rfl,rfl,⟨_,_,rfl,⟨v1,rfl,g1⟩,⟨v2,rfl,g2⟩⟩⟩:=h
 exact ⟨v1,v2,rfl,g1,g2⟩
theorem k54_mkM (w : World) (base : Nat) (ok : Nat→Prop) (x : S54) {v1 : Value} (g1 : k116.R 116 w base ok v1 x.f1) {v2 : Value} (g2 : k84.R 84 w base ok v2 x.f2) : k54.M w base ok x [.string x.f0,v1,v2]:=⟨[.string x.f0],[v1,v2],rfl,rfl,⟨[v1],[v2],rfl,⟨v1,rfl,g1⟩,⟨v2,rfl,g2⟩⟩⟩
def rd_T54 (xs : List S54) (i : Int) : S54:=xs.getD i.toNat z54
theorem at_T54 {w : World} {A : Option Addr} {n : Nat} {xs : List S54} (h : Kd.C k54 w A n xs) (i : Int) (h0 : 0≤i) (h1 : i<n) : ∃ ad A1 c1 A2 c2,A=some ad∧w.cell? (ad.add (i.toNat * 3))=some (.string (rd_T54 xs i).f0)∧w.cell? ⟨(ad.add (i.toNat * 3)).block,(ad.add (i.toNat * 3)).off + 1,none⟩=some (.slice A1 (rd_T54 xs i).f1.length c1)∧w.cell? ⟨(ad.add (i.toNat * 3)).block,(ad.add (i.toNat * 3)).off + 2,none⟩=some (.slice A2 (rd_T54 xs i).f2.length c2)∧(rd_T54 xs i).f1.length≤c1∧k116.C w A1 (rd_T54 xs i).f1.length (rd_T54 xs i).f1∧(rd_T54 xs i).f2.length≤c2∧k84.C w A2 (rd_T54 xs i).f2.length (rd_T54 xs i).f2:=by
 obtain ⟨ad,c,e,_,hK,hc0⟩:=Kd.C_get h z54 i h0 h1
 have hc : ∀ j u,c[j]? = some u→w.cell? (ad.add (i.toNat * 3 + j))=some u:=hc0
 obtain ⟨A1,c1,A2,c2,rfl,l1,g1,l2,g2⟩:=k54_open hK
 exact ⟨ad,A1,c1,A2,c2,e,hc 0 _ rfl,by rw [← add_field _ _ 1 (by omega)];exact hc 1 _ rfl,by rw [← add_field _ _ 2 (by omega)];exact hc 2 _ rfl,l1,g1,l2,g2⟩

def rd_L24 (xs : List (List S107)) (i : Int) : (List S107):=xs.getD i.toNat ([] : List S107)
structure S71 where
 f0 : Int
 f1 : Int
 f2 : (List S104)
 f3 : (List S107)
def z71 : S71:=⟨(0 : Int),(0 : Int),([] : List S104),([] : List S107)⟩
def k71 : Kd S71:=Kd.iso (Kd.pair (Kd.int .i64) (Kd.pair (Kd.int .i64) (Kd.pair (Kd.slice 104 k104) (Kd.slice 107 k107)))) (fun x : S71 => (x.f0,x.f1,x.f2,x.f3))
theorem k71_open {w : World} {x : S71} {cs : List Value} (h : k71.K w x cs) : ∃ A2 c2 A3 c3,cs=[.int .i64 x.f0,.int .i64 x.f1,.slice A2 x.f2.length c2,.slice A3 x.f3.length c3]∧x.f2.length≤c2∧k104.C w A2 x.f2.length x.f2∧x.f3.length≤c3∧k107.C w A3 x.f3.length x.f3:=by
 obtain ⟨_,_,rfl,rfl,⟨_,_,rfl,rfl,⟨_,_,rfl,⟨A2,c2,rfl,l2,g2⟩,⟨A3,c3,rfl,l3,g3⟩⟩⟩⟩:=h
 exact ⟨A2,c2,A3,c3,rfl,l2,g2,l3,g3⟩
theorem k71_mkM (w : World) (base : Nat) (ok : Nat→Prop) (x : S71) {v2 : Value} (g2 : k104.R 104 w base ok v2 x.f2) {v3 : Value} (g3 : k107.R 107 w base ok v3 x.f3) : k71.M w base ok x [.int .i64 x.f0,.int .i64 x.f1,v2,v3]:=⟨[.int .i64 x.f0],[.int .i64 x.f1,v2,v3],rfl,rfl,⟨[.int .i64 x.f1],[v2,v3],rfl,rfl,⟨[v2],[v3],rfl,⟨v2,rfl,g2⟩,⟨v3,rfl,g3⟩⟩⟩⟩
def rd_T71 (xs : List S71) (i : Int) : S71:=xs.getD i.toNat z71
theorem at_T71 {w : World} {A : Option Addr} {n : Nat} {xs : List S71} (h : Kd.C k71 w A n xs) (i : Int) (h0 : 0≤i) (h1 : i<n) : ∃ ad A2 c2 A3 c3,A=some ad∧w.cell? (ad.add (i.toNat * 4))=some (.int .i64 (rd_T71 xs i).f0)∧w.cell? ⟨(ad.add (i.toNat * 4)).block,(ad.add (i.toNat * 4)).off + 1,none⟩=some (.int .i64 (rd_T71 xs i).f1)∧w.cell? ⟨(ad.add (i.toNat * 4)).block,(ad.add (i.toNat * 4)).off + 2,none⟩=some (.slice A2 (rd_T71 xs i).f2.length c2)∧w.cell? ⟨(ad.add (i.toNat * 4)).block,(ad.add (i.toNat * 4)).off + 3,none⟩=some (.slice A3 (rd_T71 xs i).f3.length c3)∧(rd_T71 xs i).f2.length≤c2∧k104.C w A2 (rd_T71 xs i).f2.length (rd_T71 xs i).f2∧(rd_T71 xs i).f3.length≤c3∧k107.C w A3 (rd_T71 xs i).f3.length (rd_T71 xs i).f3:=by
 obtain ⟨ad,c,e,_,hK,hc0⟩:=Kd.C_get h z71 i h0 h1
 have hc : ∀ j u,c[j]? = some u→w.cell? (ad.add (i.toNat * 4 + j))=some u:=hc0
 obtain ⟨A2,c2,A3,c3,rfl,l2,g2,l3,g3⟩:=k71_open hK
 exact ⟨ad,A2,c2,A3,c3,e,hc 0 _ rfl,by rw [← add_field _ _ 1 (by omega)];exact hc 1 _ rfl,by rw [← add_field _ _ 2 (by omega)];exact hc 2 _ rfl,by rw [← add_field _ _ 3 (by omega)];exact hc 3 _ rfl,l2,g2,l3,g3⟩

structure S133 where
 f0 : Int
 f1 : ByteArray
 f2 : S75
def z133 : S133:=⟨(0 : Int),(⟨#[]⟩ : ByteArray),z75⟩
def k133 : Kd S133:=Kd.iso (Kd.pair (Kd.int .i64) (Kd.pair Kd.string k75)) (fun x : S133 => (x.f0,x.f1,x.f2))
def rd_T133 (xs : List S133) (i : Int) : S133:=xs.getD i.toNat z133
def rd_L27 (xs : List (List ByteArray)) (i : Int) : (List ByteArray):=xs.getD i.toNat ([] : List ByteArray)
structure S81 where
 f0 : S78
 f1 : (List S131)
 f2 : Int
 f3 : Int
 f4 : (List ByteArray)
 f5 : ByteArray
def z81 : S81:=⟨z78,([] : List S131),(0 : Int),(0 : Int),([] : List ByteArray),(⟨#[]⟩ : ByteArray)⟩
def k81 : Kd S81:=Kd.iso (Kd.pair k78 (Kd.pair (Kd.slice 131 k131) (Kd.pair (Kd.int .i64) (Kd.pair (Kd.int .i64) (Kd.pair (Kd.slice 9 Kd.string) Kd.string))))) (fun x : S81 => (x.f0,x.f1,x.f2,x.f3,x.f4,x.f5))
def rd_T81 (xs : List S81) (i : Int) : S81:=xs.getD i.toNat z81
def rd_L29 (xs : List (List S133)) (i : Int) : (List S133):=xs.getD i.toNat ([] : List S133)
structure S86 where
 f0 : Int
 f1 : Int
 f2 : ByteArray
 f3 : S75
 f4 : S81
 f5 : (List S133)
 f6 : S84
def z86 : S86:=⟨(0 : Int),(0 : Int),(⟨#[]⟩ : ByteArray),z75,z81,([] : List S133),z84⟩
def k86 : Kd S86:=Kd.iso (Kd.pair (Kd.int .i64) (Kd.pair (Kd.int .i64) (Kd.pair Kd.string (Kd.pair k75 (Kd.pair k81 (Kd.pair (Kd.slice 133 k133) k84)))))) (fun x : S86 => (x.f0,x.f1,x.f2,x.f3,x.f4,x.f5,x.f6))
def rd_T86 (xs : List S86) (i : Int) : S86:=xs.getD i.toNat z86
def rd_L31 (xs : List (List S75)) (i : Int) : (List S75):=xs.getD i.toNat ([] : List S75)
structure S89 where
 f0 : Int
 f1 : (List S75)
 f2 : Int
def z89 : S89:=⟨(0 : Int),([] : List S75),(0 : Int)⟩
def k89 : Kd S89:=Kd.iso (Kd.pair (Kd.int .i64) (Kd.pair (Kd.slice 75 k75) (Kd.int .i64))) (fun x : S89 => (x.f0,x.f1,x.f2))
def rd_T89 (xs : List S89) (i : Int) : S89:=xs.getD i.toNat z89
structure S91 where
 f0 : S86
 f1 : S89
def z91 : S91:=⟨z86,z89⟩
def k91 : Kd S91:=Kd.iso (Kd.pair k86 k89) (fun x : S91 => (x.f0,x.f1))
def rd_T91 (xs : List S91) (i : Int) : S91:=xs.getD i.toNat z91
def rd_L34 (xs : List (List S91)) (i : Int) : (List S91):=xs.getD i.toNat ([] : List S91)
structure S44 where
 f0 : S41
 f1 : (List S91)
def z44 : S44:=⟨z41,([] : List S91)⟩
def k44 : Kd S44:=Kd.iso (Kd.pair k41 (Kd.slice 91 k91)) (fun x : S44 => (x.f0,x.f1))
theorem k44_open {w : World} {x : S44} {cs : List Value} (h : k44.K w x cs) : ∃ A2 c2 A3 c3 A6 c6,cs=[.int .i64 x.f0.f0,.int .i64 x.f0.f1,.slice A2 x.f0.f2.length c2,.slice A3 x.f0.f3.length c3,.bool x.f0.f4,.bool x.f0.f5,.slice A6 x.f1.length c6]∧x.f0.f2.length≤c2∧k104.C w A2 x.f0.f2.length x.f0.f2∧x.f0.f3.length≤c3∧k109.C w A3 x.f0.f3.length x.f0.f3∧x.f1.length≤c6∧k91.C w A6 x.f1.length x.f1:=by
 obtain ⟨_,_,rfl,s0,⟨A6,c6,rfl,l6,g6⟩⟩:=h
 obtain ⟨A2,c2,A3,c3,rfl,l2,g2,l3,g3⟩:=k41_open s0
 exact ⟨A2,c2,A3,c3,A6,c6,rfl,l2,g2,l3,g3,l6,g6⟩
theorem k44_openM {w : World} {base : Nat} {ok : Nat→Prop} {x : S44} {cs : List Value} (h : k44.M w base ok x cs) : ∃ v2 v3 v6,cs=[.int .i64 x.f0.f0,.int .i64 x.f0.f1,v2,v3,.bool x.f0.f4,.bool x.f0.f5,v6]∧k104.R 104 w base ok v2 x.f0.f2∧k109.R 109 w base ok v3 x.f0.f3∧k91.R 91 w base ok v6 x.f1:=by
 obtain ⟨_,_,rfl,s0,⟨v6,rfl,g6⟩⟩:=h
 obtain ⟨v2,v3,rfl,g2,g3⟩:=k41_openM s0
 exact ⟨v2,v3,v6,rfl,g2,g3,g6⟩
theorem k44_mk (w : World) (x : S44) {A2 : Option Addr} {c2 : Nat} (l2 : x.f0.f2.length≤c2) (g2 : k104.C w A2 x.f0.f2.length x.f0.f2) {A3 : Option Addr} {c3 : Nat} (l3 : x.f0.f3.length≤c3) (g3 : k109.C w A3 x.f0.f3.length x.f0.f3) {A6 : Option Addr} {c6 : Nat} (l6 : x.f1.length≤c6) (g6 : k91.C w A6 x.f1.length x.f1) : k44.K w x [.int .i64 x.f0.f0,.int .i64 x.f0.f1,.slice A2 x.f0.f2.length c2,.slice A3 x.f0.f3.length c3,.bool x.f0.f4,.bool x.f0.f5,.slice A6 x.f1.length c6]:=⟨[.int .i64 x.f0.f0,.int .i64 x.f0.f1,.slice A2 x.f0.f2.length c2,.slice A3 x.f0.f3.length c3,.bool x.f0.f4,.bool x.f0.f5],[.slice A6 x.f1.length c6],rfl,(k41_mk w x.f0 l2 g2 l3 g3),⟨A6,c6,rfl,l6,g6⟩⟩
theorem k44_mkM (w : World) (base : Nat) (ok : Nat→Prop) (x : S44) {v2 : Value} (g2 : k104.R 104 w base ok v2 x.f0.f2) {v3 : Value} (g3 : k109.R 109 w base ok v3 x.f0.f3) {v6 : Value} (g6 : k91.R 91 w base ok v6 x.f1) : k44.M w base ok x [.int .i64 x.f0.f0,.int .i64 x.f0.f1,v2,v3,.bool x.f0.f4,.bool x.f0.f5,v6]:=⟨[.int .i64 x.f0.f0,.int .i64 x.f0.f1,v2,v3,.bool x.f0.f4,.bool x.f0.f5],[v6],rfl,(k41_mkM w base ok x.f0 g2 g3),⟨v6,rfl,g6⟩⟩
theorem k44_openF {W : World} {ok : Nat→Prop} {x : S44} {cs : List Value} (h : Kd.FK k44 W ok x cs) : ∃ A2 c2 A3 c3 A6 c6,cs=[.int .i64 x.f0.f0,.int .i64 x.f0.f1,.slice A2 x.f0.f2.length c2,.slice A3 x.f0.f3.length c3,.bool x.f0.f4,.bool x.f0.f5,.slice A6 x.f1.length c6]∧x.f0.f2.length≤c2∧Kd.F k104 W ok A2 x.f0.f2.length x.f0.f2∧x.f0.f3.length≤c3∧Kd.F k109 W ok A3 x.f0.f3.length x.f0.f3∧x.f1.length≤c6∧Kd.F k91 W ok A6 x.f1.length x.f1:=by
 obtain ⟨A2,c2,A3,c3,A6,c6,rfl,l2,_,l3,_,l6,_⟩:=k44_open (Kd.FK_now h)
 exact ⟨A2,c2,A3,c3,A6,c6,rfl,l2,(fun W' hW => by obtain ⟨A2_,c2_,A3_,c3_,A6_,c6_,he,l2_,g2_,l3_,g3_,l6_,g6_⟩:=k44_open (h W' hW);injection (Option.some.inj (show some (Value.slice A2 x.f0.f2.length c2)=some (Value.slice A2_ x.f0.f2.length c2_) from congrArg (fun l => l[2]?) he)) with ha_ _ _;rw [ha_];exact g2_),l3,(fun W' hW => by obtain ⟨A2_,c2_,A3_,c3_,A6_,c6_,he,l2_,g2_,l3_,g3_,l6_,g6_⟩:=k44_open (h W' hW);injection (Option.some.inj (show some (Value.slice A3 x.f0.f3.length c3)=some (Value.slice A3_ x.f0.f3.length c3_) from congrArg (fun l => l[3]?) he)) with ha_ _ _;rw [ha_];exact g3_),l6,(fun W' hW => by obtain ⟨A2_,c2_,A3_,c3_,A6_,c6_,he,l2_,g2_,l3_,g3_,l6_,g6_⟩:=k44_open (h W' hW);injection (Option.some.inj (show some (Value.slice A6 x.f1.length c6)=some (Value.slice A6_ x.f1.length c6_) from congrArg (fun l => l[6]?) he)) with ha_ _ _;rw [ha_];exact g6_)⟩
theorem k44_mkF (W : World) (ok : Nat→Prop) (x : S44) {A2 : Option Addr} {c2 : Nat} (l2 : x.f0.f2.length≤c2) (g2 : Kd.F k104 W ok A2 x.f0.f2.length x.f0.f2) {A3 : Option Addr} {c3 : Nat} (l3 : x.f0.f3.length≤c3) (g3 : Kd.F k109 W ok A3 x.f0.f3.length x.f0.f3) {A6 : Option Addr} {c6 : Nat} (l6 : x.f1.length≤c6) (g6 : Kd.F k91 W ok A6 x.f1.length x.f1) : Kd.FK k44 W ok x [.int .i64 x.f0.f0,.int .i64 x.f0.f1,.slice A2 x.f0.f2.length c2,.slice A3 x.f0.f3.length c3,.bool x.f0.f4,.bool x.f0.f5,.slice A6 x.f1.length c6]:=fun W2 hW => k44_mk W2 x l2 (g2 W2 hW) l3 (g3 W2 hW) l6 (g6 W2 hW)
def rd_T44 (xs : List S44) (i : Int) : S44:=xs.getD i.toNat z44
theorem at_T44 {w : World} {A : Option Addr} {n : Nat} {xs : List S44} (h : Kd.C k44 w A n xs) (i : Int) (h0 : 0≤i) (h1 : i<n) : ∃ ad A2 c2 A3 c3 A6 c6,A=some ad∧w.cell? (ad.add (i.toNat * 7))=some (.int .i64 (rd_T44 xs i).f0.f0)∧w.cell? ⟨(ad.add (i.toNat * 7)).block,(ad.add (i.toNat * 7)).off + 1,none⟩=some (.int .i64 (rd_T44 xs i).f0.f1)∧w.cell? ⟨(ad.add (i.toNat * 7)).block,(ad.add (i.toNat * 7)).off + 2,none⟩=some (.slice A2 (rd_T44 xs i).f0.f2.length c2)∧w.cell? ⟨(ad.add (i.toNat * 7)).block,(ad.add (i.toNat * 7)).off + 3,none⟩=some (.slice A3 (rd_T44 xs i).f0.f3.length c3)∧w.cell? ⟨(ad.add (i.toNat * 7)).block,(ad.add (i.toNat * 7)).off + 4,none⟩=some (.bool (rd_T44 xs i).f0.f4)∧w.cell? ⟨(ad.add (i.toNat * 7)).block,(ad.add (i.toNat * 7)).off + 5,none⟩=some (.bool (rd_T44 xs i).f0.f5)∧w.cell? ⟨(ad.add (i.toNat * 7)).block,(ad.add (i.toNat * 7)).off + 6,none⟩=some (.slice A6 (rd_T44 xs i).f1.length c6)∧(rd_T44 xs i).f0.f2.length≤c2∧k104.C w A2 (rd_T44 xs i).f0.f2.length (rd_T44 xs i).f0.f2∧(rd_T44 xs i).f0.f3.length≤c3∧k109.C w A3 (rd_T44 xs i).f0.f3.length (rd_T44 xs i).f0.f3∧(rd_T44 xs i).f1.length≤c6∧k91.C w A6 (rd_T44 xs i).f1.length (rd_T44 xs i).f1:=by
 obtain ⟨ad,c,e,_,hK,hc0⟩:=Kd.C_get h z44 i h0 h1
 have hc : ∀ j u,c[j]? = some u→w.cell? (ad.add (i.toNat * 7 + j))=some u:=hc0
 obtain ⟨A2,c2,A3,c3,A6,c6,rfl,l2,g2,l3,g3,l6,g6⟩:=k44_open hK
 exact ⟨ad,A2,c2,A3,c3,A6,c6,e,hc 0 _ rfl,by rw [← add_field _ _ 1 (by omega)];exact hc 1 _ rfl,by rw [← add_field _ _ 2 (by omega)];exact hc 2 _ rfl,by rw [← add_field _ _ 3 (by omega)];exact hc 3 _ rfl,by rw [← add_field _ _ 4 (by omega)];exact hc 4 _ rfl,by rw [← add_field _ _ 5 (by omega)];exact hc 5 _ rfl,by rw [← add_field _ _ 6 (by omega)];exact hc 6 _ rfl,l2,g2,l3,g3,l6,g6⟩

abbrev bm_ (i n : Nat) : Array Bool:=(List.replicate i true ++ List.replicate (n - i) false).toArray
abbrev za:=@below_alloc
abbrev zb:=@pw_below_drewN
abbrev zc:=@below_drew1
abbrev zd:=@below_set
abbrev ze:=@blk_drewN
abbrev zf:=@blk_drew
abbrev zg:=@blk_alloc
abbrev zh:=@Aside0.mk
abbrev zi:=@List.setIfInBounds_toArray
abbrev zj:=@List.set_cons_zero
abbrev zk:=@List.set_cons_succ
abbrev zl:=@World.block_lt_of_cell?
abbrev zm:=@Kd.R_alloc
abbrev zn:=@Kd.R_drewN
abbrev zo:=@Kd.R_drew
abbrev zp:=@Kept.drewN
abbrev zq:=@Kept.drew
abbrev zr:=@Kept.alloc
abbrev zs:=@Kept.setCell
abbrev zt:=@List.map_toArray
abbrev zu:=@List.map_cons
abbrev zv:=@List.map_nil
abbrev zw:=@List.length_drop
abbrev zx:=@List.length_take
abbrev zy:=@of_decide_eq_true
abbrev zz:=@blk_cell
abbrev zA:=@blk_frozen
abbrev zB:=@below_size
abbrev zC:=@below_step
abbrev zD:=@blk_below
abbrev zE:=@Kd.R_far
abbrev zF:=@add_block
abbrev zG:=@i64_w
abbrev zH:=@i32_w
abbrev zI:=@box_event
abbrev zJ:=@gate_callee
abbrev zK:=@gate_dst
abbrev zL:=@blk_put
abbrev zM:=@Kd.R_mono
abbrev zN:=@LeO.none
abbrev zO:=@LeO.bind
abbrev zP:=@LeO.ite
abbrev zQ:=@LeO.refl
abbrev zR:=@cell_far
abbrev zS:=@blk_far
abbrev zT:=@Option.bind_eq_some_iff
abbrev zU:=@Option.some.inj
abbrev zV:=@Int.ofNat_lt
abbrev zW:=@Int.ofNat_le
abbrev zX:=@bne_eq_false_iff_eq
abbrev zY:=@beq_eq_false_iff_ne
abbrev zZ:=@bne_iff_ne
abbrev ya:=@beq_iff_eq
abbrev yb:=@Bool.eq_false_iff
abbrev yc:=@Nat.ne_of_lt
abbrev yd:=@Nat.ne_of_gt
abbrev ye:=@Nat.le_refl
abbrev yf:=@Kd.R_types
abbrev yg:=@Kd.R_below
abbrev yh:=@Kd.R_reads'
abbrev yi:=@blk_lt
abbrev yj:=@goesL_
abbrev yk:=@Kd.R_slice
abbrev yl:=@KeepBut.set_
abbrev ym:=@keep_drewN
abbrev yn:=@keep_alloc
abbrev yo:=@take_ofW
abbrev yp:=@Drawn0.refl
abbrev yq:=@Drawn0.step
abbrev yr:=@gt_iff_lt
abbrev ys:=@ge_iff_le
abbrev yt:=@errW_none
abbrev yu:=@errW_some
abbrev yv:=@Kd.R_away
abbrev yw:=@blk_grown
abbrev yx:=@keep_drew
abbrev yy:=@Kd.R_lower
abbrev yz:=@gate_guard
abbrev yA:=@Kept.of_grown
abbrev yB:=@gate_builtin
theorem cB1 {w : World} {g : Nat} {t : TypeId} {a0 : Value} (h : w.heap[g]? = some (.cells #[a0] t (0, 0))) : w.cell? ⟨g, 0, none⟩ = some a0 ∧ w.frozen? ⟨g, 0, none⟩ = false := ⟨blk_cell h 0, blk_frozen h 0⟩
theorem cB2 {w : World} {g : Nat} {t : TypeId} {a0 a1 : Value} (h : w.heap[g]? = some (.cells #[a0, a1] t (0, 0))) : w.cell? ⟨g, 0, none⟩ = some a0 ∧ w.cell? ⟨g, 1, none⟩ = some a1 ∧ w.frozen? ⟨g, 0, none⟩ = false ∧ w.frozen? ⟨g, 1, none⟩ = false := ⟨blk_cell h 0, blk_cell h 1, blk_frozen h 0, blk_frozen h 1⟩
theorem cB3 {w : World} {g : Nat} {t : TypeId} {a0 a1 a2 : Value} (h : w.heap[g]? = some (.cells #[a0, a1, a2] t (0, 0))) : w.cell? ⟨g, 0, none⟩ = some a0 ∧ w.cell? ⟨g, 1, none⟩ = some a1 ∧ w.cell? ⟨g, 2, none⟩ = some a2 ∧ w.frozen? ⟨g, 0, none⟩ = false ∧ w.frozen? ⟨g, 1, none⟩ = false ∧ w.frozen? ⟨g, 2, none⟩ = false := ⟨blk_cell h 0, blk_cell h 1, blk_cell h 2, blk_frozen h 0, blk_frozen h 1, blk_frozen h 2⟩
theorem cB4 {w : World} {g : Nat} {t : TypeId} {a0 a1 a2 a3 : Value} (h : w.heap[g]? = some (.cells #[a0, a1, a2, a3] t (0, 0))) : w.cell? ⟨g, 0, none⟩ = some a0 ∧ w.cell? ⟨g, 1, none⟩ = some a1 ∧ w.cell? ⟨g, 2, none⟩ = some a2 ∧ w.cell? ⟨g, 3, none⟩ = some a3 ∧ w.frozen? ⟨g, 0, none⟩ = false ∧ w.frozen? ⟨g, 1, none⟩ = false ∧ w.frozen? ⟨g, 2, none⟩ = false ∧ w.frozen? ⟨g, 3, none⟩ = false := ⟨blk_cell h 0, blk_cell h 1, blk_cell h 2, blk_cell h 3, blk_frozen h 0, blk_frozen h 1, blk_frozen h 2, blk_frozen h 3⟩
theorem cB5 {w : World} {g : Nat} {t : TypeId} {a0 a1 a2 a3 a4 : Value} (h : w.heap[g]? = some (.cells #[a0, a1, a2, a3, a4] t (0, 0))) : w.cell? ⟨g, 0, none⟩ = some a0 ∧ w.cell? ⟨g, 1, none⟩ = some a1 ∧ w.cell? ⟨g, 2, none⟩ = some a2 ∧ w.cell? ⟨g, 3, none⟩ = some a3 ∧ w.cell? ⟨g, 4, none⟩ = some a4 ∧ w.frozen? ⟨g, 0, none⟩ = false ∧ w.frozen? ⟨g, 1, none⟩ = false ∧ w.frozen? ⟨g, 2, none⟩ = false ∧ w.frozen? ⟨g, 3, none⟩ = false ∧ w.frozen? ⟨g, 4, none⟩ = false := ⟨blk_cell h 0, blk_cell h 1, blk_cell h 2, blk_cell h 3, blk_cell h 4, blk_frozen h 0, blk_frozen h 1, blk_frozen h 2, blk_frozen h 3, blk_frozen h 4⟩
theorem cB6 {w : World} {g : Nat} {t : TypeId} {a0 a1 a2 a3 a4 a5 : Value} (h : w.heap[g]? = some (.cells #[a0, a1, a2, a3, a4, a5] t (0, 0))) : w.cell? ⟨g, 0, none⟩ = some a0 ∧ w.cell? ⟨g, 1, none⟩ = some a1 ∧ w.cell? ⟨g, 2, none⟩ = some a2 ∧ w.cell? ⟨g, 3, none⟩ = some a3 ∧ w.cell? ⟨g, 4, none⟩ = some a4 ∧ w.cell? ⟨g, 5, none⟩ = some a5 ∧ w.frozen? ⟨g, 0, none⟩ = false ∧ w.frozen? ⟨g, 1, none⟩ = false ∧ w.frozen? ⟨g, 2, none⟩ = false ∧ w.frozen? ⟨g, 3, none⟩ = false ∧ w.frozen? ⟨g, 4, none⟩ = false ∧ w.frozen? ⟨g, 5, none⟩ = false := ⟨blk_cell h 0, blk_cell h 1, blk_cell h 2, blk_cell h 3, blk_cell h 4, blk_cell h 5, blk_frozen h 0, blk_frozen h 1, blk_frozen h 2, blk_frozen h 3, blk_frozen h 4, blk_frozen h 5⟩
theorem cB7 {w : World} {g : Nat} {t : TypeId} {a0 a1 a2 a3 a4 a5 a6 : Value} (h : w.heap[g]? = some (.cells #[a0, a1, a2, a3, a4, a5, a6] t (0, 0))) : w.cell? ⟨g, 0, none⟩ = some a0 ∧ w.cell? ⟨g, 1, none⟩ = some a1 ∧ w.cell? ⟨g, 2, none⟩ = some a2 ∧ w.cell? ⟨g, 3, none⟩ = some a3 ∧ w.cell? ⟨g, 4, none⟩ = some a4 ∧ w.cell? ⟨g, 5, none⟩ = some a5 ∧ w.cell? ⟨g, 6, none⟩ = some a6 ∧ w.frozen? ⟨g, 0, none⟩ = false ∧ w.frozen? ⟨g, 1, none⟩ = false ∧ w.frozen? ⟨g, 2, none⟩ = false ∧ w.frozen? ⟨g, 3, none⟩ = false ∧ w.frozen? ⟨g, 4, none⟩ = false ∧ w.frozen? ⟨g, 5, none⟩ = false ∧ w.frozen? ⟨g, 6, none⟩ = false := ⟨blk_cell h 0, blk_cell h 1, blk_cell h 2, blk_cell h 3, blk_cell h 4, blk_cell h 5, blk_cell h 6, blk_frozen h 0, blk_frozen h 1, blk_frozen h 2, blk_frozen h 3, blk_frozen h 4, blk_frozen h 5, blk_frozen h 6⟩
theorem cB8 {w : World} {g : Nat} {t : TypeId} {a0 a1 a2 a3 a4 a5 a6 a7 : Value} (h : w.heap[g]? = some (.cells #[a0, a1, a2, a3, a4, a5, a6, a7] t (0, 0))) : w.cell? ⟨g, 0, none⟩ = some a0 ∧ w.cell? ⟨g, 1, none⟩ = some a1 ∧ w.cell? ⟨g, 2, none⟩ = some a2 ∧ w.cell? ⟨g, 3, none⟩ = some a3 ∧ w.cell? ⟨g, 4, none⟩ = some a4 ∧ w.cell? ⟨g, 5, none⟩ = some a5 ∧ w.cell? ⟨g, 6, none⟩ = some a6 ∧ w.cell? ⟨g, 7, none⟩ = some a7 ∧ w.frozen? ⟨g, 0, none⟩ = false ∧ w.frozen? ⟨g, 1, none⟩ = false ∧ w.frozen? ⟨g, 2, none⟩ = false ∧ w.frozen? ⟨g, 3, none⟩ = false ∧ w.frozen? ⟨g, 4, none⟩ = false ∧ w.frozen? ⟨g, 5, none⟩ = false ∧ w.frozen? ⟨g, 6, none⟩ = false ∧ w.frozen? ⟨g, 7, none⟩ = false := ⟨blk_cell h 0, blk_cell h 1, blk_cell h 2, blk_cell h 3, blk_cell h 4, blk_cell h 5, blk_cell h 6, blk_cell h 7, blk_frozen h 0, blk_frozen h 1, blk_frozen h 2, blk_frozen h 3, blk_frozen h 4, blk_frozen h 5, blk_frozen h 6, blk_frozen h 7⟩
theorem cD {w0 w w1 : World} {g : Nat} {o : Obj} (_ : w0.heap[g]? = some o) (h : w.heap[g]? = some o) (hb : Below w.heap.size w w1) : w1.heap[g]? = some o := blk_below h hb
theorem cH {w0 w w1 : World} {g : Nat} (h : Below w0.heap.size w0 w) (hb : Below w.heap.size w w1) (hg : g = w.heap.size) : w0.heap.size ≤ g ∧ Below w0.heap.size w0 w1 := ⟨hg ▸ h.size, below_step h hb⟩
theorem cS2 {w : World} {g b i0 i1 : Nat} {u0 u1 : Value} {t : TypeId} {cs : Array Value} (h : w.heap[g]? = some (.cells cs t (0, 0))) (hp : g ≠ b) : ((w.setCell ⟨b, i0, none⟩ u0).setCell ⟨b, i1, none⟩ u1).heap[g]? = some (.cells cs t (0, 0)) := blk_far (blk_far h hp u0) hp u1
theorem cS3 {w : World} {g b i0 i1 i2 : Nat} {u0 u1 u2 : Value} {t : TypeId} {cs : Array Value} (h : w.heap[g]? = some (.cells cs t (0, 0))) (hp : g ≠ b) : (((w.setCell ⟨b, i0, none⟩ u0).setCell ⟨b, i1, none⟩ u1).setCell ⟨b, i2, none⟩ u2).heap[g]? = some (.cells cs t (0, 0)) := blk_far (blk_far (blk_far h hp u0) hp u1) hp u2
theorem cS4 {w : World} {g b i0 i1 i2 i3 : Nat} {u0 u1 u2 u3 : Value} {t : TypeId} {cs : Array Value} (h : w.heap[g]? = some (.cells cs t (0, 0))) (hp : g ≠ b) : ((((w.setCell ⟨b, i0, none⟩ u0).setCell ⟨b, i1, none⟩ u1).setCell ⟨b, i2, none⟩ u2).setCell ⟨b, i3, none⟩ u3).heap[g]? = some (.cells cs t (0, 0)) := blk_far (blk_far (blk_far (blk_far h hp u0) hp u1) hp u2) hp u3
theorem cS5 {w : World} {g b i0 i1 i2 i3 i4 : Nat} {u0 u1 u2 u3 u4 : Value} {t : TypeId} {cs : Array Value} (h : w.heap[g]? = some (.cells cs t (0, 0))) (hp : g ≠ b) : (((((w.setCell ⟨b, i0, none⟩ u0).setCell ⟨b, i1, none⟩ u1).setCell ⟨b, i2, none⟩ u2).setCell ⟨b, i3, none⟩ u3).setCell ⟨b, i4, none⟩ u4).heap[g]? = some (.cells cs t (0, 0)) := blk_far (blk_far (blk_far (blk_far (blk_far h hp u0) hp u1) hp u2) hp u3) hp u4

def F0l.f (a0 : ByteArray) : Option (ByteArray×(List (S116))×(List (S84))):=some (a0,(([] : List (S116))),(([] : List (S84))))
set_option maxHeartbeats 8000000 in
set_option maxRecDepth 100000 in
theorem F0l.calls (a0 : ByteArray) (r1 : ByteArray) (r2 : List (S116)) (r3 : List (S84)) (w : World) (h : F0l.f a0=some (r1,r2,r3)) :
  Calls Tryz.prog 21 #[.string a0] w fun e w' => ∃ v1_ v2_ : Value,e = .returned (.agg #[.string r1,v1_,v2_])∧Kd.S k116 116 w' w.heap.size (fun _ => True) v1_ r2∧Kd.S k84 84 w' w.heap.size (fun _ => True) v2_ r3∧Below w.heap.size w w':=by
 have hu54:=Tryz.underlying54;have HB:=zh (Below.refl w.heap.size w);have H : (some (a0,(([] : List (S116))),(([] : List (S84)))))=some (r1,r2,r3):=h;clear h;obtain ⟨y322,hy322⟩ : ∃ y_ : List (S116),y_=(([] : List (S116))):=⟨_,rfl⟩;replace H : (some (a0,y322,(([] : List (S84)))))=some (r1,r2,r3):=by first|(rw [hy322];with_reducible exact H)|(have H2_:=(Option.bind_some _ _).symm.trans H;rw [hy322];with_reducible exact H2_)|(have H2_:=(Option.bind_some _ _).symm.trans H;with_reducible exact H2_)|with_reducible exact H|(rw [hy322];exact H)|exact H
 have Ny322:=zh hy322;clear hy322;obtain ⟨y325,hy325⟩ : ∃ y_ : List (S84),y_=(([] : List (S84))):=⟨_,rfl⟩;replace H : (some (a0,y322,y325))=some (r1,r2,r3):=by first|(rw [hy325];with_reducible exact H)|(have H2_:=(Option.bind_some _ _).symm.trans H;rw [hy325];with_reducible exact H2_)|(have H2_:=(Option.bind_some _ _).symm.trans H;with_reducible exact H2_)|with_reducible exact H|(rw [hy325];exact H)|exact H
 have Ny325:=zh hy325;clear hy325;simp only [Option.some.injEq,Prod.mk.injEq] at H;obtain ⟨rfl,rfl,rfl⟩:=H
 go_enter Tryz.func21,Tryz.ntmps21
 go_wp2_with (first|((with_reducible refine zK (N:=2) rfl ?_);refine zI ?hg (N:=2) ?hd (cs:=#[.string (⟨#[]⟩ : ByteArray),.slice none 0 0,.slice none 0 0]) (t:=54) ?hr ?_;(case hd|hg => rfl);(case hr => go_simp <;> rfl);intro gb321 hg w2 hbox hb;have BK321:=zh (hbox);have hH_:=cH (by repeat (with_reducible first|exact HB.out|apply za|apply zb|apply zc)) hb hg;have GW321:=zh hH_.1;have GE321:=GW321;replace HB:=zh hH_.2;clear hb hbox hg hH_)|((with_reducible refine zK (N:=4) rfl ?_);refine Kd.S_lit k116 _ 116 ?hg (N:=4) ?hd (xs:=([] : List (S116))) (inner:=[]) (ok:=fun _ => True) (okp:=fun _ => True) ?hr ?hp (fun _ hk => hk) trivial (Below.refl _ _) (ye _) (by simp) ?_;(case hd|hg => rfl);(case hr => go_simp <;> rfl);(case hp => exact (Reps.none _ _));intro v323 w3 ho4 hb hg_ hnew_;clear hg_ hnew_;(first|rw [← Ny322.out] at ho4|(simp only [Int.reduceToNat] at ho4;rw [← Ny322.out] at ho4));have HO324:=zh (Kd.S_lower ho4 (zB (by repeat (with_reducible first|exact HB.out|apply za|apply zb|apply zc|refine zd ?_ GE321.out))));replace BK321:=zh (cD BK321.out (by (with_reducible repeat first|apply ze|apply zf|apply zg);exact BK321.out) hb);replace HB:=zh (zC (by repeat (with_reducible first|exact HB.out|apply za|apply zb|apply zc|refine zd ?_ GE321.out)) hb);clear hb ho4)|((with_reducible refine zK (N:=5) rfl ?_);refine Kd.S_lit k84 _ 84 ?hg (N:=5) ?hd (xs:=([] : List (S84))) (inner:=[]) (ok:=fun _ => True) (okp:=fun _ => True) ?hr ?hp (fun _ hk => hk) trivial (Below.refl _ _) (ye _) (by simp) ?_;(case hd|hg => rfl);(case hr => go_simp <;> rfl);(case hp => exact (Reps.none _ _));intro v326 w5 ho6 hb hg_ hnew_;clear hg_ hnew_;(first|rw [← Ny325.out] at ho6|(simp only [Int.reduceToNat] at ho6;rw [← Ny325.out] at ho6));replace HO324:=zh (Kd.S_below (by (with_reducible repeat (first|apply Kd.S_alloc|apply Kd.S_drewN|apply Kd.S_drew));exact HO324.out) hb);have HO327:=zh (Kd.S_lower ho6 (zB (by repeat (with_reducible first|exact HB.out|apply za|apply zb|apply zc|refine zd ?_ GE321.out))));replace BK321:=zh (cD BK321.out (by (with_reducible repeat first|apply ze|apply zf|apply zg);exact BK321.out) hb);replace HB:=zh (zC (by repeat (with_reducible first|exact HB.out|apply za|apply zb|apply zc|refine zd ?_ GE321.out)) hb);clear hb ho6;obtain ⟨Ao7,co7,eo7⟩:=Kd.S_slice HO327.out;subst eo7;obtain ⟨Ao8,co8,eo8⟩:=Kd.S_slice HO324.out;subst eo8;obtain ⟨hcz9_0,hcz9_1,hcz9_2,hfz9_0,hfz9_1,hfz9_2⟩:=cB3 BK321.out))
 refine bodyPost_ret (results_cell_row rfl _ _ gb321 54 #[.string a0,.slice Ao8 y322.length co8,.slice Ao7 y325.length co7] (0,0) _ rfl (by (with_reducible repeat first|apply ze|apply zf|apply zg);refine zL (cs:=#[.string a0,.slice Ao8 y322.length co8,.slice none 0 0]) ?_ 2 _ rfl;(with_reducible repeat first|apply ze|apply zf|apply zg);refine zL (cs:=#[.string a0,.slice none 0 0,.slice none 0 0]) ?_ 1 _ rfl;(with_reducible repeat first|apply ze|apply zf|apply zg);refine zL (cs:=#[.string (⟨#[]⟩ : ByteArray),.slice none 0 0,.slice none 0 0]) ?_ 0 _ rfl;(with_reducible repeat first|apply ze|apply zf|apply zg);exact BK321.out) Tryz.underlying54 rfl (by kernel_rfl)) rfl ?_;exact ⟨_,_,by first|rfl|(simp [yt,yu] <;> rfl)|(simp [*,yt,yu] <;> rfl),by (with_reducible repeat (first|apply Kd.S_alloc|apply Kd.S_drewN|apply Kd.S_drew));exact Kd.S_mono (Kd.S_far (p:=⟨gb321,2,none⟩) (Kd.S_far (p:=⟨gb321,1,none⟩) (Kd.S_far (p:=⟨gb321,0,none⟩) (Kd.S_types HO324.out BK321.out (by decide)) (fun _ hk => hk.2) (.string a0)) (fun _ hk => hk.2) (.slice Ao8 y322.length co8)) (fun _ hk => hk.2) (.slice Ao7 y325.length co7)) (fun _ hk => trivial),by (with_reducible repeat (first|apply Kd.S_alloc|apply Kd.S_drewN|apply Kd.S_drew));exact Kd.S_mono (Kd.S_far (p:=⟨gb321,2,none⟩) (Kd.S_far (p:=⟨gb321,1,none⟩) (Kd.S_far (p:=⟨gb321,0,none⟩) (Kd.S_types HO327.out BK321.out (by decide)) (fun _ hk => hk.2) (.string a0)) (fun _ hk => hk.2) (.slice Ao8 y322.length co8)) (fun _ hk => hk.2) (.slice Ao7 y325.length co7)) (fun _ hk => trivial),by repeat (with_reducible first|exact HB.out|apply za|apply zb|apply zc|refine zd ?_ GE321.out)⟩


def Fa.l0 : Nat→List ByteArray→Int→List (S54)→List (S71)→List (S41)→Int→Option ((List (S54))×(List (S71))×(List (S41))×Int)
 | 0,_,_,_,_,_,_ => none
 | k + 1,x0,x4,x339000,x339001,x339002,x339003 => if x4<(x0.length : Int) then (if 0≤x4 then ((F0l.f (rdOf ByteArray.empty x0 x4)).bind fun bt340 => (if x339000.length<2199023255552 then (Fa.l0 k x0 (wrap64 (x4 + 1)) (x339000 ++ [(⟨bt340.1,bt340.2.1,bt340.2.2⟩ : S54)]) x339001 x339002 x339003) else (none))) else (none)) else (some (x339000,x339001,x339002,x339003))
def Fa.f (k : Nat) (l0 : List ByteArray) : Option ((List (S54))×(List (S71))×(List (S41))×Int):=Fa.l0 k l0 0 (([] : List (S54))) (([] : List (S71))) (([] : List (S41))) 0
theorem Fa.mono_l : ∀ k,(∀ y0 y1 y2 y3 y4 y5,LeO (Fa.l0 k y0 y1 y2 y3 y4 y5) (Fa.l0 (k + 1) y0 y1 y2 y3 y4 y5))
 | 0 => fun _ _ _ _ _ _ r h => by simp [Fa.l0] at h
 | k + 1 => by
  have ih0:=Fa.mono_l k;intro y0 y1 y2 y3 y4 y5;unfold Fa.l0
  repeat' first|(with_reducible first|exact ih0 _ _ _ _ _ _|exact zQ _|exact zN _|refine zP ?_ ?_|refine zO ?_ (fun _ => ?_))|refine zP ?_ ?_|refine zO ?_ (fun _ => ?_)
theorem Fa.mono : ∀ a0 k,LeO (Fa.f k a0) (Fa.f (k + 1) a0):=by
 intro a0 k;have ih0:=Fa.mono_l k;unfold Fa.f
 repeat' first|(with_reducible first|exact ih0 _ _ _ _ _ _|exact zQ _|exact zN _|refine zP ?_ ?_|refine zO ?_ (fun _ => ?_))|refine zP ?_ ?_|refine zO ?_ (fun _ => ?_)
def Fa.T5 : Bool×List (List Nat×List Nat):=(true,[([],[]),([0],[0]),([],[]),([],[]),([2,3],[2,3]),([4],[4]),([5],[5]),([6],[6]),([1,7,6],[1,7]),([0,1,2,3,4,5,6,7,8],[]),([9,8,8,0,1,2,3,4,5,6,7,8],[8,9])])
def Fa.B5 : List Nat:=[0,1,0,0,12,28,60,124,255,511,1023]
theorem Fa.tab5 : rtab .any (opsOf Tryz.f10 5)=Fa.T5:=by kernel_rfl
theorem Fa.bits5 : waitsOk Fa.T5.2 Fa.B5=true:=by kernel_rfl
set_option maxHeartbeats 8000000 in
set_option maxRecDepth 100000 in
theorem Fa.calls (k : Nat) (A0 : Option Addr) (c0 : Nat) (l0 : List ByteArray) (r1 : List (S54)) (r2 : List (S71)) (r3 : List (S41)) (r4 : Int) (w : World) (hr0 : Kd.C Kd.string w A0 l0.length l0) (hc0 : l0.length≤c0) (h : Fa.f k l0=some (r1,r2,r3,r4)) :
  Calls Tryz.prog 10 #[.slice A0 l0.length c0] w fun e w' => ∃ v0_ v1_ v2_ : Value,e = .returned (.agg #[v0_,v1_,v2_,.int .i64 r4])∧Kd.R k54 54 w' w.heap.size (fun _ => True) v0_ r1∧Kd.R k71 71 w' w.heap.size (fun _ => True) v1_ r2∧Kd.R k41 41 w' w.heap.size (fun _ => True) v2_ r3∧Below w.heap.size w w':=by
 have hu26:=Tryz.underlying26;have HR0:=zh hr0;have HC0:=zh hc0;clear hr0 hc0;have HB:=zh (Below.refl w.heap.size w);have H : (Fa.l0 k l0 0 (([] : List (S54))) (([] : List (S71))) (([] : List (S41))) 0)=some (r1,r2,r3,r4):=h;clear h;obtain ⟨y329,hy329⟩ : ∃ y_ : List (S54),y_=(([] : List (S54))):=⟨_,rfl⟩;replace H : (Fa.l0 k l0 0 y329 (([] : List (S71))) (([] : List (S41))) 0)=some (r1,r2,r3,r4):=by first|(rw [hy329];with_reducible exact H)|(have H2_:=(Option.bind_some _ _).symm.trans H;rw [hy329];with_reducible exact H2_)|(have H2_:=(Option.bind_some _ _).symm.trans H;with_reducible exact H2_)|with_reducible exact H|(rw [hy329];exact H)|exact H
 have Ny329:=zh hy329;clear hy329;obtain ⟨y332,hy332⟩ : ∃ y_ : List (S71),y_=(([] : List (S71))):=⟨_,rfl⟩;replace H : (Fa.l0 k l0 0 y329 y332 (([] : List (S41))) 0)=some (r1,r2,r3,r4):=by first|(rw [hy332];with_reducible exact H)|(have H2_:=(Option.bind_some _ _).symm.trans H;rw [hy332];with_reducible exact H2_)|(have H2_:=(Option.bind_some _ _).symm.trans H;with_reducible exact H2_)|with_reducible exact H|(rw [hy332];exact H)|exact H
 have Ny332:=zh hy332;clear hy332;obtain ⟨y335,hy335⟩ : ∃ y_ : List (S41),y_=(([] : List (S41))):=⟨_,rfl⟩;replace H : (Fa.l0 k l0 0 y329 y332 y335 0)=some (r1,r2,r3,r4):=by first|(rw [hy335];with_reducible exact H)|(have H2_:=(Option.bind_some _ _).symm.trans H;rw [hy335];with_reducible exact H2_)|(have H2_:=(Option.bind_some _ _).symm.trans H;with_reducible exact H2_)|with_reducible exact H|(rw [hy335];exact H)|exact H
 have Ny335:=zh hy335;clear hy335;have H':=zh H;clear H
 go_enter Tryz.func10,Tryz.ntmps10
 go_wp2_with (first|((with_reducible refine zK (N:=2) rfl ?_);refine zI ?hg (N:=2) ?hd (cs:=#[.slice none 0 0,.slice none 0 0,.slice none 0 0,.int .i64 0]) (t:=26) ?hr ?_;(case hd|hg => rfl);(case hr => go_simp <;> rfl);intro gb328 hg w2 hbox hb;have BK328:=zh (hbox);have hH_:=cH (by repeat (with_reducible first|exact HB.out|apply za|apply zb|apply zc)) hb hg;have GW328:=zh hH_.1;have GE328:=GW328;replace HB:=zh hH_.2;clear hb hbox hg hH_)|((with_reducible refine zK (N:=5) rfl ?_);refine Kd.R_lit k54 _ 54 ?hg (N:=5) ?hd (xs:=([] : List (S54))) (inner:=[]) (ok:=fun _ => True) (okp:=fun _ => True) ?hr ?hp (fun _ hk => hk) trivial (Below.refl _ _) (ye _) (by simp) ?_;(case hd|hg => rfl);(case hr => go_simp <;> rfl);(case hp => exact (Reps.none _ _));intro v330 w3 ho4 hb hg_ hnew_;clear hg_ hnew_;(first|rw [← Ny329.out] at ho4|(simp only [Int.reduceToNat] at ho4;rw [← Ny329.out] at ho4));have HO331:=zh (yy ho4 (zB (by repeat (with_reducible first|exact HB.out|apply za|apply zb|apply zc|refine zd ?_ GE328.out))));replace BK328:=zh (cD BK328.out (by (with_reducible repeat first|apply ze|apply zf|apply zg);exact BK328.out) hb);replace HB:=zh (zC (by repeat (with_reducible first|exact HB.out|apply za|apply zb|apply zc|refine zd ?_ GE328.out)) hb);clear hb ho4)|((with_reducible refine zK (N:=6) rfl ?_);refine Kd.R_lit k71 _ 71 ?hg (N:=6) ?hd (xs:=([] : List (S71))) (inner:=[]) (ok:=fun _ => True) (okp:=fun _ => True) ?hr ?hp (fun _ hk => hk) trivial (Below.refl _ _) (ye _) (by simp) ?_;(case hd|hg => rfl);(case hr => go_simp <;> rfl);(case hp => exact (Reps.none _ _));intro v333 w5 ho6 hb hg_ hnew_;clear hg_ hnew_;(first|rw [← Ny332.out] at ho6|(simp only [Int.reduceToNat] at ho6;rw [← Ny332.out] at ho6));replace HO331:=zh (yg (by (with_reducible repeat (first|apply zm|apply zn|apply zo));exact HO331.out) hb);have HO334:=zh (yy ho6 (zB (by repeat (with_reducible first|exact HB.out|apply za|apply zb|apply zc|refine zd ?_ GE328.out))));replace BK328:=zh (cD BK328.out (by (with_reducible repeat first|apply ze|apply zf|apply zg);exact BK328.out) hb);replace HB:=zh (zC (by repeat (with_reducible first|exact HB.out|apply za|apply zb|apply zc|refine zd ?_ GE328.out)) hb);clear hb ho6)|((with_reducible refine zK (N:=7) rfl ?_);refine Kd.R_lit k41 _ 41 ?hg (N:=7) ?hd (xs:=([] : List (S41))) (inner:=[]) (ok:=fun _ => True) (okp:=fun _ => True) ?hr ?hp (fun _ hk => hk) trivial (Below.refl _ _) (ye _) (by simp) ?_;(case hd|hg => rfl);(case hr => go_simp <;> rfl);(case hp => exact (Reps.none _ _));intro v336 w7 ho8 hb hg_ hnew_;clear hg_ hnew_;(first|rw [← Ny335.out] at ho8|(simp only [Int.reduceToNat] at ho8;rw [← Ny335.out] at ho8));replace HO331:=zh (yg (by (with_reducible repeat (first|apply zm|apply zn|apply zo));exact HO331.out) hb);replace HO334:=zh (yg (by (with_reducible repeat (first|apply zm|apply zn|apply zo));exact HO334.out) hb);have HO337:=zh (yy ho8 (zB (by repeat (with_reducible first|exact HB.out|apply za|apply zb|apply zc|refine zd ?_ GE328.out))));replace BK328:=zh (cD BK328.out (by (with_reducible repeat first|apply ze|apply zf|apply zg);exact BK328.out) hb);replace HB:=zh (zC (by repeat (with_reducible first|exact HB.out|apply za|apply zb|apply zc|refine zd ?_ GE328.out)) hb);clear hb ho8;obtain ⟨Ao9,co9,eo9⟩:=yk HO337.out;subst eo9;obtain ⟨Ao10,co10,eo10⟩:=yk HO334.out;subst eo10;obtain ⟨Ao11,co11,eo11⟩:=yk HO331.out;subst eo11)|((with_reducible refine zK (N:=3) rfl ?_);refine zI ?hg (N:=3) ?hd (cs:=#[.slice none 0 0,.slice none 0 0,.slice none 0 0,.int .i64 0]) (t:=26) ?hr ?_;(case hd|hg => rfl);(case hr => go_simp <;> rfl);intro gb338 hg w12 hbox hb;replace HO331:=zh (yg (by (with_reducible repeat (first|apply zm|apply zn|apply zo));exact HO331.out) hb);replace HO334:=zh (yg (by (with_reducible repeat (first|apply zm|apply zn|apply zo));exact HO334.out) hb);replace HO337:=zh (yg (by (with_reducible repeat (first|apply zm|apply zn|apply zo));exact HO337.out) hb);have BK338:=zh (hbox);have hH_:=cH (by repeat (with_reducible first|exact HB.out|apply za|apply zb|apply zc|refine zd ?_ GE328.out)) hb hg;have GW338:=zh hH_.1;have GE338:=GW338;replace HB:=zh hH_.2;have NB328_338:=zh ((by rw [hg];exact yc (yi (g:=gb328) (o:=.cells #[.slice none 0 0,.slice none 0 0,.slice none 0 0,.int .i64 0] 26 (0,0)) (by (with_reducible repeat first|apply ze|apply zf|apply zg);exact BK328.out)) : gb328≠gb338));have NB338_328:=zh NB328_338.out.symm;replace BK328:=zh (cD BK328.out (by (with_reducible repeat first|apply ze|apply zf|apply zg);exact BK328.out) hb);clear hb hbox hg hH_;have hnb13:=NB338_328.out;have hnc13:=NB328_338.out;obtain ⟨hcz14_0,hcz14_1,hcz14_2,hcz14_3,hfz14_0,hfz14_1,hfz14_2,hfz14_3⟩:=cB4 BK338.out))
 go_loopg [4] k (fun kq v4 w' => ∃ (x4_1 : Int) (x339000_1 : List (S54)) (u339000 : Value),v4 = .int .i64 x4_1∧Aside0 (Fa.l0 kq l0 x4_1 x339000_1 y332 y335 0=some (r1,r2,r3,r4))∧Aside0 (kq≤k)∧Aside0 (Kd.R k54 54 w' w.heap.size (fun _ => True) u339000 x339000_1)∧Aside0 (Kd.R k71 71 w' w.heap.size (fun _ => True) (.slice Ao10 y332.length co10) y332)∧Aside0 (Kd.R k41 41 w' w.heap.size (fun _ => True) (.slice Ao9 y335.length co9) y335)∧Aside0 (w'.heap[gb328]? = some (.cells #[(.slice none 0 0),(.slice none 0 0),(.slice none 0 0),.int .i64 0] 26 (0,0)))∧Aside0 (w'.heap[gb338]? = some (.cells #[u339000,(.slice Ao10 y332.length co10),(.slice Ao9 y335.length co9),.int .i64 0] 26 (0,0)))∧Aside0 (Below w.heap.size w w'))
 case atStart => exact ⟨(0),(y329),(.slice Ao11 y329.length co11),(by first|rfl|(simp;done)|(simp [*];done)),H',⟨ye _⟩,⟨by (with_reducible repeat (first|apply zm|apply zn|apply zo));exact zM (zE (p:=⟨gb338,3,none⟩) (zE (p:=⟨gb338,2,none⟩) (zE (p:=⟨gb338,1,none⟩) (zE (p:=⟨gb338,0,none⟩) (yf HO331.out BK338.out (by decide)) (fun _ hk => hk.2) (.slice Ao11 y329.length co11)) (fun _ hk => hk.2) (.slice Ao10 y332.length co10)) (fun _ hk => hk.2) (.slice Ao9 y335.length co9)) (fun _ hk => hk.2) (.int .i64 0)) (fun _ hk => trivial)⟩,⟨by (with_reducible repeat (first|apply zm|apply zn|apply zo));exact zM (zE (p:=⟨gb338,3,none⟩) (zE (p:=⟨gb338,2,none⟩) (zE (p:=⟨gb338,1,none⟩) (zE (p:=⟨gb338,0,none⟩) (yf HO334.out BK338.out (by decide)) (fun _ hk => hk.2) (.slice Ao11 y329.length co11)) (fun _ hk => hk.2) (.slice Ao10 y332.length co10)) (fun _ hk => hk.2) (.slice Ao9 y335.length co9)) (fun _ hk => hk.2) (.int .i64 0)) (fun _ hk => trivial)⟩,⟨by (with_reducible repeat (first|apply zm|apply zn|apply zo));exact zM (zE (p:=⟨gb338,3,none⟩) (zE (p:=⟨gb338,2,none⟩) (zE (p:=⟨gb338,1,none⟩) (zE (p:=⟨gb338,0,none⟩) (yf HO337.out BK338.out (by decide)) (fun _ hk => hk.2) (.slice Ao11 y329.length co11)) (fun _ hk => hk.2) (.slice Ao10 y332.length co10)) (fun _ hk => hk.2) (.slice Ao9 y335.length co9)) (fun _ hk => hk.2) (.int .i64 0)) (fun _ hk => trivial)⟩,⟨by (with_reducible repeat first|apply ze|apply zf|apply zg);refine cS4 ?_ NB328_338.out;(with_reducible repeat first|apply ze|apply zf|apply zg);exact BK328.out⟩,⟨by (with_reducible repeat first|apply ze|apply zf|apply zg);refine zL (cs:=#[.slice Ao11 y329.length co11,.slice Ao10 y332.length co10,.slice Ao9 y335.length co9,.int .i64 0]) ?_ 3 _ rfl;(with_reducible repeat first|apply ze|apply zf|apply zg);refine zL (cs:=#[.slice Ao11 y329.length co11,.slice Ao10 y332.length co10,.slice none 0 0,.int .i64 0]) ?_ 2 _ rfl;(with_reducible repeat first|apply ze|apply zf|apply zg);refine zL (cs:=#[.slice Ao11 y329.length co11,.slice none 0 0,.slice none 0 0,.int .i64 0]) ?_ 1 _ rfl;(with_reducible repeat first|apply ze|apply zf|apply zg);refine zL (cs:=#[.slice none 0 0,.slice none 0 0,.slice none 0 0,.int .i64 0]) ?_ 0 _ rfl;(with_reducible repeat first|apply ze|apply zf|apply zg);exact BK338.out⟩,⟨by repeat (with_reducible first|exact HB.out|apply za|apply zb|apply zc|refine zd ?_ GE328.out|refine zd ?_ GE338.out)⟩⟩
 case round =>
  clear H'
  try clear c1
  try clear p2
  try clear c10 c13
  try clear hcz14_0 hcz14_1 hcz14_2 hcz14_3 hfz14_0 hfz14_1 hfz14_2 hfz14_3
  obtain ⟨x4_1,x339000_1,u339000,rfl,HA,HK1,HO_339000,HO_339001,HO_339002,BK328,BK338,HB⟩:=hrel
  cases gk with
  | zero => exact absurd HA.out (by simp [Fa.l0])
  | succ k1 =>
   have H:=HA.out;clear HA;simp only [Fa.l0] at H
   by_cases c15 : x4_1<(l0.length : Int)
   ·
    rw [if_pos c15] at H
    have c15b0 : decide (x4_1<(l0.length : Int))=true:=decide_eq_true c15;clear c15
    by_cases c16 : 0≤x4_1
    ·
     rw [if_pos c16] at H
     have c16b0 : decide (0≤x4_1)=true:=decide_eq_true c16;clear c16;replace H:=zT.mp H;obtain ⟨⟨t340,t341,t344⟩,A170,H⟩:=H;replace H : (if x339000_1.length<2199023255552 then (Fa.l0 k1 l0 (wrap64 (x4_1 + 1)) (x339000_1 ++ [(⟨t340,t341,t344⟩ : S54)]) y332 y335 0) else (none))=some (r1,r2,r3,r4):=H;have A17:=zh A170;clear A170
     by_cases c18 : x339000_1.length<2199023255552
     ·
      rw [if_pos c18] at H
      have LMc18:=zh c18;clear c18;obtain ⟨y347,hy347⟩ : ∃ y_ : List (S54),y_=(x339000_1 ++ [(⟨t340,t341,t344⟩ : S54)]):=⟨_,rfl⟩;replace H : (Fa.l0 k1 l0 (wrap64 (x4_1 + 1)) y347 y332 y335 0)=some (r1,r2,r3,r4):=by first|(rw [hy347];with_reducible exact H)|(have H2_:=(Option.bind_some _ _).symm.trans H;rw [hy347];with_reducible exact H2_)|(have H2_:=(Option.bind_some _ _).symm.trans H;with_reducible exact H2_)|with_reducible exact H|(rw [hy347];exact H)|exact H
      have Ny347:=zh hy347;clear hy347;have H':=zh H;clear H
      try go_wp2
      replace HO_339000:=zh (zo HO_339000.out);replace HO_339001:=zh (zo HO_339001.out);replace HO_339002:=zh (zo HO_339002.out);replace BK328:=zh (zf BK328.out);replace BK338:=zh (zf BK338.out);replace HB:=zh (zc HB.out);have p339 : 0≤(x4_1 : Int):=zy (by first|(with_reducible assumption)|assumption);have q339 : x4_1<(l0.length : Int):=zy (by first|(with_reducible assumption)|assumption);obtain ⟨ad339,e339,hx339_0⟩:=Kd.at_string HR0.out x4_1 p339 q339;have hw339_0:=hx339_0
      cases e339
      replace hx339_0:=(HB.out.cell (zl w _ hx339_0)).trans hx339_0;replace p339:=eq_true p339;replace q339:=eq_true q339;refine start_ (n:=11) (S:=fun w' => w'.cell? ⟨gb338,0,none⟩=some (u339000)∧w'.cell? ⟨gb338,1,none⟩=some (.slice Ao10 y332.length co10)∧w'.cell? ⟨gb338,2,none⟩=some (.slice Ao9 y335.length co9)∧w'.cell? ⟨gb338,3,none⟩=some (.int .i64 0)∧w'.cell? (ad339.add (x4_1).toNat)=some (.string (rdOf ByteArray.empty l0 x4_1))) (ds:=[10]) (bm_ 0 11) (by kernel_rfl) rfl rfl ⟨(zz BK338.out 0).trans rfl,(zz BK338.out 1).trans rfl,(zz BK338.out 2).trans rfl,(zz BK338.out 3).trans rfl,((HB.out.cell (zl w _ hw339_0)).trans hw339_0)⟩ (fun hHeld => ?_);refine with_tabW Fa.tab5 Fa.bits5 (fun HT_ HW_ => ?_);generalize wr.drew=w19 at HO_339000 HO_339001 HO_339002 BK328 BK338 HB hx339_0 hHeld ⊢;refine pure_ (i:=0) (N:=some 15) (v:=?_) (a':=?_) (bm_ 1 11) rfl rfl (any_of HT_.out (by kernel_rfl)) (fun _ _ _ h => h) (Or.inl ⟨by rfl,?_⟩) ?_ ?_;rotate_left
      ·
       intro w'
       go_simp
       with_reducible rfl
      rotate_left
      ·
       simp only [Act.put,zi,zj,zk,zG,zH]
       rfl
      refine pure_ (i:=2) (N:=some 17) (v:=?_) (a':=?_) #[true,false,true,false,false,false,false,false,false,false,false] rfl rfl (any_of HT_.out (by kernel_rfl)) (fun _ _ _ h => h) (Or.inl ⟨by rfl,?_⟩) ?_ ?_;rotate_left
      ·
       intro w'
       go_simp
       with_reducible rfl
      rotate_left
      ·
       simp only [Act.put,zi,zj,zk,zG,zH]
       rfl
      refine pure_ (i:=3) (N:=some 18) (v:=?_) (a':=?_) #[true,false,true,true,false,false,false,false,false,false,false] rfl rfl (any_of HT_.out (by kernel_rfl)) (fun _ _ _ h => h) (Or.inl ⟨by rfl,?_⟩) ?_ ?_;rotate_left
      ·
       intro w'
       go_simp
       with_reducible rfl
      rotate_left
      ·
       simp only [Act.put,zi,zj,zk,zG,zH]
       rfl
      refine pure_ (i:=4) (N:=some 19) (v:=?_) (a':=?_) #[true,false,true,true,true,false,false,false,false,false,false] rfl rfl (any_of HT_.out (by kernel_rfl)) (fun _ _ _ h => h) (Or.inl ⟨by rfl,?_⟩) ?_ ?_;rotate_left
      ·
       intro w'
       go_simp
       with_reducible rfl
      rotate_left
      ·
       simp only [Act.put,zi,zj,zk,zG,zH]
       rfl
      refine take_ (i:=1) (N:=some 16) (v:=?_) (a':=?_) (bm_ 5 11) rfl rfl (yo HT_.out HW_.out (by kernel_rfl)) (fun _ _ _ h => h) (Or.inl ⟨by rfl,?_⟩) hHeld ?_ ?_;rotate_left
      ·
       rintro w' ⟨s0,s1,s2,s3,s4⟩
       go_simp
       with_reducible rfl
      rotate_left
      ·
       simp only [Act.put,zi,zj,zk,zG,zH]
       rfl
      refine take_ (i:=5) (N:=some 20) (v:=?_) (a':=?_) (bm_ 6 11) rfl rfl (yo HT_.out HW_.out (by kernel_rfl)) (fun _ _ _ h => h) (Or.inl ⟨by rfl,?_⟩) hHeld ?_ ?_;rotate_left
      ·
       rintro w' ⟨s0,s1,s2,s3,s4⟩
       go_simp
       with_reducible rfl
      rotate_left
      ·
       simp only [Act.put,zi,zj,zk,zG,zH]
       rfl
      refine one_ (i:=6) (N:=some 21) (bm_ 7 11) rfl rfl (one_of HT_.out (by kernel_rfl)) (by decide) (fun K hK => ?_);refine goes_ Tryz.func21 (by kernel_rfl) rfl #[.string (rdOf ByteArray.empty l0 x4_1)] (by rfl) rfl rfl (by (try simp only [zt,zu,zv]);first|done|rfl|(simp only [zw,zx];rfl)|(simp only [yr,ys,zV,zW];rfl)) ?_
      with_reducible refine (F0l.calls  (rdOf ByteArray.empty l0 x4_1) t340 t341 t344 _ A17.out).mono ?_
      rintro e w20 ⟨v342,v345,rfl,ho0,ho1,hb⟩;refine ⟨_,rfl,?_⟩;replace HO_339000:=zh (zM (Kd.R_told (Kd.R_told (Kd.R_old (by (with_reducible repeat (first|apply zm|apply zn|apply zo));exact HO_339000.out) hb) (Kd.S_base ho0)) (Kd.S_base ho1)) (fun _ h_ => h_.1));replace HO_339001:=zh (yg (by (with_reducible repeat (first|apply zm|apply zn|apply zo));exact HO_339001.out) hb);replace HO_339002:=zh (yg (by (with_reducible repeat (first|apply zm|apply zn|apply zo));exact HO_339002.out) hb);have HO343:=zh (Kd.S_lower ho0 (zB (by repeat (with_reducible first|exact HB.out|apply za|apply zb|apply zc|refine zd ?_ GE328.out|refine zd ?_ GE338.out))));have HO346:=zh (Kd.S_lower ho1 (zB (by repeat (with_reducible first|exact HB.out|apply za|apply zb|apply zc|refine zd ?_ GE328.out|refine zd ?_ GE338.out))));replace BK328:=zh (cD BK328.out (by (with_reducible repeat first|apply ze|apply zf|apply zg);exact BK328.out) hb);replace BK338:=zh (cD BK338.out (by (with_reducible repeat first|apply ze|apply zf|apply zg);exact BK338.out) hb);replace HB:=zh (zC (by repeat (with_reducible first|exact HB.out|apply za|apply zb|apply zc|refine zd ?_ GE328.out|refine zd ?_ GE338.out)) hb);(try clear hb);(try clear hb2);(try clear hk);(try clear hi);(try clear ho0);(try clear ho1);obtain ⟨Ao22,co22,eo22⟩:=Kd.S_slice HO343.out;(first|subst eo22|(injection eo22 with f1_ f2_ f3_;have f4_:=f1_.symm;have f5_:=f3_.symm;clear f1_ f2_ f3_;subst f4_;subst f5_));obtain ⟨Ao23,co23,eo23⟩:=Kd.S_slice HO346.out;(first|subst eo23|(injection eo23 with f1_ f2_ f3_;have f4_:=f1_.symm;have f5_:=f3_.symm;clear f1_ f2_ f3_;subst f4_;subst f5_));refine hK.out _ _ ⟨(zz BK338.out 0).trans rfl,(zz BK338.out 1).trans rfl,(zz BK338.out 2).trans rfl,(zz BK338.out 3).trans rfl,((HB.out.cell (zl w _ hw339_0)).trans hw339_0)⟩ (fun hHeld => ?_);clear hK K;refine norm_ (a':=?_) ?_ ?_;rotate_left
      ·
       show Act.put _ (some 21) _=_
       simp only [Act.put,zi,zj,zk,zG,zH]
       rfl
      refine one_ (i:=7) (N:=some 22) (bm_ 8 11) rfl rfl (one_of HT_.out (by kernel_rfl)) (by decide) (fun K hK => ?_);refine value_ (w1:=?_) (v:=?_) (by rfl) rfl ?_ ?_;rotate_left 2
      ·
       go_simp
       constructor
       ·
        rfl
       rfl
      refine hK.out _ _ ⟨(zz (zg BK338.out _) 0).trans rfl,(zz (zg BK338.out _) 1).trans rfl,(zz (zg BK338.out _) 2).trans rfl,(zz (zg BK338.out _) 3).trans rfl,(World.cell?_alloc_lt _ _ _ (zl _ _ (((HB.out.cell (zl w _ hw339_0)).trans hw339_0)))).trans (((HB.out.cell (zl w _ hw339_0)).trans hw339_0))⟩ (fun hHeld => ?_);clear hK K;refine norm_ (a':=?_) ?_ ?_;rotate_left
      ·
       show Act.put _ (some 22) _=_
       simp only [Act.put,zi,zj,zk,zG,zH]
       rfl
      refine one_ (i:=8) (N:=some 23) (bm_ 9 11) rfl rfl (one_of HT_.out (by kernel_rfl)) (by decide) (fun K hK => ?_);refine Kd.R_append_step k54 (w0:=w) w.heap.size (by rfl) (.tmp 16) (.tmp 22) 22 54 (.agg #[(.string ⟨#[]⟩),(.slice none 0 0),(.slice none 0 0)]) 64 rfl Tryz.underlying22 info54 rfl (by decide) (by omega) u339000 x339000_1 (⟨t340,t341,t344⟩ : S54) [.string t340,.slice Ao22 t341.length co22,.slice Ao23 t344.length co23] (fun _ => True) (fun k_ => ((fun _ => True)) k_∧some k_≠(u339000 : Value).ownBlock) rfl rfl ?aP (fun _ hk => hk) ?aF ?aO ?aB ?aS ?aL ?_;(case aP => exact k54_mkM _ _ _ (⟨t340,t341,t344⟩ : S54) (zM (Kd.R_apart' ((Kd.S_R HO343.out)) (Kd.R_typed HO_339000.out) (by decide)) (fun k_ hk => ⟨trivial,hk.2⟩)) (zM (Kd.R_apart' ((Kd.S_R HO346.out)) (Kd.R_typed HO_339000.out) (by decide)) (fun k_ hk => ⟨trivial,hk.2⟩)))
      (case aB => exact (by repeat (with_reducible first|exact HB.out|apply za|apply zb|apply zc|refine zd ?_ GE328.out|refine zd ?_ GE338.out)))
      (case aF => exact (fun _ _ => trivial))
      (case aO => exact (by (with_reducible repeat (first|apply zm|apply zn|apply zo));exact zM HO_339000.out (fun _ hk => trivial)))
      (case aS => exact (zB (by repeat (with_reducible first|exact HB.out|apply za|apply zb|apply zc|refine zd ?_ GE328.out|refine zd ?_ GE338.out))))
      (case aL => have:=LMc18.out;omega)
      intro v348 w21 ho hb hg hat;rw [← Ny347.out] at ho;replace HO_339001:=zh (Kd.R_over' (by (with_reducible repeat (first|apply zm|apply zn|apply zo));exact HO_339001.out) (Kd.R_typed (by (with_reducible repeat (first|apply zm|apply zn|apply zo));exact HO_339000.out)) (by decide) hg);replace HO_339002:=zh (Kd.R_over' (by (with_reducible repeat (first|apply zm|apply zn|apply zo));exact HO_339002.out) (Kd.R_typed (by (with_reducible repeat (first|apply zm|apply zn|apply zo));exact HO_339000.out)) (by decide) hg);replace BK328:=zh (yw (g:=gb328) (o:=.cells #[.slice none 0 0,.slice none 0 0,.slice none 0 0,.int .i64 0] 26 (0,0)) (by (with_reducible repeat first|apply ze|apply zf|apply zg);exact BK328.out) hg (Kd.R_ne HO_339000.out BK328.out (by decide)));replace BK338:=zh (yw (g:=gb338) (o:=.cells #[u339000,.slice Ao10 y332.length co10,.slice Ao9 y335.length co9,.int .i64 0] 26 (0,0)) (by (with_reducible repeat first|apply ze|apply zf|apply zg);exact BK338.out) hg (Kd.R_ne HO_339000.out BK338.out (by decide)));replace HB:=zh (hb);have HO349:=zh (ho);clear HO_339000 HO343 HO346 ho hb hg hat;obtain ⟨Ao24,co24,eo24⟩:=yk HO349.out;(first|subst eo24|(injection eo24 with f1_ f2_ f3_;have f4_:=f1_.symm;have f5_:=f3_.symm;clear f1_ f2_ f3_;subst f4_;subst f5_));refine hK.out _ _ ⟨(zz BK338.out 0).trans rfl,(zz BK338.out 1).trans rfl,(zz BK338.out 2).trans rfl,(zz BK338.out 3).trans rfl,((HB.out.cell (zl w _ hw339_0)).trans hw339_0)⟩ (fun hHeld => ?_);clear hK K;refine norm_ (a':=?_) ?_ ?_;rotate_left
      ·
       show Act.put _ (some 23) _=_
       simp only [Act.put,zi,zj,zk,zG,zH]
       rfl
      refine pure_ (i:=9) (N:=some 24) (v:=?_) (a':=?_) (bm_ 10 11) rfl rfl (any_of HT_.out (by kernel_rfl)) (fun _ _ _ h => h) (Or.inl ⟨by rfl,?_⟩) ?_ ?_;rotate_left
      ·
       intro w'
       go_simp
       with_reducible rfl
      rotate_left
      ·
       simp only [Act.put,zi,zj,zk,zG,zH]
       rfl
      refine last_ (i:=10) (N:=none) (bm_ 11 11) rfl rfl (one_of HT_.out (by kernel_rfl)) (by decide) (fun K hK => ?_);have hs25 : w21.cell? ⟨gb338,0,none⟩=some (u339000):=(zz BK338.out 0).trans rfl;have hfs25:=zA BK338.out 0;have hns25_0:=NB328_338.out;have hms25_0:=NB338_328.out;refine skip_ (w1:=?_) (by rfl) rfl ?_ ?_;rotate_left
      ·
       go_simp
       rfl
      refine hK.out _ _ ?_;clear hK K;refine done_ (done_of HT_.out (by kernel_rfl)) ?_
      try go_wp2
      go_roundg k1
      case measure => have:=HK1.out;omega
      case rel => exact ⟨(wrap64 (x4_1 + 1)),(y347),(.slice Ao24 y347.length co24),(by first|rfl|(simp;done)|(simp [*];done)),H',⟨by have:=HK1.out;omega⟩,⟨by (with_reducible repeat (first|apply zm|apply zn|apply zo));exact zM (zE (p:=⟨gb338,0,none⟩) (yf HO349.out BK338.out (by decide)) (fun _ hk => hk.2) (.slice Ao24 y347.length co24)) (fun _ hk => trivial)⟩,⟨by (with_reducible repeat (first|apply zm|apply zn|apply zo));exact zM (zE (p:=⟨gb338,0,none⟩) (yf HO_339001.out BK338.out (by decide)) (fun _ hk => hk.2) (.slice Ao24 y347.length co24)) (fun _ hk => trivial)⟩,⟨by (with_reducible repeat (first|apply zm|apply zn|apply zo));exact zM (zE (p:=⟨gb338,0,none⟩) (yf HO_339002.out BK338.out (by decide)) (fun _ hk => hk.2) (.slice Ao24 y347.length co24)) (fun _ hk => trivial)⟩,⟨by (with_reducible repeat first|apply ze|apply zf|apply zg);refine zS ?_ NB328_338.out _;(with_reducible repeat first|apply ze|apply zf|apply zg);exact BK328.out⟩,⟨by (with_reducible repeat first|apply ze|apply zf|apply zg);refine zL (cs:=#[u339000,.slice Ao10 y332.length co10,.slice Ao9 y335.length co9,.int .i64 0]) ?_ 0 _ rfl;(with_reducible repeat first|apply ze|apply zf|apply zg);exact BK338.out⟩,⟨by repeat (with_reducible first|exact HB.out|apply za|apply zb|apply zc|refine zd ?_ GE328.out|refine zd ?_ GE338.out)⟩⟩
     rw [if_neg c18] at H;exact absurd H (by simp)
    rw [if_neg c16] at H;exact absurd H (by simp)
   rw [if_neg c15] at H;have c15b0 : decide (x4_1<(l0.length : Int))=false:=decide_eq_false c15;clear c15;simp only [Option.some.injEq,Prod.mk.injEq] at H;obtain ⟨rfl,rfl,rfl,rfl⟩:=H;have hnb26:=NB338_328.out;have hnc26:=NB328_338.out;obtain ⟨hcz27_0,hcz27_1,hcz27_2,hcz27_3,hfz27_0,hfz27_1,hfz27_2,hfz27_3⟩:=cB4 BK338.out;obtain ⟨Ao28,co28,eo28⟩:=yk HO_339000.out;subst eo28;obtain ⟨hcz29_0,hcz29_1,hcz29_2,hcz29_3,hfz29_0,hfz29_1,hfz29_2,hfz29_3⟩:=cB4 BK328.out
   go_wp2
   refine bodyPost_ret (results_cell_row rfl _ _ gb328 26 #[.slice Ao28 x339000_1.length co28,.slice Ao10 y332.length co10,.slice Ao9 y335.length co9,.int .i64 0] (0,0) _ rfl (by (with_reducible repeat first|apply ze|apply zf|apply zg);refine zL (cs:=#[.slice Ao28 x339000_1.length co28,.slice Ao10 y332.length co10,.slice Ao9 y335.length co9,.int .i64 0]) ?_ 3 _ rfl;(with_reducible repeat first|apply ze|apply zf|apply zg);refine zL (cs:=#[.slice Ao28 x339000_1.length co28,.slice Ao10 y332.length co10,.slice none 0 0,.int .i64 0]) ?_ 2 _ rfl;(with_reducible repeat first|apply ze|apply zf|apply zg);refine zL (cs:=#[.slice Ao28 x339000_1.length co28,.slice none 0 0,.slice none 0 0,.int .i64 0]) ?_ 1 _ rfl;(with_reducible repeat first|apply ze|apply zf|apply zg);refine zL (cs:=#[.slice none 0 0,.slice none 0 0,.slice none 0 0,.int .i64 0]) ?_ 0 _ rfl;(with_reducible repeat first|apply ze|apply zf|apply zg);exact BK328.out) Tryz.underlying26 rfl (by kernel_rfl)) rfl ?_;exact ⟨_,_,_,by first|rfl|(simp [yt,yu] <;> rfl)|(simp [*,yt,yu] <;> rfl),by (with_reducible repeat (first|apply zm|apply zn|apply zo));exact zM (zE (p:=⟨gb328,3,none⟩) (zE (p:=⟨gb328,2,none⟩) (zE (p:=⟨gb328,1,none⟩) (zE (p:=⟨gb328,0,none⟩) (yf HO_339000.out BK328.out (by decide)) (fun _ hk => hk.2) (.slice Ao28 x339000_1.length co28)) (fun _ hk => hk.2) (.slice Ao10 y332.length co10)) (fun _ hk => hk.2) (.slice Ao9 y335.length co9)) (fun _ hk => hk.2) (.int .i64 0)) (fun _ hk => trivial),by (with_reducible repeat (first|apply zm|apply zn|apply zo));exact zM (zE (p:=⟨gb328,3,none⟩) (zE (p:=⟨gb328,2,none⟩) (zE (p:=⟨gb328,1,none⟩) (zE (p:=⟨gb328,0,none⟩) (yf HO_339001.out BK328.out (by decide)) (fun _ hk => hk.2) (.slice Ao28 x339000_1.length co28)) (fun _ hk => hk.2) (.slice Ao10 y332.length co10)) (fun _ hk => hk.2) (.slice Ao9 y335.length co9)) (fun _ hk => hk.2) (.int .i64 0)) (fun _ hk => trivial),by (with_reducible repeat (first|apply zm|apply zn|apply zo));exact zM (zE (p:=⟨gb328,3,none⟩) (zE (p:=⟨gb328,2,none⟩) (zE (p:=⟨gb328,1,none⟩) (zE (p:=⟨gb328,0,none⟩) (yf HO_339002.out BK328.out (by decide)) (fun _ hk => hk.2) (.slice Ao28 x339000_1.length co28)) (fun _ hk => hk.2) (.slice Ao10 y332.length co10)) (fun _ hk => hk.2) (.slice Ao9 y335.length co9)) (fun _ hk => hk.2) (.int .i64 0)) (fun _ hk => trivial),by repeat (with_reducible first|exact HB.out|apply za|apply zb|apply zc|refine zd ?_ GE328.out|refine zd ?_ GE338.out)⟩


def F0k.f  : Option (List ByteArray):=some (([(⟨#[100,111,99,115]⟩ : ByteArray),(⟨#[109,111,114,101]⟩ : ByteArray)] : List ByteArray))
set_option maxHeartbeats 8000000 in
set_option maxRecDepth 100000 in
theorem F0k.calls  (r : List ByteArray) (w : World) (h : F0k.f  = some r) :
  Calls Tryz.prog 11 #[] w fun e w' => ∃ v0_ : Value,e = .returned (v0_)∧Kd.R Kd.string 9 w' w.heap.size (fun _ => True) v0_ r∧Below w.heap.size w w':=by
 have HB:=zh (Below.refl w.heap.size w);have H : (some (([(⟨#[100,111,99,115]⟩ : ByteArray),(⟨#[109,111,114,101]⟩ : ByteArray)] : List ByteArray)))=some r:=h;clear h;obtain ⟨y350,hy350⟩ : ∃ y_ : List ByteArray,y_=(([(⟨#[100,111,99,115]⟩ : ByteArray),(⟨#[109,111,114,101]⟩ : ByteArray)] : List ByteArray)):=⟨_,rfl⟩;replace H : (some y350)=some r:=by first|(rw [hy350];with_reducible exact H)|(have H2_:=(Option.bind_some _ _).symm.trans H;rw [hy350];with_reducible exact H2_)|(have H2_:=(Option.bind_some _ _).symm.trans H;with_reducible exact H2_)|with_reducible exact H|(rw [hy350];exact H)|exact H
 have Ny350:=zh hy350;clear hy350;obtain rfl:=zU H
 go_enter Tryz.func11,Tryz.ntmps11
 go_wp2_with (first|((with_reducible refine zK (N:=1) rfl ?_);refine Kd.R_lit Kd.string _ 9 ?hg (N:=1) ?hd (xs:=([(⟨#[100,111,99,115]⟩ : ByteArray),(⟨#[109,111,114,101]⟩ : ByteArray)] : List ByteArray)) (inner:=[.string (⟨#[100,111,99,115]⟩ : ByteArray),.string (⟨#[109,111,114,101]⟩ : ByteArray)]) (ok:=fun _ => True) (okp:=fun _ => True) ?hr ?hp (fun _ hk => hk) trivial (Below.refl _ _) (ye _) (by simp) ?_;(case hd|hg => rfl);(case hr => go_simp <;> rfl);(case hp => exact (Reps.one (show Kd.M Kd.string _ _ _ (⟨#[100,111,99,115]⟩ : ByteArray) [.string (⟨#[100,111,99,115]⟩ : ByteArray)] from rfl) (Reps.one (show Kd.M Kd.string _ _ _ (⟨#[109,111,114,101]⟩ : ByteArray) [.string (⟨#[109,111,114,101]⟩ : ByteArray)] from rfl) (Reps.none _ _))));intro v351 w1 ho2 hb hg_ hnew_;clear hg_ hnew_;(first|rw [← Ny350.out] at ho2|(simp only [Int.reduceToNat] at ho2;rw [← Ny350.out] at ho2));have HO352:=zh (yy ho2 (zB (by repeat (with_reducible first|exact HB.out|apply za|apply zb|apply zc))));replace HB:=zh (zC (by repeat (with_reducible first|exact HB.out|apply za|apply zb|apply zc)) hb);clear hb ho2))
 go_ret
 exact ⟨_,by first|rfl|(simp [yt,yu] <;> rfl)|(simp [*,yt,yu] <;> rfl),by (with_reducible repeat (first|apply zm|apply zn|apply zo));exact HO352.out,by repeat (with_reducible first|exact HB.out|apply za|apply zb|apply zc)⟩

end Go.Proofs.YtceggklknggfdaaGreat.Q
end
section
namespace Go.Proofs.YtceggklknggfdaaGreat.Q
open Go.RowKit Go.Proofs.YtceggklknggfdaaGreatW.PrintWords Go.Proofs.YtceggklknggfdaaGreatW.PrintLast Go.Proofs.YtceggklknggfdaaGreatW.PrintMore
attribute [local go_sem] max2_int min2_int max_two min_two max_three min_three max_four min_four max2_str min2_str str_geq str_gtr str_leq   -- for this text's walks alone
set_option linter.unusedVariables false
set_option linter.unusedSimpArgs false

mutual
def F1.l0 : Nat→List (S116)→Int→ByteArray→List (S116)→List (S84)→Option (ByteArray×(List (S116))×(List (S84)))
 | 0,_,_,_,_,_ => none
 | k + 1,x3,x4,x102000,x102001,x102002 => if x4<(x102001.length : Int) then (if 0≤x4 then ((some (([] : List (S143)) : List (S143))).bind fun y107 => (if y107.length + ((rd_T116 x102001 x4).f1).length<2932031007402 then (if x3.length<4398046511104 then (F1.l0 k (x3 ++ [(⟨(rd_T116 x102001 x4).f0,(y107 ++ ((rd_T116 x102001 x4).f1))⟩ : S116)]) (wrap64 (x4 + 1)) x102000 x102001 x102002) else (none)) else (none))) else (none)) else (F1.l1 k x3 (([] : List (S84))) 0 x102000 x102001 x102002)
def F1.l1 : Nat→List (S116)→List (S84)→Int→ByteArray→List (S116)→List (S84)→Option (ByteArray×(List (S116))×(List (S84)))
 | 0,_,_,_,_,_,_ => none
 | k + 1,x3,x5,x6,x102000,x102001,x102002 => if x6<(x102002.length : Int) then (if 0≤x6 then ((some (([] : List (S131)) : List (S131))).bind fun y121 => (if y121.length + ((rd_T84 x102002 x6).f1).length<5864062014805 then (if x5.length<3518437208883 then (F1.l1 k x3 (x5 ++ [(⟨(rd_T84 x102002 x6).f0,(y121 ++ ((rd_T84 x102002 x6).f1))⟩ : S84)]) (wrap64 (x6 + 1)) x102000 x102001 x102002) else (none)) else (none))) else (none)) else (some (x102000,x3,x5))
end
def F1.f (k : Nat) (a0_0 : ByteArray) (l0_1 : List (S116)) (l0_2 : List (S84)) : Option (ByteArray×(List (S116))×(List (S84))):=F1.l0 k (([] : List (S116))) 0 a0_0 l0_1 l0_2
theorem F1.mono_l : ∀ k,(∀ y0 y1 y2 y3 y4,LeO (F1.l0 k y0 y1 y2 y3 y4) (F1.l0 (k + 1) y0 y1 y2 y3 y4))∧(∀ y0 y1 y2 y3 y4 y5,LeO (F1.l1 k y0 y1 y2 y3 y4 y5) (F1.l1 (k + 1) y0 y1 y2 y3 y4 y5))
 | 0 => ⟨fun _ _ _ _ _ r h => by simp [F1.l0] at h,fun _ _ _ _ _ _ r h => by simp [F1.l1] at h⟩
 | k + 1 => by
  obtain ⟨ih0,ih1⟩:=F1.mono_l k;refine ⟨?_,?_⟩
  ·
   intro y0 y1 y2 y3 y4
   unfold F1.l0
   repeat' first|(with_reducible first|exact ih0 _ _ _ _ _|exact ih1 _ _ _ _ _ _|exact zQ _|exact zN _|refine zP ?_ ?_|refine zO ?_ (fun _ => ?_))|refine zP ?_ ?_|refine zO ?_ (fun _ => ?_)
  intro y0 y1 y2 y3 y4 y5;unfold F1.l1
  repeat' first|(with_reducible first|exact ih0 _ _ _ _ _|exact ih1 _ _ _ _ _ _|exact zQ _|exact zN _|refine zP ?_ ?_|refine zO ?_ (fun _ => ?_))|refine zP ?_ ?_|refine zO ?_ (fun _ => ?_)
theorem F1.mono : ∀ a0 a1 a2 k,LeO (F1.f k a0 a1 a2) (F1.f (k + 1) a0 a1 a2):=by
 intro a0 a1 a2 k;obtain ⟨ih0,ih1⟩:=F1.mono_l k;unfold F1.f
 repeat' first|(with_reducible first|exact ih0 _ _ _ _ _|exact ih1 _ _ _ _ _ _|exact zQ _|exact zN _|refine zP ?_ ?_|refine zO ?_ (fun _ => ?_))|refine zP ?_ ?_|refine zO ?_ (fun _ => ?_)
def F1.T5 : Bool×List (List Nat×List Nat):=(true,[([],[]),([],[]),([1],[1]),([],[]),([2,3],[2,3]),([4],[4]),([5],[5]),([],[]),([],[]),([8],[8]),([],[]),([9,10],[9,10]),([11],[11]),([12],[12]),([7,13],[7,13]),([6,14],[6,14]),([15],[15]),([0,16,14],[0,16]),([17,17,0,1,2,3,4,5,6,7,8,9,10,11,12,13,14,15,16,17],[0,17])])
def F1.B5 : List Nat:=[0,0,2,0,14,30,62,0,0,256,0,1792,3840,7936,16256,32766,65534,131071,262143]
theorem F1.tab5 : rtab .any (opsOf Tryz.f40 5)=F1.T5:=by kernel_rfl
theorem F1.bits5 : waitsOk F1.T5.2 F1.B5=true:=by kernel_rfl
def F1.T10 : Bool×List (List Nat×List Nat):=(true,[([],[]),([],[]),([1],[1]),([],[]),([2,3],[2,3]),([4],[4]),([5],[5]),([],[]),([],[]),([8],[8]),([],[]),([9,10],[9,10]),([11],[11]),([12],[12]),([7,13],[7,13]),([6,14],[6,14]),([15],[15]),([0,16,14],[0,16]),([17,17,0,1,2,3,4,5,6,7,8,9,10,11,12,13,14,15,16,17],[0,17])])
def F1.B10 : List Nat:=[0,0,2,0,14,30,62,0,0,256,0,1792,3840,7936,16256,32766,65534,131071,262143]
theorem F1.tab10 : rtab .any (opsOf Tryz.f40 10)=F1.T10:=by kernel_rfl
theorem F1.bits10 : waitsOk F1.T10.2 F1.B10=true:=by kernel_rfl
set_option maxHeartbeats 8000000 in
set_option maxRecDepth 100000 in
theorem F1.calls (k : Nat) (a0_0 : ByteArray) (A0_1 : Option Addr) (c0_1 : Nat) (l0_1 : List (S116)) (A0_2 : Option Addr) (c0_2 : Nat) (l0_2 : List (S84)) (r1 : ByteArray) (r2 : List (S116)) (r3 : List (S84)) (w : World) (hr0_1 : Kd.C k116 w A0_1 l0_1.length l0_1) (hc0_1 : l0_1.length≤c0_1) (hr0_2 : Kd.C k84 w A0_2 l0_2.length l0_2) (hc0_2 : l0_2.length≤c0_2) (h : F1.f k a0_0 l0_1 l0_2=some (r1,r2,r3)) :
  Calls Tryz.prog 40 #[.agg #[.string a0_0,.slice A0_1 l0_1.length c0_1,.slice A0_2 l0_2.length c0_2]] w fun e w' => ∃ v1_ v2_ : Value,e = .returned (.agg #[.string r1,v1_,v2_])∧Kd.S k116 116 w' w.heap.size (fun _ => True) v1_ r2∧Kd.S k84 84 w' w.heap.size (fun _ => True) v2_ r3∧Below w.heap.size w w':=by
 have hu54:=Tryz.underlying54;have hu116:=Tryz.underlying116;have hu84:=Tryz.underlying84;have HR0_1:=zh hr0_1;have HC0_1:=zh hc0_1;clear hr0_1 hc0_1;have HR0_2:=zh hr0_2;have HC0_2:=zh hc0_2;clear hr0_2 hc0_2;have HB:=zh (Below.refl w.heap.size w);have H : (F1.l0 k (([] : List (S116))) 0 a0_0 l0_1 l0_2)=some (r1,r2,r3):=h;clear h;obtain ⟨y103,hy103⟩ : ∃ y_ : List (S116),y_=(([] : List (S116))):=⟨_,rfl⟩;replace H : (F1.l0 k y103 0 a0_0 l0_1 l0_2)=some (r1,r2,r3):=by first|(rw [hy103];with_reducible exact H)|(have H2_:=(Option.bind_some _ _).symm.trans H;rw [hy103];with_reducible exact H2_)|(have H2_:=(Option.bind_some _ _).symm.trans H;with_reducible exact H2_)|with_reducible exact H|(rw [hy103];exact H)|exact H
 have Ny103:=zh hy103;clear hy103;have H':=zh H;clear H
 go_enter Tryz.func40,Tryz.ntmps40
 go_wp2_with (first|((with_reducible refine zK (N:=1) rfl ?_);refine zI ?hg (N:=1) ?hd (cs:=#[.string a0_0,.slice A0_1 l0_1.length c0_1,.slice A0_2 l0_2.length c0_2]) (t:=54) ?hr ?_;(case hd|hg => rfl);(case hr => go_simp <;> rfl);intro gb101 hg w2 hbox hb;have BK101:=zh (hbox);have hH_:=cH (by repeat (with_reducible first|exact HB.out|apply za|apply zb|apply zc)) hb hg;have GW101:=zh hH_.1;have GE101:=GW101;replace HB:=zh hH_.2;clear hb hbox hg hH_)|((with_reducible refine zK (N:=2) rfl ?_);refine zI ?hg (N:=2) ?hd (cs:=#[.string (⟨#[]⟩ : ByteArray),.slice none 0 0,.slice none 0 0]) (t:=54) ?hr ?_;(case hd|hg => rfl);(case hr => go_simp <;> rfl);intro gb102 hg w3 hbox hb;have BK102:=zh (hbox);have hH_:=cH (by repeat (with_reducible first|exact HB.out|apply za|apply zb|apply zc|refine zd ?_ GE101.out)) hb hg;have GW102:=zh hH_.1;have GE102:=GW102;replace HB:=zh hH_.2;have NB101_102:=zh ((by rw [hg];exact yc (yi (g:=gb101) (o:=.cells #[.string a0_0,.slice A0_1 l0_1.length c0_1,.slice A0_2 l0_2.length c0_2] 54 (0,0)) (by (with_reducible repeat first|apply ze|apply zf|apply zg);exact BK101.out)) : gb101≠gb102));have NB102_101:=zh NB101_102.out.symm;replace BK101:=zh (cD BK101.out (by (with_reducible repeat first|apply ze|apply zf|apply zg);exact BK101.out) hb);clear hb hbox hg hH_)|((with_reducible refine zK (N:=7) rfl ?_);refine Kd.S_lit k116 _ 116 ?hg (N:=7) ?hd (xs:=([] : List (S116))) (inner:=[]) (ok:=fun _ => True) (okp:=fun _ => True) ?hr ?hp (fun _ hk => hk) trivial (Below.refl _ _) (ye _) (by simp) ?_;(case hd|hg => rfl);(case hr => go_simp <;> rfl);(case hp => exact (Reps.none _ _));intro v104 w4 ho5 hb hg_ hnew_;clear hg_ hnew_;(first|rw [← Ny103.out] at ho5|(simp only [Int.reduceToNat] at ho5;rw [← Ny103.out] at ho5));have HO105:=zh (Kd.S_lower ho5 (zB (by repeat (with_reducible first|exact HB.out|apply za|apply zb|apply zc|refine zd ?_ GE101.out|refine zd ?_ GE102.out))));replace BK101:=zh (cD BK101.out (by (with_reducible repeat first|apply ze|apply zf|apply zg);exact BK101.out) hb);replace BK102:=zh (cD BK102.out (by (with_reducible repeat first|apply ze|apply zf|apply zg);exact BK102.out) hb);replace HB:=zh (zC (by repeat (with_reducible first|exact HB.out|apply za|apply zb|apply zc|refine zd ?_ GE101.out|refine zd ?_ GE102.out)) hb);clear hb ho5))
 go_loopg [3,4] k (fun kq v3 v4 w' => ∃ (x3_1 : List (S116)) (x4_1 : Int),v4 = .int .i64 x4_1∧Aside0 (F1.l0 kq x3_1 x4_1 a0_0 l0_1 l0_2=some (r1,r2,r3))∧Aside0 (kq≤k)∧Aside0 (Kd.S k116 116 w' w.heap.size (fun _ => True) v3 x3_1)∧Aside0 (w'.heap[gb101]? = some (.cells #[.string a0_0,(.slice A0_1 l0_1.length c0_1),(.slice A0_2 l0_2.length c0_2)] 54 (0,0)))∧Aside0 (w'.heap[gb102]? = some (.cells #[.string (⟨#[]⟩ : ByteArray),(.slice none 0 0),(.slice none 0 0)] 54 (0,0)))∧Aside0 (Below w.heap.size w w'))
 case atStart => exact ⟨(y103),(0),(by first|rfl|(simp;done)|(simp [*];done)),H',⟨ye _⟩,⟨by (with_reducible repeat (first|apply Kd.S_alloc|apply Kd.S_drewN|apply Kd.S_drew));exact HO105.out⟩,⟨by (with_reducible repeat first|apply ze|apply zf|apply zg);exact BK101.out⟩,⟨by (with_reducible repeat first|apply ze|apply zf|apply zg);exact BK102.out⟩,⟨by repeat (with_reducible first|exact HB.out|apply za|apply zb|apply zc|refine zd ?_ GE101.out|refine zd ?_ GE102.out)⟩⟩
 case round =>
  clear H'
  try clear p2
  try clear c4
  obtain ⟨x3_1,x4_1,rfl,HA,HK1,HO_3,BK101,BK102,HB⟩:=hrel
  cases gk with
  | zero => exact absurd HA.out (by simp [F1.l0])
  | succ k1 =>
   have H:=HA.out;clear HA;simp only [F1.l0] at H
   by_cases c6 : x4_1<(l0_1.length : Int)
   ·
    rw [if_pos c6] at H
    have c6b0 : decide (x4_1<(l0_1.length : Int))=true:=decide_eq_true c6;clear c6
    by_cases c7 : 0≤x4_1
    ·
     rw [if_pos c7] at H
     have c7b0 : decide (0≤x4_1)=true:=decide_eq_true c7;clear c7;obtain ⟨y107,hy107⟩ : ∃ y_ : List (S143),y_=(([] : List (S143))):=⟨_,rfl⟩;replace H : (if y107.length + ((rd_T116 l0_1 x4_1).f1).length<2932031007402 then (if x3_1.length<4398046511104 then (F1.l0 k1 (x3_1 ++ [(⟨(rd_T116 l0_1 x4_1).f0,(y107 ++ ((rd_T116 l0_1 x4_1).f1))⟩ : S116)]) (wrap64 (x4_1 + 1)) a0_0 l0_1 l0_2) else (none)) else (none))=some (r1,r2,r3):=by first|(rw [hy107];with_reducible exact H)|(have H2_:=(Option.bind_some _ _).symm.trans H;rw [hy107];with_reducible exact H2_)|(have H2_:=(Option.bind_some _ _).symm.trans H;with_reducible exact H2_)|with_reducible exact H|(rw [hy107];exact H)|exact H
     have Ny107:=zh hy107;clear hy107
     by_cases c8 : y107.length + ((rd_T116 l0_1 x4_1).f1).length<2932031007402
     ·
      rw [if_pos c8] at H
      have LMc8:=zh c8;clear c8;obtain ⟨y111,hy111⟩ : ∃ y_ : List (S143),y_=(y107 ++ ((rd_T116 l0_1 x4_1).f1)):=⟨_,rfl⟩;replace H : (if x3_1.length<4398046511104 then (F1.l0 k1 (x3_1 ++ [(⟨(rd_T116 l0_1 x4_1).f0,y111⟩ : S116)]) (wrap64 (x4_1 + 1)) a0_0 l0_1 l0_2) else (none))=some (r1,r2,r3):=by first|(rw [hy111];with_reducible exact H)|(have H2_:=(Option.bind_some _ _).symm.trans H;rw [hy111];with_reducible exact H2_)|(have H2_:=(Option.bind_some _ _).symm.trans H;with_reducible exact H2_)|with_reducible exact H|(rw [hy111];exact H)|exact H
      have Ny111:=zh hy111;clear hy111
      by_cases c9 : x3_1.length<4398046511104
      ·
       rw [if_pos c9] at H
       have LMc9:=zh c9;clear c9;obtain ⟨y114,hy114⟩ : ∃ y_ : List (S116),y_=(x3_1 ++ [(⟨(rd_T116 l0_1 x4_1).f0,y111⟩ : S116)]):=⟨_,rfl⟩;replace H : (F1.l0 k1 y114 (wrap64 (x4_1 + 1)) a0_0 l0_1 l0_2)=some (r1,r2,r3):=by first|(rw [hy114];with_reducible exact H)|(have H2_:=(Option.bind_some _ _).symm.trans H;rw [hy114];with_reducible exact H2_)|(have H2_:=(Option.bind_some _ _).symm.trans H;with_reducible exact H2_)|with_reducible exact H|(rw [hy114];exact H)|exact H
       have Ny114:=zh hy114;clear hy114;have H':=zh H;clear H;have hnb10:=NB101_102.out;have hnc10:=NB102_101.out;obtain ⟨hcz11_0,hcz11_1,hcz11_2,hfz11_0,hfz11_1,hfz11_2⟩:=cB3 BK101.out
       try go_wp2
       replace HO_3:=zh (Kd.S_drew HO_3.out);replace BK101:=zh (zf BK101.out);replace BK102:=zh (zf BK102.out);replace HB:=zh (zc HB.out);have p106 : 0≤(x4_1 : Int):=zy (by first|(with_reducible assumption)|assumption);have q106 : x4_1<(l0_1.length : Int):=zy (by first|(with_reducible assumption)|assumption);obtain ⟨ad106,A106_1,c106_1,e106,hx106_0,hx106_1,hl106_1,hi106_1⟩:=at_T116 HR0_1.out x4_1 p106 q106;have hw106_1:=hx106_1;have hw106_0:=hx106_0
       cases e106
       replace hx106_0:=(HB.out.cell (zl w _ hx106_0)).trans hx106_0;replace hx106_1:=(HB.out.cell (zl w _ hx106_1)).trans hx106_1;have HR106_1:=zh hi106_1;have HC106_1:=zh hl106_1;clear hi106_1 hl106_1;replace p106:=eq_true p106;replace q106:=eq_true q106;have p110 : 0≤(x4_1 : Int):=zy (by first|(with_reducible assumption)|assumption);have q110 : x4_1<(l0_1.length : Int):=zy (by first|(with_reducible assumption)|assumption);obtain ⟨ad110,A110_1,c110_1,e110,hx110_0,hx110_1,hl110_1,hi110_1⟩:=at_T116 HR0_1.out x4_1 p110 q110;have hw110_1:=hx110_1;have hw110_0:=hx110_0;obtain rfl : ad106=ad110:=(by injection e110);replace hx110_0:=(HB.out.cell (zl w _ hx110_0)).trans hx110_0;replace hx110_1:=(HB.out.cell (zl w _ hx110_1)).trans hx110_1;have HR110_1:=zh hi110_1;have HC110_1:=zh hl110_1;clear hi110_1 hl110_1;replace p110:=eq_true p110;replace q110:=eq_true q110;have ea_:=zU (hx106_1.symm.trans hx110_1);injection ea_ with ea_ en_ ec_;subst ea_;subst ec_;clear en_;refine start_ (n:=19) (S:=fun w' => w'.cell? ⟨gb101,0,none⟩=some (.string a0_0)∧w'.cell? ⟨gb101,1,none⟩=some (.slice (some ad106) l0_1.length c0_1)∧w'.cell? ⟨gb101,2,none⟩=some (.slice A0_2 l0_2.length c0_2)∧w'.cell? (ad106.add ((x4_1).toNat * 2))=some (.int .i64 ((rd_T116 l0_1 x4_1).f0))∧w'.cell? ⟨(ad106.add ((x4_1).toNat * 2)).block,(ad106.add ((x4_1).toNat * 2)).off + 1,none⟩=some (.slice A106_1 ((rd_T116 l0_1 x4_1).f1).length c106_1)∧w'.cell? (ad106.add ((x4_1).toNat * 2))=some (.int .i64 ((rd_T116 l0_1 x4_1).f0))∧w'.cell? ⟨(ad106.add ((x4_1).toNat * 2)).block,(ad106.add ((x4_1).toNat * 2)).off + 1,none⟩=some (.slice A106_1 ((rd_T116 l0_1 x4_1).f1).length c106_1)) (ds:=[]) (bm_ 0 19) (by kernel_rfl) rfl rfl ⟨(zz BK101.out 0).trans rfl,(zz BK101.out 1).trans rfl,(zz BK101.out 2).trans rfl,((HB.out.cell (zl w _ hw106_0)).trans hw106_0),((HB.out.cell (zl w _ hw106_1)).trans hw106_1),((HB.out.cell (zl w _ hw110_0)).trans hw110_0),((HB.out.cell (zl w _ hw110_1)).trans hw110_1)⟩ (fun hHeld => ?_);refine with_tabW F1.tab5 F1.bits5 (fun HT_ HW_ => ?_);generalize wr.drew=w12 at HO_3 BK101 BK102 HB HR106_1 HR110_1 hx106_0 hx106_1 hx110_0 hx110_1 hHeld ⊢;refine pure_ (i:=0) (N:=some 15) (v:=?_) (a':=?_) (bm_ 1 19) rfl rfl (any_of HT_.out (by kernel_rfl)) (fun _ _ _ h => h) (Or.inl ⟨by rfl,?_⟩) ?_ ?_;rotate_left
       ·
        intro w'
        go_simp
        with_reducible rfl
       rotate_left
       ·
        simp only [Act.put,zi,zj,zk,zG,zH]
        rfl
       refine pure_ (i:=1) (N:=some 16) (v:=?_) (a':=?_) (bm_ 2 19) rfl rfl (any_of HT_.out (by kernel_rfl)) (fun _ _ _ h => h) (Or.inl ⟨by rfl,?_⟩) ?_ ?_;rotate_left
       ·
        intro w'
        go_simp
        with_reducible rfl
       rotate_left
       ·
        simp only [Act.put,zi,zj,zk,zG,zH]
        rfl
       refine pure_ (i:=3) (N:=some 18) (v:=?_) (a':=?_) #[true,true,false,true,false,false,false,false,false,false,false,false,false,false,false,false,false,false,false] rfl rfl (any_of HT_.out (by kernel_rfl)) (fun _ _ _ h => h) (Or.inl ⟨by rfl,?_⟩) ?_ ?_;rotate_left
       ·
        intro w'
        go_simp
        with_reducible rfl
       rotate_left
       ·
        simp only [Act.put,zi,zj,zk,zG,zH]
        rfl
       refine pure_ (i:=8) (N:=some 23) (v:=?_) (a':=?_) #[true,true,false,true,false,false,false,false,true,false,false,false,false,false,false,false,false,false,false] rfl rfl (any_of HT_.out (by kernel_rfl)) (fun _ _ _ h => h) (Or.inl ⟨by rfl,?_⟩) ?_ ?_;rotate_left
       ·
        intro w'
        go_simp
        with_reducible rfl
       rotate_left
       ·
        simp only [Act.put,zi,zj,zk,zG,zH]
        rfl
       refine pure_ (i:=10) (N:=some 25) (v:=?_) (a':=?_) #[true,true,false,true,false,false,false,false,true,false,true,false,false,false,false,false,false,false,false] rfl rfl (any_of HT_.out (by kernel_rfl)) (fun _ _ _ h => h) (Or.inl ⟨by rfl,?_⟩) ?_ ?_;rotate_left
       ·
        intro w'
        go_simp
        with_reducible rfl
       rotate_left
       ·
        simp only [Act.put,zi,zj,zk,zG,zH]
        rfl
       refine take_ (i:=2) (N:=some 17) (v:=?_) (a':=?_) #[true,true,true,true,false,false,false,false,true,false,true,false,false,false,false,false,false,false,false] rfl rfl (yo HT_.out HW_.out (by kernel_rfl)) (fun _ _ _ h => h) (Or.inl ⟨by rfl,?_⟩) hHeld ?_ ?_;rotate_left
       ·
        rintro w' ⟨s0,s1,s2,s3,s4,s5,s6⟩
        go_simp
        with_reducible rfl
       rotate_left
       ·
        simp only [Act.put,zi,zj,zk,zG,zH]
        rfl
       refine pure_ (i:=4) (N:=some 19) (v:=?_) (a':=?_) #[true,true,true,true,true,false,false,false,true,false,true,false,false,false,false,false,false,false,false] rfl rfl (any_of HT_.out (by kernel_rfl)) (fun _ _ _ h => h) (Or.inl ⟨by rfl,?_⟩) ?_ ?_;rotate_left
       ·
        intro w'
        go_simp
        with_reducible rfl
       rotate_left
       ·
        simp only [Act.put,zi,zj,zk,zG,zH]
        rfl
       refine pure_ (i:=5) (N:=some 20) (v:=?_) (a':=?_) #[true,true,true,true,true,true,false,false,true,false,true,false,false,false,false,false,false,false,false] rfl rfl (any_of HT_.out (by kernel_rfl)) (fun _ _ _ h => h) (Or.inl ⟨by rfl,?_⟩) ?_ ?_;rotate_left
       ·
        intro w'
        go_simp
        with_reducible rfl
       rotate_left
       ·
        simp only [Act.put,zi,zj,zk,zG,zH]
        rfl
       refine take_ (i:=6) (N:=some 21) (v:=?_) (a':=?_) #[true,true,true,true,true,true,true,false,true,false,true,false,false,false,false,false,false,false,false] rfl rfl (yo HT_.out HW_.out (by kernel_rfl)) (fun _ _ _ h => h) (Or.inl ⟨by rfl,?_⟩) hHeld ?_ ?_;rotate_left
       ·
        rintro w' ⟨s0,s1,s2,s3,s4,s5,s6⟩
        go_simp
        with_reducible rfl
       rotate_left
       ·
        simp only [Act.put,zi,zj,zk,zG,zH]
        rfl
       refine take_ (i:=9) (N:=some 24) (v:=?_) (a':=?_) #[true,true,true,true,true,true,true,false,true,true,true,false,false,false,false,false,false,false,false] rfl rfl (yo HT_.out HW_.out (by kernel_rfl)) (fun _ _ _ h => h) (Or.inl ⟨by rfl,?_⟩) hHeld ?_ ?_;rotate_left
       ·
        rintro w' ⟨s0,s1,s2,s3,s4,s5,s6⟩
        go_simp
        with_reducible rfl
       rotate_left
       ·
        simp only [Act.put,zi,zj,zk,zG,zH]
        rfl
       refine pure_ (i:=11) (N:=some 26) (v:=?_) (a':=?_) #[true,true,true,true,true,true,true,false,true,true,true,true,false,false,false,false,false,false,false] rfl rfl (any_of HT_.out (by kernel_rfl)) (fun _ _ _ h => h) (Or.inl ⟨by rfl,?_⟩) ?_ ?_;rotate_left
       ·
        intro w'
        go_simp
        with_reducible rfl
       rotate_left
       ·
        simp only [Act.put,zi,zj,zk,zG,zH]
        rfl
       refine pure_ (i:=12) (N:=some 27) (v:=?_) (a':=?_) #[true,true,true,true,true,true,true,false,true,true,true,true,true,false,false,false,false,false,false] rfl rfl (any_of HT_.out (by kernel_rfl)) (fun _ _ _ h => h) (Or.inl ⟨by rfl,?_⟩) ?_ ?_;rotate_left
       ·
        intro w'
        go_simp
        with_reducible rfl
       rotate_left
       ·
        simp only [Act.put,zi,zj,zk,zG,zH]
        rfl
       refine take_ (i:=13) (N:=some 28) (v:=?_) (a':=?_) #[true,true,true,true,true,true,true,false,true,true,true,true,true,true,false,false,false,false,false] rfl rfl (yo HT_.out HW_.out (by kernel_rfl)) (fun _ _ _ h => h) (Or.inl ⟨by rfl,?_⟩) hHeld ?_ ?_;rotate_left
       ·
        rintro w' ⟨s0,s1,s2,s3,s4,s5,s6⟩
        go_simp
        with_reducible rfl
       rotate_left
       ·
        simp only [Act.put,zi,zj,zk,zG,zH]
        rfl
       refine one_ (i:=7) (N:=some 22) (bm_ 14 19) rfl rfl (one_of HT_.out (by kernel_rfl)) (by decide) (fun K hK => ?_);refine Kd.R_lit_step k143 _ 143 ?hg (N:=22) ?hd (xs:=([] : List (S143))) (inner:=[]) (ok:=fun _ => True) (okp:=fun _ => True) ?hr ?hp (fun _ hk => hk) trivial (Below.refl _ _) (ye _) (by simp) ?_;(case hd|hg => rfl);(case hr => go_simp <;> rfl);(case hp => exact (Reps.none _ _));intro v108 w13 ho14 hb hg_ hnew_;clear hg_ hnew_;(first|rw [← Ny107.out] at ho14|(simp only [Int.reduceToNat] at ho14;rw [← Ny107.out] at ho14));replace HO_3:=zh (Kd.S_elder' (by (with_reducible repeat (first|apply Kd.S_alloc|apply Kd.S_drewN|apply Kd.S_drew));exact HO_3.out) (Kd.R_base ho14) hb);have HO109:=zh (yy ho14 (zB (by repeat (with_reducible first|exact HB.out|apply za|apply zb|apply zc|refine zd ?_ GE101.out|refine zd ?_ GE102.out))));replace BK101:=zh (cD BK101.out (by (with_reducible repeat first|apply ze|apply zf|apply zg);exact BK101.out) hb);replace BK102:=zh (cD BK102.out (by (with_reducible repeat first|apply ze|apply zf|apply zg);exact BK102.out) hb);replace HB:=zh (zC (by repeat (with_reducible first|exact HB.out|apply za|apply zb|apply zc|refine zd ?_ GE101.out|refine zd ?_ GE102.out)) hb);clear hb ho14;refine hK.out _ _ ⟨(zz BK101.out 0).trans rfl,(zz BK101.out 1).trans rfl,(zz BK101.out 2).trans rfl,((HB.out.cell (zl w _ hw106_0)).trans hw106_0),((HB.out.cell (zl w _ hw106_1)).trans hw106_1),((HB.out.cell (zl w _ hw110_0)).trans hw110_0),((HB.out.cell (zl w _ hw110_1)).trans hw110_1)⟩ (fun hHeld => ?_);clear hK K;refine norm_ (a':=?_) ?_ ?_;rotate_left
       ·
        show Act.put _ (some 22) _=_
        simp only [Act.put,zi,zj,zk,zG,zH]
        rfl
       refine one_ (i:=14) (N:=some 29) (bm_ 15 19) rfl rfl (one_of HT_.out (by kernel_rfl)) (by decide) (fun K hK => ?_);refine Kd.R_append_rows_step k143 (w0:=w) w.heap.size (by rfl) (.tmp 22) (.tmp 28) 114 143 (.agg #[(.int .i64 0),(.bool false),(.int .i64 0),(.int .i64 0),(.string ⟨#[]⟩)]) 48 rfl Tryz.underlying114 info143 rfl (by decide) (by omega) v108 y107 ((rd_T116 l0_1 x4_1).f1) _ _ _ (fun _ => True) (fun _ => False) rfl rfl ?aO ?aR (fun _ _ h => h) (fun _ h => h.elim) ?aF ?aB ?aS ?aL ?_;(case aR => repeat (first|exact (Kd.C_below HR110_1.out HB.out)|(with_reducible refine Kd.C_alloc ?_ _)|(with_reducible refine Kd.C_drewN ?_ _)|(with_reducible refine Kd.C_drew ?_)))
       (case aB => exact (by repeat (with_reducible first|exact HB.out|apply za|apply zb|apply zc|refine zd ?_ GE101.out|refine zd ?_ GE102.out)))
       (case aF => exact (fun _ _ => trivial))
       (case aO => exact (by (with_reducible repeat (first|apply zm|apply zn|apply zo));exact HO109.out))
       (case aS => exact (zB (by repeat (with_reducible first|exact HB.out|apply za|apply zb|apply zc|refine zd ?_ GE101.out|refine zd ?_ GE102.out))))
       (case aL => have:=LMc8.out;omega)
       intro v112 w15 ho hb hg hat;rw [← Ny111.out] at ho;replace HO_3:=zh (Kd.S_after (ok:=(fun _ => True)) (by (with_reducible repeat (first|apply Kd.S_alloc|apply Kd.S_drewN|apply Kd.S_drew));exact HO_3.out) hg hat);replace BK101:=zh (yw (g:=gb101) (o:=.cells #[.string a0_0,.slice (some ad106) l0_1.length c0_1,.slice A0_2 l0_2.length c0_2] 54 (0,0)) (by (with_reducible repeat first|apply ze|apply zf|apply zg);exact BK101.out) hg (Kd.R_ne HO109.out BK101.out (by decide)));replace BK102:=zh (yw (g:=gb102) (o:=.cells #[.string (⟨#[]⟩ : ByteArray),.slice none 0 0,.slice none 0 0] 54 (0,0)) (by (with_reducible repeat first|apply ze|apply zf|apply zg);exact BK102.out) hg (Kd.R_ne HO109.out BK102.out (by decide)));replace HB:=zh (hb);have HO113:=zh (ho);clear HO109 ho hb hg hat;obtain ⟨Ao16,co16,eo16⟩:=yk HO113.out;(first|subst eo16|(injection eo16 with f1_ f2_ f3_;have f4_:=f1_.symm;have f5_:=f3_.symm;clear f1_ f2_ f3_;subst f4_;subst f5_));refine hK.out _ _ ⟨(zz BK101.out 0).trans rfl,(zz BK101.out 1).trans rfl,(zz BK101.out 2).trans rfl,((HB.out.cell (zl w _ hw106_0)).trans hw106_0),((HB.out.cell (zl w _ hw106_1)).trans hw106_1),((HB.out.cell (zl w _ hw110_0)).trans hw110_0),((HB.out.cell (zl w _ hw110_1)).trans hw110_1)⟩ (fun hHeld => ?_);clear hK K;refine norm_ (a':=?_) ?_ ?_;rotate_left
       ·
        show Act.put _ (some 29) _=_
        simp only [Act.put,zi,zj,zk,zG,zH]
        rfl
       refine pure_ (i:=15) (N:=some 30) (v:=?_) (a':=?_) (bm_ 16 19) rfl rfl (any_of HT_.out (by kernel_rfl)) (fun _ _ _ h => h) (Or.inl ⟨by rfl,?_⟩) ?_ ?_;rotate_left
       ·
        intro w'
        go_simp
        with_reducible rfl
       rotate_left
       ·
        simp only [Act.put,zi,zj,zk,zG,zH]
        rfl
       refine one_ (i:=16) (N:=some 31) (bm_ 17 19) rfl rfl (one_of HT_.out (by kernel_rfl)) (by decide) (fun K hK => ?_);refine value_ (w1:=?_) (v:=?_) (by rfl) rfl ?_ ?_;rotate_left 2
       ·
        go_simp
        constructor
        ·
         rfl
        rfl
       refine hK.out _ _ ⟨(zz (zg BK101.out _) 0).trans rfl,(zz (zg BK101.out _) 1).trans rfl,(zz (zg BK101.out _) 2).trans rfl,(World.cell?_alloc_lt _ _ _ (zl _ _ (((HB.out.cell (zl w _ hw106_0)).trans hw106_0)))).trans (((HB.out.cell (zl w _ hw106_0)).trans hw106_0)),(World.cell?_alloc_lt _ _ _ (zl _ _ (((HB.out.cell (zl w _ hw106_1)).trans hw106_1)))).trans (((HB.out.cell (zl w _ hw106_1)).trans hw106_1)),(World.cell?_alloc_lt _ _ _ (zl _ _ (((HB.out.cell (zl w _ hw110_0)).trans hw110_0)))).trans (((HB.out.cell (zl w _ hw110_0)).trans hw110_0)),(World.cell?_alloc_lt _ _ _ (zl _ _ (((HB.out.cell (zl w _ hw110_1)).trans hw110_1)))).trans (((HB.out.cell (zl w _ hw110_1)).trans hw110_1))⟩ (fun hHeld => ?_);clear hK K;refine norm_ (a':=?_) ?_ ?_;rotate_left
       ·
        show Act.put _ (some 31) _=_
        simp only [Act.put,zi,zj,zk,zG,zH]
        rfl
       refine one_ (i:=17) (N:=some 32) (bm_ 18 19) rfl rfl (one_of HT_.out (by kernel_rfl)) (by decide) (fun K hK => ?_);refine Kd.S_append_step k116 (w0:=w) w.heap.size (by rfl) (.tmp 15) (.tmp 31) 51 116 (.agg #[(.int .i64 0),(.slice none 0 0)]) 32 rfl Tryz.underlying51 info116 rfl (by decide) (by omega) u3 x3_1 (⟨(rd_T116 l0_1 x4_1).f0,y111⟩ : S116) [.int .i64 ((rd_T116 l0_1 x4_1).f0),.slice Ao16 y111.length co16] (fun _ => True) (fun k_ => some k_=(.slice Ao16 y111.length co16 : Value).ownBlock) rfl rfl ?aP (fun k_ hk_ => ((zM (ok':=fun k_ => ((fun _ => True)) k_∧some k_≠(u3 : Value).ownBlock) (Kd.R_apart' (HO113.out) (Kd.S_typed HO_3.out) (by decide)) (fun k_ hk => ⟨trivial,hk.2⟩))).1 k_ hk_.symm) ?aF ?aO ?aB ?aS ?aL ?_;(case aP => exact k116_mkM _ _ _ (⟨(rd_T116 l0_1 x4_1).f0,y111⟩ : S116) (zM (Kd.R_tight rfl (zM (ok':=fun k_ => ((fun _ => True)) k_∧some k_≠(u3 : Value).ownBlock) (Kd.R_apart' (HO113.out) (Kd.S_typed HO_3.out) (by decide)) (fun k_ hk => ⟨trivial,hk.2⟩))) (fun _ h_ => h_)))
       (case aB => exact (by repeat (with_reducible first|exact HB.out|apply za|apply zb|apply zc|refine zd ?_ GE101.out|refine zd ?_ GE102.out)))
       (case aF => exact (fun _ _ => trivial))
       (case aO => exact (by (with_reducible repeat (first|apply Kd.S_alloc|apply Kd.S_drewN|apply Kd.S_drew));exact Kd.S_mono HO_3.out (fun k_ hk => ⟨trivial,fun e_ => hk.2 e_⟩)))
       (case aS => exact (zB (by repeat (with_reducible first|exact HB.out|apply za|apply zb|apply zc|refine zd ?_ GE101.out|refine zd ?_ GE102.out))))
       (case aL => have:=LMc9.out;omega)
       intro v115 w17 ho hb hg hat;rw [← Ny114.out] at ho;replace BK101:=zh (yw (g:=gb101) (o:=.cells #[.string a0_0,.slice (some ad106) l0_1.length c0_1,.slice A0_2 l0_2.length c0_2] 54 (0,0)) (by (with_reducible repeat first|apply ze|apply zf|apply zg);exact BK101.out) hg (Kd.S_ne HO_3.out BK101.out (by decide)));replace BK102:=zh (yw (g:=gb102) (o:=.cells #[.string (⟨#[]⟩ : ByteArray),.slice none 0 0,.slice none 0 0] 54 (0,0)) (by (with_reducible repeat first|apply ze|apply zf|apply zg);exact BK102.out) hg (Kd.S_ne HO_3.out BK102.out (by decide)));replace HB:=zh (hb);have HO116:=zh (ho);clear HO_3 HO113 ho hb hg hat;refine hK.out _ _ ⟨(zz BK101.out 0).trans rfl,(zz BK101.out 1).trans rfl,(zz BK101.out 2).trans rfl,((HB.out.cell (zl w _ hw106_0)).trans hw106_0),((HB.out.cell (zl w _ hw106_1)).trans hw106_1),((HB.out.cell (zl w _ hw110_0)).trans hw110_0),((HB.out.cell (zl w _ hw110_1)).trans hw110_1)⟩ (fun hHeld => ?_);clear hK K;refine norm_ (a':=?_) ?_ ?_;rotate_left
       ·
        show Act.put _ (some 32) _=_
        simp only [Act.put,zi,zj,zk,zG,zH]
        rfl
       refine pure_ (i:=18) (N:=some 3) (v:=?_) (a':=?_) (bm_ 19 19) rfl rfl (any_of HT_.out (by kernel_rfl)) (fun _ _ _ h => h) (Or.inl ⟨by rfl,?_⟩) ?_ ?_;rotate_left
       ·
        intro w'
        go_simp
        with_reducible rfl
       rotate_left
       ·
        simp only [Act.put,zi,zj,zk,zG,zH]
        rfl
       refine done_ (done_of HT_.out (by kernel_rfl)) ?_
       try go_wp2
       go_roundg k1
       case measure => have:=HK1.out;omega
       case rel => exact ⟨(y114),(wrap64 (x4_1 + 1)),(by first|rfl|(simp;done)|(simp [*];done)),H',⟨by have:=HK1.out;omega⟩,⟨by (with_reducible repeat (first|apply Kd.S_alloc|apply Kd.S_drewN|apply Kd.S_drew));exact HO116.out⟩,⟨by (with_reducible repeat first|apply ze|apply zf|apply zg);exact BK101.out⟩,⟨by (with_reducible repeat first|apply ze|apply zf|apply zg);exact BK102.out⟩,⟨by repeat (with_reducible first|exact HB.out|apply za|apply zb|apply zc|refine zd ?_ GE101.out|refine zd ?_ GE102.out)⟩⟩
      rw [if_neg c9] at H;exact absurd H (by simp)
     rw [if_neg c8] at H;exact absurd H (by simp)
    rw [if_neg c7] at H;exact absurd H (by simp)
   rw [if_neg c6] at H;have c6b0 : decide (x4_1<(l0_1.length : Int))=false:=decide_eq_false c6;clear c6;obtain ⟨y117,hy117⟩ : ∃ y_ : List (S84),y_=(([] : List (S84))):=⟨_,rfl⟩;replace H : (F1.l1 k1 x3_1 y117 0 a0_0 l0_1 l0_2)=some (r1,r2,r3):=by first|(rw [hy117];with_reducible exact H)|(have H2_:=(Option.bind_some _ _).symm.trans H;rw [hy117];with_reducible exact H2_)|(have H2_:=(Option.bind_some _ _).symm.trans H;with_reducible exact H2_)|with_reducible exact H|(rw [hy117];exact H)|exact H
   have Ny117:=zh hy117;clear hy117;have H':=zh H;clear H;have hnb18:=NB101_102.out;have hnc18:=NB102_101.out;obtain ⟨hcz19_0,hcz19_1,hcz19_2,hfz19_0,hfz19_1,hfz19_2⟩:=cB3 BK101.out
   go_wp2_with (first|((with_reducible refine zK (N:=33) rfl ?_);refine Kd.S_lit k84 _ 84 ?hg (N:=33) ?hd (xs:=([] : List (S84))) (inner:=[]) (ok:=fun _ => True) (okp:=fun _ => True) ?hr ?hp (fun _ hk => hk) trivial (Below.refl _ _) (ye _) (by simp) ?_;(case hd|hg => rfl);(case hr => go_simp <;> rfl);(case hp => exact (Reps.none _ _));intro v118 w20 ho21 hb hg_ hnew_;clear hg_ hnew_;(first|rw [← Ny117.out] at ho21|(simp only [Int.reduceToNat] at ho21;rw [← Ny117.out] at ho21));replace HO_3:=zh (Kd.S_below (by (with_reducible repeat (first|apply Kd.S_alloc|apply Kd.S_drewN|apply Kd.S_drew));exact HO_3.out) hb);have HO119:=zh (Kd.S_lower ho21 (zB (by repeat (with_reducible first|exact HB.out|apply za|apply zb|apply zc|refine zd ?_ GE101.out|refine zd ?_ GE102.out))));replace BK101:=zh (cD BK101.out (by (with_reducible repeat first|apply ze|apply zf|apply zg);exact BK101.out) hb);replace BK102:=zh (cD BK102.out (by (with_reducible repeat first|apply ze|apply zf|apply zg);exact BK102.out) hb);replace HB:=zh (zC (by repeat (with_reducible first|exact HB.out|apply za|apply zb|apply zc|refine zd ?_ GE101.out|refine zd ?_ GE102.out)) hb);clear hb ho21))
   go_loopg [5,6] k1 (fun kq v5 v6 w' => ∃ (x5_2 : List (S84)) (x6_2 : Int),v6 = .int .i64 x6_2∧Aside0 (F1.l1 kq x3_1 x5_2 x6_2 a0_0 l0_1 l0_2=some (r1,r2,r3))∧Aside0 (kq≤k1)∧Aside0 (Kd.S k116 116 w' w.heap.size (fun _ => True) u3 x3_1)∧Aside0 (Kd.S k84 84 w' w.heap.size (fun _ => True) v5 x5_2)∧Aside0 (w'.heap[gb101]? = some (.cells #[.string a0_0,(.slice A0_1 l0_1.length c0_1),(.slice A0_2 l0_2.length c0_2)] 54 (0,0)))∧Aside0 (w'.heap[gb102]? = some (.cells #[.string (⟨#[]⟩ : ByteArray),(.slice none 0 0),(.slice none 0 0)] 54 (0,0)))∧Aside0 (Below w.heap.size w w'))
   case atStart => exact ⟨(y117),(0),(by first|rfl|(simp;done)|(simp [*];done)),H',⟨ye _⟩,⟨by (with_reducible repeat (first|apply Kd.S_alloc|apply Kd.S_drewN|apply Kd.S_drew));exact HO_3.out⟩,⟨by (with_reducible repeat (first|apply Kd.S_alloc|apply Kd.S_drewN|apply Kd.S_drew));exact HO119.out⟩,⟨by (with_reducible repeat first|apply ze|apply zf|apply zg);exact BK101.out⟩,⟨by (with_reducible repeat first|apply ze|apply zf|apply zg);exact BK102.out⟩,⟨by repeat (with_reducible first|exact HB.out|apply za|apply zb|apply zc|refine zd ?_ GE101.out|refine zd ?_ GE102.out)⟩⟩
   case round =>
    clear H'
    try clear c1
    try clear p1
    try clear q1
    try clear hx1
    try clear p2
    try clear c4 c6 c6b0
    try clear p6
    try clear c7 c7b0 c8 c9 c10
    try clear p10
    try clear q10
    try clear hx10
    try clear c11
    try clear p11
    try clear q11
    try clear hx11
    try clear c18
    try clear hcz11_0 hcz11_1 hcz11_2
    try clear hcz19_0 hcz19_1 hcz19_2
    try clear hfz11_0 hfz11_1 hfz11_2
    try clear hfz19_0 hfz19_1 hfz19_2
    try clear hx106_0
    try clear hx106_1
    try clear hx110_0
    try clear hx110_1
    try clear p106
    try clear p110
    try clear p2
    try clear q106
    try clear q110
    obtain ⟨x5_2,x6_2,rfl,HA,HK2,HO_3,HO_5,BK101,BK102,HB⟩:=hrel
    cases gk with
    | zero => exact absurd HA.out (by simp [F1.l1])
    | succ k2 =>
     have H:=HA.out;clear HA;simp only [F1.l1] at H
     by_cases c22 : x6_2<(l0_2.length : Int)
     ·
      rw [if_pos c22] at H
      have c22b0 : decide (x6_2<(l0_2.length : Int))=true:=decide_eq_true c22;clear c22
      by_cases c23 : 0≤x6_2
      ·
       rw [if_pos c23] at H
       have c23b0 : decide (0≤x6_2)=true:=decide_eq_true c23;clear c23;obtain ⟨y121,hy121⟩ : ∃ y_ : List (S131),y_=(([] : List (S131))):=⟨_,rfl⟩;replace H : (if y121.length + ((rd_T84 l0_2 x6_2).f1).length<5864062014805 then (if x5_2.length<3518437208883 then (F1.l1 k2 x3_1 (x5_2 ++ [(⟨(rd_T84 l0_2 x6_2).f0,(y121 ++ ((rd_T84 l0_2 x6_2).f1))⟩ : S84)]) (wrap64 (x6_2 + 1)) a0_0 l0_1 l0_2) else (none)) else (none))=some (r1,r2,r3):=by first|(rw [hy121];with_reducible exact H)|(have H2_:=(Option.bind_some _ _).symm.trans H;rw [hy121];with_reducible exact H2_)|(have H2_:=(Option.bind_some _ _).symm.trans H;with_reducible exact H2_)|with_reducible exact H|(rw [hy121];exact H)|exact H
       have Ny121:=zh hy121;clear hy121
       by_cases c24 : y121.length + ((rd_T84 l0_2 x6_2).f1).length<5864062014805
       ·
        rw [if_pos c24] at H
        have LMc24:=zh c24;clear c24;obtain ⟨y125,hy125⟩ : ∃ y_ : List (S131),y_=(y121 ++ ((rd_T84 l0_2 x6_2).f1)):=⟨_,rfl⟩;replace H : (if x5_2.length<3518437208883 then (F1.l1 k2 x3_1 (x5_2 ++ [(⟨(rd_T84 l0_2 x6_2).f0,y125⟩ : S84)]) (wrap64 (x6_2 + 1)) a0_0 l0_1 l0_2) else (none))=some (r1,r2,r3):=by first|(rw [hy125];with_reducible exact H)|(have H2_:=(Option.bind_some _ _).symm.trans H;rw [hy125];with_reducible exact H2_)|(have H2_:=(Option.bind_some _ _).symm.trans H;with_reducible exact H2_)|with_reducible exact H|(rw [hy125];exact H)|exact H
        have Ny125:=zh hy125;clear hy125
        by_cases c25 : x5_2.length<3518437208883
        ·
         rw [if_pos c25] at H
         have LMc25:=zh c25;clear c25;obtain ⟨y128,hy128⟩ : ∃ y_ : List (S84),y_=(x5_2 ++ [(⟨(rd_T84 l0_2 x6_2).f0,y125⟩ : S84)]):=⟨_,rfl⟩;replace H : (F1.l1 k2 x3_1 y128 (wrap64 (x6_2 + 1)) a0_0 l0_1 l0_2)=some (r1,r2,r3):=by first|(rw [hy128];with_reducible exact H)|(have H2_:=(Option.bind_some _ _).symm.trans H;rw [hy128];with_reducible exact H2_)|(have H2_:=(Option.bind_some _ _).symm.trans H;with_reducible exact H2_)|with_reducible exact H|(rw [hy128];exact H)|exact H
         have Ny128:=zh hy128;clear hy128;have H':=zh H;clear H;have hnb26:=NB101_102.out;have hnc26:=NB102_101.out;obtain ⟨hcz27_0,hcz27_1,hcz27_2,hfz27_0,hfz27_1,hfz27_2⟩:=cB3 BK101.out
         try go_wp2
         replace HO_3:=zh (Kd.S_drew HO_3.out);replace HO_5:=zh (Kd.S_drew HO_5.out);replace BK101:=zh (zf BK101.out);replace BK102:=zh (zf BK102.out);replace HB:=zh (zc HB.out);have p120 : 0≤(x6_2 : Int):=zy (by first|(with_reducible assumption)|assumption);have q120 : x6_2<(l0_2.length : Int):=zy (by first|(with_reducible assumption)|assumption);obtain ⟨ad120,A120_1,c120_1,e120,hx120_0,hx120_1,hl120_1,hi120_1⟩:=at_T84 HR0_2.out x6_2 p120 q120;have hw120_1:=hx120_1;have hw120_0:=hx120_0
         cases e120
         replace hx120_0:=(HB.out.cell (zl w _ hx120_0)).trans hx120_0;replace hx120_1:=(HB.out.cell (zl w _ hx120_1)).trans hx120_1;have HR120_1:=zh hi120_1;have HC120_1:=zh hl120_1;clear hi120_1 hl120_1;replace p120:=eq_true p120;replace q120:=eq_true q120;have p124 : 0≤(x6_2 : Int):=zy (by first|(with_reducible assumption)|assumption);have q124 : x6_2<(l0_2.length : Int):=zy (by first|(with_reducible assumption)|assumption);obtain ⟨ad124,A124_1,c124_1,e124,hx124_0,hx124_1,hl124_1,hi124_1⟩:=at_T84 HR0_2.out x6_2 p124 q124;have hw124_1:=hx124_1;have hw124_0:=hx124_0;obtain rfl : ad120=ad124:=(by injection e124);replace hx124_0:=(HB.out.cell (zl w _ hx124_0)).trans hx124_0;replace hx124_1:=(HB.out.cell (zl w _ hx124_1)).trans hx124_1;have HR124_1:=zh hi124_1;have HC124_1:=zh hl124_1;clear hi124_1 hl124_1;replace p124:=eq_true p124;replace q124:=eq_true q124;have ea_:=zU (hx120_1.symm.trans hx124_1);injection ea_ with ea_ en_ ec_;subst ea_;subst ec_;clear en_;refine start_ (n:=19) (S:=fun w' => w'.cell? ⟨gb101,0,none⟩=some (.string a0_0)∧w'.cell? ⟨gb101,1,none⟩=some (.slice A0_1 l0_1.length c0_1)∧w'.cell? ⟨gb101,2,none⟩=some (.slice (some ad120) l0_2.length c0_2)∧w'.cell? (ad120.add ((x6_2).toNat * 2))=some (.string ((rd_T84 l0_2 x6_2).f0))∧w'.cell? ⟨(ad120.add ((x6_2).toNat * 2)).block,(ad120.add ((x6_2).toNat * 2)).off + 1,none⟩=some (.slice A120_1 ((rd_T84 l0_2 x6_2).f1).length c120_1)∧w'.cell? (ad120.add ((x6_2).toNat * 2))=some (.string ((rd_T84 l0_2 x6_2).f0))∧w'.cell? ⟨(ad120.add ((x6_2).toNat * 2)).block,(ad120.add ((x6_2).toNat * 2)).off + 1,none⟩=some (.slice A120_1 ((rd_T84 l0_2 x6_2).f1).length c120_1)) (ds:=[]) (bm_ 0 19) (by kernel_rfl) rfl rfl ⟨(zz BK101.out 0).trans rfl,(zz BK101.out 1).trans rfl,(zz BK101.out 2).trans rfl,((HB.out.cell (zl w _ hw120_0)).trans hw120_0),((HB.out.cell (zl w _ hw120_1)).trans hw120_1),((HB.out.cell (zl w _ hw124_0)).trans hw124_0),((HB.out.cell (zl w _ hw124_1)).trans hw124_1)⟩ (fun hHeld => ?_);refine with_tabW F1.tab10 F1.bits10 (fun HT_ HW_ => ?_);generalize wr.drew=w28 at HO_3 HO_5 BK101 BK102 HB HR120_1 HR124_1 hx120_0 hx120_1 hx124_0 hx124_1 hHeld ⊢;refine pure_ (i:=0) (N:=some 41) (v:=?_) (a':=?_) (bm_ 1 19) rfl rfl (any_of HT_.out (by kernel_rfl)) (fun _ _ _ h => h) (Or.inl ⟨by rfl,?_⟩) ?_ ?_;rotate_left
         ·
          intro w'
          go_simp
          with_reducible rfl
         rotate_left
         ·
          simp only [Act.put,zi,zj,zk,zG,zH]
          rfl
         refine pure_ (i:=1) (N:=some 42) (v:=?_) (a':=?_) (bm_ 2 19) rfl rfl (any_of HT_.out (by kernel_rfl)) (fun _ _ _ h => h) (Or.inl ⟨by rfl,?_⟩) ?_ ?_;rotate_left
         ·
          intro w'
          go_simp
          with_reducible rfl
         rotate_left
         ·
          simp only [Act.put,zi,zj,zk,zG,zH]
          rfl
         refine pure_ (i:=3) (N:=some 44) (v:=?_) (a':=?_) #[true,true,false,true,false,false,false,false,false,false,false,false,false,false,false,false,false,false,false] rfl rfl (any_of HT_.out (by kernel_rfl)) (fun _ _ _ h => h) (Or.inl ⟨by rfl,?_⟩) ?_ ?_;rotate_left
         ·
          intro w'
          go_simp
          with_reducible rfl
         rotate_left
         ·
          simp only [Act.put,zi,zj,zk,zG,zH]
          rfl
         refine pure_ (i:=8) (N:=some 49) (v:=?_) (a':=?_) #[true,true,false,true,false,false,false,false,true,false,false,false,false,false,false,false,false,false,false] rfl rfl (any_of HT_.out (by kernel_rfl)) (fun _ _ _ h => h) (Or.inl ⟨by rfl,?_⟩) ?_ ?_;rotate_left
         ·
          intro w'
          go_simp
          with_reducible rfl
         rotate_left
         ·
          simp only [Act.put,zi,zj,zk,zG,zH]
          rfl
         refine pure_ (i:=10) (N:=some 51) (v:=?_) (a':=?_) #[true,true,false,true,false,false,false,false,true,false,true,false,false,false,false,false,false,false,false] rfl rfl (any_of HT_.out (by kernel_rfl)) (fun _ _ _ h => h) (Or.inl ⟨by rfl,?_⟩) ?_ ?_;rotate_left
         ·
          intro w'
          go_simp
          with_reducible rfl
         rotate_left
         ·
          simp only [Act.put,zi,zj,zk,zG,zH]
          rfl
         refine take_ (i:=2) (N:=some 43) (v:=?_) (a':=?_) #[true,true,true,true,false,false,false,false,true,false,true,false,false,false,false,false,false,false,false] rfl rfl (yo HT_.out HW_.out (by kernel_rfl)) (fun _ _ _ h => h) (Or.inl ⟨by rfl,?_⟩) hHeld ?_ ?_;rotate_left
         ·
          rintro w' ⟨s0,s1,s2,s3,s4,s5,s6⟩
          go_simp
          with_reducible rfl
         rotate_left
         ·
          simp only [Act.put,zi,zj,zk,zG,zH]
          rfl
         refine pure_ (i:=4) (N:=some 45) (v:=?_) (a':=?_) #[true,true,true,true,true,false,false,false,true,false,true,false,false,false,false,false,false,false,false] rfl rfl (any_of HT_.out (by kernel_rfl)) (fun _ _ _ h => h) (Or.inl ⟨by rfl,?_⟩) ?_ ?_;rotate_left
         ·
          intro w'
          go_simp
          with_reducible rfl
         rotate_left
         ·
          simp only [Act.put,zi,zj,zk,zG,zH]
          rfl
         refine pure_ (i:=5) (N:=some 46) (v:=?_) (a':=?_) #[true,true,true,true,true,true,false,false,true,false,true,false,false,false,false,false,false,false,false] rfl rfl (any_of HT_.out (by kernel_rfl)) (fun _ _ _ h => h) (Or.inl ⟨by rfl,?_⟩) ?_ ?_;rotate_left
         ·
          intro w'
          go_simp
          with_reducible rfl
         rotate_left
         ·
          simp only [Act.put,zi,zj,zk,zG,zH]
          rfl
         refine take_ (i:=6) (N:=some 47) (v:=?_) (a':=?_) #[true,true,true,true,true,true,true,false,true,false,true,false,false,false,false,false,false,false,false] rfl rfl (yo HT_.out HW_.out (by kernel_rfl)) (fun _ _ _ h => h) (Or.inl ⟨by rfl,?_⟩) hHeld ?_ ?_;rotate_left
         ·
          rintro w' ⟨s0,s1,s2,s3,s4,s5,s6⟩
          go_simp
          with_reducible rfl
         rotate_left
         ·
          simp only [Act.put,zi,zj,zk,zG,zH]
          rfl
         refine take_ (i:=9) (N:=some 50) (v:=?_) (a':=?_) #[true,true,true,true,true,true,true,false,true,true,true,false,false,false,false,false,false,false,false] rfl rfl (yo HT_.out HW_.out (by kernel_rfl)) (fun _ _ _ h => h) (Or.inl ⟨by rfl,?_⟩) hHeld ?_ ?_;rotate_left
         ·
          rintro w' ⟨s0,s1,s2,s3,s4,s5,s6⟩
          go_simp
          with_reducible rfl
         rotate_left
         ·
          simp only [Act.put,zi,zj,zk,zG,zH]
          rfl
         refine pure_ (i:=11) (N:=some 52) (v:=?_) (a':=?_) #[true,true,true,true,true,true,true,false,true,true,true,true,false,false,false,false,false,false,false] rfl rfl (any_of HT_.out (by kernel_rfl)) (fun _ _ _ h => h) (Or.inl ⟨by rfl,?_⟩) ?_ ?_;rotate_left
         ·
          intro w'
          go_simp
          with_reducible rfl
         rotate_left
         ·
          simp only [Act.put,zi,zj,zk,zG,zH]
          rfl
         refine pure_ (i:=12) (N:=some 53) (v:=?_) (a':=?_) #[true,true,true,true,true,true,true,false,true,true,true,true,true,false,false,false,false,false,false] rfl rfl (any_of HT_.out (by kernel_rfl)) (fun _ _ _ h => h) (Or.inl ⟨by rfl,?_⟩) ?_ ?_;rotate_left
         ·
          intro w'
          go_simp
          with_reducible rfl
         rotate_left
         ·
          simp only [Act.put,zi,zj,zk,zG,zH]
          rfl
         refine take_ (i:=13) (N:=some 54) (v:=?_) (a':=?_) #[true,true,true,true,true,true,true,false,true,true,true,true,true,true,false,false,false,false,false] rfl rfl (yo HT_.out HW_.out (by kernel_rfl)) (fun _ _ _ h => h) (Or.inl ⟨by rfl,?_⟩) hHeld ?_ ?_;rotate_left
         ·
          rintro w' ⟨s0,s1,s2,s3,s4,s5,s6⟩
          go_simp
          with_reducible rfl
         rotate_left
         ·
          simp only [Act.put,zi,zj,zk,zG,zH]
          rfl
         refine one_ (i:=7) (N:=some 48) (bm_ 14 19) rfl rfl (one_of HT_.out (by kernel_rfl)) (by decide) (fun K hK => ?_);refine Kd.R_lit_step k131 _ 131 ?hg (N:=48) ?hd (xs:=([] : List (S131))) (inner:=[]) (ok:=fun _ => True) (okp:=fun _ => True) ?hr ?hp (fun _ hk => hk) trivial (Below.refl _ _) (ye _) (by simp) ?_;(case hd|hg => rfl);(case hr => go_simp <;> rfl);(case hp => exact (Reps.none _ _));intro v122 w29 ho30 hb hg_ hnew_;clear hg_ hnew_;(first|rw [← Ny121.out] at ho30|(simp only [Int.reduceToNat] at ho30;rw [← Ny121.out] at ho30));replace HO_3:=zh (Kd.S_below (by (with_reducible repeat (first|apply Kd.S_alloc|apply Kd.S_drewN|apply Kd.S_drew));exact HO_3.out) hb);replace HO_5:=zh (Kd.S_elder' (by (with_reducible repeat (first|apply Kd.S_alloc|apply Kd.S_drewN|apply Kd.S_drew));exact HO_5.out) (Kd.R_base ho30) hb);have HO123:=zh (yy ho30 (zB (by repeat (with_reducible first|exact HB.out|apply za|apply zb|apply zc|refine zd ?_ GE101.out|refine zd ?_ GE102.out))));replace BK101:=zh (cD BK101.out (by (with_reducible repeat first|apply ze|apply zf|apply zg);exact BK101.out) hb);replace BK102:=zh (cD BK102.out (by (with_reducible repeat first|apply ze|apply zf|apply zg);exact BK102.out) hb);replace HB:=zh (zC (by repeat (with_reducible first|exact HB.out|apply za|apply zb|apply zc|refine zd ?_ GE101.out|refine zd ?_ GE102.out)) hb);clear hb ho30;refine hK.out _ _ ⟨(zz BK101.out 0).trans rfl,(zz BK101.out 1).trans rfl,(zz BK101.out 2).trans rfl,((HB.out.cell (zl w _ hw120_0)).trans hw120_0),((HB.out.cell (zl w _ hw120_1)).trans hw120_1),((HB.out.cell (zl w _ hw124_0)).trans hw124_0),((HB.out.cell (zl w _ hw124_1)).trans hw124_1)⟩ (fun hHeld => ?_);clear hK K;refine norm_ (a':=?_) ?_ ?_;rotate_left
         ·
          show Act.put _ (some 48) _=_
          simp only [Act.put,zi,zj,zk,zG,zH]
          rfl
         refine one_ (i:=14) (N:=some 55) (bm_ 15 19) rfl rfl (one_of HT_.out (by kernel_rfl)) (by decide) (fun K hK => ?_);refine Kd.R_append_rows_step k131 (w0:=w) w.heap.size (by rfl) (.tmp 48) (.tmp 54) 79 131 (.agg #[(.string ⟨#[]⟩),(.bool false)]) 24 rfl Tryz.underlying79 info131 rfl (by decide) (by omega) v122 y121 ((rd_T84 l0_2 x6_2).f1) _ _ _ (fun _ => True) (fun _ => False) rfl rfl ?aO ?aR (fun _ _ h => h) (fun _ h => h.elim) ?aF ?aB ?aS ?aL ?_;(case aR => repeat (first|exact (Kd.C_below HR124_1.out HB.out)|(with_reducible refine Kd.C_alloc ?_ _)|(with_reducible refine Kd.C_drewN ?_ _)|(with_reducible refine Kd.C_drew ?_)))
         (case aB => exact (by repeat (with_reducible first|exact HB.out|apply za|apply zb|apply zc|refine zd ?_ GE101.out|refine zd ?_ GE102.out)))
         (case aF => exact (fun _ _ => trivial))
         (case aO => exact (by (with_reducible repeat (first|apply zm|apply zn|apply zo));exact HO123.out))
         (case aS => exact (zB (by repeat (with_reducible first|exact HB.out|apply za|apply zb|apply zc|refine zd ?_ GE101.out|refine zd ?_ GE102.out))))
         (case aL => have:=LMc24.out;omega)
         intro v126 w31 ho hb hg hat;rw [← Ny125.out] at ho;replace HO_3:=zh (Kd.S_over' (by (with_reducible repeat (first|apply Kd.S_alloc|apply Kd.S_drewN|apply Kd.S_drew));exact HO_3.out) (Kd.R_typed (by (with_reducible repeat (first|apply zm|apply zn|apply zo));exact HO123.out)) (by decide) hg);replace HO_5:=zh (Kd.S_after (ok:=(fun _ => True)) (by (with_reducible repeat (first|apply Kd.S_alloc|apply Kd.S_drewN|apply Kd.S_drew));exact HO_5.out) hg hat);replace BK101:=zh (yw (g:=gb101) (o:=.cells #[.string a0_0,.slice A0_1 l0_1.length c0_1,.slice (some ad120) l0_2.length c0_2] 54 (0,0)) (by (with_reducible repeat first|apply ze|apply zf|apply zg);exact BK101.out) hg (Kd.R_ne HO123.out BK101.out (by decide)));replace BK102:=zh (yw (g:=gb102) (o:=.cells #[.string (⟨#[]⟩ : ByteArray),.slice none 0 0,.slice none 0 0] 54 (0,0)) (by (with_reducible repeat first|apply ze|apply zf|apply zg);exact BK102.out) hg (Kd.R_ne HO123.out BK102.out (by decide)));replace HB:=zh (hb);have HO127:=zh (ho);clear HO123 ho hb hg hat;obtain ⟨Ao32,co32,eo32⟩:=yk HO127.out;(first|subst eo32|(injection eo32 with f1_ f2_ f3_;have f4_:=f1_.symm;have f5_:=f3_.symm;clear f1_ f2_ f3_;subst f4_;subst f5_));refine hK.out _ _ ⟨(zz BK101.out 0).trans rfl,(zz BK101.out 1).trans rfl,(zz BK101.out 2).trans rfl,((HB.out.cell (zl w _ hw120_0)).trans hw120_0),((HB.out.cell (zl w _ hw120_1)).trans hw120_1),((HB.out.cell (zl w _ hw124_0)).trans hw124_0),((HB.out.cell (zl w _ hw124_1)).trans hw124_1)⟩ (fun hHeld => ?_);clear hK K;refine norm_ (a':=?_) ?_ ?_;rotate_left
         ·
          show Act.put _ (some 55) _=_
          simp only [Act.put,zi,zj,zk,zG,zH]
          rfl
         refine pure_ (i:=15) (N:=some 56) (v:=?_) (a':=?_) (bm_ 16 19) rfl rfl (any_of HT_.out (by kernel_rfl)) (fun _ _ _ h => h) (Or.inl ⟨by rfl,?_⟩) ?_ ?_;rotate_left
         ·
          intro w'
          go_simp
          with_reducible rfl
         rotate_left
         ·
          simp only [Act.put,zi,zj,zk,zG,zH]
          rfl
         refine one_ (i:=16) (N:=some 57) (bm_ 17 19) rfl rfl (one_of HT_.out (by kernel_rfl)) (by decide) (fun K hK => ?_);refine value_ (w1:=?_) (v:=?_) (by rfl) rfl ?_ ?_;rotate_left 2
         ·
          go_simp
          constructor
          ·
           rfl
          rfl
         refine hK.out _ _ ⟨(zz (zg BK101.out _) 0).trans rfl,(zz (zg BK101.out _) 1).trans rfl,(zz (zg BK101.out _) 2).trans rfl,(World.cell?_alloc_lt _ _ _ (zl _ _ (((HB.out.cell (zl w _ hw120_0)).trans hw120_0)))).trans (((HB.out.cell (zl w _ hw120_0)).trans hw120_0)),(World.cell?_alloc_lt _ _ _ (zl _ _ (((HB.out.cell (zl w _ hw120_1)).trans hw120_1)))).trans (((HB.out.cell (zl w _ hw120_1)).trans hw120_1)),(World.cell?_alloc_lt _ _ _ (zl _ _ (((HB.out.cell (zl w _ hw124_0)).trans hw124_0)))).trans (((HB.out.cell (zl w _ hw124_0)).trans hw124_0)),(World.cell?_alloc_lt _ _ _ (zl _ _ (((HB.out.cell (zl w _ hw124_1)).trans hw124_1)))).trans (((HB.out.cell (zl w _ hw124_1)).trans hw124_1))⟩ (fun hHeld => ?_);clear hK K;refine norm_ (a':=?_) ?_ ?_;rotate_left
         ·
          show Act.put _ (some 57) _=_
          simp only [Act.put,zi,zj,zk,zG,zH]
          rfl
         refine one_ (i:=17) (N:=some 58) (bm_ 18 19) rfl rfl (one_of HT_.out (by kernel_rfl)) (by decide) (fun K hK => ?_);refine Kd.S_append_step k84 (w0:=w) w.heap.size (by rfl) (.tmp 41) (.tmp 57) 52 84 (.agg #[(.string ⟨#[]⟩),(.slice none 0 0)]) 40 rfl Tryz.underlying52 info84 rfl (by decide) (by omega) u5 x5_2 (⟨(rd_T84 l0_2 x6_2).f0,y125⟩ : S84) [.string ((rd_T84 l0_2 x6_2).f0),.slice Ao32 y125.length co32] (fun _ => True) (fun k_ => some k_=(.slice Ao32 y125.length co32 : Value).ownBlock) rfl rfl ?aP (fun k_ hk_ => ((zM (ok':=fun k_ => ((fun _ => True)) k_∧some k_≠(u5 : Value).ownBlock) (Kd.R_apart' (HO127.out) (Kd.S_typed HO_5.out) (by decide)) (fun k_ hk => ⟨trivial,hk.2⟩))).1 k_ hk_.symm) ?aF ?aO ?aB ?aS ?aL ?_;(case aP => exact k84_mkM _ _ _ (⟨(rd_T84 l0_2 x6_2).f0,y125⟩ : S84) (zM (Kd.R_tight rfl (zM (ok':=fun k_ => ((fun _ => True)) k_∧some k_≠(u5 : Value).ownBlock) (Kd.R_apart' (HO127.out) (Kd.S_typed HO_5.out) (by decide)) (fun k_ hk => ⟨trivial,hk.2⟩))) (fun _ h_ => h_)))
         (case aB => exact (by repeat (with_reducible first|exact HB.out|apply za|apply zb|apply zc|refine zd ?_ GE101.out|refine zd ?_ GE102.out)))
         (case aF => exact (fun _ _ => trivial))
         (case aO => exact (by (with_reducible repeat (first|apply Kd.S_alloc|apply Kd.S_drewN|apply Kd.S_drew));exact Kd.S_mono HO_5.out (fun k_ hk => ⟨trivial,fun e_ => hk.2 e_⟩)))
         (case aS => exact (zB (by repeat (with_reducible first|exact HB.out|apply za|apply zb|apply zc|refine zd ?_ GE101.out|refine zd ?_ GE102.out))))
         (case aL => have:=LMc25.out;omega)
         intro v129 w33 ho hb hg hat;rw [← Ny128.out] at ho;replace HO_3:=zh (Kd.S_over' (by (with_reducible repeat (first|apply Kd.S_alloc|apply Kd.S_drewN|apply Kd.S_drew));exact HO_3.out) (Kd.S_typed (by (with_reducible repeat (first|apply Kd.S_alloc|apply Kd.S_drewN|apply Kd.S_drew));exact HO_5.out)) (by decide) hg);replace BK101:=zh (yw (g:=gb101) (o:=.cells #[.string a0_0,.slice A0_1 l0_1.length c0_1,.slice (some ad120) l0_2.length c0_2] 54 (0,0)) (by (with_reducible repeat first|apply ze|apply zf|apply zg);exact BK101.out) hg (Kd.S_ne HO_5.out BK101.out (by decide)));replace BK102:=zh (yw (g:=gb102) (o:=.cells #[.string (⟨#[]⟩ : ByteArray),.slice none 0 0,.slice none 0 0] 54 (0,0)) (by (with_reducible repeat first|apply ze|apply zf|apply zg);exact BK102.out) hg (Kd.S_ne HO_5.out BK102.out (by decide)));replace HB:=zh (hb);have HO130:=zh (ho);clear HO_5 HO127 ho hb hg hat;refine hK.out _ _ ⟨(zz BK101.out 0).trans rfl,(zz BK101.out 1).trans rfl,(zz BK101.out 2).trans rfl,((HB.out.cell (zl w _ hw120_0)).trans hw120_0),((HB.out.cell (zl w _ hw120_1)).trans hw120_1),((HB.out.cell (zl w _ hw124_0)).trans hw124_0),((HB.out.cell (zl w _ hw124_1)).trans hw124_1)⟩ (fun hHeld => ?_);clear hK K;refine norm_ (a':=?_) ?_ ?_;rotate_left
         ·
          show Act.put _ (some 58) _=_
          simp only [Act.put,zi,zj,zk,zG,zH]
          rfl
         refine pure_ (i:=18) (N:=some 5) (v:=?_) (a':=?_) (bm_ 19 19) rfl rfl (any_of HT_.out (by kernel_rfl)) (fun _ _ _ h => h) (Or.inl ⟨by rfl,?_⟩) ?_ ?_;rotate_left
         ·
          intro w'
          go_simp
          with_reducible rfl
         rotate_left
         ·
          simp only [Act.put,zi,zj,zk,zG,zH]
          rfl
         refine done_ (done_of HT_.out (by kernel_rfl)) ?_
         try go_wp2
         go_roundg k2
         case measure => have:=HK1.out;have:=HK2.out;omega
         case rel => exact ⟨(y128),(wrap64 (x6_2 + 1)),(by first|rfl|(simp;done)|(simp [*];done)),H',⟨by have:=HK1.out;have:=HK2.out;omega⟩,⟨by (with_reducible repeat (first|apply Kd.S_alloc|apply Kd.S_drewN|apply Kd.S_drew));exact HO_3.out⟩,⟨by (with_reducible repeat (first|apply Kd.S_alloc|apply Kd.S_drewN|apply Kd.S_drew));exact HO130.out⟩,⟨by (with_reducible repeat first|apply ze|apply zf|apply zg);exact BK101.out⟩,⟨by (with_reducible repeat first|apply ze|apply zf|apply zg);exact BK102.out⟩,⟨by repeat (with_reducible first|exact HB.out|apply za|apply zb|apply zc|refine zd ?_ GE101.out|refine zd ?_ GE102.out)⟩⟩
        rw [if_neg c25] at H;exact absurd H (by simp)
       rw [if_neg c24] at H;exact absurd H (by simp)
      rw [if_neg c23] at H;exact absurd H (by simp)
     rw [if_neg c22] at H;have c22b0 : decide (x6_2<(l0_2.length : Int))=false:=decide_eq_false c22;clear c22;simp only [Option.some.injEq,Prod.mk.injEq] at H;obtain ⟨rfl,rfl,rfl⟩:=H;have hnb34:=NB101_102.out;have hnc34:=NB102_101.out;obtain ⟨hcz35_0,hcz35_1,hcz35_2,hfz35_0,hfz35_1,hfz35_2⟩:=cB3 BK101.out;obtain ⟨Ao36,co36,eo36⟩:=Kd.S_slice HO_3.out;subst eo36;obtain ⟨Ao37,co37,eo37⟩:=Kd.S_slice HO_5.out;subst eo37;obtain ⟨hcz38_0,hcz38_1,hcz38_2,hfz38_0,hfz38_1,hfz38_2⟩:=cB3 BK102.out
     go_wp2
     refine bodyPost_ret (results_cell_row rfl _ _ gb102 54 #[.string a0_0,.slice Ao36 x3_1.length co36,.slice Ao37 x5_2.length co37] (0,0) _ rfl (by (with_reducible repeat first|apply ze|apply zf|apply zg);refine zL (cs:=#[.string a0_0,.slice Ao36 x3_1.length co36,.slice none 0 0]) ?_ 2 _ rfl;(with_reducible repeat first|apply ze|apply zf|apply zg);refine zL (cs:=#[.string a0_0,.slice none 0 0,.slice none 0 0]) ?_ 1 _ rfl;(with_reducible repeat first|apply ze|apply zf|apply zg);refine zL (cs:=#[.string (⟨#[]⟩ : ByteArray),.slice none 0 0,.slice none 0 0]) ?_ 0 _ rfl;(with_reducible repeat first|apply ze|apply zf|apply zg);refine cS2 ?_ NB102_101.out;(with_reducible repeat first|apply ze|apply zf|apply zg);exact BK102.out) Tryz.underlying54 rfl (by kernel_rfl)) rfl ?_;exact ⟨_,_,by first|rfl|(simp [yt,yu] <;> rfl)|(simp [*,yt,yu] <;> rfl),by (with_reducible repeat (first|apply Kd.S_alloc|apply Kd.S_drewN|apply Kd.S_drew));exact Kd.S_mono (Kd.S_far (p:=⟨gb102,2,none⟩) (Kd.S_far (p:=⟨gb102,1,none⟩) (Kd.S_far (p:=⟨gb102,0,none⟩) (Kd.S_far (p:=⟨gb101,2,none⟩) (Kd.S_far (p:=⟨gb101,1,none⟩) (Kd.S_types (Kd.S_types HO_3.out BK101.out (by decide)) BK102.out (by decide)) (fun _ hk => hk.1.2) (.slice Ao36 x3_1.length co36)) (fun _ hk => hk.1.2) (.slice Ao37 x5_2.length co37)) (fun _ hk => hk.2) (.string a0_0)) (fun _ hk => hk.2) (.slice Ao36 x3_1.length co36)) (fun _ hk => hk.2) (.slice Ao37 x5_2.length co37)) (fun _ hk => trivial),by (with_reducible repeat (first|apply Kd.S_alloc|apply Kd.S_drewN|apply Kd.S_drew));exact Kd.S_mono (Kd.S_far (p:=⟨gb102,2,none⟩) (Kd.S_far (p:=⟨gb102,1,none⟩) (Kd.S_far (p:=⟨gb102,0,none⟩) (Kd.S_far (p:=⟨gb101,2,none⟩) (Kd.S_far (p:=⟨gb101,1,none⟩) (Kd.S_types (Kd.S_types HO_5.out BK101.out (by decide)) BK102.out (by decide)) (fun _ hk => hk.1.2) (.slice Ao36 x3_1.length co36)) (fun _ hk => hk.1.2) (.slice Ao37 x5_2.length co37)) (fun _ hk => hk.2) (.string a0_0)) (fun _ hk => hk.2) (.slice Ao36 x3_1.length co36)) (fun _ hk => hk.2) (.slice Ao37 x5_2.length co37)) (fun _ hk => trivial),by repeat (with_reducible first|exact HB.out|apply za|apply zb|apply zc|refine zd ?_ GE101.out|refine zd ?_ GE102.out)⟩

end Go.Proofs.YtceggklknggfdaaGreat.Q
end
section
namespace Go.Proofs.YtceggklknggfdaaGreat.Q
open Go.RowKit Go.Proofs.YtceggklknggfdaaGreatW.PrintWords Go.Proofs.YtceggklknggfdaaGreatW.PrintLast Go.Proofs.YtceggklknggfdaaGreatW.PrintMore
attribute [local go_sem] max2_int min2_int max_two min_two max_three min_three max_four min_four max2_str min2_str str_geq str_gtr str_leq   -- for this text's walks alone
set_option linter.unusedVariables false
set_option linter.unusedSimpArgs false

mutual
def F5.l0 : Nat→List (S104)→List (S104)→Int→Option ((List (S104)))
 | 0,_,_,_ => none
 | k + 1,x0,x3,x4 => if x4<(x0.length : Int) then (F5.l1 k x0 x3 x4 (([] : List (S129))) 0) else (some x3)
def F5.l1 : Nat→List (S104)→List (S104)→Int→List (S129)→Int→Option ((List (S104)))
 | 0,_,_,_,_,_ => none
 | k + 1,x0,x3,x4,x5,x6 => if 0≤x4 then (if x4<(x0.length : Int) then (if x6<(((rd_T104 x0 x4).f1.f0).length : Int) then ((some (([] : List (S144)) : List (S144))).bind fun y138 => (if 0≤x6 then (if y138.length + ((rd_T129 ((rd_T104 x0 x4).f1.f0) x6).f0).length<2513169434916 then (if x5.length<5864062014805 then (F5.l1 k x0 x3 x4 (x5 ++ [(⟨(y138 ++ ((rd_T129 ((rd_T104 x0 x4).f1.f0) x6).f0))⟩ : S129)]) (wrap64 (x6 + 1))) else (none)) else (none)) else (none))) else (if x3.length<3518437208883 then (F5.l0 k x0 (x3 ++ [(⟨(rd_T104 x0 x4).f0,(⟨x5⟩ : S78)⟩ : S104)]) (wrap64 (x4 + 1))) else (none))) else (none)) else (none)
end
def F5.f (k : Nat) (l0 : List (S104)) : Option ((List (S104))):=F5.l0 k l0 (([] : List (S104))) 0
theorem F5.mono_l : ∀ k,(∀ y0 y1 y2,LeO (F5.l0 k y0 y1 y2) (F5.l0 (k + 1) y0 y1 y2))∧(∀ y0 y1 y2 y3 y4,LeO (F5.l1 k y0 y1 y2 y3 y4) (F5.l1 (k + 1) y0 y1 y2 y3 y4))
 | 0 => ⟨fun _ _ _ r h => by simp [F5.l0] at h,fun _ _ _ _ _ r h => by simp [F5.l1] at h⟩
 | k + 1 => by
  obtain ⟨ih0,ih1⟩:=F5.mono_l k;refine ⟨?_,?_⟩
  ·
   intro y0 y1 y2
   unfold F5.l0
   repeat' first|(with_reducible first|exact ih0 _ _ _|exact ih1 _ _ _ _ _|exact zQ _|exact zN _|refine zP ?_ ?_|refine zO ?_ (fun _ => ?_))|refine zP ?_ ?_|refine zO ?_ (fun _ => ?_)
  intro y0 y1 y2 y3 y4;unfold F5.l1
  repeat' first|(with_reducible first|exact ih0 _ _ _|exact ih1 _ _ _ _ _|exact zQ _|exact zN _|refine zP ?_ ?_|refine zO ?_ (fun _ => ?_))|refine zP ?_ ?_|refine zO ?_ (fun _ => ?_)
theorem F5.mono : ∀ a0 k,LeO (F5.f k a0) (F5.f (k + 1) a0):=by
 intro a0 k;obtain ⟨ih0,ih1⟩:=F5.mono_l k;unfold F5.f
 repeat' first|(with_reducible first|exact ih0 _ _ _|exact ih1 _ _ _ _ _|exact zQ _|exact zN _|refine zP ?_ ?_|refine zO ?_ (fun _ => ?_))|refine zP ?_ ?_|refine zO ?_ (fun _ => ?_)
set_option maxHeartbeats 8000000 in
set_option maxRecDepth 100000 in
theorem F5.calls (k : Nat) (A0 : Option Addr) (c0 : Nat) (l0 : List (S104)) (r : List (S104)) (w : World) (hr0 : Kd.C k104 w A0 l0.length l0) (hc0 : l0.length≤c0) (h : F5.f k l0=some r) :
  Calls Tryz.prog 67 #[.slice A0 l0.length c0] w fun e w' => ∃ v0_ : Value,e = .returned (v0_)∧Kd.R k104 104 w' w.heap.size (fun _ => True) v0_ r∧Below w.heap.size w w':=by
 have hu129:=Tryz.underlying129;have hu78:=Tryz.underlying78;have hu104:=Tryz.underlying104;have HR0:=zh hr0;have HC0:=zh hc0;clear hr0 hc0;have HB:=zh (Below.refl w.heap.size w);have H : (F5.l0 k l0 (([] : List (S104))) 0)=some r:=h;clear h;obtain ⟨y131,hy131⟩ : ∃ y_ : List (S104),y_=(([] : List (S104))):=⟨_,rfl⟩;replace H : (F5.l0 k l0 y131 0)=some r:=by first|(rw [hy131];with_reducible exact H)|(have H2_:=(Option.bind_some _ _).symm.trans H;rw [hy131];with_reducible exact H2_)|(have H2_:=(Option.bind_some _ _).symm.trans H;with_reducible exact H2_)|with_reducible exact H|(rw [hy131];exact H)|exact H
 have Ny131:=zh hy131;clear hy131;have H':=zh H;clear H
 go_enter Tryz.func67,Tryz.ntmps67
 go_wp2_with (first|((with_reducible refine zK (N:=7) rfl ?_);refine Kd.R_lit k104 _ 104 ?hg (N:=7) ?hd (xs:=([] : List (S104))) (inner:=[]) (ok:=fun _ => True) (okp:=fun _ => True) ?hr ?hp (fun _ hk => hk) trivial (Below.refl _ _) (ye _) (by simp) ?_;(case hd|hg => rfl);(case hr => go_simp <;> rfl);(case hp => exact (Reps.none _ _));intro v132 w2 ho3 hb hg_ hnew_;clear hg_ hnew_;(first|rw [← Ny131.out] at ho3|(simp only [Int.reduceToNat] at ho3;rw [← Ny131.out] at ho3));have HO133:=zh (yy ho3 (zB (by repeat (with_reducible first|exact HB.out|apply za|apply zb|apply zc))));replace HB:=zh (zC (by repeat (with_reducible first|exact HB.out|apply za|apply zb|apply zc)) hb);clear hb ho3))
 go_loopg [3,4] k (fun kq v3 v4 w' => ∃ (x3_1 : List (S104)) (x4_1 : Int),v4 = .int .i64 x4_1∧Aside0 (F5.l0 kq l0 x3_1 x4_1=some r)∧Aside0 (kq≤k)∧Aside0 (Kd.R k104 104 w' w.heap.size (fun _ => True) v3 x3_1)∧Aside0 (Below w.heap.size w w'))
 case atStart => exact ⟨(y131),(0),(by first|rfl|(simp;done)|(simp [*];done)),H',⟨ye _⟩,⟨by (with_reducible repeat (first|apply zm|apply zn|apply zo));exact HO133.out⟩,⟨by repeat (with_reducible first|exact HB.out|apply za|apply zb|apply zc)⟩⟩
 case round =>
  clear H'
  try clear p2
  obtain ⟨x3_1,x4_1,rfl,HA,HK1,HO_3,HB⟩:=hrel
  cases gk with
  | zero => exact absurd HA.out (by simp [F5.l0])
  | succ k1 =>
   have H:=HA.out;clear HA;simp only [F5.l0] at H
   by_cases c4 : x4_1<(l0.length : Int)
   ·
    rw [if_pos c4] at H
    have c4b0 : decide (x4_1<(l0.length : Int))=true:=decide_eq_true c4;clear c4;obtain ⟨y134,hy134⟩ : ∃ y_ : List (S129),y_=(([] : List (S129))):=⟨_,rfl⟩;replace H : (F5.l1 k1 l0 x3_1 x4_1 y134 0)=some r:=by first|(rw [hy134];with_reducible exact H)|(have H2_:=(Option.bind_some _ _).symm.trans H;rw [hy134];with_reducible exact H2_)|(have H2_:=(Option.bind_some _ _).symm.trans H;with_reducible exact H2_)|with_reducible exact H|(rw [hy134];exact H)|exact H
    have Ny134:=zh hy134;clear hy134;have H':=zh H;clear H
    go_wp2_with (first|((with_reducible refine zK (N:=14) rfl ?_);refine Kd.S_lit k129 _ 129 ?hg (N:=14) ?hd (xs:=([] : List (S129))) (inner:=[]) (ok:=fun _ => True) (okp:=fun _ => True) ?hr ?hp (fun _ hk => hk) trivial (Below.refl _ _) (ye _) (by simp) ?_;(case hd|hg => rfl);(case hr => go_simp <;> rfl);(case hp => exact (Reps.none _ _));intro v135 w5 ho6 hb hg_ hnew_;clear hg_ hnew_;(first|rw [← Ny134.out] at ho6|(simp only [Int.reduceToNat] at ho6;rw [← Ny134.out] at ho6));replace HO_3:=zh (Kd.R_elder' (by (with_reducible repeat (first|apply zm|apply zn|apply zo));exact HO_3.out) (Kd.S_base ho6) hb);have HO136:=zh (Kd.S_lower ho6 (zB (by repeat (with_reducible first|exact HB.out|apply za|apply zb|apply zc))));replace HB:=zh (zC (by repeat (with_reducible first|exact HB.out|apply za|apply zb|apply zc)) hb);clear hb ho6))
    go_loopg [5,6] k1 (fun kq v5 v6 w' => ∃ (x5_2 : List (S129)) (x6_2 : Int),v6 = .int .i64 x6_2∧Aside0 (F5.l1 kq l0 x3_1 x4_1 x5_2 x6_2=some r)∧Aside0 (kq≤k1)∧Aside0 (Kd.R k104 104 w' w.heap.size (fun k_ => some k_≠(v5 : Value).ownBlock) u3 x3_1)∧Aside0 (Kd.S k129 129 w' w.heap.size (fun _ => True) v5 x5_2)∧Aside0 (Below w.heap.size w w'))
    case atStart => exact ⟨(y134),(0),(by first|rfl|(simp;done)|(simp [*];done)),H',⟨ye _⟩,⟨by (with_reducible repeat (first|apply zm|apply zn|apply zo));exact zM HO_3.out (fun _ hk => hk.2)⟩,⟨by (with_reducible repeat (first|apply Kd.S_alloc|apply Kd.S_drewN|apply Kd.S_drew));exact HO136.out⟩,⟨by repeat (with_reducible first|exact HB.out|apply za|apply zb|apply zc)⟩⟩
    case round =>
     clear H'
     try clear p2
     try clear c4 c4b0 c6
     try clear p2
     obtain ⟨x5_2,x6_2,rfl,HA,HK2,HO_3,HO_5,HB⟩:=hrel
     cases gk with
     | zero => exact absurd HA.out (by simp [F5.l1])
     | succ k2 =>
      have H:=HA.out;clear HA;simp only [F5.l1] at H
      by_cases c7 : 0≤x4_1
      ·
       rw [if_pos c7] at H
       have c7b0 : decide (0≤x4_1)=true:=decide_eq_true c7;clear c7
       by_cases c8 : x4_1<(l0.length : Int)
       ·
        rw [if_pos c8] at H
        have c8b0 : decide (x4_1<(l0.length : Int))=true:=decide_eq_true c8;clear c8
        by_cases c9 : x6_2<(((rd_T104 l0 x4_1).f1.f0).length : Int)
        ·
         rw [if_pos c9] at H
         have c9b0 : decide (x6_2<(((rd_T104 l0 x4_1).f1.f0).length : Int))=true:=decide_eq_true c9;clear c9;obtain ⟨y138,hy138⟩ : ∃ y_ : List (S144),y_=(([] : List (S144))):=⟨_,rfl⟩;replace H : (if 0≤x6_2 then (if y138.length + ((rd_T129 ((rd_T104 l0 x4_1).f1.f0) x6_2).f0).length<2513169434916 then (if x5_2.length<5864062014805 then (F5.l1 k2 l0 x3_1 x4_1 (x5_2 ++ [(⟨(y138 ++ ((rd_T129 ((rd_T104 l0 x4_1).f1.f0) x6_2).f0))⟩ : S129)]) (wrap64 (x6_2 + 1))) else (none)) else (none)) else (none))=some r:=by first|(rw [hy138];with_reducible exact H)|(have H2_:=(Option.bind_some _ _).symm.trans H;rw [hy138];with_reducible exact H2_)|(have H2_:=(Option.bind_some _ _).symm.trans H;with_reducible exact H2_)|with_reducible exact H|(rw [hy138];exact H)|exact H
         have Ny138:=zh hy138;clear hy138
         by_cases c10 : 0≤x6_2
         ·
          rw [if_pos c10] at H
          have c10b0 : decide (0≤x6_2)=true:=decide_eq_true c10;clear c10
          by_cases c11 : y138.length + ((rd_T129 ((rd_T104 l0 x4_1).f1.f0) x6_2).f0).length<2513169434916
          ·
           rw [if_pos c11] at H
           have LMc11:=zh c11;clear c11;obtain ⟨y143,hy143⟩ : ∃ y_ : List (S144),y_=(y138 ++ ((rd_T129 ((rd_T104 l0 x4_1).f1.f0) x6_2).f0)):=⟨_,rfl⟩;replace H : (if x5_2.length<5864062014805 then (F5.l1 k2 l0 x3_1 x4_1 (x5_2 ++ [(⟨y143⟩ : S129)]) (wrap64 (x6_2 + 1))) else (none))=some r:=by first|(rw [hy143];with_reducible exact H)|(have H2_:=(Option.bind_some _ _).symm.trans H;rw [hy143];with_reducible exact H2_)|(have H2_:=(Option.bind_some _ _).symm.trans H;with_reducible exact H2_)|with_reducible exact H|(rw [hy143];exact H)|exact H
           have Ny143:=zh hy143;clear hy143
           by_cases c12 : x5_2.length<5864062014805
           ·
            rw [if_pos c12] at H
            have LMc12:=zh c12;clear c12;obtain ⟨y146,hy146⟩ : ∃ y_ : List (S129),y_=(x5_2 ++ [(⟨y143⟩ : S129)]):=⟨_,rfl⟩;replace H : (F5.l1 k2 l0 x3_1 x4_1 y146 (wrap64 (x6_2 + 1)))=some r:=by first|(rw [hy146];with_reducible exact H)|(have H2_:=(Option.bind_some _ _).symm.trans H;rw [hy146];with_reducible exact H2_)|(have H2_:=(Option.bind_some _ _).symm.trans H;with_reducible exact H2_)|with_reducible exact H|(rw [hy146];exact H)|exact H
            have Ny146:=zh hy146;clear hy146;have H':=zh H;clear H;have p137 : 0≤(x4_1 : Int):=zy (by first|(with_reducible assumption)|assumption);have q137 : x4_1<(l0.length : Int):=zy (by first|(with_reducible assumption)|assumption);obtain ⟨ad137,A137_1,c137_1,e137,hx137_0,hx137_1,hl137_1,hi137_1⟩:=at_T104 HR0.out x4_1 p137 q137
            cases e137
            replace hx137_0:=(HB.out.cell (zl w _ hx137_0)).trans hx137_0;replace hx137_1:=(HB.out.cell (zl w _ hx137_1)).trans hx137_1;have HR137_1:=zh hi137_1;have HC137_1:=zh hl137_1;clear hi137_1 hl137_1;replace p137:=eq_true p137;replace q137:=eq_true q137
            go_wp2_with (first|((with_reducible refine zK (N:=27) rfl ?_);refine Kd.R_lit k144 _ 144 ?hg (N:=27) ?hd (xs:=([] : List (S144))) (inner:=[]) (ok:=fun _ => True) (okp:=fun _ => True) ?hr ?hp (fun _ hk => hk) trivial (Below.refl _ _) (ye _) (by simp) ?_;(case hd|hg => rfl);(case hr => go_simp <;> rfl);(case hp => exact (Reps.none _ _));intro v139 w13 ho14 hb hg_ hnew_;clear hg_ hnew_;(first|rw [← Ny138.out] at ho14|(simp only [Int.reduceToNat] at ho14;rw [← Ny138.out] at ho14));replace HO_3:=zh (Kd.R_elder' (by (with_reducible repeat (first|apply zm|apply zn|apply zo));exact HO_3.out) (Kd.R_base ho14) hb);replace HO_5:=zh (Kd.S_elder' (by (with_reducible repeat (first|apply Kd.S_alloc|apply Kd.S_drewN|apply Kd.S_drew));exact HO_5.out) (Kd.R_base ho14) hb);have HO140:=zh (yy ho14 (zB (by repeat (with_reducible first|exact HB.out|apply za|apply zb|apply zc))));replace HB:=zh (zC (by repeat (with_reducible first|exact HB.out|apply za|apply zb|apply zc)) hb);clear hb ho14;have p141 : 0≤(x4_1 : Int):=zy (by first|(with_reducible assumption)|assumption);have q141 : x4_1<(l0.length : Int):=zy (by first|(with_reducible assumption)|assumption);obtain ⟨ad141,A141_1,c141_1,e141,hx141_0,hx141_1,hl141_1,hi141_1⟩:=at_T104 HR0.out x4_1 p141 q141;obtain rfl : ad137=ad141:=(by injection e141);replace hx141_0:=(HB.out.cell (zl w _ hx141_0)).trans hx141_0;replace hx141_1:=(HB.out.cell (zl w _ hx141_1)).trans hx141_1;have HR141_1:=zh hi141_1;have HC141_1:=zh hl141_1;clear hi141_1 hl141_1;replace p141:=eq_true p141;replace q141:=eq_true q141;have p142 : 0≤(x6_2 : Int):=zy (by first|(with_reducible assumption)|assumption);have q142 : x6_2<(((rd_T104 l0 x4_1).f1.f0).length : Int):=zy (by first|(with_reducible assumption)|assumption);obtain ⟨ad142,A142_0,c142_0,e142,hx142_0,hl142_0,hi142_0⟩:=at_T129 HR141_1.out x6_2 p142 q142;cases e142;replace hx142_0:=(HB.out.cell (zl w _ hx142_0)).trans hx142_0;have HR142_0:=zh hi142_0;have HC142_0:=zh hl142_0;clear hi142_0 hl142_0;replace p142:=eq_true p142;replace q142:=eq_true q142)|((with_reducible refine yB (b:=.append) (xs:=#[.tmp 27,.tmp 37]) rfl ?_);at_builtin;refine Kd.R_append_rows k144 (w0:=w) w.heap.size rfl (.tmp 27) (.tmp 37) 127 144 (.agg #[(.int .i64 0),(.string ⟨#[]⟩),(.int .i64 0),(.int .i64 0),(.string ⟨#[]⟩)]) 56 rfl Tryz.underlying127 info144 rfl (by decide) (by omega) v139 y138 ((rd_T129 ((rd_T104 l0 x4_1).f1.f0) x6_2).f0) _ _ _ (fun _ => True) (fun _ => False) rfl rfl ?aO ?aR (fun _ _ h => h) (fun _ h => h.elim) ?aF ?aB ?aS ?aL ?_;(case aR => repeat (first|exact (Kd.C_below HR142_0.out HB.out)|(with_reducible refine Kd.C_alloc ?_ _)|(with_reducible refine Kd.C_drewN ?_ _)|(with_reducible refine Kd.C_drew ?_)));(case aB => exact (by repeat (with_reducible first|exact HB.out|apply za|apply zb|apply zc)));(case aF => exact (fun _ _ => trivial));(case aO => exact (by (with_reducible repeat (first|apply zm|apply zn|apply zo));exact HO140.out));(case aS => exact (zB (by repeat (with_reducible first|exact HB.out|apply za|apply zb|apply zc))));(case aL => have:=LMc11.out;omega);intro v144 w15 ho hb hg hat;rw [← Ny143.out] at ho;replace HO_3:=zh (Kd.R_after (ok:=(fun k_ => some k_≠(u5 : Value).ownBlock)) (by (with_reducible repeat (first|apply zm|apply zn|apply zo));exact HO_3.out) hg hat);replace HO_5:=zh (Kd.S_after (ok:=(fun _ => True)) (by (with_reducible repeat (first|apply Kd.S_alloc|apply Kd.S_drewN|apply Kd.S_drew));exact HO_5.out) hg hat);replace HB:=zh (hb);have HO145:=zh (ho);clear HO140 ho hb hg hat;obtain ⟨Ao16,co16,eo16⟩:=yk HO145.out;subst eo16)|((with_reducible refine yB (b:=.append) (xs:=#[.tmp 26,.tmp 40]) rfl ?_);at_builtin;refine Kd.S_append k129 (w0:=w) w.heap.size rfl (.tmp 26) (.tmp 40) 76 129 (.agg #[(.slice none 0 0)]) 24 rfl Tryz.underlying76 info129 rfl (by decide) (by omega) u5 x5_2 (⟨y143⟩ : S129) [.slice Ao16 y143.length co16] (fun _ => True) (fun k_ => some k_=(.slice Ao16 y143.length co16 : Value).ownBlock) rfl rfl ?aP (fun k_ hk_ => ((zM (ok':=fun k_ => ((fun _ => True)) k_∧some k_≠(u5 : Value).ownBlock) (Kd.R_apart' (HO145.out) (Kd.S_typed HO_5.out) (by decide)) (fun k_ hk => ⟨trivial,hk.2⟩))).1 k_ hk_.symm) ?aF ?aO ?aB ?aS ?aL ?_;(case aP => exact k129_mkM _ _ _ (⟨y143⟩ : S129) (zM (Kd.R_tight rfl (zM (ok':=fun k_ => ((fun _ => True)) k_∧some k_≠(u5 : Value).ownBlock) (Kd.R_apart' (HO145.out) (Kd.S_typed HO_5.out) (by decide)) (fun k_ hk => ⟨trivial,hk.2⟩))) (fun _ h_ => h_)));(case aB => exact (by repeat (with_reducible first|exact HB.out|apply za|apply zb|apply zc)));(case aF => exact (fun _ _ => trivial));(case aO => exact (by (with_reducible repeat (first|apply Kd.S_alloc|apply Kd.S_drewN|apply Kd.S_drew));exact Kd.S_mono HO_5.out (fun k_ hk => ⟨trivial,fun e_ => hk.2 e_⟩)));(case aS => exact (zB (by repeat (with_reducible first|exact HB.out|apply za|apply zb|apply zc))));(case aL => have:=LMc12.out;omega);intro v147 w17 ho hb hg hat;rw [← Ny146.out] at ho;replace HO_3:=zh (Kd.R_after (ok:=(fun k_ => some k_≠(.slice Ao16 y143.length co16 : Value).ownBlock)) (by (with_reducible repeat (first|apply zm|apply zn|apply zo));exact zM HO_3.out (fun _ hk => ⟨hk.2,hk.1⟩)) hg hat);replace HB:=zh (hb);have HO148:=zh (ho);clear HO_5 HO145 ho hb hg hat))
            go_roundg k2
            case measure => have:=HK1.out;have:=HK2.out;omega
            case rel => exact ⟨(y146),(wrap64 (x6_2 + 1)),(by first|rfl|(simp;done)|(simp [*];done)),H',⟨by have:=HK1.out;have:=HK2.out;omega⟩,⟨by (with_reducible repeat (first|apply zm|apply zn|apply zo));exact zM HO_3.out (fun _ hk => hk.2)⟩,⟨by (with_reducible repeat (first|apply Kd.S_alloc|apply Kd.S_drewN|apply Kd.S_drew));exact HO148.out⟩,⟨by repeat (with_reducible first|exact HB.out|apply za|apply zb|apply zc)⟩⟩
           rw [if_neg c12] at H;exact absurd H (by simp)
          rw [if_neg c11] at H;exact absurd H (by simp)
         rw [if_neg c10] at H;exact absurd H (by simp)
        rw [if_neg c9] at H;have c9b0 : decide (x6_2<(((rd_T104 l0 x4_1).f1.f0).length : Int))=false:=decide_eq_false c9;clear c9
        by_cases c18 : x3_1.length<3518437208883
        ·
         rw [if_pos c18] at H
         have LMc18:=zh c18;clear c18;obtain ⟨y150,hy150⟩ : ∃ y_ : List (S104),y_=(x3_1 ++ [(⟨(rd_T104 l0 x4_1).f0,(⟨x5_2⟩ : S78)⟩ : S104)]):=⟨_,rfl⟩;replace H : (F5.l0 k2 l0 y150 (wrap64 (x4_1 + 1)))=some r:=by first|(rw [hy150];with_reducible exact H)|(have H2_:=(Option.bind_some _ _).symm.trans H;rw [hy150];with_reducible exact H2_)|(have H2_:=(Option.bind_some _ _).symm.trans H;with_reducible exact H2_)|with_reducible exact H|(rw [hy150];exact H)|exact H
         have Ny150:=zh hy150;clear hy150;have H':=zh H;clear H;have p137 : 0≤(x4_1 : Int):=zy (by first|(with_reducible assumption)|assumption);have q137 : x4_1<(l0.length : Int):=zy (by first|(with_reducible assumption)|assumption);obtain ⟨ad137,A137_1,c137_1,e137,hx137_0,hx137_1,hl137_1,hi137_1⟩:=at_T104 HR0.out x4_1 p137 q137
         cases e137
         replace hx137_0:=(HB.out.cell (zl w _ hx137_0)).trans hx137_0;replace hx137_1:=(HB.out.cell (zl w _ hx137_1)).trans hx137_1;have HR137_1:=zh hi137_1;have HC137_1:=zh hl137_1;clear hi137_1 hl137_1;replace p137:=eq_true p137;replace q137:=eq_true q137;have p149 : 0≤(x4_1 : Int):=zy (by first|(with_reducible assumption)|assumption);have q149 : x4_1<(l0.length : Int):=zy (by first|(with_reducible assumption)|assumption);obtain ⟨ad149,A149_1,c149_1,e149,hx149_0,hx149_1,hl149_1,hi149_1⟩:=at_T104 HR0.out x4_1 p149 q149;obtain rfl : ad137=ad149:=(by injection e149);replace hx149_0:=(HB.out.cell (zl w _ hx149_0)).trans hx149_0;replace hx149_1:=(HB.out.cell (zl w _ hx149_1)).trans hx149_1;have HR149_1:=zh hi149_1;have HC149_1:=zh hl149_1;clear hi149_1 hl149_1;replace p149:=eq_true p149;replace q149:=eq_true q149;have ea_:=zU (hx137_1.symm.trans hx149_1);injection ea_ with ea_ en_ ec_;subst ea_;subst ec_;clear en_;obtain ⟨Ao19,co19,eo19⟩:=Kd.S_slice HO_5.out;subst eo19
         go_wp2_with (first|((with_reducible refine yB (b:=.append) (xs:=#[.tmp 42,.tmp 51]) rfl ?_);at_builtin;refine Kd.R_append k104 (w0:=w) w.heap.size rfl (.tmp 42) (.tmp 51) 38 104 (.agg #[(.string ⟨#[]⟩),(.slice none 0 0)]) 40 rfl Tryz.underlying38 info104 rfl (by decide) (by omega) u3 x3_1 (⟨(rd_T104 l0 x4_1).f0,(⟨x5_2⟩ : S78)⟩ : S104) [.string ((rd_T104 l0 x4_1).f0),.slice Ao19 x5_2.length co19] (fun _ => True) (fun k_ => ((fun _ => True)) k_∧some k_≠(u3 : Value).ownBlock) rfl rfl ?aP (fun _ hk => hk) ?aF ?aO ?aB ?aS ?aL ?_;(case aP => exact k104_mkM _ _ _ (⟨(rd_T104 l0 x4_1).f0,(⟨x5_2⟩ : S78)⟩ : S104) (zM (Kd.R_apart' ((Kd.S_R HO_5.out)) (Kd.R_typed HO_3.out) (by decide)) (fun k_ hk => ⟨trivial,hk.2⟩)));(case aB => exact (by repeat (with_reducible first|exact HB.out|apply za|apply zb|apply zc)));(case aF => exact (fun _ _ => trivial));(case aO => exact (by (with_reducible repeat (first|apply zm|apply zn|apply zo));exact zM HO_3.out (fun _ hk => trivial)));(case aS => exact (zB (by repeat (with_reducible first|exact HB.out|apply za|apply zb|apply zc))));(case aL => have:=LMc18.out;omega);intro v151 w20 ho hb hg hat;rw [← Ny150.out] at ho;replace HB:=zh (hb);have HO152:=zh (ho);clear HO_3 HO_5 ho hb hg hat))
         go_roundg k2
         case measure => have:=HK1.out;have:=HK2.out;omega
         case rel => exact ⟨(y150),(wrap64 (x4_1 + 1)),(by first|rfl|(simp;done)|(simp [*];done)),H',⟨by have:=HK1.out;have:=HK2.out;omega⟩,⟨by (with_reducible repeat (first|apply zm|apply zn|apply zo));exact HO152.out⟩,⟨by repeat (with_reducible first|exact HB.out|apply za|apply zb|apply zc)⟩⟩
        rw [if_neg c18] at H;exact absurd H (by simp)
       rw [if_neg c8] at H;exact absurd H (by simp)
      rw [if_neg c7] at H;exact absurd H (by simp)
   rw [if_neg c4] at H;have c4b0 : decide (x4_1<(l0.length : Int))=false:=decide_eq_false c4;clear c4;obtain rfl:=zU H
   go_wp2
   go_ret
   exact ⟨_,by first|rfl|(simp [yt,yu] <;> rfl)|(simp [*,yt,yu] <;> rfl),by (with_reducible repeat (first|apply zm|apply zn|apply zo));exact HO_3.out,by repeat (with_reducible first|exact HB.out|apply za|apply zb|apply zc)⟩

end Go.Proofs.YtceggklknggfdaaGreat.Q
end
section
namespace Go.Proofs.YtceggklknggfdaaGreat.Q
open Go.RowKit Go.Proofs.YtceggklknggfdaaGreatW.PrintWords Go.Proofs.YtceggklknggfdaaGreatW.PrintLast Go.Proofs.YtceggklknggfdaaGreatW.PrintMore
attribute [local go_sem] max2_int min2_int max_two min_two max_three min_three max_four min_four max2_str min2_str str_geq str_gtr str_leq
set_option linter.unusedVariables false
set_option linter.unusedSimpArgs false

def F08.f (k : Nat) (a0_0 : Int) (a0_1 : Int) (l0_2 : List (S104)) (l0_3 : List (S107)) : Option (Int×Int×(List (S104))×(List (S107))):=(F5.f k l0_2).bind fun t155 => ((some (([] : List (S107)) : List (S107))).bind fun y158 => (if y158.length + l0_3.length<2199023255552 then (some (a0_0,a0_1,t155,(y158 ++ l0_3))) else (none)))
theorem F08.mono : ∀ a0 a1 a2 a3 k,LeO (F08.f k a0 a1 a2 a3) (F08.f (k + 1) a0 a1 a2 a3):=by
 intro a0 a1 a2 a3 k;unfold F08.f
 repeat' first|(with_reducible first|exact F5.mono _ _|exact zQ _|exact zN _|refine zP ?_ ?_|refine zO ?_ (fun _ => ?_))|refine zP ?_ ?_|refine zO ?_ (fun _ => ?_)
set_option maxHeartbeats 8000000 in
set_option maxRecDepth 100000 in
theorem F08.calls (k : Nat) (a0_0 : Int) (a0_1 : Int) (A0_2 : Option Addr) (c0_2 : Nat) (l0_2 : List (S104)) (A0_3 : Option Addr) (c0_3 : Nat) (l0_3 : List (S107)) (r1 : Int) (r2 : Int) (r3 : List (S104)) (r4 : List (S107)) (w : World) (hr0_2 : Kd.C k104 w A0_2 l0_2.length l0_2) (hc0_2 : l0_2.length≤c0_2) (hr0_3 : Kd.C k107 w A0_3 l0_3.length l0_3) (hc0_3 : l0_3.length≤c0_3) (h : F08.f k a0_0 a0_1 l0_2 l0_3=some (r1,r2,r3,r4)) :
  Calls Tryz.prog 41 #[.agg #[.int .i64 a0_0,.int .i64 a0_1,.slice A0_2 l0_2.length c0_2,.slice A0_3 l0_3.length c0_3]] w fun e w' => ∃ v2_ v3_ : Value,e = .returned (.agg #[.int .i64 r1,.int .i64 r2,v2_,v3_])∧Kd.R k104 104 w' w.heap.size (fun _ => True) v2_ r3∧Kd.R k107 107 w' w.heap.size (fun _ => True) v3_ r4∧Below w.heap.size w w':=by
 have hu71:=Tryz.underlying71;have HR0_2:=zh hr0_2;have HC0_2:=zh hc0_2;clear hr0_2 hc0_2;have HR0_3:=zh hr0_3;have HC0_3:=zh hc0_3;clear hr0_3 hc0_3;have HB:=zh (Below.refl w.heap.size w);have H : ((F5.f k l0_2).bind fun t155 => ((some (([] : List (S107)) : List (S107))).bind fun y158 => (if y158.length + l0_3.length<2199023255552 then (some (a0_0,a0_1,t155,(y158 ++ l0_3))) else (none))))=some (r1,r2,r3,r4):=h;clear h;replace H:=zT.mp H;obtain ⟨t155,A20,H⟩:=H;replace H : ((some (([] : List (S107)) : List (S107))).bind fun y158 => (if y158.length + l0_3.length<2199023255552 then (some (a0_0,a0_1,t155,(y158 ++ l0_3))) else (none)))=some (r1,r2,r3,r4):=H;have A2:=zh A20;clear A20;obtain ⟨y158,hy158⟩ : ∃ y_ : List (S107),y_=(([] : List (S107))):=⟨_,rfl⟩;replace H : (if y158.length + l0_3.length<2199023255552 then (some (a0_0,a0_1,t155,(y158 ++ l0_3))) else (none))=some (r1,r2,r3,r4):=by first|(rw [hy158];with_reducible exact H)|(have H2_:=(Option.bind_some _ _).symm.trans H;rw [hy158];with_reducible exact H2_)|(have H2_:=(Option.bind_some _ _).symm.trans H;with_reducible exact H2_)|with_reducible exact H|(rw [hy158];exact H)|exact H
 have Ny158:=zh hy158;clear hy158
 by_cases c3 : y158.length + l0_3.length<2199023255552
 ·
  rw [if_pos c3] at H
  have LMc3:=zh c3;clear c3;obtain ⟨y161,hy161⟩ : ∃ y_ : List (S107),y_=(y158 ++ l0_3):=⟨_,rfl⟩;replace H : (some (a0_0,a0_1,t155,y161))=some (r1,r2,r3,r4):=by first|(rw [hy161];with_reducible exact H)|(have H2_:=(Option.bind_some _ _).symm.trans H;rw [hy161];with_reducible exact H2_)|(have H2_:=(Option.bind_some _ _).symm.trans H;with_reducible exact H2_)|with_reducible exact H|(rw [hy161];exact H)|exact H
  have Ny161:=zh hy161;clear hy161;simp only [Option.some.injEq,Prod.mk.injEq] at H;obtain ⟨rfl,rfl,rfl,rfl⟩:=H
  go_enter Tryz.func41,Tryz.ntmps41
  go_wp2_with (first|((with_reducible refine zK (N:=1) rfl ?_);refine zI ?hg (N:=1) ?hd (cs:=#[.int .i64 a0_0,.int .i64 a0_1,.slice A0_2 l0_2.length c0_2,.slice A0_3 l0_3.length c0_3]) (t:=71) ?hr ?_;(case hd|hg => rfl);(case hr => go_simp <;> rfl);intro gb153 hg w4 hbox hb;have BK153:=zh (hbox);have hH_:=cH (by repeat (with_reducible first|exact HB.out|apply za|apply zb|apply zc)) hb hg;have GW153:=zh hH_.1;have GE153:=GW153;replace HB:=zh hH_.2;clear hb hbox hg hH_)|((with_reducible refine zK (N:=2) rfl ?_);refine zI ?hg (N:=2) ?hd (cs:=#[.int .i64 0,.int .i64 0,.slice none 0 0,.slice none 0 0]) (t:=71) ?hr ?_;(case hd|hg => rfl);(case hr => go_simp <;> rfl);intro gb154 hg w5 hbox hb;have BK154:=zh (hbox);have hH_:=cH (by repeat (with_reducible first|exact HB.out|apply za|apply zb|apply zc|refine zd ?_ GE153.out)) hb hg;have GW154:=zh hH_.1;have GE154:=GW154;replace HB:=zh hH_.2;have NB153_154:=zh ((by rw [hg];exact yc (yi (g:=gb153) (o:=.cells #[.int .i64 a0_0,.int .i64 a0_1,.slice A0_2 l0_2.length c0_2,.slice A0_3 l0_3.length c0_3] 71 (0,0)) (by (with_reducible repeat first|apply ze|apply zf|apply zg);exact BK153.out)) : gb153≠gb154));have NB154_153:=zh NB153_154.out.symm;replace BK153:=zh (cD BK153.out (by (with_reducible repeat first|apply ze|apply zf|apply zg);exact BK153.out) hb);clear hb hbox hg hH_;have hnb6:=NB153_154.out;have hnc6:=NB154_153.out;obtain ⟨hcz7_0,hcz7_1,hcz7_2,hcz7_3,hfz7_0,hfz7_1,hfz7_2,hfz7_3⟩:=cB4 BK153.out)|((with_reducible refine zJ (f:=67) rfl ?_);refine yj (some 5) rfl rfl Tryz.func67 (by kernel_rfl) rfl #[.slice A0_2 l0_2.length c0_2] rfl (by (try simp only [zt,zu,zv]);first|done|rfl|(simp only [zw,zx];rfl)|(simp only [yr,ys,zV,zW];rfl)) ?_;(with_reducible refine (F5.calls k  _ _ l0_2 t155 _ ?side1 ?side2 A2.out).mono ?_);(case side1 => repeat (first|exact (Kd.C_below HR0_2.out HB.out)|(with_reducible refine Kd.C_alloc ?_ _)|(with_reducible refine Kd.C_drewN ?_ _)|(with_reducible refine Kd.C_drew ?_)));(case side2 => exact HC0_2.out);rintro e w8 ⟨v156,rfl,ho0,hb⟩;refine ⟨_,rfl,?_⟩;have HO157:=zh (yy ho0 (zB (by repeat (with_reducible first|exact HB.out|apply za|apply zb|apply zc|refine zd ?_ GE153.out|refine zd ?_ GE154.out))));replace BK153:=zh (cD BK153.out (by (with_reducible repeat first|apply ze|apply zf|apply zg);exact BK153.out) hb);replace BK154:=zh (cD BK154.out (by (with_reducible repeat first|apply ze|apply zf|apply zg);exact BK154.out) hb);replace HB:=zh (zC (by repeat (with_reducible first|exact HB.out|apply za|apply zb|apply zc|refine zd ?_ GE153.out|refine zd ?_ GE154.out)) hb);(try clear hb);(try clear hb2);(try clear hk);(try clear hi);(try clear ho0);obtain ⟨Ao9,co9,eo9⟩:=yk HO157.out;subst eo9;obtain ⟨hcz10_0,hcz10_1,hcz10_2,hcz10_3,hfz10_0,hfz10_1,hfz10_2,hfz10_3⟩:=cB4 BK153.out)|((with_reducible refine zK (N:=7) rfl ?_);refine Kd.R_lit k107 _ 107 ?hg (N:=7) ?hd (xs:=([] : List (S107))) (inner:=[]) (ok:=fun _ => True) (okp:=fun _ => True) ?hr ?hp (fun _ hk => hk) trivial (Below.refl _ _) (ye _) (by simp) ?_;(case hd|hg => rfl);(case hr => go_simp <;> rfl);(case hp => exact (Reps.none _ _));intro v159 w11 ho12 hb hg_ hnew_;clear hg_ hnew_;(first|rw [← Ny158.out] at ho12|(simp only [Int.reduceToNat] at ho12;rw [← Ny158.out] at ho12));replace HO157:=zh (yg (by (with_reducible repeat (first|apply zm|apply zn|apply zo));exact (zM (zE (p:=⟨gb153,2,none⟩) (yf HO157.out BK153.out (by decide)) (fun _ hk => hk.2) (.slice Ao9 t155.length co9)) (fun _ h_ => h_.1))) hb);have HO160:=zh (yy ho12 (zB (by repeat (with_reducible first|exact HB.out|apply za|apply zb|apply zc|refine zd ?_ GE153.out|refine zd ?_ GE154.out))));replace BK153:=zh (zD (g:=gb153) (o:=.cells #[.int .i64 a0_0,.int .i64 a0_1,.slice Ao9 t155.length co9,.slice A0_3 l0_3.length c0_3] 71 (0,0)) (by (with_reducible repeat first|apply ze|apply zf|apply zg);refine zL (cs:=#[.int .i64 a0_0,.int .i64 a0_1,.slice A0_2 l0_2.length c0_2,.slice A0_3 l0_3.length c0_3]) ?_ 2 _ rfl;(with_reducible repeat first|apply ze|apply zf|apply zg);exact BK153.out) hb);replace BK154:=zh (cD BK154.out (by (with_reducible repeat first|apply ze|apply zf|apply zg);refine zS ?_ NB154_153.out _;(with_reducible repeat first|apply ze|apply zf|apply zg);exact BK154.out) hb);replace HB:=zh (zC (by repeat (with_reducible first|exact HB.out|apply za|apply zb|apply zc|refine zd ?_ GE153.out|refine zd ?_ GE154.out)) hb);clear hb ho12;obtain ⟨hcz13_0,hcz13_1,hcz13_2,hcz13_3,hfz13_0,hfz13_1,hfz13_2,hfz13_3⟩:=cB4 BK153.out)|((with_reducible refine yB (b:=.append) (xs:=#[.tmp 7,.tmp 9]) rfl ?_);at_builtin;refine Kd.R_append_rows k107 (w0:=w) w.heap.size rfl (.tmp 7) (.tmp 9) 69 107 (.agg #[(.string ⟨#[]⟩),(.int .i64 0),(.bool false),(.int .i64 0),(.int .i64 0),(.string ⟨#[]⟩)]) 64 rfl Tryz.underlying69 info107 rfl (by decide) (by omega) v159 y158 l0_3 _ _ _ (fun _ => True) (fun _ => False) rfl rfl ?aO ?aR (fun _ _ h => h) (fun _ h => h.elim) ?aF ?aB ?aS ?aL ?_;(case aR => repeat (first|exact (Kd.C_below HR0_3.out HB.out)|(with_reducible refine Kd.C_alloc ?_ _)|(with_reducible refine Kd.C_drewN ?_ _)|(with_reducible refine Kd.C_drew ?_)));(case aB => exact (by repeat (with_reducible first|exact HB.out|apply za|apply zb|apply zc|refine zd ?_ GE153.out|refine zd ?_ GE154.out)));(case aF => exact (fun _ _ => trivial));(case aO => exact (by (with_reducible repeat (first|apply zm|apply zn|apply zo));exact HO160.out));(case aS => exact (zB (by repeat (with_reducible first|exact HB.out|apply za|apply zb|apply zc|refine zd ?_ GE153.out|refine zd ?_ GE154.out))));(case aL => have:=LMc3.out;omega);intro v162 w14 ho hb hg hat;rw [← Ny161.out] at ho;replace BK153:=zh (yw (g:=gb153) (o:=.cells #[.int .i64 a0_0,.int .i64 a0_1,.slice Ao9 t155.length co9,.slice A0_3 l0_3.length c0_3] 71 (0,0)) (by (with_reducible repeat first|apply ze|apply zf|apply zg);exact BK153.out) hg (Kd.R_ne HO160.out BK153.out (by decide)));replace BK154:=zh (yw (g:=gb154) (o:=.cells #[.int .i64 0,.int .i64 0,.slice none 0 0,.slice none 0 0] 71 (0,0)) (by (with_reducible repeat first|apply ze|apply zf|apply zg);exact BK154.out) hg (Kd.R_ne HO160.out BK154.out (by decide)));replace HO157:=zh (Kd.R_over' (by (with_reducible repeat (first|apply zm|apply zn|apply zo));exact HO157.out) (Kd.R_typed (by (with_reducible repeat (first|apply zm|apply zn|apply zo));exact HO160.out)) (by decide) hg);replace HB:=zh (hb);have HO163:=zh (ho);clear HO160 ho hb hg hat;obtain ⟨Ao15,co15,eo15⟩:=yk HO163.out;subst eo15;obtain ⟨hcz16_0,hcz16_1,hcz16_2,hcz16_3,hfz16_0,hfz16_1,hfz16_2,hfz16_3⟩:=cB4 BK153.out;obtain ⟨hcz17_0,hcz17_1,hcz17_2,hcz17_3,hfz17_0,hfz17_1,hfz17_2,hfz17_3⟩:=cB4 BK154.out))
  refine bodyPost_ret (results_cell_row rfl _ _ gb154 71 #[.int .i64 a0_0,.int .i64 a0_1,.slice Ao9 t155.length co9,.slice Ao15 y161.length co15] (0,0) _ rfl (by (with_reducible repeat first|apply ze|apply zf|apply zg);refine zL (cs:=#[.int .i64 a0_0,.int .i64 a0_1,.slice Ao9 t155.length co9,.slice none 0 0]) ?_ 3 _ rfl;(with_reducible repeat first|apply ze|apply zf|apply zg);refine zL (cs:=#[.int .i64 a0_0,.int .i64 a0_1,.slice none 0 0,.slice none 0 0]) ?_ 2 _ rfl;(with_reducible repeat first|apply ze|apply zf|apply zg);refine zL (cs:=#[.int .i64 a0_0,.int .i64 0,.slice none 0 0,.slice none 0 0]) ?_ 1 _ rfl;(with_reducible repeat first|apply ze|apply zf|apply zg);refine zL (cs:=#[.int .i64 0,.int .i64 0,.slice none 0 0,.slice none 0 0]) ?_ 0 _ rfl;(with_reducible repeat first|apply ze|apply zf|apply zg);refine zS ?_ NB154_153.out _;(with_reducible repeat first|apply ze|apply zf|apply zg);exact BK154.out) Tryz.underlying71 rfl (by kernel_rfl)) rfl ?_;exact ⟨_,_,by first|rfl|(simp [yt,yu] <;> rfl)|(simp [*,yt,yu] <;> rfl),by (with_reducible repeat (first|apply zm|apply zn|apply zo));exact zM (zE (p:=⟨gb154,3,none⟩) (zE (p:=⟨gb154,2,none⟩) (zE (p:=⟨gb154,1,none⟩) (zE (p:=⟨gb154,0,none⟩) (zE (p:=⟨gb153,3,none⟩) (yf (yf HO157.out BK153.out (by decide)) BK154.out (by decide)) (fun _ hk => hk.1.2) (.slice Ao15 y161.length co15)) (fun _ hk => hk.2) (.int .i64 a0_0)) (fun _ hk => hk.2) (.int .i64 a0_1)) (fun _ hk => hk.2) (.slice Ao9 t155.length co9)) (fun _ hk => hk.2) (.slice Ao15 y161.length co15)) (fun _ hk => trivial),by (with_reducible repeat (first|apply zm|apply zn|apply zo));exact zM (zE (p:=⟨gb154,3,none⟩) (zE (p:=⟨gb154,2,none⟩) (zE (p:=⟨gb154,1,none⟩) (zE (p:=⟨gb154,0,none⟩) (zE (p:=⟨gb153,3,none⟩) (yf (yf HO163.out BK153.out (by decide)) BK154.out (by decide)) (fun _ hk => hk.1.2) (.slice Ao15 y161.length co15)) (fun _ hk => hk.2) (.int .i64 a0_0)) (fun _ hk => hk.2) (.int .i64 a0_1)) (fun _ hk => hk.2) (.slice Ao9 t155.length co9)) (fun _ hk => hk.2) (.slice Ao15 y161.length co15)) (fun _ hk => trivial),by repeat (with_reducible first|exact HB.out|apply za|apply zb|apply zc|refine zd ?_ GE153.out|refine zd ?_ GE154.out)⟩
 rw [if_neg c3] at H;exact absurd H (by simp)


def Fc.l0 : Nat→List (S41)→List (S41)→Int→Option ((List (S41)))
 | 0,_,_,_ => none
 | k + 1,x0,x3,x4 => if x4<(x0.length : Int) then (if 0≤x4 then ((F5.f k ((rd_T41 x0 x4).f2)).bind fun t169 => ((some (([] : List (S109)) : List (S109))).bind fun y172 => (if y172.length + ((rd_T41 x0 x4).f3).length<1353245080339 then (if x3.length<1954687338268 then (Fc.l0 k x0 (x3 ++ [(⟨(rd_T41 x0 x4).f0,(rd_T41 x0 x4).f1,t169,(y172 ++ ((rd_T41 x0 x4).f3)),(rd_T41 x0 x4).f4,(rd_T41 x0 x4).f5⟩ : S41)]) (wrap64 (x4 + 1))) else (none)) else (none)))) else (none)) else (some x3)
def Fc.f (k : Nat) (l0 : List (S41)) : Option ((List (S41))):=Fc.l0 k l0 (([] : List (S41))) 0
theorem Fc.mono_l : ∀ k,(∀ y0 y1 y2,LeO (Fc.l0 k y0 y1 y2) (Fc.l0 (k + 1) y0 y1 y2))
 | 0 => fun _ _ _ r h => by simp [Fc.l0] at h
 | k + 1 => by
  have ih0:=Fc.mono_l k;intro y0 y1 y2;unfold Fc.l0
  repeat' first|(with_reducible first|exact ih0 _ _ _|exact F5.mono _ _|exact zQ _|exact zN _|refine zP ?_ ?_|refine zO ?_ (fun _ => ?_))|refine zP ?_ ?_|refine zO ?_ (fun _ => ?_)
theorem Fc.mono : ∀ a0 k,LeO (Fc.f k a0) (Fc.f (k + 1) a0):=by
 intro a0 k;have ih0:=Fc.mono_l k;unfold Fc.f
 repeat' first|(with_reducible first|exact ih0 _ _ _|exact F5.mono _ _|exact zQ _|exact zN _|refine zP ?_ ?_|refine zO ?_ (fun _ => ?_))|refine zP ?_ ?_|refine zO ?_ (fun _ => ?_)
set_option maxHeartbeats 8000000 in
set_option maxRecDepth 100000 in
theorem Fc.calls (k : Nat) (A0 : Option Addr) (c0 : Nat) (l0 : List (S41)) (r : List (S41)) (w : World) (hr0 : Kd.C k41 w A0 l0.length l0) (hc0 : l0.length≤c0) (h : Fc.f k l0=some r) :
  Calls Tryz.prog 42 #[.slice A0 l0.length c0] w fun e w' => ∃ v0_ : Value,e = .returned (v0_)∧Kd.R k41 41 w' w.heap.size (fun _ => True) v0_ r∧Below w.heap.size w w':=by
 have hu41:=Tryz.underlying41;have HR0:=zh hr0;have HC0:=zh hc0;clear hr0 hc0;have HB:=zh (Below.refl w.heap.size w);have H : (Fc.l0 k l0 (([] : List (S41))) 0)=some r:=h;clear h;obtain ⟨y164,hy164⟩ : ∃ y_ : List (S41),y_=(([] : List (S41))):=⟨_,rfl⟩;replace H : (Fc.l0 k l0 y164 0)=some r:=by first|(rw [hy164];with_reducible exact H)|(have H2_:=(Option.bind_some _ _).symm.trans H;rw [hy164];with_reducible exact H2_)|(have H2_:=(Option.bind_some _ _).symm.trans H;with_reducible exact H2_)|with_reducible exact H|(rw [hy164];exact H)|exact H
 have Ny164:=zh hy164;clear hy164;have H':=zh H;clear H
 go_enter Tryz.func42,Tryz.ntmps42
 go_wp2_with (first|((with_reducible refine zK (N:=6) rfl ?_);refine Kd.R_lit k41 _ 41 ?hg (N:=6) ?hd (xs:=([] : List (S41))) (inner:=[]) (ok:=fun _ => True) (okp:=fun _ => True) ?hr ?hp (fun _ hk => hk) trivial (Below.refl _ _) (ye _) (by simp) ?_;(case hd|hg => rfl);(case hr => go_simp <;> rfl);(case hp => exact (Reps.none _ _));intro v165 w2 ho3 hb hg_ hnew_;clear hg_ hnew_;(first|rw [← Ny164.out] at ho3|(simp only [Int.reduceToNat] at ho3;rw [← Ny164.out] at ho3));have HO166:=zh (yy ho3 (zB (by repeat (with_reducible first|exact HB.out|apply za|apply zb|apply zc))));replace HB:=zh (zC (by repeat (with_reducible first|exact HB.out|apply za|apply zb|apply zc)) hb);clear hb ho3))
 go_loopg [3,4] k (fun kq v3 v4 w' => ∃ (x3_1 : List (S41)) (x4_1 : Int),v4 = .int .i64 x4_1∧Aside0 (Fc.l0 kq l0 x3_1 x4_1=some r)∧Aside0 (kq≤k)∧Aside0 (Kd.R k41 41 w' w.heap.size (fun _ => True) v3 x3_1)∧Aside0 (Below w.heap.size w w'))
 case atStart => exact ⟨(y164),(0),(by first|rfl|(simp;done)|(simp [*];done)),H',⟨ye _⟩,⟨by (with_reducible repeat (first|apply zm|apply zn|apply zo));exact HO166.out⟩,⟨by repeat (with_reducible first|exact HB.out|apply za|apply zb|apply zc)⟩⟩
 case round =>
  clear H'
  try clear p2
  obtain ⟨x3_1,x4_1,rfl,HA,HK1,HO_3,HB⟩:=hrel
  cases gk with
  | zero => exact absurd HA.out (by simp [Fc.l0])
  | succ k1 =>
   have H:=HA.out;clear HA;simp only [Fc.l0] at H
   by_cases c4 : x4_1<(l0.length : Int)
   ·
    rw [if_pos c4] at H
    have c4b0 : decide (x4_1<(l0.length : Int))=true:=decide_eq_true c4;clear c4
    by_cases c5 : 0≤x4_1
    ·
     rw [if_pos c5] at H
     have c5b0 : decide (0≤x4_1)=true:=decide_eq_true c5;clear c5;replace H:=zT.mp H;obtain ⟨t169,A60,H⟩:=H;replace H : ((some (([] : List (S109)) : List (S109))).bind fun y172 => (if y172.length + ((rd_T41 l0 x4_1).f3).length<1353245080339 then (if x3_1.length<1954687338268 then (Fc.l0 k1 l0 (x3_1 ++ [(⟨(rd_T41 l0 x4_1).f0,(rd_T41 l0 x4_1).f1,t169,(y172 ++ ((rd_T41 l0 x4_1).f3)),(rd_T41 l0 x4_1).f4,(rd_T41 l0 x4_1).f5⟩ : S41)]) (wrap64 (x4_1 + 1))) else (none)) else (none)))=some r:=H;have A6:=zh A60;clear A60;obtain ⟨y172,hy172⟩ : ∃ y_ : List (S109),y_=(([] : List (S109))):=⟨_,rfl⟩;replace H : (if y172.length + ((rd_T41 l0 x4_1).f3).length<1353245080339 then (if x3_1.length<1954687338268 then (Fc.l0 k1 l0 (x3_1 ++ [(⟨(rd_T41 l0 x4_1).f0,(rd_T41 l0 x4_1).f1,t169,(y172 ++ ((rd_T41 l0 x4_1).f3)),(rd_T41 l0 x4_1).f4,(rd_T41 l0 x4_1).f5⟩ : S41)]) (wrap64 (x4_1 + 1))) else (none)) else (none))=some r:=by first|(rw [hy172];with_reducible exact H)|(have H2_:=(Option.bind_some _ _).symm.trans H;rw [hy172];with_reducible exact H2_)|(have H2_:=(Option.bind_some _ _).symm.trans H;with_reducible exact H2_)|with_reducible exact H|(rw [hy172];exact H)|exact H
     have Ny172:=zh hy172;clear hy172
     by_cases c7 : y172.length + ((rd_T41 l0 x4_1).f3).length<1353245080339
     ·
      rw [if_pos c7] at H
      have LMc7:=zh c7;clear c7;obtain ⟨y175,hy175⟩ : ∃ y_ : List (S109),y_=(y172 ++ ((rd_T41 l0 x4_1).f3)):=⟨_,rfl⟩;replace H : (if x3_1.length<1954687338268 then (Fc.l0 k1 l0 (x3_1 ++ [(⟨(rd_T41 l0 x4_1).f0,(rd_T41 l0 x4_1).f1,t169,y175,(rd_T41 l0 x4_1).f4,(rd_T41 l0 x4_1).f5⟩ : S41)]) (wrap64 (x4_1 + 1))) else (none))=some r:=by first|(rw [hy175];with_reducible exact H)|(have H2_:=(Option.bind_some _ _).symm.trans H;rw [hy175];with_reducible exact H2_)|(have H2_:=(Option.bind_some _ _).symm.trans H;with_reducible exact H2_)|with_reducible exact H|(rw [hy175];exact H)|exact H
      have Ny175:=zh hy175;clear hy175
      by_cases c8 : x3_1.length<1954687338268
      ·
       rw [if_pos c8] at H
       have LMc8:=zh c8;clear c8;obtain ⟨y178,hy178⟩ : ∃ y_ : List (S41),y_=(x3_1 ++ [(⟨(rd_T41 l0 x4_1).f0,(rd_T41 l0 x4_1).f1,t169,y175,(rd_T41 l0 x4_1).f4,(rd_T41 l0 x4_1).f5⟩ : S41)]):=⟨_,rfl⟩;replace H : (Fc.l0 k1 l0 y178 (wrap64 (x4_1 + 1)))=some r:=by first|(rw [hy178];with_reducible exact H)|(have H2_:=(Option.bind_some _ _).symm.trans H;rw [hy178];with_reducible exact H2_)|(have H2_:=(Option.bind_some _ _).symm.trans H;with_reducible exact H2_)|with_reducible exact H|(rw [hy178];exact H)|exact H
       have Ny178:=zh hy178;clear hy178;have H':=zh H;clear H;have p167 : 0≤(x4_1 : Int):=zy (by first|(with_reducible assumption)|assumption);have q167 : x4_1<(l0.length : Int):=zy (by first|(with_reducible assumption)|assumption);obtain ⟨ad167,A167_2,c167_2,A167_3,c167_3,e167,hx167_0,hx167_1,hx167_2,hx167_3,hx167_4,hx167_5,hl167_2,hi167_2,hl167_3,hi167_3⟩:=at_T41 HR0.out x4_1 p167 q167
       cases e167
       replace hx167_0:=(HB.out.cell (zl w _ hx167_0)).trans hx167_0;replace hx167_1:=(HB.out.cell (zl w _ hx167_1)).trans hx167_1;replace hx167_2:=(HB.out.cell (zl w _ hx167_2)).trans hx167_2;replace hx167_3:=(HB.out.cell (zl w _ hx167_3)).trans hx167_3;replace hx167_4:=(HB.out.cell (zl w _ hx167_4)).trans hx167_4;replace hx167_5:=(HB.out.cell (zl w _ hx167_5)).trans hx167_5;have HR167_2:=zh hi167_2;have HC167_2:=zh hl167_2;clear hi167_2 hl167_2;have HR167_3:=zh hi167_3;have HC167_3:=zh hl167_3;clear hi167_3 hl167_3;replace p167:=eq_true p167;replace q167:=eq_true q167
       go_wp2_with (first|((with_reducible refine zK (N:=5) rfl ?_);refine zI ?hg (N:=5) ?hd (cs:=#[.int .i64 0,.int .i64 0,.slice none 0 0,.slice none 0 0,.bool false,.bool false]) (t:=41) ?hr ?_;(case hd|hg => rfl);(case hr => go_simp <;> rfl);intro gb168 hg w9 hbox hb;replace HO_3:=zh (yg (Kd.R_elderB (by (with_reducible repeat (first|apply zm|apply zn|apply zo));exact HO_3.out) gb168 (Nat.le_of_eq hg.symm)) hb);have BK168:=zh (hbox);have hH_:=cH (by repeat (with_reducible first|exact HB.out|apply za|apply zb|apply zc)) hb hg;have GW168:=zh hH_.1;have GE168:=GW168;replace HB:=zh hH_.2;clear hb hbox hg hH_;obtain ⟨hcz10_0,hcz10_1,hcz10_2,hcz10_3,hcz10_4,hcz10_5,hfz10_0,hfz10_1,hfz10_2,hfz10_3,hfz10_4,hfz10_5⟩:=cB6 BK168.out)|((with_reducible refine zJ (f:=67) rfl ?_);refine yj (some 19) rfl rfl Tryz.func67 (by kernel_rfl) rfl #[.slice A167_2 ((rd_T41 l0 x4_1).f2).length c167_2] rfl (by (try simp only [zt,zu,zv]);first|done|rfl|(simp only [zw,zx];rfl)|(simp only [yr,ys,zV,zW];rfl)) ?_;(with_reducible refine (F5.calls k1  _ _ ((rd_T41 l0 x4_1).f2) t169 _ ?side1 ?side2 A6.out).mono ?_);(case side1 => exact Kd.C_below HR167_2.out (by repeat (with_reducible first|exact HB.out|apply za|apply zb|apply zc|refine zd ?_ GE168.out)));(case side2 => exact HC167_2.out);rintro e w11 ⟨v170,rfl,ho0,hb⟩;refine ⟨_,rfl,?_⟩;replace HO_3:=zh (Kd.R_elder' (by (with_reducible repeat (first|apply zm|apply zn|apply zo));exact (zM (zE (p:=⟨gb168,5,none⟩) (zE (p:=⟨gb168,4,none⟩) (zE (p:=⟨gb168,3,none⟩) (zE (p:=⟨gb168,2,none⟩) (zE (p:=⟨gb168,1,none⟩) (zE (p:=⟨gb168,0,none⟩) (zM HO_3.out (fun k_ hk => (⟨hk,hk.2⟩ : _∧k_≠gb168))) (fun _ hk => hk.2) (.int .i64 ((rd_T41 l0 x4_1).f0))) (fun _ hk => hk.2) (.int .i64 ((rd_T41 l0 x4_1).f1))) (fun _ hk => hk.2) (.slice A167_2 ((rd_T41 l0 x4_1).f2).length c167_2)) (fun _ hk => hk.2) (.slice A167_3 ((rd_T41 l0 x4_1).f3).length c167_3)) (fun _ hk => hk.2) (.bool ((rd_T41 l0 x4_1).f4))) (fun _ hk => hk.2) (.bool ((rd_T41 l0 x4_1).f5))) (fun _ h_ => h_.1))) (Kd.R_base ho0) hb);have HO171:=zh (yy ho0 (zB (by repeat (with_reducible first|exact HB.out|apply za|apply zb|apply zc|refine zd ?_ GE168.out))));replace BK168:=zh (zD (g:=gb168) (o:=.cells #[.int .i64 ((rd_T41 l0 x4_1).f0),.int .i64 ((rd_T41 l0 x4_1).f1),.slice A167_2 ((rd_T41 l0 x4_1).f2).length c167_2,.slice A167_3 ((rd_T41 l0 x4_1).f3).length c167_3,.bool ((rd_T41 l0 x4_1).f4),.bool ((rd_T41 l0 x4_1).f5)] 41 (0,0)) (by (with_reducible repeat first|apply ze|apply zf|apply zg);refine zL (cs:=#[.int .i64 ((rd_T41 l0 x4_1).f0),.int .i64 ((rd_T41 l0 x4_1).f1),.slice A167_2 ((rd_T41 l0 x4_1).f2).length c167_2,.slice A167_3 ((rd_T41 l0 x4_1).f3).length c167_3,.bool ((rd_T41 l0 x4_1).f4),.bool false]) ?_ 5 _ rfl;(with_reducible repeat first|apply ze|apply zf|apply zg);refine zL (cs:=#[.int .i64 ((rd_T41 l0 x4_1).f0),.int .i64 ((rd_T41 l0 x4_1).f1),.slice A167_2 ((rd_T41 l0 x4_1).f2).length c167_2,.slice A167_3 ((rd_T41 l0 x4_1).f3).length c167_3,.bool false,.bool false]) ?_ 4 _ rfl;(with_reducible repeat first|apply ze|apply zf|apply zg);refine zL (cs:=#[.int .i64 ((rd_T41 l0 x4_1).f0),.int .i64 ((rd_T41 l0 x4_1).f1),.slice A167_2 ((rd_T41 l0 x4_1).f2).length c167_2,.slice none 0 0,.bool false,.bool false]) ?_ 3 _ rfl;(with_reducible repeat first|apply ze|apply zf|apply zg);refine zL (cs:=#[.int .i64 ((rd_T41 l0 x4_1).f0),.int .i64 ((rd_T41 l0 x4_1).f1),.slice none 0 0,.slice none 0 0,.bool false,.bool false]) ?_ 2 _ rfl;(with_reducible repeat first|apply ze|apply zf|apply zg);refine zL (cs:=#[.int .i64 ((rd_T41 l0 x4_1).f0),.int .i64 0,.slice none 0 0,.slice none 0 0,.bool false,.bool false]) ?_ 1 _ rfl;(with_reducible repeat first|apply ze|apply zf|apply zg);refine zL (cs:=#[.int .i64 0,.int .i64 0,.slice none 0 0,.slice none 0 0,.bool false,.bool false]) ?_ 0 _ rfl;(with_reducible repeat first|apply ze|apply zf|apply zg);exact BK168.out) hb);replace HB:=zh (zC (by repeat (with_reducible first|exact HB.out|apply za|apply zb|apply zc|refine zd ?_ GE168.out)) hb);(try clear hb);(try clear hb2);(try clear hk);(try clear hi);(try clear ho0);obtain ⟨Ao12,co12,eo12⟩:=yk HO171.out;subst eo12;obtain ⟨hcz13_0,hcz13_1,hcz13_2,hcz13_3,hcz13_4,hcz13_5,hfz13_0,hfz13_1,hfz13_2,hfz13_3,hfz13_4,hfz13_5⟩:=cB6 BK168.out)|((with_reducible refine zK (N:=21) rfl ?_);refine Kd.R_lit k109 _ 109 ?hg (N:=21) ?hd (xs:=([] : List (S109))) (inner:=[]) (ok:=fun _ => True) (okp:=fun _ => True) ?hr ?hp (fun _ hk => hk) trivial (Below.refl _ _) (ye _) (by simp) ?_;(case hd|hg => rfl);(case hr => go_simp <;> rfl);(case hp => exact (Reps.none _ _));intro v173 w14 ho15 hb hg_ hnew_;clear hg_ hnew_;(first|rw [← Ny172.out] at ho15|(simp only [Int.reduceToNat] at ho15;rw [← Ny172.out] at ho15));replace HO_3:=zh (Kd.R_elder' (by (with_reducible repeat (first|apply zm|apply zn|apply zo));exact (zM (zE (p:=⟨gb168,2,none⟩) (zM HO_3.out (fun k_ hk => (⟨hk,hk.1.2⟩ : _∧k_≠gb168))) (fun _ hk => hk.2) (.slice Ao12 t169.length co12)) (fun _ h_ => h_.1))) (Kd.R_base ho15) hb);replace HO171:=zh (yg (by (with_reducible repeat (first|apply zm|apply zn|apply zo));exact (zM (zE (p:=⟨gb168,2,none⟩) (yf HO171.out BK168.out (by decide)) (fun _ hk => hk.2) (.slice Ao12 t169.length co12)) (fun _ h_ => h_.1))) hb);have HO174:=zh (yy ho15 (zB (by repeat (with_reducible first|exact HB.out|apply za|apply zb|apply zc|refine zd ?_ GE168.out))));replace BK168:=zh (zD (g:=gb168) (o:=.cells #[.int .i64 ((rd_T41 l0 x4_1).f0),.int .i64 ((rd_T41 l0 x4_1).f1),.slice Ao12 t169.length co12,.slice A167_3 ((rd_T41 l0 x4_1).f3).length c167_3,.bool ((rd_T41 l0 x4_1).f4),.bool ((rd_T41 l0 x4_1).f5)] 41 (0,0)) (by (with_reducible repeat first|apply ze|apply zf|apply zg);refine zL (cs:=#[.int .i64 ((rd_T41 l0 x4_1).f0),.int .i64 ((rd_T41 l0 x4_1).f1),.slice A167_2 ((rd_T41 l0 x4_1).f2).length c167_2,.slice A167_3 ((rd_T41 l0 x4_1).f3).length c167_3,.bool ((rd_T41 l0 x4_1).f4),.bool ((rd_T41 l0 x4_1).f5)]) ?_ 2 _ rfl;(with_reducible repeat first|apply ze|apply zf|apply zg);exact BK168.out) hb);replace HB:=zh (zC (by repeat (with_reducible first|exact HB.out|apply za|apply zb|apply zc|refine zd ?_ GE168.out)) hb);clear hb ho15;obtain ⟨hcz16_0,hcz16_1,hcz16_2,hcz16_3,hcz16_4,hcz16_5,hfz16_0,hfz16_1,hfz16_2,hfz16_3,hfz16_4,hfz16_5⟩:=cB6 BK168.out)|((with_reducible refine yB (b:=.append) (xs:=#[.tmp 21,.tmp 23]) rfl ?_);at_builtin;refine Kd.R_append_rows k109 (w0:=w) w.heap.size rfl (.tmp 21) (.tmp 23) 39 109 (.agg #[(.string ⟨#[]⟩),(.int .i64 0),(.bool false),(.int .i64 0),(.int .i64 0),(.string ⟨#[]⟩),(.int .i64 0),(.int .i64 0),(.string ⟨#[]⟩),(.bool false)]) 104 rfl Tryz.underlying39 info109 rfl (by decide) (by omega) v173 y172 ((rd_T41 l0 x4_1).f3) _ _ _ (fun _ => True) (fun _ => False) rfl rfl ?aO ?aR (fun _ _ h => h) (fun _ h => h.elim) ?aF ?aB ?aS ?aL ?_;(case aR => repeat (first|exact (Kd.C_below HR167_3.out HB.out)|(with_reducible refine Kd.C_alloc ?_ _)|(with_reducible refine Kd.C_drewN ?_ _)|(with_reducible refine Kd.C_drew ?_)));(case aB => exact (by repeat (with_reducible first|exact HB.out|apply za|apply zb|apply zc|refine zd ?_ GE168.out)));(case aF => exact (fun _ _ => trivial));(case aO => exact (by (with_reducible repeat (first|apply zm|apply zn|apply zo));exact HO174.out));(case aS => exact (zB (by repeat (with_reducible first|exact HB.out|apply za|apply zb|apply zc|refine zd ?_ GE168.out))));(case aL => have:=LMc7.out;omega);intro v176 w17 ho hb hg hat;rw [← Ny175.out] at ho;replace HO_3:=zh (Kd.R_after (ok:=(fun k_ => some k_≠(.slice Ao12 t169.length co12 : Value).ownBlock∧k_≠gb168)) (by (with_reducible repeat (first|apply zm|apply zn|apply zo));exact zM HO_3.out (fun _ hk => ⟨⟨hk.1.2,hk.1.1.2⟩,hk.2⟩)) hg hat);replace BK168:=zh (yw (g:=gb168) (o:=.cells #[.int .i64 ((rd_T41 l0 x4_1).f0),.int .i64 ((rd_T41 l0 x4_1).f1),.slice Ao12 t169.length co12,.slice A167_3 ((rd_T41 l0 x4_1).f3).length c167_3,.bool ((rd_T41 l0 x4_1).f4),.bool ((rd_T41 l0 x4_1).f5)] 41 (0,0)) (by (with_reducible repeat first|apply ze|apply zf|apply zg);exact BK168.out) hg (Kd.R_ne HO174.out BK168.out (by decide)));replace HO171:=zh (Kd.R_over' (by (with_reducible repeat (first|apply zm|apply zn|apply zo));exact HO171.out) (Kd.R_typed (by (with_reducible repeat (first|apply zm|apply zn|apply zo));exact HO174.out)) (by decide) hg);replace HB:=zh (hb);have HO177:=zh (ho);clear HO174 ho hb hg hat;obtain ⟨Ao18,co18,eo18⟩:=yk HO177.out;subst eo18;obtain ⟨hcz19_0,hcz19_1,hcz19_2,hcz19_3,hcz19_4,hcz19_5,hfz19_0,hfz19_1,hfz19_2,hfz19_3,hfz19_4,hfz19_5⟩:=cB6 BK168.out)|((with_reducible refine gate_store (t:=39) (p:=25) rfl ?_);refine store_event (t:=39) (p:=25) (v:=?vo_w20) (w1:=(w17.setCell ⟨gb168,3,none⟩ (.slice Ao18 y175.length co18))) ?hg ?ho ?hn ?hr ?_;(case ho => rfl);(case hg => rfl);(case hn => rfl);(case hr => go_simp <;> rfl);intro w20 hw;replace HO_3 : Aside0 (Kd.R k41 41 w20 w.heap.size (fun k_ => some k_≠(.slice Ao12 t169.length co12 : Value).ownBlock∧some k_≠(.slice Ao18 y175.length co18 : Value).ownBlock∧k_≠gb168) u3 x3_1):=⟨(by rw [hw];exact (by (with_reducible repeat (first|apply zm|apply zn|apply zo));exact zM (zE (p:=⟨gb168,3,none⟩) (zM HO_3.out (fun k_ hk => (⟨hk,hk.1.2⟩ : _∧k_≠gb168))) (fun _ hk => hk.2) (.slice Ao18 y175.length co18)) (fun _ hk => ⟨hk.1.1.1,⟨hk.1.2,hk.1.1.2⟩⟩)))⟩;replace HO171 : Aside0 (Kd.R k104 104 w20 w.heap.size (fun _ => True) (.slice Ao12 t169.length co12) t169):=⟨(by rw [hw];exact (by (with_reducible repeat (first|apply zm|apply zn|apply zo));exact zM (zE (p:=⟨gb168,3,none⟩) (yf HO171.out BK168.out (by decide)) (fun _ hk => hk.2) (.slice Ao18 y175.length co18)) (fun _ hk => trivial)))⟩;replace HO177 : Aside0 (Kd.R k109 109 w20 w.heap.size (fun _ => True) (.slice Ao18 y175.length co18) y175):=⟨(by rw [hw];exact (by (with_reducible repeat (first|apply zm|apply zn|apply zo));exact zM (zE (p:=⟨gb168,3,none⟩) (yf HO177.out BK168.out (by decide)) (fun _ hk => hk.2) (.slice Ao18 y175.length co18)) (fun _ hk => trivial)))⟩;replace BK168 : Aside0 (w20.heap[gb168]? = some (.cells #[.int .i64 ((rd_T41 l0 x4_1).f0),.int .i64 ((rd_T41 l0 x4_1).f1),.slice Ao12 t169.length co12,.slice Ao18 y175.length co18,.bool ((rd_T41 l0 x4_1).f4),.bool ((rd_T41 l0 x4_1).f5)] 41 (0,0))):=⟨(by rw [hw];exact (by (with_reducible repeat first|apply ze|apply zf|apply zg);refine zL (cs:=#[.int .i64 ((rd_T41 l0 x4_1).f0),.int .i64 ((rd_T41 l0 x4_1).f1),.slice Ao12 t169.length co12,.slice A167_3 ((rd_T41 l0 x4_1).f3).length c167_3,.bool ((rd_T41 l0 x4_1).f4),.bool ((rd_T41 l0 x4_1).f5)]) ?_ 3 _ rfl;(with_reducible repeat first|apply ze|apply zf|apply zg);exact BK168.out))⟩;replace HB : Aside0 (Below w.heap.size w w20):=⟨(by rw [hw];exact (by repeat (with_reducible first|exact HB.out|apply za|apply zb|apply zc|refine zd ?_ GE168.out)))⟩;clear hw;obtain ⟨hcz21_0,hcz21_1,hcz21_2,hcz21_3,hcz21_4,hcz21_5,hfz21_0,hfz21_1,hfz21_2,hfz21_3,hfz21_4,hfz21_5⟩:=cB6 BK168.out)|((with_reducible refine yB (b:=.append) (xs:=#[.tmp 26,.tmp 28]) rfl ?_);at_builtin;refine Kd.R_append k41 (w0:=w) w.heap.size rfl (.tmp 26) (.tmp 28) 24 41 (.agg #[(.int .i64 0),(.int .i64 0),(.slice none 0 0),(.slice none 0 0),(.bool false),(.bool false)]) 72 rfl Tryz.underlying24 info41 rfl (by decide) (by omega) u3 x3_1 (⟨(rd_T41 l0 x4_1).f0,(rd_T41 l0 x4_1).f1,t169,y175,(rd_T41 l0 x4_1).f4,(rd_T41 l0 x4_1).f5⟩ : S41) [.int .i64 ((rd_T41 l0 x4_1).f0),.int .i64 ((rd_T41 l0 x4_1).f1),.slice Ao12 t169.length co12,.slice Ao18 y175.length co18,.bool ((rd_T41 l0 x4_1).f4),.bool ((rd_T41 l0 x4_1).f5)] (fun k_ => k_≠gb168) (fun k_ => ((fun k_ => k_≠gb168)) k_∧some k_≠(u3 : Value).ownBlock) rfl rfl ?aP (fun _ hk => hk) ?aF ?aO ?aB ?aS ?aL ?_;(case aP => exact k41_mkM _ _ _ (⟨(rd_T41 l0 x4_1).f0,(rd_T41 l0 x4_1).f1,t169,y175,(rd_T41 l0 x4_1).f4,(rd_T41 l0 x4_1).f5⟩ : S41) (zM (yf (Kd.R_apart' (HO171.out) (Kd.R_typed HO_3.out) (by decide)) BK168.out (by decide)) (fun k_ hk => ⟨hk.2,hk.1.2⟩)) (zM (yf (Kd.R_apart' (HO177.out) (Kd.R_typed HO_3.out) (by decide)) BK168.out (by decide)) (fun k_ hk => ⟨hk.2,hk.1.2⟩)));(case aB => exact (by repeat (with_reducible first|exact HB.out|apply za|apply zb|apply zc|refine zd ?_ GE168.out)));(case aF => exact (fun k_ hk => Kd.freshB (g:=gb168) (o:=.cells #[.int .i64 ((rd_T41 l0 x4_1).f0),.int .i64 ((rd_T41 l0 x4_1).f1),.slice Ao12 t169.length co12,.slice Ao18 y175.length co18,.bool ((rd_T41 l0 x4_1).f4),.bool ((rd_T41 l0 x4_1).f5)] 41 (0,0)) (by (with_reducible repeat first|apply ze|apply zf|apply zg);exact BK168.out) k_ hk));(case aO => exact (by (with_reducible repeat (first|apply zm|apply zn|apply zo));exact zM HO_3.out (fun _ hk => hk.2.2)));(case aS => exact (zB (by repeat (with_reducible first|exact HB.out|apply za|apply zb|apply zc|refine zd ?_ GE168.out))));(case aL => have:=LMc8.out;omega);intro v179 w22 ho hb hg hat;rw [← Ny178.out] at ho;replace BK168:=zh (yw (g:=gb168) (o:=.cells #[.int .i64 ((rd_T41 l0 x4_1).f0),.int .i64 ((rd_T41 l0 x4_1).f1),.slice Ao12 t169.length co12,.slice Ao18 y175.length co18,.bool ((rd_T41 l0 x4_1).f4),.bool ((rd_T41 l0 x4_1).f5)] 41 (0,0)) (by (with_reducible repeat first|apply ze|apply zf|apply zg);exact BK168.out) hg (yv HO_3.out (fun _ hk => hk.2.2)));replace HB:=zh (hb);have HO180:=zh (ho);clear HO_3 HO171 HO177 ho hb hg hat))
       go_roundg k1
       case measure => have:=HK1.out;omega
       case rel => exact ⟨(y178),(wrap64 (x4_1 + 1)),(by first|rfl|(simp;done)|(simp [*];done)),H',⟨by have:=HK1.out;omega⟩,⟨by (with_reducible repeat (first|apply zm|apply zn|apply zo));exact zM HO180.out (fun _ hk => trivial)⟩,⟨by repeat (with_reducible first|exact HB.out|apply za|apply zb|apply zc|refine zd ?_ GE168.out)⟩⟩
      rw [if_neg c8] at H;exact absurd H (by simp)
     rw [if_neg c7] at H;exact absurd H (by simp)
    rw [if_neg c5] at H;exact absurd H (by simp)
   rw [if_neg c4] at H;have c4b0 : decide (x4_1<(l0.length : Int))=false:=decide_eq_false c4;clear c4;obtain rfl:=zU H
   go_wp2
   go_ret
   exact ⟨_,by first|rfl|(simp [yt,yu] <;> rfl)|(simp [*,yt,yu] <;> rfl),by (with_reducible repeat (first|apply zm|apply zn|apply zo));exact HO_3.out,by repeat (with_reducible first|exact HB.out|apply za|apply zb|apply zc)⟩

end Go.Proofs.YtceggklknggfdaaGreat.Q
end
section
namespace Go.Proofs.YtceggklknggfdaaGreat.Q
open Go.RowKit Go.Proofs.YtceggklknggfdaaGreatW.PrintWords Go.Proofs.YtceggklknggfdaaGreatW.PrintLast Go.Proofs.YtceggklknggfdaaGreatW.PrintMore
attribute [local go_sem] max2_int min2_int max_two min_two max_three min_three max_four min_four max2_str min2_str str_geq str_gtr str_leq   -- for this text's walks alone
set_option linter.unusedVariables false
set_option linter.unusedSimpArgs false

mutual
def F9.l0 : Nat→List (S54)→Int→List (S54)→List (S71)→List (S41)→Int→Option ((List (S54))×(List (S71))×(List (S41))×Int)
 | 0,_,_,_,_,_,_ => none
 | k + 1,x3,x4,x182000,x182001,x182002,x182003 => if x4<(x182000.length : Int) then (if 0≤x4 then ((F1.f k ((rd_T54 x182000 x4).f0) ((rd_T54 x182000 x4).f1) ((rd_T54 x182000 x4).f2)).bind fun bt187 => (if x3.length<2199023255552 then (F9.l0 k (x3 ++ [(⟨bt187.1,bt187.2.1,bt187.2.2⟩ : S54)]) (wrap64 (x4 + 1)) x182000 x182001 x182002 x182003) else (none))) else (none)) else (F9.l1 k x3 (([] : List (S71))) 0 x182000 x182001 x182002 x182003)
def F9.l1 : Nat→List (S54)→List (S71)→Int→List (S54)→List (S71)→List (S41)→Int→Option ((List (S54))×(List (S71))×(List (S41))×Int)
 | 0,_,_,_,_,_,_,_ => none
 | k + 1,x3,x5,x6,x182000,x182001,x182002,x182003 => if x6<(x182001.length : Int) then (if 0≤x6 then ((F08.f k ((rd_T71 x182001 x6).f0) ((rd_T71 x182001 x6).f1) ((rd_T71 x182001 x6).f2) ((rd_T71 x182001 x6).f3)).bind fun bt201 => (if x5.length<2199023255552 then (F9.l1 k x3 (x5 ++ [(⟨bt201.1,bt201.2.1,bt201.2.2.1,bt201.2.2.2⟩ : S71)]) (wrap64 (x6 + 1)) x182000 x182001 x182002 x182003) else (none))) else (none)) else ((Fc.f k x182002).bind fun t212 => (some (x3,x5,t212,x182003)))
end
def F9.f (k : Nat) (l0_0 : List (S54)) (l0_1 : List (S71)) (l0_2 : List (S41)) (a0_3 : Int) : Option ((List (S54))×(List (S71))×(List (S41))×Int):=F9.l0 k (([] : List (S54))) 0 l0_0 l0_1 l0_2 a0_3
theorem F9.mono_l : ∀ k,(∀ y0 y1 y2 y3 y4 y5,LeO (F9.l0 k y0 y1 y2 y3 y4 y5) (F9.l0 (k + 1) y0 y1 y2 y3 y4 y5))∧(∀ y0 y1 y2 y3 y4 y5 y6,LeO (F9.l1 k y0 y1 y2 y3 y4 y5 y6) (F9.l1 (k + 1) y0 y1 y2 y3 y4 y5 y6))
 | 0 => ⟨fun _ _ _ _ _ _ r h => by simp [F9.l0] at h,fun _ _ _ _ _ _ _ r h => by simp [F9.l1] at h⟩
 | k + 1 => by
  obtain ⟨ih0,ih1⟩:=F9.mono_l k;refine ⟨?_,?_⟩
  ·
   intro y0 y1 y2 y3 y4 y5
   unfold F9.l0
   repeat' first|(with_reducible first|exact ih0 _ _ _ _ _ _|exact ih1 _ _ _ _ _ _ _|exact F1.mono _ _ _ _|exact F08.mono _ _ _ _ _|exact Fc.mono _ _|exact zQ _|exact zN _|refine zP ?_ ?_|refine zO ?_ (fun _ => ?_))|refine zP ?_ ?_|refine zO ?_ (fun _ => ?_)
  intro y0 y1 y2 y3 y4 y5 y6;unfold F9.l1
  repeat' first|(with_reducible first|exact ih0 _ _ _ _ _ _|exact ih1 _ _ _ _ _ _ _|exact F1.mono _ _ _ _|exact F08.mono _ _ _ _ _|exact Fc.mono _ _|exact zQ _|exact zN _|refine zP ?_ ?_|refine zO ?_ (fun _ => ?_))|refine zP ?_ ?_|refine zO ?_ (fun _ => ?_)
theorem F9.mono : ∀ a0 a1 a2 a3 k,LeO (F9.f k a0 a1 a2 a3) (F9.f (k + 1) a0 a1 a2 a3):=by
 intro a0 a1 a2 a3 k;obtain ⟨ih0,ih1⟩:=F9.mono_l k;unfold F9.f
 repeat' first|(with_reducible first|exact ih0 _ _ _ _ _ _|exact ih1 _ _ _ _ _ _ _|exact F1.mono _ _ _ _|exact F08.mono _ _ _ _ _|exact Fc.mono _ _|exact zQ _|exact zN _|refine zP ?_ ?_|refine zO ?_ (fun _ => ?_))|refine zP ?_ ?_|refine zO ?_ (fun _ => ?_)
set_option maxHeartbeats 8000000 in
set_option maxRecDepth 100000 in
theorem F9.calls (k : Nat) (A0_0 : Option Addr) (c0_0 : Nat) (l0_0 : List (S54)) (A0_1 : Option Addr) (c0_1 : Nat) (l0_1 : List (S71)) (A0_2 : Option Addr) (c0_2 : Nat) (l0_2 : List (S41)) (a0_3 : Int) (r1 : List (S54)) (r2 : List (S71)) (r3 : List (S41)) (r4 : Int) (w : World) (hr0_0 : Kd.C k54 w A0_0 l0_0.length l0_0) (hc0_0 : l0_0.length≤c0_0) (hr0_1 : Kd.C k71 w A0_1 l0_1.length l0_1) (hc0_1 : l0_1.length≤c0_1) (hr0_2 : Kd.C k41 w A0_2 l0_2.length l0_2) (hc0_2 : l0_2.length≤c0_2) (h : F9.f k l0_0 l0_1 l0_2 a0_3=some (r1,r2,r3,r4)) :
  Calls Tryz.prog 19 #[.agg #[.slice A0_0 l0_0.length c0_0,.slice A0_1 l0_1.length c0_1,.slice A0_2 l0_2.length c0_2,.int .i64 a0_3]] w fun e w' => ∃ v0_ v1_ v2_ : Value,e = .returned (.agg #[v0_,v1_,v2_,.int .i64 r4])∧Kd.R k54 54 w' w.heap.size (fun _ => True) v0_ r1∧Kd.R k71 71 w' w.heap.size (fun _ => True) v1_ r2∧Kd.R k41 41 w' w.heap.size (fun _ => True) v2_ r3∧Below w.heap.size w w':=by
 have hu26:=Tryz.underlying26;have hu54:=Tryz.underlying54;have hu71:=Tryz.underlying71;have HR0_0:=zh hr0_0;have HC0_0:=zh hc0_0;clear hr0_0 hc0_0;have HR0_1:=zh hr0_1;have HC0_1:=zh hc0_1;clear hr0_1 hc0_1;have HR0_2:=zh hr0_2;have HC0_2:=zh hc0_2;clear hr0_2 hc0_2;have HB:=zh (Below.refl w.heap.size w);have H : (F9.l0 k (([] : List (S54))) 0 l0_0 l0_1 l0_2 a0_3)=some (r1,r2,r3,r4):=h;clear h;obtain ⟨y183,hy183⟩ : ∃ y_ : List (S54),y_=(([] : List (S54))):=⟨_,rfl⟩;replace H : (F9.l0 k y183 0 l0_0 l0_1 l0_2 a0_3)=some (r1,r2,r3,r4):=by first|(rw [hy183];with_reducible exact H)|(have H2_:=(Option.bind_some _ _).symm.trans H;rw [hy183];with_reducible exact H2_)|(have H2_:=(Option.bind_some _ _).symm.trans H;with_reducible exact H2_)|with_reducible exact H|(rw [hy183];exact H)|exact H
 have Ny183:=zh hy183;clear hy183;have H':=zh H;clear H
 go_enter Tryz.func19,Tryz.ntmps19
 go_wp2_with (first|((with_reducible refine zK (N:=1) rfl ?_);refine zI ?hg (N:=1) ?hd (cs:=#[.slice A0_0 l0_0.length c0_0,.slice A0_1 l0_1.length c0_1,.slice A0_2 l0_2.length c0_2,.int .i64 a0_3]) (t:=26) ?hr ?_;(case hd|hg => rfl);(case hr => go_simp <;> rfl);intro gb181 hg w2 hbox hb;have BK181:=zh (hbox);have hH_:=cH (by repeat (with_reducible first|exact HB.out|apply za|apply zb|apply zc)) hb hg;have GW181:=zh hH_.1;have GE181:=GW181;replace HB:=zh hH_.2;clear hb hbox hg hH_)|((with_reducible refine zK (N:=2) rfl ?_);refine zI ?hg (N:=2) ?hd (cs:=#[.slice none 0 0,.slice none 0 0,.slice none 0 0,.int .i64 0]) (t:=26) ?hr ?_;(case hd|hg => rfl);(case hr => go_simp <;> rfl);intro gb182 hg w3 hbox hb;have BK182:=zh (hbox);have hH_:=cH (by repeat (with_reducible first|exact HB.out|apply za|apply zb|apply zc|refine zd ?_ GE181.out)) hb hg;have GW182:=zh hH_.1;have GE182:=GW182;replace HB:=zh hH_.2;have NB181_182:=zh ((by rw [hg];exact yc (yi (g:=gb181) (o:=.cells #[.slice A0_0 l0_0.length c0_0,.slice A0_1 l0_1.length c0_1,.slice A0_2 l0_2.length c0_2,.int .i64 a0_3] 26 (0,0)) (by (with_reducible repeat first|apply ze|apply zf|apply zg);exact BK181.out)) : gb181≠gb182));have NB182_181:=zh NB181_182.out.symm;replace BK181:=zh (cD BK181.out (by (with_reducible repeat first|apply ze|apply zf|apply zg);exact BK181.out) hb);clear hb hbox hg hH_)|((with_reducible refine zK (N:=7) rfl ?_);refine Kd.R_lit k54 _ 54 ?hg (N:=7) ?hd (xs:=([] : List (S54))) (inner:=[]) (ok:=fun _ => True) (okp:=fun _ => True) ?hr ?hp (fun _ hk => hk) trivial (Below.refl _ _) (ye _) (by simp) ?_;(case hd|hg => rfl);(case hr => go_simp <;> rfl);(case hp => exact (Reps.none _ _));intro v184 w4 ho5 hb hg_ hnew_;clear hg_ hnew_;(first|rw [← Ny183.out] at ho5|(simp only [Int.reduceToNat] at ho5;rw [← Ny183.out] at ho5));have HO185:=zh (yy ho5 (zB (by repeat (with_reducible first|exact HB.out|apply za|apply zb|apply zc|refine zd ?_ GE181.out|refine zd ?_ GE182.out))));replace BK181:=zh (cD BK181.out (by (with_reducible repeat first|apply ze|apply zf|apply zg);exact BK181.out) hb);replace BK182:=zh (cD BK182.out (by (with_reducible repeat first|apply ze|apply zf|apply zg);exact BK182.out) hb);replace HB:=zh (zC (by repeat (with_reducible first|exact HB.out|apply za|apply zb|apply zc|refine zd ?_ GE181.out|refine zd ?_ GE182.out)) hb);clear hb ho5))
 go_loopg [3,4] k (fun kq v3 v4 w' => ∃ (x3_1 : List (S54)) (x4_1 : Int),v4 = .int .i64 x4_1∧Aside0 (F9.l0 kq x3_1 x4_1 l0_0 l0_1 l0_2 a0_3=some (r1,r2,r3,r4))∧Aside0 (kq≤k)∧Aside0 (Kd.R k54 54 w' w.heap.size (fun _ => True) v3 x3_1)∧Aside0 (w'.heap[gb181]? = some (.cells #[(.slice A0_0 l0_0.length c0_0),(.slice A0_1 l0_1.length c0_1),(.slice A0_2 l0_2.length c0_2),.int .i64 a0_3] 26 (0,0)))∧Aside0 (w'.heap[gb182]? = some (.cells #[(.slice none 0 0),(.slice none 0 0),(.slice none 0 0),.int .i64 0] 26 (0,0)))∧Aside0 (Below w.heap.size w w'))
 case atStart => exact ⟨(y183),(0),(by first|rfl|(simp;done)|(simp [*];done)),H',⟨ye _⟩,⟨by (with_reducible repeat (first|apply zm|apply zn|apply zo));exact HO185.out⟩,⟨by (with_reducible repeat first|apply ze|apply zf|apply zg);exact BK181.out⟩,⟨by (with_reducible repeat first|apply ze|apply zf|apply zg);exact BK182.out⟩,⟨by repeat (with_reducible first|exact HB.out|apply za|apply zb|apply zc|refine zd ?_ GE181.out|refine zd ?_ GE182.out)⟩⟩
 case round =>
  clear H'
  try clear c1
  try clear p2
  obtain ⟨x3_1,x4_1,rfl,HA,HK1,HO_3,BK181,BK182,HB⟩:=hrel
  cases gk with
  | zero => exact absurd HA.out (by simp [F9.l0])
  | succ k1 =>
   have H:=HA.out;clear HA;simp only [F9.l0] at H
   by_cases c6 : x4_1<(l0_0.length : Int)
   ·
    rw [if_pos c6] at H
    have c6b0 : decide (x4_1<(l0_0.length : Int))=true:=decide_eq_true c6;clear c6
    by_cases c7 : 0≤x4_1
    ·
     rw [if_pos c7] at H
     have c7b0 : decide (0≤x4_1)=true:=decide_eq_true c7;clear c7;replace H:=zT.mp H;obtain ⟨⟨t187,t188,t191⟩,A80,H⟩:=H;replace H : (if x3_1.length<2199023255552 then (F9.l0 k1 (x3_1 ++ [(⟨t187,t188,t191⟩ : S54)]) (wrap64 (x4_1 + 1)) l0_0 l0_1 l0_2 a0_3) else (none))=some (r1,r2,r3,r4):=H;have A8:=zh A80;clear A80
     by_cases c9 : x3_1.length<2199023255552
     ·
      rw [if_pos c9] at H
      have LMc9:=zh c9;clear c9;obtain ⟨y194,hy194⟩ : ∃ y_ : List (S54),y_=(x3_1 ++ [(⟨t187,t188,t191⟩ : S54)]):=⟨_,rfl⟩;replace H : (F9.l0 k1 y194 (wrap64 (x4_1 + 1)) l0_0 l0_1 l0_2 a0_3)=some (r1,r2,r3,r4):=by first|(rw [hy194];with_reducible exact H)|(have H2_:=(Option.bind_some _ _).symm.trans H;rw [hy194];with_reducible exact H2_)|(have H2_:=(Option.bind_some _ _).symm.trans H;with_reducible exact H2_)|with_reducible exact H|(rw [hy194];exact H)|exact H
      have Ny194:=zh hy194;clear hy194;have H':=zh H;clear H;have hnb10:=NB181_182.out;have hnc10:=NB182_181.out;obtain ⟨hcz11_0,hcz11_1,hcz11_2,hcz11_3,hfz11_0,hfz11_1,hfz11_2,hfz11_3⟩:=cB4 BK181.out;have p186 : 0≤(x4_1 : Int):=zy (by first|(with_reducible assumption)|assumption);have q186 : x4_1<(l0_0.length : Int):=zy (by first|(with_reducible assumption)|assumption);obtain ⟨ad186,A186_1,c186_1,A186_2,c186_2,e186,hx186_0,hx186_1,hx186_2,hl186_1,hi186_1,hl186_2,hi186_2⟩:=at_T54 HR0_0.out x4_1 p186 q186
      cases e186
      replace hx186_0:=(HB.out.cell (zl w _ hx186_0)).trans hx186_0;replace hx186_1:=(HB.out.cell (zl w _ hx186_1)).trans hx186_1;replace hx186_2:=(HB.out.cell (zl w _ hx186_2)).trans hx186_2;have HR186_1:=zh hi186_1;have HC186_1:=zh hl186_1;clear hi186_1 hl186_1;have HR186_2:=zh hi186_2;have HC186_2:=zh hl186_2;clear hi186_2 hl186_2;replace p186:=eq_true p186;replace q186:=eq_true q186
      go_wp2_with (first|((with_reducible refine zJ (f:=40) rfl ?_);refine yj (some 21) rfl rfl Tryz.func40 (by kernel_rfl) rfl #[.agg #[.string ((rd_T54 l0_0 x4_1).f0),.slice A186_1 ((rd_T54 l0_0 x4_1).f1).length c186_1,.slice A186_2 ((rd_T54 l0_0 x4_1).f2).length c186_2]] rfl (by (try simp only [zt,zu,zv]);first|done|rfl|(simp only [zw,zx];rfl)|(simp only [yr,ys,zV,zW];rfl)) ?_;(with_reducible refine (F1.calls k1  ((rd_T54 l0_0 x4_1).f0) _ _ ((rd_T54 l0_0 x4_1).f1) _ _ ((rd_T54 l0_0 x4_1).f2) t187 t188 t191 _ ?side1 ?side2 ?side3 ?side4 A8.out).mono ?_);(case side1 => repeat (first|exact (Kd.C_below HR186_1.out HB.out)|(with_reducible refine Kd.C_alloc ?_ _)|(with_reducible refine Kd.C_drewN ?_ _)|(with_reducible refine Kd.C_drew ?_)));(case side2 => exact HC186_1.out);(case side3 => repeat (first|exact (Kd.C_below HR186_2.out HB.out)|(with_reducible refine Kd.C_alloc ?_ _)|(with_reducible refine Kd.C_drewN ?_ _)|(with_reducible refine Kd.C_drew ?_)));(case side4 => exact HC186_2.out);rintro e w12 ⟨v189,v192,rfl,ho0,ho1,hb⟩;refine ⟨_,rfl,?_⟩;replace HO_3:=zh (zM (Kd.R_told (Kd.R_told (Kd.R_old (by (with_reducible repeat (first|apply zm|apply zn|apply zo));exact HO_3.out) hb) (Kd.S_base ho0)) (Kd.S_base ho1)) (fun _ h_ => h_.1));have HO190:=zh (Kd.S_lower ho0 (zB (by repeat (with_reducible first|exact HB.out|apply za|apply zb|apply zc|refine zd ?_ GE181.out|refine zd ?_ GE182.out))));have HO193:=zh (Kd.S_lower ho1 (zB (by repeat (with_reducible first|exact HB.out|apply za|apply zb|apply zc|refine zd ?_ GE181.out|refine zd ?_ GE182.out))));replace BK181:=zh (cD BK181.out (by (with_reducible repeat first|apply ze|apply zf|apply zg);exact BK181.out) hb);replace BK182:=zh (cD BK182.out (by (with_reducible repeat first|apply ze|apply zf|apply zg);exact BK182.out) hb);replace HB:=zh (zC (by repeat (with_reducible first|exact HB.out|apply za|apply zb|apply zc|refine zd ?_ GE181.out|refine zd ?_ GE182.out)) hb);(try clear hb);(try clear hb2);(try clear hk);(try clear hi);(try clear ho0);(try clear ho1);obtain ⟨Ao14,co14,eo14⟩:=Kd.S_slice HO190.out;subst eo14;obtain ⟨Ao15,co15,eo15⟩:=Kd.S_slice HO193.out;subst eo15)|((with_reducible refine yB (b:=.append) (xs:=#[.tmp 15,.tmp 22]) rfl ?_);at_builtin;refine Kd.R_append k54 (w0:=w) w.heap.size rfl (.tmp 15) (.tmp 22) 22 54 (.agg #[(.string ⟨#[]⟩),(.slice none 0 0),(.slice none 0 0)]) 64 rfl Tryz.underlying22 info54 rfl (by decide) (by omega) u3 x3_1 (⟨t187,t188,t191⟩ : S54) [.string t187,.slice Ao14 t188.length co14,.slice Ao15 t191.length co15] (fun _ => True) (fun k_ => ((fun _ => True)) k_∧some k_≠(u3 : Value).ownBlock) rfl rfl ?aP (fun _ hk => hk) ?aF ?aO ?aB ?aS ?aL ?_;(case aP => exact k54_mkM _ _ _ (⟨t187,t188,t191⟩ : S54) (zM (Kd.R_apart' ((Kd.S_R HO190.out)) (Kd.R_typed HO_3.out) (by decide)) (fun k_ hk => ⟨trivial,hk.2⟩)) (zM (Kd.R_apart' ((Kd.S_R HO193.out)) (Kd.R_typed HO_3.out) (by decide)) (fun k_ hk => ⟨trivial,hk.2⟩)));(case aB => exact (by repeat (with_reducible first|exact HB.out|apply za|apply zb|apply zc|refine zd ?_ GE181.out|refine zd ?_ GE182.out)));(case aF => exact (fun _ _ => trivial));(case aO => exact (by (with_reducible repeat (first|apply zm|apply zn|apply zo));exact zM HO_3.out (fun _ hk => trivial)));(case aS => exact (zB (by repeat (with_reducible first|exact HB.out|apply za|apply zb|apply zc|refine zd ?_ GE181.out|refine zd ?_ GE182.out))));(case aL => have:=LMc9.out;omega);intro v195 w13 ho hb hg hat;rw [← Ny194.out] at ho;replace BK181:=zh (yw (g:=gb181) (o:=.cells #[.slice (some ad186) l0_0.length c0_0,.slice A0_1 l0_1.length c0_1,.slice A0_2 l0_2.length c0_2,.int .i64 a0_3] 26 (0,0)) (by (with_reducible repeat first|apply ze|apply zf|apply zg);exact BK181.out) hg (Kd.R_ne HO_3.out BK181.out (by decide)));replace BK182:=zh (yw (g:=gb182) (o:=.cells #[.slice none 0 0,.slice none 0 0,.slice none 0 0,.int .i64 0] 26 (0,0)) (by (with_reducible repeat first|apply ze|apply zf|apply zg);exact BK182.out) hg (Kd.R_ne HO_3.out BK182.out (by decide)));replace HB:=zh (hb);have HO196:=zh (ho);clear HO_3 HO190 HO193 ho hb hg hat))
      go_roundg k1
      case measure => have:=HK1.out;omega
      case rel => exact ⟨(y194),(wrap64 (x4_1 + 1)),(by first|rfl|(simp;done)|(simp [*];done)),H',⟨by have:=HK1.out;omega⟩,⟨by (with_reducible repeat (first|apply zm|apply zn|apply zo));exact HO196.out⟩,⟨by (with_reducible repeat first|apply ze|apply zf|apply zg);exact BK181.out⟩,⟨by (with_reducible repeat first|apply ze|apply zf|apply zg);exact BK182.out⟩,⟨by repeat (with_reducible first|exact HB.out|apply za|apply zb|apply zc|refine zd ?_ GE181.out|refine zd ?_ GE182.out)⟩⟩
     rw [if_neg c9] at H;exact absurd H (by simp)
    rw [if_neg c7] at H;exact absurd H (by simp)
   rw [if_neg c6] at H;have c6b0 : decide (x4_1<(l0_0.length : Int))=false:=decide_eq_false c6;clear c6;obtain ⟨y197,hy197⟩ : ∃ y_ : List (S71),y_=(([] : List (S71))):=⟨_,rfl⟩;replace H : (F9.l1 k1 x3_1 y197 0 l0_0 l0_1 l0_2 a0_3)=some (r1,r2,r3,r4):=by first|(rw [hy197];with_reducible exact H)|(have H2_:=(Option.bind_some _ _).symm.trans H;rw [hy197];with_reducible exact H2_)|(have H2_:=(Option.bind_some _ _).symm.trans H;with_reducible exact H2_)|with_reducible exact H|(rw [hy197];exact H)|exact H
   have Ny197:=zh hy197;clear hy197;have H':=zh H;clear H;have hnb16:=NB181_182.out;have hnc16:=NB182_181.out;obtain ⟨hcz17_0,hcz17_1,hcz17_2,hcz17_3,hfz17_0,hfz17_1,hfz17_2,hfz17_3⟩:=cB4 BK181.out
   go_wp2_with (first|((with_reducible refine zK (N:=24) rfl ?_);refine Kd.R_lit k71 _ 71 ?hg (N:=24) ?hd (xs:=([] : List (S71))) (inner:=[]) (ok:=fun _ => True) (okp:=fun _ => True) ?hr ?hp (fun _ hk => hk) trivial (Below.refl _ _) (ye _) (by simp) ?_;(case hd|hg => rfl);(case hr => go_simp <;> rfl);(case hp => exact (Reps.none _ _));intro v198 w18 ho19 hb hg_ hnew_;clear hg_ hnew_;(first|rw [← Ny197.out] at ho19|(simp only [Int.reduceToNat] at ho19;rw [← Ny197.out] at ho19));replace HO_3:=zh (yg (by (with_reducible repeat (first|apply zm|apply zn|apply zo));exact HO_3.out) hb);have HO199:=zh (yy ho19 (zB (by repeat (with_reducible first|exact HB.out|apply za|apply zb|apply zc|refine zd ?_ GE181.out|refine zd ?_ GE182.out))));replace BK181:=zh (cD BK181.out (by (with_reducible repeat first|apply ze|apply zf|apply zg);exact BK181.out) hb);replace BK182:=zh (cD BK182.out (by (with_reducible repeat first|apply ze|apply zf|apply zg);exact BK182.out) hb);replace HB:=zh (zC (by repeat (with_reducible first|exact HB.out|apply za|apply zb|apply zc|refine zd ?_ GE181.out|refine zd ?_ GE182.out)) hb);clear hb ho19))
   go_loopg [5,6] k1 (fun kq v5 v6 w' => ∃ (x5_2 : List (S71)) (x6_2 : Int),v6 = .int .i64 x6_2∧Aside0 (F9.l1 kq x3_1 x5_2 x6_2 l0_0 l0_1 l0_2 a0_3=some (r1,r2,r3,r4))∧Aside0 (kq≤k1)∧Aside0 (Kd.R k54 54 w' w.heap.size (fun _ => True) u3 x3_1)∧Aside0 (Kd.R k71 71 w' w.heap.size (fun _ => True) v5 x5_2)∧Aside0 (w'.heap[gb181]? = some (.cells #[(.slice A0_0 l0_0.length c0_0),(.slice A0_1 l0_1.length c0_1),(.slice A0_2 l0_2.length c0_2),.int .i64 a0_3] 26 (0,0)))∧Aside0 (w'.heap[gb182]? = some (.cells #[(.slice none 0 0),(.slice none 0 0),(.slice none 0 0),.int .i64 0] 26 (0,0)))∧Aside0 (Below w.heap.size w w'))
   case atStart => exact ⟨(y197),(0),(by first|rfl|(simp;done)|(simp [*];done)),H',⟨ye _⟩,⟨by (with_reducible repeat (first|apply zm|apply zn|apply zo));exact HO_3.out⟩,⟨by (with_reducible repeat (first|apply zm|apply zn|apply zo));exact HO199.out⟩,⟨by (with_reducible repeat first|apply ze|apply zf|apply zg);exact BK181.out⟩,⟨by (with_reducible repeat first|apply ze|apply zf|apply zg);exact BK182.out⟩,⟨by repeat (with_reducible first|exact HB.out|apply za|apply zb|apply zc|refine zd ?_ GE181.out|refine zd ?_ GE182.out)⟩⟩
   case round =>
    clear H'
    try clear c1
    try clear p1
    try clear q1
    try clear hx1
    try clear p2
    try clear c4 c6 c6b0
    try clear p6
    try clear c7 c7b0 c9 c10 c16 c18
    try clear p18
    try clear q18
    try clear hx18
    try clear c19
    try clear hcz11_0 hcz11_1 hcz11_2 hcz11_3
    try clear hcz17_0 hcz17_1 hcz17_2 hcz17_3
    try clear hfz11_0 hfz11_1 hfz11_2 hfz11_3
    try clear hfz17_0 hfz17_1 hfz17_2 hfz17_3
    try clear hx186_0
    try clear hx186_1
    try clear hx186_2
    try clear p186
    try clear p2
    try clear q186
    obtain ⟨x5_2,x6_2,rfl,HA,HK2,HO_3,HO_5,BK181,BK182,HB⟩:=hrel
    cases gk with
    | zero => exact absurd HA.out (by simp [F9.l1])
    | succ k2 =>
     have H:=HA.out;clear HA;simp only [F9.l1] at H
     by_cases c20 : x6_2<(l0_1.length : Int)
     ·
      rw [if_pos c20] at H
      have c20b0 : decide (x6_2<(l0_1.length : Int))=true:=decide_eq_true c20;clear c20
      by_cases c21 : 0≤x6_2
      ·
       rw [if_pos c21] at H
       have c21b0 : decide (0≤x6_2)=true:=decide_eq_true c21;clear c21;replace H:=zT.mp H;obtain ⟨⟨t201,t202,t203,t206⟩,A220,H⟩:=H;replace H : (if x5_2.length<2199023255552 then (F9.l1 k2 x3_1 (x5_2 ++ [(⟨t201,t202,t203,t206⟩ : S71)]) (wrap64 (x6_2 + 1)) l0_0 l0_1 l0_2 a0_3) else (none))=some (r1,r2,r3,r4):=H;have A22:=zh A220;clear A220
       by_cases c23 : x5_2.length<2199023255552
       ·
        rw [if_pos c23] at H
        have LMc23:=zh c23;clear c23;obtain ⟨y209,hy209⟩ : ∃ y_ : List (S71),y_=(x5_2 ++ [(⟨t201,t202,t203,t206⟩ : S71)]):=⟨_,rfl⟩;replace H : (F9.l1 k2 x3_1 y209 (wrap64 (x6_2 + 1)) l0_0 l0_1 l0_2 a0_3)=some (r1,r2,r3,r4):=by first|(rw [hy209];with_reducible exact H)|(have H2_:=(Option.bind_some _ _).symm.trans H;rw [hy209];with_reducible exact H2_)|(have H2_:=(Option.bind_some _ _).symm.trans H;with_reducible exact H2_)|with_reducible exact H|(rw [hy209];exact H)|exact H
        have Ny209:=zh hy209;clear hy209;have H':=zh H;clear H;have hnb24:=NB181_182.out;have hnc24:=NB182_181.out;obtain ⟨hcz25_0,hcz25_1,hcz25_2,hcz25_3,hfz25_0,hfz25_1,hfz25_2,hfz25_3⟩:=cB4 BK181.out;have p200 : 0≤(x6_2 : Int):=zy (by first|(with_reducible assumption)|assumption);have q200 : x6_2<(l0_1.length : Int):=zy (by first|(with_reducible assumption)|assumption);obtain ⟨ad200,A200_2,c200_2,A200_3,c200_3,e200,hx200_0,hx200_1,hx200_2,hx200_3,hl200_2,hi200_2,hl200_3,hi200_3⟩:=at_T71 HR0_1.out x6_2 p200 q200
        cases e200
        replace hx200_0:=(HB.out.cell (zl w _ hx200_0)).trans hx200_0;replace hx200_1:=(HB.out.cell (zl w _ hx200_1)).trans hx200_1;replace hx200_2:=(HB.out.cell (zl w _ hx200_2)).trans hx200_2;replace hx200_3:=(HB.out.cell (zl w _ hx200_3)).trans hx200_3;have HR200_2:=zh hi200_2;have HC200_2:=zh hl200_2;clear hi200_2 hl200_2;have HR200_3:=zh hi200_3;have HC200_3:=zh hl200_3;clear hi200_3 hl200_3;replace p200:=eq_true p200;replace q200:=eq_true q200
        go_wp2_with (first|((with_reducible refine zJ (f:=41) rfl ?_);refine yj (some 38) rfl rfl Tryz.func41 (by kernel_rfl) rfl #[.agg #[.int .i64 ((rd_T71 l0_1 x6_2).f0),.int .i64 ((rd_T71 l0_1 x6_2).f1),.slice A200_2 ((rd_T71 l0_1 x6_2).f2).length c200_2,.slice A200_3 ((rd_T71 l0_1 x6_2).f3).length c200_3]] rfl (by (try simp only [zt,zu,zv]);first|done|rfl|(simp only [zw,zx];rfl)|(simp only [yr,ys,zV,zW];rfl)) ?_;(with_reducible refine (F08.calls k2  ((rd_T71 l0_1 x6_2).f0) ((rd_T71 l0_1 x6_2).f1) _ _ ((rd_T71 l0_1 x6_2).f2) _ _ ((rd_T71 l0_1 x6_2).f3) t201 t202 t203 t206 _ ?side1 ?side2 ?side3 ?side4 A22.out).mono ?_);(case side1 => repeat (first|exact (Kd.C_below HR200_2.out HB.out)|(with_reducible refine Kd.C_alloc ?_ _)|(with_reducible refine Kd.C_drewN ?_ _)|(with_reducible refine Kd.C_drew ?_)));(case side2 => exact HC200_2.out);(case side3 => repeat (first|exact (Kd.C_below HR200_3.out HB.out)|(with_reducible refine Kd.C_alloc ?_ _)|(with_reducible refine Kd.C_drewN ?_ _)|(with_reducible refine Kd.C_drew ?_)));(case side4 => exact HC200_3.out);rintro e w26 ⟨v204,v207,rfl,ho0,ho1,hb⟩;refine ⟨_,rfl,?_⟩;replace HO_3:=zh (yg (by (with_reducible repeat (first|apply zm|apply zn|apply zo));exact HO_3.out) hb);replace HO_5:=zh (zM (Kd.R_told (Kd.R_told (Kd.R_old (by (with_reducible repeat (first|apply zm|apply zn|apply zo));exact HO_5.out) hb) (Kd.R_base ho0)) (Kd.R_base ho1)) (fun _ h_ => h_.1));have HO205:=zh (yy ho0 (zB (by repeat (with_reducible first|exact HB.out|apply za|apply zb|apply zc|refine zd ?_ GE181.out|refine zd ?_ GE182.out))));have HO208:=zh (yy ho1 (zB (by repeat (with_reducible first|exact HB.out|apply za|apply zb|apply zc|refine zd ?_ GE181.out|refine zd ?_ GE182.out))));replace BK181:=zh (cD BK181.out (by (with_reducible repeat first|apply ze|apply zf|apply zg);exact BK181.out) hb);replace BK182:=zh (cD BK182.out (by (with_reducible repeat first|apply ze|apply zf|apply zg);exact BK182.out) hb);replace HB:=zh (zC (by repeat (with_reducible first|exact HB.out|apply za|apply zb|apply zc|refine zd ?_ GE181.out|refine zd ?_ GE182.out)) hb);(try clear hb);(try clear hb2);(try clear hk);(try clear hi);(try clear ho0);(try clear ho1);obtain ⟨Ao28,co28,eo28⟩:=yk HO205.out;subst eo28;obtain ⟨Ao29,co29,eo29⟩:=yk HO208.out;subst eo29)|((with_reducible refine yB (b:=.append) (xs:=#[.tmp 32,.tmp 39]) rfl ?_);at_builtin;refine Kd.R_append k71 (w0:=w) w.heap.size rfl (.tmp 32) (.tmp 39) 23 71 (.agg #[(.int .i64 0),(.int .i64 0),(.slice none 0 0),(.slice none 0 0)]) 64 rfl Tryz.underlying23 info71 rfl (by decide) (by omega) u5 x5_2 (⟨t201,t202,t203,t206⟩ : S71) [.int .i64 t201,.int .i64 t202,.slice Ao28 t203.length co28,.slice Ao29 t206.length co29] (fun _ => True) (fun k_ => ((fun _ => True)) k_∧some k_≠(u5 : Value).ownBlock) rfl rfl ?aP (fun _ hk => hk) ?aF ?aO ?aB ?aS ?aL ?_;(case aP => exact k71_mkM _ _ _ (⟨t201,t202,t203,t206⟩ : S71) (zM (Kd.R_apart' (HO205.out) (Kd.R_typed HO_5.out) (by decide)) (fun k_ hk => ⟨trivial,hk.2⟩)) (zM (Kd.R_apart' (HO208.out) (Kd.R_typed HO_5.out) (by decide)) (fun k_ hk => ⟨trivial,hk.2⟩)));(case aB => exact (by repeat (with_reducible first|exact HB.out|apply za|apply zb|apply zc|refine zd ?_ GE181.out|refine zd ?_ GE182.out)));(case aF => exact (fun _ _ => trivial));(case aO => exact (by (with_reducible repeat (first|apply zm|apply zn|apply zo));exact zM HO_5.out (fun _ hk => trivial)));(case aS => exact (zB (by repeat (with_reducible first|exact HB.out|apply za|apply zb|apply zc|refine zd ?_ GE181.out|refine zd ?_ GE182.out))));(case aL => have:=LMc23.out;omega);intro v210 w27 ho hb hg hat;rw [← Ny209.out] at ho;replace HO_3:=zh (Kd.R_over' (by (with_reducible repeat (first|apply zm|apply zn|apply zo));exact HO_3.out) (Kd.R_typed (by (with_reducible repeat (first|apply zm|apply zn|apply zo));exact HO_5.out)) (by decide) hg);replace BK181:=zh (yw (g:=gb181) (o:=.cells #[.slice A0_0 l0_0.length c0_0,.slice (some ad200) l0_1.length c0_1,.slice A0_2 l0_2.length c0_2,.int .i64 a0_3] 26 (0,0)) (by (with_reducible repeat first|apply ze|apply zf|apply zg);exact BK181.out) hg (Kd.R_ne HO_5.out BK181.out (by decide)));replace BK182:=zh (yw (g:=gb182) (o:=.cells #[.slice none 0 0,.slice none 0 0,.slice none 0 0,.int .i64 0] 26 (0,0)) (by (with_reducible repeat first|apply ze|apply zf|apply zg);exact BK182.out) hg (Kd.R_ne HO_5.out BK182.out (by decide)));replace HB:=zh (hb);have HO211:=zh (ho);clear HO_5 HO205 HO208 ho hb hg hat))
        go_roundg k2
        case measure => have:=HK1.out;have:=HK2.out;omega
        case rel => exact ⟨(y209),(wrap64 (x6_2 + 1)),(by first|rfl|(simp;done)|(simp [*];done)),H',⟨by have:=HK1.out;have:=HK2.out;omega⟩,⟨by (with_reducible repeat (first|apply zm|apply zn|apply zo));exact HO_3.out⟩,⟨by (with_reducible repeat (first|apply zm|apply zn|apply zo));exact HO211.out⟩,⟨by (with_reducible repeat first|apply ze|apply zf|apply zg);exact BK181.out⟩,⟨by (with_reducible repeat first|apply ze|apply zf|apply zg);exact BK182.out⟩,⟨by repeat (with_reducible first|exact HB.out|apply za|apply zb|apply zc|refine zd ?_ GE181.out|refine zd ?_ GE182.out)⟩⟩
       rw [if_neg c23] at H;exact absurd H (by simp)
      rw [if_neg c21] at H;exact absurd H (by simp)
     rw [if_neg c20] at H;have c20b0 : decide (x6_2<(l0_1.length : Int))=false:=decide_eq_false c20;clear c20;replace H:=zT.mp H;obtain ⟨t212,A300,H⟩:=H;replace H : (some (x3_1,x5_2,t212,a0_3))=some (r1,r2,r3,r4):=H;have A30:=zh A300;clear A300;simp only [Option.some.injEq,Prod.mk.injEq] at H;obtain ⟨rfl,rfl,rfl,rfl⟩:=H;have hnb31:=NB181_182.out;have hnc31:=NB182_181.out;obtain ⟨hcz32_0,hcz32_1,hcz32_2,hcz32_3,hfz32_0,hfz32_1,hfz32_2,hfz32_3⟩:=cB4 BK181.out;obtain ⟨Ao33,co33,eo33⟩:=yk HO_3.out;subst eo33;obtain ⟨Ao34,co34,eo34⟩:=yk HO_5.out;subst eo34
     go_wp2_with (first|((with_reducible refine zJ (f:=42) rfl ?_);refine yj (some 47) rfl rfl Tryz.func42 (by kernel_rfl) rfl #[.slice A0_2 l0_2.length c0_2] rfl (by (try simp only [zt,zu,zv]);first|done|rfl|(simp only [zw,zx];rfl)|(simp only [yr,ys,zV,zW];rfl)) ?_;(with_reducible refine (Fc.calls k2  _ _ l0_2 t212 _ ?side1 ?side2 A30.out).mono ?_);(case side1 => exact Kd.C_below HR0_2.out (by repeat (with_reducible first|exact HB.out|apply za|apply zb|apply zc|refine zd ?_ GE181.out|refine zd ?_ GE182.out)));(case side2 => exact HC0_2.out);rintro e w35 ⟨v213,rfl,ho0,hb⟩;refine ⟨_,rfl,?_⟩;replace HO_3:=zh (yg (by (with_reducible repeat (first|apply zm|apply zn|apply zo));exact (zM (zE (p:=⟨gb181,1,none⟩) (zE (p:=⟨gb181,0,none⟩) (yf HO_3.out BK181.out (by decide)) (fun _ hk => hk.2) (.slice Ao33 x3_1.length co33)) (fun _ hk => hk.2) (.slice Ao34 x5_2.length co34)) (fun _ h_ => h_.1))) hb);replace HO_5:=zh (yg (by (with_reducible repeat (first|apply zm|apply zn|apply zo));exact (zM (zE (p:=⟨gb181,1,none⟩) (zE (p:=⟨gb181,0,none⟩) (yf HO_5.out BK181.out (by decide)) (fun _ hk => hk.2) (.slice Ao33 x3_1.length co33)) (fun _ hk => hk.2) (.slice Ao34 x5_2.length co34)) (fun _ h_ => h_.1))) hb);have HO214:=zh (yy ho0 (zB (by repeat (with_reducible first|exact HB.out|apply za|apply zb|apply zc|refine zd ?_ GE181.out|refine zd ?_ GE182.out))));replace BK181:=zh (zD (g:=gb181) (o:=.cells #[.slice Ao33 x3_1.length co33,.slice Ao34 x5_2.length co34,.slice A0_2 l0_2.length c0_2,.int .i64 a0_3] 26 (0,0)) (by (with_reducible repeat first|apply ze|apply zf|apply zg);refine zL (cs:=#[.slice Ao33 x3_1.length co33,.slice A0_1 l0_1.length c0_1,.slice A0_2 l0_2.length c0_2,.int .i64 a0_3]) ?_ 1 _ rfl;(with_reducible repeat first|apply ze|apply zf|apply zg);refine zL (cs:=#[.slice A0_0 l0_0.length c0_0,.slice A0_1 l0_1.length c0_1,.slice A0_2 l0_2.length c0_2,.int .i64 a0_3]) ?_ 0 _ rfl;(with_reducible repeat first|apply ze|apply zf|apply zg);exact BK181.out) hb);replace BK182:=zh (cD BK182.out (by (with_reducible repeat first|apply ze|apply zf|apply zg);refine cS2 ?_ NB182_181.out;(with_reducible repeat first|apply ze|apply zf|apply zg);exact BK182.out) hb);replace HB:=zh (zC (by repeat (with_reducible first|exact HB.out|apply za|apply zb|apply zc|refine zd ?_ GE181.out|refine zd ?_ GE182.out)) hb);(try clear hb);(try clear hb2);(try clear hk);(try clear hi);(try clear ho0);obtain ⟨Ao36,co36,eo36⟩:=yk HO214.out;subst eo36;obtain ⟨hcz37_0,hcz37_1,hcz37_2,hcz37_3,hfz37_0,hfz37_1,hfz37_2,hfz37_3⟩:=cB4 BK181.out;obtain ⟨hcz38_0,hcz38_1,hcz38_2,hcz38_3,hfz38_0,hfz38_1,hfz38_2,hfz38_3⟩:=cB4 BK182.out))
     refine bodyPost_ret (results_cell_row rfl _ _ gb182 26 #[.slice Ao33 x3_1.length co33,.slice Ao34 x5_2.length co34,.slice Ao36 t212.length co36,.int .i64 a0_3] (0,0) _ rfl (by (with_reducible repeat first|apply ze|apply zf|apply zg);refine zL (cs:=#[.slice Ao33 x3_1.length co33,.slice Ao34 x5_2.length co34,.slice Ao36 t212.length co36,.int .i64 0]) ?_ 3 _ rfl;(with_reducible repeat first|apply ze|apply zf|apply zg);refine zL (cs:=#[.slice Ao33 x3_1.length co33,.slice Ao34 x5_2.length co34,.slice none 0 0,.int .i64 0]) ?_ 2 _ rfl;(with_reducible repeat first|apply ze|apply zf|apply zg);refine zL (cs:=#[.slice Ao33 x3_1.length co33,.slice none 0 0,.slice none 0 0,.int .i64 0]) ?_ 1 _ rfl;(with_reducible repeat first|apply ze|apply zf|apply zg);refine zL (cs:=#[.slice none 0 0,.slice none 0 0,.slice none 0 0,.int .i64 0]) ?_ 0 _ rfl;(with_reducible repeat first|apply ze|apply zf|apply zg);refine zS ?_ NB182_181.out _;(with_reducible repeat first|apply ze|apply zf|apply zg);exact BK182.out) Tryz.underlying26 rfl (by kernel_rfl)) rfl ?_;exact ⟨_,_,_,by first|rfl|(simp [yt,yu] <;> rfl)|(simp [*,yt,yu] <;> rfl),by (with_reducible repeat (first|apply zm|apply zn|apply zo));exact zM (zE (p:=⟨gb182,3,none⟩) (zE (p:=⟨gb182,2,none⟩) (zE (p:=⟨gb182,1,none⟩) (zE (p:=⟨gb182,0,none⟩) (zE (p:=⟨gb181,2,none⟩) (yf (yf HO_3.out BK181.out (by decide)) BK182.out (by decide)) (fun _ hk => hk.1.2) (.slice Ao36 t212.length co36)) (fun _ hk => hk.2) (.slice Ao33 x3_1.length co33)) (fun _ hk => hk.2) (.slice Ao34 x5_2.length co34)) (fun _ hk => hk.2) (.slice Ao36 t212.length co36)) (fun _ hk => hk.2) (.int .i64 a0_3)) (fun _ hk => trivial),by (with_reducible repeat (first|apply zm|apply zn|apply zo));exact zM (zE (p:=⟨gb182,3,none⟩) (zE (p:=⟨gb182,2,none⟩) (zE (p:=⟨gb182,1,none⟩) (zE (p:=⟨gb182,0,none⟩) (zE (p:=⟨gb181,2,none⟩) (yf (yf HO_5.out BK181.out (by decide)) BK182.out (by decide)) (fun _ hk => hk.1.2) (.slice Ao36 t212.length co36)) (fun _ hk => hk.2) (.slice Ao33 x3_1.length co33)) (fun _ hk => hk.2) (.slice Ao34 x5_2.length co34)) (fun _ hk => hk.2) (.slice Ao36 t212.length co36)) (fun _ hk => hk.2) (.int .i64 a0_3)) (fun _ hk => trivial),by (with_reducible repeat (first|apply zm|apply zn|apply zo));exact zM (zE (p:=⟨gb182,3,none⟩) (zE (p:=⟨gb182,2,none⟩) (zE (p:=⟨gb182,1,none⟩) (zE (p:=⟨gb182,0,none⟩) (zE (p:=⟨gb181,2,none⟩) (yf (yf HO214.out BK181.out (by decide)) BK182.out (by decide)) (fun _ hk => hk.1.2) (.slice Ao36 t212.length co36)) (fun _ hk => hk.2) (.slice Ao33 x3_1.length co33)) (fun _ hk => hk.2) (.slice Ao34 x5_2.length co34)) (fun _ hk => hk.2) (.slice Ao36 t212.length co36)) (fun _ hk => hk.2) (.int .i64 a0_3)) (fun _ hk => trivial),by repeat (with_reducible first|exact HB.out|apply za|apply zb|apply zc|refine zd ?_ GE181.out|refine zd ?_ GE182.out)⟩

end Go.Proofs.YtceggklknggfdaaGreat.Q
end
section
namespace Go.Proofs.YtceggklknggfdaaGreat.Q
open Go.RowKit Go.Proofs.YtceggklknggfdaaGreatW.PrintWords Go.Proofs.YtceggklknggfdaaGreatW.PrintLast Go.Proofs.YtceggklknggfdaaGreatW.PrintMore
attribute [local go_sem] max2_int min2_int max_two min_two max_three min_three max_four min_four max2_str min2_str str_geq str_gtr str_leq
set_option linter.unusedVariables false
set_option linter.unusedSimpArgs false

def F07.f (k : Nat) (a0_0 : Int) (a0_1 : Int) (a0_2 : ByteArray) (a0_3 : Int) (a0_4 : Int) (a0_5 : ByteArray) (l0_6 : List (S129)) (l0_7 : List (S131)) (a0_8 : Int) (a0_9 : Int) (l0_10 : List ByteArray) (a0_11 : ByteArray) (l0_12 : List (S133)) (a0_13 : ByteArray) (l0_14 : List (S131)) : Option (Int×Int×ByteArray×Int×Int×ByteArray×(List (S129))×(List (S131))×Int×Int×List ByteArray×ByteArray×(List (S133))×ByteArray×(List (S131))):=none
theorem F07.mono : ∀ a0 a1 a2 a3 a4 a5 a6 a7 a8 a9 a10 a11 a12 a13 a14 k,LeO (F07.f k a0 a1 a2 a3 a4 a5 a6 a7 a8 a9 a10 a11 a12 a13 a14) (F07.f (k + 1) a0 a1 a2 a3 a4 a5 a6 a7 a8 a9 a10 a11 a12 a13 a14):=by
 intro a0 a1 a2 a3 a4 a5 a6 a7 a8 a9 a10 a11 a12 a13 a14 k;unfold F07.f
 repeat' first|(with_reducible first|exact F5.mono _ _|exact zQ _|exact zN _|refine zP ?_ ?_|refine zO ?_ (fun _ => ?_))|refine zP ?_ ?_|refine zO ?_ (fun _ => ?_)
set_option maxHeartbeats 8000000 in
set_option maxRecDepth 100000 in
theorem F07.calls (k : Nat) (a0_0 : Int) (a0_1 : Int) (a0_2 : ByteArray) (a0_3 : Int) (a0_4 : Int) (a0_5 : ByteArray) (P0_6_ : Nat→Prop) (A0_6 : Option Addr) (c0_6 : Nat) (l0_6 : List (S129)) (A0_7 : Option Addr) (c0_7 : Nat) (l0_7 : List (S131)) (a0_8 : Int) (a0_9 : Int) (A0_10 : Option Addr) (c0_10 : Nat) (l0_10 : List ByteArray) (a0_11 : ByteArray) (A0_12 : Option Addr) (c0_12 : Nat) (l0_12 : List (S133)) (a0_13 : ByteArray) (A0_14 : Option Addr) (c0_14 : Nat) (l0_14 : List (S131)) (r1 : Int) (r2 : Int) (r3 : ByteArray) (r4 : Int) (r5 : Int) (r6 : ByteArray) (r7 : List (S129)) (r8 : List (S131)) (r9 : Int) (r10 : Int) (r11 : List ByteArray) (r12 : ByteArray) (r13 : List (S133)) (r14 : ByteArray) (r15 : List (S131)) (w : World) (hs0_6 : Kd.V k129 129 w w.heap.size (fun k_ => P0_6_ k_) (.slice A0_6 l0_6.length c0_6) l0_6) (hr0_7 : Kd.C k131 w A0_7 l0_7.length l0_7) (hc0_7 : l0_7.length≤c0_7) (hr0_10 : Kd.C Kd.string w A0_10 l0_10.length l0_10) (hc0_10 : l0_10.length≤c0_10) (hr0_12 : Kd.C k133 w A0_12 l0_12.length l0_12) (hc0_12 : l0_12.length≤c0_12) (hr0_14 : Kd.C k131 w A0_14 l0_14.length l0_14) (hc0_14 : l0_14.length≤c0_14) (h : F07.f k a0_0 a0_1 a0_2 a0_3 a0_4 a0_5 l0_6 l0_7 a0_8 a0_9 l0_10 a0_11 l0_12 a0_13 l0_14=some (r1,r2,r3,r4,r5,r6,r7,r8,r9,r10,r11,r12,r13,r14,r15)) :
  Calls Tryz.prog 43 #[.agg #[.int .i64 a0_0,.int .i64 a0_1,.string a0_2,.int .i64 a0_3,.int .i64 a0_4,.string a0_5,.slice A0_6 l0_6.length c0_6,.slice A0_7 l0_7.length c0_7,.int .i64 a0_8,.int .i64 a0_9,.slice A0_10 l0_10.length c0_10,.string a0_11,.slice A0_12 l0_12.length c0_12,.string a0_13,.slice A0_14 l0_14.length c0_14]] w fun e w' => ∃ v6_ v7_ v10_ v12_ v14_ : Value,e = .returned (.agg #[.int .i64 r1,.int .i64 r2,.string r3,.int .i64 r4,.int .i64 r5,.string r6,v6_,v7_,.int .i64 r9,.int .i64 r10,v10_,.string r12,v12_,.string r14,v14_])∧Kd.V k129 129 w' w.heap.size (fun k_ => (P0_6_ k_∨w.heap.size≤k_)∧some k_≠(v7_ : Value).ownBlock∧some k_≠(v10_ : Value).ownBlock∧some k_≠(v12_ : Value).ownBlock∧some k_≠(v14_ : Value).ownBlock) v6_ r7∧Kd.R k131 131 w' w.heap.size (fun k_ => (w.heap.size≤k_)∧some k_≠(v14_ : Value).ownBlock) v7_ r8∧Kd.R Kd.string 9 w' w.heap.size (fun k_ => (w.heap.size≤k_)) v10_ r11∧Kd.R k133 133 w' w.heap.size (fun k_ => (w.heap.size≤k_)) v12_ r13∧Kd.R k131 131 w' w.heap.size (fun k_ => (w.heap.size≤k_)∧some k_≠(v7_ : Value).ownBlock) v14_ r15∧Below w.heap.size w w':=by
 exact absurd h (by simp [F07.f])

end Go.Proofs.YtceggklknggfdaaGreat.Q
end
section
namespace Go.Proofs.YtceggklknggfdaaGreat.Q
open Go.RowKit Go.Proofs.YtceggklknggfdaaGreatW.PrintWords Go.Proofs.YtceggklknggfdaaGreatW.PrintLast Go.Proofs.YtceggklknggfdaaGreatW.PrintMore
attribute [local go_sem] max2_int min2_int max_two min_two max_three min_three max_four min_four max2_str min2_str str_geq str_gtr str_leq   -- for this text's walks alone
set_option linter.unusedVariables false
set_option linter.unusedSimpArgs false

mutual
def F6.l0 : Nat→List (S44)→List (S44)→Int→Option ((List (S44)))
 | 0,_,_,_ => none
 | k + 1,x0,x3,x4 => if x4<(x0.length : Int) then (F6.l1 k x0 x3 x4 (([] : List (S91))) 0) else (some x3)
def F6.l1 : Nat→List (S44)→List (S44)→Int→List (S91)→Int→Option ((List (S44)))
 | 0,_,_,_,_,_ => none
 | k + 1,x0,x3,x4,x5,x6 => if 0≤x4 then (if x4<(x0.length : Int) then (if x6<(((rd_T44 x0 x4).f1).length : Int) then (if 0≤x6 then ((F07.f k ((rd_T91 ((rd_T44 x0 x4).f1) x6).f0.f0) ((rd_T91 ((rd_T44 x0 x4).f1) x6).f0.f1) ((rd_T91 ((rd_T44 x0 x4).f1) x6).f0.f2) ((rd_T91 ((rd_T44 x0 x4).f1) x6).f0.f3.f0) ((rd_T91 ((rd_T44 x0 x4).f1) x6).f0.f3.f1) ((rd_T91 ((rd_T44 x0 x4).f1) x6).f0.f3.f2) ((rd_T91 ((rd_T44 x0 x4).f1) x6).f0.f4.f0.f0) ((rd_T91 ((rd_T44 x0 x4).f1) x6).f0.f4.f1) ((rd_T91 ((rd_T44 x0 x4).f1) x6).f0.f4.f2) ((rd_T91 ((rd_T44 x0 x4).f1) x6).f0.f4.f3) ((rd_T91 ((rd_T44 x0 x4).f1) x6).f0.f4.f4) ((rd_T91 ((rd_T44 x0 x4).f1) x6).f0.f4.f5) ((rd_T91 ((rd_T44 x0 x4).f1) x6).f0.f5) ((rd_T91 ((rd_T44 x0 x4).f1) x6).f0.f6.f0) ((rd_T91 ((rd_T44 x0 x4).f1) x6).f0.f6.f1)).bind fun bt258 => ((some (([] : List (S75)) : List (S75))).bind fun y283 => (if y283.length + ((rd_T91 ((rd_T44 x0 x4).f1) x6).f1.f1).length<4398046511104 then (if x5.length<517417236600 then (F6.l1 k x0 x3 x4 (x5 ++ [(⟨(⟨bt258.1,bt258.2.1,bt258.2.2.1,(⟨bt258.2.2.2.1,bt258.2.2.2.2.1,bt258.2.2.2.2.2.1⟩ : S75),(⟨(⟨bt258.2.2.2.2.2.2.1⟩ : S78),bt258.2.2.2.2.2.2.2.1,bt258.2.2.2.2.2.2.2.2.1,bt258.2.2.2.2.2.2.2.2.2.1,bt258.2.2.2.2.2.2.2.2.2.2.1,bt258.2.2.2.2.2.2.2.2.2.2.2.1⟩ : S81),bt258.2.2.2.2.2.2.2.2.2.2.2.2.1,(⟨bt258.2.2.2.2.2.2.2.2.2.2.2.2.2.1,bt258.2.2.2.2.2.2.2.2.2.2.2.2.2.2⟩ : S84)⟩ : S86),(⟨(rd_T91 ((rd_T44 x0 x4).f1) x6).f1.f0,(y283 ++ ((rd_T91 ((rd_T44 x0 x4).f1) x6).f1.f1)),(rd_T91 ((rd_T44 x0 x4).f1) x6).f1.f2⟩ : S89)⟩ : S91)]) (wrap64 (x6 + 1))) else (none)) else (none)))) else (none)) else ((Fc.f k (([(⟨(rd_T44 x0 x4).f0.f0,(rd_T44 x0 x4).f0.f1,(rd_T44 x0 x4).f0.f2,(rd_T44 x0 x4).f0.f3,(rd_T44 x0 x4).f0.f4,(rd_T44 x0 x4).f0.f5⟩ : S41)] : List (S41)))).bind fun t296 => (if 0<(t296.length : Int) then (if x3.length<1466015503701 then (F6.l0 k x0 (x3 ++ [(⟨(⟨(rd_T41 t296 0).f0,(rd_T41 t296 0).f1,(rd_T41 t296 0).f2,(rd_T41 t296 0).f3,(rd_T41 t296 0).f4,(rd_T41 t296 0).f5⟩ : S41),x5⟩ : S44)]) (wrap64 (x4 + 1))) else (none)) else (none)))) else (none)) else (none)
end
def F6.f (k : Nat) (l0 : List (S44)) : Option ((List (S44))):=F6.l0 k l0 (([] : List (S44))) 0
theorem F6.mono_l : ∀ k,(∀ y0 y1 y2,LeO (F6.l0 k y0 y1 y2) (F6.l0 (k + 1) y0 y1 y2))∧(∀ y0 y1 y2 y3 y4,LeO (F6.l1 k y0 y1 y2 y3 y4) (F6.l1 (k + 1) y0 y1 y2 y3 y4))
 | 0 => ⟨fun _ _ _ r h => by simp [F6.l0] at h,fun _ _ _ _ _ r h => by simp [F6.l1] at h⟩
 | k + 1 => by
  obtain ⟨ih0,ih1⟩:=F6.mono_l k;refine ⟨?_,?_⟩
  ·
   intro y0 y1 y2
   unfold F6.l0
   repeat' first|(with_reducible first|exact ih0 _ _ _|exact ih1 _ _ _ _ _|exact Fc.mono _ _|exact F07.mono _ _ _ _ _ _ _ _ _ _ _ _ _ _ _ _|exact zQ _|exact zN _|refine zP ?_ ?_|refine zO ?_ (fun _ => ?_))|refine zP ?_ ?_|refine zO ?_ (fun _ => ?_)
  intro y0 y1 y2 y3 y4;unfold F6.l1
  repeat' first|(with_reducible first|exact ih0 _ _ _|exact ih1 _ _ _ _ _|exact Fc.mono _ _|exact F07.mono _ _ _ _ _ _ _ _ _ _ _ _ _ _ _ _|exact zQ _|exact zN _|refine zP ?_ ?_|refine zO ?_ (fun _ => ?_))|refine zP ?_ ?_|refine zO ?_ (fun _ => ?_)
theorem F6.mono : ∀ a0 k,LeO (F6.f k a0) (F6.f (k + 1) a0):=by
 intro a0 k;obtain ⟨ih0,ih1⟩:=F6.mono_l k;unfold F6.f
 repeat' first|(with_reducible first|exact ih0 _ _ _|exact ih1 _ _ _ _ _|exact Fc.mono _ _|exact F07.mono _ _ _ _ _ _ _ _ _ _ _ _ _ _ _ _|exact zQ _|exact zN _|refine zP ?_ ?_|refine zO ?_ (fun _ => ?_))|refine zP ?_ ?_|refine zO ?_ (fun _ => ?_)
set_option maxHeartbeats 8000000 in
set_option maxRecDepth 100000 in
theorem F6.calls (k : Nat) (P0_ : Nat→Prop) (A0 : Option Addr) (c0 : Nat) (l0 : List (S44)) (r : List (S44)) (w : World) (hs0 : Kd.V k44 44 w w.heap.size (fun k_ => P0_ k_) (.slice A0 l0.length c0) l0) (h : F6.f k l0=some r) :
  Calls Tryz.prog 20 #[.slice A0 l0.length c0] w fun e w' => ∃ v0_ : Value,e = .returned (v0_)∧Kd.N k44 44 w' w.heap.size (fun k_ => (P0_ k_∨w.heap.size≤k_)) v0_ r∧Below w.heap.size w w':=by
 have hu91:=Tryz.underlying91;have hu86:=Tryz.underlying86;have hu41:=Tryz.underlying41;have hu44:=Tryz.underlying44;have HO0:=zh (show Kd.V k44 44 w w.heap.size (fun k_ => (P0_ k_∨w.heap.size≤k_)) (.slice A0 l0.length c0) l0 from Kd.V_mono hs0 (fun k_ hk => .inl hk));have HB:=zh (Below.refl w.heap.size w);have H : (F6.l0 k l0 (([] : List (S44))) 0)=some r:=h;clear h;obtain ⟨y248,hy248⟩ : ∃ y_ : List (S44),y_=(([] : List (S44))):=⟨_,rfl⟩;replace H : (F6.l0 k l0 y248 0)=some r:=by first|(rw [hy248];with_reducible exact H)|(have H2_:=(Option.bind_some _ _).symm.trans H;rw [hy248];with_reducible exact H2_)|(have H2_:=(Option.bind_some _ _).symm.trans H;with_reducible exact H2_)|with_reducible exact H|(rw [hy248];exact H)|exact H
 have Ny248:=zh hy248;clear hy248;have H':=zh H;clear H
 go_enter Tryz.func20,Tryz.ntmps20
 go_wp2_with (first|((with_reducible refine zK (N:=8) rfl ?_);refine Kd.N_lit k44 _ 44 ?hg (N':=8) ?hd (xs:=([] : List (S44))) (inner:=[]) (ok:=(fun k_ => (P0_ k_∨w.heap.size≤k_))) (okp:=(fun k_ => (P0_ k_∨w.heap.size≤k_))) ?hr ?hp (fun _ hk => hk) ((show ∀ k_,w.heap.size≤k_→(fun k_ => (P0_ k_∨w.heap.size≤k_)) k_ from fun k_ hk => (.inr (Nat.le_trans (zB (by repeat (with_reducible first|exact HB.out|apply za|apply zb|apply zc))) hk))) _ (ye _)) (Below.refl _ _) (ye _) (by simp) ?_;(case hd|hg => rfl);(case hr => go_simp <;> rfl);(case hp => exact (Reps.none _ _));intro v249 w2 ho3 hb hg_ hnew_;clear hg_ hnew_;(first|rw [← Ny248.out] at ho3|(simp only [Int.reduceToNat] at ho3;rw [← Ny248.out] at ho3));replace HO0:=zh (Kd.V_elder' (by (with_reducible repeat (first|apply Kd.V_alloc|apply Kd.V_drewN|apply Kd.V_drew));exact HO0.out) (Kd.N_base ho3) hb);have HO250:=zh (Kd.N_lower ho3 (zB (by repeat (with_reducible first|exact HB.out|apply za|apply zb|apply zc))));replace HB:=zh (zC (by repeat (with_reducible first|exact HB.out|apply za|apply zb|apply zc)) hb);clear hb ho3))
 go_loopg [3,4] k (fun kq v3 v4 w' => ∃ (x3_1 : List (S44)) (x4_1 : Int),v4 = .int .i64 x4_1∧Aside0 (F6.l0 kq l0 x3_1 x4_1=some r)∧Aside0 (kq≤k)∧Aside0 (Kd.V k44 44 w' w.heap.size (fun k_ => (P0_ k_∨w.heap.size≤k_)∧some k_≠(v3 : Value).ownBlock) (.slice A0 l0.length c0) l0)∧Aside0 (Kd.N k44 44 w' w.heap.size (fun k_ => (P0_ k_∨w.heap.size≤k_)) v3 x3_1)∧Aside0 (Below w.heap.size w w'))
 case atStart => exact ⟨(y248),(0),(by first|rfl|(simp;done)|(simp [*];done)),H',⟨ye _⟩,⟨by (with_reducible repeat (first|apply Kd.V_alloc|apply Kd.V_drewN|apply Kd.V_drew));exact HO0.out⟩,⟨by (with_reducible repeat (first|apply Kd.N_alloc|apply Kd.N_drewN|apply Kd.N_drew));exact HO250.out⟩,⟨by repeat (with_reducible first|exact HB.out|apply za|apply zb|apply zc)⟩⟩
 case round =>
  clear H'
  try clear c2
  try clear p2
  obtain ⟨x3_1,x4_1,rfl,HA,HK1,HO_0,HO_3,HB⟩:=hrel
  cases gk with
  | zero => exact absurd HA.out (by simp [F6.l0])
  | succ k1 =>
   have H:=HA.out;clear HA;simp only [F6.l0] at H
   by_cases c4 : x4_1<(l0.length : Int)
   ·
    rw [if_pos c4] at H
    have c4b0 : decide (x4_1<(l0.length : Int))=true:=decide_eq_true c4;clear c4;obtain ⟨y251,hy251⟩ : ∃ y_ : List (S91),y_=(([] : List (S91))):=⟨_,rfl⟩;replace H : (F6.l1 k1 l0 x3_1 x4_1 y251 0)=some r:=by first|(rw [hy251];with_reducible exact H)|(have H2_:=(Option.bind_some _ _).symm.trans H;rw [hy251];with_reducible exact H2_)|(have H2_:=(Option.bind_some _ _).symm.trans H;with_reducible exact H2_)|with_reducible exact H|(rw [hy251];exact H)|exact H
    have Ny251:=zh hy251;clear hy251;have H':=zh H;clear H
    go_wp2_with (first|((with_reducible refine zK (N:=15) rfl ?_);refine Kd.N_lit k91 _ 91 ?hg (N':=15) ?hd (xs:=([] : List (S91))) (inner:=[]) (ok:=(fun k_ => (P0_ k_∨w.heap.size≤k_)∧some k_≠(u3 : Value).ownBlock)) (okp:=(fun k_ => (P0_ k_∨w.heap.size≤k_)∧some k_≠(u3 : Value).ownBlock)) ?hr ?hp (fun _ hk => hk) ((show ∀ k_,wr.heap.size≤k_→(fun k_ => (P0_ k_∨w.heap.size≤k_)∧some k_≠(u3 : Value).ownBlock) k_ from fun k_ hk => ⟨(.inr (Nat.le_trans (zB (by repeat (with_reducible first|exact HB.out|apply za|apply zb|apply zc))) hk)),Kd.fresh' (Kd.N_lt (by (with_reducible repeat (first|apply Kd.N_alloc|apply Kd.N_drewN|apply Kd.N_drew));exact HO_3.out)) k_ hk⟩) _ (ye _)) (Below.refl _ _) (ye _) (by simp) ?_;(case hd|hg => rfl);(case hr => go_simp <;> rfl);(case hp => exact (Reps.none _ _));intro v252 w5 ho6 hb hg_ hnew_;clear hg_ hnew_;(first|rw [← Ny251.out] at ho6|(simp only [Int.reduceToNat] at ho6;rw [← Ny251.out] at ho6));replace HO_0:=zh (Kd.V_elder' (by (with_reducible repeat (first|apply Kd.V_alloc|apply Kd.V_drewN|apply Kd.V_drew));exact HO_0.out) (Kd.N_base ho6) hb);replace HO_3:=zh (Kd.N_elder' (by (with_reducible repeat (first|apply Kd.N_alloc|apply Kd.N_drewN|apply Kd.N_drew));exact HO_3.out) (Kd.N_base ho6) hb);have HO253:=zh (Kd.N_lower ho6 (zB (by repeat (with_reducible first|exact HB.out|apply za|apply zb|apply zc))));replace HB:=zh (zC (by repeat (with_reducible first|exact HB.out|apply za|apply zb|apply zc)) hb);clear hb ho6))
    go_loopg [5,6] k1 (fun kq v5 v6 w' => ∃ (x5_2 : List (S91)) (x6_2 : Int),v6 = .int .i64 x6_2∧Aside0 (F6.l1 kq l0 x3_1 x4_1 x5_2 x6_2=some r)∧Aside0 (kq≤k1)∧Aside0 (Kd.V k44 44 w' w.heap.size (fun k_ => (P0_ k_∨w.heap.size≤k_)∧some k_≠(u3 : Value).ownBlock∧some k_≠(v5 : Value).ownBlock) (.slice A0 l0.length c0) l0)∧Aside0 (Kd.N k44 44 w' w.heap.size (fun k_ => (P0_ k_∨w.heap.size≤k_)∧some k_≠(v5 : Value).ownBlock) u3 x3_1)∧Aside0 (Kd.N k91 91 w' w.heap.size (fun k_ => (P0_ k_∨w.heap.size≤k_)∧some k_≠(u3 : Value).ownBlock) v5 x5_2)∧Aside0 (Below w.heap.size w w'))
    case atStart => exact ⟨(y251),(0),(by first|rfl|(simp;done)|(simp [*];done)),H',⟨ye _⟩,⟨by (with_reducible repeat (first|apply Kd.V_alloc|apply Kd.V_drewN|apply Kd.V_drew));exact Kd.V_mono HO_0.out (fun _ hk => ⟨hk.1.1,⟨hk.1.2,hk.2⟩⟩)⟩,⟨by (with_reducible repeat (first|apply Kd.N_alloc|apply Kd.N_drewN|apply Kd.N_drew));exact HO_3.out⟩,⟨by (with_reducible repeat (first|apply Kd.N_alloc|apply Kd.N_drewN|apply Kd.N_drew));exact HO253.out⟩,⟨by repeat (with_reducible first|exact HB.out|apply za|apply zb|apply zc)⟩⟩
    case round =>
     clear H'
     try clear c2
     try clear p2
     try clear c4 c4b0
     try clear p2
     obtain ⟨x5_2,x6_2,rfl,HA,HK2,HO_0,HO_3,HO_5,HB⟩:=hrel
     cases gk with
     | zero => exact absurd HA.out (by simp [F6.l1])
     | succ k2 =>
      have H:=HA.out;clear HA;simp only [F6.l1] at H
      by_cases c7 : 0≤x4_1
      ·
       rw [if_pos c7] at H
       have c7b0 : decide (0≤x4_1)=true:=decide_eq_true c7;clear c7
       by_cases c8 : x4_1<(l0.length : Int)
       ·
        rw [if_pos c8] at H
        have c8b0 : decide (x4_1<(l0.length : Int))=true:=decide_eq_true c8;clear c8
        by_cases c9 : x6_2<(((rd_T44 l0 x4_1).f1).length : Int)
        ·
         rw [if_pos c9] at H
         have c9b0 : decide (x6_2<(((rd_T44 l0 x4_1).f1).length : Int))=true:=decide_eq_true c9;clear c9
         by_cases c10 : 0≤x6_2
         ·
          rw [if_pos c10] at H
          have c10b0 : decide (0≤x6_2)=true:=decide_eq_true c10;clear c10;replace H:=zT.mp H;obtain ⟨⟨t258,t259,t260,t261,t262,t263,t264,t267,t270,t271,t272,t275,t276,t279,t280⟩,A110,H⟩:=H;exact absurd A110 (by simp [F07.f])
         rw [if_neg c10] at H;exact absurd H (by simp)
        rw [if_neg c9] at H;have c9b0 : decide (x6_2<(((rd_T44 l0 x4_1).f1).length : Int))=false:=decide_eq_false c9;clear c9;obtain ⟨y293,hy293⟩ : ∃ y_ : List (S41),y_=(([(⟨(rd_T44 l0 x4_1).f0.f0,(rd_T44 l0 x4_1).f0.f1,(rd_T44 l0 x4_1).f0.f2,(rd_T44 l0 x4_1).f0.f3,(rd_T44 l0 x4_1).f0.f4,(rd_T44 l0 x4_1).f0.f5⟩ : S41)] : List (S41))):=⟨_,rfl⟩;replace H : ((Fc.f k2 y293).bind fun t296 => (if 0<(t296.length : Int) then (if x3_1.length<1466015503701 then (F6.l0 k2 l0 (x3_1 ++ [(⟨(⟨(rd_T41 t296 0).f0,(rd_T41 t296 0).f1,(rd_T41 t296 0).f2,(rd_T41 t296 0).f3,(rd_T41 t296 0).f4,(rd_T41 t296 0).f5⟩ : S41),x5_2⟩ : S44)]) (wrap64 (x4_1 + 1))) else (none)) else (none)))=some r:=by first|(rw [hy293];with_reducible exact H)|(have H2_:=(Option.bind_some _ _).symm.trans H;rw [hy293];with_reducible exact H2_)|(have H2_:=(Option.bind_some _ _).symm.trans H;with_reducible exact H2_)|with_reducible exact H|(rw [hy293];exact H)|exact H
        have Ny293:=zh hy293;clear hy293;replace H:=zT.mp H;obtain ⟨t296,A340,H⟩:=H;replace H : (if 0<(t296.length : Int) then (if x3_1.length<1466015503701 then (F6.l0 k2 l0 (x3_1 ++ [(⟨(⟨(rd_T41 t296 0).f0,(rd_T41 t296 0).f1,(rd_T41 t296 0).f2,(rd_T41 t296 0).f3,(rd_T41 t296 0).f4,(rd_T41 t296 0).f5⟩ : S41),x5_2⟩ : S44)]) (wrap64 (x4_1 + 1))) else (none)) else (none))=some r:=H;have A34:=zh A340;clear A340
        by_cases c35 : 0<(t296.length : Int)
        ·
         rw [if_pos c35] at H
         have c35b0 : decide (0<(t296.length : Int))=true:=decide_eq_true c35;have c35b1 : decide (0<t296.length)=true:=decide_eq_true (by omega);clear c35
         by_cases c36 : x3_1.length<1466015503701
         ·
          rw [if_pos c36] at H
          have LMc36:=zh c36;clear c36;obtain ⟨y300,hy300⟩ : ∃ y_ : List (S44),y_=(x3_1 ++ [(⟨(⟨(rd_T41 t296 0).f0,(rd_T41 t296 0).f1,(rd_T41 t296 0).f2,(rd_T41 t296 0).f3,(rd_T41 t296 0).f4,(rd_T41 t296 0).f5⟩ : S41),x5_2⟩ : S44)]):=⟨_,rfl⟩;replace H : (F6.l0 k2 l0 y300 (wrap64 (x4_1 + 1)))=some r:=by first|(rw [hy300];with_reducible exact H)|(have H2_:=(Option.bind_some _ _).symm.trans H;rw [hy300];with_reducible exact H2_)|(have H2_:=(Option.bind_some _ _).symm.trans H;with_reducible exact H2_)|with_reducible exact H|(rw [hy300];exact H)|exact H
          have Ny300:=zh hy300;clear hy300;have H':=zh H;clear H;have p254 : 0≤(x4_1 : Int):=zy (by first|(with_reducible assumption)|assumption);have q254 : x4_1<(l0.length : Int):=zy (by first|(with_reducible assumption)|assumption);obtain ⟨ad254,A254_2,c254_2,A254_3,c254_3,A254_6,c254_6,e254,hx254_0,hx254_1,hx254_2,hx254_3,hx254_4,hx254_5,hx254_6,hl254_2,hi254_2,hl254_3,hi254_3,hl254_6,hi254_6⟩:=at_T44 (Kd.V_reads' HO_0.out).2.2 x4_1 p254 q254
          cases e254
          obtain ⟨ce254,hce254,hMe254,hcc254⟩:=Kd.V_get HO_0.out z44 x4_1 p254 (by first|exact q254|exact zy (by first|(with_reducible assumption)|assumption)|(have e_:=(Kd.V_reads' HO_0.out).1;omega));obtain ⟨ua254_2,uc254_2,ua254_3,uc254_3,ua254_6,uc254_6,rfl,ul254_2,ge254_2,ul254_3,ge254_3,ul254_6,ge254_6⟩:=k44_openF hMe254;have hv254_2:=hcc254 2 _ rfl;rw [add_field _ _ 2 (by omega)] at hv254_2;replace hv254_2:=zU (hv254_2.symm.trans hx254_2);injection hv254_2 with hva_ hvn_ hvc_;rw [hva_] at ge254_2;rw [hvc_] at ul254_2;have HL254_2:=zh (show Kd.V k104 104 _ w.heap.size _ _ ((rd_T44 l0 x4_1).f0.f2) from Kd.V_mk ul254_2 ge254_2);clear hva_ hvn_ hvc_ ge254_2 ul254_2;have hv254_3:=hcc254 3 _ rfl;rw [add_field _ _ 3 (by omega)] at hv254_3;replace hv254_3:=zU (hv254_3.symm.trans hx254_3);injection hv254_3 with hva_ hvn_ hvc_;rw [hva_] at ge254_3;rw [hvc_] at ul254_3;have HL254_3:=zh (show Kd.V k109 109 _ w.heap.size _ _ ((rd_T44 l0 x4_1).f0.f3) from Kd.V_mk ul254_3 ge254_3);clear hva_ hvn_ hvc_ ge254_3 ul254_3;have hv254_6:=hcc254 6 _ rfl;rw [add_field _ _ 6 (by omega)] at hv254_6;replace hv254_6:=zU (hv254_6.symm.trans hx254_6);injection hv254_6 with hva_ hvn_ hvc_;rw [hva_] at ge254_6;rw [hvc_] at ul254_6;have HL254_6:=zh (show Kd.V k91 91 _ w.heap.size _ _ ((rd_T44 l0 x4_1).f1) from Kd.V_mk ul254_6 ge254_6);clear hva_ hvn_ hvc_ ge254_6 ul254_6 hcc254 hce254;have HR254_2:=zh hi254_2;have HC254_2:=zh hl254_2;clear hi254_2 hl254_2;have HR254_3:=zh hi254_3;have HC254_3:=zh hl254_3;clear hi254_3 hl254_3;have HR254_6:=zh hi254_6;have HC254_6:=zh hl254_6;clear hi254_6 hl254_6;replace p254:=eq_true p254;replace q254:=eq_true q254;have p292 : 0≤(x4_1 : Int):=zy (by first|(with_reducible assumption)|assumption);have q292 : x4_1<(l0.length : Int):=zy (by first|(with_reducible assumption)|assumption);obtain ⟨ad292,A292_2,c292_2,A292_3,c292_3,A292_6,c292_6,e292,hx292_0,hx292_1,hx292_2,hx292_3,hx292_4,hx292_5,hx292_6,hl292_2,hi292_2,hl292_3,hi292_3,hl292_6,hi292_6⟩:=at_T44 (Kd.V_reads' HO_0.out).2.2 x4_1 p292 q292;obtain rfl : ad254=ad292:=(by injection e292);obtain ⟨ce292,hce292,hMe292,hcc292⟩:=Kd.V_get HO_0.out z44 x4_1 p292 (by first|exact q292|exact zy (by first|(with_reducible assumption)|assumption)|(have e_:=(Kd.V_reads' HO_0.out).1;omega));obtain ⟨ua292_2,uc292_2,ua292_3,uc292_3,ua292_6,uc292_6,rfl,ul292_2,ge292_2,ul292_3,ge292_3,ul292_6,ge292_6⟩:=k44_openF hMe292;have hv292_2:=hcc292 2 _ rfl;rw [add_field _ _ 2 (by omega)] at hv292_2;replace hv292_2:=zU (hv292_2.symm.trans hx292_2);injection hv292_2 with hva_ hvn_ hvc_;rw [hva_] at ge292_2;rw [hvc_] at ul292_2;have HL292_2:=zh (show Kd.V k104 104 _ w.heap.size _ _ ((rd_T44 l0 x4_1).f0.f2) from Kd.V_mk ul292_2 ge292_2);clear hva_ hvn_ hvc_ ge292_2 ul292_2;have hv292_3:=hcc292 3 _ rfl;rw [add_field _ _ 3 (by omega)] at hv292_3;replace hv292_3:=zU (hv292_3.symm.trans hx292_3);injection hv292_3 with hva_ hvn_ hvc_;rw [hva_] at ge292_3;rw [hvc_] at ul292_3;have HL292_3:=zh (show Kd.V k109 109 _ w.heap.size _ _ ((rd_T44 l0 x4_1).f0.f3) from Kd.V_mk ul292_3 ge292_3);clear hva_ hvn_ hvc_ ge292_3 ul292_3;have hv292_6:=hcc292 6 _ rfl;rw [add_field _ _ 6 (by omega)] at hv292_6;replace hv292_6:=zU (hv292_6.symm.trans hx292_6);injection hv292_6 with hva_ hvn_ hvc_;rw [hva_] at ge292_6;rw [hvc_] at ul292_6;have HL292_6:=zh (show Kd.V k91 91 _ w.heap.size _ _ ((rd_T44 l0 x4_1).f1) from Kd.V_mk ul292_6 ge292_6);clear hva_ hvn_ hvc_ ge292_6 ul292_6 hcc292 hce292;have HR292_2:=zh hi292_2;have HC292_2:=zh hl292_2;clear hi292_2 hl292_2;have HR292_3:=zh hi292_3;have HC292_3:=zh hl292_3;clear hi292_3 hl292_3;have HR292_6:=zh hi292_6;have HC292_6:=zh hl292_6;clear hi292_6 hl292_6;replace p292:=eq_true p292;replace q292:=eq_true q292;have ea_:=zU (hx254_2.symm.trans hx292_2);injection ea_ with ea_ en_ ec_;subst ea_;subst ec_;clear en_;have ea_:=zU (hx254_3.symm.trans hx292_3);injection ea_ with ea_ en_ ec_;subst ea_;subst ec_;clear en_;have ea_:=zU (hx254_6.symm.trans hx292_6);injection ea_ with ea_ en_ ec_;subst ea_;subst ec_;clear en_
          go_wp2_with (first|((with_reducible refine zK (N:=55) rfl ?_);refine Kd.N_lit k41 _ 41 ?hg (N':=55) ?hd (xs:=([(⟨(rd_T44 l0 x4_1).f0.f0,(rd_T44 l0 x4_1).f0.f1,(rd_T44 l0 x4_1).f0.f2,(rd_T44 l0 x4_1).f0.f3,(rd_T44 l0 x4_1).f0.f4,(rd_T44 l0 x4_1).f0.f5⟩ : S41)] : List (S41))) (inner:=[.int .i64 ((rd_T44 l0 x4_1).f0.f0),.int .i64 ((rd_T44 l0 x4_1).f0.f1),.slice A254_2 ((rd_T44 l0 x4_1).f0.f2).length c254_2,.slice A254_3 ((rd_T44 l0 x4_1).f0.f3).length c254_3,.bool ((rd_T44 l0 x4_1).f0.f4),.bool ((rd_T44 l0 x4_1).f0.f5)]) (ok:=(fun k_ => (P0_ k_∨w.heap.size≤k_)∧some k_≠(u3 : Value).ownBlock∧some k_≠(u5 : Value).ownBlock)) (okp:=(fun k_ => (P0_ k_∨w.heap.size≤k_)∧some k_≠(u3 : Value).ownBlock∧some k_≠(u5 : Value).ownBlock)) ?hr ?hp (fun _ hk => hk) ((show ∀ k_,wr.heap.size≤k_→(fun k_ => (P0_ k_∨w.heap.size≤k_)∧some k_≠(u3 : Value).ownBlock∧some k_≠(u5 : Value).ownBlock) k_ from fun k_ hk => ⟨(.inr (Nat.le_trans (zB (by repeat (with_reducible first|exact HB.out|apply za|apply zb|apply zc))) hk)),Kd.fresh' (Kd.N_lt (by (with_reducible repeat (first|apply Kd.N_alloc|apply Kd.N_drewN|apply Kd.N_drew));exact HO_3.out)) k_ hk,Kd.fresh' (Kd.N_lt (by (with_reducible repeat (first|apply Kd.N_alloc|apply Kd.N_drewN|apply Kd.N_drew));exact HO_5.out)) k_ hk⟩) _ (ye _)) (Below.refl _ _) (ye _) (by simp) ?_;(case hd|hg => rfl);(case hr => go_simp <;> rfl);(case hp => exact (Reps.c6 (show Kd.FK k41 _ _ (⟨(rd_T44 l0 x4_1).f0.f0,(rd_T44 l0 x4_1).f0.f1,(rd_T44 l0 x4_1).f0.f2,(rd_T44 l0 x4_1).f0.f3,(rd_T44 l0 x4_1).f0.f4,(rd_T44 l0 x4_1).f0.f5⟩ : S41) [.int .i64 ((rd_T44 l0 x4_1).f0.f0),.int .i64 ((rd_T44 l0 x4_1).f0.f1),.slice A254_2 ((rd_T44 l0 x4_1).f0.f2).length c254_2,.slice A254_3 ((rd_T44 l0 x4_1).f0.f3).length c254_3,.bool ((rd_T44 l0 x4_1).f0.f4),.bool ((rd_T44 l0 x4_1).f0.f5)] from (k41_mkF _ _ (⟨(rd_T44 l0 x4_1).f0.f0,(rd_T44 l0 x4_1).f0.f1,(rd_T44 l0 x4_1).f0.f2,(rd_T44 l0 x4_1).f0.f3,(rd_T44 l0 x4_1).f0.f4,(rd_T44 l0 x4_1).f0.f5⟩ : S41) (Kd.V_reads' (Kd.V_mono (ok':=(fun k_ => (P0_ k_∨w.heap.size≤k_)∧some k_≠(u3 : Value).ownBlock∧some k_≠(u5 : Value).ownBlock)) (HL292_2.out) (fun k_ hk => ⟨hk.1,⟨hk.2.1,hk.2.2⟩⟩))).2.1 (Kd.V_F (Kd.V_mono (ok':=(fun k_ => (P0_ k_∨w.heap.size≤k_)∧some k_≠(u3 : Value).ownBlock∧some k_≠(u5 : Value).ownBlock)) (HL292_2.out) (fun k_ hk => ⟨hk.1,⟨hk.2.1,hk.2.2⟩⟩))) (Kd.V_reads' (Kd.V_mono (ok':=(fun k_ => (P0_ k_∨w.heap.size≤k_)∧some k_≠(u3 : Value).ownBlock∧some k_≠(u5 : Value).ownBlock)) (HL292_3.out) (fun k_ hk => ⟨hk.1,⟨hk.2.1,hk.2.2⟩⟩))).2.1 (Kd.V_F (Kd.V_mono (ok':=(fun k_ => (P0_ k_∨w.heap.size≤k_)∧some k_≠(u3 : Value).ownBlock∧some k_≠(u5 : Value).ownBlock)) (HL292_3.out) (fun k_ hk => ⟨hk.1,⟨hk.2.1,hk.2.2⟩⟩))))) (Reps.none _ _)));intro v294 w37 ho38 hb hg_ hnew_;clear hg_ hnew_;(first|rw [← Ny293.out] at ho38|(simp only [Int.reduceToNat] at ho38;rw [← Ny293.out] at ho38));replace HO_0:=zh (Kd.V_elder' (by (with_reducible repeat (first|apply Kd.V_alloc|apply Kd.V_drewN|apply Kd.V_drew));exact HO_0.out) (Kd.N_base ho38) hb);replace HO_3:=zh (Kd.N_elder' (by (with_reducible repeat (first|apply Kd.N_alloc|apply Kd.N_drewN|apply Kd.N_drew));exact HO_3.out) (Kd.N_base ho38) hb);replace HO_5:=zh (Kd.N_elder' (by (with_reducible repeat (first|apply Kd.N_alloc|apply Kd.N_drewN|apply Kd.N_drew));exact HO_5.out) (Kd.N_base ho38) hb);replace HL254_2:=zh (Kd.V_elder' (by (with_reducible repeat (first|apply Kd.V_alloc|apply Kd.V_drewN|apply Kd.V_drew));exact HL254_2.out) (Kd.N_base ho38) hb);replace HL254_3:=zh (Kd.V_elder' (by (with_reducible repeat (first|apply Kd.V_alloc|apply Kd.V_drewN|apply Kd.V_drew));exact HL254_3.out) (Kd.N_base ho38) hb);replace HL254_6:=zh (Kd.V_elder' (by (with_reducible repeat (first|apply Kd.V_alloc|apply Kd.V_drewN|apply Kd.V_drew));exact HL254_6.out) (Kd.N_base ho38) hb);replace HL292_2:=zh (Kd.V_elder' (by (with_reducible repeat (first|apply Kd.V_alloc|apply Kd.V_drewN|apply Kd.V_drew));exact HL292_2.out) (Kd.N_base ho38) hb);replace HL292_3:=zh (Kd.V_elder' (by (with_reducible repeat (first|apply Kd.V_alloc|apply Kd.V_drewN|apply Kd.V_drew));exact HL292_3.out) (Kd.N_base ho38) hb);replace HL292_6:=zh (Kd.V_elder' (by (with_reducible repeat (first|apply Kd.V_alloc|apply Kd.V_drewN|apply Kd.V_drew));exact HL292_6.out) (Kd.N_base ho38) hb);have HO295:=zh (Kd.N_lower ho38 (zB (by repeat (with_reducible first|exact HB.out|apply za|apply zb|apply zc))));replace HR254_2:=zh (Kd.C_below (by repeat (first|(with_reducible exact HR254_2.out)|(with_reducible refine Kd.C_alloc ?_ _)|(with_reducible refine Kd.C_drewN ?_ _)|(with_reducible refine Kd.C_drew ?_)|exact HR254_2.out)) hb);replace HR254_3:=zh (Kd.C_below (by repeat (first|(with_reducible exact HR254_3.out)|(with_reducible refine Kd.C_alloc ?_ _)|(with_reducible refine Kd.C_drewN ?_ _)|(with_reducible refine Kd.C_drew ?_)|exact HR254_3.out)) hb);replace HR254_6:=zh (Kd.C_below (by repeat (first|(with_reducible exact HR254_6.out)|(with_reducible refine Kd.C_alloc ?_ _)|(with_reducible refine Kd.C_drewN ?_ _)|(with_reducible refine Kd.C_drew ?_)|exact HR254_6.out)) hb);replace HR292_2:=zh (Kd.C_below (by repeat (first|(with_reducible exact HR292_2.out)|(with_reducible refine Kd.C_alloc ?_ _)|(with_reducible refine Kd.C_drewN ?_ _)|(with_reducible refine Kd.C_drew ?_)|exact HR292_2.out)) hb);replace HR292_3:=zh (Kd.C_below (by repeat (first|(with_reducible exact HR292_3.out)|(with_reducible refine Kd.C_alloc ?_ _)|(with_reducible refine Kd.C_drewN ?_ _)|(with_reducible refine Kd.C_drew ?_)|exact HR292_3.out)) hb);replace HR292_6:=zh (Kd.C_below (by repeat (first|(with_reducible exact HR292_6.out)|(with_reducible refine Kd.C_alloc ?_ _)|(with_reducible refine Kd.C_drewN ?_ _)|(with_reducible refine Kd.C_drew ?_)|exact HR292_6.out)) hb);replace HB:=zh (zC (by repeat (with_reducible first|exact HB.out|apply za|apply zb|apply zc)) hb);clear hb ho38;obtain ⟨Ao39,co39,eo39⟩:=Kd.N_slice HO295.out;subst eo39)|((with_reducible refine zJ (f:=42) rfl ?_);refine yj (some 56) rfl rfl Tryz.func42 (by kernel_rfl) rfl #[.slice Ao39 y293.length co39] rfl (by (try simp only [zt,zu,zv]);first|done|rfl|(simp only [zw,zx];rfl)|(simp only [yr,ys,zV,zW];rfl)) ?_;(with_reducible refine (Fc.calls k2  _ _ y293 t296 _ ?side1 ?side2 A34.out).mono ?_);(case side1 => repeat (first|exact (Kd.N_reads' HO295.out).2.2|(with_reducible refine Kd.C_alloc ?_ _)|(with_reducible refine Kd.C_drewN ?_ _)|(with_reducible refine Kd.C_drew ?_)));(case side2 => exact (Kd.N_reads' HO295.out).2.1);rintro e w40 ⟨v297,rfl,ho0,hb⟩;refine ⟨_,rfl,?_⟩;replace HO_0:=zh (Kd.V_elder' (by (with_reducible repeat (first|apply Kd.V_alloc|apply Kd.V_drewN|apply Kd.V_drew));exact HO_0.out) (Kd.N_base (Kd.R_N ho0)) hb);replace HL254_2:=zh (Kd.V_elder' (by (with_reducible repeat (first|apply Kd.V_alloc|apply Kd.V_drewN|apply Kd.V_drew));exact HL254_2.out) (Kd.N_base (Kd.R_N ho0)) hb);replace HL254_3:=zh (Kd.V_elder' (by (with_reducible repeat (first|apply Kd.V_alloc|apply Kd.V_drewN|apply Kd.V_drew));exact HL254_3.out) (Kd.N_base (Kd.R_N ho0)) hb);replace HL254_6:=zh (Kd.V_elder' (by (with_reducible repeat (first|apply Kd.V_alloc|apply Kd.V_drewN|apply Kd.V_drew));exact HL254_6.out) (Kd.N_base (Kd.R_N ho0)) hb);replace HL292_2:=zh (Kd.V_elder' (by (with_reducible repeat (first|apply Kd.V_alloc|apply Kd.V_drewN|apply Kd.V_drew));exact HL292_2.out) (Kd.N_base (Kd.R_N ho0)) hb);replace HL292_3:=zh (Kd.V_elder' (by (with_reducible repeat (first|apply Kd.V_alloc|apply Kd.V_drewN|apply Kd.V_drew));exact HL292_3.out) (Kd.N_base (Kd.R_N ho0)) hb);replace HL292_6:=zh (Kd.V_elder' (by (with_reducible repeat (first|apply Kd.V_alloc|apply Kd.V_drewN|apply Kd.V_drew));exact HL292_6.out) (Kd.N_base (Kd.R_N ho0)) hb);have HO298:=zh (Kd.N_lower (Kd.N_mono (ok':=fun k_ => (P0_ k_∨w.heap.size≤k_)∧some k_≠(u3 : Value).ownBlock∧some k_≠(u5 : Value).ownBlock∧some k_≠(.slice Ao39 y293.length co39 : Value).ownBlock) (Kd.R_N (Kd.R_bound ho0)) (fun k_ hk_ => ⟨(.inr (Nat.le_trans (zB (by repeat (with_reducible first|exact HB.out|apply za|apply zb|apply zc))) hk_.2.1)),(Kd.fresh' (Kd.N_lt (by (with_reducible repeat (first|apply Kd.N_alloc|apply Kd.N_drewN|apply Kd.N_drew));exact HO_3.out)) k_ hk_.2.1),(Kd.fresh' (Kd.N_lt (by (with_reducible repeat (first|apply Kd.N_alloc|apply Kd.N_drewN|apply Kd.N_drew));exact HO_5.out)) k_ hk_.2.1),(Kd.fresh' (Kd.N_lt (by (with_reducible repeat (first|apply Kd.N_alloc|apply Kd.N_drewN|apply Kd.N_drew));exact HO295.out)) k_ hk_.2.1)⟩)) (zB (by repeat (with_reducible first|exact HB.out|apply za|apply zb|apply zc))));replace HO_3:=zh (Kd.N_elder' (by (with_reducible repeat (first|apply Kd.N_alloc|apply Kd.N_drewN|apply Kd.N_drew));exact HO_3.out) (Kd.N_base (Kd.R_N ho0)) hb);replace HO_5:=zh (Kd.N_elder' (by (with_reducible repeat (first|apply Kd.N_alloc|apply Kd.N_drewN|apply Kd.N_drew));exact HO_5.out) (Kd.N_base (Kd.R_N ho0)) hb);replace HO295:=zh (Kd.N_elder' (by (with_reducible repeat (first|apply Kd.N_alloc|apply Kd.N_drewN|apply Kd.N_drew));exact HO295.out) (Kd.N_base (Kd.R_N ho0)) hb);replace HR254_2:=zh (Kd.C_below (by repeat (first|(with_reducible exact HR254_2.out)|(with_reducible refine Kd.C_alloc ?_ _)|(with_reducible refine Kd.C_drewN ?_ _)|(with_reducible refine Kd.C_drew ?_)|exact HR254_2.out)) hb);replace HR254_3:=zh (Kd.C_below (by repeat (first|(with_reducible exact HR254_3.out)|(with_reducible refine Kd.C_alloc ?_ _)|(with_reducible refine Kd.C_drewN ?_ _)|(with_reducible refine Kd.C_drew ?_)|exact HR254_3.out)) hb);replace HR254_6:=zh (Kd.C_below (by repeat (first|(with_reducible exact HR254_6.out)|(with_reducible refine Kd.C_alloc ?_ _)|(with_reducible refine Kd.C_drewN ?_ _)|(with_reducible refine Kd.C_drew ?_)|exact HR254_6.out)) hb);replace HR292_2:=zh (Kd.C_below (by repeat (first|(with_reducible exact HR292_2.out)|(with_reducible refine Kd.C_alloc ?_ _)|(with_reducible refine Kd.C_drewN ?_ _)|(with_reducible refine Kd.C_drew ?_)|exact HR292_2.out)) hb);replace HR292_3:=zh (Kd.C_below (by repeat (first|(with_reducible exact HR292_3.out)|(with_reducible refine Kd.C_alloc ?_ _)|(with_reducible refine Kd.C_drewN ?_ _)|(with_reducible refine Kd.C_drew ?_)|exact HR292_3.out)) hb);replace HR292_6:=zh (Kd.C_below (by repeat (first|(with_reducible exact HR292_6.out)|(with_reducible refine Kd.C_alloc ?_ _)|(with_reducible refine Kd.C_drewN ?_ _)|(with_reducible refine Kd.C_drew ?_)|exact HR292_6.out)) hb);replace HB:=zh (zC (by repeat (with_reducible first|exact HB.out|apply za|apply zb|apply zc)) hb);(try clear hb);(try clear hb2);(try clear hk);(try clear hi);(try clear ho0);obtain ⟨Ao41,co41,eo41⟩:=Kd.N_slice HO298.out;subst eo41;have p299 : 0≤(0 : Int):=(by omega);have q299 : 0<(t296.length : Int):=zy (by first|(with_reducible assumption)|assumption);obtain ⟨ad299,A299_2,c299_2,A299_3,c299_3,e299,hx299_0,hx299_1,hx299_2,hx299_3,hx299_4,hx299_5,hl299_2,hi299_2,hl299_3,hi299_3⟩:=at_T41 (Kd.N_reads' HO298.out).2.2 0 p299 q299;cases e299;obtain ⟨ce299,hce299,hMe299,hcc299⟩:=Kd.N_get HO298.out z41 0 p299 (by first|exact q299|exact zy (by first|(with_reducible assumption)|assumption)|(have e_:=(Kd.N_reads' HO298.out).1;omega));obtain ⟨ua299_2,uc299_2,ua299_3,uc299_3,rfl,ul299_2,ge299_2,ul299_3,ge299_3⟩:=k41_openF hMe299;have hv299_2:=hcc299 2 _ rfl;rw [add_field _ _ 2 (by omega)] at hv299_2;replace hv299_2:=zU (hv299_2.symm.trans hx299_2);injection hv299_2 with hva_ hvn_ hvc_;rw [hva_] at ge299_2;rw [hvc_] at ul299_2;have HL299_2:=zh (show Kd.V k104 104 _ w.heap.size _ _ ((rd_T41 t296 0).f2) from Kd.V_mk ul299_2 ge299_2);clear hva_ hvn_ hvc_ ge299_2 ul299_2;have hv299_3:=hcc299 3 _ rfl;rw [add_field _ _ 3 (by omega)] at hv299_3;replace hv299_3:=zU (hv299_3.symm.trans hx299_3);injection hv299_3 with hva_ hvn_ hvc_;rw [hva_] at ge299_3;rw [hvc_] at ul299_3;have HL299_3:=zh (show Kd.V k109 109 _ w.heap.size _ _ ((rd_T41 t296 0).f3) from Kd.V_mk ul299_3 ge299_3);clear hva_ hvn_ hvc_ ge299_3 ul299_3 hcc299 hce299;have qi299 : (0<t296.length)=True:=eq_true (by omega);(try rw [show ((0 : Int)).toNat=0 from rfl] at hx299_0);(try rw [show 0 * 6=0 from rfl] at hx299_0);(try rw [Addr.add_zero'] at hx299_0);(try rw [show ((0 : Int)).toNat=0 from rfl] at hx299_1);(try rw [show 0 * 6=0 from rfl] at hx299_1);(try rw [Addr.add_zero'] at hx299_1);(try rw [show ((0 : Int)).toNat=0 from rfl] at hx299_2);(try rw [show 0 * 6=0 from rfl] at hx299_2);(try rw [Addr.add_zero'] at hx299_2);(try rw [show ((0 : Int)).toNat=0 from rfl] at hx299_3);(try rw [show 0 * 6=0 from rfl] at hx299_3);(try rw [Addr.add_zero'] at hx299_3);(try rw [show ((0 : Int)).toNat=0 from rfl] at hx299_4);(try rw [show 0 * 6=0 from rfl] at hx299_4);(try rw [Addr.add_zero'] at hx299_4);(try rw [show ((0 : Int)).toNat=0 from rfl] at hx299_5);(try rw [show 0 * 6=0 from rfl] at hx299_5);(try rw [Addr.add_zero'] at hx299_5);have HR299_2:=zh hi299_2;have HC299_2:=zh hl299_2;clear hi299_2 hl299_2;have HR299_3:=zh hi299_3;have HC299_3:=zh hl299_3;clear hi299_3 hl299_3;replace p299:=eq_true p299;replace q299:=eq_true q299;obtain ⟨Ao42,co42,eo42⟩:=Kd.N_slice HO_5.out;subst eo42)|((with_reducible refine yB (b:=.append) (xs:=#[.tmp 49,.tmp 61]) rfl ?_);at_builtin;refine Kd.N_append k44 (w0:=w) w.heap.size rfl (.tmp 49) (.tmp 61) 27 44 (.agg #[(.int .i64 0),(.int .i64 0),(.slice none 0 0),(.slice none 0 0),(.bool false),(.bool false),(.slice none 0 0)]) 96 rfl Tryz.underlying27 info44 rfl (by decide) (by omega) u3 x3_1 (⟨(⟨(rd_T41 t296 0).f0,(rd_T41 t296 0).f1,(rd_T41 t296 0).f2,(rd_T41 t296 0).f3,(rd_T41 t296 0).f4,(rd_T41 t296 0).f5⟩ : S41),x5_2⟩ : S44) [.int .i64 ((rd_T41 t296 0).f0),.int .i64 ((rd_T41 t296 0).f1),.slice A299_2 ((rd_T41 t296 0).f2).length c299_2,.slice A299_3 ((rd_T41 t296 0).f3).length c299_3,.bool ((rd_T41 t296 0).f4),.bool ((rd_T41 t296 0).f5),.slice Ao42 x5_2.length co42] (fun k_ => (P0_ k_∨w.heap.size≤k_)∧some k_≠(.slice Ao39 y293.length co39 : Value).ownBlock∧some k_≠(.slice (some ad299) t296.length co41 : Value).ownBlock) (fun k_ => ((fun k_ => (P0_ k_∨w.heap.size≤k_)∧some k_≠(.slice Ao39 y293.length co39 : Value).ownBlock∧some k_≠(.slice (some ad299) t296.length co41 : Value).ownBlock)) k_∧some k_≠(u3 : Value).ownBlock) rfl rfl ?aP (fun _ hk => hk) ?aF ?aO ?aB ?aS ?aL ?_;(case aP => exact (k44_mkF _ _ (⟨(⟨(rd_T41 t296 0).f0,(rd_T41 t296 0).f1,(rd_T41 t296 0).f2,(rd_T41 t296 0).f3,(rd_T41 t296 0).f4,(rd_T41 t296 0).f5⟩ : S41),x5_2⟩ : S44) (Kd.V_reads' (Kd.V_mono (ok':=(fun k_ => ((fun k_ => (P0_ k_∨w.heap.size≤k_)∧some k_≠(.slice Ao39 y293.length co39 : Value).ownBlock∧some k_≠(.slice (some ad299) t296.length co41 : Value).ownBlock)) k_∧some k_≠(u3 : Value).ownBlock)) (HL299_2.out) (fun k_ hk => ⟨⟨hk.1.1,⟨hk.1.2.2.2,hk.2⟩⟩,hk.1.2.1⟩))).2.1 (Kd.V_F (Kd.V_mono (ok':=(fun k_ => ((fun k_ => (P0_ k_∨w.heap.size≤k_)∧some k_≠(.slice Ao39 y293.length co39 : Value).ownBlock∧some k_≠(.slice (some ad299) t296.length co41 : Value).ownBlock)) k_∧some k_≠(u3 : Value).ownBlock)) (HL299_2.out) (fun k_ hk => ⟨⟨hk.1.1,⟨hk.1.2.2.2,hk.2⟩⟩,hk.1.2.1⟩))) (Kd.V_reads' (Kd.V_mono (ok':=(fun k_ => ((fun k_ => (P0_ k_∨w.heap.size≤k_)∧some k_≠(.slice Ao39 y293.length co39 : Value).ownBlock∧some k_≠(.slice (some ad299) t296.length co41 : Value).ownBlock)) k_∧some k_≠(u3 : Value).ownBlock)) (HL299_3.out) (fun k_ hk => ⟨⟨hk.1.1,⟨hk.1.2.2.2,hk.2⟩⟩,hk.1.2.1⟩))).2.1 (Kd.V_F (Kd.V_mono (ok':=(fun k_ => ((fun k_ => (P0_ k_∨w.heap.size≤k_)∧some k_≠(.slice Ao39 y293.length co39 : Value).ownBlock∧some k_≠(.slice (some ad299) t296.length co41 : Value).ownBlock)) k_∧some k_≠(u3 : Value).ownBlock)) (HL299_3.out) (fun k_ hk => ⟨⟨hk.1.1,⟨hk.1.2.2.2,hk.2⟩⟩,hk.1.2.1⟩))) (Kd.N_reads' (Kd.N_mono (ok':=(fun k_ => ((fun k_ => (P0_ k_∨w.heap.size≤k_)∧some k_≠(.slice Ao39 y293.length co39 : Value).ownBlock∧some k_≠(.slice (some ad299) t296.length co41 : Value).ownBlock)) k_∧some k_≠(u3 : Value).ownBlock)) (HO_5.out) (fun k_ hk => ⟨⟨hk.1.1.1,⟨hk.1.2,hk.2⟩⟩,hk.1.1.2⟩))).2.1 (Kd.N_F (Kd.N_mono (ok':=(fun k_ => ((fun k_ => (P0_ k_∨w.heap.size≤k_)∧some k_≠(.slice Ao39 y293.length co39 : Value).ownBlock∧some k_≠(.slice (some ad299) t296.length co41 : Value).ownBlock)) k_∧some k_≠(u3 : Value).ownBlock)) (HO_5.out) (fun k_ hk => ⟨⟨hk.1.1.1,⟨hk.1.2,hk.2⟩⟩,hk.1.1.2⟩)))));(case aB => exact (by repeat (with_reducible first|exact HB.out|apply za|apply zb|apply zc)));(case aF => exact (fun k_ hk => ⟨(.inr (Nat.le_trans (zB (by repeat (with_reducible first|exact HB.out|apply za|apply zb|apply zc))) hk)),Kd.fresh' (Kd.N_lt (by (with_reducible repeat (first|apply Kd.N_alloc|apply Kd.N_drewN|apply Kd.N_drew));exact HO295.out)) k_ hk,Kd.fresh' (Kd.N_lt (by (with_reducible repeat (first|apply Kd.N_alloc|apply Kd.N_drewN|apply Kd.N_drew));exact HO298.out)) k_ hk⟩));(case aO => exact (by (with_reducible repeat (first|apply Kd.N_alloc|apply Kd.N_drewN|apply Kd.N_drew));exact Kd.N_mono HO_3.out (fun _ hk => ⟨hk.1.1.1,⟨hk.1.2,hk.2⟩⟩)));(case aS => exact (zB (by repeat (with_reducible first|exact HB.out|apply za|apply zb|apply zc))));(case aL => have:=LMc36.out;omega);intro v301 w43 ho hb hg hat;rw [← Ny300.out] at ho;replace HO_0:=zh (Kd.V_afterv (ok:=(fun k_ => (P0_ k_∨w.heap.size≤k_)∧some k_≠(.slice Ao42 x5_2.length co42 : Value).ownBlock∧some k_≠(.slice Ao39 y293.length co39 : Value).ownBlock∧some k_≠(.slice (some ad299) t296.length co41 : Value).ownBlock)) (by (with_reducible repeat (first|apply Kd.V_alloc|apply Kd.V_drewN|apply Kd.V_drew));exact Kd.V_mono HO_0.out (fun _ hk => ⟨⟨hk.1.1.1,⟨hk.1.1.2.2,⟨hk.1.2,hk.2⟩⟩⟩,hk.1.1.2.1⟩)) hg hat);replace HL254_2:=zh (Kd.V_afterv (ok:=(fun k_ => (P0_ k_∨w.heap.size≤k_)∧some k_≠(.slice Ao42 x5_2.length co42 : Value).ownBlock∧some k_≠(.slice Ao39 y293.length co39 : Value).ownBlock∧some k_≠(.slice (some ad299) t296.length co41 : Value).ownBlock)) (by (with_reducible repeat (first|apply Kd.V_alloc|apply Kd.V_drewN|apply Kd.V_drew));exact Kd.V_mono HL254_2.out (fun _ hk => ⟨⟨hk.1.1.1,⟨hk.1.1.2.2,⟨hk.1.2,hk.2⟩⟩⟩,hk.1.1.2.1⟩)) hg hat);replace HL254_3:=zh (Kd.V_afterv (ok:=(fun k_ => (P0_ k_∨w.heap.size≤k_)∧some k_≠(.slice Ao42 x5_2.length co42 : Value).ownBlock∧some k_≠(.slice Ao39 y293.length co39 : Value).ownBlock∧some k_≠(.slice (some ad299) t296.length co41 : Value).ownBlock)) (by (with_reducible repeat (first|apply Kd.V_alloc|apply Kd.V_drewN|apply Kd.V_drew));exact Kd.V_mono HL254_3.out (fun _ hk => ⟨⟨hk.1.1.1,⟨hk.1.1.2.2,⟨hk.1.2,hk.2⟩⟩⟩,hk.1.1.2.1⟩)) hg hat);replace HL254_6:=zh (Kd.V_afterv (ok:=(fun k_ => (P0_ k_∨w.heap.size≤k_)∧some k_≠(.slice Ao42 x5_2.length co42 : Value).ownBlock∧some k_≠(.slice Ao39 y293.length co39 : Value).ownBlock∧some k_≠(.slice (some ad299) t296.length co41 : Value).ownBlock)) (by (with_reducible repeat (first|apply Kd.V_alloc|apply Kd.V_drewN|apply Kd.V_drew));exact Kd.V_mono HL254_6.out (fun _ hk => ⟨⟨hk.1.1.1,⟨hk.1.1.2.2,⟨hk.1.2,hk.2⟩⟩⟩,hk.1.1.2.1⟩)) hg hat);replace HL292_2:=zh (Kd.V_afterv (ok:=(fun k_ => (P0_ k_∨w.heap.size≤k_)∧some k_≠(.slice Ao42 x5_2.length co42 : Value).ownBlock∧some k_≠(.slice Ao39 y293.length co39 : Value).ownBlock∧some k_≠(.slice (some ad299) t296.length co41 : Value).ownBlock)) (by (with_reducible repeat (first|apply Kd.V_alloc|apply Kd.V_drewN|apply Kd.V_drew));exact Kd.V_mono HL292_2.out (fun _ hk => ⟨⟨hk.1.1.1,⟨hk.1.1.2.2,⟨hk.1.2,hk.2⟩⟩⟩,hk.1.1.2.1⟩)) hg hat);replace HL292_3:=zh (Kd.V_afterv (ok:=(fun k_ => (P0_ k_∨w.heap.size≤k_)∧some k_≠(.slice Ao42 x5_2.length co42 : Value).ownBlock∧some k_≠(.slice Ao39 y293.length co39 : Value).ownBlock∧some k_≠(.slice (some ad299) t296.length co41 : Value).ownBlock)) (by (with_reducible repeat (first|apply Kd.V_alloc|apply Kd.V_drewN|apply Kd.V_drew));exact Kd.V_mono HL292_3.out (fun _ hk => ⟨⟨hk.1.1.1,⟨hk.1.1.2.2,⟨hk.1.2,hk.2⟩⟩⟩,hk.1.1.2.1⟩)) hg hat);replace HL292_6:=zh (Kd.V_afterv (ok:=(fun k_ => (P0_ k_∨w.heap.size≤k_)∧some k_≠(.slice Ao42 x5_2.length co42 : Value).ownBlock∧some k_≠(.slice Ao39 y293.length co39 : Value).ownBlock∧some k_≠(.slice (some ad299) t296.length co41 : Value).ownBlock)) (by (with_reducible repeat (first|apply Kd.V_alloc|apply Kd.V_drewN|apply Kd.V_drew));exact Kd.V_mono HL292_6.out (fun _ hk => ⟨⟨hk.1.1.1,⟨hk.1.1.2.2,⟨hk.1.2,hk.2⟩⟩⟩,hk.1.1.2.1⟩)) hg hat);replace HO295:=zh (Kd.N_afterv (ok:=(fun k_ => (P0_ k_∨w.heap.size≤k_)∧some k_≠(.slice Ao42 x5_2.length co42 : Value).ownBlock∧some k_≠(.slice (some ad299) t296.length co41 : Value).ownBlock)) (by (with_reducible repeat (first|apply Kd.N_alloc|apply Kd.N_drewN|apply Kd.N_drew));exact Kd.N_mono HO295.out (fun _ hk => ⟨⟨hk.1.1,⟨hk.1.2.2,hk.2⟩⟩,hk.1.2.1⟩)) hg hat);replace HO298:=zh (Kd.N_afterv (ok:=(fun k_ => (P0_ k_∨w.heap.size≤k_)∧some k_≠(.slice Ao42 x5_2.length co42 : Value).ownBlock∧some k_≠(.slice Ao39 y293.length co39 : Value).ownBlock)) (by (with_reducible repeat (first|apply Kd.N_alloc|apply Kd.N_drewN|apply Kd.N_drew));exact Kd.N_mono HO298.out (fun _ hk => ⟨⟨hk.1,⟨hk.2.2.1,hk.2.2.2⟩⟩,hk.2.1⟩)) hg hat);replace HL299_2:=zh (Kd.V_afterv (ok:=(fun k_ => (P0_ k_∨w.heap.size≤k_)∧some k_≠(.slice Ao42 x5_2.length co42 : Value).ownBlock∧some k_≠(.slice Ao39 y293.length co39 : Value).ownBlock∧some k_≠(.slice (some ad299) t296.length co41 : Value).ownBlock)) (by (with_reducible repeat (first|apply Kd.V_alloc|apply Kd.V_drewN|apply Kd.V_drew));exact Kd.V_mono HL299_2.out (fun _ hk => ⟨⟨hk.1.1,⟨hk.1.2.2.1,⟨hk.1.2.2.2,hk.2⟩⟩⟩,hk.1.2.1⟩)) hg hat);replace HL299_3:=zh (Kd.V_afterv (ok:=(fun k_ => (P0_ k_∨w.heap.size≤k_)∧some k_≠(.slice Ao42 x5_2.length co42 : Value).ownBlock∧some k_≠(.slice Ao39 y293.length co39 : Value).ownBlock∧some k_≠(.slice (some ad299) t296.length co41 : Value).ownBlock)) (by (with_reducible repeat (first|apply Kd.V_alloc|apply Kd.V_drewN|apply Kd.V_drew));exact Kd.V_mono HL299_3.out (fun _ hk => ⟨⟨hk.1.1,⟨hk.1.2.2.1,⟨hk.1.2.2.2,hk.2⟩⟩⟩,hk.1.2.1⟩)) hg hat);replace HB:=zh (hb);have HO302:=zh (ho);clear HO_3 HO_5 ho hb hg hat))
          go_roundg k2
          case measure => have:=HK1.out;have:=HK2.out;omega
          case rel => exact ⟨(y300),(wrap64 (x4_1 + 1)),(by first|rfl|(simp;done)|(simp [*];done)),H',⟨by have:=HK1.out;have:=HK2.out;omega⟩,⟨by (with_reducible repeat (first|apply Kd.V_alloc|apply Kd.V_drewN|apply Kd.V_drew));exact Kd.V_mono HO_0.out (fun _ hk => ⟨hk.1.1,hk.2⟩)⟩,⟨by (with_reducible repeat (first|apply Kd.N_alloc|apply Kd.N_drewN|apply Kd.N_drew));exact Kd.N_mono HO302.out (fun _ hk => hk.1)⟩,⟨by repeat (with_reducible first|exact HB.out|apply za|apply zb|apply zc)⟩⟩
         rw [if_neg c36] at H;exact absurd H (by simp)
        rw [if_neg c35] at H;exact absurd H (by simp)
       rw [if_neg c8] at H;exact absurd H (by simp)
      rw [if_neg c7] at H;exact absurd H (by simp)
   rw [if_neg c4] at H;have c4b0 : decide (x4_1<(l0.length : Int))=false:=decide_eq_false c4;clear c4;obtain rfl:=zU H
   go_wp2
   go_ret
   exact ⟨_,by first|rfl|(simp [yt,yu] <;> rfl)|(simp [*,yt,yu] <;> rfl),by (with_reducible repeat (first|apply Kd.N_alloc|apply Kd.N_drewN|apply Kd.N_drew));exact HO_3.out,by repeat (with_reducible first|exact HB.out|apply za|apply zb|apply zc)⟩

end Go.Proofs.YtceggklknggfdaaGreat.Q
end
