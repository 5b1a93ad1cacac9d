/- Texts of this claim, merged by a program of this session. -/
import Derived.Test.YtmhomllbfblmjaaDoorKLawFnExactPathOKp11
import Derived.Test.YtmhomllbfblmjaaDoorKLawFnExactPathOKp8
import Derived.Test.YtmhomllbfblmjaaDoorKLawFnExactPathOKp9
import Derived.WalkKit
import Derived.Tactics
import Derived.Lib.ConvBytes
import Derived.Shelf.Strings.Search1
import Derived.Shelf.Strings.Search2
import Derived.Shelf.Strings.Search3
import Derived.Shelf.Strings.Count
import Derived.Shelf.LaysM
import Derived.Shelf.Strings.Shaped
import Derived.Shelf.Strings.Split
import Derived.Shelf.Unicode.DecodeSlow
import Derived.Test.YtmhomllbfblmjaaDoorProg
import Derived.Lib.SplitLaws
import Derived.Lib.IndexBytes
section
namespace Go.Proofs.YtmhomllbfblmjaaDoorW.PrintMore
open Go Go.RowKit
def mxs (x y : ByteArray) : ByteArray:=if Op.bytesLess x.toList y.toList then y else x
def mns (x y : ByteArray) : ByteArray:=if (Op.bytesLess x.toList y.toList || x.toList == y.toList) then x else y
theorem max2_str (x y : ByteArray) : Builtin.max2 (.string x) (.string y)=pure (.string (mxs x y)):=by
 simp only [Builtin.max2,Op.stringOp,mxs]
 cases h : Op.bytesLess x.toList y.toList <;> simp [asBool]
theorem min2_str (x y : ByteArray) : Builtin.min2 (.string x) (.string y)=pure (.string (mns x y)):=by
 simp only [Builtin.min2,Op.stringOp,mns]
 cases h : (Op.bytesLess x.toList y.toList || x.toList == y.toList) <;> simp [asBool]
theorem bytesLess_total : ∀ x y : List UInt8,(!(Op.bytesLess x y || x == y))=Op.bytesLess y x
 | [],[] => rfl
 | [],_ :: _ => rfl
 | _ :: _,[] => rfl
 | a :: x,b :: y => by
  have ih:=bytesLess_total x y;simp only [Op.bytesLess]
  by_cases h : a=b
  ·
   subst h
   have h1 : (a<a)=False:=eq_false (UInt8.lt_irrefl a);simp only [h1,decide_false,Bool.false_or,beq_self_eq_true,Bool.true_and];rw [← ih]
   by_cases h2 : x=y <;> simp [h2]
  have h1 : (a == b)=false:=by simpa using h
  have h2 : (b == a)=false:=by simpa using fun e => h e.symm
  have h3 : (a :: x == b :: y)=false:=by simp [h]
  simp only [h1,h2,h3,Bool.false_and,Bool.or_false];have h4 : a.toNat≠b.toNat:=fun e => h (UInt8.toNat_inj.mp e)
  by_cases h5 : a<b
  ·
   have : ¬ b<a:=by rw [UInt8.lt_iff_toNat_lt] at *;omega
   simp [h5,this]
  have : b<a:=by rw [UInt8.lt_iff_toNat_lt] at *;omega
  simp [h5,this]
theorem str_geq (t : TypeId) (a b : ByteArray) : binOp .geq t (.string a) (.string b)=pure (.bool !(Op.bytesLess a.toList b.toList)):=by simp [binOp,Op.stringOp]
theorem str_gtr (t : TypeId) (a b : ByteArray) : binOp .gtr t (.string a) (.string b)=pure (.bool (Op.bytesLess b.toList a.toList)):=by
 rw [← bytesLess_total];simp [binOp,Op.stringOp]
theorem str_leq (t : TypeId) (a b : ByteArray) : binOp .leq t (.string a) (.string b)=pure (.bool !(Op.bytesLess b.toList a.toList)):=by
 rw [← bytesLess_total];simp [binOp,Op.stringOp]
open Go.Proofs.YtmhomllbfblmjaaDoorW.PrintWords Go.Proofs.YtmhomllbfblmjaaDoorW.PrintLast
section
variable {P : Program} {ops : Array Oper} {o : Oper} {rest : List Oper} {a : Act} {Q : Exit→Act→World→Prop}
end
end Go.Proofs.YtmhomllbfblmjaaDoorW.PrintMore
end
section
namespace Go.Proofs
open Go.Shelf
def Tryd.lays143_ren : Go.Shelf.Ren:=⟨fun|143 => 19|219 => 28|217 => 30|225 => 31|224 => 32|267 => 33|266 => 34|314 => 35|n => n,fun|9 => 9|3 => 3|4 => 4|5 => 5|46 => 38|146 => 44|51 => 43|n => n,fun|1 => 0|n => n⟩
theorem Tryd.lays143 : Go.Proofs.Lays.n143 Tryd.prog Tryd.lays143_ren:={
 mixed:=by kernel_rfl
 f143:=Tryd.func19.trans (congrArg some (by kernel_rfl))
 f217:=Tryd.func30.trans (congrArg some (by kernel_rfl))
 f219:=Tryd.func28.trans (congrArg some (by kernel_rfl))
 f224:=Tryd.func32.trans (congrArg some (by kernel_rfl))
 f225:=Tryd.func31.trans (congrArg some (by kernel_rfl))
 f266:=Tryd.func34.trans (congrArg some (by kernel_rfl))
 f267:=Tryd.func33.trans (congrArg some (by kernel_rfl))
 f314:=Tryd.func35.trans (congrArg some (by kernel_rfl))
 t3:=Tryd.underlying3
 a3:=Tryd.isAgg3
 z3:=Tryd.sizeOf3
 v3:=Tryd.zeroValue3
 t4:=Tryd.underlying4
 a4:=Tryd.isAgg4
 z4:=Tryd.sizeOf4
 v4:=Tryd.zeroValue4
 t5:=Tryd.underlying5
 a5:=Tryd.isAgg5
 z5:=Tryd.sizeOf5
 v5:=Tryd.zeroValue5
 t9:=Tryd.underlying9
 a9:=Tryd.isAgg9
 z9:=Tryd.sizeOf9
 v9:=Tryd.zeroValue9
 t46:=Tryd.underlying38
 a46:=Tryd.isAgg38
 z46:=Tryd.sizeOf38
 v46:=Tryd.zeroValue38
 t51:=Tryd.underlying43
 a51:=Tryd.isAgg43
 z51:=Tryd.sizeOf43
 v51:=Tryd.zeroValue43
 t146:=Tryd.underlying44
 a146:=Tryd.isAgg44
 z146:=Tryd.sizeOf44
 v146:=Tryd.zeroValue44
 g1:=by kernel_rfl }
open Go.RowKit Go.Lib in
theorem Tryd.strings_Index_one (s : ByteArray) (c : UInt8) (w : World) :
  Calls Tryd.prog 19 #[.string s,.string ⟨#[c]⟩] w fun e w' => e = .returned (.int .i64 (Lib.indexByte s.data.toList c))∧w' = w:=Any.strings_Index_one Tryd.lays143 s c w
def Tryd.lays138_ren : Go.Shelf.Ren:=⟨fun|138 => 18|195 => 25|218 => 27|143 => 19|219 => 28|217 => 30|225 => 31|224 => 32|267 => 33|266 => 34|314 => 35|n => n,fun|9 => 9|3 => 3|4 => 4|5 => 5|0 => 0|46 => 38|146 => 44|51 => 43|n => n,fun|1 => 0|n => n⟩
theorem Tryd.lays138 : Go.Proofs.Lays.n138 Tryd.prog Tryd.lays138_ren:={
 mixed:=by kernel_rfl
 f138:=Tryd.func18.trans (congrArg some (by kernel_rfl))
 f143:=Tryd.func19.trans (congrArg some (by kernel_rfl))
 f195:=Tryd.func25.trans (congrArg some (by kernel_rfl))
 f217:=Tryd.func30.trans (congrArg some (by kernel_rfl))
 f218:=Tryd.func27.trans (congrArg some (by kernel_rfl))
 f219:=Tryd.func28.trans (congrArg some (by kernel_rfl))
 f224:=Tryd.func32.trans (congrArg some (by kernel_rfl))
 f225:=Tryd.func31.trans (congrArg some (by kernel_rfl))
 f266:=Tryd.func34.trans (congrArg some (by kernel_rfl))
 f267:=Tryd.func33.trans (congrArg some (by kernel_rfl))
 f314:=Tryd.func35.trans (congrArg some (by kernel_rfl))
 t0:=Tryd.underlying0
 a0:=Tryd.isAgg0
 z0:=Tryd.sizeOf0
 v0:=Tryd.zeroValue0
 t3:=Tryd.underlying3
 a3:=Tryd.isAgg3
 z3:=Tryd.sizeOf3
 v3:=Tryd.zeroValue3
 t4:=Tryd.underlying4
 a4:=Tryd.isAgg4
 z4:=Tryd.sizeOf4
 v4:=Tryd.zeroValue4
 t5:=Tryd.underlying5
 a5:=Tryd.isAgg5
 z5:=Tryd.sizeOf5
 v5:=Tryd.zeroValue5
 t9:=Tryd.underlying9
 a9:=Tryd.isAgg9
 z9:=Tryd.sizeOf9
 v9:=Tryd.zeroValue9
 t46:=Tryd.underlying38
 a46:=Tryd.isAgg38
 z46:=Tryd.sizeOf38
 v46:=Tryd.zeroValue38
 t51:=Tryd.underlying43
 a51:=Tryd.isAgg43
 z51:=Tryd.sizeOf43
 v51:=Tryd.zeroValue43
 t146:=Tryd.underlying44
 a146:=Tryd.isAgg44
 z146:=Tryd.sizeOf44
 v146:=Tryd.zeroValue44
 g1:=by kernel_rfl }
open Go.RowKit Go.Lib in
theorem Tryd.strings_Count_one (s : ByteArray) (c : UInt8) (w : World) :
  Calls Tryd.prog 18 #[.string s,.string ⟨#[c]⟩] w fun e w' => e = .returned (.int .i64 (Lib.countByte s.data.toList c))∧w' = w:=Any.strings_Count_one Tryd.lays138 s c w
def Tryd.lays146_ren : Go.Shelf.Ren:=⟨fun|146 => 8|221 => 13|268 => 17|138 => 18|143 => 19|195 => 25|197 => 26|218 => 27|219 => 28|260 => 29|217 => 30|225 => 31|224 => 32|267 => 33|266 => 34|314 => 35|n => n,fun|9 => 9|31 => 23|3 => 3|4 => 4|0 => 0|105 => 34|21 => 21|5 => 5|46 => 38|119 => 39|139 => 42|138 => 41|146 => 44|51 => 43|n => n,fun|1 => 0|3 => 1|4 => 2|n => n⟩
theorem Tryd.lays146 : Go.Proofs.Lays.n146 Tryd.prog Tryd.lays146_ren:={
 mixed:=by kernel_rfl
 f138:=Tryd.func18.trans (congrArg some (by kernel_rfl))
 f143:=Tryd.func19.trans (congrArg some (by kernel_rfl))
 f146:=Tryd.func8.trans (congrArg some (by kernel_rfl))
 f195:=Tryd.func25.trans (congrArg some (by kernel_rfl))
 f197:=Tryd.func26.trans (congrArg some (by kernel_rfl))
 f217:=Tryd.func30.trans (congrArg some (by kernel_rfl))
 f218:=Tryd.func27.trans (congrArg some (by kernel_rfl))
 f219:=Tryd.func28.trans (congrArg some (by kernel_rfl))
 f221:=Tryd.func13.trans (congrArg some (by kernel_rfl))
 f224:=Tryd.func32.trans (congrArg some (by kernel_rfl))
 f225:=Tryd.func31.trans (congrArg some (by kernel_rfl))
 f260:=Tryd.func29.trans (congrArg some (by kernel_rfl))
 f266:=Tryd.func34.trans (congrArg some (by kernel_rfl))
 f267:=Tryd.func33.trans (congrArg some (by kernel_rfl))
 f268:=Tryd.func17.trans (congrArg some (by kernel_rfl))
 f314:=Tryd.func35.trans (congrArg some (by kernel_rfl))
 t0:=Tryd.underlying0
 a0:=Tryd.isAgg0
 z0:=Tryd.sizeOf0
 v0:=Tryd.zeroValue0
 t3:=Tryd.underlying3
 a3:=Tryd.isAgg3
 z3:=Tryd.sizeOf3
 v3:=Tryd.zeroValue3
 t4:=Tryd.underlying4
 a4:=Tryd.isAgg4
 z4:=Tryd.sizeOf4
 v4:=Tryd.zeroValue4
 t5:=Tryd.underlying5
 a5:=Tryd.isAgg5
 z5:=Tryd.sizeOf5
 v5:=Tryd.zeroValue5
 t9:=Tryd.underlying9
 a9:=Tryd.isAgg9
 z9:=Tryd.sizeOf9
 v9:=Tryd.zeroValue9
 t21:=Tryd.underlying21
 a21:=Tryd.isAgg21
 z21:=Tryd.sizeOf21
 v21:=Tryd.zeroValue21
 t31:=Tryd.underlying23
 a31:=Tryd.isAgg23
 z31:=Tryd.sizeOf23
 v31:=Tryd.zeroValue23
 t46:=Tryd.underlying38
 a46:=Tryd.isAgg38
 z46:=Tryd.sizeOf38
 v46:=Tryd.zeroValue38
 t51:=Tryd.underlying43
 a51:=Tryd.isAgg43
 z51:=Tryd.sizeOf43
 v51:=Tryd.zeroValue43
 t105:=Tryd.underlying34
 a105:=Tryd.isAgg34
 z105:=Tryd.sizeOf34
 v105:=Tryd.zeroValue34
 t119:=Tryd.underlying39
 a119:=Tryd.isAgg39
 z119:=Tryd.sizeOf39
 t138:=Tryd.underlying41
 a138:=Tryd.isAgg41
 z138:=Tryd.sizeOf41
 v138:=Tryd.zeroValue41
 t139:=Tryd.underlying42
 a139:=Tryd.isAgg42
 z139:=Tryd.sizeOf42
 v139:=Tryd.zeroValue42
 t146:=Tryd.underlying44
 a146:=Tryd.isAgg44
 z146:=Tryd.sizeOf44
 v146:=Tryd.zeroValue44
 g1:=by kernel_rfl
 g3:=by kernel_rfl
 g4:=by kernel_rfl }
open Go.RowKit Go.Lib in
theorem Tryd.strings_Split (s sep : ByteArray) (m : Int) (w : World) (hs : s.size<4294967281) (hm : w.cell? ⟨0,0,none⟩=some (.int .i64 m)) (h1 : 1≤sep.size) :
  Calls Tryd.prog 8 #[.string s,.string sep] w fun e w' =>
   e = .returned (.slice (some ⟨w.heap.size,0,none⟩) (Lib.countB s sep + 1) (Lib.countB s sep + 1))∧w' = w.alloc (.cells ((Lib.splitB sep 0 (Lib.countB s sep) s).map Value.string).toArray 9):=Any.strings_Split Tryd.lays146 (by kernel_rfl) s sep m w hs hm h1
end Go.Proofs
end
section
namespace Go.Proofs.YtmhomllbfblmjaaDoorW.PrintMore
open Go Go.RowKit Go.Lib Go.Proofs.YtmhomllbfblmjaaDoorW.PrintWords Go.Proofs.YtmhomllbfblmjaaDoorW.PrintLast
def pieces (s sep : ByteArray) : List ByteArray:=Lib.splitB sep 0 (Lib.countB s sep) s
set_option maxHeartbeats 1000000 in
theorem split_one (s : ByteArray) (c : UInt8) (w : World) (hs : s.size<4294967281) :
  Calls Tryd.prog 8 #[.string s,.string ⟨#[c]⟩] w fun e w' => ∃ v0_ : Value,e = .returned v0_∧Kd.R Kd.string 9 w' w.heap.size (fun _ => True) v0_ (pieces s ⟨#[c]⟩)∧Below w.heap.size w w':=by
 have L:=Tryd.lays146
 have h1 : 1≤(⟨#[c]⟩ : ByteArray).size:=Nat.le_refl 1
 have hle:=Lib.countB_le ⟨#[c]⟩ h1 s.size s (Nat.le_refl _)
 have hlen:=Lib.splitB_all ⟨#[c]⟩ h1 0 _ s rfl
 have kg:=Any.strings_genSplit_core (P:=Tryd.prog) { L with } (by kernel_rfl) s ⟨#[c]⟩ 0 (-1) (Lib.countB s ⟨#[c]⟩ + 1) w hs h1 (Nat.zero_le _)
  (fun x cc hx => (Any.strings_Index_one { L with } x c _).mono fun e w' ⟨he,hw⟩ => ⟨by rw [he];show _=Ending.returned (Value.int .i64 (Lib.index x.data.toList [c]));rw [Lib.index_one],hw⟩)
  ((Any.strings_Count_one { L with } s c w).mono fun e w' ⟨he,hw⟩ => ⟨by
   rw [he]
   show _=Ending.returned (Value.int .i64 ((Lib.count s.data.toList [c] : Nat) : Int))
   rw [Lib.count_one]
   rfl,hw⟩) (by decide) (by decide) (by rw [if_pos (by decide)];omega)
 rw [Nat.add_sub_cancel,hlen] at kg
 have e2 : Lib.cellsOf (Lib.splitB ⟨#[c]⟩ 0 (Lib.countB s ⟨#[c]⟩) s) (Lib.countB s ⟨#[c]⟩ + 1)=((Lib.splitB ⟨#[c]⟩ 0 (Lib.countB s ⟨#[c]⟩) s).map Value.string).toArray:=by rw [← hlen];exact Lib.cellsOf_full _
 rw [e2] at kg
 have t3:=L.t3;have t9:=L.t9;have t31:=L.t31
 have a3:=L.a3;have a9:=L.a9;have a31:=L.a31
 have z3:=L.z3;have v3:=L.v3;have z9:=L.z9;have v9:=L.v9;have z31:=L.z31;have v31:=L.v31
 have e221 : ∀ args w,(callFunc (Tryd.lays146_ren.f 221) args).run Tryd.prog w = .ok (.enter (Tryd.lays146_ren.f 221) args) w:=enters_of L.f221 (by kernel_rfl) rfl
 have key : Calls Tryd.prog (Tryd.lays146_ren.f 146) #[.string s,.string ⟨#[c]⟩] w fun e w' =>
   e = .returned (.slice (some ⟨w.heap.size,0,none⟩) (Lib.countB s ⟨#[c]⟩ + 1) (Lib.countB s ⟨#[c]⟩ + 1))∧w' = w.alloc (.cells ((Lib.splitB ⟨#[c]⟩ 0 (Lib.countB s ⟨#[c]⟩) s).map Value.string).toArray 9):=by
  go_enter L.f146,Body.n146_ntmps Tryd.lays146_ren
  go_wp2_with (go_at_fn (Tryd.lays146_ren.f 221);refine kg.mono ?_;rintro e w' ⟨rfl,hw⟩;rw [hw])
  go_ret
  exact ⟨rfl,rfl⟩
 refine Calls.mono key ?_
 rintro e w' ⟨rfl,rfl⟩
 refine ⟨_,rfl,?_,below_alloc (Below.refl _ _) _⟩
 have hp : (pieces s ⟨#[c]⟩).length=Lib.countB s ⟨#[c]⟩ + 1:=hlen
 have hm : Lib.countB s ⟨#[c]⟩ + 1≤maxLen:=by unfold maxLen;omega
 have ho:=World.ownsRow_lit (base:=w.heap.size) (e:=9) (size:=1) w ((pieces s ⟨#[c]⟩).map Value.string).toArray (Lib.countB s ⟨#[c]⟩ + 1) (Nat.le_refl _) hm (by simp [hp])
 have ho2 : (w.alloc (.cells ((pieces s ⟨#[c]⟩).map Value.string).toArray 9)).ownsRow w.heap.size 9 1 (.slice (some ⟨w.heap.size,0,none⟩) (Lib.countB s ⟨#[c]⟩ + 1) (Lib.countB s ⟨#[c]⟩ + 1)) (pieces s ⟨#[c]⟩).length (encs Value.string (pieces s ⟨#[c]⟩)):=by
  rw [hp]
  have he : encs Value.string (pieces s ⟨#[c]⟩)=((pieces s ⟨#[c]⟩).map Value.string).toArray.toList:=by simp [encs]
  rw [he];exact ho
 exact Kd.R_of_own ho2 (fun _ _ => trivial)
end Go.Proofs.YtmhomllbfblmjaaDoorW.PrintMore
end
