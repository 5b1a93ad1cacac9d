/- Texts of this claim, merged by a program of this session. -/
import Derived.Test.YthjgfjlogilleabDoorKLawFnExactTermIntervalp11
import Derived.Shelf.Strings.Builder1
import Derived.Shelf.Strings.Builder2
import Derived.Shelf.Strings.BuilderF
import Derived.Shelf.Utf8.RuneCount
import Derived.Shelf.Strings.Search1
import Derived.Shelf.Strings.Search2
import Derived.Shelf.Strings.Search3
import Derived.Shelf.Strings.Count
import Derived.Shelf.LaysM
import Derived.Shelf.Strings.Shaped
import Derived.Shelf.Strings.Prefix
import Derived.Shelf.Strings.Split
import Derived.Shelf.Strings.SplitShaped
import Derived.Shelf.Unicode.Decode
import Derived.Shelf.Strings.RuneCount
import Derived.Shelf.Strings.Explode
import Derived.Shelf.Bits.Mul64
import Derived.Shelf.Strings.Repeat
import Derived.Shelf.Unicode.DecodeSlow
import Derived.Shelf.Unicode.DecodeAny
import Derived.Test.YthjgfjlogilleabDoorProg
import Derived.Lib.SplitLaws
import Derived.Lib.IndexBytes
section
namespace Go.Proofs.YthjgfjlogilleabDoorW.PrintMore
open Go Go.RowKit
def mxs (x y : ByteArray) : ByteArray:=if Op.bytesLess x.toList y.toList then y else x
def mns (x y : ByteArray) : ByteArray:=if (Op.bytesLess x.toList y.toList || x.toList == y.toList) then x else y
theorem max2_str (x y : ByteArray) : Builtin.max2 (.string x) (.string y)=pure (.string (mxs x y)):=by
 simp only [Builtin.max2,Op.stringOp,mxs]
 cases h : Op.bytesLess x.toList y.toList <;> simp [asBool]
theorem min2_str (x y : ByteArray) : Builtin.min2 (.string x) (.string y)=pure (.string (mns x y)):=by
 simp only [Builtin.min2,Op.stringOp,mns]
 cases h : (Op.bytesLess x.toList y.toList || x.toList == y.toList) <;> simp [asBool]
theorem bytesLess_total : ∀ x y : List UInt8,(!(Op.bytesLess x y || x == y))=Op.bytesLess y x
 | [],[] => rfl
 | [],_ :: _ => rfl
 | _ :: _,[] => rfl
 | a :: x,b :: y => by
  have ih:=bytesLess_total x y;simp only [Op.bytesLess]
  by_cases h : a=b
  ·
   subst h
   have h1 : (a<a)=False:=eq_false (UInt8.lt_irrefl a);simp only [h1,decide_false,Bool.false_or,beq_self_eq_true,Bool.true_and];rw [← ih]
   by_cases h2 : x=y <;> simp [h2]
  have h1 : (a == b)=false:=by simpa using h
  have h2 : (b == a)=false:=by simpa using fun e => h e.symm
  have h3 : (a :: x == b :: y)=false:=by simp [h]
  simp only [h1,h2,h3,Bool.false_and,Bool.or_false];have h4 : a.toNat≠b.toNat:=fun e => h (UInt8.toNat_inj.mp e)
  by_cases h5 : a<b
  ·
   have : ¬ b<a:=by rw [UInt8.lt_iff_toNat_lt] at *;omega
   simp [h5,this]
  have : b<a:=by rw [UInt8.lt_iff_toNat_lt] at *;omega
  simp [h5,this]
theorem str_geq (t : TypeId) (a b : ByteArray) : binOp .geq t (.string a) (.string b)=pure (.bool !(Op.bytesLess a.toList b.toList)):=by simp [binOp,Op.stringOp]
theorem str_gtr (t : TypeId) (a b : ByteArray) : binOp .gtr t (.string a) (.string b)=pure (.bool (Op.bytesLess b.toList a.toList)):=by
 rw [← bytesLess_total];simp [binOp,Op.stringOp]
theorem str_leq (t : TypeId) (a b : ByteArray) : binOp .leq t (.string a) (.string b)=pure (.bool !(Op.bytesLess b.toList a.toList)):=by
 rw [← bytesLess_total];simp [binOp,Op.stringOp]
open Go.Proofs.YthjgfjlogilleabDoorW.PrintWords Go.Proofs.YthjgfjlogilleabDoorW.PrintLast
theorem conv_V {base : Nat} (W : World) (e : TypeId) (s : ByteArray) (hs : s.size≤9223372036854775807) :
  Kd.V (Kd.int .u8) e (Lib.bytesWorld W e s) base (fun k => W.heap.size≤k) (.slice (some ⟨W.heap.size,0,none⟩) s.size (grownCap W s.size 0 e)) (bytesOf s):=by
 have hl : (bytesOf s).length=s.size:=bytesOf_length s;refine ⟨some ⟨W.heap.size,0,none⟩,grownCap W s.size 0 e,by rw [hl],by rw [hl];exact grownCap_ge W s.size 0 e,fun W2 h2 => ?_⟩;have hr:=bytes_reads W e s hs;have hat : W2.heap[W.heap.size]? = (Lib.bytesWorld W e s).heap[W.heap.size]?:=h2 _ (Nat.le_refl _) (by rw [Lib.bytesWorld_size];omega);refine ⟨rfl,by rw [hl];exact hs,fun hn => ⟨_,rfl,fun j p hj => ⟨[.int .u8 p],rfl,rfl,fun i u hu => ?_⟩⟩⟩;obtain ⟨hjl,hp⟩:=List.getElem?_eq_some_iff.1 hj
 have hi : i=0:=by
  have:=(List.getElem?_eq_some_iff.1 hu).1;simp at this;exact this
 subst hi;obtain rfl : Value.int .u8 p=u:=by simpa using hu
 obtain ⟨ad,hade,hcell⟩:=hr.2.2 (by omega);obtain rfl:=Option.some.inj hade;have h3:=hcell j (by omega);have h4 : (bytesOf s).getD j 0=p:=by rw [List.getD_eq_getElem?_getD,hj];rfl
 rw [h4,add_plain] at h3;show W2.cell? (Addr.add ⟨W.heap.size,0,none⟩ (j * 1 + 0))=_;rw [add_plain,Nat.mul_one,Nat.add_zero];unfold World.cell? at h3 ⊢;rw [hat];exact h3
section
variable {P : Program} {ops : Array Oper} {o : Oper} {rest : List Oper} {a : Act} {Q : Exit→Act→World→Prop}
theorem conv_event {W : World} {base : Nat} (hgd : o.guard=none) {N : Tmp} (_hd : o.dst=some N) (src dst e : TypeId) {x : Operand} (s : ByteArray) (ho : o.op = .convert src dst x) (hx : a.eval x = .string s)
  {u : TypeDesc} (hs : P.underlying src=some u) (hdst : P.underlying dst=some (.slice e)) (he : P.underlying e=some (.int .u8)) (hsz : s.size≤9223372036854775807)
  (h : ∀ v w1,Kd.V (Kd.int .u8) e w1 base (fun k => W.heap.size≤k) v (bytesOf s)→Below W.heap.size W w1→wpList P ops Q rest (a.put o.dst v) w1) : wpList P ops Q (o :: rest) a W:=by
 refine Kd.event_run hgd ?_ (h _ _ (conv_V W e s hsz) (bytes_below (Below.refl _ _) (Nat.le_refl _) e s));unfold execOp;rw [ho];simp [hx,print_bytes src dst e hs hdst he s W]
end
end Go.Proofs.YthjgfjlogilleabDoorW.PrintMore
end
section
namespace Go.Proofs
open Go.Shelf
def Tryd.lays143_ren : Go.Shelf.Ren:=⟨fun|143 => 60|219 => 73|217 => 77|225 => 78|224 => 79|267 => 80|266 => 87|314 => 88|n => n,fun|9 => 9|3 => 3|4 => 4|5 => 5|46 => 58|146 => 115|51 => 114|n => n,fun|1 => 0|n => n⟩
theorem Tryd.lays143 : Go.Proofs.Lays.n143 Tryd.prog Tryd.lays143_ren:={
 mixed:=by kernel_rfl
 f143:=Tryd.func60.trans (congrArg some (by kernel_rfl))
 f217:=Tryd.func77.trans (congrArg some (by kernel_rfl))
 f219:=Tryd.func73.trans (congrArg some (by kernel_rfl))
 f224:=Tryd.func79.trans (congrArg some (by kernel_rfl))
 f225:=Tryd.func78.trans (congrArg some (by kernel_rfl))
 f266:=Tryd.func87.trans (congrArg some (by kernel_rfl))
 f267:=Tryd.func80.trans (congrArg some (by kernel_rfl))
 f314:=Tryd.func88.trans (congrArg some (by kernel_rfl))
 t3:=Tryd.underlying3
 a3:=Tryd.isAgg3
 z3:=Tryd.sizeOf3
 v3:=Tryd.zeroValue3
 t4:=Tryd.underlying4
 a4:=Tryd.isAgg4
 z4:=Tryd.sizeOf4
 v4:=Tryd.zeroValue4
 t5:=Tryd.underlying5
 a5:=Tryd.isAgg5
 z5:=Tryd.sizeOf5
 v5:=Tryd.zeroValue5
 t9:=Tryd.underlying9
 a9:=Tryd.isAgg9
 z9:=Tryd.sizeOf9
 v9:=Tryd.zeroValue9
 t46:=Tryd.underlying58
 a46:=Tryd.isAgg58
 z46:=Tryd.sizeOf58
 v46:=Tryd.zeroValue58
 t51:=Tryd.underlying114
 a51:=Tryd.isAgg114
 z51:=Tryd.sizeOf114
 v51:=Tryd.zeroValue114
 t146:=Tryd.underlying115
 a146:=Tryd.isAgg115
 z146:=Tryd.sizeOf115
 v146:=Tryd.zeroValue115
 g1:=by kernel_rfl }
open Go.RowKit Go.Lib in
theorem Tryd.strings_Index_one (s : ByteArray) (c : UInt8) (w : World) :
  Calls Tryd.prog 60 #[.string s,.string ⟨#[c]⟩] w fun e w' => e = .returned (.int .i64 (Lib.indexByte s.data.toList c))∧w' = w:=Any.strings_Index_one Tryd.lays143 s c w
def Tryd.lays138_ren : Go.Shelf.Ren:=⟨fun|138 => 59|195 => 70|218 => 72|143 => 60|219 => 73|217 => 77|225 => 78|224 => 79|267 => 80|266 => 87|314 => 88|n => n,fun|9 => 9|3 => 3|4 => 4|5 => 5|0 => 0|46 => 58|146 => 115|51 => 114|n => n,fun|1 => 0|n => n⟩
theorem Tryd.lays138 : Go.Proofs.Lays.n138 Tryd.prog Tryd.lays138_ren:={
 mixed:=by kernel_rfl
 f138:=Tryd.func59.trans (congrArg some (by kernel_rfl))
 f143:=Tryd.func60.trans (congrArg some (by kernel_rfl))
 f195:=Tryd.func70.trans (congrArg some (by kernel_rfl))
 f217:=Tryd.func77.trans (congrArg some (by kernel_rfl))
 f218:=Tryd.func72.trans (congrArg some (by kernel_rfl))
 f219:=Tryd.func73.trans (congrArg some (by kernel_rfl))
 f224:=Tryd.func79.trans (congrArg some (by kernel_rfl))
 f225:=Tryd.func78.trans (congrArg some (by kernel_rfl))
 f266:=Tryd.func87.trans (congrArg some (by kernel_rfl))
 f267:=Tryd.func80.trans (congrArg some (by kernel_rfl))
 f314:=Tryd.func88.trans (congrArg some (by kernel_rfl))
 t0:=Tryd.underlying0
 a0:=Tryd.isAgg0
 z0:=Tryd.sizeOf0
 v0:=Tryd.zeroValue0
 t3:=Tryd.underlying3
 a3:=Tryd.isAgg3
 z3:=Tryd.sizeOf3
 v3:=Tryd.zeroValue3
 t4:=Tryd.underlying4
 a4:=Tryd.isAgg4
 z4:=Tryd.sizeOf4
 v4:=Tryd.zeroValue4
 t5:=Tryd.underlying5
 a5:=Tryd.isAgg5
 z5:=Tryd.sizeOf5
 v5:=Tryd.zeroValue5
 t9:=Tryd.underlying9
 a9:=Tryd.isAgg9
 z9:=Tryd.sizeOf9
 v9:=Tryd.zeroValue9
 t46:=Tryd.underlying58
 a46:=Tryd.isAgg58
 z46:=Tryd.sizeOf58
 v46:=Tryd.zeroValue58
 t51:=Tryd.underlying114
 a51:=Tryd.isAgg114
 z51:=Tryd.sizeOf114
 v51:=Tryd.zeroValue114
 t146:=Tryd.underlying115
 a146:=Tryd.isAgg115
 z146:=Tryd.sizeOf115
 v146:=Tryd.zeroValue115
 g1:=by kernel_rfl }
open Go.RowKit Go.Lib in
theorem Tryd.strings_Count_one (s : ByteArray) (c : UInt8) (w : World) :
  Calls Tryd.prog 59 #[.string s,.string ⟨#[c]⟩] w fun e w' => e = .returned (.int .i64 (Lib.countByte s.data.toList c))∧w' = w:=Any.strings_Count_one Tryd.lays138 s c w
def Tryd.lays146_ren : Go.Shelf.Ren:=⟨fun|146 => 35|221 => 45|268 => 58|138 => 59|143 => 60|195 => 70|197 => 71|218 => 72|219 => 73|260 => 76|217 => 77|225 => 78|224 => 79|267 => 80|266 => 87|314 => 88|n => n,fun|9 => 9|31 => 52|3 => 3|4 => 4|0 => 0|105 => 92|21 => 21|5 => 5|46 => 58|119 => 110|139 => 113|138 => 112|146 => 115|51 => 114|n => n,fun|1 => 0|3 => 1|4 => 2|n => n⟩
theorem Tryd.lays146 : Go.Proofs.Lays.n146 Tryd.prog Tryd.lays146_ren:={
 mixed:=by kernel_rfl
 f138:=Tryd.func59.trans (congrArg some (by kernel_rfl))
 f143:=Tryd.func60.trans (congrArg some (by kernel_rfl))
 f146:=Tryd.func35.trans (congrArg some (by kernel_rfl))
 f195:=Tryd.func70.trans (congrArg some (by kernel_rfl))
 f197:=Tryd.func71.trans (congrArg some (by kernel_rfl))
 f217:=Tryd.func77.trans (congrArg some (by kernel_rfl))
 f218:=Tryd.func72.trans (congrArg some (by kernel_rfl))
 f219:=Tryd.func73.trans (congrArg some (by kernel_rfl))
 f221:=Tryd.func45.trans (congrArg some (by kernel_rfl))
 f224:=Tryd.func79.trans (congrArg some (by kernel_rfl))
 f225:=Tryd.func78.trans (congrArg some (by kernel_rfl))
 f260:=Tryd.func76.trans (congrArg some (by kernel_rfl))
 f266:=Tryd.func87.trans (congrArg some (by kernel_rfl))
 f267:=Tryd.func80.trans (congrArg some (by kernel_rfl))
 f268:=Tryd.func58.trans (congrArg some (by kernel_rfl))
 f314:=Tryd.func88.trans (congrArg some (by kernel_rfl))
 t0:=Tryd.underlying0
 a0:=Tryd.isAgg0
 z0:=Tryd.sizeOf0
 v0:=Tryd.zeroValue0
 t3:=Tryd.underlying3
 a3:=Tryd.isAgg3
 z3:=Tryd.sizeOf3
 v3:=Tryd.zeroValue3
 t4:=Tryd.underlying4
 a4:=Tryd.isAgg4
 z4:=Tryd.sizeOf4
 v4:=Tryd.zeroValue4
 t5:=Tryd.underlying5
 a5:=Tryd.isAgg5
 z5:=Tryd.sizeOf5
 v5:=Tryd.zeroValue5
 t9:=Tryd.underlying9
 a9:=Tryd.isAgg9
 z9:=Tryd.sizeOf9
 v9:=Tryd.zeroValue9
 t21:=Tryd.underlying21
 a21:=Tryd.isAgg21
 z21:=Tryd.sizeOf21
 v21:=Tryd.zeroValue21
 t31:=Tryd.underlying52
 a31:=Tryd.isAgg52
 z31:=Tryd.sizeOf52
 v31:=Tryd.zeroValue52
 t46:=Tryd.underlying58
 a46:=Tryd.isAgg58
 z46:=Tryd.sizeOf58
 v46:=Tryd.zeroValue58
 t51:=Tryd.underlying114
 a51:=Tryd.isAgg114
 z51:=Tryd.sizeOf114
 v51:=Tryd.zeroValue114
 t105:=Tryd.underlying92
 a105:=Tryd.isAgg92
 z105:=Tryd.sizeOf92
 v105:=Tryd.zeroValue92
 t119:=Tryd.underlying110
 a119:=Tryd.isAgg110
 z119:=Tryd.sizeOf110
 t138:=Tryd.underlying112
 a138:=Tryd.isAgg112
 z138:=Tryd.sizeOf112
 v138:=Tryd.zeroValue112
 t139:=Tryd.underlying113
 a139:=Tryd.isAgg113
 z139:=Tryd.sizeOf113
 v139:=Tryd.zeroValue113
 t146:=Tryd.underlying115
 a146:=Tryd.isAgg115
 z146:=Tryd.sizeOf115
 v146:=Tryd.zeroValue115
 g1:=by kernel_rfl
 g3:=by kernel_rfl
 g4:=by kernel_rfl }
open Go.RowKit Go.Lib in
theorem Tryd.strings_Split (s sep : ByteArray) (m : Int) (w : World) (hs : s.size<4294967281) (hm : w.cell? ⟨0,0,none⟩=some (.int .i64 m)) (h1 : 1≤sep.size) :
  Calls Tryd.prog 35 #[.string s,.string sep] w fun e w' =>
   e = .returned (.slice (some ⟨w.heap.size,0,none⟩) (Lib.countB s sep + 1) (Lib.countB s sep + 1))∧w' = w.alloc (.cells ((Lib.splitB sep 0 (Lib.countB s sep) s).map Value.string).toArray 9):=Any.strings_Split Tryd.lays146 (by kernel_rfl) s sep m w hs hm h1
def Tryd.lays105_ren : Go.Shelf.Ren:=⟨fun|105 => 74|212 => 81|99 => 82|165 => 83|166 => 84|170 => 85|169 => 86|263 => 89|264 => 90|206 => 91|240 => 92|241 => 93|276 => 94|277 => 95|n => n,fun|9 => 9|3 => 3|4 => 4|20 => 20|0 => 0|46 => 58|109 => 97|5 => 5|72 => 102|76 => 106|51 => 114|146 => 115|53 => 118|148 => 119|70 => 100|37 => 51|75 => 105|127 => 121|164 => 122|80 => 109|n => n,fun|n => n⟩
theorem Tryd.lays105 : Go.Proofs.Lays.n105 Tryd.prog Tryd.lays105_ren:={
 mixed:=by kernel_rfl
 f99:=Tryd.func82.trans (congrArg some (by kernel_rfl))
 f105:=Tryd.func74.trans (congrArg some (by kernel_rfl))
 f165:=Tryd.func83.trans (congrArg some (by kernel_rfl))
 f166:=Tryd.func84.trans (congrArg some (by kernel_rfl))
 f169:=Tryd.func86.trans (congrArg some (by kernel_rfl))
 f170:=Tryd.func85.trans (congrArg some (by kernel_rfl))
 f206:=Tryd.func91.trans (congrArg some (by kernel_rfl))
 f212:=Tryd.func81.trans (congrArg some (by kernel_rfl))
 f240:=Tryd.func92.trans (congrArg some (by kernel_rfl))
 f241:=Tryd.func93.trans (congrArg some (by kernel_rfl))
 f263:=Tryd.func89.trans (congrArg some (by kernel_rfl))
 f264:=Tryd.func90.trans (congrArg some (by kernel_rfl))
 f276:=Tryd.func94.trans (congrArg some (by kernel_rfl))
 f277:=Tryd.func95.trans (congrArg some (by kernel_rfl))
 t0:=Tryd.underlying0
 a0:=Tryd.isAgg0
 z0:=Tryd.sizeOf0
 v0:=Tryd.zeroValue0
 t3:=Tryd.underlying3
 a3:=Tryd.isAgg3
 z3:=Tryd.sizeOf3
 v3:=Tryd.zeroValue3
 t4:=Tryd.underlying4
 a4:=Tryd.isAgg4
 z4:=Tryd.sizeOf4
 v4:=Tryd.zeroValue4
 t5:=Tryd.underlying5
 a5:=Tryd.isAgg5
 z5:=Tryd.sizeOf5
 v5:=Tryd.zeroValue5
 t9:=Tryd.underlying9
 a9:=Tryd.isAgg9
 z9:=Tryd.sizeOf9
 v9:=Tryd.zeroValue9
 t20:=Tryd.underlying20
 a20:=Tryd.isAgg20
 z20:=Tryd.sizeOf20
 v20:=Tryd.zeroValue20
 t37:=Tryd.underlying51
 a37:=Tryd.isAgg51
 z37:=Tryd.sizeOf51
 v37:=Tryd.zeroValue51
 t46:=Tryd.underlying58
 a46:=Tryd.isAgg58
 z46:=Tryd.sizeOf58
 v46:=Tryd.zeroValue58
 t51:=Tryd.underlying114
 a51:=Tryd.isAgg114
 z51:=Tryd.sizeOf114
 v51:=Tryd.zeroValue114
 t53:=Tryd.underlying118
 a53:=Tryd.isAgg118
 z53:=Tryd.sizeOf118
 v53:=Tryd.zeroValue118
 t70:=Tryd.underlying100
 a70:=Tryd.isAgg100
 z70:=Tryd.sizeOf100
 v70:=Tryd.zeroValue100
 t72:=Tryd.underlying102
 a72:=Tryd.isAgg102
 z72:=Tryd.sizeOf102
 v72:=Tryd.zeroValue102
 t75:=Tryd.underlying105
 a75:=Tryd.isAgg105
 z75:=Tryd.sizeOf105
 v75:=Tryd.zeroValue105
 t76:=Tryd.underlying106
 a76:=Tryd.isAgg106
 z76:=Tryd.sizeOf106
 v76:=Tryd.zeroValue106
 t109:=Tryd.underlying97
 a109:=Tryd.isAgg97
 z109:=Tryd.sizeOf97
 v109:=Tryd.zeroValue97
 t127:=Tryd.underlying121
 a127:=Tryd.isAgg121
 z127:=Tryd.sizeOf121
 v127:=Tryd.zeroValue121
 t146:=Tryd.underlying115
 a146:=Tryd.isAgg115
 z146:=Tryd.sizeOf115
 v146:=Tryd.zeroValue115
 t148:=Tryd.underlying119
 a148:=Tryd.isAgg119
 z148:=Tryd.sizeOf119
 v148:=Tryd.zeroValue119
 t164:=Tryd.underlying122
 a164:=Tryd.isAgg122
 z164:=Tryd.sizeOf122
 v164:=Tryd.zeroValue122 }
theorem Tryd.Builder_Extra_105 : Builder.Extra Tryd.prog Tryd.lays105_ren:={
 sizeBuilder:=by kernel_rfl
 liesBuilder:=by kernel_rfl
 t5:=Tryd.underlying5
 a5:=Tryd.isAgg5
 z5:=Tryd.sizeOf5
 v5:=Tryd.zeroValue5
 infoByte:=by kernel_rfl
 cellsByte:=by kernel_rfl
 sizeByte:=by kernel_rfl
 neB5:=by decide }
open Go.RowKit Go.Lib in
theorem Tryd.strings_Repeat (s : ByteArray) (c : Nat) (w : World) (hc : c≤9223372036854775807) (hlen : s.size * c≤140737488355328) :
  Calls Tryd.prog 74 #[.string s,.int .i64 c] w fun e w' => e = .returned (.string ⟨(Lib.repeatL s.data.toList c).toArray⟩)∧Below w.heap.size w w':=Any.strings_Repeat Tryd.lays105 Tryd.Builder_Extra_105 s c w hc hlen
end Go.Proofs
end
section
namespace Go.Proofs.YthjgfjlogilleabDoorW.PrintMore
open Go Go.RowKit Go.Lib Go.Proofs.YthjgfjlogilleabDoorW.PrintWords Go.Proofs.YthjgfjlogilleabDoorW.PrintLast
def pieces (s sep : ByteArray) : List ByteArray:=Lib.splitB sep 0 (Lib.countB s sep) s
set_option maxHeartbeats 1000000 in
theorem split_one (s : ByteArray) (c : UInt8) (w : World) (hs : s.size<4294967281) :
  Calls Tryd.prog 35 #[.string s,.string ⟨#[c]⟩] w fun e w' => ∃ v0_ : Value,e = .returned v0_∧Kd.R Kd.string 9 w' w.heap.size (fun _ => True) v0_ (pieces s ⟨#[c]⟩)∧Below w.heap.size w w':=by
 have L:=Tryd.lays146
 have h1 : 1≤(⟨#[c]⟩ : ByteArray).size:=Nat.le_refl 1
 have hle:=Lib.countB_le ⟨#[c]⟩ h1 s.size s (Nat.le_refl _)
 have hlen:=Lib.splitB_all ⟨#[c]⟩ h1 0 _ s rfl
 have kg:=Any.strings_genSplit_core (P:=Tryd.prog) { L with } (by kernel_rfl) s ⟨#[c]⟩ 0 (-1) (Lib.countB s ⟨#[c]⟩ + 1) w hs h1 (Nat.zero_le _)
  (fun x cc hx => (Any.strings_Index_one { L with } x c _).mono fun e w' ⟨he,hw⟩ => ⟨by rw [he];show _=Ending.returned (Value.int .i64 (Lib.index x.data.toList [c]));rw [Lib.index_one],hw⟩)
  ((Any.strings_Count_one { L with } s c w).mono fun e w' ⟨he,hw⟩ => ⟨by
   rw [he]
   show _=Ending.returned (Value.int .i64 ((Lib.count s.data.toList [c] : Nat) : Int))
   rw [Lib.count_one]
   rfl,hw⟩) (by decide) (by decide) (by rw [if_pos (by decide)];omega)
 rw [Nat.add_sub_cancel,hlen] at kg
 have e2 : Lib.cellsOf (Lib.splitB ⟨#[c]⟩ 0 (Lib.countB s ⟨#[c]⟩) s) (Lib.countB s ⟨#[c]⟩ + 1)=((Lib.splitB ⟨#[c]⟩ 0 (Lib.countB s ⟨#[c]⟩) s).map Value.string).toArray:=by rw [← hlen];exact Lib.cellsOf_full _
 rw [e2] at kg
 have t3:=L.t3;have t9:=L.t9;have t31:=L.t31
 have a3:=L.a3;have a9:=L.a9;have a31:=L.a31
 have z3:=L.z3;have v3:=L.v3;have z9:=L.z9;have v9:=L.v9;have z31:=L.z31;have v31:=L.v31
 have e221 : ∀ args w,(callFunc (Tryd.lays146_ren.f 221) args).run Tryd.prog w = .ok (.enter (Tryd.lays146_ren.f 221) args) w:=enters_of L.f221 (by kernel_rfl) rfl
 have key : Calls Tryd.prog (Tryd.lays146_ren.f 146) #[.string s,.string ⟨#[c]⟩] w fun e w' =>
   e = .returned (.slice (some ⟨w.heap.size,0,none⟩) (Lib.countB s ⟨#[c]⟩ + 1) (Lib.countB s ⟨#[c]⟩ + 1))∧w' = w.alloc (.cells ((Lib.splitB ⟨#[c]⟩ 0 (Lib.countB s ⟨#[c]⟩) s).map Value.string).toArray 9):=by
  go_enter L.f146,Body.n146_ntmps Tryd.lays146_ren
  go_wp2_with (go_at_fn (Tryd.lays146_ren.f 221);refine kg.mono ?_;rintro e w' ⟨rfl,hw⟩;rw [hw])
  go_ret
  exact ⟨rfl,rfl⟩
 refine Calls.mono key ?_
 rintro e w' ⟨rfl,rfl⟩
 refine ⟨_,rfl,?_,below_alloc (Below.refl _ _) _⟩
 have hp : (pieces s ⟨#[c]⟩).length=Lib.countB s ⟨#[c]⟩ + 1:=hlen
 have hm : Lib.countB s ⟨#[c]⟩ + 1≤maxLen:=by unfold maxLen;omega
 have ho:=World.ownsRow_lit (base:=w.heap.size) (e:=9) (size:=1) w ((pieces s ⟨#[c]⟩).map Value.string).toArray (Lib.countB s ⟨#[c]⟩ + 1) (Nat.le_refl _) hm (by simp [hp])
 have ho2 : (w.alloc (.cells ((pieces s ⟨#[c]⟩).map Value.string).toArray 9)).ownsRow w.heap.size 9 1 (.slice (some ⟨w.heap.size,0,none⟩) (Lib.countB s ⟨#[c]⟩ + 1) (Lib.countB s ⟨#[c]⟩ + 1)) (pieces s ⟨#[c]⟩).length (encs Value.string (pieces s ⟨#[c]⟩)):=by
  rw [hp]
  have he : encs Value.string (pieces s ⟨#[c]⟩)=((pieces s ⟨#[c]⟩).map Value.string).toArray.toList:=by simp [encs]
  rw [he];exact ho
 exact Kd.R_of_own ho2 (fun _ _ => trivial)
end Go.Proofs.YthjgfjlogilleabDoorW.PrintMore
end
