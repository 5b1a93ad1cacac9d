/- Texts of this claim, merged by a program of this session. -/
import Derived.Test.YtdjnplkpahgnmaaKLawFnKeysp11
import Derived.Shelf.Strings.Builder1
import Derived.Shelf.Strings.Builder2
import Derived.Shelf.Strings.BuilderF
import Derived.Shelf.Strings.Prefix
import Derived.Shelf.Bits.Mul64
import Derived.Shelf.Strings.Repeat
import Derived.Test.YtdjnplkpahgnmaaProg
section
namespace Go.Proofs.YtdjnplkpahgnmaaW.PrintMore
open Go Go.RowKit
def mxs (x y : ByteArray) : ByteArray:=if Op.bytesLess x.toList y.toList then y else x
def mns (x y : ByteArray) : ByteArray:=if (Op.bytesLess x.toList y.toList || x.toList == y.toList) then x else y
theorem max2_str (x y : ByteArray) : Builtin.max2 (.string x) (.string y)=pure (.string (mxs x y)):=by
 simp only [Builtin.max2,Op.stringOp,mxs]
 cases h : Op.bytesLess x.toList y.toList <;> simp [asBool]
theorem min2_str (x y : ByteArray) : Builtin.min2 (.string x) (.string y)=pure (.string (mns x y)):=by
 simp only [Builtin.min2,Op.stringOp,mns]
 cases h : (Op.bytesLess x.toList y.toList || x.toList == y.toList) <;> simp [asBool]
theorem bytesLess_total : ∀ x y : List UInt8,(!(Op.bytesLess x y || x == y))=Op.bytesLess y x
 | [],[]=>rfl
 | [],_ :: _=>rfl
 | _ :: _,[]=>rfl
 | a :: x,b :: y=>by
  have ih:=bytesLess_total x y;simp only [Op.bytesLess]
  by_cases h : a=b
  ·
   subst h
   have h1 : (a<a)=False:=eq_false (UInt8.lt_irrefl a);simp only [h1,decide_false,Bool.false_or,beq_self_eq_true,Bool.true_and];rw [← ih]
   by_cases h2 : x=y <;> simp [h2]
  have h1 : (a == b)=false:=by simpa using h
  have h2 : (b == a)=false:=by simpa using fun e=>h e.symm
  have h3 : (a :: x == b :: y)=false:=by simp [h]
  simp only [h1,h2,h3,Bool.false_and,Bool.or_false];have h4 : a.toNat≠b.toNat:=fun e=>h (UInt8.toNat_inj.mp e)
  by_cases h5 : a<b
  ·
   have : ¬ b<a:=by rw [UInt8.lt_iff_toNat_lt] at *;omega
   simp [h5,this]
  have : b<a:=by rw [UInt8.lt_iff_toNat_lt] at *;omega
  simp [h5,this]
theorem str_geq (t : TypeId) (a b : ByteArray) : binOp .geq t (.string a) (.string b)=pure (.bool !(Op.bytesLess a.toList b.toList)):=by simp [binOp,Op.stringOp]
theorem str_gtr (t : TypeId) (a b : ByteArray) : binOp .gtr t (.string a) (.string b)=pure (.bool (Op.bytesLess b.toList a.toList)):=by
 rw [← bytesLess_total];simp [binOp,Op.stringOp]
theorem str_leq (t : TypeId) (a b : ByteArray) : binOp .leq t (.string a) (.string b)=pure (.bool !(Op.bytesLess b.toList a.toList)):=by
 rw [← bytesLess_total];simp [binOp,Op.stringOp]
open Go.Proofs.YtdjnplkpahgnmaaW.PrintWords Go.Proofs.YtdjnplkpahgnmaaW.PrintLast
theorem conv_V {base : Nat} (W : World) (e : TypeId) (s : ByteArray) (hs : s.size≤9223372036854775807) :
  Kd.V (Kd.int .u8) e (Lib.bytesWorld W e s) base (fun k=>W.heap.size≤k) (.slice (some ⟨W.heap.size,0,none⟩) s.size (grownCap W s.size 0 e)) (bytesOf s):=by
 have hl : (bytesOf s).length=s.size:=bytesOf_length s;refine ⟨some ⟨W.heap.size,0,none⟩,grownCap W s.size 0 e,by rw [hl],by rw [hl];exact grownCap_ge W s.size 0 e,fun W2 h2=>?_⟩;have hr:=bytes_reads W e s hs;have hat : W2.heap[W.heap.size]? = (Lib.bytesWorld W e s).heap[W.heap.size]?:=h2 _ (Nat.le_refl _) (by rw [Lib.bytesWorld_size];omega);refine ⟨rfl,by rw [hl];exact hs,fun hn=>⟨_,rfl,fun j p hj=>⟨[.int .u8 p],rfl,rfl,fun i u hu=>?_⟩⟩⟩;obtain ⟨hjl,hp⟩:=List.getElem?_eq_some_iff.1 hj
 have hi : i=0:=by
  have:=(List.getElem?_eq_some_iff.1 hu).1;simp at this;exact this
 subst hi;obtain rfl : Value.int .u8 p=u:=by simpa using hu
 obtain ⟨ad,hade,hcell⟩:=hr.2.2 (by omega);obtain rfl:=Option.some.inj hade;have h3:=hcell j (by omega);have h4 : (bytesOf s).getD j 0=p:=by rw [List.getD_eq_getElem?_getD,hj];rfl
 rw [h4,add_plain] at h3;show W2.cell? (Addr.add ⟨W.heap.size,0,none⟩ (j*1+0))=_;rw [add_plain,Nat.mul_one,Nat.add_zero];unfold World.cell? at h3 ⊢;rw [hat];exact h3
section
variable {P : Program} {ops : Array Oper} {o : Oper} {rest : List Oper} {a : Act} {Q : Exit→Act→World→Prop}
theorem conv_event {W : World} {base : Nat} (hgd : o.guard=none) {N : Tmp} (_hd : o.dst=some N) (src dst e : TypeId) {x : Operand} (s : ByteArray) (ho : o.op = .convert src dst x) (hx : a.eval x = .string s)
  {u : TypeDesc} (hs : P.underlying src=some u) (hdst : P.underlying dst=some (.slice e)) (he : P.underlying e=some (.int .u8)) (hsz : s.size≤9223372036854775807)
  (h : ∀ v w1,Kd.V (Kd.int .u8) e w1 base (fun k=>W.heap.size≤k) v (bytesOf s)→Below W.heap.size W w1→wpList P ops Q rest (a.put o.dst v) w1) : wpList P ops Q (o :: rest) a W:=by
 refine Kd.event_run hgd ?_ (h _ _ (conv_V W e s hsz) (bytes_below (Below.refl _ _) (Nat.le_refl _) e s));unfold execOp;rw [ho];simp [hx,print_bytes src dst e hs hdst he s W]
end
end Go.Proofs.YtdjnplkpahgnmaaW.PrintMore
end
section
namespace Go.Proofs
open Go.Shelf
def Try.lays105_ren : Go.Shelf.Ren:=⟨fun|105=>71|212=>76|99=>77|165=>78|166=>79|170=>80|169=>81|263=>85|264=>86|206=>87|240=>88|241=>89|276=>94|277=>95|n=>n,fun|9=>9|3=>3|4=>4|20=>20|0=>0|46=>93|109=>94|5=>5|72=>99|76=>103|51=>107|146=>108|53=>110|148=>111|70=>97|37=>22|75=>102|127=>113|164=>115|80=>105|n=>n,fun|n=>n⟩
theorem Try.lays105 : Go.Proofs.Lays.n105 Try.prog Try.lays105_ren:={
 mixed:=by kernel_rfl
 f99:=Try.func77.trans (congrArg some (by kernel_rfl))
 f105:=Try.func71.trans (congrArg some (by kernel_rfl))
 f165:=Try.func78.trans (congrArg some (by kernel_rfl))
 f166:=Try.func79.trans (congrArg some (by kernel_rfl))
 f169:=Try.func81.trans (congrArg some (by kernel_rfl))
 f170:=Try.func80.trans (congrArg some (by kernel_rfl))
 f206:=Try.func87.trans (congrArg some (by kernel_rfl))
 f212:=Try.func76.trans (congrArg some (by kernel_rfl))
 f240:=Try.func88.trans (congrArg some (by kernel_rfl))
 f241:=Try.func89.trans (congrArg some (by kernel_rfl))
 f263:=Try.func85.trans (congrArg some (by kernel_rfl))
 f264:=Try.func86.trans (congrArg some (by kernel_rfl))
 f276:=Try.func94.trans (congrArg some (by kernel_rfl))
 f277:=Try.func95.trans (congrArg some (by kernel_rfl))
 t0:=Try.underlying0
 a0:=Try.isAgg0
 z0:=Try.sizeOf0
 v0:=Try.zeroValue0
 t3:=Try.underlying3
 a3:=Try.isAgg3
 z3:=Try.sizeOf3
 v3:=Try.zeroValue3
 t4:=Try.underlying4
 a4:=Try.isAgg4
 z4:=Try.sizeOf4
 v4:=Try.zeroValue4
 t5:=Try.underlying5
 a5:=Try.isAgg5
 z5:=Try.sizeOf5
 v5:=Try.zeroValue5
 t9:=Try.underlying9
 a9:=Try.isAgg9
 z9:=Try.sizeOf9
 v9:=Try.zeroValue9
 t20:=Try.underlying20
 a20:=Try.isAgg20
 z20:=Try.sizeOf20
 v20:=Try.zeroValue20
 t37:=Try.underlying22
 a37:=Try.isAgg22
 z37:=Try.sizeOf22
 v37:=Try.zeroValue22
 t46:=Try.underlying93
 a46:=Try.isAgg93
 z46:=Try.sizeOf93
 v46:=Try.zeroValue93
 t51:=Try.underlying107
 a51:=Try.isAgg107
 z51:=Try.sizeOf107
 v51:=Try.zeroValue107
 t53:=Try.underlying110
 a53:=Try.isAgg110
 z53:=Try.sizeOf110
 v53:=Try.zeroValue110
 t70:=Try.underlying97
 a70:=Try.isAgg97
 z70:=Try.sizeOf97
 v70:=Try.zeroValue97
 t72:=Try.underlying99
 a72:=Try.isAgg99
 z72:=Try.sizeOf99
 v72:=Try.zeroValue99
 t75:=Try.underlying102
 a75:=Try.isAgg102
 z75:=Try.sizeOf102
 v75:=Try.zeroValue102
 t76:=Try.underlying103
 a76:=Try.isAgg103
 z76:=Try.sizeOf103
 v76:=Try.zeroValue103
 t109:=Try.underlying94
 a109:=Try.isAgg94
 z109:=Try.sizeOf94
 v109:=Try.zeroValue94
 t127:=Try.underlying113
 a127:=Try.isAgg113
 z127:=Try.sizeOf113
 v127:=Try.zeroValue113
 t146:=Try.underlying108
 a146:=Try.isAgg108
 z146:=Try.sizeOf108
 v146:=Try.zeroValue108
 t148:=Try.underlying111
 a148:=Try.isAgg111
 z148:=Try.sizeOf111
 v148:=Try.zeroValue111
 t164:=Try.underlying115
 a164:=Try.isAgg115
 z164:=Try.sizeOf115
 v164:=Try.zeroValue115 }
theorem Try.Builder_Extra_105 : Builder.Extra Try.prog Try.lays105_ren:={
 sizeBuilder:=by kernel_rfl
 liesBuilder:=by kernel_rfl
 t5:=Try.underlying5
 a5:=Try.isAgg5
 z5:=Try.sizeOf5
 v5:=Try.zeroValue5
 infoByte:=by kernel_rfl
 cellsByte:=by kernel_rfl
 sizeByte:=by kernel_rfl
 neB5:=by decide }
open Go.RowKit Go.Lib in
theorem Try.strings_Repeat (s : ByteArray) (c : Nat) (w : World) (hc : c≤9223372036854775807) (hlen : s.size*c≤140737488355328) :
  Calls Try.prog 71 #[.string s,.int .i64 c] w fun e w' => e = .returned (.string ⟨(Lib.repeatL s.data.toList c).toArray⟩)∧Below w.heap.size w w':=Any.strings_Repeat Try.lays105 Try.Builder_Extra_105 s c w hc hlen
end Go.Proofs
end
