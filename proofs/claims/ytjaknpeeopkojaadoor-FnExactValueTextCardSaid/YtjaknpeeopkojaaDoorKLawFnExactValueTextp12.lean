/- Texts of this claim, merged by a program of this session. -/
import Derived.Test.YtjaknpeeopkojaaDoorKLawFnExactValueTextp11
import Derived.Shelf.Strings.Builder1
import Derived.Shelf.Strings.Builder2
import Derived.Shelf.Strings.OnBuilder
import Derived.Shelf.Small.Wraps
import Derived.Shelf.Strings.BuilderF
import Derived.Shelf.Strings.BuilderK
import Derived.Shelf.Strings.Builder2Cap
import Derived.Shelf.Strconv.Itoa0
import Derived.Shelf.Strconv.Itoa1
import Derived.Shelf.LaysM
import Derived.Shelf.Strconv.Itoa2
import Derived.Shelf.Strconv.Itoa3
import Derived.Shelf.Strings.Prefix
import Derived.Shelf.Bits.Mul64
import Derived.Shelf.Strings.Repeat
import Derived.Shelf.Strings.BuilderCap
import Derived.Test.YtjaknpeeopkojaaDoorProg
import Derived.Lib.AppendIntMem
section
namespace Go.Proofs.YtjaknpeeopkojaaDoorW.PrintMore
open Go Go.RowKit
def mxs (x y : ByteArray) : ByteArray:=if Op.bytesLess x.toList y.toList then y else x
def mns (x y : ByteArray) : ByteArray:=if (Op.bytesLess x.toList y.toList || x.toList == y.toList) then x else y
theorem max2_str (x y : ByteArray) : Builtin.max2 (.string x) (.string y)=pure (.string (mxs x y)):=by
 simp only [Builtin.max2,Op.stringOp,mxs]
 cases h : Op.bytesLess x.toList y.toList <;> simp [asBool]
theorem min2_str (x y : ByteArray) : Builtin.min2 (.string x) (.string y)=pure (.string (mns x y)):=by
 simp only [Builtin.min2,Op.stringOp,mns]
 cases h : (Op.bytesLess x.toList y.toList || x.toList == y.toList) <;> simp [asBool]
theorem bytesLess_total : ∀ x y : List UInt8,(!(Op.bytesLess x y || x == y))=Op.bytesLess y x
 | [],[] => rfl
 | [],_ :: _ => rfl
 | _ :: _,[] => rfl
 | a :: x,b :: y => by
  have ih:=bytesLess_total x y;simp only [Op.bytesLess]
  by_cases h : a=b
  ·
   subst h
   have h1 : (a<a)=False:=eq_false (UInt8.lt_irrefl a);simp only [h1,decide_false,Bool.false_or,beq_self_eq_true,Bool.true_and];rw [← ih]
   by_cases h2 : x=y <;> simp [h2]
  have h1 : (a == b)=false:=by simpa using h
  have h2 : (b == a)=false:=by simpa using fun e => h e.symm
  have h3 : (a :: x == b :: y)=false:=by simp [h]
  simp only [h1,h2,h3,Bool.false_and,Bool.or_false];have h4 : a.toNat≠b.toNat:=fun e => h (UInt8.toNat_inj.mp e)
  by_cases h5 : a<b
  ·
   have : ¬ b<a:=by rw [UInt8.lt_iff_toNat_lt] at *;omega
   simp [h5,this]
  have : b<a:=by rw [UInt8.lt_iff_toNat_lt] at *;omega
  simp [h5,this]
theorem str_geq (t : TypeId) (a b : ByteArray) : binOp .geq t (.string a) (.string b)=pure (.bool !(Op.bytesLess a.toList b.toList)):=by simp [binOp,Op.stringOp]
theorem str_gtr (t : TypeId) (a b : ByteArray) : binOp .gtr t (.string a) (.string b)=pure (.bool (Op.bytesLess b.toList a.toList)):=by
 rw [← bytesLess_total];simp [binOp,Op.stringOp]
theorem str_leq (t : TypeId) (a b : ByteArray) : binOp .leq t (.string a) (.string b)=pure (.bool !(Op.bytesLess b.toList a.toList)):=by
 rw [← bytesLess_total];simp [binOp,Op.stringOp]
open Go.Proofs.YtjaknpeeopkojaaDoorW.PrintWords Go.Proofs.YtjaknpeeopkojaaDoorW.PrintLast
theorem conv_V {base : Nat} (W : World) (e : TypeId) (s : ByteArray) (hs : s.size≤9223372036854775807) :
  Kd.V (Kd.int .u8) e (Lib.bytesWorld W e s) base (fun k => W.heap.size≤k) (.slice (some ⟨W.heap.size,0,none⟩) s.size (grownCap W s.size 0 e)) (bytesOf s):=by
 have hl : (bytesOf s).length=s.size:=bytesOf_length s;refine ⟨some ⟨W.heap.size,0,none⟩,grownCap W s.size 0 e,by rw [hl],by rw [hl];exact grownCap_ge W s.size 0 e,fun W2 h2 => ?_⟩;have hr:=bytes_reads W e s hs;have hat : W2.heap[W.heap.size]? = (Lib.bytesWorld W e s).heap[W.heap.size]?:=h2 _ (Nat.le_refl _) (by rw [Lib.bytesWorld_size];omega);refine ⟨rfl,by rw [hl];exact hs,fun hn => ⟨_,rfl,fun j p hj => ⟨[.int .u8 p],rfl,rfl,fun i u hu => ?_⟩⟩⟩;obtain ⟨hjl,hp⟩:=List.getElem?_eq_some_iff.1 hj
 have hi : i=0:=by
  have:=(List.getElem?_eq_some_iff.1 hu).1;simp at this;exact this
 subst hi;obtain rfl : Value.int .u8 p=u:=by simpa using hu
 obtain ⟨ad,hade,hcell⟩:=hr.2.2 (by omega);obtain rfl:=Option.some.inj hade;have h3:=hcell j (by omega);have h4 : (bytesOf s).getD j 0=p:=by rw [List.getD_eq_getElem?_getD,hj];rfl
 rw [h4,add_plain] at h3;show W2.cell? (Addr.add ⟨W.heap.size,0,none⟩ (j * 1 + 0))=_;rw [add_plain,Nat.mul_one,Nat.add_zero];unfold World.cell? at h3 ⊢;rw [hat];exact h3
section
variable {P : Program} {ops : Array Oper} {o : Oper} {rest : List Oper} {a : Act} {Q : Exit→Act→World→Prop}
theorem conv_event {W : World} {base : Nat} (hgd : o.guard=none) {N : Tmp} (_hd : o.dst=some N) (src dst e : TypeId) {x : Operand} (s : ByteArray) (ho : o.op = .convert src dst x) (hx : a.eval x = .string s)
  {u : TypeDesc} (hs : P.underlying src=some u) (hdst : P.underlying dst=some (.slice e)) (he : P.underlying e=some (.int .u8)) (hsz : s.size≤9223372036854775807)
  (h : ∀ v w1,Kd.V (Kd.int .u8) e w1 base (fun k => W.heap.size≤k) v (bytesOf s)→Below W.heap.size W w1→wpList P ops Q rest (a.put o.dst v) w1) : wpList P ops Q (o :: rest) a W:=by
 refine Kd.event_run hgd ?_ (h _ _ (conv_V W e s hsz) (bytes_below (Below.refl _ _) (Nat.le_refl _) e s));unfold execOp;rw [ho];simp [hx,print_bytes src dst e hs hdst he s W]
end
end Go.Proofs.YtjaknpeeopkojaaDoorW.PrintMore
end
section
namespace Go.Proofs
open Go.Shelf
def Tryd.lays156_ren : Go.Shelf.Ren:=⟨fun|156 => 21|165 => 34|166 => 35|169 => 36|240 => 44|241 => 45|276 => 54|277 => 55|n => n,fun|31 => 33|9 => 9|3 => 3|4 => 4|0 => 0|20 => 20|72 => 60|76 => 64|70 => 58|37 => 49|75 => 63|127 => 71|164 => 80|5 => 5|80 => 66|n => n,fun|n => n⟩
theorem Tryd.lays156 : Go.Proofs.Lays.n156 Tryd.prog Tryd.lays156_ren:={
 mixed:=by kernel_rfl
 f156:=Tryd.func21.trans (congrArg some (by kernel_rfl))
 f165:=Tryd.func34.trans (congrArg some (by kernel_rfl))
 f166:=Tryd.func35.trans (congrArg some (by kernel_rfl))
 f169:=Tryd.func36.trans (congrArg some (by kernel_rfl))
 f240:=Tryd.func44.trans (congrArg some (by kernel_rfl))
 f241:=Tryd.func45.trans (congrArg some (by kernel_rfl))
 f276:=Tryd.func54.trans (congrArg some (by kernel_rfl))
 f277:=Tryd.func55.trans (congrArg some (by kernel_rfl))
 t0:=Tryd.underlying0
 a0:=Tryd.isAgg0
 z0:=Tryd.sizeOf0
 v0:=Tryd.zeroValue0
 t3:=Tryd.underlying3
 a3:=Tryd.isAgg3
 z3:=Tryd.sizeOf3
 v3:=Tryd.zeroValue3
 t4:=Tryd.underlying4
 a4:=Tryd.isAgg4
 z4:=Tryd.sizeOf4
 v4:=Tryd.zeroValue4
 t9:=Tryd.underlying9
 a9:=Tryd.isAgg9
 z9:=Tryd.sizeOf9
 v9:=Tryd.zeroValue9
 t20:=Tryd.underlying20
 a20:=Tryd.isAgg20
 z20:=Tryd.sizeOf20
 v20:=Tryd.zeroValue20
 t31:=Tryd.underlying33
 a31:=Tryd.isAgg33
 z31:=Tryd.sizeOf33
 v31:=Tryd.zeroValue33
 t37:=Tryd.underlying49
 a37:=Tryd.isAgg49
 z37:=Tryd.sizeOf49
 v37:=Tryd.zeroValue49
 t70:=Tryd.underlying58
 a70:=Tryd.isAgg58
 z70:=Tryd.sizeOf58
 v70:=Tryd.zeroValue58
 t72:=Tryd.underlying60
 a72:=Tryd.isAgg60
 z72:=Tryd.sizeOf60
 v72:=Tryd.zeroValue60
 t75:=Tryd.underlying63
 a75:=Tryd.isAgg63
 z75:=Tryd.sizeOf63
 v75:=Tryd.zeroValue63
 t76:=Tryd.underlying64
 a76:=Tryd.isAgg64
 z76:=Tryd.sizeOf64
 v76:=Tryd.zeroValue64
 t127:=Tryd.underlying71
 a127:=Tryd.isAgg71
 z127:=Tryd.sizeOf71
 v127:=Tryd.zeroValue71
 t164:=Tryd.underlying80
 a164:=Tryd.isAgg80
 z164:=Tryd.sizeOf80
 v164:=Tryd.zeroValue80 }
theorem Tryd.Builder_Extra_156 : Builder.Extra Tryd.prog Tryd.lays156_ren:={
 sizeBuilder:=by kernel_rfl
 liesBuilder:=by kernel_rfl
 t5:=Tryd.underlying5
 a5:=Tryd.isAgg5
 z5:=Tryd.sizeOf5
 v5:=Tryd.zeroValue5
 infoByte:=by kernel_rfl
 cellsByte:=by kernel_rfl
 sizeByte:=by kernel_rfl
 neB5:=by decide }
open Go.RowKit in
theorem Tryd.strings_Join (bk o c : Nat) (xs : List ByteArray) (sep : ByteArray) (w : World) (hcells : ∀ (j : Nat) x,xs[j]? = some x→w.cell? ⟨bk,o + j,none⟩=some (.string x)) (hbk : bk<w.heap.size) (hN : xs.length≤140737488355328) (hcap : xs.length≤c) (hlen : (Lib.join (xs.map (·.data.toList)) sep.data.toList).length≤140737488355328) :
  Calls Tryd.prog 21 #[.slice (some ⟨bk,o,none⟩) xs.length c,.string sep] w fun e w' => e = .returned (.string ⟨(Lib.join (xs.map (·.data.toList)) sep.data.toList).toArray⟩)∧Below w.heap.size w w':=Any.strings_Join Tryd.lays156 Tryd.Builder_Extra_156 bk o c xs sep w hcells hbk hN hcap hlen
def Tryd.laysM171_ren : Go.Shelf.Ren:=⟨fun|171 => 19|243 => 32|246 => 43|283 => 50|284 => 51|285 => 52|286 => 53|129 => 64|317 => 63|318 => 65|319 => 66|320 => 67|337 => 71|338 => 72|n => n,fun|3 => 3|9 => 9|2 => 2|4 => 4|171 => 74|0 => 0|53 => 75|37 => 49|5 => 5|173 => 78|212 => 90|51 => 91|20 => 20|213 => 92|46 => 83|232 => 99|233 => 100|n => n,fun|17 => 0|18 => 2|19 => 3|n => n⟩
theorem Tryd.laysM171 : Go.Proofs.LaysM.n171 Tryd.prog Tryd.laysM171_ren:={
 mixed:=by kernel_rfl
 f129:=Tryd.func64.trans (congrArg some (by kernel_rfl))
 f171:=Tryd.func19.trans (congrArg some (by kernel_rfl))
 f243:=Tryd.func32.trans (congrArg some (by kernel_rfl))
 f246:=Tryd.func43.trans (congrArg some (by kernel_rfl))
 f283:=Tryd.func50.trans (congrArg some (by kernel_rfl))
 f284:=Tryd.func51.trans (congrArg some (by kernel_rfl))
 f285:=Tryd.func52.trans (congrArg some (by kernel_rfl))
 f286:=Tryd.func53.trans (congrArg some (by kernel_rfl))
 f317:=Tryd.func63.trans (congrArg some (by kernel_rfl))
 f318:=Tryd.func65.trans (congrArg some (by kernel_rfl))
 f319:=Tryd.func66.trans (congrArg some (by kernel_rfl))
 f320:=Tryd.func67.trans (congrArg some (by kernel_rfl))
 f337:=Tryd.func71.trans (congrArg some (by kernel_rfl))
 f338:=Tryd.func72.trans (congrArg some (by kernel_rfl))
 t0:=Tryd.underlying0
 a0:=Tryd.isAgg0
 z0:=Tryd.sizeOf0
 v0:=Tryd.zeroValue0
 t2:=Tryd.underlying2
 a2:=Tryd.isAgg2
 z2:=Tryd.sizeOf2
 v2:=Tryd.zeroValue2
 t3:=Tryd.underlying3
 a3:=Tryd.isAgg3
 z3:=Tryd.sizeOf3
 v3:=Tryd.zeroValue3
 t4:=Tryd.underlying4
 a4:=Tryd.isAgg4
 z4:=Tryd.sizeOf4
 v4:=Tryd.zeroValue4
 t5:=Tryd.underlying5
 a5:=Tryd.isAgg5
 z5:=Tryd.sizeOf5
 v5:=Tryd.zeroValue5
 t9:=Tryd.underlying9
 a9:=Tryd.isAgg9
 z9:=Tryd.sizeOf9
 v9:=Tryd.zeroValue9
 t20:=Tryd.underlying20
 a20:=Tryd.isAgg20
 z20:=Tryd.sizeOf20
 v20:=Tryd.zeroValue20
 t37:=Tryd.underlying49
 a37:=Tryd.isAgg49
 z37:=Tryd.sizeOf49
 v37:=Tryd.zeroValue49
 t46:=Tryd.underlying83
 a46:=Tryd.isAgg83
 z46:=Tryd.sizeOf83
 v46:=Tryd.zeroValue83
 t51:=Tryd.underlying91
 a51:=Tryd.isAgg91
 z51:=Tryd.sizeOf91
 v51:=Tryd.zeroValue91
 t53:=Tryd.underlying75
 a53:=Tryd.isAgg75
 z53:=Tryd.sizeOf75
 v53:=Tryd.zeroValue75
 t171:=Tryd.underlying74
 a171:=Tryd.isAgg74
 z171:=Tryd.sizeOf74
 v171:=Tryd.zeroValue74
 t173:=Tryd.underlying78
 a173:=Tryd.isAgg78
 z173:=Tryd.sizeOf78
 v173:=Tryd.zeroValue78
 t212:=Tryd.underlying90
 a212:=Tryd.isAgg90
 z212:=Tryd.sizeOf90
 v212:=Tryd.zeroValue90
 t213:=Tryd.underlying92
 a213:=Tryd.isAgg92
 z213:=Tryd.sizeOf92
 t232:=Tryd.underlying99
 a232:=Tryd.isAgg99
 z232:=Tryd.sizeOf99
 v232:=Tryd.zeroValue99
 t233:=Tryd.underlying100
 a233:=Tryd.isAgg100
 z233:=Tryd.sizeOf100
 v233:=Tryd.zeroValue100
 g17:=by kernel_rfl
 g18:=by kernel_rfl
 g19:=by kernel_rfl
 i0:=by kernel_rfl
 i2:=by kernel_rfl
 i3:=by kernel_rfl
 i4:=by kernel_rfl
 i5:=by kernel_rfl
 i9:=by kernel_rfl
 i20:=by kernel_rfl
 i37:=by kernel_rfl
 i46:=by kernel_rfl
 i51:=by kernel_rfl
 i53:=by kernel_rfl
 i171:=by kernel_rfl
 i173:=by kernel_rfl
 i212:=by kernel_rfl
 i232:=by kernel_rfl
 i233:=by kernel_rfl
 m17:=by kernel_rfl
 m18:=by kernel_rfl
 m19:=by kernel_rfl }
open Go.RowKit Go.Sort Go.Lib in
theorem Tryd.strconv_Itoa (n : Int) (h0 : -9223372036854775808 ≤ n) (h1 : n ≤ 9223372036854775807) (w : World) (htab : Lib.TabIs Tryd.prog w "internal/strconv.uint64pow10" .u64 Lib.pow10Tab) :
  Calls Tryd.prog 19 #[.int .i64 n] w fun e w' => e = .returned (.string ⟨(Lib.itoa n).toArray⟩) ∧ ∃ k os,w' = grow (w.drewN k) os:=Any.strconv_Itoa Tryd.laysM171 n h0 h1 w htab
def Tryd.lays105_ren : Go.Shelf.Ren:=⟨fun|105 => 46|212 => 56|99 => 57|165 => 34|166 => 35|170 => 58|169 => 36|263 => 68|264 => 69|206 => 70|240 => 44|241 => 45|276 => 54|277 => 55|n => n,fun|9 => 9|3 => 3|4 => 4|20 => 20|0 => 0|46 => 83|109 => 84|5 => 5|72 => 60|76 => 64|51 => 91|146 => 94|53 => 75|148 => 96|70 => 58|37 => 49|75 => 63|127 => 71|164 => 80|80 => 66|n => n,fun|n => n⟩
theorem Tryd.lays105 : Go.Proofs.Lays.n105 Tryd.prog Tryd.lays105_ren:={
 mixed:=by kernel_rfl
 f99:=Tryd.func57.trans (congrArg some (by kernel_rfl))
 f105:=Tryd.func46.trans (congrArg some (by kernel_rfl))
 f165:=Tryd.func34.trans (congrArg some (by kernel_rfl))
 f166:=Tryd.func35.trans (congrArg some (by kernel_rfl))
 f169:=Tryd.func36.trans (congrArg some (by kernel_rfl))
 f170:=Tryd.func58.trans (congrArg some (by kernel_rfl))
 f206:=Tryd.func70.trans (congrArg some (by kernel_rfl))
 f212:=Tryd.func56.trans (congrArg some (by kernel_rfl))
 f240:=Tryd.func44.trans (congrArg some (by kernel_rfl))
 f241:=Tryd.func45.trans (congrArg some (by kernel_rfl))
 f263:=Tryd.func68.trans (congrArg some (by kernel_rfl))
 f264:=Tryd.func69.trans (congrArg some (by kernel_rfl))
 f276:=Tryd.func54.trans (congrArg some (by kernel_rfl))
 f277:=Tryd.func55.trans (congrArg some (by kernel_rfl))
 t0:=Tryd.underlying0
 a0:=Tryd.isAgg0
 z0:=Tryd.sizeOf0
 v0:=Tryd.zeroValue0
 t3:=Tryd.underlying3
 a3:=Tryd.isAgg3
 z3:=Tryd.sizeOf3
 v3:=Tryd.zeroValue3
 t4:=Tryd.underlying4
 a4:=Tryd.isAgg4
 z4:=Tryd.sizeOf4
 v4:=Tryd.zeroValue4
 t5:=Tryd.underlying5
 a5:=Tryd.isAgg5
 z5:=Tryd.sizeOf5
 v5:=Tryd.zeroValue5
 t9:=Tryd.underlying9
 a9:=Tryd.isAgg9
 z9:=Tryd.sizeOf9
 v9:=Tryd.zeroValue9
 t20:=Tryd.underlying20
 a20:=Tryd.isAgg20
 z20:=Tryd.sizeOf20
 v20:=Tryd.zeroValue20
 t37:=Tryd.underlying49
 a37:=Tryd.isAgg49
 z37:=Tryd.sizeOf49
 v37:=Tryd.zeroValue49
 t46:=Tryd.underlying83
 a46:=Tryd.isAgg83
 z46:=Tryd.sizeOf83
 v46:=Tryd.zeroValue83
 t51:=Tryd.underlying91
 a51:=Tryd.isAgg91
 z51:=Tryd.sizeOf91
 v51:=Tryd.zeroValue91
 t53:=Tryd.underlying75
 a53:=Tryd.isAgg75
 z53:=Tryd.sizeOf75
 v53:=Tryd.zeroValue75
 t70:=Tryd.underlying58
 a70:=Tryd.isAgg58
 z70:=Tryd.sizeOf58
 v70:=Tryd.zeroValue58
 t72:=Tryd.underlying60
 a72:=Tryd.isAgg60
 z72:=Tryd.sizeOf60
 v72:=Tryd.zeroValue60
 t75:=Tryd.underlying63
 a75:=Tryd.isAgg63
 z75:=Tryd.sizeOf63
 v75:=Tryd.zeroValue63
 t76:=Tryd.underlying64
 a76:=Tryd.isAgg64
 z76:=Tryd.sizeOf64
 v76:=Tryd.zeroValue64
 t109:=Tryd.underlying84
 a109:=Tryd.isAgg84
 z109:=Tryd.sizeOf84
 v109:=Tryd.zeroValue84
 t127:=Tryd.underlying71
 a127:=Tryd.isAgg71
 z127:=Tryd.sizeOf71
 v127:=Tryd.zeroValue71
 t146:=Tryd.underlying94
 a146:=Tryd.isAgg94
 z146:=Tryd.sizeOf94
 v146:=Tryd.zeroValue94
 t148:=Tryd.underlying96
 a148:=Tryd.isAgg96
 z148:=Tryd.sizeOf96
 v148:=Tryd.zeroValue96
 t164:=Tryd.underlying80
 a164:=Tryd.isAgg80
 z164:=Tryd.sizeOf80
 v164:=Tryd.zeroValue80 }
theorem Tryd.Builder_Extra_105 : Builder.Extra Tryd.prog Tryd.lays105_ren:={
 sizeBuilder:=by kernel_rfl
 liesBuilder:=by kernel_rfl
 t5:=Tryd.underlying5
 a5:=Tryd.isAgg5
 z5:=Tryd.sizeOf5
 v5:=Tryd.zeroValue5
 infoByte:=by kernel_rfl
 cellsByte:=by kernel_rfl
 sizeByte:=by kernel_rfl
 neB5:=by decide }
open Go.RowKit Go.Lib in
theorem Tryd.strings_Repeat (s : ByteArray) (c : Nat) (w : World) (hc : c≤9223372036854775807) (hlen : s.size * c≤140737488355328) :
  Calls Tryd.prog 46 #[.string s,.int .i64 c] w fun e w' => e = .returned (.string ⟨(Lib.repeatL s.data.toList c).toArray⟩)∧Below w.heap.size w w':=Any.strings_Repeat Tryd.lays105 Tryd.Builder_Extra_105 s c w hc hlen
end Go.Proofs
end
section
namespace Go.Proofs.YtjaknpeeopkojaaDoorW.PrintMore
set_option linter.unusedVariables false
open Go Go.RowKit Go.Lib Go.Proofs.YtjaknpeeopkojaaDoorW.PrintWords Go.Proofs.YtjaknpeeopkojaaDoorW.PrintLast
abbrev Pow10 (w : World) : Prop := Lib.TabIs Tryd.prog w "internal/strconv.uint64pow10" .u64 Lib.pow10Tab
theorem powVar : Tryd.prog.globalNamed "internal/strconv.uint64pow10" = some 0 := by kernel_rfl
theorem Pow10.below {w w' : World} (h : Pow10 w) (hb : Below w.heap.size w w') : Pow10 w':=by
 unfold Pow10 Lib.TabIs World.var? at h ⊢
 rw [powVar] at h ⊢
 simp only [Option.bind_some] at h ⊢
 have hlt : 0<w.heap.size:=by
  rcases Nat.lt_or_ge 0 w.heap.size with h'|h'
  ·
   exact h'
  ·
   rw [Array.getElem?_eq_none h'] at h;cases h
 rw [hb.block 0 hlt]
 exact h
theorem itoa_below (n : Int) (h0 : -9223372036854775808≤n) (h1 : n≤9223372036854775807) (w : World) (htab : Pow10 w) :
  Calls Tryd.prog 19 #[.int .i64 n] w fun e w' => e = .returned (.string ⟨(Lib.itoa n).toArray⟩)∧Below w.heap.size w w' :=
 (Tryd.strconv_Itoa n h0 h1 w htab).mono fun e w' ⟨he,k,os,hw⟩ => ⟨he,hw ▸ below_grow _ w (Nat.le_refl _) k os⟩
theorem join_row (A0 : Option Addr) (c0 : Nat) (l0 : List ByteArray) (sep : ByteArray) (w : World) (hr0 : Kd.C Kd.string w A0 l0.length l0) (hc0 : l0.length≤c0) (hN : l0.length≤140737488355328)
  (hlen : (Lib.join (l0.map (·.data.toList)) sep.data.toList).length≤140737488355328) :
  Calls Tryd.prog 21 #[.slice A0 l0.length c0,.string sep] w fun e w' => e = .returned (.string ⟨(Lib.join (l0.map (·.data.toList)) sep.data.toList).toArray⟩)∧Below w.heap.size w w':=by
 cases l0 with
 | nil => exact (Any.strings_Join_none Tryd.lays156 Tryd.Builder_Extra_156 A0 c0 sep w).mono fun e w' ⟨he,hw⟩ => ⟨he,hw ▸ Below.refl _ _⟩
 | cons x xs =>
  have hat : ∀ (j : Nat) y,(x :: xs)[j]? = some y → ∃ ad,A0=some ad∧w.cell? (ad.add j)=some (.string y):=fun j y hy => by
   have hlt:=(List.getElem?_eq_some_iff.1 hy).1
   obtain ⟨ad,h1,h2⟩:=Kd.at_string hr0 (j : Int) (by omega) (by omega)
   refine ⟨ad,h1,?_⟩
   have e : rdOf ByteArray.empty (x :: xs) (j : Int)=y:=by unfold rdOf;rw [Int.toNat_natCast,List.getD_eq_getElem?_getD,hy];rfl
   rw [e,Int.toNat_natCast] at h2
   exact h2
  obtain ⟨⟨bk,o,sp⟩,rfl,h0⟩:=hat 0 x rfl
  have e0 : (⟨bk,o,sp⟩ : Addr).add 0=⟨bk,o,sp⟩:=rfl
  rw [e0] at h0
  have hsp : sp=none:=by
   cases sp with
   | none => rfl
   | some z =>
    unfold World.cell? at h0
    split at h0
    ·
     simp at h0
    ·
     cases h0
  subst hsp
  have hbk:=World.block_lt_of_cell? _ _ h0
  refine Tryd.strings_Join bk o c0 (x :: xs) sep w (fun j y hy => ?_) hbk hN hc0 hlen
  obtain ⟨ad,h1,h2⟩:=hat j y hy
  obtain rfl:=Option.some.inj h1
  rw [← h2]
  unfold Addr.add
  split
  ·
   rename_i hz;subst hz;rfl
  ·
   rfl
end Go.Proofs.YtjaknpeeopkojaaDoorW.PrintMore
end
