/- Texts of this claim, merged by a program of this session. -/
import Derived.Test.YtgifonogfgpjdaaKLawFnRangep11
import Derived.Laws.CopyRow
import Derived.Lib.AppendZerosOnto
import Derived.Lib.Overlaps
import Derived.Lib.JoinLaws
import Derived.Laws.Externs
import Derived.Laws.Tables
import Derived.Shelf.RegionOpenPlain
section
namespace Go.Proofs.YtgifonogfgpjdaaW.PrintMore
open Go Go.RowKit
def mxs (x y : ByteArray) : ByteArray:=if Op.bytesLess x.toList y.toList then y else x
def mns (x y : ByteArray) : ByteArray:=if (Op.bytesLess x.toList y.toList || x.toList == y.toList) then x else y
theorem max2_str (x y : ByteArray) : Builtin.max2 (.string x) (.string y)=pure (.string (mxs x y)):=by
 simp only [Builtin.max2,Op.stringOp,mxs]
 cases h : Op.bytesLess x.toList y.toList <;> simp [asBool]
theorem min2_str (x y : ByteArray) : Builtin.min2 (.string x) (.string y)=pure (.string (mns x y)):=by
 simp only [Builtin.min2,Op.stringOp,mns]
 cases h : (Op.bytesLess x.toList y.toList || x.toList == y.toList) <;> simp [asBool]
theorem bytesLess_total : ∀ x y : List UInt8,(!(Op.bytesLess x y || x == y))=Op.bytesLess y x
 | [],[]=>rfl
 | [],_ :: _=>rfl
 | _ :: _,[]=>rfl
 | a :: x,b :: y=>by
  have ih:=bytesLess_total x y;simp only [Op.bytesLess]
  by_cases h : a=b
  ·
   subst h
   have h1 : (a<a)=False:=eq_false (UInt8.lt_irrefl a);simp only [h1,decide_false,Bool.false_or,beq_self_eq_true,Bool.true_and];rw [← ih]
   by_cases h2 : x=y <;> simp [h2]
  have h1 : (a == b)=false:=by simpa using h
  have h2 : (b == a)=false:=by simpa using fun e=>h e.symm
  have h3 : (a :: x == b :: y)=false:=by simp [h]
  simp only [h1,h2,h3,Bool.false_and,Bool.or_false];have h4 : a.toNat≠b.toNat:=fun e=>h (UInt8.toNat_inj.mp e)
  by_cases h5 : a<b
  ·
   have : ¬ b<a:=by rw [UInt8.lt_iff_toNat_lt] at *;omega
   simp [h5,this]
  have : b<a:=by rw [UInt8.lt_iff_toNat_lt] at *;omega
  simp [h5,this]
theorem str_geq (t : TypeId) (a b : ByteArray) : binOp .geq t (.string a) (.string b)=pure (.bool !(Op.bytesLess a.toList b.toList)):=by simp [binOp,Op.stringOp]
theorem str_gtr (t : TypeId) (a b : ByteArray) : binOp .gtr t (.string a) (.string b)=pure (.bool (Op.bytesLess b.toList a.toList)):=by
 rw [← bytesLess_total];simp [binOp,Op.stringOp]
theorem str_leq (t : TypeId) (a b : ByteArray) : binOp .leq t (.string a) (.string b)=pure (.bool !(Op.bytesLess b.toList a.toList)):=by
 rw [← bytesLess_total];simp [binOp,Op.stringOp]
open Go.Proofs.YtgifonogfgpjdaaW.PrintWords Go.Proofs.YtgifonogfgpjdaaW.PrintLast
section
variable {P : Program} {ops : Array Oper} {o : Oper} {rest : List Oper} {a : Act} {Q : Exit→Act→World→Prop}
end
end Go.Proofs.YtgifonogfgpjdaaW.PrintMore
end
section
namespace Go.Proofs.Ytgifonogfgpjdaa.Row
open Go Go.RowKit Go.Proofs.YtgifonogfgpjdaaW.PrintWords Go.Proofs.YtgifonogfgpjdaaW.PrintLast Go.Proofs.YtgifonogfgpjdaaW.PrintMore
set_option linter.unusedVariables false
set_option linter.unusedSimpArgs false
theorem reps_one {α : Type} {R : α→List Value→Prop} {size : Nat} {p : α} {cs : List Value} (h : R p cs) (hl : cs.length=size) : Reps R size [p] cs:=by
 have:=(Reps.none R size).snoc h hl
 simpa using this
end Go.Proofs.Ytgifonogfgpjdaa.Row
end
