/- Arguments of the laws' types can be told as plain values. -/
import Derived.Test.YteclcjhklbookaaQ0
import Derived.Test.YteclcjhklbookaaOpen
namespace Go.Proofs.Yteclcjhklbookaa.Q
open Go.RowKit Go.Proofs.YteclcjhklbookaaW.PrintWords Go.Proofs.YteclcjhklbookaaW.PrintLast Go.Proofs.YteclcjhklbookaaW.PrintMore Go.Proofs.YteclcjhklbookaaW.PrintOpen
def good50 (x_ : S50) : Prop := ((Lit.int .i64 x_.f0).wf = true) ∧ (((Lit.int .i64 x_.f1).wf = true) ∧ ((x_.f2.size ≤ 9223372036854775807)))
theorem opens50 : Opens Try.prog k50 50 good50 :=
  opens_struct (f := (fun x : S50 => (x.f0, x.f1, x.f2))) (fun ⟨x0, x1, x2⟩ => ⟨x0, x1, x2⟩) (fun _ => rfl) Try.underlying50 (by kernel_rfl) (opensF_cons rfl (by kernel_rfl) (opens_int Try.underlying3) (opensF_cons rfl (by kernel_rfl) (opens_int Try.underlying3) (opensF_one rfl (by kernel_rfl) (opens_string Try.underlying9))))
def good33 (x_ : S33) : Prop := ((Lit.int .i64 x_.f0).wf = true) ∧ (((x_.f1.length ≤ 9223372036854775807 ∧ ∀ y0_ ∈ x_.f1, good50 y0_)) ∧ (((Lit.int .i64 x_.f2).wf = true)))
theorem opens33 : Opens Try.prog k33 33 good33 :=
  opens_struct (f := (fun x : S33 => (x.f0, x.f1, x.f2))) (fun ⟨x0, x1, x2⟩ => ⟨x0, x1, x2⟩) (fun _ => rfl) Try.underlying33 (by kernel_rfl) (opensF_cons rfl (by kernel_rfl) (opens_int Try.underlying3) (opensF_cons rfl (by kernel_rfl) (opens_slice Try.underlying31 (by kernel_rfl) opens50) (opensF_one rfl (by kernel_rfl) (opens_int Try.underlying3))))
end Go.Proofs.Yteclcjhklbookaa.Q
