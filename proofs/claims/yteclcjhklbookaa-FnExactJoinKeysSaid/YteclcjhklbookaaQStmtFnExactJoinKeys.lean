/- The one pure statement to which the law FnExactJoinKeys comes. -/
import Derived.Test.YteclcjhklbookaaQ4
import Derived.Test.YteclcjhklbookaaQOpens
namespace Go.Proofs.Yteclcjhklbookaa.Q
/-- The one pure statement of FnExactJoinKeys. -/
def laws_FnExactJoinKeys.Pure : Prop := ∀ (x0 : List ByteArray), ((x0.length ≤ 9223372036854775807 ∧ ∀ y0_ ∈ x0, y0_.size ≤ 9223372036854775807)) → ∃ k, laws_FnExactJoinKeys.f k x0 = some true
end Go.Proofs.Yteclcjhklbookaa.Q
