/- The one pure statement to which the law FnExactNameOK comes. -/
import Derived.Test.YteclcjhklbookaaQ2
import Derived.Test.YteclcjhklbookaaQOpens
namespace Go.Proofs.Yteclcjhklbookaa.Q
/-- The one pure statement of FnExactNameOK. -/
def laws_FnExactNameOK.Pure : Prop := ∀ (x0 : ByteArray), (x0.size ≤ 9223372036854775807) → ∃ k, laws_FnExactNameOK.f k x0 = some true
end Go.Proofs.Yteclcjhklbookaa.Q
