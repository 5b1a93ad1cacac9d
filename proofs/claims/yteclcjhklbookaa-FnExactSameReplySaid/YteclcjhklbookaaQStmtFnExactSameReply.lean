/- The one pure statement to which the law FnExactSameReply comes. -/
import Derived.Test.YteclcjhklbookaaQ7
import Derived.Test.YteclcjhklbookaaQOpens
namespace Go.Proofs.Yteclcjhklbookaa.Q
/-- The one pure statement of FnExactSameReply. -/
def laws_FnExactSameReply.Pure : Prop := ∀ (x0 : S33) (x1 : S33), (good33 x0) → (good33 x1) → ∃ k, laws_FnExactSameReply.f k x0.f0 x0.f1 x0.f2 x1.f0 x1.f1 x1.f2 = some true
end Go.Proofs.Yteclcjhklbookaa.Q
