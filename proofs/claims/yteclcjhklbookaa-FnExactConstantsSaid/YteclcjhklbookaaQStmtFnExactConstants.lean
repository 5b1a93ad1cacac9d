/- The one pure statement to which the law FnExactConstants comes. -/
import Derived.Test.YteclcjhklbookaaQ2
import Derived.Test.YteclcjhklbookaaQOpens
namespace Go.Proofs.Yteclcjhklbookaa.Q
/-- The one pure statement of FnExactConstants. -/
def laws_FnExactConstants.Pure : Prop := laws_FnExactConstants.f  = some true
end Go.Proofs.Yteclcjhklbookaa.Q
