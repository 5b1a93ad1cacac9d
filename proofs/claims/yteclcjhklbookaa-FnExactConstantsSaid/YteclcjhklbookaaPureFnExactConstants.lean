/- The program's constants are the document's. -/
import Derived.Test.YteclcjhklbookaaQStmtFnExactConstants
namespace Go.Proofs.Yteclcjhklbookaa.Pure
open Go.RowKit Go.Proofs.Yteclcjhklbookaa.Q Go.Proofs.YteclcjhklbookaaW.PrintWords Go.Proofs.YteclcjhklbookaaW.PrintLast
theorem FnExactConstants : laws_FnExactConstants.Pure := rfl
end Go.Proofs.Yteclcjhklbookaa.Pure
