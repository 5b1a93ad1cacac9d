/- Texts of this claim, merged by a program of this session. -/
import Derived.Test.YtdjnplkpahgnmaaKLawFnKeysp19
import Derived.Test.YtdjnplkpahgnmaaKLawFnKeysp15
section
-- PRINTED BY print.sh 35421559b90ae4d0a3588c463048766b98c2df88dd9212a6774a882060cdf62d: not written by this session
namespace Go.Proofs.YtdjnplkpahgnmaaW.PrintWords
open Go.RowKit
end Go.Proofs.YtdjnplkpahgnmaaW.PrintWords
namespace Go.Proofs.YtdjnplkpahgnmaaW.PrintLast
section
variable {ops : Array Oper} {a : Act} {o og : Oper} {g : Nat} {t : Tmp} {u : Bool}
end
end Go.Proofs.YtdjnplkpahgnmaaW.PrintLast
end
