/- Texts of this claim, merged by a program of this session. -/
import Derived.Test.YtjgcddjdmfcgoaaKLawFnCodecp19
import Derived.Test.YtjgcddjdmfcgoaaKLawFnCodecp15
section
-- PRINTED BY print.sh 35421559b90ae4d0a3588c463048766b98c2df88dd9212a6774a882060cdf62d: not written by this session
namespace Go.Proofs.YtjgcddjdmfcgoaaW.PrintWords
open Go.RowKit
end Go.Proofs.YtjgcddjdmfcgoaaW.PrintWords
namespace Go.Proofs.YtjgcddjdmfcgoaaW.PrintLast
section
variable {ops : Array Oper} {a : Act} {o og : Oper} {g : Nat} {t : Tmp} {u : Bool}
end
end Go.Proofs.YtjgcddjdmfcgoaaW.PrintLast
end
