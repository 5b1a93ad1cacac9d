/- Texts of this claim, merged by a program of this session. -/
import Derived.Test.YthjgfjlogilleabDoorKLawFnExactTermIntervalp19
import Derived.Test.YthjgfjlogilleabDoorKLawFnExactTermIntervalp15
section
-- PRINTED BY print.sh 35421559b90ae4d0a3588c463048766b98c2df88dd9212a6774a882060cdf62d: not written by this session
namespace Go.Proofs.YthjgfjlogilleabDoorW.PrintWords
open Go.RowKit
end Go.Proofs.YthjgfjlogilleabDoorW.PrintWords
namespace Go.Proofs.YthjgfjlogilleabDoorW.PrintLast
section
variable {ops : Array Oper} {a : Act} {o og : Oper} {g : Nat} {t : Tmp} {u : Bool}
end
end Go.Proofs.YthjgfjlogilleabDoorW.PrintLast
end
