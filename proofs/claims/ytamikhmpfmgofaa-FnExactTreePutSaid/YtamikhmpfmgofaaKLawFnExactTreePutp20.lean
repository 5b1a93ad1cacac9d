/- Texts of this claim, merged by a program of this session. -/
import Derived.Test.YtamikhmpfmgofaaKLawFnExactTreePutp19
import Derived.Test.YtamikhmpfmgofaaKLawFnExactTreePutp15
section
-- PRINTED BY print.sh 35421559b90ae4d0a3588c463048766b98c2df88dd9212a6774a882060cdf62d: not written by this session
namespace Go.Proofs.YtamikhmpfmgofaaW.PrintWords
open Go.RowKit
end Go.Proofs.YtamikhmpfmgofaaW.PrintWords
namespace Go.Proofs.YtamikhmpfmgofaaW.PrintLast
section
variable {ops : Array Oper} {a : Act} {o og : Oper} {g : Nat} {t : Tmp} {u : Bool}
end
end Go.Proofs.YtamikhmpfmgofaaW.PrintLast
end
