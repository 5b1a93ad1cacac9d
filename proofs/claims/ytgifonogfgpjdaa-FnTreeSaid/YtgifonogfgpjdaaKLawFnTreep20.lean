/- Texts of this claim, merged by a program of this session. -/
import Derived.Test.YtgifonogfgpjdaaKLawFnTreep19
import Derived.Test.YtgifonogfgpjdaaKLawFnTreep15
section
-- PRINTED BY print.sh 35421559b90ae4d0a3588c463048766b98c2df88dd9212a6774a882060cdf62d: not written by this session
namespace Go.Proofs.YtgifonogfgpjdaaW.PrintWords
open Go.RowKit
end Go.Proofs.YtgifonogfgpjdaaW.PrintWords
namespace Go.Proofs.YtgifonogfgpjdaaW.PrintLast
section
variable {ops : Array Oper} {a : Act} {o og : Oper} {g : Nat} {t : Tmp} {u : Bool}
end
end Go.Proofs.YtgifonogfgpjdaaW.PrintLast
end
