/- Texts of this claim, merged by a program of this session. -/
import Derived.Test.YtoinoihiknmnmaaKLawFnListsp19
import Derived.Test.YtoinoihiknmnmaaKLawFnListsp15
section
-- PRINTED BY print.sh 35421559b90ae4d0a3588c463048766b98c2df88dd9212a6774a882060cdf62d: not written by this session
namespace Go.Proofs.YtoinoihiknmnmaaW.PrintWords
open Go.RowKit
end Go.Proofs.YtoinoihiknmnmaaW.PrintWords
namespace Go.Proofs.YtoinoihiknmnmaaW.PrintLast
section
variable {ops : Array Oper} {a : Act} {o og : Oper} {g : Nat} {t : Tmp} {u : Bool}
end
end Go.Proofs.YtoinoihiknmnmaaW.PrintLast
end
