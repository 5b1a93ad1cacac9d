/- Texts of this claim, merged by a program of this session. -/
import Derived.Test.YtlljfjpdflcjlaaKLawFnExactSplitKeyp19
import Derived.Test.YtlljfjpdflcjlaaKLawFnExactSplitKeyp15
section
-- PRINTED BY print.sh 35421559b90ae4d0a3588c463048766b98c2df88dd9212a6774a882060cdf62d: not written by this session
namespace Go.Proofs.YtlljfjpdflcjlaaW.PrintWords
open Go.RowKit
end Go.Proofs.YtlljfjpdflcjlaaW.PrintWords
namespace Go.Proofs.YtlljfjpdflcjlaaW.PrintLast
section
variable {ops : Array Oper} {a : Act} {o og : Oper} {g : Nat} {t : Tmp} {u : Bool}
end
end Go.Proofs.YtlljfjpdflcjlaaW.PrintLast
end
