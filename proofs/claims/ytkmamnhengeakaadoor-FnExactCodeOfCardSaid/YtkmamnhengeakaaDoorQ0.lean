/- Printed by a program of this session out of the translation: Lean functions, each with a proof that the Go function of its name returns what it tells. -/
import Derived.Test.YtkmamnhengeakaaDoorProg
import Derived.Below
import Derived.Deep.Draws
import Derived.Deep.AppendLies
import Derived.Maps.AppendAt
import Derived.OwnWalk
import Derived.Laws.BytesArg
import Derived.Laws.MakeOwn
import Derived.Laws.OwnMore
import Derived.Deep.OwnRows
import Derived.Tactics
import Derived.Lib.ConvBytes
import Derived.Laws.Slices
import Derived.WalkKit
import Derived.KernelRfl
import Derived.RowKit3
import Derived.Deep.LoopGhost
import Derived.Deep.QuietTactic
import Derived.BigQuiet
import Derived.WideLaws
import Derived.Deep.DeepCutAuto
import Derived.Deep.CutBlock
import Derived.Deep.RegionHeld3
import Derived.Laws.Rows
import Derived.Lib.AppendStr
import Derived.ArgAppend
import Derived.Laws.IdiomCopy
import Derived.OrdersHeld
import Derived.Laws.BitsLemmas
import Derived.RowKit
import Derived.Lib.Strings
import Derived.Lib.Slices
import Derived.Lib.Walk
import Derived.Lib.Bytealg
import Derived.Test.YtkmamnhengeakaaDoorExtra
import Derived.Test.YtkmamnhengeakaaDoorWWords
import Derived.Test.YtkmamnhengeakaaDoorWLast
import Derived.Test.YtkmamnhengeakaaDoorWTab
import Derived.Test.YtkmamnhengeakaaDoorWFour
import Derived.Test.YtkmamnhengeakaaDoorWQPut
import Derived.Test.YtkmamnhengeakaaDoorWApart
import Derived.Test.YtkmamnhengeakaaDoorWArr
import Derived.Test.YtkmamnhengeakaaDoorWZeros
import Derived.Test.YtkmamnhengeakaaDoorWFoot
import Derived.Test.YtkmamnhengeakaaDoorWKept
import Derived.Test.YtkmamnhengeakaaDoorWShare
import Derived.Test.YtkmamnhengeakaaDoorWN
import Derived.Test.YtkmamnhengeakaaDoorWFootNe
import Derived.Test.YtkmamnhengeakaaDoorWAt
import Derived.Test.YtkmamnhengeakaaDoorWEqStruct
import Derived.Test.YtkmamnhengeakaaDoorWRepsOne
import Derived.Test.YtkmamnhengeakaaDoorWInv
import Derived.Test.YtkmamnhengeakaaDoorWInvWords
import Derived.Test.YtkmamnhengeakaaDoorWGuard
import Derived.Test.YtkmamnhengeakaaDoorWNEv
import Derived.Test.YtkmamnhengeakaaDoorWMore
namespace Go.Proofs.YtkmamnhengeakaaDoor.Q
open Go.RowKit Go.Proofs.YtkmamnhengeakaaDoorW.PrintWords Go.Proofs.YtkmamnhengeakaaDoorW.PrintLast Go.Proofs.YtkmamnhengeakaaDoorW.PrintMore
attribute [local go_sem] max2_int min2_int max_two min_two max_three min_three max_four min_four max2_str min2_str str_geq str_gtr str_leq   -- for this text's walks alone
set_option linter.unusedVariables false
set_option linter.unusedSimpArgs false



def errW : Option Int → Value
  | none => .nilIface
  | some c => .iface 0 (.int .i64 c)
theorem errW_none : errW none = .nilIface := rfl
theorem errW_some (c : Int) : errW (some c) = .iface 0 (.int .i64 c) := rfl

theorem info9 : (Tryd.prog.info? 9).map (fun i => (i.zero, i.size, i.bytes)) = some (some (.string ⟨#[]⟩), 1, 16) := by kernel_rfl
-- the values' own types

end Go.Proofs.YtkmamnhengeakaaDoor.Q
