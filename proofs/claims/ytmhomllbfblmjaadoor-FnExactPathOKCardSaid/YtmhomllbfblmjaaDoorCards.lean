/-
  DERIVED. GIVEN WITH THE SEED: THE CARDS: each row of YtmhomllbfblmjaaDoorRows.lean that lists a variable, with what it lists TIED to the program's text (the seventh form; the later family's looks); each row that meets fmt, with fmt's text TOLD by the authors' own Lean function (tested against real Go, not proved from fmt's source: count such statements apart). THE CARD IS WHAT COUNTS. Prove the row's statement (the work); the ties are given (YtmhomllbfblmjaaDoorTie.lean); close each card by the builder's one call (the guide's Derived/Test/ToyasCard.lean, 'card_holds'). Laid BY PROGRAM, IN A SANDBOX (cutbox-door.mjs). By AI agents, Wed Nov 11 2026. No macro, syntax, notation, axiom, sorry.
-/
import Derived.Test.YtmhomllbfblmjaaDoorRows
import GoSem.ClaimSeven
namespace Go.Proofs.YtmhomllbfblmjaaDoor
namespace Rows

/-- THE TIED CARD OF 'laws.FnExactPathOK'. -/
def fnExactPathOKCard : Claim7 := { stood := { row := fnExactPathOKRow, standIns := [], harness := (true, "8e3c02e1c3478c0c790408050fa5408e2c84a7bb859bac8285fb5bc225885dd4"), looks := false }, kinds := [], alts := [], laidByText := true, laidKinds := [.data, .pinned], laidTests := true, laidLooks := .later }
def FnExactPathOKCardSaid : Prop := Claim7.holds Tryd.pinned (.plain (OpenSpec.ofChange fnExactPathOKSpec)) fnExactPathOKCard

/-- THE SECOND FORM's CARD OF 'laws.FnExactPathOK'. -/
def fnExactPathOKUptoCard : Claim7 := { stood := { row := fnExactPathOKUptoRow, standIns := [], harness := (true, "8e3c02e1c3478c0c790408050fa5408e2c84a7bb859bac8285fb5bc225885dd4"), looks := false }, kinds := [], alts := [], laidByText := true, laidKinds := [.data, .pinned], laidTests := true, laidLooks := .later }
def FnExactPathOKUptoCardSaid : Prop := Claim7.holds Tryd.pinned (.plain (OpenSpec.upto fnExactPathOKSpec)) fnExactPathOKUptoCard
end Rows
end Go.Proofs.YtmhomllbfblmjaaDoor
