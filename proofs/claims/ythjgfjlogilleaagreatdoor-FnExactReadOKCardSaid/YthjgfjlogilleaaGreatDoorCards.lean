/-
  DERIVED. GIVEN WITH THE SEED: THE CARDS: each row of YthjgfjlogilleaaGreatDoorRows.lean that lists a variable, with what it lists TIED to the program's text (the seventh form; the later family's looks); each row that meets fmt, with fmt's text TOLD by the authors' own Lean function (tested against real Go, not proved from fmt's source: count such statements apart). THE CARD IS WHAT COUNTS. Prove the row's statement (the work); the ties are given (YthjgfjlogilleaaGreatDoorTie.lean); close each card by the builder's one call (the guide's Derived/Test/ToyasCard.lean, 'card_holds'). Laid BY PROGRAM, IN A SANDBOX (cutbox-door.mjs). By AI agents, Wed Nov 11 2026. No macro, syntax, notation, axiom, sorry.
-/
import Derived.Test.YthjgfjlogilleaaGreatDoorRows
import GoSem.ClaimSeven
namespace Go.Proofs.YthjgfjlogilleaaGreatDoor
namespace Rows

/-- THE TIED CARD OF 'laws.FnExactFilterOK'. -/
def fnExactFilterOKCard : Claim7 := { stood := { row := fnExactFilterOKRow, standIns := [], harness := (true, "ff1b9ace67d33ebe5460638613849987850392389c199db5c6c496e3e69cbcbc"), looks := false }, kinds := [], alts := [], laidByText := true, laidKinds := [.data, .pinned], laidTests := true, laidLooks := .later }
def FnExactFilterOKCardSaid : Prop := Claim7.holds Tryz.pinned (.plain (OpenSpec.ofChange fnExactFilterOKSpec)) fnExactFilterOKCard

/-- THE TIED CARD OF 'laws.FnExactReadOK'. -/
def fnExactReadOKCard : Claim7 := { stood := { row := fnExactReadOKRow, standIns := [], harness := (true, "ff1b9ace67d33ebe5460638613849987850392389c199db5c6c496e3e69cbcbc"), looks := false }, kinds := [], alts := [], laidByText := true, laidKinds := [.data, .pinned], laidTests := true, laidLooks := .later }
def FnExactReadOKCardSaid : Prop := Claim7.holds Tryz.pinned (.plain (OpenSpec.ofChange fnExactReadOKSpec)) fnExactReadOKCard

/-- THE SECOND FORM's CARD OF 'laws.FnExactFilterOK'. -/
def fnExactFilterOKUptoCard : Claim7 := { stood := { row := fnExactFilterOKUptoRow, standIns := [], harness := (true, "ff1b9ace67d33ebe5460638613849987850392389c199db5c6c496e3e69cbcbc"), looks := false }, kinds := [], alts := [], laidByText := true, laidKinds := [.data, .pinned], laidTests := true, laidLooks := .later }
def FnExactFilterOKUptoCardSaid : Prop := Claim7.holds Tryz.pinned (.plain (OpenSpec.upto fnExactFilterOKSpec)) fnExactFilterOKUptoCard

/-- THE SECOND FORM's CARD OF 'laws.FnExactReadOK'. -/
def fnExactReadOKUptoCard : Claim7 := { stood := { row := fnExactReadOKUptoRow, standIns := [], harness := (true, "ff1b9ace67d33ebe5460638613849987850392389c199db5c6c496e3e69cbcbc"), looks := false }, kinds := [], alts := [], laidByText := true, laidKinds := [.data, .pinned], laidTests := true, laidLooks := .later }
def FnExactReadOKUptoCardSaid : Prop := Claim7.holds Tryz.pinned (.plain (OpenSpec.upto fnExactReadOKSpec)) fnExactReadOKUptoCard
end Rows
end Go.Proofs.YthjgfjlogilleaaGreatDoor
