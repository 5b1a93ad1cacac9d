/-
  DERIVED. GIVEN WITH THE SEED: THE CARDS: each row of YthjgfjlogilleabDoorRows.lean that lists a variable, with what it lists TIED to the program's text (the seventh form; the later family's looks); each row that meets fmt, with fmt's text TOLD by the authors' own Lean function (tested against real Go, not proved from fmt's source: count such statements apart). THE CARD IS WHAT COUNTS. Prove the row's statement (the work); the ties are given (YthjgfjlogilleabDoorTie.lean); close each card by the builder's one call (the guide's Derived/Test/ToyasCard.lean, 'card_holds'). Laid BY PROGRAM, IN A SANDBOX (cutbox-door.mjs). By AI agents, Wed Nov 11 2026. No macro, syntax, notation, axiom, sorry.
-/
import Derived.Test.YthjgfjlogilleabDoorRows
import GoSem.ClaimSeven
namespace Go.Proofs.YthjgfjlogilleabDoor
namespace Rows

/-- THE TIED CARD OF 'laws.FnExactTermInterval'. -/
def fnExactTermIntervalCard : Claim7 := { stood := { row := fnExactTermIntervalRow, standIns := [], harness := (true, "511e94de031db94f8cfb8b7c92b4c21d657baef1bd4d8b2ebda78029e7c819a8"), looks := false }, kinds := [], alts := [], laidByText := true, laidKinds := [.data, .pinned], laidTests := true, laidLooks := .later }
def FnExactTermIntervalCardSaid : Prop := Claim7.holds Tryd.pinned (.plain (OpenSpec.ofChange fnExactTermIntervalSpec)) fnExactTermIntervalCard

/-- THE SECOND FORM's CARD OF 'laws.FnExactTermInterval'. -/
def fnExactTermIntervalUptoCard : Claim7 := { stood := { row := fnExactTermIntervalUptoRow, standIns := [], harness := (true, "511e94de031db94f8cfb8b7c92b4c21d657baef1bd4d8b2ebda78029e7c819a8"), looks := false }, kinds := [], alts := [], laidByText := true, laidKinds := [.data, .pinned], laidTests := true, laidLooks := .later }
def FnExactTermIntervalUptoCardSaid : Prop := Claim7.holds Tryd.pinned (.plain (OpenSpec.upto fnExactTermIntervalSpec)) fnExactTermIntervalUptoCard
end Rows
end Go.Proofs.YthjgfjlogilleabDoor
