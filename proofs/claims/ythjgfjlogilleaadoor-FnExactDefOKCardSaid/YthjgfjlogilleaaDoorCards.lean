/-
  DERIVED. GIVEN WITH THE SEED: THE CARDS: each row of YthjgfjlogilleaaDoorRows.lean that lists a variable, with what it lists TIED to the program's text (the seventh form; the later family's looks); each row that meets fmt, with fmt's text TOLD by the authors' own Lean function (tested against real Go, not proved from fmt's source: count such statements apart). THE CARD IS WHAT COUNTS. Prove the row's statement (the work); the ties are given (YthjgfjlogilleaaDoorTie.lean); close each card by the builder's one call (the guide's Derived/Test/ToyasCard.lean, 'card_holds'). Laid BY PROGRAM, IN A SANDBOX (cutbox-door.mjs). By AI agents, Wed Nov 11 2026. No macro, syntax, notation, axiom, sorry.
-/
import Derived.Test.YthjgfjlogilleaaDoorRows
import GoSem.ClaimSeven
namespace Go.Proofs.YthjgfjlogilleaaDoor
namespace Rows

/-- THE TIED CARD OF 'laws.FnExactDefOK'. -/
def fnExactDefOKCard : Claim7 := { stood := { row := fnExactDefOKRow, standIns := [], harness := (true, "d56c873c0c29472b66b35c8d92bd4f48a2a08eb8a2b3f158e07d73fb0246d673"), looks := false }, kinds := [], alts := [], laidByText := true, laidKinds := [.data, .pinned], laidTests := true, laidLooks := .later }
def FnExactDefOKCardSaid : Prop := Claim7.holds Tryd.pinned (.plain (OpenSpec.ofChange fnExactDefOKSpec)) fnExactDefOKCard

/-- THE TIED CARD OF 'laws.FnExactUpdateOK'. -/
def fnExactUpdateOKCard : Claim7 := { stood := { row := fnExactUpdateOKRow, standIns := [], harness := (true, "d56c873c0c29472b66b35c8d92bd4f48a2a08eb8a2b3f158e07d73fb0246d673"), looks := false }, kinds := [], alts := [], laidByText := true, laidKinds := [.data, .pinned], laidTests := true, laidLooks := .later }
def FnExactUpdateOKCardSaid : Prop := Claim7.holds Tryd.pinned (.plain (OpenSpec.ofChange fnExactUpdateOKSpec)) fnExactUpdateOKCard

/-- THE TIED CARD OF 'laws.FnExactTermOK'. -/
def fnExactTermOKCard : Claim7 := { stood := { row := fnExactTermOKRow, standIns := [], harness := (true, "d56c873c0c29472b66b35c8d92bd4f48a2a08eb8a2b3f158e07d73fb0246d673"), looks := false }, kinds := [], alts := [], laidByText := true, laidKinds := [.data, .pinned], laidTests := true, laidLooks := .later }
def FnExactTermOKCardSaid : Prop := Claim7.holds Tryd.pinned (.plain (OpenSpec.ofChange fnExactTermOKSpec)) fnExactTermOKCard

/-- THE TIED CARD OF 'laws.FnExactGetPath'. -/
def fnExactGetPathCard : Claim7 := { stood := { row := fnExactGetPathRow, standIns := [], harness := (true, "d56c873c0c29472b66b35c8d92bd4f48a2a08eb8a2b3f158e07d73fb0246d673"), looks := false }, kinds := [], alts := [], laidByText := true, laidKinds := [.data, .pinned], laidTests := true, laidLooks := .later }
def FnExactGetPathCardSaid : Prop := Claim7.holds Tryd.pinned (.plain (OpenSpec.ofChange fnExactGetPathSpec)) fnExactGetPathCard

/-- THE SECOND FORM's CARD OF 'laws.FnExactDefOK'. -/
def fnExactDefOKUptoCard : Claim7 := { stood := { row := fnExactDefOKUptoRow, standIns := [], harness := (true, "d56c873c0c29472b66b35c8d92bd4f48a2a08eb8a2b3f158e07d73fb0246d673"), looks := false }, kinds := [], alts := [], laidByText := true, laidKinds := [.data, .pinned], laidTests := true, laidLooks := .later }
def FnExactDefOKUptoCardSaid : Prop := Claim7.holds Tryd.pinned (.plain (OpenSpec.upto fnExactDefOKSpec)) fnExactDefOKUptoCard

/-- THE SECOND FORM's CARD OF 'laws.FnExactUpdateOK'. -/
def fnExactUpdateOKUptoCard : Claim7 := { stood := { row := fnExactUpdateOKUptoRow, standIns := [], harness := (true, "d56c873c0c29472b66b35c8d92bd4f48a2a08eb8a2b3f158e07d73fb0246d673"), looks := false }, kinds := [], alts := [], laidByText := true, laidKinds := [.data, .pinned], laidTests := true, laidLooks := .later }
def FnExactUpdateOKUptoCardSaid : Prop := Claim7.holds Tryd.pinned (.plain (OpenSpec.upto fnExactUpdateOKSpec)) fnExactUpdateOKUptoCard

/-- THE SECOND FORM's CARD OF 'laws.FnExactTermOK'. -/
def fnExactTermOKUptoCard : Claim7 := { stood := { row := fnExactTermOKUptoRow, standIns := [], harness := (true, "d56c873c0c29472b66b35c8d92bd4f48a2a08eb8a2b3f158e07d73fb0246d673"), looks := false }, kinds := [], alts := [], laidByText := true, laidKinds := [.data, .pinned], laidTests := true, laidLooks := .later }
def FnExactTermOKUptoCardSaid : Prop := Claim7.holds Tryd.pinned (.plain (OpenSpec.upto fnExactTermOKSpec)) fnExactTermOKUptoCard

/-- THE SECOND FORM's CARD OF 'laws.FnExactGetPath'. -/
def fnExactGetPathUptoCard : Claim7 := { stood := { row := fnExactGetPathUptoRow, standIns := [], harness := (true, "d56c873c0c29472b66b35c8d92bd4f48a2a08eb8a2b3f158e07d73fb0246d673"), looks := false }, kinds := [], alts := [], laidByText := true, laidKinds := [.data, .pinned], laidTests := true, laidLooks := .later }
def FnExactGetPathUptoCardSaid : Prop := Claim7.holds Tryd.pinned (.plain (OpenSpec.upto fnExactGetPathSpec)) fnExactGetPathUptoCard
end Rows
end Go.Proofs.YthjgfjlogilleaaDoor
