/-
  NARROWER THAN 'FOR EVERY INPUT', by the rows' own cells (each row's printed sentence says how): FnExactCodeWord: laid · FnExactCodeOf: laid.
  DERIVED. THE GIVEN ROWS OF THIS SEAT. 2 by the template 'for every input the law returns true; each argument reads behind the call as it read before'; 0 by the template 'total and deterministic' (their statements: YtkmamnhengeakaaDoorTotals.lean).
  GIVEN WITH THE SEED: the statements are not yours to turn. If you find one false, say at which input.
  Laid BY PROGRAM, IN A SANDBOX (cutbox-rows.mjs): the forced cells as the released guide's own fill.sh prints them over the translation 3beb16d2d2d552d2… (all of the seat's roots in one cut). By AI agents, Wed Nov 11 2026. No macro, syntax, notation, axiom, sorry.
-/
import Derived.Test.YtkmamnhengeakaaDoorChecked
import GoSem.Claim
import GoSem.ClaimJoined
import GoSem.ClaimMapViews
import Derived.JoinedTies
import Derived.KernelRfl
namespace Go.Proofs.YtkmamnhengeakaaDoor
/- THE CELL 'sum', in the pinned program and in every row, IS THE sha256 OF THE DUMP (.gsa) THAT YtkmamnhengeakaaDoorProg.lean LOADS. Nothing in Lean hashes anything: it is a label: what it is worth is what the hold of that sum in a sandbox is worth. -/
noncomputable def Tryd.pinned : Pinned := { name := "ytkmamnhengeakaadoor", sum := "3beb16d2d2d552d210c72650b98d18a8b6155cb650959f42599c26114bcedeba", checked := Tryd.checked }
namespace Rows
def none {H : Type} : Left H := { results := [], args := [] }

/- WHAT THE LISTED PACKAGE-LEVEL VARIABLES READ AS WHEN THE CALL BEGINS. Each datum BY PROGRAM (the guide's laid-datum.mjs) off the statement by which the dump's own 'gosem.cut.vars' lays the variable. In a bare row this is a premise. The card (YtkmamnhengeakaaDoorCards.lean) ties it to the program's text. -/
def laid_loop_example_g00380_impl_codeWords {H : Type} : DataW H := .agg [.lit (.string [111, 107]), .lit (.string [98, 97, 100]), .lit (.string [108, 111, 110, 103]), .lit (.string [102, 111, 114, 109]), .lit (.string [114, 97, 110, 103, 101]), .lit (.string [110, 111, 110, 101]), .lit (.string [109, 97, 110, 121]), .lit (.string [102, 117, 108, 108]), .lit (.string [116, 121, 112, 101]), .lit (.string [100, 101, 101, 112]), .lit (.string [115, 105, 122, 101]), .lit (.string [110, 97, 109, 101]), .lit (.string [116, 119, 105, 99, 101]), .lit (.string [112, 108, 97, 99, 101]), .lit (.string [112, 97, 116, 104]), .lit (.string [99, 111, 110, 102, 108, 105, 99, 116]), .lit (.string [112, 105, 118, 111, 116]), .lit (.string [115, 116, 97, 116, 101]), .lit (.string [98, 117, 115, 121]), .lit (.string [111, 114, 100, 101, 114])]

/-- 'laws.FnExactCodeWord': WHATEVER THE INPUT: true; the input reads as it did. -/
def fnExactCodeWordSpec : ChangeSpec := { name := "fnExactCodeWord", vars := ["loop.example/g00380/impl.codeWords"], fn := fun _ => fun
  | [d, g1] => { results := [.lit (.bool true)], args := [d], vars := [g1] }
  | _ => none }
def fnExactCodeWordRow : OpenClaim := { program := "ytkmamnhengeakaadoor", sum := "3beb16d2d2d552d210c72650b98d18a8b6155cb650959f42599c26114bcedeba", func := "loop.example/g00380/laws.FnExactCodeWord", spec := "fnExactCodeWord", named := ["loop.example/g00380/impl.codeWords"], apart := false, laid := [("loop.example/g00380/impl.codeWords", laid_loop_example_g00380_impl_codeWords)] }
def FnExactCodeWordSaid : Prop := fnExactCodeWordRow.holds Tryd.pinned (OpenSpec.ofChange fnExactCodeWordSpec)

/-- ITS FALSE NEIGHBOUR: 'it returns false'. Refute it at one input. -/
def fnExactCodeWordWrong : ChangeSpec := { name := "fnExactCodeWord", vars := ["loop.example/g00380/impl.codeWords"], fn := fun _ => fun
  | [d, g1] => { results := [.lit (.bool false)], args := [d], vars := [g1] }
  | _ => none }
def FnExactCodeWordWrongFalsely : Prop := fnExactCodeWordRow.holds Tryd.pinned (OpenSpec.ofChange fnExactCodeWordWrong)

/-- 'laws.FnExactCodeOf': WHATEVER THE INPUT: true; the input reads as it did. -/
def fnExactCodeOfSpec : ChangeSpec := { name := "fnExactCodeOf", vars := ["loop.example/g00380/impl.codeWords"], fn := fun _ => fun
  | [d, g1] => { results := [.lit (.bool true)], args := [d], vars := [g1] }
  | _ => none }
def fnExactCodeOfRow : OpenClaim := { program := "ytkmamnhengeakaadoor", sum := "3beb16d2d2d552d210c72650b98d18a8b6155cb650959f42599c26114bcedeba", func := "loop.example/g00380/laws.FnExactCodeOf", spec := "fnExactCodeOf", named := ["loop.example/g00380/impl.codeWords"], apart := false, laid := [("loop.example/g00380/impl.codeWords", laid_loop_example_g00380_impl_codeWords)] }
def FnExactCodeOfSaid : Prop := fnExactCodeOfRow.holds Tryd.pinned (OpenSpec.ofChange fnExactCodeOfSpec)

/-- ITS FALSE NEIGHBOUR: 'it returns false'. Refute it at one input. -/
def fnExactCodeOfWrong : ChangeSpec := { name := "fnExactCodeOf", vars := ["loop.example/g00380/impl.codeWords"], fn := fun _ => fun
  | [d, g1] => { results := [.lit (.bool false)], args := [d], vars := [g1] }
  | _ => none }
def FnExactCodeOfWrongFalsely : Prop := fnExactCodeOfRow.holds Tryd.pinned (OpenSpec.ofChange fnExactCodeOfWrong)

/- THE SECOND FORM. 'bulk': how many values and letters a reading holds, each counted each time it is reached (what is shared counts as often as it is met; a slice's spare places count too). A statement '..UptoSaid' is the law's where the arguments, and the package variables that the reading takes, are together of bulk at most 1048576: NARROWER than '..Said'. Prove '..Said' where nothing that the law and all that it calls make is longer than what came in: it says more and counts as full. Else prove '..UptoSaid'. A law counts once. -/
mutual
def uptoBulk {H : Type} : DataW H → Nat
  | .lit (.string bytes) => bytes.length + 1
  | .lit _ => 1
  | .nil => 1
  | .ptr d => uptoBulk d + 1
  | .slice elems spare => uptoBulkAll elems + uptoBulkAll spare + 1
  | .agg parts => uptoBulkAll parts + 1
  | .iface _ d => uptoBulk d + 1
  | .map entries => uptoBulkEntries entries + 1
  | .held _ => 1
def uptoBulkAll {H : Type} : List (DataW H) → Nat
  | [] => 0
  | d :: r => uptoBulk d + uptoBulkAll r
def uptoBulkEntries {H : Type} : List (Lit × DataW H) → Nat
  | [] => 0
  | x :: r => uptoBulkEntry x + uptoBulkEntries r
def uptoBulkEntry {H : Type} : Lit × DataW H → Nat
  | (.string bytes, d) => bytes.length + uptoBulk d + 1
  | (_, d) => uptoBulk d + 1
 end
def uptoSmall : (H : Type) → List (DataW H) → Bool := fun _ ds => decide (uptoBulkAll ds ≤ 1048576)
def OpenSpec.upto (s : _root_.Go.ChangeSpec) : _root_.Go.OpenSpec := { _root_.Go.OpenSpec.ofChange s with cond := some uptoSmall }

/-- 'laws.FnExactCodeWord', WHERE WHAT IT READS IS OF BULK AT MOST 1048576: true; the input reads as it did. -/
def fnExactCodeWordUptoRow : OpenClaim := { program := "ytkmamnhengeakaadoor", sum := "3beb16d2d2d552d210c72650b98d18a8b6155cb650959f42599c26114bcedeba", func := "loop.example/g00380/laws.FnExactCodeWord", spec := "fnExactCodeWord", named := ["loop.example/g00380/impl.codeWords"], apart := false, laid := [("loop.example/g00380/impl.codeWords", laid_loop_example_g00380_impl_codeWords)], narrowed := true }
def FnExactCodeWordUptoSaid : Prop := fnExactCodeWordUptoRow.holds Tryd.pinned (OpenSpec.upto fnExactCodeWordSpec)

/-- 'laws.FnExactCodeOf', WHERE WHAT IT READS IS OF BULK AT MOST 1048576: true; the input reads as it did. -/
def fnExactCodeOfUptoRow : OpenClaim := { program := "ytkmamnhengeakaadoor", sum := "3beb16d2d2d552d210c72650b98d18a8b6155cb650959f42599c26114bcedeba", func := "loop.example/g00380/laws.FnExactCodeOf", spec := "fnExactCodeOf", named := ["loop.example/g00380/impl.codeWords"], apart := false, laid := [("loop.example/g00380/impl.codeWords", laid_loop_example_g00380_impl_codeWords)], narrowed := true }
def FnExactCodeOfUptoSaid : Prop := fnExactCodeOfUptoRow.holds Tryd.pinned (OpenSpec.upto fnExactCodeOfSpec)

end Rows
end Go.Proofs.YtkmamnhengeakaaDoor
