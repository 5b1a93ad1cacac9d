/-
  No cell of these rows narrows 'for every input' (looked for: loops, veiled, ifaces, maps, wideKeys, modest, calm, conditions, laid).
  DERIVED. THE GIVEN ROWS OF THIS SEAT. 4 by the template 'for every input the law returns true; each argument reads behind the call as it read before'; 0 by the template 'total and deterministic' (their statements: YteclcjhklbookaaTotals.lean).
  GIVEN WITH THE SEED: the statements are not yours to turn. If you find one false, say at which input.
  Laid BY PROGRAM, IN A SANDBOX (cutbox-rows.mjs): the forced cells as the released guide's own fill.sh prints them over the translation 5507cf5976f4164d… (all of the seat's roots in one cut). By AI agents, Wed Nov 11 2026. No macro, syntax, notation, axiom, sorry.
-/
import Derived.Test.YteclcjhklbookaaChecked
import GoSem.Claim
import GoSem.ClaimJoined
import GoSem.ClaimMapViews
import Derived.JoinedTies
import Derived.KernelRfl
namespace Go.Proofs.Yteclcjhklbookaa
/- THE CELL 'sum', in the pinned program and in every row, IS THE sha256 OF THE DUMP (.gsa) THAT YteclcjhklbookaaProg.lean LOADS. Nothing in Lean hashes anything: it is a label: what it is worth is what the hold of that sum in a sandbox is worth. -/
noncomputable def Try.pinned : Pinned := { name := "yteclcjhklbookaa", sum := "5507cf5976f4164d324bc9a48dc0830ddc18f541b664831c5c4708cde37f8a08", checked := Try.checked }
namespace Rows
def none {H : Type} : Left H := { results := [], args := [] }

/-- 'laws.FnExactConstants': WHATEVER THE INPUT: true; the input reads as it did. -/
def fnExactConstantsSpec : ChangeSpec := { name := "fnExactConstants", fn := fun _ => fun
  | [] => { results := [.lit (.bool true)], args := [] }
  | _ => none }
def fnExactConstantsRow : OpenClaim := { program := "yteclcjhklbookaa", sum := "5507cf5976f4164d324bc9a48dc0830ddc18f541b664831c5c4708cde37f8a08", func := "loop.example/g00380/laws.FnExactConstants", spec := "fnExactConstants", apart := false }
def FnExactConstantsSaid : Prop := fnExactConstantsRow.holds Try.pinned (OpenSpec.ofChange fnExactConstantsSpec)

/-- ITS FALSE NEIGHBOUR: 'it returns false'. Refute it at one input. -/
def fnExactConstantsWrong : ChangeSpec := { name := "fnExactConstants", fn := fun _ => fun
  | [] => { results := [.lit (.bool false)], args := [] }
  | _ => none }
def FnExactConstantsWrongFalsely : Prop := fnExactConstantsRow.holds Try.pinned (OpenSpec.ofChange fnExactConstantsWrong)

/-- 'laws.FnExactNameOK': WHATEVER THE INPUT: true; the input reads as it did. -/
def fnExactNameOKSpec : ChangeSpec := { name := "fnExactNameOK", fn := fun _ => fun
  | [d] => { results := [.lit (.bool true)], args := [d] }
  | _ => none }
def fnExactNameOKRow : OpenClaim := { program := "yteclcjhklbookaa", sum := "5507cf5976f4164d324bc9a48dc0830ddc18f541b664831c5c4708cde37f8a08", func := "loop.example/g00380/laws.FnExactNameOK", spec := "fnExactNameOK", apart := false }
def FnExactNameOKSaid : Prop := fnExactNameOKRow.holds Try.pinned (OpenSpec.ofChange fnExactNameOKSpec)

/-- ITS FALSE NEIGHBOUR: 'it returns false'. Refute it at one input. -/
def fnExactNameOKWrong : ChangeSpec := { name := "fnExactNameOK", fn := fun _ => fun
  | [d] => { results := [.lit (.bool false)], args := [d] }
  | _ => none }
def FnExactNameOKWrongFalsely : Prop := fnExactNameOKRow.holds Try.pinned (OpenSpec.ofChange fnExactNameOKWrong)

/-- 'laws.FnExactJoinKeys': WHATEVER THE INPUT: true; the input reads as it did. -/
def fnExactJoinKeysSpec : ChangeSpec := { name := "fnExactJoinKeys", fn := fun _ => fun
  | [d] => { results := [.lit (.bool true)], args := [d] }
  | _ => none }
def fnExactJoinKeysRow : OpenClaim := { program := "yteclcjhklbookaa", sum := "5507cf5976f4164d324bc9a48dc0830ddc18f541b664831c5c4708cde37f8a08", func := "loop.example/g00380/laws.FnExactJoinKeys", spec := "fnExactJoinKeys", unfollowed := true, recurses := true, apart := false }
def FnExactJoinKeysSaid : Prop := fnExactJoinKeysRow.holds Try.pinned (OpenSpec.ofChange fnExactJoinKeysSpec)

/-- ITS FALSE NEIGHBOUR: 'it returns false'. Refute it at one input. -/
def fnExactJoinKeysWrong : ChangeSpec := { name := "fnExactJoinKeys", fn := fun _ => fun
  | [d] => { results := [.lit (.bool false)], args := [d] }
  | _ => none }
def FnExactJoinKeysWrongFalsely : Prop := fnExactJoinKeysRow.holds Try.pinned (OpenSpec.ofChange fnExactJoinKeysWrong)

/-- 'laws.FnExactSameReply': WHATEVER THE INPUT: true; the input reads as it did. -/
def fnExactSameReplySpec : ChangeSpec := { name := "fnExactSameReply", fn := fun _ => fun
  | [d1, d2] => { results := [.lit (.bool true)], args := [d1, d2] }
  | _ => none }
def fnExactSameReplyRow : OpenClaim := { program := "yteclcjhklbookaa", sum := "5507cf5976f4164d324bc9a48dc0830ddc18f541b664831c5c4708cde37f8a08", func := "loop.example/g00380/laws.FnExactSameReply", spec := "fnExactSameReply", apart := false }
def FnExactSameReplySaid : Prop := fnExactSameReplyRow.holds Try.pinned (OpenSpec.ofChange fnExactSameReplySpec)

/-- ITS FALSE NEIGHBOUR: 'it returns false'. Refute it at one input. -/
def fnExactSameReplyWrong : ChangeSpec := { name := "fnExactSameReply", fn := fun _ => fun
  | [d1, d2] => { results := [.lit (.bool false)], args := [d1, d2] }
  | _ => none }
def FnExactSameReplyWrongFalsely : Prop := fnExactSameReplyRow.holds Try.pinned (OpenSpec.ofChange fnExactSameReplyWrong)

/- THE SECOND FORM. 'bulk': how many values and letters a reading holds, each counted each time it is reached (what is shared counts as often as it is met; a slice's spare places count too). A statement '..UptoSaid' is the law's where the arguments, and the package variables that the reading takes, are together of bulk at most 1048576: NARROWER than '..Said'. Prove '..Said' where nothing that the law and all that it calls make is longer than what came in: it says more and counts as full. Else prove '..UptoSaid'. A law counts once. -/
mutual
def uptoBulk {H : Type} : DataW H → Nat
  | .lit (.string bytes) => bytes.length + 1
  | .lit _ => 1
  | .nil => 1
  | .ptr d => uptoBulk d + 1
  | .slice elems spare => uptoBulkAll elems + uptoBulkAll spare + 1
  | .agg parts => uptoBulkAll parts + 1
  | .iface _ d => uptoBulk d + 1
  | .map entries => uptoBulkEntries entries + 1
  | .held _ => 1
def uptoBulkAll {H : Type} : List (DataW H) → Nat
  | [] => 0
  | d :: r => uptoBulk d + uptoBulkAll r
def uptoBulkEntries {H : Type} : List (Lit × DataW H) → Nat
  | [] => 0
  | x :: r => uptoBulkEntry x + uptoBulkEntries r
def uptoBulkEntry {H : Type} : Lit × DataW H → Nat
  | (.string bytes, d) => bytes.length + uptoBulk d + 1
  | (_, d) => uptoBulk d + 1
 end
def uptoSmall : (H : Type) → List (DataW H) → Bool := fun _ ds => decide (uptoBulkAll ds ≤ 1048576)
def OpenSpec.upto (s : _root_.Go.ChangeSpec) : _root_.Go.OpenSpec := { _root_.Go.OpenSpec.ofChange s with cond := some uptoSmall }

/-- 'laws.FnExactConstants', WHERE WHAT IT READS IS OF BULK AT MOST 1048576: true; the input reads as it did. -/
def fnExactConstantsUptoRow : OpenClaim := { program := "yteclcjhklbookaa", sum := "5507cf5976f4164d324bc9a48dc0830ddc18f541b664831c5c4708cde37f8a08", func := "loop.example/g00380/laws.FnExactConstants", spec := "fnExactConstants", apart := false, narrowed := true }
def FnExactConstantsUptoSaid : Prop := fnExactConstantsUptoRow.holds Try.pinned (OpenSpec.upto fnExactConstantsSpec)

/-- 'laws.FnExactNameOK', WHERE WHAT IT READS IS OF BULK AT MOST 1048576: true; the input reads as it did. -/
def fnExactNameOKUptoRow : OpenClaim := { program := "yteclcjhklbookaa", sum := "5507cf5976f4164d324bc9a48dc0830ddc18f541b664831c5c4708cde37f8a08", func := "loop.example/g00380/laws.FnExactNameOK", spec := "fnExactNameOK", apart := false, narrowed := true }
def FnExactNameOKUptoSaid : Prop := fnExactNameOKUptoRow.holds Try.pinned (OpenSpec.upto fnExactNameOKSpec)

/-- 'laws.FnExactJoinKeys', WHERE WHAT IT READS IS OF BULK AT MOST 1048576: true; the input reads as it did. -/
def fnExactJoinKeysUptoRow : OpenClaim := { program := "yteclcjhklbookaa", sum := "5507cf5976f4164d324bc9a48dc0830ddc18f541b664831c5c4708cde37f8a08", func := "loop.example/g00380/laws.FnExactJoinKeys", spec := "fnExactJoinKeys", unfollowed := true, recurses := true, apart := false, narrowed := true }
def FnExactJoinKeysUptoSaid : Prop := fnExactJoinKeysUptoRow.holds Try.pinned (OpenSpec.upto fnExactJoinKeysSpec)

/-- 'laws.FnExactSameReply', WHERE WHAT IT READS IS OF BULK AT MOST 1048576: true; the input reads as it did. -/
def fnExactSameReplyUptoRow : OpenClaim := { program := "yteclcjhklbookaa", sum := "5507cf5976f4164d324bc9a48dc0830ddc18f541b664831c5c4708cde37f8a08", func := "loop.example/g00380/laws.FnExactSameReply", spec := "fnExactSameReply", apart := false, narrowed := true }
def FnExactSameReplyUptoSaid : Prop := fnExactSameReplyUptoRow.holds Try.pinned (OpenSpec.upto fnExactSameReplySpec)

end Rows
end Go.Proofs.Yteclcjhklbookaa
