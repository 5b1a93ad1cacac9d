/-
  No cell of these rows narrows 'for every input' (looked for: loops, veiled, ifaces, maps, wideKeys, modest, calm, conditions, laid).
  DERIVED. THE GIVEN ROWS OF THIS SEAT. 11 by the template 'for every input the law returns true; each argument reads behind the call as it read before'; 0 by the template 'total and deterministic' (their statements: YtoceopjhacpjnaaTotals.lean).
  GIVEN WITH THE SEED: the statements are not yours to turn. If you find one false, say at which input.
  Laid BY PROGRAM, IN A SANDBOX (cutbox-rows.mjs): the forced cells as the released guide's own fill.sh prints them over the translation fcde33386fc3399b… (all of the seat's roots in one cut). By AI agents, Wed Nov 11 2026. No macro, syntax, notation, axiom, sorry.
-/
import Derived.Test.YtoceopjhacpjnaaChecked
import GoSem.Claim
import GoSem.ClaimJoined
import GoSem.ClaimMapViews
import Derived.JoinedTies
import Derived.KernelRfl
namespace Go.Proofs.Ytoceopjhacpjnaa
/- THE CELL 'sum', in the pinned program and in every row, IS THE sha256 OF THE DUMP (.gsa) THAT YtoceopjhacpjnaaProg.lean LOADS. Nothing in Lean hashes anything: it is a label: what it is worth is what the hold of that sum in a sandbox is worth. -/
noncomputable def Try.pinned : Pinned := { name := "ytoceopjhacpjnaa", sum := "fcde33386fc3399b1ec8e037596ac4d7305c5dd0936c0404806e4af88b565171", checked := Try.checked }
namespace Rows
def none {H : Type} : Left H := { results := [], args := [] }

/-- 'laws.FnExactIntervalHas': WHATEVER THE INPUT: true; the input reads as it did. -/
def fnExactIntervalHasSpec : ChangeSpec := { name := "fnExactIntervalHas", fn := fun _ => fun
  | [d1, d2] => { results := [.lit (.bool true)], args := [d1, d2] }
  | _ => none }
def fnExactIntervalHasRow : OpenClaim := { program := "ytoceopjhacpjnaa", sum := "fcde33386fc3399b1ec8e037596ac4d7305c5dd0936c0404806e4af88b565171", func := "loop.example/g00380/laws.FnExactIntervalHas", spec := "fnExactIntervalHas", unfollowed := true, recurses := true, apart := false }
def FnExactIntervalHasSaid : Prop := fnExactIntervalHasRow.holds Try.pinned (OpenSpec.ofChange fnExactIntervalHasSpec)

/-- ITS FALSE NEIGHBOUR: 'it returns false'. Refute it at one input. -/
def fnExactIntervalHasWrong : ChangeSpec := { name := "fnExactIntervalHas", fn := fun _ => fun
  | [d1, d2] => { results := [.lit (.bool false)], args := [d1, d2] }
  | _ => none }
def FnExactIntervalHasWrongFalsely : Prop := fnExactIntervalHasRow.holds Try.pinned (OpenSpec.ofChange fnExactIntervalHasWrong)

/-- 'laws.FnExactMeetIntervals': WHATEVER THE INPUT: true; the input reads as it did. -/
def fnExactMeetIntervalsSpec : ChangeSpec := { name := "fnExactMeetIntervals", fn := fun _ => fun
  | [d1, d2] => { results := [.lit (.bool true)], args := [d1, d2] }
  | _ => none }
def fnExactMeetIntervalsRow : OpenClaim := { program := "ytoceopjhacpjnaa", sum := "fcde33386fc3399b1ec8e037596ac4d7305c5dd0936c0404806e4af88b565171", func := "loop.example/g00380/laws.FnExactMeetIntervals", spec := "fnExactMeetIntervals", apart := false }
def FnExactMeetIntervalsSaid : Prop := fnExactMeetIntervalsRow.holds Try.pinned (OpenSpec.ofChange fnExactMeetIntervalsSpec)

/-- ITS FALSE NEIGHBOUR: 'it returns false'. Refute it at one input. -/
def fnExactMeetIntervalsWrong : ChangeSpec := { name := "fnExactMeetIntervals", fn := fun _ => fun
  | [d1, d2] => { results := [.lit (.bool false)], args := [d1, d2] }
  | _ => none }
def FnExactMeetIntervalsWrongFalsely : Prop := fnExactMeetIntervalsRow.holds Try.pinned (OpenSpec.ofChange fnExactMeetIntervalsWrong)

/-- 'laws.FnExactNewTree': WHATEVER THE INPUT: true; the input reads as it did. -/
def fnExactNewTreeSpec : ChangeSpec := { name := "fnExactNewTree", fn := fun _ => fun
  | [] => { results := [.lit (.bool true)], args := [] }
  | _ => none }
def fnExactNewTreeRow : OpenClaim := { program := "ytoceopjhacpjnaa", sum := "fcde33386fc3399b1ec8e037596ac4d7305c5dd0936c0404806e4af88b565171", func := "loop.example/g00380/laws.FnExactNewTree", spec := "fnExactNewTree", apart := false }
def FnExactNewTreeSaid : Prop := fnExactNewTreeRow.holds Try.pinned (OpenSpec.ofChange fnExactNewTreeSpec)

/-- ITS FALSE NEIGHBOUR: 'it returns false'. Refute it at one input. -/
def fnExactNewTreeWrong : ChangeSpec := { name := "fnExactNewTree", fn := fun _ => fun
  | [] => { results := [.lit (.bool false)], args := [] }
  | _ => none }
def FnExactNewTreeWrongFalsely : Prop := fnExactNewTreeRow.holds Try.pinned (OpenSpec.ofChange fnExactNewTreeWrong)

/-- 'laws.FnExactTreeOK': WHATEVER THE INPUT: true; the input reads as it did. -/
def fnExactTreeOKSpec : ChangeSpec := { name := "fnExactTreeOK", fn := fun _ => fun
  | [d] => { results := [.lit (.bool true)], args := [d] }
  | _ => none }
def fnExactTreeOKRow : OpenClaim := { program := "ytoceopjhacpjnaa", sum := "fcde33386fc3399b1ec8e037596ac4d7305c5dd0936c0404806e4af88b565171", func := "loop.example/g00380/laws.FnExactTreeOK", spec := "fnExactTreeOK", inPlace := ["internal/bytealg.abigen_runtime_cmpstring"], apart := false }
def FnExactTreeOKSaid : Prop := fnExactTreeOKRow.holds Try.pinned (OpenSpec.ofChange fnExactTreeOKSpec)

/-- ITS FALSE NEIGHBOUR: 'it returns false'. Refute it at one input. -/
def fnExactTreeOKWrong : ChangeSpec := { name := "fnExactTreeOK", fn := fun _ => fun
  | [d] => { results := [.lit (.bool false)], args := [d] }
  | _ => none }
def FnExactTreeOKWrongFalsely : Prop := fnExactTreeOKRow.holds Try.pinned (OpenSpec.ofChange fnExactTreeOKWrong)

/-- 'laws.FnExactTreeSize': WHATEVER THE INPUT: true; the input reads as it did. -/
def fnExactTreeSizeSpec : ChangeSpec := { name := "fnExactTreeSize", fn := fun _ => fun
  | [d] => { results := [.lit (.bool true)], args := [d] }
  | _ => none }
def fnExactTreeSizeRow : OpenClaim := { program := "ytoceopjhacpjnaa", sum := "fcde33386fc3399b1ec8e037596ac4d7305c5dd0936c0404806e4af88b565171", func := "loop.example/g00380/laws.FnExactTreeSize", spec := "fnExactTreeSize", inPlace := ["internal/bytealg.abigen_runtime_cmpstring"], apart := false }
def FnExactTreeSizeSaid : Prop := fnExactTreeSizeRow.holds Try.pinned (OpenSpec.ofChange fnExactTreeSizeSpec)

/-- ITS FALSE NEIGHBOUR: 'it returns false'. Refute it at one input. -/
def fnExactTreeSizeWrong : ChangeSpec := { name := "fnExactTreeSize", fn := fun _ => fun
  | [d] => { results := [.lit (.bool false)], args := [d] }
  | _ => none }
def FnExactTreeSizeWrongFalsely : Prop := fnExactTreeSizeRow.holds Try.pinned (OpenSpec.ofChange fnExactTreeSizeWrong)

/-- 'laws.FnExactPageAt': WHATEVER THE INPUT: true; the input reads as it did. -/
def fnExactPageAtSpec : ChangeSpec := { name := "fnExactPageAt", fn := fun _ => fun
  | [d1, d2] => { results := [.lit (.bool true)], args := [d1, d2] }
  | _ => none }
def fnExactPageAtRow : OpenClaim := { program := "ytoceopjhacpjnaa", sum := "fcde33386fc3399b1ec8e037596ac4d7305c5dd0936c0404806e4af88b565171", func := "loop.example/g00380/laws.FnExactPageAt", spec := "fnExactPageAt", inPlace := ["internal/bytealg.abigen_runtime_cmpstring"], apart := false }
def FnExactPageAtSaid : Prop := fnExactPageAtRow.holds Try.pinned (OpenSpec.ofChange fnExactPageAtSpec)

/-- ITS FALSE NEIGHBOUR: 'it returns false'. Refute it at one input. -/
def fnExactPageAtWrong : ChangeSpec := { name := "fnExactPageAt", fn := fun _ => fun
  | [d1, d2] => { results := [.lit (.bool false)], args := [d1, d2] }
  | _ => none }
def FnExactPageAtWrongFalsely : Prop := fnExactPageAtRow.holds Try.pinned (OpenSpec.ofChange fnExactPageAtWrong)

/-- 'laws.FnRange': WHATEVER THE INPUT: true; the input reads as it did. -/
def fnRangeSpec : ChangeSpec := { name := "fnRange", fn := fun _ => fun
  | [d1, d2] => { results := [.lit (.bool true)], args := [d1, d2] }
  | _ => none }
def fnRangeRow : OpenClaim := { program := "ytoceopjhacpjnaa", sum := "fcde33386fc3399b1ec8e037596ac4d7305c5dd0936c0404806e4af88b565171", func := "loop.example/g00380/laws.FnRange", spec := "fnRange", inPlace := ["internal/bytealg.abigen_runtime_cmpstring"], unfollowed := true, recurses := true, apart := false }
def FnRangeSaid : Prop := fnRangeRow.holds Try.pinned (OpenSpec.ofChange fnRangeSpec)

/-- ITS FALSE NEIGHBOUR: 'it returns false'. Refute it at one input. -/
def fnRangeWrong : ChangeSpec := { name := "fnRange", fn := fun _ => fun
  | [d1, d2] => { results := [.lit (.bool false)], args := [d1, d2] }
  | _ => none }
def FnRangeWrongFalsely : Prop := fnRangeRow.holds Try.pinned (OpenSpec.ofChange fnRangeWrong)

/-- 'laws.FnExactTreeRange': WHATEVER THE INPUT: true; the input reads as it did. -/
def fnExactTreeRangeSpec : ChangeSpec := { name := "fnExactTreeRange", fn := fun _ => fun
  | [d1, d2] => { results := [.lit (.bool true)], args := [d1, d2] }
  | _ => none }
def fnExactTreeRangeRow : OpenClaim := { program := "ytoceopjhacpjnaa", sum := "fcde33386fc3399b1ec8e037596ac4d7305c5dd0936c0404806e4af88b565171", func := "loop.example/g00380/laws.FnExactTreeRange", spec := "fnExactTreeRange", inPlace := ["internal/bytealg.abigen_runtime_cmpstring"], unfollowed := true, recurses := true, apart := false }
def FnExactTreeRangeSaid : Prop := fnExactTreeRangeRow.holds Try.pinned (OpenSpec.ofChange fnExactTreeRangeSpec)

/-- ITS FALSE NEIGHBOUR: 'it returns false'. Refute it at one input. -/
def fnExactTreeRangeWrong : ChangeSpec := { name := "fnExactTreeRange", fn := fun _ => fun
  | [d1, d2] => { results := [.lit (.bool false)], args := [d1, d2] }
  | _ => none }
def FnExactTreeRangeWrongFalsely : Prop := fnExactTreeRangeRow.holds Try.pinned (OpenSpec.ofChange fnExactTreeRangeWrong)

/-- 'laws.FnExactTreeDrop': WHATEVER THE INPUT: true; the input reads as it did. -/
def fnExactTreeDropSpec : ChangeSpec := { name := "fnExactTreeDrop", fn := fun _ => fun
  | [d1, d2] => { results := [.lit (.bool true)], args := [d1, d2] }
  | _ => none }
def fnExactTreeDropRow : OpenClaim := { program := "ytoceopjhacpjnaa", sum := "fcde33386fc3399b1ec8e037596ac4d7305c5dd0936c0404806e4af88b565171", func := "loop.example/g00380/laws.FnExactTreeDrop", spec := "fnExactTreeDrop", inPlace := ["internal/bytealg.abigen_runtime_cmpstring"], unfollowed := true, recurses := true, apart := false }
def FnExactTreeDropSaid : Prop := fnExactTreeDropRow.holds Try.pinned (OpenSpec.ofChange fnExactTreeDropSpec)

/-- ITS FALSE NEIGHBOUR: 'it returns false'. Refute it at one input. -/
def fnExactTreeDropWrong : ChangeSpec := { name := "fnExactTreeDrop", fn := fun _ => fun
  | [d1, d2] => { results := [.lit (.bool false)], args := [d1, d2] }
  | _ => none }
def FnExactTreeDropWrongFalsely : Prop := fnExactTreeDropRow.holds Try.pinned (OpenSpec.ofChange fnExactTreeDropWrong)

/-- 'laws.FnTree': WHATEVER THE INPUT: true; the input reads as it did. -/
def fnTreeSpec : ChangeSpec := { name := "fnTree", fn := fun _ => fun
  | [d1, d2] => { results := [.lit (.bool true)], args := [d1, d2] }
  | _ => none }
def fnTreeRow : OpenClaim := { program := "ytoceopjhacpjnaa", sum := "fcde33386fc3399b1ec8e037596ac4d7305c5dd0936c0404806e4af88b565171", func := "loop.example/g00380/laws.FnTree", spec := "fnTree", inPlace := ["internal/bytealg.abigen_runtime_cmpstring", "slices.overlaps[loop.example/g00380/impl.Entry]", "slices.overlaps[loop.example/g00380/impl.Page]"], unfollowed := true, recurses := true, apart := false }
def FnTreeSaid : Prop := fnTreeRow.holds Try.pinned (OpenSpec.ofChange fnTreeSpec)

/-- ITS FALSE NEIGHBOUR: 'it returns false'. Refute it at one input. -/
def fnTreeWrong : ChangeSpec := { name := "fnTree", fn := fun _ => fun
  | [d1, d2] => { results := [.lit (.bool false)], args := [d1, d2] }
  | _ => none }
def FnTreeWrongFalsely : Prop := fnTreeRow.holds Try.pinned (OpenSpec.ofChange fnTreeWrong)

/-- 'laws.FnExactTreePut': WHATEVER THE INPUT: true; the input reads as it did. -/
def fnExactTreePutSpec : ChangeSpec := { name := "fnExactTreePut", fn := fun _ => fun
  | [d1, d2] => { results := [.lit (.bool true)], args := [d1, d2] }
  | _ => none }
def fnExactTreePutRow : OpenClaim := { program := "ytoceopjhacpjnaa", sum := "fcde33386fc3399b1ec8e037596ac4d7305c5dd0936c0404806e4af88b565171", func := "loop.example/g00380/laws.FnExactTreePut", spec := "fnExactTreePut", inPlace := ["internal/bytealg.abigen_runtime_cmpstring", "slices.overlaps[loop.example/g00380/impl.Entry]", "slices.overlaps[loop.example/g00380/impl.Page]"], unfollowed := true, recurses := true, apart := false }
def FnExactTreePutSaid : Prop := fnExactTreePutRow.holds Try.pinned (OpenSpec.ofChange fnExactTreePutSpec)

/-- ITS FALSE NEIGHBOUR: 'it returns false'. Refute it at one input. -/
def fnExactTreePutWrong : ChangeSpec := { name := "fnExactTreePut", fn := fun _ => fun
  | [d1, d2] => { results := [.lit (.bool false)], args := [d1, d2] }
  | _ => none }
def FnExactTreePutWrongFalsely : Prop := fnExactTreePutRow.holds Try.pinned (OpenSpec.ofChange fnExactTreePutWrong)

/- THE SECOND FORM. 'bulk': how many values and letters a reading holds, each counted each time it is reached (what is shared counts as often as it is met; a slice's spare places count too). A statement '..UptoSaid' is the law's where the arguments, and the package variables that the reading takes, are together of bulk at most 1048576: NARROWER than '..Said'. Prove '..Said' where nothing that the law and all that it calls make is longer than what came in: it says more and counts as full. Else prove '..UptoSaid'. A law counts once. -/
mutual
def uptoBulk {H : Type} : DataW H → Nat
  | .lit (.string bytes) => bytes.length + 1
  | .lit _ => 1
  | .nil => 1
  | .ptr d => uptoBulk d + 1
  | .slice elems spare => uptoBulkAll elems + uptoBulkAll spare + 1
  | .agg parts => uptoBulkAll parts + 1
  | .iface _ d => uptoBulk d + 1
  | .map entries => uptoBulkEntries entries + 1
  | .held _ => 1
def uptoBulkAll {H : Type} : List (DataW H) → Nat
  | [] => 0
  | d :: r => uptoBulk d + uptoBulkAll r
def uptoBulkEntries {H : Type} : List (Lit × DataW H) → Nat
  | [] => 0
  | x :: r => uptoBulkEntry x + uptoBulkEntries r
def uptoBulkEntry {H : Type} : Lit × DataW H → Nat
  | (.string bytes, d) => bytes.length + uptoBulk d + 1
  | (_, d) => uptoBulk d + 1
 end
def uptoSmall : (H : Type) → List (DataW H) → Bool := fun _ ds => decide (uptoBulkAll ds ≤ 1048576)
def OpenSpec.upto (s : _root_.Go.ChangeSpec) : _root_.Go.OpenSpec := { _root_.Go.OpenSpec.ofChange s with cond := some uptoSmall }

/-- 'laws.FnExactIntervalHas', WHERE WHAT IT READS IS OF BULK AT MOST 1048576: true; the input reads as it did. -/
def fnExactIntervalHasUptoRow : OpenClaim := { program := "ytoceopjhacpjnaa", sum := "fcde33386fc3399b1ec8e037596ac4d7305c5dd0936c0404806e4af88b565171", func := "loop.example/g00380/laws.FnExactIntervalHas", spec := "fnExactIntervalHas", unfollowed := true, recurses := true, apart := false, narrowed := true }
def FnExactIntervalHasUptoSaid : Prop := fnExactIntervalHasUptoRow.holds Try.pinned (OpenSpec.upto fnExactIntervalHasSpec)

/-- 'laws.FnExactMeetIntervals', WHERE WHAT IT READS IS OF BULK AT MOST 1048576: true; the input reads as it did. -/
def fnExactMeetIntervalsUptoRow : OpenClaim := { program := "ytoceopjhacpjnaa", sum := "fcde33386fc3399b1ec8e037596ac4d7305c5dd0936c0404806e4af88b565171", func := "loop.example/g00380/laws.FnExactMeetIntervals", spec := "fnExactMeetIntervals", apart := false, narrowed := true }
def FnExactMeetIntervalsUptoSaid : Prop := fnExactMeetIntervalsUptoRow.holds Try.pinned (OpenSpec.upto fnExactMeetIntervalsSpec)

/-- 'laws.FnExactNewTree', WHERE WHAT IT READS IS OF BULK AT MOST 1048576: true; the input reads as it did. -/
def fnExactNewTreeUptoRow : OpenClaim := { program := "ytoceopjhacpjnaa", sum := "fcde33386fc3399b1ec8e037596ac4d7305c5dd0936c0404806e4af88b565171", func := "loop.example/g00380/laws.FnExactNewTree", spec := "fnExactNewTree", apart := false, narrowed := true }
def FnExactNewTreeUptoSaid : Prop := fnExactNewTreeUptoRow.holds Try.pinned (OpenSpec.upto fnExactNewTreeSpec)

/-- 'laws.FnExactTreeOK', WHERE WHAT IT READS IS OF BULK AT MOST 1048576: true; the input reads as it did. -/
def fnExactTreeOKUptoRow : OpenClaim := { program := "ytoceopjhacpjnaa", sum := "fcde33386fc3399b1ec8e037596ac4d7305c5dd0936c0404806e4af88b565171", func := "loop.example/g00380/laws.FnExactTreeOK", spec := "fnExactTreeOK", inPlace := ["internal/bytealg.abigen_runtime_cmpstring"], apart := false, narrowed := true }
def FnExactTreeOKUptoSaid : Prop := fnExactTreeOKUptoRow.holds Try.pinned (OpenSpec.upto fnExactTreeOKSpec)

/-- 'laws.FnExactTreeSize', WHERE WHAT IT READS IS OF BULK AT MOST 1048576: true; the input reads as it did. -/
def fnExactTreeSizeUptoRow : OpenClaim := { program := "ytoceopjhacpjnaa", sum := "fcde33386fc3399b1ec8e037596ac4d7305c5dd0936c0404806e4af88b565171", func := "loop.example/g00380/laws.FnExactTreeSize", spec := "fnExactTreeSize", inPlace := ["internal/bytealg.abigen_runtime_cmpstring"], apart := false, narrowed := true }
def FnExactTreeSizeUptoSaid : Prop := fnExactTreeSizeUptoRow.holds Try.pinned (OpenSpec.upto fnExactTreeSizeSpec)

/-- 'laws.FnExactPageAt', WHERE WHAT IT READS IS OF BULK AT MOST 1048576: true; the input reads as it did. -/
def fnExactPageAtUptoRow : OpenClaim := { program := "ytoceopjhacpjnaa", sum := "fcde33386fc3399b1ec8e037596ac4d7305c5dd0936c0404806e4af88b565171", func := "loop.example/g00380/laws.FnExactPageAt", spec := "fnExactPageAt", inPlace := ["internal/bytealg.abigen_runtime_cmpstring"], apart := false, narrowed := true }
def FnExactPageAtUptoSaid : Prop := fnExactPageAtUptoRow.holds Try.pinned (OpenSpec.upto fnExactPageAtSpec)

/-- 'laws.FnRange', WHERE WHAT IT READS IS OF BULK AT MOST 1048576: true; the input reads as it did. -/
def fnRangeUptoRow : OpenClaim := { program := "ytoceopjhacpjnaa", sum := "fcde33386fc3399b1ec8e037596ac4d7305c5dd0936c0404806e4af88b565171", func := "loop.example/g00380/laws.FnRange", spec := "fnRange", inPlace := ["internal/bytealg.abigen_runtime_cmpstring"], unfollowed := true, recurses := true, apart := false, narrowed := true }
def FnRangeUptoSaid : Prop := fnRangeUptoRow.holds Try.pinned (OpenSpec.upto fnRangeSpec)

/-- 'laws.FnExactTreeRange', WHERE WHAT IT READS IS OF BULK AT MOST 1048576: true; the input reads as it did. -/
def fnExactTreeRangeUptoRow : OpenClaim := { program := "ytoceopjhacpjnaa", sum := "fcde33386fc3399b1ec8e037596ac4d7305c5dd0936c0404806e4af88b565171", func := "loop.example/g00380/laws.FnExactTreeRange", spec := "fnExactTreeRange", inPlace := ["internal/bytealg.abigen_runtime_cmpstring"], unfollowed := true, recurses := true, apart := false, narrowed := true }
def FnExactTreeRangeUptoSaid : Prop := fnExactTreeRangeUptoRow.holds Try.pinned (OpenSpec.upto fnExactTreeRangeSpec)

/-- 'laws.FnExactTreeDrop', WHERE WHAT IT READS IS OF BULK AT MOST 1048576: true; the input reads as it did. -/
def fnExactTreeDropUptoRow : OpenClaim := { program := "ytoceopjhacpjnaa", sum := "fcde33386fc3399b1ec8e037596ac4d7305c5dd0936c0404806e4af88b565171", func := "loop.example/g00380/laws.FnExactTreeDrop", spec := "fnExactTreeDrop", inPlace := ["internal/bytealg.abigen_runtime_cmpstring"], unfollowed := true, recurses := true, apart := false, narrowed := true }
def FnExactTreeDropUptoSaid : Prop := fnExactTreeDropUptoRow.holds Try.pinned (OpenSpec.upto fnExactTreeDropSpec)

/-- 'laws.FnTree', WHERE WHAT IT READS IS OF BULK AT MOST 1048576: true; the input reads as it did. -/
def fnTreeUptoRow : OpenClaim := { program := "ytoceopjhacpjnaa", sum := "fcde33386fc3399b1ec8e037596ac4d7305c5dd0936c0404806e4af88b565171", func := "loop.example/g00380/laws.FnTree", spec := "fnTree", inPlace := ["internal/bytealg.abigen_runtime_cmpstring", "slices.overlaps[loop.example/g00380/impl.Entry]", "slices.overlaps[loop.example/g00380/impl.Page]"], unfollowed := true, recurses := true, apart := false, narrowed := true }
def FnTreeUptoSaid : Prop := fnTreeUptoRow.holds Try.pinned (OpenSpec.upto fnTreeSpec)

/-- 'laws.FnExactTreePut', WHERE WHAT IT READS IS OF BULK AT MOST 1048576: true; the input reads as it did. -/
def fnExactTreePutUptoRow : OpenClaim := { program := "ytoceopjhacpjnaa", sum := "fcde33386fc3399b1ec8e037596ac4d7305c5dd0936c0404806e4af88b565171", func := "loop.example/g00380/laws.FnExactTreePut", spec := "fnExactTreePut", inPlace := ["internal/bytealg.abigen_runtime_cmpstring", "slices.overlaps[loop.example/g00380/impl.Entry]", "slices.overlaps[loop.example/g00380/impl.Page]"], unfollowed := true, recurses := true, apart := false, narrowed := true }
def FnExactTreePutUptoSaid : Prop := fnExactTreePutUptoRow.holds Try.pinned (OpenSpec.upto fnExactTreePutSpec)

end Rows
end Go.Proofs.Ytoceopjhacpjnaa
