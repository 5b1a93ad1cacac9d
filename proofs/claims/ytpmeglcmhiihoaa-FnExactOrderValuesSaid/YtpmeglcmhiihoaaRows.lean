/-
  No cell of these rows narrows 'for every input' (looked for: loops, veiled, ifaces, maps, wideKeys, modest, calm, conditions, laid).
  DERIVED. THE GIVEN ROWS OF THIS SEAT. 11 by the template 'for every input the law returns true; each argument reads behind the call as it read before'; 0 by the template 'total and deterministic' (their statements: YtpmeglcmhiihoaaTotals.lean).
  GIVEN WITH THE SEED: the statements are not yours to turn. If you find one false, say at which input.
  Laid BY PROGRAM, IN A SANDBOX (cutbox-rows.mjs): the forced cells as the released guide's own fill.sh prints them over the translation 98fc890509465363… (all of the seat's roots in one cut). By AI agents, Wed Nov 11 2026. No macro, syntax, notation, axiom, sorry.
-/
import Derived.Test.YtpmeglcmhiihoaaChecked
import GoSem.Claim
import GoSem.ClaimJoined
import GoSem.ClaimMapViews
import Derived.JoinedTies
import Derived.KernelRfl
namespace Go.Proofs.Ytpmeglcmhiihoaa
/- THE CELL 'sum', in the pinned program and in every row, IS THE sha256 OF THE DUMP (.gsa) THAT YtpmeglcmhiihoaaProg.lean LOADS. Nothing in Lean hashes anything: it is a label: what it is worth is what the hold of that sum in a sandbox is worth. -/
noncomputable def Try.pinned : Pinned := { name := "ytpmeglcmhiihoaa", sum := "98fc890509465363612adbb9065730b9de96c926acd2c886f7fb91a580777aa8", checked := Try.checked }
namespace Rows
def none {H : Type} : Left H := { results := [], args := [] }

/-- 'laws.FnExactValueOK': WHATEVER THE INPUT: true; the input reads as it did. -/
def fnExactValueOKSpec : ChangeSpec := { name := "fnExactValueOK", fn := fun _ => fun
  | [d] => { results := [.lit (.bool true)], args := [d] }
  | _ => none }
def fnExactValueOKRow : OpenClaim := { program := "ytpmeglcmhiihoaa", sum := "98fc890509465363612adbb9065730b9de96c926acd2c886f7fb91a580777aa8", func := "loop.example/g00380/laws.FnExactValueOK", spec := "fnExactValueOK", inPlace := ["internal/abi.NoEscape", "internal/bytealg.MakeNoZero"], unfollowed := true, recurses := true, apart := false }
def FnExactValueOKSaid : Prop := fnExactValueOKRow.holds Try.pinned (OpenSpec.ofChange fnExactValueOKSpec)

/-- ITS FALSE NEIGHBOUR: 'it returns false'. Refute it at one input. -/
def fnExactValueOKWrong : ChangeSpec := { name := "fnExactValueOK", fn := fun _ => fun
  | [d] => { results := [.lit (.bool false)], args := [d] }
  | _ => none }
def FnExactValueOKWrongFalsely : Prop := fnExactValueOKRow.holds Try.pinned (OpenSpec.ofChange fnExactValueOKWrong)

/-- 'laws.FnExactDecodeValue': WHATEVER THE INPUT: true; the input reads as it did. -/
def fnExactDecodeValueSpec : ChangeSpec := { name := "fnExactDecodeValue", fn := fun _ => fun
  | [d] => { results := [.lit (.bool true)], args := [d] }
  | _ => none }
def fnExactDecodeValueRow : OpenClaim := { program := "ytpmeglcmhiihoaa", sum := "98fc890509465363612adbb9065730b9de96c926acd2c886f7fb91a580777aa8", func := "loop.example/g00380/laws.FnExactDecodeValue", spec := "fnExactDecodeValue", inPlace := ["internal/abi.NoEscape", "internal/bytealg.MakeNoZero"], unfollowed := true, recurses := true, apart := false }
def FnExactDecodeValueSaid : Prop := fnExactDecodeValueRow.holds Try.pinned (OpenSpec.ofChange fnExactDecodeValueSpec)

/-- ITS FALSE NEIGHBOUR: 'it returns false'. Refute it at one input. -/
def fnExactDecodeValueWrong : ChangeSpec := { name := "fnExactDecodeValue", fn := fun _ => fun
  | [d] => { results := [.lit (.bool false)], args := [d] }
  | _ => none }
def FnExactDecodeValueWrongFalsely : Prop := fnExactDecodeValueRow.holds Try.pinned (OpenSpec.ofChange fnExactDecodeValueWrong)

/-- 'laws.FnExactDepthOf': WHATEVER THE INPUT: true; the input reads as it did. -/
def fnExactDepthOfSpec : ChangeSpec := { name := "fnExactDepthOf", fn := fun _ => fun
  | [d] => { results := [.lit (.bool true)], args := [d] }
  | _ => none }
def fnExactDepthOfRow : OpenClaim := { program := "ytpmeglcmhiihoaa", sum := "98fc890509465363612adbb9065730b9de96c926acd2c886f7fb91a580777aa8", func := "loop.example/g00380/laws.FnExactDepthOf", spec := "fnExactDepthOf", inPlace := ["internal/abi.NoEscape", "internal/bytealg.MakeNoZero"], unfollowed := true, recurses := true, apart := false }
def FnExactDepthOfSaid : Prop := fnExactDepthOfRow.holds Try.pinned (OpenSpec.ofChange fnExactDepthOfSpec)

/-- ITS FALSE NEIGHBOUR: 'it returns false'. Refute it at one input. -/
def fnExactDepthOfWrong : ChangeSpec := { name := "fnExactDepthOf", fn := fun _ => fun
  | [d] => { results := [.lit (.bool false)], args := [d] }
  | _ => none }
def FnExactDepthOfWrongFalsely : Prop := fnExactDepthOfRow.holds Try.pinned (OpenSpec.ofChange fnExactDepthOfWrong)

/-- 'laws.FnExactEncodeValue': WHATEVER THE INPUT: true; the input reads as it did. -/
def fnExactEncodeValueSpec : ChangeSpec := { name := "fnExactEncodeValue", fn := fun _ => fun
  | [d] => { results := [.lit (.bool true)], args := [d] }
  | _ => none }
def fnExactEncodeValueRow : OpenClaim := { program := "ytpmeglcmhiihoaa", sum := "98fc890509465363612adbb9065730b9de96c926acd2c886f7fb91a580777aa8", func := "loop.example/g00380/laws.FnExactEncodeValue", spec := "fnExactEncodeValue", inPlace := ["internal/abi.NoEscape", "internal/bytealg.MakeNoZero"], unfollowed := true, recurses := true, apart := false }
def FnExactEncodeValueSaid : Prop := fnExactEncodeValueRow.holds Try.pinned (OpenSpec.ofChange fnExactEncodeValueSpec)

/-- ITS FALSE NEIGHBOUR: 'it returns false'. Refute it at one input. -/
def fnExactEncodeValueWrong : ChangeSpec := { name := "fnExactEncodeValue", fn := fun _ => fun
  | [d] => { results := [.lit (.bool false)], args := [d] }
  | _ => none }
def FnExactEncodeValueWrongFalsely : Prop := fnExactEncodeValueRow.holds Try.pinned (OpenSpec.ofChange fnExactEncodeValueWrong)

/-- 'laws.FnExactItemsOf': WHATEVER THE INPUT: true; the input reads as it did. -/
def fnExactItemsOfSpec : ChangeSpec := { name := "fnExactItemsOf", fn := fun _ => fun
  | [d] => { results := [.lit (.bool true)], args := [d] }
  | _ => none }
def fnExactItemsOfRow : OpenClaim := { program := "ytpmeglcmhiihoaa", sum := "98fc890509465363612adbb9065730b9de96c926acd2c886f7fb91a580777aa8", func := "loop.example/g00380/laws.FnExactItemsOf", spec := "fnExactItemsOf", inPlace := ["internal/abi.NoEscape", "internal/bytealg.MakeNoZero"], unfollowed := true, recurses := true, apart := false }
def FnExactItemsOfSaid : Prop := fnExactItemsOfRow.holds Try.pinned (OpenSpec.ofChange fnExactItemsOfSpec)

/-- ITS FALSE NEIGHBOUR: 'it returns false'. Refute it at one input. -/
def fnExactItemsOfWrong : ChangeSpec := { name := "fnExactItemsOf", fn := fun _ => fun
  | [d] => { results := [.lit (.bool false)], args := [d] }
  | _ => none }
def FnExactItemsOfWrongFalsely : Prop := fnExactItemsOfRow.holds Try.pinned (OpenSpec.ofChange fnExactItemsOfWrong)

/-- 'laws.FnExactFieldsOf': WHATEVER THE INPUT: true; the input reads as it did. -/
def fnExactFieldsOfSpec : ChangeSpec := { name := "fnExactFieldsOf", fn := fun _ => fun
  | [d] => { results := [.lit (.bool true)], args := [d] }
  | _ => none }
def fnExactFieldsOfRow : OpenClaim := { program := "ytpmeglcmhiihoaa", sum := "98fc890509465363612adbb9065730b9de96c926acd2c886f7fb91a580777aa8", func := "loop.example/g00380/laws.FnExactFieldsOf", spec := "fnExactFieldsOf", inPlace := ["internal/abi.NoEscape", "internal/bytealg.MakeNoZero"], unfollowed := true, recurses := true, apart := false }
def FnExactFieldsOfSaid : Prop := fnExactFieldsOfRow.holds Try.pinned (OpenSpec.ofChange fnExactFieldsOfSpec)

/-- ITS FALSE NEIGHBOUR: 'it returns false'. Refute it at one input. -/
def fnExactFieldsOfWrong : ChangeSpec := { name := "fnExactFieldsOf", fn := fun _ => fun
  | [d] => { results := [.lit (.bool false)], args := [d] }
  | _ => none }
def FnExactFieldsOfWrongFalsely : Prop := fnExactFieldsOfRow.holds Try.pinned (OpenSpec.ofChange fnExactFieldsOfWrong)

/-- 'laws.FnExactOrderValues': WHATEVER THE INPUT: true; the input reads as it did. -/
def fnExactOrderValuesSpec : ChangeSpec := { name := "fnExactOrderValues", fn := fun _ => fun
  | [d1, d2] => { results := [.lit (.bool true)], args := [d1, d2] }
  | _ => none }
def fnExactOrderValuesRow : OpenClaim := { program := "ytpmeglcmhiihoaa", sum := "98fc890509465363612adbb9065730b9de96c926acd2c886f7fb91a580777aa8", func := "loop.example/g00380/laws.FnExactOrderValues", spec := "fnExactOrderValues", inPlace := ["internal/abi.NoEscape", "internal/bytealg.MakeNoZero", "internal/bytealg.abigen_runtime_cmpstring"], unfollowed := true, recurses := true, apart := false }
def FnExactOrderValuesSaid : Prop := fnExactOrderValuesRow.holds Try.pinned (OpenSpec.ofChange fnExactOrderValuesSpec)

/-- ITS FALSE NEIGHBOUR: 'it returns false'. Refute it at one input. -/
def fnExactOrderValuesWrong : ChangeSpec := { name := "fnExactOrderValues", fn := fun _ => fun
  | [d1, d2] => { results := [.lit (.bool false)], args := [d1, d2] }
  | _ => none }
def FnExactOrderValuesWrongFalsely : Prop := fnExactOrderValuesRow.holds Try.pinned (OpenSpec.ofChange fnExactOrderValuesWrong)

/-- 'laws.FnExactListOf': WHATEVER THE INPUT: true; the input reads as it did. -/
def fnExactListOfSpec : ChangeSpec := { name := "fnExactListOf", fn := fun _ => fun
  | [d] => { results := [.lit (.bool true)], args := [d] }
  | _ => none }
def fnExactListOfRow : OpenClaim := { program := "ytpmeglcmhiihoaa", sum := "98fc890509465363612adbb9065730b9de96c926acd2c886f7fb91a580777aa8", func := "loop.example/g00380/laws.FnExactListOf", spec := "fnExactListOf", inPlace := ["internal/abi.NoEscape", "internal/bytealg.MakeNoZero"], unfollowed := true, recurses := true, apart := false }
def FnExactListOfSaid : Prop := fnExactListOfRow.holds Try.pinned (OpenSpec.ofChange fnExactListOfSpec)

/-- ITS FALSE NEIGHBOUR: 'it returns false'. Refute it at one input. -/
def fnExactListOfWrong : ChangeSpec := { name := "fnExactListOf", fn := fun _ => fun
  | [d] => { results := [.lit (.bool false)], args := [d] }
  | _ => none }
def FnExactListOfWrongFalsely : Prop := fnExactListOfRow.holds Try.pinned (OpenSpec.ofChange fnExactListOfWrong)

/-- 'laws.FnCodec': WHATEVER THE INPUT: true; the input reads as it did. -/
def fnCodecSpec : ChangeSpec := { name := "fnCodec", fn := fun _ => fun
  | [d1, d2] => { results := [.lit (.bool true)], args := [d1, d2] }
  | _ => none }
def fnCodecRow : OpenClaim := { program := "ytpmeglcmhiihoaa", sum := "98fc890509465363612adbb9065730b9de96c926acd2c886f7fb91a580777aa8", func := "loop.example/g00380/laws.FnCodec", spec := "fnCodec", inPlace := ["internal/abi.NoEscape", "internal/bytealg.MakeNoZero"], unfollowed := true, recurses := true, apart := false }
def FnCodecSaid : Prop := fnCodecRow.holds Try.pinned (OpenSpec.ofChange fnCodecSpec)

/-- ITS FALSE NEIGHBOUR: 'it returns false'. Refute it at one input. -/
def fnCodecWrong : ChangeSpec := { name := "fnCodec", fn := fun _ => fun
  | [d1, d2] => { results := [.lit (.bool false)], args := [d1, d2] }
  | _ => none }
def FnCodecWrongFalsely : Prop := fnCodecRow.holds Try.pinned (OpenSpec.ofChange fnCodecWrong)

/-- 'laws.FnExactDocOf': WHATEVER THE INPUT: true; the input reads as it did. -/
def fnExactDocOfSpec : ChangeSpec := { name := "fnExactDocOf", fn := fun _ => fun
  | [d] => { results := [.lit (.bool true)], args := [d] }
  | _ => none }
def fnExactDocOfRow : OpenClaim := { program := "ytpmeglcmhiihoaa", sum := "98fc890509465363612adbb9065730b9de96c926acd2c886f7fb91a580777aa8", func := "loop.example/g00380/laws.FnExactDocOf", spec := "fnExactDocOf", inPlace := ["internal/bytealg.abigen_runtime_cmpstring", "internal/abi.NoEscape", "internal/bytealg.MakeNoZero", "slices.overlaps[loop.example/g00380/impl.Field]"], unfollowed := true, recurses := true, apart := false }
def FnExactDocOfSaid : Prop := fnExactDocOfRow.holds Try.pinned (OpenSpec.ofChange fnExactDocOfSpec)

/-- ITS FALSE NEIGHBOUR: 'it returns false'. Refute it at one input. -/
def fnExactDocOfWrong : ChangeSpec := { name := "fnExactDocOf", fn := fun _ => fun
  | [d] => { results := [.lit (.bool false)], args := [d] }
  | _ => none }
def FnExactDocOfWrongFalsely : Prop := fnExactDocOfRow.holds Try.pinned (OpenSpec.ofChange fnExactDocOfWrong)

/-- 'laws.FnLists': WHATEVER THE INPUT: true; the input reads as it did. -/
def fnListsSpec : ChangeSpec := { name := "fnLists", fn := fun _ => fun
  | [d1, d2] => { results := [.lit (.bool true)], args := [d1, d2] }
  | _ => none }
def fnListsRow : OpenClaim := { program := "ytpmeglcmhiihoaa", sum := "98fc890509465363612adbb9065730b9de96c926acd2c886f7fb91a580777aa8", func := "loop.example/g00380/laws.FnLists", spec := "fnLists", inPlace := ["internal/abi.NoEscape", "internal/bytealg.MakeNoZero", "internal/bytealg.abigen_runtime_cmpstring", "slices.overlaps[loop.example/g00380/impl.Field]"], unfollowed := true, recurses := true, apart := false }
def FnListsSaid : Prop := fnListsRow.holds Try.pinned (OpenSpec.ofChange fnListsSpec)

/-- ITS FALSE NEIGHBOUR: 'it returns false'. Refute it at one input. -/
def fnListsWrong : ChangeSpec := { name := "fnLists", fn := fun _ => fun
  | [d1, d2] => { results := [.lit (.bool false)], args := [d1, d2] }
  | _ => none }
def FnListsWrongFalsely : Prop := fnListsRow.holds Try.pinned (OpenSpec.ofChange fnListsWrong)

/- THE SECOND FORM. 'bulk': how many values and letters a reading holds, each counted each time it is reached (what is shared counts as often as it is met; a slice's spare places count too). A statement '..UptoSaid' is the law's where the arguments, and the package variables that the reading takes, are together of bulk at most 1048576: NARROWER than '..Said'. Prove '..Said' where nothing that the law and all that it calls make is longer than what came in: it says more and counts as full. Else prove '..UptoSaid'. A law counts once. -/
mutual
def uptoBulk {H : Type} : DataW H → Nat
  | .lit (.string bytes) => bytes.length + 1
  | .lit _ => 1
  | .nil => 1
  | .ptr d => uptoBulk d + 1
  | .slice elems spare => uptoBulkAll elems + uptoBulkAll spare + 1
  | .agg parts => uptoBulkAll parts + 1
  | .iface _ d => uptoBulk d + 1
  | .map entries => uptoBulkEntries entries + 1
  | .held _ => 1
def uptoBulkAll {H : Type} : List (DataW H) → Nat
  | [] => 0
  | d :: r => uptoBulk d + uptoBulkAll r
def uptoBulkEntries {H : Type} : List (Lit × DataW H) → Nat
  | [] => 0
  | x :: r => uptoBulkEntry x + uptoBulkEntries r
def uptoBulkEntry {H : Type} : Lit × DataW H → Nat
  | (.string bytes, d) => bytes.length + uptoBulk d + 1
  | (_, d) => uptoBulk d + 1
 end
def uptoSmall : (H : Type) → List (DataW H) → Bool := fun _ ds => decide (uptoBulkAll ds ≤ 1048576)
def OpenSpec.upto (s : _root_.Go.ChangeSpec) : _root_.Go.OpenSpec := { _root_.Go.OpenSpec.ofChange s with cond := some uptoSmall }

/-- 'laws.FnExactValueOK', WHERE WHAT IT READS IS OF BULK AT MOST 1048576: true; the input reads as it did. -/
def fnExactValueOKUptoRow : OpenClaim := { program := "ytpmeglcmhiihoaa", sum := "98fc890509465363612adbb9065730b9de96c926acd2c886f7fb91a580777aa8", func := "loop.example/g00380/laws.FnExactValueOK", spec := "fnExactValueOK", inPlace := ["internal/abi.NoEscape", "internal/bytealg.MakeNoZero"], unfollowed := true, recurses := true, apart := false, narrowed := true }
def FnExactValueOKUptoSaid : Prop := fnExactValueOKUptoRow.holds Try.pinned (OpenSpec.upto fnExactValueOKSpec)

/-- 'laws.FnExactDecodeValue', WHERE WHAT IT READS IS OF BULK AT MOST 1048576: true; the input reads as it did. -/
def fnExactDecodeValueUptoRow : OpenClaim := { program := "ytpmeglcmhiihoaa", sum := "98fc890509465363612adbb9065730b9de96c926acd2c886f7fb91a580777aa8", func := "loop.example/g00380/laws.FnExactDecodeValue", spec := "fnExactDecodeValue", inPlace := ["internal/abi.NoEscape", "internal/bytealg.MakeNoZero"], unfollowed := true, recurses := true, apart := false, narrowed := true }
def FnExactDecodeValueUptoSaid : Prop := fnExactDecodeValueUptoRow.holds Try.pinned (OpenSpec.upto fnExactDecodeValueSpec)

/-- 'laws.FnExactDepthOf', WHERE WHAT IT READS IS OF BULK AT MOST 1048576: true; the input reads as it did. -/
def fnExactDepthOfUptoRow : OpenClaim := { program := "ytpmeglcmhiihoaa", sum := "98fc890509465363612adbb9065730b9de96c926acd2c886f7fb91a580777aa8", func := "loop.example/g00380/laws.FnExactDepthOf", spec := "fnExactDepthOf", inPlace := ["internal/abi.NoEscape", "internal/bytealg.MakeNoZero"], unfollowed := true, recurses := true, apart := false, narrowed := true }
def FnExactDepthOfUptoSaid : Prop := fnExactDepthOfUptoRow.holds Try.pinned (OpenSpec.upto fnExactDepthOfSpec)

/-- 'laws.FnExactEncodeValue', WHERE WHAT IT READS IS OF BULK AT MOST 1048576: true; the input reads as it did. -/
def fnExactEncodeValueUptoRow : OpenClaim := { program := "ytpmeglcmhiihoaa", sum := "98fc890509465363612adbb9065730b9de96c926acd2c886f7fb91a580777aa8", func := "loop.example/g00380/laws.FnExactEncodeValue", spec := "fnExactEncodeValue", inPlace := ["internal/abi.NoEscape", "internal/bytealg.MakeNoZero"], unfollowed := true, recurses := true, apart := false, narrowed := true }
def FnExactEncodeValueUptoSaid : Prop := fnExactEncodeValueUptoRow.holds Try.pinned (OpenSpec.upto fnExactEncodeValueSpec)

/-- 'laws.FnExactItemsOf', WHERE WHAT IT READS IS OF BULK AT MOST 1048576: true; the input reads as it did. -/
def fnExactItemsOfUptoRow : OpenClaim := { program := "ytpmeglcmhiihoaa", sum := "98fc890509465363612adbb9065730b9de96c926acd2c886f7fb91a580777aa8", func := "loop.example/g00380/laws.FnExactItemsOf", spec := "fnExactItemsOf", inPlace := ["internal/abi.NoEscape", "internal/bytealg.MakeNoZero"], unfollowed := true, recurses := true, apart := false, narrowed := true }
def FnExactItemsOfUptoSaid : Prop := fnExactItemsOfUptoRow.holds Try.pinned (OpenSpec.upto fnExactItemsOfSpec)

/-- 'laws.FnExactFieldsOf', WHERE WHAT IT READS IS OF BULK AT MOST 1048576: true; the input reads as it did. -/
def fnExactFieldsOfUptoRow : OpenClaim := { program := "ytpmeglcmhiihoaa", sum := "98fc890509465363612adbb9065730b9de96c926acd2c886f7fb91a580777aa8", func := "loop.example/g00380/laws.FnExactFieldsOf", spec := "fnExactFieldsOf", inPlace := ["internal/abi.NoEscape", "internal/bytealg.MakeNoZero"], unfollowed := true, recurses := true, apart := false, narrowed := true }
def FnExactFieldsOfUptoSaid : Prop := fnExactFieldsOfUptoRow.holds Try.pinned (OpenSpec.upto fnExactFieldsOfSpec)

/-- 'laws.FnExactOrderValues', WHERE WHAT IT READS IS OF BULK AT MOST 1048576: true; the input reads as it did. -/
def fnExactOrderValuesUptoRow : OpenClaim := { program := "ytpmeglcmhiihoaa", sum := "98fc890509465363612adbb9065730b9de96c926acd2c886f7fb91a580777aa8", func := "loop.example/g00380/laws.FnExactOrderValues", spec := "fnExactOrderValues", inPlace := ["internal/abi.NoEscape", "internal/bytealg.MakeNoZero", "internal/bytealg.abigen_runtime_cmpstring"], unfollowed := true, recurses := true, apart := false, narrowed := true }
def FnExactOrderValuesUptoSaid : Prop := fnExactOrderValuesUptoRow.holds Try.pinned (OpenSpec.upto fnExactOrderValuesSpec)

/-- 'laws.FnExactListOf', WHERE WHAT IT READS IS OF BULK AT MOST 1048576: true; the input reads as it did. -/
def fnExactListOfUptoRow : OpenClaim := { program := "ytpmeglcmhiihoaa", sum := "98fc890509465363612adbb9065730b9de96c926acd2c886f7fb91a580777aa8", func := "loop.example/g00380/laws.FnExactListOf", spec := "fnExactListOf", inPlace := ["internal/abi.NoEscape", "internal/bytealg.MakeNoZero"], unfollowed := true, recurses := true, apart := false, narrowed := true }
def FnExactListOfUptoSaid : Prop := fnExactListOfUptoRow.holds Try.pinned (OpenSpec.upto fnExactListOfSpec)

/-- 'laws.FnCodec', WHERE WHAT IT READS IS OF BULK AT MOST 1048576: true; the input reads as it did. -/
def fnCodecUptoRow : OpenClaim := { program := "ytpmeglcmhiihoaa", sum := "98fc890509465363612adbb9065730b9de96c926acd2c886f7fb91a580777aa8", func := "loop.example/g00380/laws.FnCodec", spec := "fnCodec", inPlace := ["internal/abi.NoEscape", "internal/bytealg.MakeNoZero"], unfollowed := true, recurses := true, apart := false, narrowed := true }
def FnCodecUptoSaid : Prop := fnCodecUptoRow.holds Try.pinned (OpenSpec.upto fnCodecSpec)

/-- 'laws.FnExactDocOf', WHERE WHAT IT READS IS OF BULK AT MOST 1048576: true; the input reads as it did. -/
def fnExactDocOfUptoRow : OpenClaim := { program := "ytpmeglcmhiihoaa", sum := "98fc890509465363612adbb9065730b9de96c926acd2c886f7fb91a580777aa8", func := "loop.example/g00380/laws.FnExactDocOf", spec := "fnExactDocOf", inPlace := ["internal/bytealg.abigen_runtime_cmpstring", "internal/abi.NoEscape", "internal/bytealg.MakeNoZero", "slices.overlaps[loop.example/g00380/impl.Field]"], unfollowed := true, recurses := true, apart := false, narrowed := true }
def FnExactDocOfUptoSaid : Prop := fnExactDocOfUptoRow.holds Try.pinned (OpenSpec.upto fnExactDocOfSpec)

/-- 'laws.FnLists', WHERE WHAT IT READS IS OF BULK AT MOST 1048576: true; the input reads as it did. -/
def fnListsUptoRow : OpenClaim := { program := "ytpmeglcmhiihoaa", sum := "98fc890509465363612adbb9065730b9de96c926acd2c886f7fb91a580777aa8", func := "loop.example/g00380/laws.FnLists", spec := "fnLists", inPlace := ["internal/abi.NoEscape", "internal/bytealg.MakeNoZero", "internal/bytealg.abigen_runtime_cmpstring", "slices.overlaps[loop.example/g00380/impl.Field]"], unfollowed := true, recurses := true, apart := false, narrowed := true }
def FnListsUptoSaid : Prop := fnListsUptoRow.holds Try.pinned (OpenSpec.upto fnListsSpec)

end Rows
end Go.Proofs.Ytpmeglcmhiihoaa
