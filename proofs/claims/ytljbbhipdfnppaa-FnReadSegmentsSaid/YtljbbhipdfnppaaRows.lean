/-
  No cell of these rows narrows 'for every input' (looked for: loops, veiled, ifaces, maps, wideKeys, modest, calm, conditions, laid).
  DERIVED. THE GIVEN ROWS OF THIS SEAT. 6 by the template 'for every input the law returns true; each argument reads behind the call as it read before'; 0 by the template 'total and deterministic' (their statements: YtljbbhipdfnppaaTotals.lean).
  GIVEN WITH THE SEED: the statements are not yours to turn. If you find one false, say at which input.
  Laid BY PROGRAM, IN A SANDBOX (cutbox-rows.mjs): the forced cells as the released guide's own fill.sh prints them over the translation 6786176faf876def… (all of the seat's roots in one cut). By AI agents, Wed Nov 11 2026. No macro, syntax, notation, axiom, sorry.
-/
import Derived.Test.YtljbbhipdfnppaaChecked
import GoSem.Claim
import GoSem.ClaimJoined
import GoSem.ClaimMapViews
import Derived.JoinedTies
import Derived.KernelRfl
namespace Go.Proofs.Ytljbbhipdfnppaa
/- THE CELL 'sum', in the pinned program and in every row, IS THE sha256 OF THE DUMP (.gsa) THAT YtljbbhipdfnppaaProg.lean LOADS. Nothing in Lean hashes anything: it is a label: what it is worth is what the hold of that sum in a sandbox is worth. -/
noncomputable def Try.pinned : Pinned := { name := "ytljbbhipdfnppaa", sum := "6786176faf876def324b8389db11ca5863364ea3f3948ba89f4abc78d17c7fab", checked := Try.checked }
namespace Rows
def none {H : Type} : Left H := { results := [], args := [] }

/-- 'laws.FnSegmentValid': WHATEVER THE INPUT: true; the input reads as it did. -/
def fnSegmentValidSpec : ChangeSpec := { name := "fnSegmentValid", fn := fun _ => fun
  | [d] => { results := [.lit (.bool true)], args := [d] }
  | _ => none }
def fnSegmentValidRow : OpenClaim := { program := "ytljbbhipdfnppaa", sum := "6786176faf876def324b8389db11ca5863364ea3f3948ba89f4abc78d17c7fab", func := "loop.example/containerport/laws.FnSegmentValid", spec := "fnSegmentValid", inPlace := ["internal/bytealg.IndexByteString"], unfollowed := true, recurses := true, apart := false }
def FnSegmentValidSaid : Prop := fnSegmentValidRow.holds Try.pinned (OpenSpec.ofChange fnSegmentValidSpec)

/-- ITS FALSE NEIGHBOUR: 'it returns false'. Refute it at one input. -/
def fnSegmentValidWrong : ChangeSpec := { name := "fnSegmentValid", fn := fun _ => fun
  | [d] => { results := [.lit (.bool false)], args := [d] }
  | _ => none }
def FnSegmentValidWrongFalsely : Prop := fnSegmentValidRow.holds Try.pinned (OpenSpec.ofChange fnSegmentValidWrong)

/-- 'laws.FnSegmentText': WHATEVER THE INPUT: true; the input reads as it did. -/
def fnSegmentTextSpec : ChangeSpec := { name := "fnSegmentText", fn := fun _ => fun
  | [d] => { results := [.lit (.bool true)], args := [d] }
  | _ => none }
def fnSegmentTextRow : OpenClaim := { program := "ytljbbhipdfnppaa", sum := "6786176faf876def324b8389db11ca5863364ea3f3948ba89f4abc78d17c7fab", func := "loop.example/containerport/laws.FnSegmentText", spec := "fnSegmentText", inPlace := ["internal/abi.NoEscape", "internal/bytealg.MakeNoZero", "internal/bytealg.IndexByteString"], unfollowed := true, recurses := true, apart := false }
def FnSegmentTextSaid : Prop := fnSegmentTextRow.holds Try.pinned (OpenSpec.ofChange fnSegmentTextSpec)

/-- ITS FALSE NEIGHBOUR: 'it returns false'. Refute it at one input. -/
def fnSegmentTextWrong : ChangeSpec := { name := "fnSegmentText", fn := fun _ => fun
  | [d] => { results := [.lit (.bool false)], args := [d] }
  | _ => none }
def FnSegmentTextWrongFalsely : Prop := fnSegmentTextRow.holds Try.pinned (OpenSpec.ofChange fnSegmentTextWrong)

/-- 'laws.FnExactReadSegment': WHATEVER THE INPUT: true; the input reads as it did. -/
def fnExactReadSegmentSpec : ChangeSpec := { name := "fnExactReadSegment", fn := fun _ => fun
  | [d] => { results := [.lit (.bool true)], args := [d] }
  | _ => none }
def fnExactReadSegmentRow : OpenClaim := { program := "ytljbbhipdfnppaa", sum := "6786176faf876def324b8389db11ca5863364ea3f3948ba89f4abc78d17c7fab", func := "loop.example/containerport/laws.FnExactReadSegment", spec := "fnExactReadSegment", inPlace := ["internal/abi.NoEscape", "internal/bytealg.MakeNoZero"], unfollowed := true, recurses := true, apart := false }
def FnExactReadSegmentSaid : Prop := fnExactReadSegmentRow.holds Try.pinned (OpenSpec.ofChange fnExactReadSegmentSpec)

/-- ITS FALSE NEIGHBOUR: 'it returns false'. Refute it at one input. -/
def fnExactReadSegmentWrong : ChangeSpec := { name := "fnExactReadSegment", fn := fun _ => fun
  | [d] => { results := [.lit (.bool false)], args := [d] }
  | _ => none }
def FnExactReadSegmentWrongFalsely : Prop := fnExactReadSegmentRow.holds Try.pinned (OpenSpec.ofChange fnExactReadSegmentWrong)

/-- 'laws.FnExactReadSegments': WHATEVER THE INPUT: true; the input reads as it did. -/
def fnExactReadSegmentsSpec : ChangeSpec := { name := "fnExactReadSegments", fn := fun _ => fun
  | [d] => { results := [.lit (.bool true)], args := [d] }
  | _ => none }
def fnExactReadSegmentsRow : OpenClaim := { program := "ytljbbhipdfnppaa", sum := "6786176faf876def324b8389db11ca5863364ea3f3948ba89f4abc78d17c7fab", func := "loop.example/containerport/laws.FnExactReadSegments", spec := "fnExactReadSegments", inPlace := ["internal/abi.NoEscape", "internal/bytealg.MakeNoZero"], unfollowed := true, recurses := true, apart := false }
def FnExactReadSegmentsSaid : Prop := fnExactReadSegmentsRow.holds Try.pinned (OpenSpec.ofChange fnExactReadSegmentsSpec)

/-- ITS FALSE NEIGHBOUR: 'it returns false'. Refute it at one input. -/
def fnExactReadSegmentsWrong : ChangeSpec := { name := "fnExactReadSegments", fn := fun _ => fun
  | [d] => { results := [.lit (.bool false)], args := [d] }
  | _ => none }
def FnExactReadSegmentsWrongFalsely : Prop := fnExactReadSegmentsRow.holds Try.pinned (OpenSpec.ofChange fnExactReadSegmentsWrong)

/-- 'laws.FnReadSegment': WHATEVER THE INPUT: true; the input reads as it did. -/
def fnReadSegmentSpec : ChangeSpec := { name := "fnReadSegment", fn := fun _ => fun
  | [d] => { results := [.lit (.bool true)], args := [d] }
  | _ => none }
def fnReadSegmentRow : OpenClaim := { program := "ytljbbhipdfnppaa", sum := "6786176faf876def324b8389db11ca5863364ea3f3948ba89f4abc78d17c7fab", func := "loop.example/containerport/laws.FnReadSegment", spec := "fnReadSegment", inPlace := ["internal/abi.NoEscape", "internal/bytealg.MakeNoZero", "internal/bytealg.IndexByteString"], unfollowed := true, recurses := true, apart := false }
def FnReadSegmentSaid : Prop := fnReadSegmentRow.holds Try.pinned (OpenSpec.ofChange fnReadSegmentSpec)

/-- ITS FALSE NEIGHBOUR: 'it returns false'. Refute it at one input. -/
def fnReadSegmentWrong : ChangeSpec := { name := "fnReadSegment", fn := fun _ => fun
  | [d] => { results := [.lit (.bool false)], args := [d] }
  | _ => none }
def FnReadSegmentWrongFalsely : Prop := fnReadSegmentRow.holds Try.pinned (OpenSpec.ofChange fnReadSegmentWrong)

/-- 'laws.FnReadSegments': WHATEVER THE INPUT: true; the input reads as it did. -/
def fnReadSegmentsSpec : ChangeSpec := { name := "fnReadSegments", fn := fun _ => fun
  | [d] => { results := [.lit (.bool true)], args := [d] }
  | _ => none }
def fnReadSegmentsRow : OpenClaim := { program := "ytljbbhipdfnppaa", sum := "6786176faf876def324b8389db11ca5863364ea3f3948ba89f4abc78d17c7fab", func := "loop.example/containerport/laws.FnReadSegments", spec := "fnReadSegments", inPlace := ["internal/abi.NoEscape", "internal/bytealg.MakeNoZero", "internal/bytealg.IndexByteString"], unfollowed := true, recurses := true, apart := false }
def FnReadSegmentsSaid : Prop := fnReadSegmentsRow.holds Try.pinned (OpenSpec.ofChange fnReadSegmentsSpec)

/-- ITS FALSE NEIGHBOUR: 'it returns false'. Refute it at one input. -/
def fnReadSegmentsWrong : ChangeSpec := { name := "fnReadSegments", fn := fun _ => fun
  | [d] => { results := [.lit (.bool false)], args := [d] }
  | _ => none }
def FnReadSegmentsWrongFalsely : Prop := fnReadSegmentsRow.holds Try.pinned (OpenSpec.ofChange fnReadSegmentsWrong)

/- THE SECOND FORM. 'bulk': how many values and letters a reading holds, each counted each time it is reached (what is shared counts as often as it is met; a slice's spare places count too). A statement '..UptoSaid' is the law's where the arguments, and the package variables that the reading takes, are together of bulk at most 1048576: NARROWER than '..Said'. Prove '..Said' where nothing that the law and all that it calls make is longer than what came in: it says more and counts as full. Else prove '..UptoSaid'. A law counts once. -/
mutual
def uptoBulk {H : Type} : DataW H → Nat
  | .lit (.string bytes) => bytes.length + 1
  | .lit _ => 1
  | .nil => 1
  | .ptr d => uptoBulk d + 1
  | .slice elems spare => uptoBulkAll elems + uptoBulkAll spare + 1
  | .agg parts => uptoBulkAll parts + 1
  | .iface _ d => uptoBulk d + 1
  | .map entries => uptoBulkEntries entries + 1
  | .held _ => 1
def uptoBulkAll {H : Type} : List (DataW H) → Nat
  | [] => 0
  | d :: r => uptoBulk d + uptoBulkAll r
def uptoBulkEntries {H : Type} : List (Lit × DataW H) → Nat
  | [] => 0
  | x :: r => uptoBulkEntry x + uptoBulkEntries r
def uptoBulkEntry {H : Type} : Lit × DataW H → Nat
  | (.string bytes, d) => bytes.length + uptoBulk d + 1
  | (_, d) => uptoBulk d + 1
 end
def uptoSmall : (H : Type) → List (DataW H) → Bool := fun _ ds => decide (uptoBulkAll ds ≤ 1048576)
def OpenSpec.upto (s : _root_.Go.ChangeSpec) : _root_.Go.OpenSpec := { _root_.Go.OpenSpec.ofChange s with cond := some uptoSmall }

/-- 'laws.FnSegmentValid', WHERE WHAT IT READS IS OF BULK AT MOST 1048576: true; the input reads as it did. -/
def fnSegmentValidUptoRow : OpenClaim := { program := "ytljbbhipdfnppaa", sum := "6786176faf876def324b8389db11ca5863364ea3f3948ba89f4abc78d17c7fab", func := "loop.example/containerport/laws.FnSegmentValid", spec := "fnSegmentValid", inPlace := ["internal/bytealg.IndexByteString"], unfollowed := true, recurses := true, apart := false, narrowed := true }
def FnSegmentValidUptoSaid : Prop := fnSegmentValidUptoRow.holds Try.pinned (OpenSpec.upto fnSegmentValidSpec)

/-- 'laws.FnSegmentText', WHERE WHAT IT READS IS OF BULK AT MOST 1048576: true; the input reads as it did. -/
def fnSegmentTextUptoRow : OpenClaim := { program := "ytljbbhipdfnppaa", sum := "6786176faf876def324b8389db11ca5863364ea3f3948ba89f4abc78d17c7fab", func := "loop.example/containerport/laws.FnSegmentText", spec := "fnSegmentText", inPlace := ["internal/abi.NoEscape", "internal/bytealg.MakeNoZero", "internal/bytealg.IndexByteString"], unfollowed := true, recurses := true, apart := false, narrowed := true }
def FnSegmentTextUptoSaid : Prop := fnSegmentTextUptoRow.holds Try.pinned (OpenSpec.upto fnSegmentTextSpec)

/-- 'laws.FnExactReadSegment', WHERE WHAT IT READS IS OF BULK AT MOST 1048576: true; the input reads as it did. -/
def fnExactReadSegmentUptoRow : OpenClaim := { program := "ytljbbhipdfnppaa", sum := "6786176faf876def324b8389db11ca5863364ea3f3948ba89f4abc78d17c7fab", func := "loop.example/containerport/laws.FnExactReadSegment", spec := "fnExactReadSegment", inPlace := ["internal/abi.NoEscape", "internal/bytealg.MakeNoZero"], unfollowed := true, recurses := true, apart := false, narrowed := true }
def FnExactReadSegmentUptoSaid : Prop := fnExactReadSegmentUptoRow.holds Try.pinned (OpenSpec.upto fnExactReadSegmentSpec)

/-- 'laws.FnExactReadSegments', WHERE WHAT IT READS IS OF BULK AT MOST 1048576: true; the input reads as it did. -/
def fnExactReadSegmentsUptoRow : OpenClaim := { program := "ytljbbhipdfnppaa", sum := "6786176faf876def324b8389db11ca5863364ea3f3948ba89f4abc78d17c7fab", func := "loop.example/containerport/laws.FnExactReadSegments", spec := "fnExactReadSegments", inPlace := ["internal/abi.NoEscape", "internal/bytealg.MakeNoZero"], unfollowed := true, recurses := true, apart := false, narrowed := true }
def FnExactReadSegmentsUptoSaid : Prop := fnExactReadSegmentsUptoRow.holds Try.pinned (OpenSpec.upto fnExactReadSegmentsSpec)

/-- 'laws.FnReadSegment', WHERE WHAT IT READS IS OF BULK AT MOST 1048576: true; the input reads as it did. -/
def fnReadSegmentUptoRow : OpenClaim := { program := "ytljbbhipdfnppaa", sum := "6786176faf876def324b8389db11ca5863364ea3f3948ba89f4abc78d17c7fab", func := "loop.example/containerport/laws.FnReadSegment", spec := "fnReadSegment", inPlace := ["internal/abi.NoEscape", "internal/bytealg.MakeNoZero", "internal/bytealg.IndexByteString"], unfollowed := true, recurses := true, apart := false, narrowed := true }
def FnReadSegmentUptoSaid : Prop := fnReadSegmentUptoRow.holds Try.pinned (OpenSpec.upto fnReadSegmentSpec)

/-- 'laws.FnReadSegments', WHERE WHAT IT READS IS OF BULK AT MOST 1048576: true; the input reads as it did. -/
def fnReadSegmentsUptoRow : OpenClaim := { program := "ytljbbhipdfnppaa", sum := "6786176faf876def324b8389db11ca5863364ea3f3948ba89f4abc78d17c7fab", func := "loop.example/containerport/laws.FnReadSegments", spec := "fnReadSegments", inPlace := ["internal/abi.NoEscape", "internal/bytealg.MakeNoZero", "internal/bytealg.IndexByteString"], unfollowed := true, recurses := true, apart := false, narrowed := true }
def FnReadSegmentsUptoSaid : Prop := fnReadSegmentsUptoRow.holds Try.pinned (OpenSpec.upto fnReadSegmentsSpec)

end Rows
end Go.Proofs.Ytljbbhipdfnppaa
