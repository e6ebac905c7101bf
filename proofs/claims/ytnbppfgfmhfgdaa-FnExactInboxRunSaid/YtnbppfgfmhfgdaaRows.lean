/-
  No cell of these rows narrows 'for every input' (looked for: loops, veiled, ifaces, maps, wideKeys, modest, calm, conditions, laid).
  DERIVED. THE GIVEN ROWS OF THIS SEAT. 8 by the template 'for every input the law returns true; each argument reads behind the call as it read before'; 0 by the template 'total and deterministic' (their statements: YtnbppfgfmhfgdaaTotals.lean).
  GIVEN WITH THE SEED: the statements are not yours to turn. If you find one false, say at which input.
  Laid BY PROGRAM, IN A SANDBOX (cutbox-rows.mjs): the forced cells as the released guide's own fill.sh prints them over the translation 24ee79cf1bb83497… (all of the seat's roots in one cut). By AI agents, Wed Nov 11 2026. No macro, syntax, notation, axiom, sorry.
-/
import Derived.Test.YtnbppfgfmhfgdaaChecked
import GoSem.Claim
import GoSem.ClaimJoined
import GoSem.ClaimMapViews
import Derived.JoinedTies
import Derived.KernelRfl
namespace Go.Proofs.Ytnbppfgfmhfgdaa
/- THE CELL 'sum', in the pinned program and in every row, IS THE sha256 OF THE DUMP (.gsa) THAT YtnbppfgfmhfgdaaProg.lean LOADS. Nothing in Lean hashes anything: it is a label: what it is worth is what the hold of that sum in a sandbox is worth. -/
noncomputable def Try.pinned : Pinned := { name := "ytnbppfgfmhfgdaa", sum := "24ee79cf1bb834979c877368f7ef127cdba8cd98c18ffe5cdf0ecf0bd6a6a44e", checked := Try.checked }
namespace Rows
def none {H : Type} : Left H := { results := [], args := [] }

/-- 'laws.FnExactInboxValid': WHATEVER THE INPUT: true; the input reads as it did. -/
def fnExactInboxValidSpec : ChangeSpec := { name := "fnExactInboxValid", fn := fun _ => fun
  | [d] => { results := [.lit (.bool true)], args := [d] }
  | _ => none }
def fnExactInboxValidRow : OpenClaim := { program := "ytnbppfgfmhfgdaa", sum := "24ee79cf1bb834979c877368f7ef127cdba8cd98c18ffe5cdf0ecf0bd6a6a44e", func := "loop.example/containerport/laws.FnExactInboxValid", spec := "fnExactInboxValid", apart := false }
def FnExactInboxValidSaid : Prop := fnExactInboxValidRow.holds Try.pinned (OpenSpec.ofChange fnExactInboxValidSpec)

/-- ITS FALSE NEIGHBOUR: 'it returns false'. Refute it at one input. -/
def fnExactInboxValidWrong : ChangeSpec := { name := "fnExactInboxValid", fn := fun _ => fun
  | [d] => { results := [.lit (.bool false)], args := [d] }
  | _ => none }
def FnExactInboxValidWrongFalsely : Prop := fnExactInboxValidRow.holds Try.pinned (OpenSpec.ofChange fnExactInboxValidWrong)

/-- 'laws.FnExactInboxMissing': WHATEVER THE INPUT: true; the input reads as it did. -/
def fnExactInboxMissingSpec : ChangeSpec := { name := "fnExactInboxMissing", fn := fun _ => fun
  | [d] => { results := [.lit (.bool true)], args := [d] }
  | _ => none }
def fnExactInboxMissingRow : OpenClaim := { program := "ytnbppfgfmhfgdaa", sum := "24ee79cf1bb834979c877368f7ef127cdba8cd98c18ffe5cdf0ecf0bd6a6a44e", func := "loop.example/containerport/laws.FnExactInboxMissing", spec := "fnExactInboxMissing", apart := false }
def FnExactInboxMissingSaid : Prop := fnExactInboxMissingRow.holds Try.pinned (OpenSpec.ofChange fnExactInboxMissingSpec)

/-- ITS FALSE NEIGHBOUR: 'it returns false'. Refute it at one input. -/
def fnExactInboxMissingWrong : ChangeSpec := { name := "fnExactInboxMissing", fn := fun _ => fun
  | [d] => { results := [.lit (.bool false)], args := [d] }
  | _ => none }
def FnExactInboxMissingWrongFalsely : Prop := fnExactInboxMissingRow.holds Try.pinned (OpenSpec.ofChange fnExactInboxMissingWrong)

/-- 'laws.FnInboxValid': WHATEVER THE INPUT: true; the input reads as it did. -/
def fnInboxValidSpec : ChangeSpec := { name := "fnInboxValid", fn := fun _ => fun
  | [d] => { results := [.lit (.bool true)], args := [d] }
  | _ => none }
def fnInboxValidRow : OpenClaim := { program := "ytnbppfgfmhfgdaa", sum := "24ee79cf1bb834979c877368f7ef127cdba8cd98c18ffe5cdf0ecf0bd6a6a44e", func := "loop.example/containerport/laws.FnInboxValid", spec := "fnInboxValid", inPlace := ["internal/bytealg.IndexByteString"], apart := false }
def FnInboxValidSaid : Prop := fnInboxValidRow.holds Try.pinned (OpenSpec.ofChange fnInboxValidSpec)

/-- ITS FALSE NEIGHBOUR: 'it returns false'. Refute it at one input. -/
def fnInboxValidWrong : ChangeSpec := { name := "fnInboxValid", fn := fun _ => fun
  | [d] => { results := [.lit (.bool false)], args := [d] }
  | _ => none }
def FnInboxValidWrongFalsely : Prop := fnInboxValidRow.holds Try.pinned (OpenSpec.ofChange fnInboxValidWrong)

/-- 'laws.FnExactInboxTake': WHATEVER THE INPUT: true; the input reads as it did. -/
def fnExactInboxTakeSpec : ChangeSpec := { name := "fnExactInboxTake", fn := fun _ => fun
  | [d1, d2] => { results := [.lit (.bool true)], args := [d1, d2] }
  | _ => none }
def fnExactInboxTakeRow : OpenClaim := { program := "ytnbppfgfmhfgdaa", sum := "24ee79cf1bb834979c877368f7ef127cdba8cd98c18ffe5cdf0ecf0bd6a6a44e", func := "loop.example/containerport/laws.FnExactInboxTake", spec := "fnExactInboxTake", inPlace := ["slices.overlaps[loop.example/containerport/impl.Message]"], unfollowed := true, recurses := true, apart := false }
def FnExactInboxTakeSaid : Prop := fnExactInboxTakeRow.holds Try.pinned (OpenSpec.ofChange fnExactInboxTakeSpec)

/-- ITS FALSE NEIGHBOUR: 'it returns false'. Refute it at one input. -/
def fnExactInboxTakeWrong : ChangeSpec := { name := "fnExactInboxTake", fn := fun _ => fun
  | [d1, d2] => { results := [.lit (.bool false)], args := [d1, d2] }
  | _ => none }
def FnExactInboxTakeWrongFalsely : Prop := fnExactInboxTakeRow.holds Try.pinned (OpenSpec.ofChange fnExactInboxTakeWrong)

/-- 'laws.FnInboxTake': WHATEVER THE INPUT: true; the input reads as it did. -/
def fnInboxTakeSpec : ChangeSpec := { name := "fnInboxTake", fn := fun _ => fun
  | [d] => { results := [.lit (.bool true)], args := [d] }
  | _ => none }
def fnInboxTakeRow : OpenClaim := { program := "ytnbppfgfmhfgdaa", sum := "24ee79cf1bb834979c877368f7ef127cdba8cd98c18ffe5cdf0ecf0bd6a6a44e", func := "loop.example/containerport/laws.FnInboxTake", spec := "fnInboxTake", inPlace := ["slices.overlaps[loop.example/containerport/impl.Message]", "internal/bytealg.IndexByteString"], unfollowed := true, recurses := true, apart := false }
def FnInboxTakeSaid : Prop := fnInboxTakeRow.holds Try.pinned (OpenSpec.ofChange fnInboxTakeSpec)

/-- ITS FALSE NEIGHBOUR: 'it returns false'. Refute it at one input. -/
def fnInboxTakeWrong : ChangeSpec := { name := "fnInboxTake", fn := fun _ => fun
  | [d] => { results := [.lit (.bool false)], args := [d] }
  | _ => none }
def FnInboxTakeWrongFalsely : Prop := fnInboxTakeRow.holds Try.pinned (OpenSpec.ofChange fnInboxTakeWrong)

/-- 'laws.FnExactInboxRun': WHATEVER THE INPUT: true; the input reads as it did. -/
def fnExactInboxRunSpec : ChangeSpec := { name := "fnExactInboxRun", fn := fun _ => fun
  | [d1, d2] => { results := [.lit (.bool true)], args := [d1, d2] }
  | _ => none }
def fnExactInboxRunRow : OpenClaim := { program := "ytnbppfgfmhfgdaa", sum := "24ee79cf1bb834979c877368f7ef127cdba8cd98c18ffe5cdf0ecf0bd6a6a44e", func := "loop.example/containerport/laws.FnExactInboxRun", spec := "fnExactInboxRun", inPlace := ["slices.overlaps[loop.example/containerport/impl.Message]"], unfollowed := true, recurses := true, apart := false }
def FnExactInboxRunSaid : Prop := fnExactInboxRunRow.holds Try.pinned (OpenSpec.ofChange fnExactInboxRunSpec)

/-- ITS FALSE NEIGHBOUR: 'it returns false'. Refute it at one input. -/
def fnExactInboxRunWrong : ChangeSpec := { name := "fnExactInboxRun", fn := fun _ => fun
  | [d1, d2] => { results := [.lit (.bool false)], args := [d1, d2] }
  | _ => none }
def FnExactInboxRunWrongFalsely : Prop := fnExactInboxRunRow.holds Try.pinned (OpenSpec.ofChange fnExactInboxRunWrong)

/-- 'laws.FnInboxRun': WHATEVER THE INPUT: true; the input reads as it did. -/
def fnInboxRunSpec : ChangeSpec := { name := "fnInboxRun", fn := fun _ => fun
  | [d] => { results := [.lit (.bool true)], args := [d] }
  | _ => none }
def fnInboxRunRow : OpenClaim := { program := "ytnbppfgfmhfgdaa", sum := "24ee79cf1bb834979c877368f7ef127cdba8cd98c18ffe5cdf0ecf0bd6a6a44e", func := "loop.example/containerport/laws.FnInboxRun", spec := "fnInboxRun", inPlace := ["slices.overlaps[loop.example/containerport/impl.Message]", "internal/bytealg.IndexByteString"], unfollowed := true, recurses := true, apart := false }
def FnInboxRunSaid : Prop := fnInboxRunRow.holds Try.pinned (OpenSpec.ofChange fnInboxRunSpec)

/-- ITS FALSE NEIGHBOUR: 'it returns false'. Refute it at one input. -/
def fnInboxRunWrong : ChangeSpec := { name := "fnInboxRun", fn := fun _ => fun
  | [d] => { results := [.lit (.bool false)], args := [d] }
  | _ => none }
def FnInboxRunWrongFalsely : Prop := fnInboxRunRow.holds Try.pinned (OpenSpec.ofChange fnInboxRunWrong)

/-- 'laws.FnInboxMissing': WHATEVER THE INPUT: true; the input reads as it did. -/
def fnInboxMissingSpec : ChangeSpec := { name := "fnInboxMissing", fn := fun _ => fun
  | [d] => { results := [.lit (.bool true)], args := [d] }
  | _ => none }
def fnInboxMissingRow : OpenClaim := { program := "ytnbppfgfmhfgdaa", sum := "24ee79cf1bb834979c877368f7ef127cdba8cd98c18ffe5cdf0ecf0bd6a6a44e", func := "loop.example/containerport/laws.FnInboxMissing", spec := "fnInboxMissing", inPlace := ["internal/bytealg.IndexByteString", "slices.overlaps[loop.example/containerport/impl.Message]"], unfollowed := true, recurses := true, apart := false }
def FnInboxMissingSaid : Prop := fnInboxMissingRow.holds Try.pinned (OpenSpec.ofChange fnInboxMissingSpec)

/-- ITS FALSE NEIGHBOUR: 'it returns false'. Refute it at one input. -/
def fnInboxMissingWrong : ChangeSpec := { name := "fnInboxMissing", fn := fun _ => fun
  | [d] => { results := [.lit (.bool false)], args := [d] }
  | _ => none }
def FnInboxMissingWrongFalsely : Prop := fnInboxMissingRow.holds Try.pinned (OpenSpec.ofChange fnInboxMissingWrong)

/- THE SECOND FORM. 'bulk': how many values and letters a reading holds, each counted each time it is reached (what is shared counts as often as it is met; a slice's spare places count too). A statement '..UptoSaid' is the law's where the arguments, and the package variables that the reading takes, are together of bulk at most 1048576: NARROWER than '..Said'. Prove '..Said' where nothing that the law and all that it calls make is longer than what came in: it says more and counts as full. Else prove '..UptoSaid'. A law counts once. -/
mutual
def uptoBulk {H : Type} : DataW H → Nat
  | .lit (.string bytes) => bytes.length + 1
  | .lit _ => 1
  | .nil => 1
  | .ptr d => uptoBulk d + 1
  | .slice elems spare => uptoBulkAll elems + uptoBulkAll spare + 1
  | .agg parts => uptoBulkAll parts + 1
  | .iface _ d => uptoBulk d + 1
  | .map entries => uptoBulkEntries entries + 1
  | .held _ => 1
def uptoBulkAll {H : Type} : List (DataW H) → Nat
  | [] => 0
  | d :: r => uptoBulk d + uptoBulkAll r
def uptoBulkEntries {H : Type} : List (Lit × DataW H) → Nat
  | [] => 0
  | x :: r => uptoBulkEntry x + uptoBulkEntries r
def uptoBulkEntry {H : Type} : Lit × DataW H → Nat
  | (.string bytes, d) => bytes.length + uptoBulk d + 1
  | (_, d) => uptoBulk d + 1
 end
def uptoSmall : (H : Type) → List (DataW H) → Bool := fun _ ds => decide (uptoBulkAll ds ≤ 1048576)
def OpenSpec.upto (s : _root_.Go.ChangeSpec) : _root_.Go.OpenSpec := { _root_.Go.OpenSpec.ofChange s with cond := some uptoSmall }

/-- 'laws.FnExactInboxValid', WHERE WHAT IT READS IS OF BULK AT MOST 1048576: true; the input reads as it did. -/
def fnExactInboxValidUptoRow : OpenClaim := { program := "ytnbppfgfmhfgdaa", sum := "24ee79cf1bb834979c877368f7ef127cdba8cd98c18ffe5cdf0ecf0bd6a6a44e", func := "loop.example/containerport/laws.FnExactInboxValid", spec := "fnExactInboxValid", apart := false, narrowed := true }
def FnExactInboxValidUptoSaid : Prop := fnExactInboxValidUptoRow.holds Try.pinned (OpenSpec.upto fnExactInboxValidSpec)

/-- 'laws.FnExactInboxMissing', WHERE WHAT IT READS IS OF BULK AT MOST 1048576: true; the input reads as it did. -/
def fnExactInboxMissingUptoRow : OpenClaim := { program := "ytnbppfgfmhfgdaa", sum := "24ee79cf1bb834979c877368f7ef127cdba8cd98c18ffe5cdf0ecf0bd6a6a44e", func := "loop.example/containerport/laws.FnExactInboxMissing", spec := "fnExactInboxMissing", apart := false, narrowed := true }
def FnExactInboxMissingUptoSaid : Prop := fnExactInboxMissingUptoRow.holds Try.pinned (OpenSpec.upto fnExactInboxMissingSpec)

/-- 'laws.FnInboxValid', WHERE WHAT IT READS IS OF BULK AT MOST 1048576: true; the input reads as it did. -/
def fnInboxValidUptoRow : OpenClaim := { program := "ytnbppfgfmhfgdaa", sum := "24ee79cf1bb834979c877368f7ef127cdba8cd98c18ffe5cdf0ecf0bd6a6a44e", func := "loop.example/containerport/laws.FnInboxValid", spec := "fnInboxValid", inPlace := ["internal/bytealg.IndexByteString"], apart := false, narrowed := true }
def FnInboxValidUptoSaid : Prop := fnInboxValidUptoRow.holds Try.pinned (OpenSpec.upto fnInboxValidSpec)

/-- 'laws.FnExactInboxTake', WHERE WHAT IT READS IS OF BULK AT MOST 1048576: true; the input reads as it did. -/
def fnExactInboxTakeUptoRow : OpenClaim := { program := "ytnbppfgfmhfgdaa", sum := "24ee79cf1bb834979c877368f7ef127cdba8cd98c18ffe5cdf0ecf0bd6a6a44e", func := "loop.example/containerport/laws.FnExactInboxTake", spec := "fnExactInboxTake", inPlace := ["slices.overlaps[loop.example/containerport/impl.Message]"], unfollowed := true, recurses := true, apart := false, narrowed := true }
def FnExactInboxTakeUptoSaid : Prop := fnExactInboxTakeUptoRow.holds Try.pinned (OpenSpec.upto fnExactInboxTakeSpec)

/-- 'laws.FnInboxTake', WHERE WHAT IT READS IS OF BULK AT MOST 1048576: true; the input reads as it did. -/
def fnInboxTakeUptoRow : OpenClaim := { program := "ytnbppfgfmhfgdaa", sum := "24ee79cf1bb834979c877368f7ef127cdba8cd98c18ffe5cdf0ecf0bd6a6a44e", func := "loop.example/containerport/laws.FnInboxTake", spec := "fnInboxTake", inPlace := ["slices.overlaps[loop.example/containerport/impl.Message]", "internal/bytealg.IndexByteString"], unfollowed := true, recurses := true, apart := false, narrowed := true }
def FnInboxTakeUptoSaid : Prop := fnInboxTakeUptoRow.holds Try.pinned (OpenSpec.upto fnInboxTakeSpec)

/-- 'laws.FnExactInboxRun', WHERE WHAT IT READS IS OF BULK AT MOST 1048576: true; the input reads as it did. -/
def fnExactInboxRunUptoRow : OpenClaim := { program := "ytnbppfgfmhfgdaa", sum := "24ee79cf1bb834979c877368f7ef127cdba8cd98c18ffe5cdf0ecf0bd6a6a44e", func := "loop.example/containerport/laws.FnExactInboxRun", spec := "fnExactInboxRun", inPlace := ["slices.overlaps[loop.example/containerport/impl.Message]"], unfollowed := true, recurses := true, apart := false, narrowed := true }
def FnExactInboxRunUptoSaid : Prop := fnExactInboxRunUptoRow.holds Try.pinned (OpenSpec.upto fnExactInboxRunSpec)

/-- 'laws.FnInboxRun', WHERE WHAT IT READS IS OF BULK AT MOST 1048576: true; the input reads as it did. -/
def fnInboxRunUptoRow : OpenClaim := { program := "ytnbppfgfmhfgdaa", sum := "24ee79cf1bb834979c877368f7ef127cdba8cd98c18ffe5cdf0ecf0bd6a6a44e", func := "loop.example/containerport/laws.FnInboxRun", spec := "fnInboxRun", inPlace := ["slices.overlaps[loop.example/containerport/impl.Message]", "internal/bytealg.IndexByteString"], unfollowed := true, recurses := true, apart := false, narrowed := true }
def FnInboxRunUptoSaid : Prop := fnInboxRunUptoRow.holds Try.pinned (OpenSpec.upto fnInboxRunSpec)

/-- 'laws.FnInboxMissing', WHERE WHAT IT READS IS OF BULK AT MOST 1048576: true; the input reads as it did. -/
def fnInboxMissingUptoRow : OpenClaim := { program := "ytnbppfgfmhfgdaa", sum := "24ee79cf1bb834979c877368f7ef127cdba8cd98c18ffe5cdf0ecf0bd6a6a44e", func := "loop.example/containerport/laws.FnInboxMissing", spec := "fnInboxMissing", inPlace := ["internal/bytealg.IndexByteString", "slices.overlaps[loop.example/containerport/impl.Message]"], unfollowed := true, recurses := true, apart := false, narrowed := true }
def FnInboxMissingUptoSaid : Prop := fnInboxMissingUptoRow.holds Try.pinned (OpenSpec.upto fnInboxMissingSpec)

end Rows
end Go.Proofs.Ytnbppfgfmhfgdaa
