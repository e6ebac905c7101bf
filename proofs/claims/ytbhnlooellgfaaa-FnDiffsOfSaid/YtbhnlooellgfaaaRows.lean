/-
  No cell of these rows narrows 'for every input' (looked for: loops, veiled, ifaces, maps, wideKeys, modest, calm, conditions, laid).
  DERIVED. THE GIVEN ROWS OF THIS SEAT. 6 by the template 'for every input the law returns true; each argument reads behind the call as it read before'; 0 by the template 'total and deterministic' (their statements: YtbhnlooellgfaaaTotals.lean).
  GIVEN WITH THE SEED: the statements are not yours to turn. If you find one false, say at which input.
  Laid BY PROGRAM, IN A SANDBOX (cutbox-rows.mjs): the forced cells as the released guide's own fill.sh prints them over the translation a7fe737da04dda9f… (all of the seat's roots in one cut). By AI agents, Wed Nov 11 2026. No macro, syntax, notation, axiom, sorry.
-/
import Derived.Test.YtbhnlooellgfaaaChecked
import GoSem.Claim
import GoSem.ClaimJoined
import GoSem.ClaimMapViews
import Derived.JoinedTies
import Derived.KernelRfl
namespace Go.Proofs.Ytbhnlooellgfaaa
/- THE CELL 'sum', in the pinned program and in every row, IS THE sha256 OF THE DUMP (.gsa) THAT YtbhnlooellgfaaaProg.lean LOADS. Nothing in Lean hashes anything: it is a label: what it is worth is what the hold of that sum in a sandbox is worth. -/
noncomputable def Try.pinned : Pinned := { name := "ytbhnlooellgfaaa", sum := "a7fe737da04dda9f717034728f4bbb53236b03fa289752fd73d2f06aaeae6c52", checked := Try.checked }
namespace Rows
def none {H : Type} : Left H := { results := [], args := [] }

/-- 'laws.FnExactSortBoxes': WHATEVER THE INPUT: true; the input reads as it did. -/
def fnExactSortBoxesSpec : ChangeSpec := { name := "fnExactSortBoxes", fn := fun _ => fun
  | [d] => { results := [.lit (.bool true)], args := [d] }
  | _ => none }
def fnExactSortBoxesRow : OpenClaim := { program := "ytbhnlooellgfaaa", sum := "a7fe737da04dda9f717034728f4bbb53236b03fa289752fd73d2f06aaeae6c52", func := "loop.example/containerport/laws.FnExactSortBoxes", spec := "fnExactSortBoxes", unfollowed := true, recurses := true, apart := false }
def FnExactSortBoxesSaid : Prop := fnExactSortBoxesRow.holds Try.pinned (OpenSpec.ofChange fnExactSortBoxesSpec)

/-- ITS FALSE NEIGHBOUR: 'it returns false'. Refute it at one input. -/
def fnExactSortBoxesWrong : ChangeSpec := { name := "fnExactSortBoxes", fn := fun _ => fun
  | [d] => { results := [.lit (.bool false)], args := [d] }
  | _ => none }
def FnExactSortBoxesWrongFalsely : Prop := fnExactSortBoxesRow.holds Try.pinned (OpenSpec.ofChange fnExactSortBoxesWrong)

/-- 'laws.FnExactDiffsOf': WHATEVER THE INPUT: true; the input reads as it did. -/
def fnExactDiffsOfSpec : ChangeSpec := { name := "fnExactDiffsOf", fn := fun _ => fun
  | [d1, d2] => { results := [.lit (.bool true)], args := [d1, d2] }
  | _ => none }
def fnExactDiffsOfRow : OpenClaim := { program := "ytbhnlooellgfaaa", sum := "a7fe737da04dda9f717034728f4bbb53236b03fa289752fd73d2f06aaeae6c52", func := "loop.example/containerport/laws.FnExactDiffsOf", spec := "fnExactDiffsOf", unfollowed := true, recurses := true, apart := false }
def FnExactDiffsOfSaid : Prop := fnExactDiffsOfRow.holds Try.pinned (OpenSpec.ofChange fnExactDiffsOfSpec)

/-- ITS FALSE NEIGHBOUR: 'it returns false'. Refute it at one input. -/
def fnExactDiffsOfWrong : ChangeSpec := { name := "fnExactDiffsOf", fn := fun _ => fun
  | [d1, d2] => { results := [.lit (.bool false)], args := [d1, d2] }
  | _ => none }
def FnExactDiffsOfWrongFalsely : Prop := fnExactDiffsOfRow.holds Try.pinned (OpenSpec.ofChange fnExactDiffsOfWrong)

/-- 'laws.FnSortBoxes': WHATEVER THE INPUT: true; the input reads as it did. -/
def fnSortBoxesSpec : ChangeSpec := { name := "fnSortBoxes", fn := fun _ => fun
  | [d] => { results := [.lit (.bool true)], args := [d] }
  | _ => none }
def fnSortBoxesRow : OpenClaim := { program := "ytbhnlooellgfaaa", sum := "a7fe737da04dda9f717034728f4bbb53236b03fa289752fd73d2f06aaeae6c52", func := "loop.example/containerport/laws.FnSortBoxes", spec := "fnSortBoxes", inPlace := ["internal/bytealg.IndexByteString"], unfollowed := true, recurses := true, apart := false }
def FnSortBoxesSaid : Prop := fnSortBoxesRow.holds Try.pinned (OpenSpec.ofChange fnSortBoxesSpec)

/-- ITS FALSE NEIGHBOUR: 'it returns false'. Refute it at one input. -/
def fnSortBoxesWrong : ChangeSpec := { name := "fnSortBoxes", fn := fun _ => fun
  | [d] => { results := [.lit (.bool false)], args := [d] }
  | _ => none }
def FnSortBoxesWrongFalsely : Prop := fnSortBoxesRow.holds Try.pinned (OpenSpec.ofChange fnSortBoxesWrong)

/-- 'laws.FnExactApplyDiffs': WHATEVER THE INPUT: true; the input reads as it did. -/
def fnExactApplyDiffsSpec : ChangeSpec := { name := "fnExactApplyDiffs", fn := fun _ => fun
  | [d1, d2] => { results := [.lit (.bool true)], args := [d1, d2] }
  | _ => none }
def fnExactApplyDiffsRow : OpenClaim := { program := "ytbhnlooellgfaaa", sum := "a7fe737da04dda9f717034728f4bbb53236b03fa289752fd73d2f06aaeae6c52", func := "loop.example/containerport/laws.FnExactApplyDiffs", spec := "fnExactApplyDiffs", unfollowed := true, recurses := true, apart := false }
def FnExactApplyDiffsSaid : Prop := fnExactApplyDiffsRow.holds Try.pinned (OpenSpec.ofChange fnExactApplyDiffsSpec)

/-- ITS FALSE NEIGHBOUR: 'it returns false'. Refute it at one input. -/
def fnExactApplyDiffsWrong : ChangeSpec := { name := "fnExactApplyDiffs", fn := fun _ => fun
  | [d1, d2] => { results := [.lit (.bool false)], args := [d1, d2] }
  | _ => none }
def FnExactApplyDiffsWrongFalsely : Prop := fnExactApplyDiffsRow.holds Try.pinned (OpenSpec.ofChange fnExactApplyDiffsWrong)

/-- 'laws.FnDiffsOf': WHATEVER THE INPUT: true; the input reads as it did. -/
def fnDiffsOfSpec : ChangeSpec := { name := "fnDiffsOf", fn := fun _ => fun
  | [d] => { results := [.lit (.bool true)], args := [d] }
  | _ => none }
def fnDiffsOfRow : OpenClaim := { program := "ytbhnlooellgfaaa", sum := "a7fe737da04dda9f717034728f4bbb53236b03fa289752fd73d2f06aaeae6c52", func := "loop.example/containerport/laws.FnDiffsOf", spec := "fnDiffsOf", inPlace := ["internal/bytealg.IndexByteString"], unfollowed := true, recurses := true, apart := false }
def FnDiffsOfSaid : Prop := fnDiffsOfRow.holds Try.pinned (OpenSpec.ofChange fnDiffsOfSpec)

/-- ITS FALSE NEIGHBOUR: 'it returns false'. Refute it at one input. -/
def fnDiffsOfWrong : ChangeSpec := { name := "fnDiffsOf", fn := fun _ => fun
  | [d] => { results := [.lit (.bool false)], args := [d] }
  | _ => none }
def FnDiffsOfWrongFalsely : Prop := fnDiffsOfRow.holds Try.pinned (OpenSpec.ofChange fnDiffsOfWrong)

/-- 'laws.FnApplyDiffs': WHATEVER THE INPUT: true; the input reads as it did. -/
def fnApplyDiffsSpec : ChangeSpec := { name := "fnApplyDiffs", fn := fun _ => fun
  | [d] => { results := [.lit (.bool true)], args := [d] }
  | _ => none }
def fnApplyDiffsRow : OpenClaim := { program := "ytbhnlooellgfaaa", sum := "a7fe737da04dda9f717034728f4bbb53236b03fa289752fd73d2f06aaeae6c52", func := "loop.example/containerport/laws.FnApplyDiffs", spec := "fnApplyDiffs", inPlace := ["internal/bytealg.IndexByteString"], unfollowed := true, recurses := true, apart := false }
def FnApplyDiffsSaid : Prop := fnApplyDiffsRow.holds Try.pinned (OpenSpec.ofChange fnApplyDiffsSpec)

/-- ITS FALSE NEIGHBOUR: 'it returns false'. Refute it at one input. -/
def fnApplyDiffsWrong : ChangeSpec := { name := "fnApplyDiffs", fn := fun _ => fun
  | [d] => { results := [.lit (.bool false)], args := [d] }
  | _ => none }
def FnApplyDiffsWrongFalsely : Prop := fnApplyDiffsRow.holds Try.pinned (OpenSpec.ofChange fnApplyDiffsWrong)

/- THE SECOND FORM. 'bulk': how many values and letters a reading holds, each counted each time it is reached (what is shared counts as often as it is met; a slice's spare places count too). A statement '..UptoSaid' is the law's where the arguments, and the package variables that the reading takes, are together of bulk at most 1048576: NARROWER than '..Said'. Prove '..Said' where nothing that the law and all that it calls make is longer than what came in: it says more and counts as full. Else prove '..UptoSaid'. A law counts once. -/
mutual
def uptoBulk {H : Type} : DataW H → Nat
  | .lit (.string bytes) => bytes.length + 1
  | .lit _ => 1
  | .nil => 1
  | .ptr d => uptoBulk d + 1
  | .slice elems spare => uptoBulkAll elems + uptoBulkAll spare + 1
  | .agg parts => uptoBulkAll parts + 1
  | .iface _ d => uptoBulk d + 1
  | .map entries => uptoBulkEntries entries + 1
  | .held _ => 1
def uptoBulkAll {H : Type} : List (DataW H) → Nat
  | [] => 0
  | d :: r => uptoBulk d + uptoBulkAll r
def uptoBulkEntries {H : Type} : List (Lit × DataW H) → Nat
  | [] => 0
  | x :: r => uptoBulkEntry x + uptoBulkEntries r
def uptoBulkEntry {H : Type} : Lit × DataW H → Nat
  | (.string bytes, d) => bytes.length + uptoBulk d + 1
  | (_, d) => uptoBulk d + 1
 end
def uptoSmall : (H : Type) → List (DataW H) → Bool := fun _ ds => decide (uptoBulkAll ds ≤ 1048576)
def OpenSpec.upto (s : _root_.Go.ChangeSpec) : _root_.Go.OpenSpec := { _root_.Go.OpenSpec.ofChange s with cond := some uptoSmall }

/-- 'laws.FnExactSortBoxes', WHERE WHAT IT READS IS OF BULK AT MOST 1048576: true; the input reads as it did. -/
def fnExactSortBoxesUptoRow : OpenClaim := { program := "ytbhnlooellgfaaa", sum := "a7fe737da04dda9f717034728f4bbb53236b03fa289752fd73d2f06aaeae6c52", func := "loop.example/containerport/laws.FnExactSortBoxes", spec := "fnExactSortBoxes", unfollowed := true, recurses := true, apart := false, narrowed := true }
def FnExactSortBoxesUptoSaid : Prop := fnExactSortBoxesUptoRow.holds Try.pinned (OpenSpec.upto fnExactSortBoxesSpec)

/-- 'laws.FnExactDiffsOf', WHERE WHAT IT READS IS OF BULK AT MOST 1048576: true; the input reads as it did. -/
def fnExactDiffsOfUptoRow : OpenClaim := { program := "ytbhnlooellgfaaa", sum := "a7fe737da04dda9f717034728f4bbb53236b03fa289752fd73d2f06aaeae6c52", func := "loop.example/containerport/laws.FnExactDiffsOf", spec := "fnExactDiffsOf", unfollowed := true, recurses := true, apart := false, narrowed := true }
def FnExactDiffsOfUptoSaid : Prop := fnExactDiffsOfUptoRow.holds Try.pinned (OpenSpec.upto fnExactDiffsOfSpec)

/-- 'laws.FnSortBoxes', WHERE WHAT IT READS IS OF BULK AT MOST 1048576: true; the input reads as it did. -/
def fnSortBoxesUptoRow : OpenClaim := { program := "ytbhnlooellgfaaa", sum := "a7fe737da04dda9f717034728f4bbb53236b03fa289752fd73d2f06aaeae6c52", func := "loop.example/containerport/laws.FnSortBoxes", spec := "fnSortBoxes", inPlace := ["internal/bytealg.IndexByteString"], unfollowed := true, recurses := true, apart := false, narrowed := true }
def FnSortBoxesUptoSaid : Prop := fnSortBoxesUptoRow.holds Try.pinned (OpenSpec.upto fnSortBoxesSpec)

/-- 'laws.FnExactApplyDiffs', WHERE WHAT IT READS IS OF BULK AT MOST 1048576: true; the input reads as it did. -/
def fnExactApplyDiffsUptoRow : OpenClaim := { program := "ytbhnlooellgfaaa", sum := "a7fe737da04dda9f717034728f4bbb53236b03fa289752fd73d2f06aaeae6c52", func := "loop.example/containerport/laws.FnExactApplyDiffs", spec := "fnExactApplyDiffs", unfollowed := true, recurses := true, apart := false, narrowed := true }
def FnExactApplyDiffsUptoSaid : Prop := fnExactApplyDiffsUptoRow.holds Try.pinned (OpenSpec.upto fnExactApplyDiffsSpec)

/-- 'laws.FnDiffsOf', WHERE WHAT IT READS IS OF BULK AT MOST 1048576: true; the input reads as it did. -/
def fnDiffsOfUptoRow : OpenClaim := { program := "ytbhnlooellgfaaa", sum := "a7fe737da04dda9f717034728f4bbb53236b03fa289752fd73d2f06aaeae6c52", func := "loop.example/containerport/laws.FnDiffsOf", spec := "fnDiffsOf", inPlace := ["internal/bytealg.IndexByteString"], unfollowed := true, recurses := true, apart := false, narrowed := true }
def FnDiffsOfUptoSaid : Prop := fnDiffsOfUptoRow.holds Try.pinned (OpenSpec.upto fnDiffsOfSpec)

/-- 'laws.FnApplyDiffs', WHERE WHAT IT READS IS OF BULK AT MOST 1048576: true; the input reads as it did. -/
def fnApplyDiffsUptoRow : OpenClaim := { program := "ytbhnlooellgfaaa", sum := "a7fe737da04dda9f717034728f4bbb53236b03fa289752fd73d2f06aaeae6c52", func := "loop.example/containerport/laws.FnApplyDiffs", spec := "fnApplyDiffs", inPlace := ["internal/bytealg.IndexByteString"], unfollowed := true, recurses := true, apart := false, narrowed := true }
def FnApplyDiffsUptoSaid : Prop := fnApplyDiffsUptoRow.holds Try.pinned (OpenSpec.upto fnApplyDiffsSpec)

end Rows
end Go.Proofs.Ytbhnlooellgfaaa
