/-
  No cell of these rows narrows 'for every input' (looked for: loops, veiled, ifaces, maps, wideKeys, modest, calm, conditions, laid).
  DERIVED. THE GIVEN ROWS OF THIS SEAT. 6 by the template 'for every input the law returns true; each argument reads behind the call as it read before'; 0 by the template 'total and deterministic' (their statements: YtpkbipjnobfcdaaTotals.lean).
  GIVEN WITH THE SEED: the statements are not yours to turn. If you find one false, say at which input.
  Laid BY PROGRAM, IN A SANDBOX (cutbox-rows.mjs): the forced cells as the released guide's own fill.sh prints them over the translation 36d4ff7bcc6e0947… (all of the seat's roots in one cut). By AI agents, Wed Nov 11 2026. No macro, syntax, notation, axiom, sorry.
-/
import Derived.Test.YtpkbipjnobfcdaaChecked
import GoSem.Claim
import GoSem.ClaimJoined
import GoSem.ClaimMapViews
import Derived.JoinedTies
import Derived.KernelRfl
namespace Go.Proofs.Ytpkbipjnobfcdaa
/- THE CELL 'sum', in the pinned program and in every row, IS THE sha256 OF THE DUMP (.gsa) THAT YtpkbipjnobfcdaaProg.lean LOADS. Nothing in Lean hashes anything: it is a label: what it is worth is what the hold of that sum in a sandbox is worth. -/
noncomputable def Try.pinned : Pinned := { name := "ytpkbipjnobfcdaa", sum := "36d4ff7bcc6e09475e6c29dda635be26781b1a9ce079c3abe03f1a184f755e72", checked := Try.checked }
namespace Rows
def none {H : Type} : Left H := { results := [], args := [] }

/-- 'laws.FnMarksOf': WHATEVER THE INPUT: true; the input reads as it did. -/
def fnMarksOfSpec : ChangeSpec := { name := "fnMarksOf", fn := fun _ => fun
  | [d] => { results := [.lit (.bool true)], args := [d] }
  | _ => none }
def fnMarksOfRow : OpenClaim := { program := "ytpkbipjnobfcdaa", sum := "36d4ff7bcc6e09475e6c29dda635be26781b1a9ce079c3abe03f1a184f755e72", func := "loop.example/containerport/laws.FnMarksOf", spec := "fnMarksOf", inPlace := ["internal/bytealg.IndexByteString", "slices.overlaps[loop.example/containerport/impl.Hold]", "slices.overlaps[int]"], unfollowed := true, recurses := true, apart := false }
def FnMarksOfSaid : Prop := fnMarksOfRow.holds Try.pinned (OpenSpec.ofChange fnMarksOfSpec)

/-- ITS FALSE NEIGHBOUR: 'it returns false'. Refute it at one input. -/
def fnMarksOfWrong : ChangeSpec := { name := "fnMarksOf", fn := fun _ => fun
  | [d] => { results := [.lit (.bool false)], args := [d] }
  | _ => none }
def FnMarksOfWrongFalsely : Prop := fnMarksOfRow.holds Try.pinned (OpenSpec.ofChange fnMarksOfWrong)

/-- 'laws.FnPaperDo': WHATEVER THE INPUT: true; the input reads as it did. -/
def fnPaperDoSpec : ChangeSpec := { name := "fnPaperDo", fn := fun _ => fun
  | [d] => { results := [.lit (.bool true)], args := [d] }
  | _ => none }
def fnPaperDoRow : OpenClaim := { program := "ytpkbipjnobfcdaa", sum := "36d4ff7bcc6e09475e6c29dda635be26781b1a9ce079c3abe03f1a184f755e72", func := "loop.example/containerport/laws.FnPaperDo", spec := "fnPaperDo", inPlace := ["slices.overlaps[loop.example/containerport/impl.Hold]", "slices.overlaps[int]", "internal/bytealg.IndexByteString"], unfollowed := true, recurses := true, apart := false }
def FnPaperDoSaid : Prop := fnPaperDoRow.holds Try.pinned (OpenSpec.ofChange fnPaperDoSpec)

/-- ITS FALSE NEIGHBOUR: 'it returns false'. Refute it at one input. -/
def fnPaperDoWrong : ChangeSpec := { name := "fnPaperDo", fn := fun _ => fun
  | [d] => { results := [.lit (.bool false)], args := [d] }
  | _ => none }
def FnPaperDoWrongFalsely : Prop := fnPaperDoRow.holds Try.pinned (OpenSpec.ofChange fnPaperDoWrong)

/-- 'laws.FnFreeDeeds': WHATEVER THE INPUT: true; the input reads as it did. -/
def fnFreeDeedsSpec : ChangeSpec := { name := "fnFreeDeeds", fn := fun _ => fun
  | [d] => { results := [.lit (.bool true)], args := [d] }
  | _ => none }
def fnFreeDeedsRow : OpenClaim := { program := "ytpkbipjnobfcdaa", sum := "36d4ff7bcc6e09475e6c29dda635be26781b1a9ce079c3abe03f1a184f755e72", func := "loop.example/containerport/laws.FnFreeDeeds", spec := "fnFreeDeeds", inPlace := ["internal/bytealg.IndexByteString", "slices.overlaps[loop.example/containerport/impl.Hold]", "slices.overlaps[int]"], unfollowed := true, recurses := true, apart := false }
def FnFreeDeedsSaid : Prop := fnFreeDeedsRow.holds Try.pinned (OpenSpec.ofChange fnFreeDeedsSpec)

/-- ITS FALSE NEIGHBOUR: 'it returns false'. Refute it at one input. -/
def fnFreeDeedsWrong : ChangeSpec := { name := "fnFreeDeeds", fn := fun _ => fun
  | [d] => { results := [.lit (.bool false)], args := [d] }
  | _ => none }
def FnFreeDeedsWrongFalsely : Prop := fnFreeDeedsRow.holds Try.pinned (OpenSpec.ofChange fnFreeDeedsWrong)

/-- 'laws.FnExactPaperDo': WHATEVER THE INPUT: true; the input reads as it did. -/
def fnExactPaperDoSpec : ChangeSpec := { name := "fnExactPaperDo", fn := fun _ => fun
  | [d1, d2] => { results := [.lit (.bool true)], args := [d1, d2] }
  | _ => none }
def fnExactPaperDoRow : OpenClaim := { program := "ytpkbipjnobfcdaa", sum := "36d4ff7bcc6e09475e6c29dda635be26781b1a9ce079c3abe03f1a184f755e72", func := "loop.example/containerport/laws.FnExactPaperDo", spec := "fnExactPaperDo", inPlace := ["slices.overlaps[loop.example/containerport/impl.Hold]", "slices.overlaps[int]"], unfollowed := true, recurses := true, apart := false }
def FnExactPaperDoSaid : Prop := fnExactPaperDoRow.holds Try.pinned (OpenSpec.ofChange fnExactPaperDoSpec)

/-- ITS FALSE NEIGHBOUR: 'it returns false'. Refute it at one input. -/
def fnExactPaperDoWrong : ChangeSpec := { name := "fnExactPaperDo", fn := fun _ => fun
  | [d1, d2] => { results := [.lit (.bool false)], args := [d1, d2] }
  | _ => none }
def FnExactPaperDoWrongFalsely : Prop := fnExactPaperDoRow.holds Try.pinned (OpenSpec.ofChange fnExactPaperDoWrong)

/-- 'laws.FnPaperRun': WHATEVER THE INPUT: true; the input reads as it did. -/
def fnPaperRunSpec : ChangeSpec := { name := "fnPaperRun", fn := fun _ => fun
  | [d] => { results := [.lit (.bool true)], args := [d] }
  | _ => none }
def fnPaperRunRow : OpenClaim := { program := "ytpkbipjnobfcdaa", sum := "36d4ff7bcc6e09475e6c29dda635be26781b1a9ce079c3abe03f1a184f755e72", func := "loop.example/containerport/laws.FnPaperRun", spec := "fnPaperRun", inPlace := ["slices.overlaps[loop.example/containerport/impl.Hold]", "slices.overlaps[int]", "internal/bytealg.IndexByteString"], unfollowed := true, recurses := true, apart := false }
def FnPaperRunSaid : Prop := fnPaperRunRow.holds Try.pinned (OpenSpec.ofChange fnPaperRunSpec)

/-- ITS FALSE NEIGHBOUR: 'it returns false'. Refute it at one input. -/
def fnPaperRunWrong : ChangeSpec := { name := "fnPaperRun", fn := fun _ => fun
  | [d] => { results := [.lit (.bool false)], args := [d] }
  | _ => none }
def FnPaperRunWrongFalsely : Prop := fnPaperRunRow.holds Try.pinned (OpenSpec.ofChange fnPaperRunWrong)

/-- 'laws.FnExactPaperRun': WHATEVER THE INPUT: true; the input reads as it did. -/
def fnExactPaperRunSpec : ChangeSpec := { name := "fnExactPaperRun", fn := fun _ => fun
  | [d1, d2] => { results := [.lit (.bool true)], args := [d1, d2] }
  | _ => none }
def fnExactPaperRunRow : OpenClaim := { program := "ytpkbipjnobfcdaa", sum := "36d4ff7bcc6e09475e6c29dda635be26781b1a9ce079c3abe03f1a184f755e72", func := "loop.example/containerport/laws.FnExactPaperRun", spec := "fnExactPaperRun", inPlace := ["slices.overlaps[loop.example/containerport/impl.Hold]", "slices.overlaps[int]"], unfollowed := true, recurses := true, apart := false }
def FnExactPaperRunSaid : Prop := fnExactPaperRunRow.holds Try.pinned (OpenSpec.ofChange fnExactPaperRunSpec)

/-- ITS FALSE NEIGHBOUR: 'it returns false'. Refute it at one input. -/
def fnExactPaperRunWrong : ChangeSpec := { name := "fnExactPaperRun", fn := fun _ => fun
  | [d1, d2] => { results := [.lit (.bool false)], args := [d1, d2] }
  | _ => none }
def FnExactPaperRunWrongFalsely : Prop := fnExactPaperRunRow.holds Try.pinned (OpenSpec.ofChange fnExactPaperRunWrong)

/- THE SECOND FORM. 'bulk': how many values and letters a reading holds, each counted each time it is reached (what is shared counts as often as it is met; a slice's spare places count too). A statement '..UptoSaid' is the law's where the arguments, and the package variables that the reading takes, are together of bulk at most 1048576: NARROWER than '..Said'. Prove '..Said' where nothing that the law and all that it calls make is longer than what came in: it says more and counts as full. Else prove '..UptoSaid'. A law counts once. -/
mutual
def uptoBulk {H : Type} : DataW H → Nat
  | .lit (.string bytes) => bytes.length + 1
  | .lit _ => 1
  | .nil => 1
  | .ptr d => uptoBulk d + 1
  | .slice elems spare => uptoBulkAll elems + uptoBulkAll spare + 1
  | .agg parts => uptoBulkAll parts + 1
  | .iface _ d => uptoBulk d + 1
  | .map entries => uptoBulkEntries entries + 1
  | .held _ => 1
def uptoBulkAll {H : Type} : List (DataW H) → Nat
  | [] => 0
  | d :: r => uptoBulk d + uptoBulkAll r
def uptoBulkEntries {H : Type} : List (Lit × DataW H) → Nat
  | [] => 0
  | x :: r => uptoBulkEntry x + uptoBulkEntries r
def uptoBulkEntry {H : Type} : Lit × DataW H → Nat
  | (.string bytes, d) => bytes.length + uptoBulk d + 1
  | (_, d) => uptoBulk d + 1
 end
def uptoSmall : (H : Type) → List (DataW H) → Bool := fun _ ds => decide (uptoBulkAll ds ≤ 1048576)
def OpenSpec.upto (s : _root_.Go.ChangeSpec) : _root_.Go.OpenSpec := { _root_.Go.OpenSpec.ofChange s with cond := some uptoSmall }

/-- 'laws.FnMarksOf', WHERE WHAT IT READS IS OF BULK AT MOST 1048576: true; the input reads as it did. -/
def fnMarksOfUptoRow : OpenClaim := { program := "ytpkbipjnobfcdaa", sum := "36d4ff7bcc6e09475e6c29dda635be26781b1a9ce079c3abe03f1a184f755e72", func := "loop.example/containerport/laws.FnMarksOf", spec := "fnMarksOf", inPlace := ["internal/bytealg.IndexByteString", "slices.overlaps[loop.example/containerport/impl.Hold]", "slices.overlaps[int]"], unfollowed := true, recurses := true, apart := false, narrowed := true }
def FnMarksOfUptoSaid : Prop := fnMarksOfUptoRow.holds Try.pinned (OpenSpec.upto fnMarksOfSpec)

/-- 'laws.FnPaperDo', WHERE WHAT IT READS IS OF BULK AT MOST 1048576: true; the input reads as it did. -/
def fnPaperDoUptoRow : OpenClaim := { program := "ytpkbipjnobfcdaa", sum := "36d4ff7bcc6e09475e6c29dda635be26781b1a9ce079c3abe03f1a184f755e72", func := "loop.example/containerport/laws.FnPaperDo", spec := "fnPaperDo", inPlace := ["slices.overlaps[loop.example/containerport/impl.Hold]", "slices.overlaps[int]", "internal/bytealg.IndexByteString"], unfollowed := true, recurses := true, apart := false, narrowed := true }
def FnPaperDoUptoSaid : Prop := fnPaperDoUptoRow.holds Try.pinned (OpenSpec.upto fnPaperDoSpec)

/-- 'laws.FnFreeDeeds', WHERE WHAT IT READS IS OF BULK AT MOST 1048576: true; the input reads as it did. -/
def fnFreeDeedsUptoRow : OpenClaim := { program := "ytpkbipjnobfcdaa", sum := "36d4ff7bcc6e09475e6c29dda635be26781b1a9ce079c3abe03f1a184f755e72", func := "loop.example/containerport/laws.FnFreeDeeds", spec := "fnFreeDeeds", inPlace := ["internal/bytealg.IndexByteString", "slices.overlaps[loop.example/containerport/impl.Hold]", "slices.overlaps[int]"], unfollowed := true, recurses := true, apart := false, narrowed := true }
def FnFreeDeedsUptoSaid : Prop := fnFreeDeedsUptoRow.holds Try.pinned (OpenSpec.upto fnFreeDeedsSpec)

/-- 'laws.FnExactPaperDo', WHERE WHAT IT READS IS OF BULK AT MOST 1048576: true; the input reads as it did. -/
def fnExactPaperDoUptoRow : OpenClaim := { program := "ytpkbipjnobfcdaa", sum := "36d4ff7bcc6e09475e6c29dda635be26781b1a9ce079c3abe03f1a184f755e72", func := "loop.example/containerport/laws.FnExactPaperDo", spec := "fnExactPaperDo", inPlace := ["slices.overlaps[loop.example/containerport/impl.Hold]", "slices.overlaps[int]"], unfollowed := true, recurses := true, apart := false, narrowed := true }
def FnExactPaperDoUptoSaid : Prop := fnExactPaperDoUptoRow.holds Try.pinned (OpenSpec.upto fnExactPaperDoSpec)

/-- 'laws.FnPaperRun', WHERE WHAT IT READS IS OF BULK AT MOST 1048576: true; the input reads as it did. -/
def fnPaperRunUptoRow : OpenClaim := { program := "ytpkbipjnobfcdaa", sum := "36d4ff7bcc6e09475e6c29dda635be26781b1a9ce079c3abe03f1a184f755e72", func := "loop.example/containerport/laws.FnPaperRun", spec := "fnPaperRun", inPlace := ["slices.overlaps[loop.example/containerport/impl.Hold]", "slices.overlaps[int]", "internal/bytealg.IndexByteString"], unfollowed := true, recurses := true, apart := false, narrowed := true }
def FnPaperRunUptoSaid : Prop := fnPaperRunUptoRow.holds Try.pinned (OpenSpec.upto fnPaperRunSpec)

/-- 'laws.FnExactPaperRun', WHERE WHAT IT READS IS OF BULK AT MOST 1048576: true; the input reads as it did. -/
def fnExactPaperRunUptoRow : OpenClaim := { program := "ytpkbipjnobfcdaa", sum := "36d4ff7bcc6e09475e6c29dda635be26781b1a9ce079c3abe03f1a184f755e72", func := "loop.example/containerport/laws.FnExactPaperRun", spec := "fnExactPaperRun", inPlace := ["slices.overlaps[loop.example/containerport/impl.Hold]", "slices.overlaps[int]"], unfollowed := true, recurses := true, apart := false, narrowed := true }
def FnExactPaperRunUptoSaid : Prop := fnExactPaperRunUptoRow.holds Try.pinned (OpenSpec.upto fnExactPaperRunSpec)

end Rows
end Go.Proofs.Ytpkbipjnobfcdaa
