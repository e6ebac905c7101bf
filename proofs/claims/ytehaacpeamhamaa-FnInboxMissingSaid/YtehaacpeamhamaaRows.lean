/-
  No cell of these rows narrows 'for every input' (looked for: loops, veiled, ifaces, maps, wideKeys, modest, calm, conditions, laid).
  DERIVED. THE GIVEN ROWS OF THIS SEAT. 2 by the template 'for every input the law returns true; each argument reads behind the call as it read before'; 0 by the template 'total and deterministic' (their statements: YtehaacpeamhamaaTotals.lean).
  GIVEN WITH THE SEED: the statements are not yours to turn. If you find one false, say at which input.
  Laid BY PROGRAM, IN A SANDBOX (cutbox-rows.mjs): the forced cells as the released guide's own fill.sh prints them over the translation b0b8fd0fc00017ae… (all of the seat's roots in one cut). By AI agents, Wed Nov 11 2026. No macro, syntax, notation, axiom, sorry.
-/
import Derived.Test.YtehaacpeamhamaaChecked
import GoSem.Claim
import GoSem.ClaimJoined
import GoSem.ClaimMapViews
import Derived.JoinedTies
import Derived.KernelRfl
namespace Go.Proofs.Ytehaacpeamhamaa
/- THE CELL 'sum', in the pinned program and in every row, IS THE sha256 OF THE DUMP (.gsa) THAT YtehaacpeamhamaaProg.lean LOADS. Nothing in Lean hashes anything: it is a label: what it is worth is what the hold of that sum in a sandbox is worth. -/
noncomputable def Try.pinned : Pinned := { name := "ytehaacpeamhamaa", sum := "b0b8fd0fc00017aea48c43f53c04dd85a3cb9afd37154ba1678063c6fe7324ec", checked := Try.checked }
namespace Rows
def none {H : Type} : Left H := { results := [], args := [] }

/-- 'laws.FnInboxRun': WHATEVER THE INPUT: true; the input reads as it did. -/
def fnInboxRunSpec : ChangeSpec := { name := "fnInboxRun", fn := fun _ => fun
  | [d] => { results := [.lit (.bool true)], args := [d] }
  | _ => none }
def fnInboxRunRow : OpenClaim := { program := "ytehaacpeamhamaa", sum := "b0b8fd0fc00017aea48c43f53c04dd85a3cb9afd37154ba1678063c6fe7324ec", func := "loop.example/containerport/laws.FnInboxRun", spec := "fnInboxRun", inPlace := ["slices.overlaps[loop.example/containerport/impl.Message]", "internal/bytealg.IndexByteString"], unfollowed := true, recurses := true, apart := false }
def FnInboxRunSaid : Prop := fnInboxRunRow.holds Try.pinned (OpenSpec.ofChange fnInboxRunSpec)

/-- ITS FALSE NEIGHBOUR: 'it returns false'. Refute it at one input. -/
def fnInboxRunWrong : ChangeSpec := { name := "fnInboxRun", fn := fun _ => fun
  | [d] => { results := [.lit (.bool false)], args := [d] }
  | _ => none }
def FnInboxRunWrongFalsely : Prop := fnInboxRunRow.holds Try.pinned (OpenSpec.ofChange fnInboxRunWrong)

/-- 'laws.FnInboxMissing': WHATEVER THE INPUT: true; the input reads as it did. -/
def fnInboxMissingSpec : ChangeSpec := { name := "fnInboxMissing", fn := fun _ => fun
  | [d] => { results := [.lit (.bool true)], args := [d] }
  | _ => none }
def fnInboxMissingRow : OpenClaim := { program := "ytehaacpeamhamaa", sum := "b0b8fd0fc00017aea48c43f53c04dd85a3cb9afd37154ba1678063c6fe7324ec", func := "loop.example/containerport/laws.FnInboxMissing", spec := "fnInboxMissing", inPlace := ["internal/bytealg.IndexByteString", "slices.overlaps[loop.example/containerport/impl.Message]"], unfollowed := true, recurses := true, apart := false }
def FnInboxMissingSaid : Prop := fnInboxMissingRow.holds Try.pinned (OpenSpec.ofChange fnInboxMissingSpec)

/-- ITS FALSE NEIGHBOUR: 'it returns false'. Refute it at one input. -/
def fnInboxMissingWrong : ChangeSpec := { name := "fnInboxMissing", fn := fun _ => fun
  | [d] => { results := [.lit (.bool false)], args := [d] }
  | _ => none }
def FnInboxMissingWrongFalsely : Prop := fnInboxMissingRow.holds Try.pinned (OpenSpec.ofChange fnInboxMissingWrong)

/- THE SECOND FORM. 'bulk': how many values and letters a reading holds, each counted each time it is reached (what is shared counts as often as it is met; a slice's spare places count too). A statement '..UptoSaid' is the law's where the arguments, and the package variables that the reading takes, are together of bulk at most 1048576: NARROWER than '..Said'. Prove '..Said' where nothing that the law and all that it calls make is longer than what came in: it says more and counts as full. Else prove '..UptoSaid'. A law counts once. -/
mutual
def uptoBulk {H : Type} : DataW H → Nat
  | .lit (.string bytes) => bytes.length + 1
  | .lit _ => 1
  | .nil => 1
  | .ptr d => uptoBulk d + 1
  | .slice elems spare => uptoBulkAll elems + uptoBulkAll spare + 1
  | .agg parts => uptoBulkAll parts + 1
  | .iface _ d => uptoBulk d + 1
  | .map entries => uptoBulkEntries entries + 1
  | .held _ => 1
def uptoBulkAll {H : Type} : List (DataW H) → Nat
  | [] => 0
  | d :: r => uptoBulk d + uptoBulkAll r
def uptoBulkEntries {H : Type} : List (Lit × DataW H) → Nat
  | [] => 0
  | x :: r => uptoBulkEntry x + uptoBulkEntries r
def uptoBulkEntry {H : Type} : Lit × DataW H → Nat
  | (.string bytes, d) => bytes.length + uptoBulk d + 1
  | (_, d) => uptoBulk d + 1
 end
def uptoSmall : (H : Type) → List (DataW H) → Bool := fun _ ds => decide (uptoBulkAll ds ≤ 1048576)
def OpenSpec.upto (s : _root_.Go.ChangeSpec) : _root_.Go.OpenSpec := { _root_.Go.OpenSpec.ofChange s with cond := some uptoSmall }

/-- 'laws.FnInboxRun', WHERE WHAT IT READS IS OF BULK AT MOST 1048576: true; the input reads as it did. -/
def fnInboxRunUptoRow : OpenClaim := { program := "ytehaacpeamhamaa", sum := "b0b8fd0fc00017aea48c43f53c04dd85a3cb9afd37154ba1678063c6fe7324ec", func := "loop.example/containerport/laws.FnInboxRun", spec := "fnInboxRun", inPlace := ["slices.overlaps[loop.example/containerport/impl.Message]", "internal/bytealg.IndexByteString"], unfollowed := true, recurses := true, apart := false, narrowed := true }
def FnInboxRunUptoSaid : Prop := fnInboxRunUptoRow.holds Try.pinned (OpenSpec.upto fnInboxRunSpec)

/-- 'laws.FnInboxMissing', WHERE WHAT IT READS IS OF BULK AT MOST 1048576: true; the input reads as it did. -/
def fnInboxMissingUptoRow : OpenClaim := { program := "ytehaacpeamhamaa", sum := "b0b8fd0fc00017aea48c43f53c04dd85a3cb9afd37154ba1678063c6fe7324ec", func := "loop.example/containerport/laws.FnInboxMissing", spec := "fnInboxMissing", inPlace := ["internal/bytealg.IndexByteString", "slices.overlaps[loop.example/containerport/impl.Message]"], unfollowed := true, recurses := true, apart := false, narrowed := true }
def FnInboxMissingUptoSaid : Prop := fnInboxMissingUptoRow.holds Try.pinned (OpenSpec.upto fnInboxMissingSpec)

end Rows
end Go.Proofs.Ytehaacpeamhamaa
