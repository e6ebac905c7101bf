/-
  No cell of these rows narrows 'for every input' (looked for: loops, veiled, ifaces, maps, wideKeys, modest, calm, conditions, laid).
  DERIVED. THE GIVEN ROWS OF THIS SEAT. 4 by the template 'for every input the law returns true; each argument reads behind the call as it read before'; 0 by the template 'total and deterministic' (their statements: YtimnemglcheodaaTotals.lean).
  GIVEN WITH THE SEED: the statements are not yours to turn. If you find one false, say at which input.
  Laid BY PROGRAM, IN A SANDBOX (cutbox-rows.mjs): the forced cells as the released guide's own fill.sh prints them over the translation fd4e650bf2215fa0… (all of the seat's roots in one cut). By AI agents, Wed Nov 11 2026. No macro, syntax, notation, axiom, sorry.
-/
import Derived.Test.YtimnemglcheodaaChecked
import GoSem.Claim
import GoSem.ClaimJoined
import GoSem.ClaimMapViews
import Derived.JoinedTies
import Derived.KernelRfl
namespace Go.Proofs.Ytimnemglcheodaa
/- THE CELL 'sum', in the pinned program and in every row, IS THE sha256 OF THE DUMP (.gsa) THAT YtimnemglcheodaaProg.lean LOADS. Nothing in Lean hashes anything: it is a label: what it is worth is what the hold of that sum in a sandbox is worth. -/
noncomputable def Try.pinned : Pinned := { name := "ytimnemglcheodaa", sum := "fd4e650bf2215fa05aea138b3b6d504b8f370796a8d0d369baac670de3951454", checked := Try.checked }
namespace Rows
def none {H : Type} : Left H := { results := [], args := [] }

/-- 'laws.FnExactYardTake': WHATEVER THE INPUT: true; the input reads as it did. -/
def fnExactYardTakeSpec : ChangeSpec := { name := "fnExactYardTake", fn := fun _ => fun
  | [d1, d2] => { results := [.lit (.bool true)], args := [d1, d2] }
  | _ => none }
def fnExactYardTakeRow : OpenClaim := { program := "ytimnemglcheodaa", sum := "fd4e650bf2215fa05aea138b3b6d504b8f370796a8d0d369baac670de3951454", func := "loop.example/containerport/laws.FnExactYardTake", spec := "fnExactYardTake", apart := false }
def FnExactYardTakeSaid : Prop := fnExactYardTakeRow.holds Try.pinned (OpenSpec.ofChange fnExactYardTakeSpec)

/-- ITS FALSE NEIGHBOUR: 'it returns false'. Refute it at one input. -/
def fnExactYardTakeWrong : ChangeSpec := { name := "fnExactYardTake", fn := fun _ => fun
  | [d1, d2] => { results := [.lit (.bool false)], args := [d1, d2] }
  | _ => none }
def FnExactYardTakeWrongFalsely : Prop := fnExactYardTakeRow.holds Try.pinned (OpenSpec.ofChange fnExactYardTakeWrong)

/-- 'laws.FnExactYardPut': WHATEVER THE INPUT: true; the input reads as it did. -/
def fnExactYardPutSpec : ChangeSpec := { name := "fnExactYardPut", fn := fun _ => fun
  | [d1, d2, d3] => { results := [.lit (.bool true)], args := [d1, d2, d3] }
  | _ => none }
def fnExactYardPutRow : OpenClaim := { program := "ytimnemglcheodaa", sum := "fd4e650bf2215fa05aea138b3b6d504b8f370796a8d0d369baac670de3951454", func := "loop.example/containerport/laws.FnExactYardPut", spec := "fnExactYardPut", unfollowed := true, recurses := true, apart := false }
def FnExactYardPutSaid : Prop := fnExactYardPutRow.holds Try.pinned (OpenSpec.ofChange fnExactYardPutSpec)

/-- ITS FALSE NEIGHBOUR: 'it returns false'. Refute it at one input. -/
def fnExactYardPutWrong : ChangeSpec := { name := "fnExactYardPut", fn := fun _ => fun
  | [d1, d2, d3] => { results := [.lit (.bool false)], args := [d1, d2, d3] }
  | _ => none }
def FnExactYardPutWrongFalsely : Prop := fnExactYardPutRow.holds Try.pinned (OpenSpec.ofChange fnExactYardPutWrong)

/-- 'laws.FnYardTake': WHATEVER THE INPUT: true; the input reads as it did. -/
def fnYardTakeSpec : ChangeSpec := { name := "fnYardTake", fn := fun _ => fun
  | [d] => { results := [.lit (.bool true)], args := [d] }
  | _ => none }
def fnYardTakeRow : OpenClaim := { program := "ytimnemglcheodaa", sum := "fd4e650bf2215fa05aea138b3b6d504b8f370796a8d0d369baac670de3951454", func := "loop.example/containerport/laws.FnYardTake", spec := "fnYardTake", inPlace := ["internal/bytealg.IndexByteString"], unfollowed := true, recurses := true, apart := false }
def FnYardTakeSaid : Prop := fnYardTakeRow.holds Try.pinned (OpenSpec.ofChange fnYardTakeSpec)

/-- ITS FALSE NEIGHBOUR: 'it returns false'. Refute it at one input. -/
def fnYardTakeWrong : ChangeSpec := { name := "fnYardTake", fn := fun _ => fun
  | [d] => { results := [.lit (.bool false)], args := [d] }
  | _ => none }
def FnYardTakeWrongFalsely : Prop := fnYardTakeRow.holds Try.pinned (OpenSpec.ofChange fnYardTakeWrong)

/-- 'laws.FnYardPut': WHATEVER THE INPUT: true; the input reads as it did. -/
def fnYardPutSpec : ChangeSpec := { name := "fnYardPut", fn := fun _ => fun
  | [d] => { results := [.lit (.bool true)], args := [d] }
  | _ => none }
def fnYardPutRow : OpenClaim := { program := "ytimnemglcheodaa", sum := "fd4e650bf2215fa05aea138b3b6d504b8f370796a8d0d369baac670de3951454", func := "loop.example/containerport/laws.FnYardPut", spec := "fnYardPut", inPlace := ["internal/bytealg.IndexByteString"], unfollowed := true, recurses := true, apart := false }
def FnYardPutSaid : Prop := fnYardPutRow.holds Try.pinned (OpenSpec.ofChange fnYardPutSpec)

/-- ITS FALSE NEIGHBOUR: 'it returns false'. Refute it at one input. -/
def fnYardPutWrong : ChangeSpec := { name := "fnYardPut", fn := fun _ => fun
  | [d] => { results := [.lit (.bool false)], args := [d] }
  | _ => none }
def FnYardPutWrongFalsely : Prop := fnYardPutRow.holds Try.pinned (OpenSpec.ofChange fnYardPutWrong)

/- THE SECOND FORM. 'bulk': how many values and letters a reading holds, each counted each time it is reached (what is shared counts as often as it is met; a slice's spare places count too). A statement '..UptoSaid' is the law's where the arguments, and the package variables that the reading takes, are together of bulk at most 1048576: NARROWER than '..Said'. Prove '..Said' where nothing that the law and all that it calls make is longer than what came in: it says more and counts as full. Else prove '..UptoSaid'. A law counts once. -/
mutual
def uptoBulk {H : Type} : DataW H → Nat
  | .lit (.string bytes) => bytes.length + 1
  | .lit _ => 1
  | .nil => 1
  | .ptr d => uptoBulk d + 1
  | .slice elems spare => uptoBulkAll elems + uptoBulkAll spare + 1
  | .agg parts => uptoBulkAll parts + 1
  | .iface _ d => uptoBulk d + 1
  | .map entries => uptoBulkEntries entries + 1
  | .held _ => 1
def uptoBulkAll {H : Type} : List (DataW H) → Nat
  | [] => 0
  | d :: r => uptoBulk d + uptoBulkAll r
def uptoBulkEntries {H : Type} : List (Lit × DataW H) → Nat
  | [] => 0
  | x :: r => uptoBulkEntry x + uptoBulkEntries r
def uptoBulkEntry {H : Type} : Lit × DataW H → Nat
  | (.string bytes, d) => bytes.length + uptoBulk d + 1
  | (_, d) => uptoBulk d + 1
 end
def uptoSmall : (H : Type) → List (DataW H) → Bool := fun _ ds => decide (uptoBulkAll ds ≤ 1048576)
def OpenSpec.upto (s : _root_.Go.ChangeSpec) : _root_.Go.OpenSpec := { _root_.Go.OpenSpec.ofChange s with cond := some uptoSmall }

/-- 'laws.FnExactYardTake', WHERE WHAT IT READS IS OF BULK AT MOST 1048576: true; the input reads as it did. -/
def fnExactYardTakeUptoRow : OpenClaim := { program := "ytimnemglcheodaa", sum := "fd4e650bf2215fa05aea138b3b6d504b8f370796a8d0d369baac670de3951454", func := "loop.example/containerport/laws.FnExactYardTake", spec := "fnExactYardTake", apart := false, narrowed := true }
def FnExactYardTakeUptoSaid : Prop := fnExactYardTakeUptoRow.holds Try.pinned (OpenSpec.upto fnExactYardTakeSpec)

/-- 'laws.FnExactYardPut', WHERE WHAT IT READS IS OF BULK AT MOST 1048576: true; the input reads as it did. -/
def fnExactYardPutUptoRow : OpenClaim := { program := "ytimnemglcheodaa", sum := "fd4e650bf2215fa05aea138b3b6d504b8f370796a8d0d369baac670de3951454", func := "loop.example/containerport/laws.FnExactYardPut", spec := "fnExactYardPut", unfollowed := true, recurses := true, apart := false, narrowed := true }
def FnExactYardPutUptoSaid : Prop := fnExactYardPutUptoRow.holds Try.pinned (OpenSpec.upto fnExactYardPutSpec)

/-- 'laws.FnYardTake', WHERE WHAT IT READS IS OF BULK AT MOST 1048576: true; the input reads as it did. -/
def fnYardTakeUptoRow : OpenClaim := { program := "ytimnemglcheodaa", sum := "fd4e650bf2215fa05aea138b3b6d504b8f370796a8d0d369baac670de3951454", func := "loop.example/containerport/laws.FnYardTake", spec := "fnYardTake", inPlace := ["internal/bytealg.IndexByteString"], unfollowed := true, recurses := true, apart := false, narrowed := true }
def FnYardTakeUptoSaid : Prop := fnYardTakeUptoRow.holds Try.pinned (OpenSpec.upto fnYardTakeSpec)

/-- 'laws.FnYardPut', WHERE WHAT IT READS IS OF BULK AT MOST 1048576: true; the input reads as it did. -/
def fnYardPutUptoRow : OpenClaim := { program := "ytimnemglcheodaa", sum := "fd4e650bf2215fa05aea138b3b6d504b8f370796a8d0d369baac670de3951454", func := "loop.example/containerport/laws.FnYardPut", spec := "fnYardPut", inPlace := ["internal/bytealg.IndexByteString"], unfollowed := true, recurses := true, apart := false, narrowed := true }
def FnYardPutUptoSaid : Prop := fnYardPutUptoRow.holds Try.pinned (OpenSpec.upto fnYardPutSpec)

end Rows
end Go.Proofs.Ytimnemglcheodaa
