/-
  No cell of these rows narrows 'for every input' (looked for: loops, veiled, ifaces, maps, wideKeys, modest, calm, conditions, laid).
  DERIVED. THE GIVEN ROWS OF THIS SEAT. 14 by the template 'for every input the law returns true; each argument reads behind the call as it read before'; 0 by the template 'total and deterministic' (their statements: YtddhdglmkphjjaaTotals.lean).
  GIVEN WITH THE SEED: the statements are not yours to turn. If you find one false, say at which input.
  Laid BY PROGRAM, IN A SANDBOX (cutbox-rows.mjs): the forced cells as the released guide's own fill.sh prints them over the translation b8dc3c93de9ccc22… (all of the seat's roots in one cut). By AI agents, Wed Nov 11 2026. No macro, syntax, notation, axiom, sorry.
-/
import Derived.Test.YtddhdglmkphjjaaChecked
import GoSem.Claim
import GoSem.ClaimJoined
import GoSem.ClaimMapViews
import Derived.JoinedTies
import Derived.KernelRfl
namespace Go.Proofs.Ytddhdglmkphjjaa
/- THE CELL 'sum', in the pinned program and in every row, IS THE sha256 OF THE DUMP (.gsa) THAT YtddhdglmkphjjaaProg.lean LOADS. Nothing in Lean hashes anything: it is a label: what it is worth is what the hold of that sum in a sandbox is worth. -/
noncomputable def Try.pinned : Pinned := { name := "ytddhdglmkphjjaa", sum := "b8dc3c93de9ccc225373870518347a41c710b17a9f8c4ff50afbd7aa9b3eb5bd", checked := Try.checked }
namespace Rows
def none {H : Type} : Left H := { results := [], args := [] }

/-- 'laws.FnExactVisitStep': WHATEVER THE INPUT: true; the input reads as it did. -/
def fnExactVisitStepSpec : ChangeSpec := { name := "fnExactVisitStep", fn := fun _ => fun
  | [d1, d2] => { results := [.lit (.bool true)], args := [d1, d2] }
  | _ => none }
def fnExactVisitStepRow : OpenClaim := { program := "ytddhdglmkphjjaa", sum := "b8dc3c93de9ccc225373870518347a41c710b17a9f8c4ff50afbd7aa9b3eb5bd", func := "loop.example/containerport/laws.FnExactVisitStep", spec := "fnExactVisitStep", apart := false }
def FnExactVisitStepSaid : Prop := fnExactVisitStepRow.holds Try.pinned (OpenSpec.ofChange fnExactVisitStepSpec)

/-- ITS FALSE NEIGHBOUR: 'it returns false'. Refute it at one input. -/
def fnExactVisitStepWrong : ChangeSpec := { name := "fnExactVisitStep", fn := fun _ => fun
  | [d1, d2] => { results := [.lit (.bool false)], args := [d1, d2] }
  | _ => none }
def FnExactVisitStepWrongFalsely : Prop := fnExactVisitStepRow.holds Try.pinned (OpenSpec.ofChange fnExactVisitStepWrong)

/-- 'laws.FnExactWindStep': WHATEVER THE INPUT: true; the input reads as it did. -/
def fnExactWindStepSpec : ChangeSpec := { name := "fnExactWindStep", fn := fun _ => fun
  | [d1, d2] => { results := [.lit (.bool true)], args := [d1, d2] }
  | _ => none }
def fnExactWindStepRow : OpenClaim := { program := "ytddhdglmkphjjaa", sum := "b8dc3c93de9ccc225373870518347a41c710b17a9f8c4ff50afbd7aa9b3eb5bd", func := "loop.example/containerport/laws.FnExactWindStep", spec := "fnExactWindStep", apart := false }
def FnExactWindStepSaid : Prop := fnExactWindStepRow.holds Try.pinned (OpenSpec.ofChange fnExactWindStepSpec)

/-- ITS FALSE NEIGHBOUR: 'it returns false'. Refute it at one input. -/
def fnExactWindStepWrong : ChangeSpec := { name := "fnExactWindStep", fn := fun _ => fun
  | [d1, d2] => { results := [.lit (.bool false)], args := [d1, d2] }
  | _ => none }
def FnExactWindStepWrongFalsely : Prop := fnExactWindStepRow.holds Try.pinned (OpenSpec.ofChange fnExactWindStepWrong)

/-- 'laws.FnExactVisitRun': WHATEVER THE INPUT: true; the input reads as it did. -/
def fnExactVisitRunSpec : ChangeSpec := { name := "fnExactVisitRun", fn := fun _ => fun
  | [d1, d2] => { results := [.lit (.bool true)], args := [d1, d2] }
  | _ => none }
def fnExactVisitRunRow : OpenClaim := { program := "ytddhdglmkphjjaa", sum := "b8dc3c93de9ccc225373870518347a41c710b17a9f8c4ff50afbd7aa9b3eb5bd", func := "loop.example/containerport/laws.FnExactVisitRun", spec := "fnExactVisitRun", apart := false }
def FnExactVisitRunSaid : Prop := fnExactVisitRunRow.holds Try.pinned (OpenSpec.ofChange fnExactVisitRunSpec)

/-- ITS FALSE NEIGHBOUR: 'it returns false'. Refute it at one input. -/
def fnExactVisitRunWrong : ChangeSpec := { name := "fnExactVisitRun", fn := fun _ => fun
  | [d1, d2] => { results := [.lit (.bool false)], args := [d1, d2] }
  | _ => none }
def FnExactVisitRunWrongFalsely : Prop := fnExactVisitRunRow.holds Try.pinned (OpenSpec.ofChange fnExactVisitRunWrong)

/-- 'laws.FnExactVisitMany': WHATEVER THE INPUT: true; the input reads as it did. -/
def fnExactVisitManySpec : ChangeSpec := { name := "fnExactVisitMany", fn := fun _ => fun
  | [d1, d2, d3] => { results := [.lit (.bool true)], args := [d1, d2, d3] }
  | _ => none }
def fnExactVisitManyRow : OpenClaim := { program := "ytddhdglmkphjjaa", sum := "b8dc3c93de9ccc225373870518347a41c710b17a9f8c4ff50afbd7aa9b3eb5bd", func := "loop.example/containerport/laws.FnExactVisitMany", spec := "fnExactVisitMany", apart := false }
def FnExactVisitManySaid : Prop := fnExactVisitManyRow.holds Try.pinned (OpenSpec.ofChange fnExactVisitManySpec)

/-- ITS FALSE NEIGHBOUR: 'it returns false'. Refute it at one input. -/
def fnExactVisitManyWrong : ChangeSpec := { name := "fnExactVisitMany", fn := fun _ => fun
  | [d1, d2, d3] => { results := [.lit (.bool false)], args := [d1, d2, d3] }
  | _ => none }
def FnExactVisitManyWrongFalsely : Prop := fnExactVisitManyRow.holds Try.pinned (OpenSpec.ofChange fnExactVisitManyWrong)

/-- 'laws.FnVisitStep': WHATEVER THE INPUT: true; the input reads as it did. -/
def fnVisitStepSpec : ChangeSpec := { name := "fnVisitStep", fn := fun _ => fun
  | [d] => { results := [.lit (.bool true)], args := [d] }
  | _ => none }
def fnVisitStepRow : OpenClaim := { program := "ytddhdglmkphjjaa", sum := "b8dc3c93de9ccc225373870518347a41c710b17a9f8c4ff50afbd7aa9b3eb5bd", func := "loop.example/containerport/laws.FnVisitStep", spec := "fnVisitStep", inPlace := ["internal/bytealg.IndexByteString"], apart := false }
def FnVisitStepSaid : Prop := fnVisitStepRow.holds Try.pinned (OpenSpec.ofChange fnVisitStepSpec)

/-- ITS FALSE NEIGHBOUR: 'it returns false'. Refute it at one input. -/
def fnVisitStepWrong : ChangeSpec := { name := "fnVisitStep", fn := fun _ => fun
  | [d] => { results := [.lit (.bool false)], args := [d] }
  | _ => none }
def FnVisitStepWrongFalsely : Prop := fnVisitStepRow.holds Try.pinned (OpenSpec.ofChange fnVisitStepWrong)

/-- 'laws.FnWindStep': WHATEVER THE INPUT: true; the input reads as it did. -/
def fnWindStepSpec : ChangeSpec := { name := "fnWindStep", fn := fun _ => fun
  | [d] => { results := [.lit (.bool true)], args := [d] }
  | _ => none }
def fnWindStepRow : OpenClaim := { program := "ytddhdglmkphjjaa", sum := "b8dc3c93de9ccc225373870518347a41c710b17a9f8c4ff50afbd7aa9b3eb5bd", func := "loop.example/containerport/laws.FnWindStep", spec := "fnWindStep", inPlace := ["internal/bytealg.IndexByteString"], apart := false }
def FnWindStepSaid : Prop := fnWindStepRow.holds Try.pinned (OpenSpec.ofChange fnWindStepSpec)

/-- ITS FALSE NEIGHBOUR: 'it returns false'. Refute it at one input. -/
def fnWindStepWrong : ChangeSpec := { name := "fnWindStep", fn := fun _ => fun
  | [d] => { results := [.lit (.bool false)], args := [d] }
  | _ => none }
def FnWindStepWrongFalsely : Prop := fnWindStepRow.holds Try.pinned (OpenSpec.ofChange fnWindStepWrong)

/-- 'laws.FnExactWindStops': WHATEVER THE INPUT: true; the input reads as it did. -/
def fnExactWindStopsSpec : ChangeSpec := { name := "fnExactWindStops", fn := fun _ => fun
  | [d] => { results := [.lit (.bool true)], args := [d] }
  | _ => none }
def fnExactWindStopsRow : OpenClaim := { program := "ytddhdglmkphjjaa", sum := "b8dc3c93de9ccc225373870518347a41c710b17a9f8c4ff50afbd7aa9b3eb5bd", func := "loop.example/containerport/laws.FnExactWindStops", spec := "fnExactWindStops", apart := false }
def FnExactWindStopsSaid : Prop := fnExactWindStopsRow.holds Try.pinned (OpenSpec.ofChange fnExactWindStopsSpec)

/-- ITS FALSE NEIGHBOUR: 'it returns false'. Refute it at one input. -/
def fnExactWindStopsWrong : ChangeSpec := { name := "fnExactWindStops", fn := fun _ => fun
  | [d] => { results := [.lit (.bool false)], args := [d] }
  | _ => none }
def FnExactWindStopsWrongFalsely : Prop := fnExactWindStopsRow.holds Try.pinned (OpenSpec.ofChange fnExactWindStopsWrong)

/-- 'laws.FnExactWindRun': WHATEVER THE INPUT: true; the input reads as it did. -/
def fnExactWindRunSpec : ChangeSpec := { name := "fnExactWindRun", fn := fun _ => fun
  | [d1, d2] => { results := [.lit (.bool true)], args := [d1, d2] }
  | _ => none }
def fnExactWindRunRow : OpenClaim := { program := "ytddhdglmkphjjaa", sum := "b8dc3c93de9ccc225373870518347a41c710b17a9f8c4ff50afbd7aa9b3eb5bd", func := "loop.example/containerport/laws.FnExactWindRun", spec := "fnExactWindRun", apart := false }
def FnExactWindRunSaid : Prop := fnExactWindRunRow.holds Try.pinned (OpenSpec.ofChange fnExactWindRunSpec)

/-- ITS FALSE NEIGHBOUR: 'it returns false'. Refute it at one input. -/
def fnExactWindRunWrong : ChangeSpec := { name := "fnExactWindRun", fn := fun _ => fun
  | [d1, d2] => { results := [.lit (.bool false)], args := [d1, d2] }
  | _ => none }
def FnExactWindRunWrongFalsely : Prop := fnExactWindRunRow.holds Try.pinned (OpenSpec.ofChange fnExactWindRunWrong)

/-- 'laws.FnExactVisitPath': WHATEVER THE INPUT: true; the input reads as it did. -/
def fnExactVisitPathSpec : ChangeSpec := { name := "fnExactVisitPath", fn := fun _ => fun
  | [d1, d2] => { results := [.lit (.bool true)], args := [d1, d2] }
  | _ => none }
def fnExactVisitPathRow : OpenClaim := { program := "ytddhdglmkphjjaa", sum := "b8dc3c93de9ccc225373870518347a41c710b17a9f8c4ff50afbd7aa9b3eb5bd", func := "loop.example/containerport/laws.FnExactVisitPath", spec := "fnExactVisitPath", apart := false }
def FnExactVisitPathSaid : Prop := fnExactVisitPathRow.holds Try.pinned (OpenSpec.ofChange fnExactVisitPathSpec)

/-- ITS FALSE NEIGHBOUR: 'it returns false'. Refute it at one input. -/
def fnExactVisitPathWrong : ChangeSpec := { name := "fnExactVisitPath", fn := fun _ => fun
  | [d1, d2] => { results := [.lit (.bool false)], args := [d1, d2] }
  | _ => none }
def FnExactVisitPathWrongFalsely : Prop := fnExactVisitPathRow.holds Try.pinned (OpenSpec.ofChange fnExactVisitPathWrong)

/-- 'laws.FnWindRun': WHATEVER THE INPUT: true; the input reads as it did. -/
def fnWindRunSpec : ChangeSpec := { name := "fnWindRun", fn := fun _ => fun
  | [d] => { results := [.lit (.bool true)], args := [d] }
  | _ => none }
def fnWindRunRow : OpenClaim := { program := "ytddhdglmkphjjaa", sum := "b8dc3c93de9ccc225373870518347a41c710b17a9f8c4ff50afbd7aa9b3eb5bd", func := "loop.example/containerport/laws.FnWindRun", spec := "fnWindRun", inPlace := ["internal/bytealg.IndexByteString"], apart := false }
def FnWindRunSaid : Prop := fnWindRunRow.holds Try.pinned (OpenSpec.ofChange fnWindRunSpec)

/-- ITS FALSE NEIGHBOUR: 'it returns false'. Refute it at one input. -/
def fnWindRunWrong : ChangeSpec := { name := "fnWindRun", fn := fun _ => fun
  | [d] => { results := [.lit (.bool false)], args := [d] }
  | _ => none }
def FnWindRunWrongFalsely : Prop := fnWindRunRow.holds Try.pinned (OpenSpec.ofChange fnWindRunWrong)

/-- 'laws.FnVisitMany': WHATEVER THE INPUT: true; the input reads as it did. -/
def fnVisitManySpec : ChangeSpec := { name := "fnVisitMany", fn := fun _ => fun
  | [d] => { results := [.lit (.bool true)], args := [d] }
  | _ => none }
def fnVisitManyRow : OpenClaim := { program := "ytddhdglmkphjjaa", sum := "b8dc3c93de9ccc225373870518347a41c710b17a9f8c4ff50afbd7aa9b3eb5bd", func := "loop.example/containerport/laws.FnVisitMany", spec := "fnVisitMany", inPlace := ["internal/bytealg.IndexByteString"], apart := false }
def FnVisitManySaid : Prop := fnVisitManyRow.holds Try.pinned (OpenSpec.ofChange fnVisitManySpec)

/-- ITS FALSE NEIGHBOUR: 'it returns false'. Refute it at one input. -/
def fnVisitManyWrong : ChangeSpec := { name := "fnVisitMany", fn := fun _ => fun
  | [d] => { results := [.lit (.bool false)], args := [d] }
  | _ => none }
def FnVisitManyWrongFalsely : Prop := fnVisitManyRow.holds Try.pinned (OpenSpec.ofChange fnVisitManyWrong)

/-- 'laws.FnVisitRun': WHATEVER THE INPUT: true; the input reads as it did. -/
def fnVisitRunSpec : ChangeSpec := { name := "fnVisitRun", fn := fun _ => fun
  | [d] => { results := [.lit (.bool true)], args := [d] }
  | _ => none }
def fnVisitRunRow : OpenClaim := { program := "ytddhdglmkphjjaa", sum := "b8dc3c93de9ccc225373870518347a41c710b17a9f8c4ff50afbd7aa9b3eb5bd", func := "loop.example/containerport/laws.FnVisitRun", spec := "fnVisitRun", inPlace := ["internal/bytealg.IndexByteString"], apart := false }
def FnVisitRunSaid : Prop := fnVisitRunRow.holds Try.pinned (OpenSpec.ofChange fnVisitRunSpec)

/-- ITS FALSE NEIGHBOUR: 'it returns false'. Refute it at one input. -/
def fnVisitRunWrong : ChangeSpec := { name := "fnVisitRun", fn := fun _ => fun
  | [d] => { results := [.lit (.bool false)], args := [d] }
  | _ => none }
def FnVisitRunWrongFalsely : Prop := fnVisitRunRow.holds Try.pinned (OpenSpec.ofChange fnVisitRunWrong)

/-- 'laws.FnWindStops': WHATEVER THE INPUT: true; the input reads as it did. -/
def fnWindStopsSpec : ChangeSpec := { name := "fnWindStops", fn := fun _ => fun
  | [d] => { results := [.lit (.bool true)], args := [d] }
  | _ => none }
def fnWindStopsRow : OpenClaim := { program := "ytddhdglmkphjjaa", sum := "b8dc3c93de9ccc225373870518347a41c710b17a9f8c4ff50afbd7aa9b3eb5bd", func := "loop.example/containerport/laws.FnWindStops", spec := "fnWindStops", inPlace := ["internal/bytealg.IndexByteString"], apart := false }
def FnWindStopsSaid : Prop := fnWindStopsRow.holds Try.pinned (OpenSpec.ofChange fnWindStopsSpec)

/-- ITS FALSE NEIGHBOUR: 'it returns false'. Refute it at one input. -/
def fnWindStopsWrong : ChangeSpec := { name := "fnWindStops", fn := fun _ => fun
  | [d] => { results := [.lit (.bool false)], args := [d] }
  | _ => none }
def FnWindStopsWrongFalsely : Prop := fnWindStopsRow.holds Try.pinned (OpenSpec.ofChange fnWindStopsWrong)

/-- 'laws.FnVisitPath': WHATEVER THE INPUT: true; the input reads as it did. -/
def fnVisitPathSpec : ChangeSpec := { name := "fnVisitPath", fn := fun _ => fun
  | [d1, d2] => { results := [.lit (.bool true)], args := [d1, d2] }
  | _ => none }
def fnVisitPathRow : OpenClaim := { program := "ytddhdglmkphjjaa", sum := "b8dc3c93de9ccc225373870518347a41c710b17a9f8c4ff50afbd7aa9b3eb5bd", func := "loop.example/containerport/laws.FnVisitPath", spec := "fnVisitPath", inPlace := ["internal/bytealg.IndexByteString"], apart := false }
def FnVisitPathSaid : Prop := fnVisitPathRow.holds Try.pinned (OpenSpec.ofChange fnVisitPathSpec)

/-- ITS FALSE NEIGHBOUR: 'it returns false'. Refute it at one input. -/
def fnVisitPathWrong : ChangeSpec := { name := "fnVisitPath", fn := fun _ => fun
  | [d1, d2] => { results := [.lit (.bool false)], args := [d1, d2] }
  | _ => none }
def FnVisitPathWrongFalsely : Prop := fnVisitPathRow.holds Try.pinned (OpenSpec.ofChange fnVisitPathWrong)

/- THE SECOND FORM. 'bulk': how many values and letters a reading holds, each counted each time it is reached (what is shared counts as often as it is met; a slice's spare places count too). A statement '..UptoSaid' is the law's where the arguments, and the package variables that the reading takes, are together of bulk at most 1048576: NARROWER than '..Said'. Prove '..Said' where nothing that the law and all that it calls make is longer than what came in: it says more and counts as full. Else prove '..UptoSaid'. A law counts once. -/
mutual
def uptoBulk {H : Type} : DataW H → Nat
  | .lit (.string bytes) => bytes.length + 1
  | .lit _ => 1
  | .nil => 1
  | .ptr d => uptoBulk d + 1
  | .slice elems spare => uptoBulkAll elems + uptoBulkAll spare + 1
  | .agg parts => uptoBulkAll parts + 1
  | .iface _ d => uptoBulk d + 1
  | .map entries => uptoBulkEntries entries + 1
  | .held _ => 1
def uptoBulkAll {H : Type} : List (DataW H) → Nat
  | [] => 0
  | d :: r => uptoBulk d + uptoBulkAll r
def uptoBulkEntries {H : Type} : List (Lit × DataW H) → Nat
  | [] => 0
  | x :: r => uptoBulkEntry x + uptoBulkEntries r
def uptoBulkEntry {H : Type} : Lit × DataW H → Nat
  | (.string bytes, d) => bytes.length + uptoBulk d + 1
  | (_, d) => uptoBulk d + 1
 end
def uptoSmall : (H : Type) → List (DataW H) → Bool := fun _ ds => decide (uptoBulkAll ds ≤ 1048576)
def OpenSpec.upto (s : _root_.Go.ChangeSpec) : _root_.Go.OpenSpec := { _root_.Go.OpenSpec.ofChange s with cond := some uptoSmall }

/-- 'laws.FnExactVisitStep', WHERE WHAT IT READS IS OF BULK AT MOST 1048576: true; the input reads as it did. -/
def fnExactVisitStepUptoRow : OpenClaim := { program := "ytddhdglmkphjjaa", sum := "b8dc3c93de9ccc225373870518347a41c710b17a9f8c4ff50afbd7aa9b3eb5bd", func := "loop.example/containerport/laws.FnExactVisitStep", spec := "fnExactVisitStep", apart := false, narrowed := true }
def FnExactVisitStepUptoSaid : Prop := fnExactVisitStepUptoRow.holds Try.pinned (OpenSpec.upto fnExactVisitStepSpec)

/-- 'laws.FnExactWindStep', WHERE WHAT IT READS IS OF BULK AT MOST 1048576: true; the input reads as it did. -/
def fnExactWindStepUptoRow : OpenClaim := { program := "ytddhdglmkphjjaa", sum := "b8dc3c93de9ccc225373870518347a41c710b17a9f8c4ff50afbd7aa9b3eb5bd", func := "loop.example/containerport/laws.FnExactWindStep", spec := "fnExactWindStep", apart := false, narrowed := true }
def FnExactWindStepUptoSaid : Prop := fnExactWindStepUptoRow.holds Try.pinned (OpenSpec.upto fnExactWindStepSpec)

/-- 'laws.FnExactVisitRun', WHERE WHAT IT READS IS OF BULK AT MOST 1048576: true; the input reads as it did. -/
def fnExactVisitRunUptoRow : OpenClaim := { program := "ytddhdglmkphjjaa", sum := "b8dc3c93de9ccc225373870518347a41c710b17a9f8c4ff50afbd7aa9b3eb5bd", func := "loop.example/containerport/laws.FnExactVisitRun", spec := "fnExactVisitRun", apart := false, narrowed := true }
def FnExactVisitRunUptoSaid : Prop := fnExactVisitRunUptoRow.holds Try.pinned (OpenSpec.upto fnExactVisitRunSpec)

/-- 'laws.FnExactVisitMany', WHERE WHAT IT READS IS OF BULK AT MOST 1048576: true; the input reads as it did. -/
def fnExactVisitManyUptoRow : OpenClaim := { program := "ytddhdglmkphjjaa", sum := "b8dc3c93de9ccc225373870518347a41c710b17a9f8c4ff50afbd7aa9b3eb5bd", func := "loop.example/containerport/laws.FnExactVisitMany", spec := "fnExactVisitMany", apart := false, narrowed := true }
def FnExactVisitManyUptoSaid : Prop := fnExactVisitManyUptoRow.holds Try.pinned (OpenSpec.upto fnExactVisitManySpec)

/-- 'laws.FnVisitStep', WHERE WHAT IT READS IS OF BULK AT MOST 1048576: true; the input reads as it did. -/
def fnVisitStepUptoRow : OpenClaim := { program := "ytddhdglmkphjjaa", sum := "b8dc3c93de9ccc225373870518347a41c710b17a9f8c4ff50afbd7aa9b3eb5bd", func := "loop.example/containerport/laws.FnVisitStep", spec := "fnVisitStep", inPlace := ["internal/bytealg.IndexByteString"], apart := false, narrowed := true }
def FnVisitStepUptoSaid : Prop := fnVisitStepUptoRow.holds Try.pinned (OpenSpec.upto fnVisitStepSpec)

/-- 'laws.FnWindStep', WHERE WHAT IT READS IS OF BULK AT MOST 1048576: true; the input reads as it did. -/
def fnWindStepUptoRow : OpenClaim := { program := "ytddhdglmkphjjaa", sum := "b8dc3c93de9ccc225373870518347a41c710b17a9f8c4ff50afbd7aa9b3eb5bd", func := "loop.example/containerport/laws.FnWindStep", spec := "fnWindStep", inPlace := ["internal/bytealg.IndexByteString"], apart := false, narrowed := true }
def FnWindStepUptoSaid : Prop := fnWindStepUptoRow.holds Try.pinned (OpenSpec.upto fnWindStepSpec)

/-- 'laws.FnExactWindStops', WHERE WHAT IT READS IS OF BULK AT MOST 1048576: true; the input reads as it did. -/
def fnExactWindStopsUptoRow : OpenClaim := { program := "ytddhdglmkphjjaa", sum := "b8dc3c93de9ccc225373870518347a41c710b17a9f8c4ff50afbd7aa9b3eb5bd", func := "loop.example/containerport/laws.FnExactWindStops", spec := "fnExactWindStops", apart := false, narrowed := true }
def FnExactWindStopsUptoSaid : Prop := fnExactWindStopsUptoRow.holds Try.pinned (OpenSpec.upto fnExactWindStopsSpec)

/-- 'laws.FnExactWindRun', WHERE WHAT IT READS IS OF BULK AT MOST 1048576: true; the input reads as it did. -/
def fnExactWindRunUptoRow : OpenClaim := { program := "ytddhdglmkphjjaa", sum := "b8dc3c93de9ccc225373870518347a41c710b17a9f8c4ff50afbd7aa9b3eb5bd", func := "loop.example/containerport/laws.FnExactWindRun", spec := "fnExactWindRun", apart := false, narrowed := true }
def FnExactWindRunUptoSaid : Prop := fnExactWindRunUptoRow.holds Try.pinned (OpenSpec.upto fnExactWindRunSpec)

/-- 'laws.FnExactVisitPath', WHERE WHAT IT READS IS OF BULK AT MOST 1048576: true; the input reads as it did. -/
def fnExactVisitPathUptoRow : OpenClaim := { program := "ytddhdglmkphjjaa", sum := "b8dc3c93de9ccc225373870518347a41c710b17a9f8c4ff50afbd7aa9b3eb5bd", func := "loop.example/containerport/laws.FnExactVisitPath", spec := "fnExactVisitPath", apart := false, narrowed := true }
def FnExactVisitPathUptoSaid : Prop := fnExactVisitPathUptoRow.holds Try.pinned (OpenSpec.upto fnExactVisitPathSpec)

/-- 'laws.FnWindRun', WHERE WHAT IT READS IS OF BULK AT MOST 1048576: true; the input reads as it did. -/
def fnWindRunUptoRow : OpenClaim := { program := "ytddhdglmkphjjaa", sum := "b8dc3c93de9ccc225373870518347a41c710b17a9f8c4ff50afbd7aa9b3eb5bd", func := "loop.example/containerport/laws.FnWindRun", spec := "fnWindRun", inPlace := ["internal/bytealg.IndexByteString"], apart := false, narrowed := true }
def FnWindRunUptoSaid : Prop := fnWindRunUptoRow.holds Try.pinned (OpenSpec.upto fnWindRunSpec)

/-- 'laws.FnVisitMany', WHERE WHAT IT READS IS OF BULK AT MOST 1048576: true; the input reads as it did. -/
def fnVisitManyUptoRow : OpenClaim := { program := "ytddhdglmkphjjaa", sum := "b8dc3c93de9ccc225373870518347a41c710b17a9f8c4ff50afbd7aa9b3eb5bd", func := "loop.example/containerport/laws.FnVisitMany", spec := "fnVisitMany", inPlace := ["internal/bytealg.IndexByteString"], apart := false, narrowed := true }
def FnVisitManyUptoSaid : Prop := fnVisitManyUptoRow.holds Try.pinned (OpenSpec.upto fnVisitManySpec)

/-- 'laws.FnVisitRun', WHERE WHAT IT READS IS OF BULK AT MOST 1048576: true; the input reads as it did. -/
def fnVisitRunUptoRow : OpenClaim := { program := "ytddhdglmkphjjaa", sum := "b8dc3c93de9ccc225373870518347a41c710b17a9f8c4ff50afbd7aa9b3eb5bd", func := "loop.example/containerport/laws.FnVisitRun", spec := "fnVisitRun", inPlace := ["internal/bytealg.IndexByteString"], apart := false, narrowed := true }
def FnVisitRunUptoSaid : Prop := fnVisitRunUptoRow.holds Try.pinned (OpenSpec.upto fnVisitRunSpec)

/-- 'laws.FnWindStops', WHERE WHAT IT READS IS OF BULK AT MOST 1048576: true; the input reads as it did. -/
def fnWindStopsUptoRow : OpenClaim := { program := "ytddhdglmkphjjaa", sum := "b8dc3c93de9ccc225373870518347a41c710b17a9f8c4ff50afbd7aa9b3eb5bd", func := "loop.example/containerport/laws.FnWindStops", spec := "fnWindStops", inPlace := ["internal/bytealg.IndexByteString"], apart := false, narrowed := true }
def FnWindStopsUptoSaid : Prop := fnWindStopsUptoRow.holds Try.pinned (OpenSpec.upto fnWindStopsSpec)

/-- 'laws.FnVisitPath', WHERE WHAT IT READS IS OF BULK AT MOST 1048576: true; the input reads as it did. -/
def fnVisitPathUptoRow : OpenClaim := { program := "ytddhdglmkphjjaa", sum := "b8dc3c93de9ccc225373870518347a41c710b17a9f8c4ff50afbd7aa9b3eb5bd", func := "loop.example/containerport/laws.FnVisitPath", spec := "fnVisitPath", inPlace := ["internal/bytealg.IndexByteString"], apart := false, narrowed := true }
def FnVisitPathUptoSaid : Prop := fnVisitPathUptoRow.holds Try.pinned (OpenSpec.upto fnVisitPathSpec)

end Rows
end Go.Proofs.Ytddhdglmkphjjaa
