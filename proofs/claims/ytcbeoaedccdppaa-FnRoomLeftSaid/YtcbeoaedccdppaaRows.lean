/-
  No cell of these rows narrows 'for every input' (looked for: loops, veiled, ifaces, maps, wideKeys, modest, calm, conditions, laid).
  DERIVED. THE GIVEN ROWS OF THIS SEAT. 3 by the template 'for every input the law returns true; each argument reads behind the call as it read before'; 0 by the template 'total and deterministic' (their statements: YtcbeoaedccdppaaTotals.lean).
  GIVEN WITH THE SEED: the statements are not yours to turn. If you find one false, say at which input.
  Laid BY PROGRAM, IN A SANDBOX (cutbox-rows.mjs): the forced cells as the released guide's own fill.sh prints them over the translation 3f23f91c96eaf3e2… (all of the seat's roots in one cut). By AI agents, Wed Nov 11 2026. No macro, syntax, notation, axiom, sorry.
-/
import Derived.Test.YtcbeoaedccdppaaChecked
import GoSem.Claim
import GoSem.ClaimJoined
import GoSem.ClaimMapViews
import Derived.JoinedTies
import Derived.KernelRfl
namespace Go.Proofs.Ytcbeoaedccdppaa
/- THE CELL 'sum', in the pinned program and in every row, IS THE sha256 OF THE DUMP (.gsa) THAT YtcbeoaedccdppaaProg.lean LOADS. Nothing in Lean hashes anything: it is a label: what it is worth is what the hold of that sum in a sandbox is worth. -/
noncomputable def Try.pinned : Pinned := { name := "ytcbeoaedccdppaa", sum := "3f23f91c96eaf3e2c80d1585c454d8b48decc8ff3f165e3f56e89c4a86b72bde", checked := Try.checked }
namespace Rows
def none {H : Type} : Left H := { results := [], args := [] }

/-- 'laws.FnExactRoomLeft': WHATEVER THE INPUT: true; the input reads as it did. -/
def fnExactRoomLeftSpec : ChangeSpec := { name := "fnExactRoomLeft", fn := fun _ => fun
  | [d] => { results := [.lit (.bool true)], args := [d] }
  | _ => none }
def fnExactRoomLeftRow : OpenClaim := { program := "ytcbeoaedccdppaa", sum := "3f23f91c96eaf3e2c80d1585c454d8b48decc8ff3f165e3f56e89c4a86b72bde", func := "loop.example/containerport/laws.FnExactRoomLeft", spec := "fnExactRoomLeft", unfollowed := true, recurses := true, apart := false }
def FnExactRoomLeftSaid : Prop := fnExactRoomLeftRow.holds Try.pinned (OpenSpec.ofChange fnExactRoomLeftSpec)

/-- ITS FALSE NEIGHBOUR: 'it returns false'. Refute it at one input. -/
def fnExactRoomLeftWrong : ChangeSpec := { name := "fnExactRoomLeft", fn := fun _ => fun
  | [d] => { results := [.lit (.bool false)], args := [d] }
  | _ => none }
def FnExactRoomLeftWrongFalsely : Prop := fnExactRoomLeftRow.holds Try.pinned (OpenSpec.ofChange fnExactRoomLeftWrong)

/-- 'laws.FnRoomLeft': WHATEVER THE INPUT: true; the input reads as it did. -/
def fnRoomLeftSpec : ChangeSpec := { name := "fnRoomLeft", fn := fun _ => fun
  | [d] => { results := [.lit (.bool true)], args := [d] }
  | _ => none }
def fnRoomLeftRow : OpenClaim := { program := "ytcbeoaedccdppaa", sum := "3f23f91c96eaf3e2c80d1585c454d8b48decc8ff3f165e3f56e89c4a86b72bde", func := "loop.example/containerport/laws.FnRoomLeft", spec := "fnRoomLeft", inPlace := ["internal/bytealg.IndexByteString"], unfollowed := true, recurses := true, apart := false }
def FnRoomLeftSaid : Prop := fnRoomLeftRow.holds Try.pinned (OpenSpec.ofChange fnRoomLeftSpec)

/-- ITS FALSE NEIGHBOUR: 'it returns false'. Refute it at one input. -/
def fnRoomLeftWrong : ChangeSpec := { name := "fnRoomLeft", fn := fun _ => fun
  | [d] => { results := [.lit (.bool false)], args := [d] }
  | _ => none }
def FnRoomLeftWrongFalsely : Prop := fnRoomLeftRow.holds Try.pinned (OpenSpec.ofChange fnRoomLeftWrong)

/-- 'laws.FnYardPut': WHATEVER THE INPUT: true; the input reads as it did. -/
def fnYardPutSpec : ChangeSpec := { name := "fnYardPut", fn := fun _ => fun
  | [d] => { results := [.lit (.bool true)], args := [d] }
  | _ => none }
def fnYardPutRow : OpenClaim := { program := "ytcbeoaedccdppaa", sum := "3f23f91c96eaf3e2c80d1585c454d8b48decc8ff3f165e3f56e89c4a86b72bde", func := "loop.example/containerport/laws.FnYardPut", spec := "fnYardPut", inPlace := ["internal/bytealg.IndexByteString"], unfollowed := true, recurses := true, apart := false }
def FnYardPutSaid : Prop := fnYardPutRow.holds Try.pinned (OpenSpec.ofChange fnYardPutSpec)

/-- ITS FALSE NEIGHBOUR: 'it returns false'. Refute it at one input. -/
def fnYardPutWrong : ChangeSpec := { name := "fnYardPut", fn := fun _ => fun
  | [d] => { results := [.lit (.bool false)], args := [d] }
  | _ => none }
def FnYardPutWrongFalsely : Prop := fnYardPutRow.holds Try.pinned (OpenSpec.ofChange fnYardPutWrong)

/- THE SECOND FORM. 'bulk': how many values and letters a reading holds, each counted each time it is reached (what is shared counts as often as it is met; a slice's spare places count too). A statement '..UptoSaid' is the law's where the arguments, and the package variables that the reading takes, are together of bulk at most 1048576: NARROWER than '..Said'. Prove '..Said' where nothing that the law and all that it calls make is longer than what came in: it says more and counts as full. Else prove '..UptoSaid'. A law counts once. -/
mutual
def uptoBulk {H : Type} : DataW H → Nat
  | .lit (.string bytes) => bytes.length + 1
  | .lit _ => 1
  | .nil => 1
  | .ptr d => uptoBulk d + 1
  | .slice elems spare => uptoBulkAll elems + uptoBulkAll spare + 1
  | .agg parts => uptoBulkAll parts + 1
  | .iface _ d => uptoBulk d + 1
  | .map entries => uptoBulkEntries entries + 1
  | .held _ => 1
def uptoBulkAll {H : Type} : List (DataW H) → Nat
  | [] => 0
  | d :: r => uptoBulk d + uptoBulkAll r
def uptoBulkEntries {H : Type} : List (Lit × DataW H) → Nat
  | [] => 0
  | x :: r => uptoBulkEntry x + uptoBulkEntries r
def uptoBulkEntry {H : Type} : Lit × DataW H → Nat
  | (.string bytes, d) => bytes.length + uptoBulk d + 1
  | (_, d) => uptoBulk d + 1
 end
def uptoSmall : (H : Type) → List (DataW H) → Bool := fun _ ds => decide (uptoBulkAll ds ≤ 1048576)
def OpenSpec.upto (s : _root_.Go.ChangeSpec) : _root_.Go.OpenSpec := { _root_.Go.OpenSpec.ofChange s with cond := some uptoSmall }

/-- 'laws.FnExactRoomLeft', WHERE WHAT IT READS IS OF BULK AT MOST 1048576: true; the input reads as it did. -/
def fnExactRoomLeftUptoRow : OpenClaim := { program := "ytcbeoaedccdppaa", sum := "3f23f91c96eaf3e2c80d1585c454d8b48decc8ff3f165e3f56e89c4a86b72bde", func := "loop.example/containerport/laws.FnExactRoomLeft", spec := "fnExactRoomLeft", unfollowed := true, recurses := true, apart := false, narrowed := true }
def FnExactRoomLeftUptoSaid : Prop := fnExactRoomLeftUptoRow.holds Try.pinned (OpenSpec.upto fnExactRoomLeftSpec)

/-- 'laws.FnRoomLeft', WHERE WHAT IT READS IS OF BULK AT MOST 1048576: true; the input reads as it did. -/
def fnRoomLeftUptoRow : OpenClaim := { program := "ytcbeoaedccdppaa", sum := "3f23f91c96eaf3e2c80d1585c454d8b48decc8ff3f165e3f56e89c4a86b72bde", func := "loop.example/containerport/laws.FnRoomLeft", spec := "fnRoomLeft", inPlace := ["internal/bytealg.IndexByteString"], unfollowed := true, recurses := true, apart := false, narrowed := true }
def FnRoomLeftUptoSaid : Prop := fnRoomLeftUptoRow.holds Try.pinned (OpenSpec.upto fnRoomLeftSpec)

/-- 'laws.FnYardPut', WHERE WHAT IT READS IS OF BULK AT MOST 1048576: true; the input reads as it did. -/
def fnYardPutUptoRow : OpenClaim := { program := "ytcbeoaedccdppaa", sum := "3f23f91c96eaf3e2c80d1585c454d8b48decc8ff3f165e3f56e89c4a86b72bde", func := "loop.example/containerport/laws.FnYardPut", spec := "fnYardPut", inPlace := ["internal/bytealg.IndexByteString"], unfollowed := true, recurses := true, apart := false, narrowed := true }
def FnYardPutUptoSaid : Prop := fnYardPutUptoRow.holds Try.pinned (OpenSpec.upto fnYardPutSpec)

end Rows
end Go.Proofs.Ytcbeoaedccdppaa
