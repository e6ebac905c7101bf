/- What the walks of the laws on ReadYard share. -/
import Derived.Test.YtcdjgbechigepaaDoorRdL
import Derived.Test.YtcdjgbechigepaaDoorYdX
namespace Go.Proofs.YtcdjgbechigepaaDoor
open Go Go.ChangeShapes Go.WideShapes Go.ChangeAt Go.RowKit
set_option linter.unusedVariables false
/-- a yard and a truth value, in memory of the call's own -/
def RdRd (w : World) (high : Int) (rows : List (List Int)) (m : Nat) (r : Bool) : Ending → World → Prop :=
  RVal fun u w' => ∃ A c, u = .tuple #[.agg #[.int .i64 high, .slice A m c], .bool r] ∧ OwnRR w' w.heap.size w'.heap.size 40 3 (.slice A m c) (intss rows) ∧ Below w.heap.size w w'
theorem rd_use {w : World} {f : FuncId} {args : Array Value} {high : Int} {r : Bool} {rows : List (List Int)} {m : Nat} (h : Calls Tryd.prog f args w (RdOut w (high, rows, r))) (hm : rows.length = m) : Calls Tryd.prog f args w (RdRd w high rows m r) := by
  subst hm
  exact h
theorem totI_le {m : Nat} {rows : List (List Int)} (h : ∀ z ∈ rows, z.length ≤ m) : totI rows ≤ m * rows.length := by
  induction rows with
  | nil => simp [totI]
  | cons a r ih =>
    have h1 := ih fun z hz => h z (List.mem_cons_of_mem _ hz)
    have h2 := h a (List.mem_cons_self ..)
    rw [totI_cons, List.length_cons, Nat.mul_add, Nat.mul_one]
    omega
theorem rdYard_small (high : Int) (s : List UInt8) : (rdYard high s).2.1.length ≤ 5 ∧ (∀ z ∈ (rdYard high s).2.1, z.length ≤ 5) ∧ totI (rdYard high s).2.1 ≤ 25 := by
  by_cases h : (rdYard high s).2.2 = true
  · obtain ⟨h1, h2, _⟩ := yard_each (rdYard_ok h).2.1
    have := totI_le h2
    exact ⟨h1, h2, by omega⟩
  · have e : rdYard high s = (0, [], false) := by
      unfold rdYard at h ⊢
      cases hr : rdRows (cutB 32 s) with
      | none => rfl
      | some rows =>
        simp only [hr] at h ⊢
        split
        · rename_i h2
          rw [if_pos h2] at h
          exact absurd rfl h
        · rfl
    rw [e]
    simp [totI]
theorem ErrsW.later {w w' : World} {m : Nat} (h : ErrsW w) (hb : Below m w w') (hm : w.heap.size ≤ m) : ErrsW w' := h.kept hm hb
end Go.Proofs.YtcdjgbechigepaaDoor
