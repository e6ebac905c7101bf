/- What the walk of FnExactYardPut needs besides. -/
import Derived.Test.YtcbeoaedccdppaaYdL
import Derived.Test.YtcbeoaedccdppaaYdJ
namespace Go.Proofs.Ytcbeoaedccdppaa
open Go Go.ChangeShapes Go.WideShapes Go.ChangeAt Go.RowKit
set_option linter.unusedVariables false
theorem yp_use {w : World} {f : FuncId} {args : Array Value} {high : Int} {r : Bool} {rows : List (List Int)} {m : Nat} (h : Calls Try.prog f args w (YPOut w (high, rows, r))) (hm : rows.length = m) : Calls Try.prog f args w (YTRd w high rows m (.bool r)) := by
  subst hm
  exact h
theorem yput_small (high : Int) (rows : List (List Int)) (i x : Int) : (yput high rows i x).2.1.length ≤ rows.length ∧ totI (yput high rows i x).2.1 ≤ totI rows + 1 := by
  unfold yput
  split
  · simp [totI]
  · split
    · rename_i h
      have hk : i.toNat < rows.length := by omega
      have := totI_set hk (rows.getD i.toNat [] ++ [x])
      rw [List.length_append, getD_at hk] at this
      simp only [List.length_set]
      rw [getD_at hk]
      simp at this
      exact ⟨Nat.le_refl _, by omega⟩
    · exact ⟨Nat.le_refl _, Nat.le_succ _⟩
end Go.Proofs.Ytcbeoaedccdppaa
