/- What was put can be taken: plain. -/
import Derived.Test.YtcbeoaedccdppaaYdPL
namespace Go.Proofs.Ytcbeoaedccdppaa
/-- what a putting gives, three ways -/
theorem yput_ways (high : Int) (rows : List (List Int)) (i x : Int) : yput high rows i x = (0, [], false) ∨ yput high rows i x = (high, rows, false) ∨
    ∃ (k : Nat) (rows2 : List (List Int)), i = (k : Int) ∧ yput high rows i x = (high, rows2, true) ∧ yardOk high rows = true ∧ yardOk high rows2 = true ∧ ytake high rows2 (k : Int) = (high, rows, x) ∧ totI rows2 = totI rows + 1 ∧ rows2.length = rows.length := by
  cases hok : yardOk high rows with
  | false => exact .inl (yput_bad i x hok)
  | true =>
    by_cases h : 0 ≤ i ∧ i < rows.length
    · obtain ⟨h0, h1⟩ := h
      obtain ⟨k, rfl⟩ := Int.eq_ofNat_of_zero_le h0
      have hk : k < rows.length := by omega
      cases h2 : yardOk high (rows.set k (rows[k] ++ [x])) with
      | false => exact .inr (.inl (yput_no hok hk h2))
      | true =>
        have hk2 : k < (rows.set k (rows[k] ++ [x])).length := by rw [List.length_set]; exact hk
        have e1 : (rows.set k (rows[k] ++ [x]))[k]'hk2 = rows[k] ++ [x] := by simp
        have hz : (rows.set k (rows[k] ++ [x]))[k]'hk2 ≠ [] := by rw [e1]; simp
        refine .inr (.inr ⟨k, _, rfl, yput_yes hok hk h2, rfl, h2, ?_, ?_, by rw [List.length_set]⟩)
        · rw [ytake_yes h2 hk2 hz]
          simp
        · have := totI_set hk (rows[k] ++ [x])
          rw [List.length_append, List.length_singleton] at this
          omega
    · exact .inr (.inl (yput_out x hok h))
end Go.Proofs.Ytcbeoaedccdppaa
