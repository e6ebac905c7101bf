/- What was taken can be put back: plain. -/
import Derived.Test.YtimnemglcheodaaYdG
namespace Go.Proofs.Ytimnemglcheodaa
theorem yardOk_pop {high : Int} {rows : List (List Int)} {k : Nat} (h : yardOk high rows = true) (hk : k < rows.length) : yardOk high (rows.set k rows[k].dropLast) = true := by
  simp only [yardOk, Bool.and_eq_true, decide_eq_true_eq, yOk_iff] at h
  obtain ⟨⟨h1, h2⟩, hs, hn, _⟩ := h
  have e1 : rows = rows.take k ++ rows[k] :: rows.drop (k + 1) := by rw [← List.drop_eq_getElem_cons hk, List.take_append_drop]
  have e2 : rows.set k rows[k].dropLast = rows.take k ++ rows[k].dropLast :: rows.drop (k + 1) := by
    rw [List.set_eq_take_append_cons_drop, if_pos hk]
  have hsub : (rows.set k rows[k].dropLast).flatten.Sublist rows.flatten := by
    rw [e2]
    conv => rhs; rw [e1]
    simp only [List.flatten_append, List.flatten_cons]
    exact (List.Sublist.refl _).append ((List.dropLast_sublist _).append (List.Sublist.refl _))
  simp only [yardOk, Bool.and_eq_true, decide_eq_true_eq, yOk_iff, List.length_set]
  refine ⟨⟨h1, h2⟩, fun s hsm => ?_, hn.sublist hsub, by simp⟩
  rcases List.mem_or_eq_of_mem_set hsm with hsm | rfl
  · exact hs s hsm
  · obtain ⟨b0, b1, b2⟩ := hs _ (List.getElem_mem hk)
    refine ⟨b0, ?_, fun y hy => b2 y ((List.dropLast_sublist _).subset hy)⟩
    rw [List.length_dropLast]; omega
theorem yardOk_back {high : Int} {rows : List (List Int)} {k : Nat} (h : yardOk high rows = true) (hk : k < rows.length) (hz : rows[k] ≠ []) :
    1 ≤ rows[k].getLast hz ∧ rows[k].getLast hz ≤ 999 ∧ yput high (rows.set k rows[k].dropLast) (k : Int) (rows[k].getLast hz) = (high, rows, true) ∧ findAux (rows.set k rows[k].dropLast) 0 (rows[k].getLast hz) = -1 := by
  have h2 := yardOk_pop h hk
  have hk2 : k < (rows.set k rows[k].dropLast).length := by rw [List.length_set]; exact hk
  have e1 : (rows.set k rows[k].dropLast)[k]'hk2 = rows[k].dropLast := by simp
  have e2 : (rows.set k rows[k].dropLast).set k ((rows.set k rows[k].dropLast)[k]'hk2 ++ [rows[k].getLast hz]) = rows := by
    rw [e1, List.dropLast_concat_getLast, List.set_set, List.set_getElem_self]
  have hp := yardOk_push (x := rows[k].getLast hz) h2 hk2
  rw [e2, h] at hp
  have hp' := hp.symm
  simp only [Bool.and_eq_true, Bool.not_eq_true', idI_iff] at hp'
  obtain ⟨⟨a1, a2⟩, a3, _⟩ := hp'
  refine ⟨a1, a2, ?_, ?_⟩
  · have := yput_yes (x := rows[k].getLast hz) h2 hk2 (by rw [e2]; exact h)
    rw [e2] at this
    exact this
  · have hd := findAux_any (rows.set k rows[k].dropLast) 0 (rows[k].getLast hz)
    rw [a3] at hd
    have gen : ∀ (l : List (List Int)) (j : Nat) (x : Int), findAux l j x = -1 ∨ 0 ≤ findAux l j x := by
      intro l
      induction l with
      | nil => intro j x; exact .inl rfl
      | cons s r ih =>
        intro j x
        rw [findAux]
        split
        · exact .inr (by omega)
        · exact ih _ _
    rcases gen (rows.set k rows[k].dropLast) 0 (rows[k].getLast hz) with h | h
    · exact h
    · simp at hd; omega
end Go.Proofs.Ytimnemglcheodaa
