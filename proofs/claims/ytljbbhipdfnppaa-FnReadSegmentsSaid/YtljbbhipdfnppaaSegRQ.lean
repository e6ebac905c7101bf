/- Elements that are being read, as rows of rows: the last part is turned, a part is put, an element is put. -/
import Derived.Test.YtljbbhipdfnppaaRRA
import Derived.Test.YtljbbhipdfnppaaSegRE
namespace Go.Proofs.Ytljbbhipdfnppaa
open Go Go.ChangeShapes Go.WideShapes Go.ChangeAt Go.RowKit
/-- the cells of elements -/
def elC (L : List (List UInt8)) : List Value := strs (L.map bA)
def elsC (E : List (List (List UInt8))) : List (List Value) := strss (tx E)
theorem elC_len (L : List (List UInt8)) : (elC L).length = L.length := by simp [elC, strs]
theorem elsC_len (E : List (List (List UInt8))) : (elsC E).length = E.length := by simp [elsC, strss, tx]
theorem elsC_snoc (E : List (List (List UInt8))) (L : List (List UInt8)) : elsC (E ++ [L]) = elsC E ++ [elC L] := by simp [elsC, strss, tx, elC]
theorem elC_snoc (L : List (List UInt8)) (p : List UInt8) : elC (L ++ [p]) = elC L ++ [.string (bA p)] := by simp [elC, strs]
theorem elsC_at (E : List (List (List UInt8))) (L : List (List UInt8)) (h : E.length < (elsC (E ++ [L])).length) : (elsC (E ++ [L]))[E.length] = elC L := by
  simp only [elsC_snoc]
  rw [List.getElem_append_right (by rw [elsC_len]; exact Nat.le_refl _)]
  simp [elsC_len]
theorem elsC_set (E : List (List (List UInt8))) (L L' : List (List UInt8)) : (elsC (E ++ [L])).set E.length (elC L') = elsC (E ++ [L']) := by
  rw [elsC_snoc, elsC_snoc, List.set_append_right _ _ (by rw [elsC_len]; exact Nat.le_refl _), elsC_len, Nat.sub_self]
  rfl
theorem elC_set (L : List (List UInt8)) (p p' : List UInt8) : (elC (L ++ [p])).set L.length (.string (bA p')) = elC (L ++ [p']) := by
  rw [elC_snoc, elC_snoc, List.set_append_right _ _ (by rw [elC_len]; exact Nat.le_refl _), elC_len, Nat.sub_self]
  rfl
section
variable {w : World} {lo hi : Nat} {te ti : TypeId} {v : Value} {E : List (List (List UInt8))} {L : List (List UInt8)} {p : List UInt8}
theorem els_turn (h : OwnRR w lo hi te ti v (elsC (E ++ [L ++ [p]]))) (p' : List UInt8) :
    ∃ g c b c', v = .slice (some ⟨g, 0, none⟩) (E.length + 1) c ∧ lo ≤ g ∧ g < w.heap.size ∧ lo ≤ b ∧ b < w.heap.size ∧ w.cell? ⟨g, E.length, none⟩ = some (.slice (some ⟨b, 0, none⟩) (L.length + 1) c') ∧ w.cell? ⟨b, L.length, none⟩ = some (.string (bA p)) ∧ w.frozen? ⟨b, L.length, none⟩ = false ∧
      OwnRR (w.setCell ⟨b, L.length, none⟩ (.string (bA p'))) lo hi te ti v (elsC (E ++ [L ++ [p']])) ∧ Out lo hi w (w.setCell ⟨b, L.length, none⟩ (.string (bA p'))) := by
  have hl : (elsC (E ++ [L ++ [p]])).length = E.length + 1 := by rw [elsC_len]; simp
  have hi' : E.length < (elsC (E ++ [L ++ [p]])).length := by omega
  have he := elsC_at E (L ++ [p]) hi'
  have hl2 : ((elsC (E ++ [L ++ [p]]))[E.length]).length = L.length + 1 := by rw [he, elC_len]; simp
  obtain ⟨g, c, b, c', hv, h1, h2, h3, h4, h5, h6, h7, h8, h9⟩ := h.turn (i := E.length) (j := L.length) hi' (by omega) (.string (bA p'))
  refine ⟨g, c, b, c', by rw [hv, hl], h1, h2, h3, h4, by rw [h5, hl2], ?_, h7, ?_, h9⟩
  · rw [h6]
    simp only [he, elC_snoc]
    rw [List.getElem_append_right (by rw [elC_len]; exact Nat.le_refl _)]
    simp [elC_len]
  · rw [he, elC_set, elsC_set] at h8
    exact h8
theorem els_put (h : OwnRR w lo hi te ti v (elsC (E ++ [L]))) :
    ∃ g c B c', v = .slice (some ⟨g, 0, none⟩) (E.length + 1) c ∧ lo ≤ g ∧ g < hi ∧ w.cell? ⟨g, E.length, none⟩ = some (.slice B L.length c') ∧ w.frozen? ⟨g, E.length, none⟩ = false ∧ OwnI w lo hi ti 1 (.slice B L.length c') L.length (elC L) ∧ (∀ b, Value.ownBlock (.slice B L.length c') = some b → b ≠ g) ∧
      ∀ (w2 : World) (u : Value) (L' : List (List UInt8)), w.grownBy w2 (Value.ownBlock (.slice B L.length c')) → w2.ownsRow lo ti 1 u L'.length (elC L') → (u.ownBlock = Value.ownBlock (.slice B L.length c') ∨ ∃ b, u.ownBlock = some b ∧ hi ≤ b) →
        OwnRR (w2.setCell ⟨g, E.length, none⟩ u) lo (w2.setCell ⟨g, E.length, none⟩ u).heap.size te ti v (elsC (E ++ [L'])) ∧ Out lo hi w (w2.setCell ⟨g, E.length, none⟩ u) := by
  have hl : (elsC (E ++ [L])).length = E.length + 1 := by rw [elsC_len]; simp
  have hi' : E.length < (elsC (E ++ [L])).length := by omega
  have he := elsC_at E L hi'
  have hl2 : ((elsC (E ++ [L]))[E.length]).length = L.length := by rw [he, elC_len]
  obtain ⟨g, c, B, c', hv, h1, h2, h3, h4, h5, h6, h7⟩ := h.put (i := E.length) hi'
  rw [hl2] at h3 h5 h6 h7
  rw [he] at h5
  refine ⟨g, c, B, c', by rw [hv, hl], h1, h2, h3, h4, h5, h6, fun w2 u L' hg ho hb => ?_⟩
  have := h7 w2 u (elC L') hg (by rw [elC_len]; exact ho) hb
  rw [elsC_set] at this
  exact this
/-- an element of its own block (from hi on) behind the others -/
theorem els_snoc {u : Value} {L : List (List UInt8)} (h : OwnRR w lo hi te ti v (elsC E)) (hu : w.ownsRow lo ti 1 u L.length (elC L)) (hge : ∀ g, u.ownBlock = some g → hi ≤ g) :
    ∃ hs, w.ownsRow lo te 1 v E.length hs ∧ ∀ (v' : Value) (w' : World), w'.ownsRow lo te 1 v' (E.length + 1) (hs ++ [u]) → w.grownBy w' v.ownBlock → (v'.ownBlock = v.ownBlock ∨ v'.ownBlock = some (w.heap.size + 1)) → OwnRR w' lo w'.heap.size te ti v' (elsC (E ++ [L])) := by
  obtain ⟨hs, h1, h2, h3⟩ := h
  have hl := elsC_len E
  refine ⟨hs, by rw [← hl]; exact h1.row, fun v' w' ho hg hb => ?_⟩
  rw [elsC_snoc]
  exact own_snoc h1 h2 h3 (by rw [elC_len]; exact hu) hge (by rw [hl]; exact ho) hg hb
end
end Go.Proofs.Ytljbbhipdfnppaa
