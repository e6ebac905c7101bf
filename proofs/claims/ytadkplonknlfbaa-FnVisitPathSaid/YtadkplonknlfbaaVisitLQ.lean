/- Of a box of which it was told: it came once at most, is loaded as often as unloaded or once more, and has left if it is gone. -/
import Derived.Test.YtadkplonknlfbaaVisitLP
namespace Go.Proofs.Ytadkplonknlfbaa
/-- state and the counts of the five events -/
structure Told where
  s : Int
  a : Int
  b : Int
  c : Int
  d : Int
  f : Int
def Told.ok (t : Told) : Prop :=
  (t.s = 0 ∧ t.a = 0 ∧ t.b = t.c ∧ t.d = 0 ∧ t.f = 0) ∨ (t.s = 1 ∧ t.a = 1 ∧ t.b = t.c ∧ t.d = 0 ∧ t.f = 0) ∨ (t.s = 2 ∧ t.a = 1 ∧ t.b = t.c + 1 ∧ t.d = 0 ∧ t.f = 0) ∨
  (t.s = 3 ∧ t.a = 1 ∧ t.b = t.c ∧ t.d = 1 ∧ t.f = 0) ∨ (t.s = 4 ∧ t.a = 1 ∧ t.b = t.c + 1 ∧ t.d = 0 ∧ t.f = 1)
theorem vstep_all (s e : Int) (h : 0 ≤ vstep s e) : (s = 0 ∧ e = 0 ∧ vstep s e = 1) ∨ (s = 1 ∧ e = 1 ∧ vstep s e = 2) ∨ (s = 2 ∧ e = 2 ∧ vstep s e = 1) ∨ (s = 1 ∧ e = 3 ∧ vstep s e = 3) ∨ (s = 2 ∧ e = 4 ∧ vstep s e = 4) := by
  unfold vstep at *
  repeat' split at h
  all_goals first | (rename_i hc; obtain ⟨rfl, rfl⟩ := hc; simp; done) | omega
theorem told_go (s a b c d f m : Int) (es : List Int) (h : (Told.mk s a b c d f).ok) :
    (Told.mk (vrun (s, m) es).1 (vmany 0 (s, a) es).2 (vmany 1 (s, b) es).2 (vmany 2 (s, c) es).2 (vmany 3 (s, d) es).2 (vmany 4 (s, f) es).2).ok := by
  induction es generalizing s a b c d f m with
  | nil => exact h
  | cons e es ih =>
    show (Told.mk (vrun (vnext (s, m) e) es).1 (vmany 0 (vmnext 0 (s, a) e) es).2 (vmany 1 (vmnext 1 (s, b) e) es).2 (vmany 2 (vmnext 2 (s, c) e) es).2 (vmany 3 (vmnext 3 (s, d) e) es).2 (vmany 4 (vmnext 4 (s, f) e) es).2).ok
    unfold vmnext vnext
    dsimp only
    by_cases hv : 0 ≤ vstep s e
    · rw [if_pos hv, if_pos hv, if_pos hv, if_pos hv, if_pos hv, if_pos hv]
      refine ih _ _ _ _ _ _ _ ?_
      rcases vstep_all s e hv with ⟨rfl, rfl, h5⟩ | ⟨rfl, rfl, h5⟩ | ⟨rfl, rfl, h5⟩ | ⟨rfl, rfl, h5⟩ | ⟨rfl, rfl, h5⟩
      all_goals
        rw [h5]
        clear h5 hv ih
        simp [Told.ok] at h ⊢
        omega
    · rw [if_neg hv, if_neg hv, if_neg hv, if_neg hv, if_neg hv, if_neg hv]
      exact ih _ _ _ _ _ _ _ h
theorem told_all (es : List Int) : (Told.mk (visitRun 0 es).1 (visitMany 0 es 0) (visitMany 0 es 1) (visitMany 0 es 2) (visitMany 0 es 3) (visitMany 0 es 4)).ok := by
  unfold visitRun visitMany
  rw [if_pos (by omega), if_pos (by omega), if_pos (by omega), if_pos (by omega), if_pos (by omega), if_pos (by omega)]
  exact told_go 0 0 0 0 0 0 0 es (by simp [Told.ok])
theorem visitRun_bd (s : Int) (es : List Int) : -1 ≤ (visitRun s es).1 ∧ (visitRun s es).1 ≤ 4 ∧ 0 ≤ (visitRun s es).2 ∧ (visitRun s es).2 ≤ es.length ∧ ((visitRun s es).1 < 0 → (visitRun s es).2 = 0) := by
  unfold visitRun
  by_cases h : 0 ≤ s ∧ s ≤ 4
  · rw [if_pos h]
    have := vrun_bd (s, 0) es h
    dsimp only at this
    omega
  · rw [if_neg h]
    dsimp only
    omega
end Go.Proofs.Ytadkplonknlfbaa
