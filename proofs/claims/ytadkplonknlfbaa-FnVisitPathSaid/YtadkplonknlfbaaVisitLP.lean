/- All that happens in a visit is counted; and how often it came, was loaded, unloaded and left. -/
import Derived.Test.YtadkplonknlfbaaVisitM
namespace Go.Proofs.Ytadkplonknlfbaa
/-- the sum of the counts of the events 0 .. k-1 -/
def vsum (p : Int) (es : List Int) : Nat → Int
  | 0 => 0
  | k + 1 => vsum p es k + visitMany p es k
theorem vmany_fst (x : Int) (s a b : Int) (es : List Int) : (vmany x (s, a) es).1 = (vrun (s, b) es).1 := by
  induction es generalizing s a b with
  | nil => rfl
  | cons e es ih =>
    show (vmany x (vmnext x (s, a) e) es).1 = (vrun (vnext (s, b) e) es).1
    unfold vmnext vnext
    dsimp only
    by_cases h : 0 ≤ vstep s e
    · rw [if_pos h, if_pos h]; exact ih _ _ _
    · rw [if_neg h, if_neg h]; exact ih _ _ _
theorem vstep_ev (s e : Int) (h : 0 ≤ vstep s e) : e = 0 ∨ e = 1 ∨ e = 2 ∨ e = 3 ∨ e = 4 := by
  unfold vstep at h
  repeat' split at h
  all_goals omega
theorem vmany_sum (s m a b c d f : Int) (es : List Int) (h : a + b + c + d + f = m) :
    (vmany 0 (s, a) es).2 + (vmany 1 (s, b) es).2 + (vmany 2 (s, c) es).2 + (vmany 3 (s, d) es).2 + (vmany 4 (s, f) es).2 = (vrun (s, m) es).2 := by
  induction es generalizing s m a b c d f with
  | nil => exact h
  | cons e es ih =>
    show (vmany 0 (vmnext 0 (s, a) e) es).2 + (vmany 1 (vmnext 1 (s, b) e) es).2 + (vmany 2 (vmnext 2 (s, c) e) es).2 + (vmany 3 (vmnext 3 (s, d) e) es).2 + (vmany 4 (vmnext 4 (s, f) e) es).2 = (vrun (vnext (s, m) e) es).2
    unfold vmnext vnext
    dsimp only
    by_cases hv : 0 ≤ vstep s e
    · rw [if_pos hv, if_pos hv, if_pos hv, if_pos hv, if_pos hv, if_pos hv]
      rcases vstep_ev s e hv with he | he | he | he | he
      all_goals
        subst he
        exact ih _ _ _ _ _ _ _ (by simp; omega)
    · rw [if_neg hv, if_neg hv, if_neg hv, if_neg hv, if_neg hv, if_neg hv]
      exact ih _ _ _ _ _ _ _ h
theorem vsum_all (s : Int) (es : List Int) : vsum s es 5 = (visitRun s es).2 := by
  show 0 + visitMany s es 0 + visitMany s es 1 + visitMany s es 2 + visitMany s es 3 + visitMany s es 4 = _
  unfold visitMany visitRun
  by_cases h : 0 ≤ s ∧ s ≤ 4
  · rw [if_pos h, if_pos h, if_pos h, if_pos h, if_pos h, if_pos h, ← vmany_sum s 0 0 0 0 0 0 es (by omega)]
    omega
  · rw [if_neg h, if_neg h, if_neg h, if_neg h, if_neg h, if_neg h]
    rfl
theorem visitMany_bd (s : Int) (es : List Int) (x : Int) : 0 ≤ visitMany s es x ∧ visitMany s es x ≤ es.length := by
  unfold visitMany
  by_cases h : 0 ≤ s ∧ s ≤ 4
  · rw [if_pos h]
    have := vmany_bd x (s, 0) es h
    omega
  · rw [if_neg h]
    omega
theorem vsum_bd (s : Int) (es : List Int) (k : Nat) : 0 ≤ vsum s es k ∧ vsum s es k ≤ k * es.length := by
  induction k with
  | zero => simp [vsum]
  | succ k ih =>
    have := visitMany_bd s es k
    have e : (k + 1) * es.length = k * es.length + es.length := Nat.succ_mul _ _
    have e2 : (((k + 1 : Nat) : Int) * (es.length : Int)) = (k : Int) * es.length + es.length := by rw [← Int.natCast_mul, e]; simp
    simp only [vsum]
    omega
end Go.Proofs.Ytadkplonknlfbaa
