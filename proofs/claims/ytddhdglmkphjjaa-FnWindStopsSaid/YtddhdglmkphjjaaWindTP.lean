/- Stops are strong gusts, in plain words. -/
import Derived.Test.YtddhdglmkphjjaaWindSP
namespace Go.Proofs.Ytddhdglmkphjjaa
/-- how many gusts are stronger than 20 -/
def strong : List Int → Int
  | [] => 0
  | g :: gs => b2i (decide (20 < g)) + strong gs
theorem strong_snoc (gs : List Int) (g : Int) : strong (gs ++ [g]) = strong gs + b2i (decide (20 < g)) := by
  induction gs with
  | nil => simp [strong]
  | cons a as ih => simp only [List.cons_append, strong, ih, Int.add_assoc]
theorem strong_bd (gs : List Int) : 0 ≤ strong gs ∧ strong gs ≤ gs.length := by
  induction gs with
  | nil => simp [strong]
  | cons a as ih =>
    have := b2i_bd (decide (20 < a))
    simp only [strong, List.length_cons]
    omega
theorem step_stop (s g : Int) (hs : -1 ≤ s ∧ s ≤ 2) (h2 : wstep s g ≠ -2) : b2i (!(wstep s g == -1) && (s == -1)) ≤ b2i (decide (20 < g)) := by
  by_cases h20 : 20 < g
  · have e : b2i (decide (20 < g)) = 1 := by simp [h20, b2i]
    rw [e]
    exact (b2i_bd _).2
  · by_cases hm : s = -1
    · subst hm
      unfold wstep at *
      have h3 : ¬ (¬(-1 ≤ (-1 : Int) ∧ (-1 : Int) ≤ 2) ∨ ¬(0 ≤ g ∧ g ≤ 60)) := by
        intro h
        rw [if_pos h] at h2
        exact h2 rfl
      rw [if_neg h3, if_neg h20, if_pos rfl]
      simp [h20, b2i]
    · have : (s == -1) = false := by simp [hm]
      rw [this, Bool.and_false]
      exact (b2i_bd _).1
theorem stops_le (s : Int) (gs : List Int) (hs : -1 ≤ s ∧ s ≤ 2) (hok : wok s gs = true) : stopsGo (s == -1) (wworks s gs) ≤ strong gs := by
  induction gs generalizing s with
  | nil => simp [wworks, stopsGo, strong]
  | cons g gs ih =>
    simp only [wok, Bool.and_eq_true, Bool.not_eq_true', beq_eq_false_iff_ne] at hok
    have h1 := wstep_lo s g
    have h2 := step_stop s g hs hok.1
    have h3 := ih (wstep s g) (by omega) hok.2
    simp only [wworks, stopsGo, strong]
    omega
theorem stops_pos (gs : List Int) (hok : wok (-1) gs = true) (h : 0 < strong gs) : 0 < stopsGo true (wworks (-1) gs) := by
  induction gs with
  | nil => simp [strong] at h
  | cons g gs ih =>
    simp only [wok, Bool.and_eq_true, Bool.not_eq_true', beq_eq_false_iff_ne] at hok
    simp only [wworks, stopsGo]
    by_cases h20 : 20 < g
    · have e : wstep (-1) g = 0 := by
        have h2 := hok.1
        unfold wstep at *
        split
        · rename_i hc; rw [if_pos hc] at h2; exact absurd rfl h2
        · first | rfl | simp [h20]
      rw [e]
      have := stopsGo_bd ((0 : Int) == -1) (wworks 0 gs)
      have e2 : b2i (!((0 : Int) == -1) && true) = 1 := rfl
      omega
    · have e : wstep (-1) g = -1 := by
        have h2 := hok.1
        unfold wstep at *
        split
        · rename_i hc; rw [if_pos hc] at h2; exact absurd rfl h2
        · first | rfl | simp [h20]
      rw [e] at hok ⊢
      have hs : strong (g :: gs) = strong gs := by simp [strong, h20, b2i]
      rw [hs] at h
      have := ih hok.2 h
      have e2 : b2i (!((-1 : Int) == -1) && true) = 0 := rfl
      have e3 : ((-1 : Int) == -1) = true := rfl
      rw [e2, e3]
      omega
theorem law_stops (gs : List Int) (h : 0 ≤ windStops gs) : windStops gs ≤ strong gs ∧ (0 < windStops gs ↔ 0 < strong gs) := by
  unfold windStops at *
  by_cases hok : wok (-1) gs = true
  · rw [if_pos hok] at *
    have h1 := stops_le (-1) gs (by omega) hok
    have e : ((-1 : Int) == -1) = true := rfl
    rw [e] at h1
    refine ⟨h1, fun h2 => by omega, fun h2 => stops_pos gs hok h2⟩
  · rw [if_neg hok] at h
    omega
theorem law_stops_neg (gs : List Int) (h : windStops gs < 0) : windStops gs = -1 := by
  unfold windStops at *
  by_cases hok : wok (-1) gs = true
  · rw [if_pos hok] at *
    have := stopsGo_bd true (wworks (-1) gs)
    omega
  · rw [if_neg hok]
end Go.Proofs.Ytddhdglmkphjjaa
