/- Gusts one after the other, in plain words. -/
import Derived.Test.YtddhdglmkphjjaaWindP
namespace Go.Proofs.Ytddhdglmkphjjaa
/-- the state behind gusts; that no step fails; for each gust whether it works then -/
def wst (s : Int) (gs : List Int) : Int := gs.foldl wstep s
def wok : Int → List Int → Bool
  | _, [] => true
  | s, g :: gs => !(wstep s g == -2) && wok (wstep s g) gs
def wworks : Int → List Int → List Bool
  | _, [] => []
  | s, g :: gs => (wstep s g == -1) :: wworks (wstep s g) gs
theorem wst_snoc (s : Int) (gs : List Int) (g : Int) : wst s (gs ++ [g]) = wstep (wst s gs) g := by simp [wst]
theorem wok_snoc (s : Int) (gs : List Int) (g : Int) : wok s (gs ++ [g]) = (wok s gs && !(wstep (wst s gs) g == -2)) := by
  induction gs generalizing s with
  | nil => simp [wok, wst]
  | cons a as ih => simp only [List.cons_append, wok, ih, wst, List.foldl_cons, Bool.and_assoc]
theorem wok_append (s : Int) (gs hs : List Int) : wok s (gs ++ hs) = (wok s gs && wok (wst s gs) hs) := by
  induction gs generalizing s with
  | nil => simp [wok, wst]
  | cons a as ih => simp only [List.cons_append, wok, ih, wst, List.foldl_cons, Bool.and_assoc]
theorem wworks_snoc (s : Int) (gs : List Int) (g : Int) : wworks s (gs ++ [g]) = wworks s gs ++ [wstep (wst s gs) g == -1] := by
  induction gs generalizing s with
  | nil => simp [wworks, wst]
  | cons a as ih => simp only [List.cons_append, wworks, ih, wst, List.foldl_cons]
theorem wworks_len (s : Int) (gs : List Int) : (wworks s gs).length = gs.length := by
  induction gs generalizing s with
  | nil => rfl
  | cons a as ih => simp [wworks, ih]
theorem wst_bd (s : Int) (gs : List Int) (h : -1 ≤ s ∧ s ≤ 2) (hk : wok s gs = true) : -1 ≤ wst s gs ∧ wst s gs ≤ 2 := by
  induction gs generalizing s with
  | nil => exact h
  | cons g gs ih =>
    simp only [wok, Bool.and_eq_true, Bool.not_eq_true', beq_eq_false_iff_ne] at hk
    have := wstep_lo s g
    exact ih _ (by omega) hk.2
theorem wok_take (s : Int) (gs : List Int) (k : Nat) (h : wok s (gs.take k) = false) : wok s gs = false := by
  rw [← List.take_append_drop k gs, wok_append, h, Bool.false_and]
def windRun (s : Int) (gs : List Int) : Int × List Bool := if (-1 ≤ s ∧ s ≤ 2) ∧ wok s gs = true then (wst s gs, wworks s gs) else (-2, [])
theorem windRun_len (s : Int) (gs : List Int) : (windRun s gs).2.length = gs.length ∨ ((windRun s gs).1 = -2 ∧ (windRun s gs).2 = []) := by
  unfold windRun
  split
  · exact .inl (wworks_len _ _)
  · exact .inr ⟨rfl, rfl⟩
theorem windRun_le (s : Int) (gs : List Int) : (windRun s gs).2.length ≤ gs.length := by
  rcases windRun_len s gs with h | ⟨_, h⟩
  · omega
  · rw [h]; simp
end Go.Proofs.Ytddhdglmkphjjaa
