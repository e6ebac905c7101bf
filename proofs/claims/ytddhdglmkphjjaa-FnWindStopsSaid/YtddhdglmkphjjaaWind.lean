/- WindStep, the reference's and the program's, returns what the plain function says. -/
import Derived.Test.YtddhdglmkphjjaaVisit
import Derived.Test.YtddhdglmkphjjaaWindP
namespace Go.Proofs.Ytddhdglmkphjjaa
open Go.ChangeShapes Go.WideShapes Go.ChangeAt Go.RowKit
theorem isWind_any (a : Int) (w : World) : Calls Try.prog 49 #[.int .i64 a] w fun r w' => r = .returned (.bool (decide (-1 ≤ a) && decide (a ≤ 2))) ∧ w = w' := by
  go_enter Try.func49, Try.ntmps49
  go_wp2_with (go_at_call 50; refine (within_any _ _ _ _).mono ?_; rintro e w' ⟨rfl, rfl⟩)
  go_ret
  exact ⟨rfl, rfl⟩
theorem specWindStep (s g : Int) (w : World) : Calls Try.prog 19 #[.int .i64 s, .int .i64 g] w fun r w' => r = .returned (.int .i64 (wstep s g)) ∧ w = w' := by
  by_cases h1 : -1 ≤ s ∧ s ≤ 2
  · obtain ⟨h1a, h1b⟩ := h1
    by_cases h2 : 0 ≤ g ∧ g ≤ 60
    · obtain ⟨h2a, h2b⟩ := h2
      go_enter Try.func19, Try.ntmps19
      go_wp2_with (go_at_call 48; refine (l1In_any _ _ _ _).mono ?_; rintro e w' ⟨rfl, rfl⟩)
      all_goals
        go_ret
        refine ⟨ret_int ?_, rfl⟩
        try simp only [beq_iff_eq, beq_eq_false_iff_ne] at *
        unfold wstep
        repeat' split
        all_goals omega
    · have hd2 : (decide (0 ≤ g) && decide (g ≤ 60)) = false := by simp; omega
      go_enter Try.func19, Try.ntmps19
      go_wp2_with (go_at_call 48; refine (l1In_any _ _ _ _).mono ?_; rintro e w' ⟨rfl, rfl⟩)
      go_ret
      exact ⟨ret_int (by unfold wstep; rw [if_pos (Or.inr h2)]), rfl⟩
  · have hd1 : (decide (-1 ≤ s) && decide (s ≤ 2)) = false := by simp; omega
    go_enter Try.func19, Try.ntmps19
    go_wp2_with (go_at_call 48; refine (l1In_any _ _ _ _).mono ?_; rintro e w' ⟨rfl, rfl⟩)
    go_ret
    exact ⟨ret_int (by unfold wstep; rw [if_pos (Or.inl h1)]), rfl⟩
theorem implWindStep (s g : Int) (w : World) : Calls Try.prog 20 #[.int .i64 s, .int .i64 g] w fun r w' => r = .returned (.int .i64 (wstep s g)) ∧ w = w' := by
  by_cases h1 : -1 ≤ s ∧ s ≤ 2
  · obtain ⟨h1a, h1b⟩ := h1
    by_cases h2 : 0 ≤ g ∧ g ≤ 60
    · obtain ⟨h2a, h2b⟩ := h2
      go_enter Try.func20, Try.ntmps20
      go_wp2_with (first | (go_at_call 50; refine (within_any _ _ _ _).mono ?_; rintro e w' ⟨rfl, rfl⟩) | (go_at_call 49; refine (isWind_any _ _).mono ?_; rintro e w' ⟨rfl, rfl⟩))
      all_goals
        go_ret
        refine ⟨ret_int ?_, rfl⟩
        try simp only [beq_iff_eq, beq_eq_false_iff_ne] at *
        unfold wstep
        repeat' split
        all_goals omega
    · have hd2 : (decide (0 ≤ g) && decide (g ≤ 60)) = false := by simp; omega
      go_enter Try.func20, Try.ntmps20
      go_wp2_with (first | (go_at_call 50; refine (within_any _ _ _ _).mono ?_; rintro e w' ⟨rfl, rfl⟩) | (go_at_call 49; refine (isWind_any _ _).mono ?_; rintro e w' ⟨rfl, rfl⟩))
      go_ret
      exact ⟨ret_int (by unfold wstep; rw [if_pos (Or.inr h2)]), rfl⟩
  · have hd1 : (decide (-1 ≤ s) && decide (s ≤ 2)) = false := by simp; omega
    go_enter Try.func20, Try.ntmps20
    go_wp2_with (first | (go_at_call 50; refine (within_any _ _ _ _).mono ?_; rintro e w' ⟨rfl, rfl⟩) | (go_at_call 49; refine (isWind_any _ _).mono ?_; rintro e w' ⟨rfl, rfl⟩))
    go_ret
    exact ⟨ret_int (by unfold wstep; rw [if_pos (Or.inl h1)]), rfl⟩
end Go.Proofs.Ytddhdglmkphjjaa
