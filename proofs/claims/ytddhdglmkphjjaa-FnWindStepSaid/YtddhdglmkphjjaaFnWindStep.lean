/- FnWindStep returns true, for every code; no condition. -/
import Derived.Test.YtddhdglmkphjjaaWind
import Derived.Test.YtddhdglmkphjjaaDrawVisit
import Derived.Test.YtddhdglmkphjjaaAlive
namespace Go.Proofs.Ytddhdglmkphjjaa
open Go.ChangeShapes Go.WideShapes Go.ChangeAt Go.RowKit
theorem wstep_good (s g : Int) (h : wstep s g ≠ -2) : (g ≤ 20 ∨ wstep s g = 0) ∧ (s ≠ -1 ∨ 20 < g ∨ wstep s g = -1) ∧ -1 ≤ wstep s g ∧ wstep s g < 3 := by
  unfold wstep at *
  repeat' split at h
  all_goals simp_all
  all_goals omega
theorem walkFnWindStep (w : World) (A : Option Addr) (n c : Nat) (bs : List Int) (h : Code w A n c bs) :
    Calls Try.prog 8 #[.slice A n c] w fun e w' => e = .returned (.bool true) ∧ Below w.heap.size w w' := by
  by_cases hn : n ≤ 1048576
  · go_enter Try.func8, Try.ntmps8
    go_wp2_with fail
    refine (drawWindStep_any A n c bs w h).mono ?_
    rintro e w1 ⟨_, _, rfl, ⟨s, rfl, hs0, hs1⟩, ⟨x, rfl, hx0, hx1⟩, hb⟩
    go_wp2_with fail
    refine (implWindStep _ _ _).mono ?_
    rintro e w' ⟨rfl, rfl⟩
    go_wp2_with fail
    refine (specWindStep _ _ _).mono ?_
    rintro e w' ⟨rfl, rfl⟩
    have hne : (wstep s x != wstep s x) = false := by simp
    by_cases hv : wstep s x = -2
    · have e2 : (wstep s x == -2) = true := by simp [hv]
      clear hv
      generalize wstep s x = v at *
      go_wp2_with fail
      refine (alive_any _).mono ?_
      rintro e w' ⟨rfl, rfl⟩
      go_wp2_with fail
      go_ret
      exact ⟨rfl, hb⟩
    · obtain ⟨g1, g2, g3, g4⟩ := wstep_good s x hv
      have e2 : (wstep s x == -2) = false := by simp [hv]
      clear hv
      generalize wstep s x = v at *
      go_wp2_with fail
      all_goals
        go_ret
        refine ⟨ret_bool ?_, hb⟩
        first | rfl | (simp; omega)
  · obtain ⟨_, hcap, hmax, _, _⟩ := h
    go_enter Try.func8, Try.ntmps8
    go_wp2_with fail
    go_ret
    exact ⟨rfl, Below.refl _ _⟩
end Go.Proofs.Ytddhdglmkphjjaa
