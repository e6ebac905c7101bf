/- FnVisitStep returns true, for every code; no condition. -/
import Derived.Test.YtddhdglmkphjjaaVisit
import Derived.Test.YtddhdglmkphjjaaDrawVisit
import Derived.Test.YtddhdglmkphjjaaAlive
namespace Go.Proofs.Ytddhdglmkphjjaa
open Go.ChangeShapes Go.WideShapes Go.ChangeAt Go.RowKit
theorem vstep_good (s e : Int) (h : 0 ≤ vstep s e) : s < 3 ∧ vstep s e ≠ s ∧ vstep s e ≤ 4 ∧ 0 < vstep s e := by
  unfold vstep at *
  repeat' split at h
  all_goals simp_all
theorem vstep_bad (s e : Int) (h : vstep s e < 0) : vstep s e = -1 := by have := vstep_lo s e; omega
theorem walkFnVisitStep (w : World) (A : Option Addr) (n c : Nat) (bs : List Int) (h : Code w A n c bs) :
    Calls Try.prog 7 #[.slice A n c] w fun e w' => e = .returned (.bool true) ∧ Below w.heap.size w w' := by
  by_cases hn : n ≤ 1048576
  · go_enter Try.func7, Try.ntmps7
    go_wp2_with fail
    refine (drawVisitStep_any A n c bs w h).mono ?_
    rintro e w1 ⟨_, _, rfl, ⟨s, rfl, hs0, hs1⟩, ⟨x, rfl, hx0, hx1⟩, hb⟩
    go_wp2_with fail
    refine (implVisitStep _ _ _).mono ?_
    rintro e w' ⟨rfl, rfl⟩
    go_wp2_with fail
    refine (specVisitStep _ _ _).mono ?_
    rintro e w' ⟨rfl, rfl⟩
    have hne : (vstep s x != vstep s x) = false := by simp
    by_cases hv : 0 ≤ vstep s x
    · obtain ⟨g1, g2, g3, g4⟩ := vstep_good s x hv
      have g2b : (vstep s x != s) = true := by simpa using g2
      clear g2
      generalize vstep s x = v at *
      go_wp2_with fail
      go_ret
      exact ⟨rfl, hb⟩
    · have e1 := vstep_bad s x (by omega)
      have e2 : (vstep s x == -1) = true := by simp [e1]
      clear e1
      generalize vstep s x = v at *
      go_wp2_with fail
      refine (alive_any _).mono ?_
      rintro e w' ⟨rfl, rfl⟩
      go_wp2_with fail
      go_ret
      exact ⟨rfl, hb⟩
  · obtain ⟨_, hcap, hmax, _, _⟩ := h
    go_enter Try.func7, Try.ntmps7
    go_wp2_with fail
    go_ret
    exact ⟨rfl, Below.refl _ _⟩
end Go.Proofs.Ytddhdglmkphjjaa
