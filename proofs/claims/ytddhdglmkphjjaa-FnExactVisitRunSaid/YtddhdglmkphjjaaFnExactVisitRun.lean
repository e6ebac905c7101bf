/- FnExactVisitRun returns true, for all arguments; no condition. -/
import Derived.Test.YtddhdglmkphjjaaVisit
import Derived.Test.YtddhdglmkphjjaaInts
import Derived.Test.YtddhdglmkphjjaaFrame
namespace Go.Proofs.Ytddhdglmkphjjaa
open Go.ChangeShapes Go.WideShapes Go.ChangeAt Go.RowKit
theorem walkFnExactVisitRun (w : World) (a0 : Int) (_w0 : (Lit.int .i64 a0).wf = true) (A : Option Addr) (n c : Nat) (es : List Int) (hrow : IsRow .i64 w A n es) :
    Calls Try.prog 5 #[.int .i64 a0, .slice A n c] w fun e w' => e = .returned (.bool true) ∧ Below w.heap.size w w' := by
  obtain ⟨hen, hmax, hr, _⟩ := hrow
  unfold maxLen at hmax
  have hr : RdV w A (ints es) := hr
  have HE := Lib.hid hen
  clear hen
  by_cases hn : n ≤ 1048576
  · go_enter Try.func5, Try.ntmps5
    go_wp2_with fail
    refine (toIntS_any A es n c HE.out _ hr hn).mono ?_
    rintro e w1 ⟨rfl, hx1, hb1⟩
    go_wp2_with fail
    refine (specVisitRun a0 _ es n n HE.out _ hx1.rd hn).mono ?_
    rintro e w' ⟨rfl, rfl⟩
    go_wp2_with fail
    refine (toIntS_any A es n c HE.out _ (hr.below hb1) hn).mono ?_
    rintro e w2 ⟨rfl, hx2, hb2⟩
    go_wp2_with fail
    refine (implVisitRun a0 _ es n n HE.out _ hx2.rd hn).mono ?_
    rintro e w' ⟨rfl, rfl⟩
    generalize visitRun a0 es = p
    have h1 : (p.1 != p.1) = false := by simp
    have h2 : (p.2 != p.2) = false := by simp
    go_wp2_with fail
    refine (toIntS_any A es n c HE.out _ (hr.below (below_trans hb1 hb2)) hn).mono ?_
    rintro e w3 ⟨rfl, hx3, hb3⟩
    go_wp2_with fail
    refine (eqIntS_true _ _ es n n n HE.out _ (hx2.later hb3).rd hx3.rd hn).mono ?_
    rintro e w4 ⟨rfl, hb4⟩
    go_wp2_with fail
    go_ret
    exact ⟨rfl, below_trans (below_trans (below_trans hb1 hb2) hb3) hb4⟩
  · go_enter Try.func5, Try.ntmps5
    go_wp2_with fail
    go_ret
    exact ⟨rfl, Below.refl _ _⟩
end Go.Proofs.Ytddhdglmkphjjaa
