/- FnExactVisitStep returns true, for all arguments; no condition. -/
import Derived.Test.YtddhdglmkphjjaaVisit
import Derived.Test.YtddhdglmkphjjaaFrame
namespace Go.Proofs.Ytddhdglmkphjjaa
open Go.ChangeShapes Go.WideShapes Go.ChangeAt Go.RowKit
theorem walkFnExactVisitStep (w : World) (a0 : Int) (_w0 : (Lit.int .i64 a0).wf = true) (a1 : Int) (_w1 : (Lit.int .i64 a1).wf = true) :
    Calls Try.prog 3 #[.int .i64 a0, .int .i64 a1] w fun e w' => e = .returned (.bool true) ∧ Below w.heap.size w w' := by
  go_enter Try.func3, Try.ntmps3
  go_wp2_with fail
  refine (specVisitStep _ _ _).mono ?_
  rintro e w' ⟨rfl, rfl⟩
  go_wp2_with fail
  refine (implVisitStep _ _ _).mono ?_
  rintro e w' ⟨rfl, rfl⟩
  have hne : (vstep a0 a1 != vstep a0 a1) = false := by simp
  go_wp2_with fail
  go_ret
  exact ⟨rfl, Below.refl _ _⟩
end Go.Proofs.Ytddhdglmkphjjaa
