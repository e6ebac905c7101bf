/- FnExactWindStep returns true, for all arguments; no condition. -/
import Derived.Test.YtddhdglmkphjjaaWind
import Derived.Test.YtddhdglmkphjjaaFrame
namespace Go.Proofs.Ytddhdglmkphjjaa
open Go.ChangeShapes Go.WideShapes Go.ChangeAt Go.RowKit
theorem walkFnExactWindStep (w : World) (a0 : Int) (_w0 : (Lit.int .i64 a0).wf = true) (a1 : Int) (_w1 : (Lit.int .i64 a1).wf = true) :
    Calls Try.prog 4 #[.int .i64 a0, .int .i64 a1] w fun e w' => e = .returned (.bool true) ∧ Below w.heap.size w w' := by
  go_enter Try.func4, Try.ntmps4
  go_wp2_with fail
  refine (specWindStep _ _ _).mono ?_
  rintro e w' ⟨rfl, rfl⟩
  go_wp2_with fail
  refine (implWindStep _ _ _).mono ?_
  rintro e w' ⟨rfl, rfl⟩
  have hne : (wstep a0 a1 != wstep a0 a1) = false := by simp
  go_wp2_with fail
  go_ret
  exact ⟨rfl, Below.refl _ _⟩
end Go.Proofs.Ytddhdglmkphjjaa
