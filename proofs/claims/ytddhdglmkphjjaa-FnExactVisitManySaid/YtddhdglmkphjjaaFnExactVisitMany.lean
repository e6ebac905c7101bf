/- FnExactVisitMany returns true, for all arguments; no condition. -/
import Derived.Test.YtddhdglmkphjjaaVisitM
import Derived.Test.YtddhdglmkphjjaaInts
import Derived.Test.YtddhdglmkphjjaaFrame
namespace Go.Proofs.Ytddhdglmkphjjaa
open Go.ChangeShapes Go.WideShapes Go.ChangeAt Go.RowKit
theorem walkFnExactVisitMany (w : World) (a0 : Int) (_w0 : (Lit.int .i64 a0).wf = true) (A : Option Addr) (n c : Nat) (es : List Int) (hrow : IsRow .i64 w A n es) (a2 : Int) (_w2 : (Lit.int .i64 a2).wf = true) :
    Calls Try.prog 6 #[.int .i64 a0, .slice A n c, .int .i64 a2] w fun e w' => e = .returned (.bool true) ∧ Below w.heap.size w w' := by
  obtain ⟨hen, hmax, hr, _⟩ := hrow
  unfold maxLen at hmax
  have hr : RdV w A (ints es) := hr
  have HE := Lib.hid hen
  clear hen
  by_cases hn : n ≤ 1048576
  · go_enter Try.func6, Try.ntmps6
    go_wp2_with fail
    refine (toIntS_any A es n c HE.out _ hr hn).mono ?_
    rintro e w1 ⟨rfl, hx1, hb1⟩
    go_wp2_with fail
    refine (specVisitMany a0 a2 _ es n n HE.out _ hx1.rd hn).mono ?_
    rintro e w' ⟨rfl, rfl⟩
    go_wp2_with fail
    refine (toIntS_any A es n c HE.out _ (hr.below hb1) hn).mono ?_
    rintro e w2 ⟨rfl, hx2, hb2⟩
    go_wp2_with fail
    refine (implVisitMany a0 a2 _ es n n HE.out _ hx2.rd hn).mono ?_
    rintro e w' ⟨rfl, rfl⟩
    generalize visitMany a0 es a2 = p
    have h1 : (p != p) = false := by simp
    go_wp2_with fail
    refine (toIntS_any A es n c HE.out _ (hr.below (below_trans hb1 hb2)) hn).mono ?_
    rintro e w3 ⟨rfl, hx3, hb3⟩
    go_wp2_with fail
    refine (eqIntS_true _ _ es n n n HE.out _ (hx2.later hb3).rd hx3.rd hn).mono ?_
    rintro e w4 ⟨rfl, hb4⟩
    go_wp2_with fail
    go_ret
    exact ⟨rfl, below_trans (below_trans (below_trans hb1 hb2) hb3) hb4⟩
  · go_enter Try.func6, Try.ntmps6
    go_wp2_with fail
    go_ret
    exact ⟨rfl, Below.refl _ _⟩
end Go.Proofs.Ytddhdglmkphjjaa
