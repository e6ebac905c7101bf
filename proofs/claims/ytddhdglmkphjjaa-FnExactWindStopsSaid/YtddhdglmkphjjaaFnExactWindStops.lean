/- FnExactWindStops returns true, for all arguments; no condition. -/
import Derived.Test.YtddhdglmkphjjaaWindS
import Derived.Test.YtddhdglmkphjjaaInts
import Derived.Test.YtddhdglmkphjjaaFrame
namespace Go.Proofs.Ytddhdglmkphjjaa
open Go.ChangeShapes Go.WideShapes Go.ChangeAt Go.RowKit
theorem walkFnExactWindStops (w : World) (A : Option Addr) (n c : Nat) (es : List Int) (hrow : IsRow .i64 w A n es) :
    Calls Try.prog 9 #[.slice A n c] w fun e w' => e = .returned (.bool true) ∧ Below w.heap.size w w' := by
  obtain ⟨hen, hmax, hr, _⟩ := hrow
  unfold maxLen at hmax
  have hr : RdV w A (ints es) := hr
  have HE := Lib.hid hen
  clear hen
  by_cases hn : n ≤ 1048576
  · go_enter Try.func9, Try.ntmps9
    go_wp2_with fail
    refine (toIntS_any A es n c HE.out _ hr hn).mono ?_
    rintro e w1 ⟨rfl, hx1, hb1⟩
    go_wp2_with fail
    refine (specWindStops _ es n n HE.out _ hx1.rd hn).mono ?_
    rintro e w2 ⟨rfl, hb2⟩
    have b2 := below_trans hb1 hb2
    go_wp2_with fail
    refine (toIntS_any A es n c HE.out _ (hr.below b2) hn).mono ?_
    rintro e w3 ⟨rfl, hx3, hb3⟩
    have b3 := below_trans b2 hb3
    go_wp2_with fail
    refine (implWindStops _ es n n HE.out _ hx3.rd hn).mono ?_
    rintro e w4 ⟨rfl, hb4⟩
    have b4 := below_trans b3 hb4
    generalize windStops es = p
    have h1 : (p != p) = false := by simp
    go_wp2_with fail
    refine (toIntS_any A es n c HE.out _ (hr.below b4) hn).mono ?_
    rintro e w5 ⟨rfl, hx5, hb5⟩
    have b5 := below_trans b4 hb5
    go_wp2_with fail
    refine (eqIntS_true _ _ es n n n HE.out _ ((hx3.later hb4).later hb5).rd hx5.rd hn).mono ?_
    rintro e w6 ⟨rfl, hb6⟩
    go_wp2_with fail
    go_ret
    exact ⟨rfl, below_trans b5 hb6⟩
  · go_enter Try.func9, Try.ntmps9
    go_wp2_with fail
    go_ret
    exact ⟨rfl, Below.refl _ _⟩
end Go.Proofs.Ytddhdglmkphjjaa
