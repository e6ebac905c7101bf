/- Numbers in a range, numbers that are ids. -/
import Derived.Test.YtcdjgbechigepaaDoorPost
import Derived.Test.YtcdjgbechigepaaDoorProg
import Derived.Deep.QuietTactic
import Derived.BigQuiet
namespace Go.Proofs.YtcdjgbechigepaaDoor
open Go Go.ChangeShapes Go.WideShapes Go.ChangeAt Go.RowKit
theorem within_true (a lo hi : Int) (w : World) (h1 : lo ≤ a) (h2 : a ≤ hi) : Calls Tryd.prog 31 #[.int .i64 a, .int .i64 lo, .int .i64 hi] w fun r w' => r = .returned (.bool true) ∧ w = w' := by
  go_enter Tryd.func31, Tryd.ntmps31
  go_wp2
  go_ret
  exact ⟨rfl, rfl⟩
theorem within_false (a lo hi : Int) (w : World) (h : a < lo ∨ hi < a) : Calls Tryd.prog 31 #[.int .i64 a, .int .i64 lo, .int .i64 hi] w fun r w' => r = .returned (.bool false) ∧ w = w' := by
  by_cases h1 : lo ≤ a
  · have h2 : decide (a ≤ hi) = false := decide_eq_false (by omega)
    clear h
    go_enter Tryd.func31, Tryd.ntmps31
    go_wp2
    go_ret
    exact ⟨rfl, rfl⟩
  · clear h
    go_enter Tryd.func31, Tryd.ntmps31
    go_wp2
    go_ret
    exact ⟨rfl, rfl⟩
theorem l1In_true (a lo hi : Int) (w : World) (h1 : lo ≤ a) (h2 : a ≤ hi) : Calls Tryd.prog 36 #[.int .i64 a, .int .i64 lo, .int .i64 hi] w fun r w' => r = .returned (.bool true) ∧ w = w' := by
  go_enter Tryd.func36, Tryd.ntmps36
  go_wp2
  go_ret
  exact ⟨rfl, rfl⟩
theorem l1In_false (a lo hi : Int) (w : World) (h : a < lo ∨ hi < a) : Calls Tryd.prog 36 #[.int .i64 a, .int .i64 lo, .int .i64 hi] w fun r w' => r = .returned (.bool false) ∧ w = w' := by
  by_cases h1 : lo ≤ a
  · have h2 : decide (a ≤ hi) = false := decide_eq_false (by omega)
    clear h
    go_enter Tryd.func36, Tryd.ntmps36
    go_wp2
    go_ret
    exact ⟨rfl, rfl⟩
  · clear h
    go_enter Tryd.func36, Tryd.ntmps36
    go_wp2
    go_ret
    exact ⟨rfl, rfl⟩
theorem isId_true (a : Int) (w : World) (h1 : 1 ≤ a) (h2 : a ≤ 999) : Calls Tryd.prog 51 #[.int .i64 a] w fun r w' => r = .returned (.bool true) ∧ w = w' := by
  go_enter Tryd.func51, Tryd.ntmps51
  go_wp2_with (go_at_call 31; refine (within_true _ _ _ _ h1 h2).mono ?_; rintro e w' ⟨rfl, rfl⟩)
  go_ret
  exact ⟨rfl, rfl⟩
theorem isId_false (a : Int) (w : World) (h : a < 1 ∨ 999 < a) : Calls Tryd.prog 51 #[.int .i64 a] w fun r w' => r = .returned (.bool false) ∧ w = w' := by
  have H := Lib.hid h
  clear h
  go_enter Tryd.func51, Tryd.ntmps51
  go_wp2_with (go_at_call 31; refine (within_false _ _ _ _ H.out).mono ?_; rintro e w' ⟨rfl, rfl⟩)
  go_ret
  exact ⟨rfl, rfl⟩
theorem within_some (a lo hi : Int) (w : World) : Calls Tryd.prog 31 #[.int .i64 a, .int .i64 lo, .int .i64 hi] w (RBool fun _ w' => w = w') := by
  by_cases h : lo ≤ a ∧ a ≤ hi
  · exact (within_true a lo hi w h.1 h.2).mono (by rintro e w' ⟨rfl, rfl⟩; exact RBool.mk rfl)
  · exact (within_false a lo hi w (by omega)).mono (by rintro e w' ⟨rfl, rfl⟩; exact RBool.mk rfl)
theorem isId_some (a : Int) (w : World) : Calls Tryd.prog 51 #[.int .i64 a] w (RBool fun _ w' => w = w') := by
  by_cases h : 1 ≤ a ∧ a ≤ 999
  · exact (isId_true a w h.1 h.2).mono (by rintro e w' ⟨rfl, rfl⟩; exact RBool.mk rfl)
  · exact (isId_false a w (by omega)).mono (by rintro e w' ⟨rfl, rfl⟩; exact RBool.mk rfl)
end Go.Proofs.YtcdjgbechigepaaDoor
