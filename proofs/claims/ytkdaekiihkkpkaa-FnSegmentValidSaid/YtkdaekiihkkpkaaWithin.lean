/- Numbers in a range, numbers that are ids. -/
import Derived.Test.YtkdaekiihkkpkaaPost
import Derived.Test.YtkdaekiihkkpkaaProg
import Derived.Deep.QuietTactic
import Derived.BigQuiet
namespace Go.Proofs.Ytkdaekiihkkpkaa
open Go Go.ChangeShapes Go.WideShapes Go.ChangeAt Go.RowKit
theorem within_true (a lo hi : Int) (w : World) (h1 : lo ≤ a) (h2 : a ≤ hi) : Calls Try.prog 11 #[.int .i64 a, .int .i64 lo, .int .i64 hi] w fun r w' => r = .returned (.bool true) ∧ w = w' := by
  go_enter Try.func11, Try.ntmps11
  go_wp2
  go_ret
  exact ⟨rfl, rfl⟩
theorem within_false (a lo hi : Int) (w : World) (h : a < lo ∨ hi < a) : Calls Try.prog 11 #[.int .i64 a, .int .i64 lo, .int .i64 hi] w fun r w' => r = .returned (.bool false) ∧ w = w' := by
  by_cases h1 : lo ≤ a
  · have h2 : decide (a ≤ hi) = false := decide_eq_false (by omega)
    clear h
    go_enter Try.func11, Try.ntmps11
    go_wp2
    go_ret
    exact ⟨rfl, rfl⟩
  · clear h
    go_enter Try.func11, Try.ntmps11
    go_wp2
    go_ret
    exact ⟨rfl, rfl⟩
theorem l1In_true (a lo hi : Int) (w : World) (h1 : lo ≤ a) (h2 : a ≤ hi) : Calls Try.prog 14 #[.int .i64 a, .int .i64 lo, .int .i64 hi] w fun r w' => r = .returned (.bool true) ∧ w = w' := by
  go_enter Try.func14, Try.ntmps14
  go_wp2
  go_ret
  exact ⟨rfl, rfl⟩
theorem l1In_false (a lo hi : Int) (w : World) (h : a < lo ∨ hi < a) : Calls Try.prog 14 #[.int .i64 a, .int .i64 lo, .int .i64 hi] w fun r w' => r = .returned (.bool false) ∧ w = w' := by
  by_cases h1 : lo ≤ a
  · have h2 : decide (a ≤ hi) = false := decide_eq_false (by omega)
    clear h
    go_enter Try.func14, Try.ntmps14
    go_wp2
    go_ret
    exact ⟨rfl, rfl⟩
  · clear h
    go_enter Try.func14, Try.ntmps14
    go_wp2
    go_ret
    exact ⟨rfl, rfl⟩
theorem within_some (a lo hi : Int) (w : World) : Calls Try.prog 11 #[.int .i64 a, .int .i64 lo, .int .i64 hi] w (RBool fun _ w' => w = w') := by
  by_cases h : lo ≤ a ∧ a ≤ hi
  · exact (within_true a lo hi w h.1 h.2).mono (by rintro e w' ⟨rfl, rfl⟩; exact RBool.mk rfl)
  · exact (within_false a lo hi w (by omega)).mono (by rintro e w' ⟨rfl, rfl⟩; exact RBool.mk rfl)
end Go.Proofs.Ytkdaekiihkkpkaa
