/- A yard compared with the zero value. -/
import Derived.Test.YtcbeoaedccdppaaSameYard
namespace Go.Proofs.Ytcbeoaedccdppaa
open Go Go.ChangeShapes Go.WideShapes Go.ChangeAt Go.RowKit
set_option linter.unusedVariables false
theorem sameYard_zero (high : Int) (A B : Option Addr) (c n d : Nat) (w : World) (hm : n ≤ 1048576) :
    Calls Try.prog 17 #[.agg #[.int .i64 0, .slice A 0 c], .agg #[.int .i64 high, .slice B n d]] w (RBool fun _ w' => Below w.heap.size w w') := by
  have hbl : Below w.heap.size w ((w.alloc (.cells #[.int .i64 0, .slice A 0 c] 27)).alloc (.cells #[.int .i64 high, .slice B n d] 27)) := ((Below.refl _ _).alloc (Nat.le_refl _) _).alloc (by simp) _
  have HBL := Lib.hid hbl
  clear hbl
  by_cases hh : high = 0
  · subst hh
    by_cases hn : n = 0
    · subst hn
      go_enter Try.func17, Try.ntmps17
      go_wp2_with fail
      refine (sameLists_any A B [] 0 c d rfl _ RdRR.nil_ RdRR.nil_ (by omega) (by simp)).mono ?_
      rintro e w1 ⟨rfl, hb1⟩
      go_wp2_with fail
      go_ret
      exact RBool.mk (below_trans HBL.out hb1)
    · have hne : ((0 : Int) != (n : Int)) = true := by simp; omega
      have hS : ∀ w0, Calls Try.prog 38 #[.slice A 0 c, .slice B n d] w0 fun e w' => e = .returned (.bool false) ∧ w0 = w' := fun w0 => by
        go_enter Try.func38, Try.ntmps38
        go_wp2_with fail
        go_ret
        exact ⟨rfl, rfl⟩
      go_enter Try.func17, Try.ntmps17
      go_wp2_with fail
      refine (hS _).mono ?_
      rintro e w1 ⟨rfl, rfl⟩
      go_wp2_with fail
      go_ret
      exact RBool.mk HBL.out
  · have hf : ((0 : Int) == high) = false := by simpa using fun h => hh h.symm
    clear hh
    go_enter Try.func17, Try.ntmps17
    go_wp2_with fail
    go_ret
    exact RBool.mk HBL.out
end Go.Proofs.Ytcbeoaedccdppaa
