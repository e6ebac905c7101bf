/- The drawing of the laws on manifests: lists that can be read. -/
import Derived.Test.YtbhnlooellgfaaaDrawTold
namespace Go.Proofs.Ytbhnlooellgfaaa
open Go Go.ChangeShapes Go.WideShapes Go.ChangeAt Go.RowKit
set_option linter.unusedVariables false
def OneD (w : World) : Ending → World → Prop := RVal fun v w' => ∃ A n c zs, v = .slice A n c ∧ RdV w' A (boxs zs) ∧ zs.length = n ∧ n ≤ c ∧ n ≤ 20 ∧ Below w.heap.size w w'
theorem drawSortBoxes_any (A : Option Addr) (n c : Nat) (bs : List Int) (w : World) (h : Code w A n c bs) : Calls Try.prog 21 #[.slice A n c] w (OneD w) := by
  have h1 := open_any A n c bs w h
  clear h
  go_enter Try.func21, Try.ntmps21
  go_wp2_with fail
  refine h1.mono ?_
  rintro e w1 ⟨_, rfl, g, rfl, hg, hr, hb⟩
  have HB := Lib.hid hb
  clear hb h1
  go_wp2_with fail
  refine (l20Told_any g 0 6 _ hr (by omega) (by omega) (by omega)).mono ?_
  rintro e w2 ⟨_, rfl, A1, n1, c1, zs, A2, m, d, ss, rfl, hT⟩
  have HT := Lib.hid hT
  clear hT hr
  go_wp2_with fail
  go_ret
  exact RVal.mk ⟨A2, m, d, ss, rfl, HT.out.rd2, HT.out.len2, HT.out.cap2, HT.out.mx2, below_only HB.out HT.out.gr hg⟩
def TwoD (w : World) : Ending → World → Prop := RVal fun v w' => ∃ A n c zs B m d ss, v = .tuple #[.slice A n c, .slice B m d] ∧ RdV w' A (boxs zs) ∧ zs.length = n ∧ n ≤ c ∧ n ≤ 20 ∧ RdV w' B (boxs ss) ∧ ss.length = m ∧ m ≤ d ∧ m ≤ 20 ∧ Below w.heap.size w w'
theorem drawDiffsOf_any (A : Option Addr) (n c : Nat) (bs : List Int) (w : World) (h : Code w A n c bs) : Calls Try.prog 30 #[.slice A n c] w (TwoD w) := by
  have h1 := open_any A n c bs w h
  clear h
  go_enter Try.func30, Try.ntmps30
  go_wp2_with fail
  refine h1.mono ?_
  rintro e w1 ⟨_, rfl, g, rfl, hg, hr, hb⟩
  have HB := Lib.hid hb
  clear hb h1
  go_wp2_with fail
  refine (l20Told_any g 0 5 _ hr (by omega) (by omega) (by omega)).mono ?_
  rintro e w2 ⟨_, rfl, A1, n1, c1, zs, A2, m, d, ss, rfl, hT⟩
  have HT := Lib.hid hT
  clear hT hr
  go_wp2_with fail
  go_ret2
  exact RVal.mk ⟨A1, n1, c1, zs, A2, m, d, ss, rfl, HT.out.rd1, HT.out.len1, HT.out.cap1, HT.out.mx1, HT.out.rd2, HT.out.len2, HT.out.cap2, HT.out.mx2, below_only HB.out HT.out.gr hg⟩
end Go.Proofs.Ytbhnlooellgfaaa
