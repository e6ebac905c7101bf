/- What is drawn for the laws on visits and wind. -/
import Derived.Test.YtadkplonknlfbaaDrawEv
import Derived.Test.YtadkplonknlfbaaOwnSrc
namespace Go.Proofs.Ytadkplonknlfbaa
open Go.ChangeShapes Go.WideShapes Go.ChangeAt Go.RowKit

/-- a state and numbers of the call's own; old memory as it was -/
def DrawnTwo (w : World) : Ending → World → Prop :=
  RTwo fun u v w' => (∃ s, u = .int .i64 s ∧ -10 ≤ s ∧ s ≤ 100) ∧ (∃ zs, w'.ownsRow w.heap.size 3 1 v zs.length (ints zs) ∧ zs.length ≤ 70) ∧ Below w.heap.size w w'

theorem drawVisitPath_any (A : Option Addr) (n c : Nat) (bs : List Int) (w : World) (h : Code w A n c bs) :
    Calls Try.prog 10 #[.slice A n c] w (RTwo fun u v w' => (∃ s, u = .int .i64 s ∧ -1 ≤ s ∧ s ≤ 5) ∧ (∃ s, v = .int .i64 s ∧ -1 ≤ s ∧ s ≤ 5) ∧ Below w.heap.size w w') := by
  go_enter Try.func10, Try.ntmps10
  go_wp2_with fail
  refine (open_any A n c bs w h).mono ?_
  rintro e w1 ⟨v, rfl, g, rfl, hg, hr, hb⟩
  go_wp2_with fail
  refine (l20Visit_any g 0 12 w1 hr (by omega) (by omega)).mono ?_
  rintro e w2 ⟨s, rfl, hs0, hs1, q1, hq1, hr1, hg1⟩
  go_wp2_with fail
  refine (l20Visit_any g q1 12 _ hr1 (by omega) (by omega)).mono ?_
  rintro e w3 ⟨y, rfl, hy0, hy1, q2, hq2, hr2, hg2⟩
  go_wp2_with fail
  go_ret2
  exact RTwo.mk ⟨⟨s, rfl, hs0, hs1⟩, ⟨y, rfl, hy0, hy1⟩, below_only hb (only_trans hg1 hg2) hg⟩

theorem drawVisitRun_any (A : Option Addr) (n c : Nat) (bs : List Int) (w : World) (h : Code w A n c bs) :
    Calls Try.prog 12 #[.slice A n c] w (DrawnTwo w) := by
  go_enter Try.func12, Try.ntmps12
  go_wp2_with fail
  refine (open_any A n c bs w h).mono ?_
  rintro e w1 ⟨v, rfl, g, rfl, hg, hr, hb⟩
  go_wp2_with fail
  refine (pick_any g 0 2 w1 hr (by omega) (by omega)).mono ?_
  rintro e w2 ⟨x, rfl, ⟨hx0, hx1, _⟩, hr1, hg1⟩
  have hb2 := below_only hb hg1 hg
  by_cases hx : x = 0
  · have hxb : (x == 0) = true := by simp [hx]
    clear hx
    go_wp2_with fail
    have hal : Below w2.heap.size w2 (w2.alloc (.cells (ints [0]).toArray 3)) := (Below.refl _ _).alloc (Nat.le_refl _) _
    refine (l20Events_any g _ _ (hr1.kept hal) (by omega)).mono ?_
    rintro e w3 ⟨v, rfl, zs, q', hown, hzs, hq', hr3, hg3⟩
    have hlit := own_of_blk (base := w.heap.size) (size := 1) (n := 1) ((Blk.new w2 3 (ints [0])).only hg3 (by have := hr1.lt; omega)) hb2.size rfl (by decide)
    obtain ⟨A1, c1, rfl, _, _⟩ := own_slice hown
    have hrd := own_rd hown
    have hb3 := below_only hb (only_trans hg1 (only_trans (only_below hal g) hg3)) hg
    have HB := Lib.hid hb3
    have hbs := hb3.size
    clear hal hb2 hb3 hg3 hg1 hb
    go_wp2_with (at_builtin; refine append_src rfl (.tmp 10) (.tmp 12) 22 rfl 3 _ _ _ Try.underlying22 int_infoD w.heap.size w3 (.slice (some ⟨w2.heap.size, 0, none⟩) 1 1) 1 _ rfl hlit A1 _ c1 (ints zs) rfl (by rw [ints_len, Nat.mul_one]) hrd (ints_one zs) (by omega) hbs ?_; intro v' w4 hown4 hg4 hblk4)
    go_ret2
    refine RTwo.mk ⟨⟨0, rfl, by omega, by omega⟩, ⟨0 :: zs, ?_, by simp; omega⟩, below_append HB.out hg4 hlit rfl⟩
    simpa [ints, Nat.add_comm] using hown4
  · have hxb : (x == 0) = false := by simp [hx]
    clear hx
    go_wp2_with fail
    refine (l20Visit_any g _ 9 _ hr1 (by omega) (by omega)).mono ?_
    rintro e w3 ⟨s, rfl, hs0, hs1, q1, hq1, hr2, hg2⟩
    go_wp2_with fail
    refine (l20Events_any g _ _ hr2 (by omega)).mono ?_
    rintro e w4 ⟨v, rfl, zs, q', hown, hzs, hq', hr3, hg3⟩
    go_wp2_with fail
    go_ret2
    exact RTwo.mk ⟨⟨s, rfl, by omega, by omega⟩, ⟨zs, own_base hown (below_only hb (only_trans hg1 hg2) hg).size, by omega⟩, below_only hb (only_trans (only_trans hg1 hg2) hg3) hg⟩

end Go.Proofs.Ytadkplonknlfbaa
