/- What is drawn for the laws on visits and wind: numbers in their ranges, lists of numbers. -/
import Derived.Test.YtadkplonknlfbaaRdr
import Derived.Deep.RegionWith
namespace Go.Proofs.Ytadkplonknlfbaa
open Go.ChangeShapes Go.WideShapes Go.ChangeAt Go.RowKit

theorem l20Visit_any (g q : Nat) (m : Int) (w : World) (hr : Rdr w g q) (hq : q ≤ 100000000) (hm : m ≤ 1000000000) :
    Calls Try.prog 21 #[.pointer (some ⟨g, 0, none⟩), .int .i64 m] w (RInt fun v w' => -1 ≤ v ∧ v ≤ 5 ∧ ∃ q', q' ≤ q + 2 ∧ Rdr w' g q' ∧ w.grownBy w' (some g)) := by
  go_enter Try.func21, Try.ntmps21
  go_wp2_with fail
  refine (odd_any g q m w hr (by omega) hm).mono ?_
  rintro e w1 ⟨b, rfl, q1, hq1, hq2, hr1, hg1⟩
  cases b
  · go_wp2_with fail
    refine (pick_any g q1 5 _ hr1 (by omega) (by omega)).mono ?_
    rintro e w2 ⟨v, rfl, ⟨hv0, hv1, _⟩, hr2, hg2⟩
    go_wp2_with fail
    go_ret
    exact RInt.mk ⟨by omega, by omega, q1 + 1, by omega, hr2, only_trans hg1 hg2⟩
  · go_wp2_with fail
    have hal : Below w1.heap.size w1 (w1.alloc (.cells [Value.int .i64 (-1), .int .i64 5].toArray 3)) := (Below.refl _ _).alloc (Nat.le_refl _) _
    refine (pick_any g q1 2 _ (hr1.kept hal) (by omega) (by omega)).mono ?_
    rintro e w2 ⟨v, rfl, ⟨hv0, hv1, _⟩, hr2, hg2⟩
    have hb := (Blk.new w1 3 [Value.int .i64 (-1), .int .i64 5]).only hg2 (by have := hr1.lt; omega)
    have fr := only_trans (only_trans hg1 (only_below hal g)) hg2
    have HF := Lib.hid fr
    clear fr hg2 hal
    obtain rfl | rfl : v = 0 ∨ v = 1 := by omega
    · have hx := hb.cell 0
      simp only [List.getElem?_cons_zero] at hx
      go_wp2_with fail
      go_ret
      exact RInt.mk ⟨by omega, by omega, q1 + 1, by omega, hr2, HF.out⟩
    · have hx := hb.cell 1
      simp only [List.getElem?_cons_zero, List.getElem?_cons_succ] at hx
      go_wp2_with fail
      go_ret
      exact RInt.mk ⟨by omega, by omega, q1 + 1, by omega, hr2, HF.out⟩

theorem only_of_drew {w w' : World} {row : Option Nat} (h : w.drew.grownBy w' row) : w.grownBy w' row := ⟨h.os, h.tape, h.output, h.size, h.block⟩
theorem tdiv_bd (x m : Int) (h0 : 0 ≤ x) (_hm : 0 < m) : x.tdiv m = x / m := Int.tdiv_eq_ediv_of_nonneg h0
theorem Rdr.drew {w : World} {g q : Nat} (h : Rdr w g q) : Rdr w.drew g q := h
theorem Rdr.alloc {w : World} {g q : Nat} (h : Rdr w g q) (o : Obj) : Rdr (w.alloc o) g q := h.kept ((Below.refl _ _).alloc (Nat.le_refl _) _)

/-- the element that is picked out of five -/
def five (x v : Int) : Int := if v = 0 then 14 else if v = 1 then 15 else if v = 2 then 20 else if v = 3 then 21 else x
theorem five_at (x v : Int) (h0 : 0 ≤ v) (h5 : v < 5) : [Value.int .i64 14, .int .i64 15, .int .i64 20, .int .i64 21, .int .i64 x][v.toNat]? = some (.int .i64 (five x v)) := by
  obtain rfl | rfl | rfl | rfl | rfl : v = 0 ∨ v = 1 ∨ v = 2 ∨ v = 3 ∨ v = 4 := by omega
  all_goals rfl
theorem five_bd (x v : Int) (h0 : -1 ≤ x) (h1 : x ≤ 70) : -1 ≤ five x v ∧ five x v ≤ 70 := by
  unfold five
  repeat' split
  all_goals omega

end Go.Proofs.Ytadkplonknlfbaa
