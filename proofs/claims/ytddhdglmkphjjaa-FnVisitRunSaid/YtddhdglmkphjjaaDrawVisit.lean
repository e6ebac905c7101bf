/- What is drawn for the laws on visits and wind: numbers in their ranges, lists of numbers. -/
import Derived.Test.YtddhdglmkphjjaaRdr
import Derived.Deep.RegionWith
namespace Go.Proofs.Ytddhdglmkphjjaa
open Go.ChangeShapes Go.WideShapes Go.ChangeAt Go.RowKit

theorem l20Visit_any (g q : Nat) (m : Int) (w : World) (hr : Rdr w g q) (hq : q ≤ 100000000) (hm : m ≤ 1000000000) :
    Calls Try.prog 53 #[.pointer (some ⟨g, 0, none⟩), .int .i64 m] w (RInt fun v w' => -1 ≤ v ∧ v ≤ 5 ∧ ∃ q', q' ≤ q + 2 ∧ Rdr w' g q' ∧ w.grownBy w' (some g)) := by
  go_enter Try.func53, Try.ntmps53
  go_wp2_with fail
  refine (odd_any g q m w hr (by omega) hm).mono ?_
  rintro e w1 ⟨b, rfl, q1, hq1, hq2, hr1, hg1⟩
  cases b
  · go_wp2_with fail
    refine (pick_any g q1 5 _ hr1 (by omega) (by omega)).mono ?_
    rintro e w2 ⟨v, rfl, ⟨hv0, hv1, _⟩, hr2, hg2⟩
    go_wp2_with fail
    go_ret
    exact RInt.mk ⟨by omega, by omega, q1 + 1, by omega, hr2, only_trans hg1 hg2⟩
  · go_wp2_with fail
    have hal : Below w1.heap.size w1 (w1.alloc (.cells [Value.int .i64 (-1), .int .i64 5].toArray 3)) := (Below.refl _ _).alloc (Nat.le_refl _) _
    refine (pick_any g q1 2 _ (hr1.kept hal) (by omega) (by omega)).mono ?_
    rintro e w2 ⟨v, rfl, ⟨hv0, hv1, _⟩, hr2, hg2⟩
    have hb := (Blk.new w1 3 [Value.int .i64 (-1), .int .i64 5]).only hg2 (by have := hr1.lt; omega)
    have fr := only_trans (only_trans hg1 (only_below hal g)) hg2
    have HF := Lib.hid fr
    clear fr hg2 hal
    obtain rfl | rfl : v = 0 ∨ v = 1 := by omega
    · have hx := hb.cell 0
      simp only [List.getElem?_cons_zero] at hx
      go_wp2_with fail
      go_ret
      exact RInt.mk ⟨by omega, by omega, q1 + 1, by omega, hr2, HF.out⟩
    · have hx := hb.cell 1
      simp only [List.getElem?_cons_zero, List.getElem?_cons_succ] at hx
      go_wp2_with fail
      go_ret
      exact RInt.mk ⟨by omega, by omega, q1 + 1, by omega, hr2, HF.out⟩

theorem drawVisitStep_any (A : Option Addr) (n c : Nat) (bs : List Int) (w : World) (h : Code w A n c bs) :
    Calls Try.prog 27 #[.slice A n c] w (RTwo fun u v w' => (∃ s, u = .int .i64 s ∧ -1 ≤ s ∧ s ≤ 5) ∧ (∃ s, v = .int .i64 s ∧ -2 ≤ s ∧ s ≤ 5) ∧ Below w.heap.size w w') := by
  go_enter Try.func27, Try.ntmps27
  go_wp2_with fail
  refine (open_any A n c bs w h).mono ?_
  rintro e w1 ⟨v, rfl, g, rfl, hg, hr, hb⟩
  go_wp2_with fail
  refine (l20Visit_any g 0 12 w1 hr (by omega) (by omega)).mono ?_
  rintro e w2 ⟨s, rfl, hs0, hs1, q1, hq1, hr1, hg1⟩
  go_wp2_with fail
  refine (pick_any g q1 6 _ hr1 (by omega) (by omega)).mono ?_
  rintro e w3 ⟨x, rfl, ⟨hx0, hx1, _⟩, hr2, hg2⟩
  go_wp2_with fail
  refine (pick_any g (q1 + 1) 20 _ hr2 (by omega) (by omega)).mono ?_
  rintro e w4 ⟨y, rfl, ⟨hy0, hy1, _⟩, hr3, hg3⟩
  go_wp2_with fail
  go_ret2
  exact RTwo.mk ⟨⟨s, rfl, hs0, hs1⟩, ⟨_, rfl, by omega, by omega⟩, below_only hb (only_trans (only_trans hg1 hg2) hg3) hg⟩

theorem only_of_drew {w w' : World} {row : Option Nat} (h : w.drew.grownBy w' row) : w.grownBy w' row := ⟨h.os, h.tape, h.output, h.size, h.block⟩
theorem tdiv_bd (x m : Int) (h0 : 0 ≤ x) (_hm : 0 < m) : x.tdiv m = x / m := Int.tdiv_eq_ediv_of_nonneg h0
theorem Rdr.drew {w : World} {g q : Nat} (h : Rdr w g q) : Rdr w.drew g q := h
theorem Rdr.alloc {w : World} {g q : Nat} (h : Rdr w g q) (o : Obj) : Rdr (w.alloc o) g q := h.kept ((Below.refl _ _).alloc (Nat.le_refl _) _)

/-- the element that is picked out of five -/
def five (x v : Int) : Int := if v = 0 then 14 else if v = 1 then 15 else if v = 2 then 20 else if v = 3 then 21 else x
theorem five_at (x v : Int) (h0 : 0 ≤ v) (h5 : v < 5) : [Value.int .i64 14, .int .i64 15, .int .i64 20, .int .i64 21, .int .i64 x][v.toNat]? = some (.int .i64 (five x v)) := by
  obtain rfl | rfl | rfl | rfl | rfl : v = 0 ∨ v = 1 ∨ v = 2 ∨ v = 3 ∨ v = 4 := by omega
  all_goals rfl
theorem five_bd (x v : Int) (h0 : -1 ≤ x) (h1 : x ≤ 70) : -1 ≤ five x v ∧ five x v ≤ 70 := by
  unfold five
  repeat' split
  all_goals omega

set_option maxHeartbeats 2000000 in
theorem drawWindStep_any (A : Option Addr) (n c : Nat) (bs : List Int) (w : World) (h : Code w A n c bs) :
    Calls Try.prog 29 #[.slice A n c] w (RTwo fun u v w' => (∃ s, u = .int .i64 s ∧ -3 ≤ s ∧ s ≤ 5) ∧ (∃ s, v = .int .i64 s ∧ -2 ≤ s ∧ s ≤ 70) ∧ Below w.heap.size w w') := by
  go_enter Try.func29, Try.ntmps29
  go_wp2_with fail
  refine (open_any A n c bs w h).mono ?_
  rintro e w1 ⟨v, rfl, g, rfl, hg, hr, hb⟩
  go_wp2_with fail
  go_region_with (first
    | (go_at_call 54; (with_reducible refine (pick_any g 0 5 _ hr.drew (by omega) (by omega)).mono ?_); rintro e w2 ⟨x1, rfl, ⟨h10, h11, _⟩, hr2, hg2⟩; have e1 : IntKind.i64.wrap (x1 - 1) = x1 - 1 := IntWalk.i64_in _ (by omega))
    | (go_at_call 54; (with_reducible refine (pick_any g _ 12 _ hr2 (by omega) (by omega)).mono ?_); rintro e w3 ⟨x2, rfl, ⟨h20, h21, _⟩, hr3, hg3⟩)
    | (go_at_call 54; (with_reducible refine (pick_any g _ 63 _ hr3 (by omega) (by omega)).mono ?_); rintro e w4 ⟨x3, rfl, ⟨h30, h31, _⟩, hr4, hg4⟩; have e3 : IntKind.i64.wrap (x3 - 1) = x3 - 1 := IntWalk.i64_in _ (by omega))
    | (go_at_call 54; (with_reducible refine (pick_any g _ 5 _ hr4 (by omega) (by omega)).mono ?_); rintro e w5 ⟨v, rfl, ⟨h40, h41, _⟩, hr5, hg5⟩; have hx := five_at (x3 - 1) v h40 (h41 (by omega)))
    | (go_at_call 54; (with_reducible refine (pick_any g _ 5 _ (hr4.alloc _) (by omega) (by omega)).mono ?_); rintro e w5 ⟨v, rfl, ⟨h40, h41, _⟩, hr5, hg5⟩; have hx := ((Blk.new w4 3 [Value.int .i64 14, .int .i64 15, .int .i64 20, .int .i64 21, .int .i64 (x3 - 1)]).only hg5 (by have := hr4.lt; omega)).cell v.toNat; rw [five_at (x3 - 1) v h40 (h41 (by omega))] at hx; have h5 := h41 (by omega)))
  · go_wp2
    go_ret2
    have f5 := five_bd (x3 - 1) v (by omega) (by have := h31 (by omega); omega)
    have hd := tdiv_bd x2 11 h20 (by omega)
    have ew : IntKind.i64.wrap (x2.tdiv 11) = x2 / 11 := by rw [hd]; exact IntWalk.i64_in _ (by have := h21 (by omega); omega)
    refine RTwo.mk ⟨⟨_, rfl, ?_⟩, ⟨_, rfl, by omega, by omega⟩, below_only hb (only_trans (only_trans (only_trans (only_of_drew hg2) hg3) hg4) (only_trans (only_below ((Below.refl _ _).alloc (Nat.le_refl _) _) g) hg5)) hg⟩
    rw [ew, IntWalk.i64_in _ (by have := h21 (by omega); have := h11 (by omega); omega)]
    have := h21 (by omega); have := h11 (by omega); omega
  · go_wp2
    go_ret2
    have hd := tdiv_bd x2 11 h20 (by omega)
    have ew : IntKind.i64.wrap (x2.tdiv 11) = x2 / 11 := by rw [hd]; exact IntWalk.i64_in _ (by have := h21 (by omega); omega)
    refine RTwo.mk ⟨⟨_, rfl, ?_⟩, ?_, below_only hb (only_trans (only_trans (only_trans (only_of_drew hg2) hg3) hg4) (only_trans hg5 (only_below ((Below.refl _ _).alloc (Nat.le_refl _) _) g))) hg⟩
    · rw [ew, IntWalk.i64_in _ (by have := h21 (by omega); have := h11 (by omega); omega)]
      have := h21 (by omega); have := h11 (by omega); omega
    · have h43 := h31 (by omega)
      have h42 := h41 (by omega)
      clear hx hg5 hr5
      obtain rfl | rfl | rfl | rfl | rfl : v = 0 ∨ v = 1 ∨ v = 2 ∨ v = 3 ∨ v = 4 := by omega
      all_goals exact ⟨_, rfl, by omega, by omega⟩
end Go.Proofs.Ytddhdglmkphjjaa
