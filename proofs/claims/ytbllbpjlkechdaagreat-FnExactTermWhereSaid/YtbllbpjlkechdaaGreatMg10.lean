/- Several texts of the proof in one; each says at its head what it proves; no condition. -/
import Derived.Test.YtbllbpjlkechdaaGreatMg5
import Derived.Test.YtbllbpjlkechdaaGreatMg1
import Derived.Deep.RegionHeld3
import Derived.Deep.DeepCutAuto
import Derived.Test.YtbllbpjlkechdaaGreatMg8
import Derived.Test.YtbllbpjlkechdaaGreatMg3
section
/- Ships: valid ones, how many slots. -/
namespace Go.Proofs.YtbllbpjlkechdaaGreat
open Go Go.ChangeShapes Go.WideShapes Go.ChangeAt Go.RowKit
set_option linter.unusedVariables false
set_option maxHeartbeats 1000000 in
theorem specHullValid (x : HullV) (w : World) : Calls Tryz.prog 57 #[.agg #[.int .i64 x.f0, .int .i64 x.f1, .int .i64 x.f2]] w fun e w' => e = .returned (.bool (hullOk x)) ∧ Below w.heap.size w w' := by
  obtain ⟨y0, y1, y2⟩ := x
  dsimp only
  have h1 := fun W => l1In_inI y0 1 4 W
  have h2 := fun W => l1In_inI y1 1 3 W
  have h3 := fun W => l1In_inI y2 1 3 W
  cases q1 : inI y0 1 4 with
  | false =>
    have HB : Hid (hullOk ⟨y0, y1, y2⟩ = false) := Lib.hid (by simp [hullOk, q1])
    rw [q1] at h1
    clear q1
    go_enter Tryz.func57, Tryz.ntmps57
    go_wp2_with (go_at_call 56; (first | (with_reducible refine (h1 _).mono ?_) | (with_reducible refine (h2 _).mono ?_) | (with_reducible refine (h3 _).mono ?_)); rintro e w' ⟨rfl, rfl⟩)
    go_ret
    exact ⟨by rw [HB.out]; rfl, (Below.refl _ _).alloc (Nat.le_refl _) _⟩
  | true =>
    rw [q1] at h1
    cases q2 : inI y1 1 3 with
    | false =>
      have HB : Hid (hullOk ⟨y0, y1, y2⟩ = false) := Lib.hid (by simp [hullOk, q2])
      rw [q2] at h2
      clear q1 q2
      go_enter Tryz.func57, Tryz.ntmps57
      go_wp2_with (go_at_call 56; (first | (with_reducible refine (h1 _).mono ?_) | (with_reducible refine (h2 _).mono ?_) | (with_reducible refine (h3 _).mono ?_)); rintro e w' ⟨rfl, rfl⟩)
      go_ret
      exact ⟨by rw [HB.out]; rfl, (Below.refl _ _).alloc (Nat.le_refl _) _⟩
    | true =>
      rw [q2] at h2
      cases q3 : inI y2 1 3 with
      | false =>
        have HB : Hid (hullOk ⟨y0, y1, y2⟩ = false) := Lib.hid (by simp [hullOk, q3])
        rw [q3] at h3
        clear q1 q2 q3
        go_enter Tryz.func57, Tryz.ntmps57
        go_wp2_with (go_at_call 56; (first | (with_reducible refine (h1 _).mono ?_) | (with_reducible refine (h2 _).mono ?_) | (with_reducible refine (h3 _).mono ?_)); rintro e w' ⟨rfl, rfl⟩)
        go_ret
        exact ⟨by rw [HB.out]; rfl, (Below.refl _ _).alloc (Nat.le_refl _) _⟩
      | true =>
        have HB : Hid (hullOk ⟨y0, y1, y2⟩ = true) := Lib.hid (by simp [hullOk, q1, q2, q3])
        rw [q3] at h3
        clear q1 q2 q3
        go_enter Tryz.func57, Tryz.ntmps57
        go_wp2_with (go_at_call 56; (first | (with_reducible refine (h1 _).mono ?_) | (with_reducible refine (h2 _).mono ?_) | (with_reducible refine (h3 _).mono ?_)); rintro e w' ⟨rfl, rfl⟩)
        go_ret
        exact ⟨by rw [HB.out]; rfl, (Below.refl _ _).alloc (Nat.le_refl _) _⟩
set_option maxHeartbeats 1000000 in
theorem implHullValid (x : HullV) (w : World) : Calls Tryz.prog 67 #[.agg #[.int .i64 x.f0, .int .i64 x.f1, .int .i64 x.f2]] w fun e w' => e = .returned (.bool (hullOk x)) ∧ Below w.heap.size w w' := by
  obtain ⟨y0, y1, y2⟩ := x
  dsimp only
  have h1 := fun W => within_inI y0 1 4 W
  have h2 := fun W => within_inI y1 1 3 W
  have h3 := fun W => within_inI y2 1 3 W
  cases q1 : inI y0 1 4 with
  | false =>
    have HB : Hid (hullOk ⟨y0, y1, y2⟩ = false) := Lib.hid (by simp [hullOk, q1])
    rw [q1] at h1
    clear q1
    go_enter Tryz.func67, Tryz.ntmps67
    go_wp2_with (go_at_call 65; (first | (with_reducible refine (h1 _).mono ?_) | (with_reducible refine (h2 _).mono ?_) | (with_reducible refine (h3 _).mono ?_)); rintro e w' ⟨rfl, rfl⟩)
    go_ret
    exact ⟨by rw [HB.out]; rfl, (Below.refl _ _).alloc (Nat.le_refl _) _⟩
  | true =>
    rw [q1] at h1
    cases q2 : inI y1 1 3 with
    | false =>
      have HB : Hid (hullOk ⟨y0, y1, y2⟩ = false) := Lib.hid (by simp [hullOk, q2])
      rw [q2] at h2
      clear q1 q2
      go_enter Tryz.func67, Tryz.ntmps67
      go_wp2_with (go_at_call 65; (first | (with_reducible refine (h1 _).mono ?_) | (with_reducible refine (h2 _).mono ?_) | (with_reducible refine (h3 _).mono ?_)); rintro e w' ⟨rfl, rfl⟩)
      go_ret
      exact ⟨by rw [HB.out]; rfl, (Below.refl _ _).alloc (Nat.le_refl _) _⟩
    | true =>
      rw [q2] at h2
      cases q3 : inI y2 1 3 with
      | false =>
        have HB : Hid (hullOk ⟨y0, y1, y2⟩ = false) := Lib.hid (by simp [hullOk, q3])
        rw [q3] at h3
        clear q1 q2 q3
        go_enter Tryz.func67, Tryz.ntmps67
        go_wp2_with (go_at_call 65; (first | (with_reducible refine (h1 _).mono ?_) | (with_reducible refine (h2 _).mono ?_) | (with_reducible refine (h3 _).mono ?_)); rintro e w' ⟨rfl, rfl⟩)
        go_ret
        exact ⟨by rw [HB.out]; rfl, (Below.refl _ _).alloc (Nat.le_refl _) _⟩
      | true =>
        have HB : Hid (hullOk ⟨y0, y1, y2⟩ = true) := Lib.hid (by simp [hullOk, q1, q2, q3])
        rw [q3] at h3
        clear q1 q2 q3
        go_enter Tryz.func67, Tryz.ntmps67
        go_wp2_with (go_at_call 65; (first | (with_reducible refine (h1 _).mono ?_) | (with_reducible refine (h2 _).mono ?_) | (with_reducible refine (h3 _).mono ?_)); rintro e w' ⟨rfl, rfl⟩)
        go_ret
        exact ⟨by rw [HB.out]; rfl, (Below.refl _ _).alloc (Nat.le_refl _) _⟩
end Go.Proofs.YtbllbpjlkechdaaGreat
end
section
/- Ships, the reference: slots and places of a valid ship. -/
namespace Go.Proofs.YtbllbpjlkechdaaGreat
open Go Go.ChangeShapes Go.WideShapes Go.ChangeAt Go.RowKit
set_option linter.unusedVariables false
set_option maxHeartbeats 1000000 in
theorem specSlotMany (x : HullV) (w : World) (hh : hullOk x = true) : Calls Tryz.prog 59 #[.agg #[.int .i64 x.f0, .int .i64 x.f1, .int .i64 x.f2]] w fun e w' => e = .returned (.int .i64 (slotsH x)) ∧ Below w.heap.size w w' := by
  obtain ⟨y0, y1, y2⟩ := x
  obtain ⟨e1, e2, e3, e4⟩ := slots_le hh
  obtain ⟨⟨a1, a2⟩, ⟨b1, b2⟩, c1, c2⟩ := hullOk_iff.1 hh
  dsimp only [slotsH] at *
  go_enter Tryz.func59, Tryz.ntmps59
  go_wp2_with fail
  refine (specHullValid ⟨y0, y1, y2⟩ _).mono ?_
  rintro e w3 ⟨rfl, hb⟩
  rw [hh]
  have b3 := below_trans ((Below.refl w.heap.size w).alloc (Nat.le_refl _) _) hb
  have l0 : w.heap.size < w3.heap.size := Nat.lt_of_lt_of_le (by simp) hb.size
  have x0 := (hb.cell (p := ⟨w.heap.size, 0, none⟩) (by simp)).trans (by simp : (w.alloc (.cells #[.int .i64 y0, .int .i64 y1, .int .i64 y2] 37)).cell? ⟨w.heap.size, 0, none⟩ = some (.int .i64 y0))
  have x1 := (hb.cell (p := ⟨w.heap.size, 1, none⟩) (by simp)).trans (by simp : (w.alloc (.cells #[.int .i64 y0, .int .i64 y1, .int .i64 y2] 37)).cell? ⟨w.heap.size, 1, none⟩ = some (.int .i64 y1))
  have x2 := (hb.cell (p := ⟨w.heap.size, 2, none⟩) (by simp)).trans (by simp : (w.alloc (.cells #[.int .i64 y0, .int .i64 y1, .int .i64 y2] 37)).cell? ⟨w.heap.size, 2, none⟩ = some (.int .i64 y2))
  have B3 := Lib.hid b3
  clear hb b3
  go_wp2_with fail
  go_ret
  exact ⟨rfl, B3.out⟩
set_option maxHeartbeats 1000000 in
theorem specPlaceOf (x : HullV) (k : Int) (w : World) (hh : hullOk x = true) (h0 : 0 ≤ k) (hk : k < slotsH x) : Calls Tryz.prog 86 #[.agg #[.int .i64 x.f0, .int .i64 x.f1, .int .i64 x.f2], .int .i64 k] w fun e w' => e = .returned (.tuple #[.int .i64 (k / x.f2 / x.f1), .int .i64 (k / x.f2 % x.f1), .int .i64 (k % x.f2)]) ∧ Below w.heap.size w w' := by
  obtain ⟨y0, y1, y2⟩ := x
  obtain ⟨e1, e2, e3, e4⟩ := slots_le hh
  obtain ⟨⟨a1, a2⟩, ⟨b1, b2⟩, c1, c2⟩ := hullOk_iff.1 hh
  dsimp only [slotsH] at *
  go_enter Tryz.func86, Tryz.ntmps86
  go_wp2_with fail
  refine (specHullValid ⟨y0, y1, y2⟩ _).mono ?_
  rintro e w3 ⟨rfl, hb⟩
  rw [hh]
  have b3 := below_trans ((Below.refl w.heap.size w).alloc (Nat.le_refl _) _) hb
  have l0 : w.heap.size < w3.heap.size := Nat.lt_of_lt_of_le (by simp) (hb).size
  have x0 := ((hb).cell (p := ⟨w.heap.size, 0, none⟩) (by simp)).trans (by simp : (w.alloc (.cells #[.int .i64 y0, .int .i64 y1, .int .i64 y2] 37)).cell? ⟨w.heap.size, 0, none⟩ = some (.int .i64 y0))
  have x1 := ((hb).cell (p := ⟨w.heap.size, 1, none⟩) (by simp)).trans (by simp : (w.alloc (.cells #[.int .i64 y0, .int .i64 y1, .int .i64 y2] 37)).cell? ⟨w.heap.size, 1, none⟩ = some (.int .i64 y1))
  have x2 := ((hb).cell (p := ⟨w.heap.size, 2, none⟩) (by simp)).trans (by simp : (w.alloc (.cells #[.int .i64 y0, .int .i64 y1, .int .i64 y2] 37)).cell? ⟨w.heap.size, 2, none⟩ = some (.int .i64 y2))
  have B3 := Lib.hid b3
  clear hb b3
  go_wp2_with fail
  refine (specSlotMany ⟨y0, y1, y2⟩ _ hh).mono ?_
  rintro e w4 ⟨rfl, hb⟩
  dsimp only [slotsH]
  have B4 := Lib.hid (below_trans B3.out hb)
  have z0 := (hb.cell (p := ⟨w.heap.size, 0, none⟩) l0).trans x0
  have z1 := (hb.cell (p := ⟨w.heap.size, 1, none⟩) l0).trans x1
  have z2 := (hb.cell (p := ⟨w.heap.size, 2, none⟩) l0).trans x2
  clear hb x0 x1 x2
  go_wp2_with fail
  refine (l1In_true k 0 (y0 * y1 * y2 - 1) _ h0 (by omega)).mono ?_
  rintro e w' ⟨rfl, rfl⟩
  have n1 : ¬ y1 = 0 := by omega
  have n2 : ¬ y2 = 0 := by omega
  have hbay := bay_lt (k := k) (B := y0) (R := y1) (T := y2) (by omega) (by omega) h0 hk
  have r1 := Int.emod_nonneg k n2
  have r2 := Int.emod_lt_of_pos k (show 0 < y2 by omega)
  have r3 := Int.emod_nonneg (k / y2) n1
  have r4 := Int.emod_lt_of_pos (k / y2) (show 0 < y1 by omega)
  obtain ⟨v1, v2, v3⟩ := hbay
  have t1 : Int.tdiv k y2 = k / y2 := Int.tdiv_eq_ediv_of_nonneg h0
  have t2 : Int.tmod k y2 = k % y2 := Int.tmod_eq_emod_of_nonneg h0
  have t3 : Int.tdiv (k / y2) y1 = k / y2 / y1 := Int.tdiv_eq_ediv_of_nonneg v3
  have t4 : Int.tmod (k / y2) y1 = k / y2 % y1 := Int.tmod_eq_emod_of_nonneg v3
  have u1 : k / y2 ≤ k := Int.ediv_le_self _ h0
  have t5 : wrap64 (k / y2) = k / y2 := by unfold wrap64; omega
  have t6 : wrap64 (k / y2 / y1) = k / y2 / y1 := by unfold wrap64; omega
  go_wp2_with fail
  go_quiet (fail)
  go_wp2_with fail
  refine bodyPost_ret (v := .tuple #[.int .i64 (k / y2 / y1), .int .i64 (k / y2 % y1), .int .i64 (k % y2)]) (by simp [results, Tryz.results86, go_sem]) rfl ?_
  exact ⟨rfl, below_drewN B4.out _⟩
set_option maxHeartbeats 1000000 in
theorem specSlotOf (x : HullV) (a b c : Int) (w : World) (hh : hullOk x = true) (ha : 0 ≤ a ∧ a < x.f0) (hb0 : 0 ≤ b ∧ b < x.f1) (hc : 0 ≤ c ∧ c < x.f2) (hs : 0 ≤ a * x.f1 ∧ a * x.f1 + b ≤ 100) (ht : 0 ≤ (a * x.f1 + b) * x.f2 ∧ (a * x.f1 + b) * x.f2 ≤ 100) :
    Calls Tryz.prog 87 #[.agg #[.int .i64 x.f0, .int .i64 x.f1, .int .i64 x.f2], .int .i64 a, .int .i64 b, .int .i64 c] w fun e w' => e = .returned (.int .i64 ((a * x.f1 + b) * x.f2 + c)) ∧ Below w.heap.size w w' := by
  obtain ⟨y0, y1, y2⟩ := x
  obtain ⟨⟨a1, a2⟩, ⟨b1, b2⟩, c1, c2⟩ := hullOk_iff.1 hh
  dsimp only at *
  obtain ⟨s1, s2⟩ := hs
  obtain ⟨t1, t2⟩ := ht
  go_enter Tryz.func87, Tryz.ntmps87
  go_wp2_with fail
  refine (specHullValid ⟨y0, y1, y2⟩ _).mono ?_
  rintro e w3 ⟨rfl, hb⟩
  rw [hh]
  have b3 := below_trans ((Below.refl w.heap.size w).alloc (Nat.le_refl _) _) hb
  have l0 : w.heap.size < w3.heap.size := Nat.lt_of_lt_of_le (by simp) (hb).size
  have x0 := ((hb).cell (p := ⟨w.heap.size, 0, none⟩) (by simp)).trans (by simp : (w.alloc (.cells #[.int .i64 y0, .int .i64 y1, .int .i64 y2] 37)).cell? ⟨w.heap.size, 0, none⟩ = some (.int .i64 y0))
  have x1 := ((hb).cell (p := ⟨w.heap.size, 1, none⟩) (by simp)).trans (by simp : (w.alloc (.cells #[.int .i64 y0, .int .i64 y1, .int .i64 y2] 37)).cell? ⟨w.heap.size, 1, none⟩ = some (.int .i64 y1))
  have x2 := ((hb).cell (p := ⟨w.heap.size, 2, none⟩) (by simp)).trans (by simp : (w.alloc (.cells #[.int .i64 y0, .int .i64 y1, .int .i64 y2] 37)).cell? ⟨w.heap.size, 2, none⟩ = some (.int .i64 y2))
  have B3 := Lib.hid b3
  clear hb b3
  go_wp2_with fail
  refine (l1In_true a 0 (y0 - 1) _ ha.1 (by omega)).mono ?_
  rintro e w' ⟨rfl, rfl⟩
  go_wp2_with fail
  refine (l1In_true b 0 (y1 - 1) _ hb0.1 (by omega)).mono ?_
  rintro e w' ⟨rfl, rfl⟩
  go_wp2_with fail
  refine (l1In_true c 0 (y2 - 1) _ hc.1 (by omega)).mono ?_
  rintro e w' ⟨rfl, rfl⟩
  go_wp2_with fail
  go_ret
  exact ⟨rfl, B3.out⟩
set_option maxHeartbeats 1000000 in
theorem specSlotOfN (x : HullV) (a b c : Int) (w : World) (hh : hullOk x = true) (ha : 0 ≤ a ∧ a < x.f0) (hb0 : 0 ≤ b ∧ b < x.f1) (hc : c = -1) (hs : 0 ≤ a * x.f1 ∧ a * x.f1 + b ≤ 100) (ht : 0 ≤ (a * x.f1 + b) * x.f2 ∧ (a * x.f1 + b) * x.f2 ≤ 100) :
    Calls Tryz.prog 87 #[.agg #[.int .i64 x.f0, .int .i64 x.f1, .int .i64 x.f2], .int .i64 a, .int .i64 b, .int .i64 c] w fun e w' => e = .returned (.int .i64 (-1)) ∧ Below w.heap.size w w' := by
  obtain ⟨y0, y1, y2⟩ := x
  obtain ⟨⟨a1, a2⟩, ⟨b1, b2⟩, c1, c2⟩ := hullOk_iff.1 hh
  dsimp only at *
  subst hc
  obtain ⟨s1, s2⟩ := hs
  obtain ⟨t1, t2⟩ := ht
  go_enter Tryz.func87, Tryz.ntmps87
  go_wp2_with fail
  refine (specHullValid ⟨y0, y1, y2⟩ _).mono ?_
  rintro e w3 ⟨rfl, hb⟩
  rw [hh]
  have b3 := below_trans ((Below.refl w.heap.size w).alloc (Nat.le_refl _) _) hb
  have l0 : w.heap.size < w3.heap.size := Nat.lt_of_lt_of_le (by simp) (hb).size
  have x0 := ((hb).cell (p := ⟨w.heap.size, 0, none⟩) (by simp)).trans (by simp : (w.alloc (.cells #[.int .i64 y0, .int .i64 y1, .int .i64 y2] 37)).cell? ⟨w.heap.size, 0, none⟩ = some (.int .i64 y0))
  have x1 := ((hb).cell (p := ⟨w.heap.size, 1, none⟩) (by simp)).trans (by simp : (w.alloc (.cells #[.int .i64 y0, .int .i64 y1, .int .i64 y2] 37)).cell? ⟨w.heap.size, 1, none⟩ = some (.int .i64 y1))
  have x2 := ((hb).cell (p := ⟨w.heap.size, 2, none⟩) (by simp)).trans (by simp : (w.alloc (.cells #[.int .i64 y0, .int .i64 y1, .int .i64 y2] 37)).cell? ⟨w.heap.size, 2, none⟩ = some (.int .i64 y2))
  have B3 := Lib.hid b3
  clear hb b3
  go_wp2_with fail
  refine (l1In_true a 0 (y0 - 1) _ ha.1 (by omega)).mono ?_
  rintro e w' ⟨rfl, rfl⟩
  go_wp2_with fail
  refine (l1In_true b 0 (y1 - 1) _ hb0.1 (by omega)).mono ?_
  rintro e w' ⟨rfl, rfl⟩
  go_wp2_with fail
  refine (l1In_false (-1) 0 (y2 - 1) _ (by omega)).mono ?_
  rintro e w' ⟨rfl, rfl⟩
  go_wp2_with fail
  go_ret
  exact ⟨rfl, B3.out⟩
set_option maxHeartbeats 1000000 in
theorem specSlotBelow (x : HullV) (k : Int) (w : World) (hh : hullOk x = true) (h0 : 0 ≤ k) (hk : k < slotsH x) :
    Calls Tryz.prog 60 #[.agg #[.int .i64 x.f0, .int .i64 x.f1, .int .i64 x.f2], .int .i64 k] w fun e w' => e = .returned (.int .i64 (if k % x.f2 = 0 then -1 else k - 1)) ∧ Below w.heap.size w w' := by
  obtain ⟨y0, y1, y2⟩ := x
  have hle := slots_le hh
  obtain ⟨⟨a1, a2⟩, ⟨b1, b2⟩, c1, c2⟩ := hullOk_iff.1 hh
  dsimp only at a1 a2 b1 b2 c1 c2
  have hP := fun W => specPlaceOf ⟨y0, y1, y2⟩ k W hh h0 hk
  have hbay := bay_lt (k := k) (B := y0) (R := y1) (T := y2) (by omega) (by omega) h0 (by simpa [slotsH] using hk)
  have r1 := Int.emod_nonneg k (show y2 ≠ 0 by dsimp only at *; omega)
  have r2 := Int.emod_lt_of_pos k (show 0 < y2 by dsimp only at *; omega)
  have r3 := Int.emod_nonneg (k / y2) (show y1 ≠ 0 by dsimp only at *; omega)
  have r4 := Int.emod_lt_of_pos (k / y2) (show 0 < y1 by dsimp only at *; omega)
  have q1 : k / y2 / y1 * y1 + k / y2 % y1 = k / y2 := by rw [Int.mul_comm]; exact Int.mul_ediv_add_emod (k / y2) y1
  have q2 : k / y2 * y2 + k % y2 = k := by rw [Int.mul_comm]; exact Int.mul_ediv_add_emod k y2
  have u1 : k / y2 ≤ k := Int.ediv_le_self _ h0
  have u2 : 0 ≤ k / y2 / y1 * y1 := Int.mul_nonneg hbay.1 (by dsimp only at *; omega)
  have u3 : 0 ≤ k / y2 * y2 := Int.mul_nonneg hbay.2.2 (by dsimp only at *; omega)
  have hk36 : k ≤ 36 := by omega
  dsimp only [slotsH] at *
  have hq : (k / y2 / y1 * y1 + k / y2 % y1) * y2 + (k % y2 - 1) = k - 1 := below_eq (by omega) (by omega)
  generalize hA : k / y2 / y1 = a at *
  generalize hB : k / y2 % y1 = b at *
  generalize hC : k % y2 = c at *
  have HS : 0 ≤ a * y1 ∧ a * y1 + b ≤ 100 := ⟨u2, by omega⟩
  have HT : 0 ≤ (a * y1 + b) * y2 ∧ (a * y1 + b) * y2 ≤ 100 := by rw [q1]; exact ⟨u3, by omega⟩
  have HA := Lib.hid hA
  have HB := Lib.hid hB
  have HC := Lib.hid hC
  have HQ := Lib.hid hq
  clear hA hB hC hq q1 q2 u1 u2 u3
  go_enter Tryz.func60, Tryz.ntmps60
  go_wp2_with fail
  refine (hP _).mono ?_
  rintro e w3 ⟨rfl, hb⟩
  have b3 := below_trans ((Below.refl w.heap.size w).alloc (Nat.le_refl _) _) hb
  have l0 : w.heap.size < w3.heap.size := Nat.lt_of_lt_of_le (by simp) (hb).size
  have x0 := ((hb).cell (p := ⟨w.heap.size, 0, none⟩) (by simp)).trans (by simp : (w.alloc (.cells #[.int .i64 y0, .int .i64 y1, .int .i64 y2] 37)).cell? ⟨w.heap.size, 0, none⟩ = some (.int .i64 y0))
  have x1 := ((hb).cell (p := ⟨w.heap.size, 1, none⟩) (by simp)).trans (by simp : (w.alloc (.cells #[.int .i64 y0, .int .i64 y1, .int .i64 y2] 37)).cell? ⟨w.heap.size, 1, none⟩ = some (.int .i64 y1))
  have x2 := ((hb).cell (p := ⟨w.heap.size, 2, none⟩) (by simp)).trans (by simp : (w.alloc (.cells #[.int .i64 y0, .int .i64 y1, .int .i64 y2] 37)).cell? ⟨w.heap.size, 2, none⟩ = some (.int .i64 y2))
  have B3 := Lib.hid b3
  clear hb b3 hP
  go_wp2_with fail
  by_cases hz : c = 0
  · subst hz
    refine (specSlotOfN ⟨y0, y1, y2⟩ a b (0 - 1) _ hh ⟨hbay.1, hbay.2.1⟩ ⟨r3, r4⟩ (by omega) HS HT).mono ?_
    rintro e w4 ⟨rfl, hb⟩
    have B4 := Lib.hid (below_trans B3.out hb)
    clear hb
    go_wp2_with fail
    go_ret
    exact ⟨rfl, B4.out⟩
  · refine (specSlotOf ⟨y0, y1, y2⟩ a b (c - 1) _ hh ⟨hbay.1, hbay.2.1⟩ ⟨r3, r4⟩ (by dsimp only; omega) HS HT).mono ?_
    rintro e w4 ⟨rfl, hb⟩
    dsimp only
    rw [HQ.out]
    have B4 := Lib.hid (below_trans B3.out hb)
    clear hb
    go_wp2_with fail
    go_ret
    exact ⟨rfl, B4.out⟩
end Go.Proofs.YtbllbpjlkechdaaGreat
end
section
/- Ships: the methods of the program; how far classes have to be apart, both. -/
namespace Go.Proofs.YtbllbpjlkechdaaGreat
open Go Go.ChangeShapes Go.WideShapes Go.ChangeAt Go.RowKit
set_option linter.unusedVariables false
set_option maxHeartbeats 1000000 in
theorem implSlots (x : HullV) (w : World) (hh : hullOk x = true) : Calls Tryz.prog 69 #[.agg #[.int .i64 x.f0, .int .i64 x.f1, .int .i64 x.f2]] w fun e w' => e = .returned (.int .i64 (slotsH x)) ∧ Below w.heap.size w w' := by
  obtain ⟨y0, y1, y2⟩ := x
  have hle := slots_le hh
  obtain ⟨⟨a1, a2⟩, ⟨b1, b2⟩, c1, c2⟩ := hullOk_iff.1 hh
  dsimp only [slotsH] at *
  obtain ⟨e1, e2, e3, e4⟩ := hle
  go_enter Tryz.func69, Tryz.ntmps69
  go_wp2_with fail
  go_ret; exact ⟨rfl, (Below.refl _ _).alloc (Nat.le_refl _) _⟩
set_option maxHeartbeats 1000000 in
theorem implTier (x : HullV) (k : Int) (w : World) (hh : hullOk x = true) (h0 : 0 ≤ k) (hk : k ≤ 100) : Calls Tryz.prog 70 #[.agg #[.int .i64 x.f0, .int .i64 x.f1, .int .i64 x.f2], .int .i64 k] w fun e w' => e = .returned (.int .i64 (k % x.f2)) ∧ Below w.heap.size w w' := by
  obtain ⟨y0, y1, y2⟩ := x
  have hle := slots_le hh
  obtain ⟨⟨a1, a2⟩, ⟨b1, b2⟩, c1, c2⟩ := hullOk_iff.1 hh
  dsimp only [slotsH] at *
  have n2 : ¬ y2 = 0 := (by omega); have t2 : Int.tmod k y2 = k % y2 := Int.tmod_eq_emod_of_nonneg h0
  go_enter Tryz.func70, Tryz.ntmps70
  go_wp2_with fail
  go_ret; exact ⟨rfl, (Below.refl _ _).alloc (Nat.le_refl _) _⟩
set_option maxHeartbeats 1000000 in
theorem implStack (x : HullV) (k : Int) (w : World) (hh : hullOk x = true) (h0 : 0 ≤ k) (hk : k ≤ 100) : Calls Tryz.prog 90 #[.agg #[.int .i64 x.f0, .int .i64 x.f1, .int .i64 x.f2], .int .i64 k] w fun e w' => e = .returned (.int .i64 (k / x.f2)) ∧ Below w.heap.size w w' := by
  obtain ⟨y0, y1, y2⟩ := x
  have hle := slots_le hh
  obtain ⟨⟨a1, a2⟩, ⟨b1, b2⟩, c1, c2⟩ := hullOk_iff.1 hh
  dsimp only [slotsH] at *
  have n2 : ¬ y2 = 0 := (by omega); have t2 : Int.tdiv k y2 = k / y2 := Int.tdiv_eq_ediv_of_nonneg h0; have u1 : k / y2 ≤ k := Int.ediv_le_self _ h0; have u0 : 0 ≤ k / y2 := Int.ediv_nonneg h0 (by omega)
  go_enter Tryz.func90, Tryz.ntmps90
  go_wp2_with fail
  go_ret; exact ⟨rfl, (Below.refl _ _).alloc (Nat.le_refl _) _⟩
set_option maxHeartbeats 1000000 in
theorem implBay (x : HullV) (k : Int) (w : World) (hh : hullOk x = true) (h0 : 0 ≤ k) (hk : k ≤ 100) : Calls Tryz.prog 89 #[.agg #[.int .i64 x.f0, .int .i64 x.f1, .int .i64 x.f2], .int .i64 k] w fun e w' => e = .returned (.int .i64 (k / x.f2 / x.f1)) ∧ Below w.heap.size w w' := by
  obtain ⟨y0, y1, y2⟩ := x
  have hle := slots_le hh
  obtain ⟨⟨a1, a2⟩, ⟨b1, b2⟩, c1, c2⟩ := hullOk_iff.1 hh
  dsimp only [slotsH] at *
  have n2 : ¬ y2 = 0 := (by omega); have n1 : ¬ y1 = 0 := (by omega); have t2 : Int.tdiv k y2 = k / y2 := Int.tdiv_eq_ediv_of_nonneg h0; have u1 : k / y2 ≤ k := Int.ediv_le_self _ h0; have u0 : 0 ≤ k / y2 := Int.ediv_nonneg h0 (by omega); have t3 : Int.tdiv (k / y2) y1 = k / y2 / y1 := Int.tdiv_eq_ediv_of_nonneg u0; have v1 : k / y2 / y1 ≤ k / y2 := Int.ediv_le_self _ u0; have v0 : 0 ≤ k / y2 / y1 := Int.ediv_nonneg u0 (by omega); have s5 : wrap64 (k / y2) = k / y2 := (by unfold wrap64; omega); have s6 : wrap64 (k / y2 / y1) = k / y2 / y1 := (by unfold wrap64; omega)
  go_enter Tryz.func89, Tryz.ntmps89
  go_wp2_with fail
  go_quiet (fail); go_wp2_with fail; go_ret; exact ⟨rfl, below_drewN ((Below.refl _ _).alloc (Nat.le_refl _) _) _⟩
theorem idxA0 (w : World) : Sem.run Tryz.prog (Instr.index 118 (Value.agg #[Value.int IntKind.i64 0, Value.int IntKind.i64 0, Value.int IntKind.i64 0, Value.int IntKind.i64 0, Value.int IntKind.i64 0, Value.int IntKind.i64 0, Value.int IntKind.i64 1, Value.int IntKind.i64 2, Value.int IntKind.i64 0, Value.int IntKind.i64 1, Value.int IntKind.i64 0, Value.int IntKind.i64 3, Value.int IntKind.i64 0, Value.int IntKind.i64 2, Value.int IntKind.i64 3, Value.int IntKind.i64 1]) (Value.int IntKind.i64 0)) w = Result.ok (Value.agg #[Value.int IntKind.i64 0, Value.int IntKind.i64 0, Value.int IntKind.i64 0, Value.int IntKind.i64 0]) w := by kernel_rfl
theorem idxB00 (w : World) : Sem.run Tryz.prog (Instr.index 117 (Value.agg #[Value.int IntKind.i64 0, Value.int IntKind.i64 0, Value.int IntKind.i64 0, Value.int IntKind.i64 0]) (Value.int IntKind.i64 0)) w = Result.ok (Value.int IntKind.i64 0) w := by kernel_rfl
theorem idxB01 (w : World) : Sem.run Tryz.prog (Instr.index 117 (Value.agg #[Value.int IntKind.i64 0, Value.int IntKind.i64 0, Value.int IntKind.i64 0, Value.int IntKind.i64 0]) (Value.int IntKind.i64 1)) w = Result.ok (Value.int IntKind.i64 0) w := by kernel_rfl
theorem idxB02 (w : World) : Sem.run Tryz.prog (Instr.index 117 (Value.agg #[Value.int IntKind.i64 0, Value.int IntKind.i64 0, Value.int IntKind.i64 0, Value.int IntKind.i64 0]) (Value.int IntKind.i64 2)) w = Result.ok (Value.int IntKind.i64 0) w := by kernel_rfl
theorem idxB03 (w : World) : Sem.run Tryz.prog (Instr.index 117 (Value.agg #[Value.int IntKind.i64 0, Value.int IntKind.i64 0, Value.int IntKind.i64 0, Value.int IntKind.i64 0]) (Value.int IntKind.i64 3)) w = Result.ok (Value.int IntKind.i64 0) w := by kernel_rfl
theorem idxA1 (w : World) : Sem.run Tryz.prog (Instr.index 118 (Value.agg #[Value.int IntKind.i64 0, Value.int IntKind.i64 0, Value.int IntKind.i64 0, Value.int IntKind.i64 0, Value.int IntKind.i64 0, Value.int IntKind.i64 0, Value.int IntKind.i64 1, Value.int IntKind.i64 2, Value.int IntKind.i64 0, Value.int IntKind.i64 1, Value.int IntKind.i64 0, Value.int IntKind.i64 3, Value.int IntKind.i64 0, Value.int IntKind.i64 2, Value.int IntKind.i64 3, Value.int IntKind.i64 1]) (Value.int IntKind.i64 1)) w = Result.ok (Value.agg #[Value.int IntKind.i64 0, Value.int IntKind.i64 0, Value.int IntKind.i64 1, Value.int IntKind.i64 2]) w := by kernel_rfl
theorem idxB10 (w : World) : Sem.run Tryz.prog (Instr.index 117 (Value.agg #[Value.int IntKind.i64 0, Value.int IntKind.i64 0, Value.int IntKind.i64 1, Value.int IntKind.i64 2]) (Value.int IntKind.i64 0)) w = Result.ok (Value.int IntKind.i64 0) w := by kernel_rfl
theorem idxB11 (w : World) : Sem.run Tryz.prog (Instr.index 117 (Value.agg #[Value.int IntKind.i64 0, Value.int IntKind.i64 0, Value.int IntKind.i64 1, Value.int IntKind.i64 2]) (Value.int IntKind.i64 1)) w = Result.ok (Value.int IntKind.i64 0) w := by kernel_rfl
theorem idxB12 (w : World) : Sem.run Tryz.prog (Instr.index 117 (Value.agg #[Value.int IntKind.i64 0, Value.int IntKind.i64 0, Value.int IntKind.i64 1, Value.int IntKind.i64 2]) (Value.int IntKind.i64 2)) w = Result.ok (Value.int IntKind.i64 1) w := by kernel_rfl
theorem idxB13 (w : World) : Sem.run Tryz.prog (Instr.index 117 (Value.agg #[Value.int IntKind.i64 0, Value.int IntKind.i64 0, Value.int IntKind.i64 1, Value.int IntKind.i64 2]) (Value.int IntKind.i64 3)) w = Result.ok (Value.int IntKind.i64 2) w := by kernel_rfl
theorem idxA2 (w : World) : Sem.run Tryz.prog (Instr.index 118 (Value.agg #[Value.int IntKind.i64 0, Value.int IntKind.i64 0, Value.int IntKind.i64 0, Value.int IntKind.i64 0, Value.int IntKind.i64 0, Value.int IntKind.i64 0, Value.int IntKind.i64 1, Value.int IntKind.i64 2, Value.int IntKind.i64 0, Value.int IntKind.i64 1, Value.int IntKind.i64 0, Value.int IntKind.i64 3, Value.int IntKind.i64 0, Value.int IntKind.i64 2, Value.int IntKind.i64 3, Value.int IntKind.i64 1]) (Value.int IntKind.i64 2)) w = Result.ok (Value.agg #[Value.int IntKind.i64 0, Value.int IntKind.i64 1, Value.int IntKind.i64 0, Value.int IntKind.i64 3]) w := by kernel_rfl
theorem idxB20 (w : World) : Sem.run Tryz.prog (Instr.index 117 (Value.agg #[Value.int IntKind.i64 0, Value.int IntKind.i64 1, Value.int IntKind.i64 0, Value.int IntKind.i64 3]) (Value.int IntKind.i64 0)) w = Result.ok (Value.int IntKind.i64 0) w := by kernel_rfl
theorem idxB21 (w : World) : Sem.run Tryz.prog (Instr.index 117 (Value.agg #[Value.int IntKind.i64 0, Value.int IntKind.i64 1, Value.int IntKind.i64 0, Value.int IntKind.i64 3]) (Value.int IntKind.i64 1)) w = Result.ok (Value.int IntKind.i64 1) w := by kernel_rfl
theorem idxB22 (w : World) : Sem.run Tryz.prog (Instr.index 117 (Value.agg #[Value.int IntKind.i64 0, Value.int IntKind.i64 1, Value.int IntKind.i64 0, Value.int IntKind.i64 3]) (Value.int IntKind.i64 2)) w = Result.ok (Value.int IntKind.i64 0) w := by kernel_rfl
theorem idxB23 (w : World) : Sem.run Tryz.prog (Instr.index 117 (Value.agg #[Value.int IntKind.i64 0, Value.int IntKind.i64 1, Value.int IntKind.i64 0, Value.int IntKind.i64 3]) (Value.int IntKind.i64 3)) w = Result.ok (Value.int IntKind.i64 3) w := by kernel_rfl
theorem idxA3 (w : World) : Sem.run Tryz.prog (Instr.index 118 (Value.agg #[Value.int IntKind.i64 0, Value.int IntKind.i64 0, Value.int IntKind.i64 0, Value.int IntKind.i64 0, Value.int IntKind.i64 0, Value.int IntKind.i64 0, Value.int IntKind.i64 1, Value.int IntKind.i64 2, Value.int IntKind.i64 0, Value.int IntKind.i64 1, Value.int IntKind.i64 0, Value.int IntKind.i64 3, Value.int IntKind.i64 0, Value.int IntKind.i64 2, Value.int IntKind.i64 3, Value.int IntKind.i64 1]) (Value.int IntKind.i64 3)) w = Result.ok (Value.agg #[Value.int IntKind.i64 0, Value.int IntKind.i64 2, Value.int IntKind.i64 3, Value.int IntKind.i64 1]) w := by kernel_rfl
theorem idxB30 (w : World) : Sem.run Tryz.prog (Instr.index 117 (Value.agg #[Value.int IntKind.i64 0, Value.int IntKind.i64 2, Value.int IntKind.i64 3, Value.int IntKind.i64 1]) (Value.int IntKind.i64 0)) w = Result.ok (Value.int IntKind.i64 0) w := by kernel_rfl
theorem idxB31 (w : World) : Sem.run Tryz.prog (Instr.index 117 (Value.agg #[Value.int IntKind.i64 0, Value.int IntKind.i64 2, Value.int IntKind.i64 3, Value.int IntKind.i64 1]) (Value.int IntKind.i64 1)) w = Result.ok (Value.int IntKind.i64 2) w := by kernel_rfl
theorem idxB32 (w : World) : Sem.run Tryz.prog (Instr.index 117 (Value.agg #[Value.int IntKind.i64 0, Value.int IntKind.i64 2, Value.int IntKind.i64 3, Value.int IntKind.i64 1]) (Value.int IntKind.i64 2)) w = Result.ok (Value.int IntKind.i64 3) w := by kernel_rfl
theorem idxB33 (w : World) : Sem.run Tryz.prog (Instr.index 117 (Value.agg #[Value.int IntKind.i64 0, Value.int IntKind.i64 2, Value.int IntKind.i64 3, Value.int IntKind.i64 1]) (Value.int IntKind.i64 3)) w = Result.ok (Value.int IntKind.i64 1) w := by kernel_rfl
set_option maxHeartbeats 8000000 in
set_option maxRecDepth 100000 in
theorem implApartNeed (a b : Int) (w : World) (ha : 0 ≤ a ∧ a ≤ 3) (hb : 0 ≤ b ∧ b ≤ 3) : Calls Tryz.prog 74 #[.int .i64 a, .int .i64 b] w fun e w' => e = .returned (.int .i64 (needC a b)) ∧ ∃ q, w' = w.drewN q := by
  obtain rfl | rfl | rfl | rfl : a = 0 ∨ a = 1 ∨ a = 2 ∨ a = 3 := by omega
  · obtain rfl | rfl | rfl | rfl : b = 0 ∨ b = 1 ∨ b = 2 ∨ b = 3 := by omega
    · have i1 := idxA0; have i2 := idxB00
      go_enter Tryz.func74, Tryz.ntmps74
      go_wp2_with (go_at_call 65; (first | (with_reducible refine (within_true 0 0 3 _ (by decide) (by decide)).mono ?_) | (with_reducible refine (within_true 1 0 3 _ (by decide) (by decide)).mono ?_) | (with_reducible refine (within_true 2 0 3 _ (by decide) (by decide)).mono ?_) | (with_reducible refine (within_true 3 0 3 _ (by decide) (by decide)).mono ?_)); rintro e w' ⟨rfl, rfl⟩)
      go_ret
      exact ⟨rfl, 0, rfl⟩
    · have i1 := idxA0; have i2 := idxB01
      go_enter Tryz.func74, Tryz.ntmps74
      go_wp2_with (go_at_call 65; (first | (with_reducible refine (within_true 0 0 3 _ (by decide) (by decide)).mono ?_) | (with_reducible refine (within_true 1 0 3 _ (by decide) (by decide)).mono ?_) | (with_reducible refine (within_true 2 0 3 _ (by decide) (by decide)).mono ?_) | (with_reducible refine (within_true 3 0 3 _ (by decide) (by decide)).mono ?_)); rintro e w' ⟨rfl, rfl⟩)
      go_ret
      exact ⟨rfl, 0, rfl⟩
    · have i1 := idxA0; have i2 := idxB02
      go_enter Tryz.func74, Tryz.ntmps74
      go_wp2_with (go_at_call 65; (first | (with_reducible refine (within_true 0 0 3 _ (by decide) (by decide)).mono ?_) | (with_reducible refine (within_true 1 0 3 _ (by decide) (by decide)).mono ?_) | (with_reducible refine (within_true 2 0 3 _ (by decide) (by decide)).mono ?_) | (with_reducible refine (within_true 3 0 3 _ (by decide) (by decide)).mono ?_)); rintro e w' ⟨rfl, rfl⟩)
      go_ret
      exact ⟨rfl, 0, rfl⟩
    · have i1 := idxA0; have i2 := idxB03
      go_enter Tryz.func74, Tryz.ntmps74
      go_wp2_with (go_at_call 65; (first | (with_reducible refine (within_true 0 0 3 _ (by decide) (by decide)).mono ?_) | (with_reducible refine (within_true 1 0 3 _ (by decide) (by decide)).mono ?_) | (with_reducible refine (within_true 2 0 3 _ (by decide) (by decide)).mono ?_) | (with_reducible refine (within_true 3 0 3 _ (by decide) (by decide)).mono ?_)); rintro e w' ⟨rfl, rfl⟩)
      go_ret
      exact ⟨rfl, 0, rfl⟩
  · obtain rfl | rfl | rfl | rfl : b = 0 ∨ b = 1 ∨ b = 2 ∨ b = 3 := by omega
    · have i1 := idxA1; have i2 := idxB10
      go_enter Tryz.func74, Tryz.ntmps74
      go_wp2_with (go_at_call 65; (first | (with_reducible refine (within_true 0 0 3 _ (by decide) (by decide)).mono ?_) | (with_reducible refine (within_true 1 0 3 _ (by decide) (by decide)).mono ?_) | (with_reducible refine (within_true 2 0 3 _ (by decide) (by decide)).mono ?_) | (with_reducible refine (within_true 3 0 3 _ (by decide) (by decide)).mono ?_)); rintro e w' ⟨rfl, rfl⟩)
      go_ret
      exact ⟨rfl, 0, rfl⟩
    · have i1 := idxA1; have i2 := idxB11
      go_enter Tryz.func74, Tryz.ntmps74
      go_wp2_with (go_at_call 65; (first | (with_reducible refine (within_true 0 0 3 _ (by decide) (by decide)).mono ?_) | (with_reducible refine (within_true 1 0 3 _ (by decide) (by decide)).mono ?_) | (with_reducible refine (within_true 2 0 3 _ (by decide) (by decide)).mono ?_) | (with_reducible refine (within_true 3 0 3 _ (by decide) (by decide)).mono ?_)); rintro e w' ⟨rfl, rfl⟩)
      go_ret
      exact ⟨rfl, 0, rfl⟩
    · have i1 := idxA1; have i2 := idxB12
      go_enter Tryz.func74, Tryz.ntmps74
      go_wp2_with (go_at_call 65; (first | (with_reducible refine (within_true 0 0 3 _ (by decide) (by decide)).mono ?_) | (with_reducible refine (within_true 1 0 3 _ (by decide) (by decide)).mono ?_) | (with_reducible refine (within_true 2 0 3 _ (by decide) (by decide)).mono ?_) | (with_reducible refine (within_true 3 0 3 _ (by decide) (by decide)).mono ?_)); rintro e w' ⟨rfl, rfl⟩)
      go_ret
      exact ⟨rfl, 0, rfl⟩
    · have i1 := idxA1; have i2 := idxB13
      go_enter Tryz.func74, Tryz.ntmps74
      go_wp2_with (go_at_call 65; (first | (with_reducible refine (within_true 0 0 3 _ (by decide) (by decide)).mono ?_) | (with_reducible refine (within_true 1 0 3 _ (by decide) (by decide)).mono ?_) | (with_reducible refine (within_true 2 0 3 _ (by decide) (by decide)).mono ?_) | (with_reducible refine (within_true 3 0 3 _ (by decide) (by decide)).mono ?_)); rintro e w' ⟨rfl, rfl⟩)
      go_ret
      exact ⟨rfl, 0, rfl⟩
  · obtain rfl | rfl | rfl | rfl : b = 0 ∨ b = 1 ∨ b = 2 ∨ b = 3 := by omega
    · have i1 := idxA2; have i2 := idxB20
      go_enter Tryz.func74, Tryz.ntmps74
      go_wp2_with (go_at_call 65; (first | (with_reducible refine (within_true 0 0 3 _ (by decide) (by decide)).mono ?_) | (with_reducible refine (within_true 1 0 3 _ (by decide) (by decide)).mono ?_) | (with_reducible refine (within_true 2 0 3 _ (by decide) (by decide)).mono ?_) | (with_reducible refine (within_true 3 0 3 _ (by decide) (by decide)).mono ?_)); rintro e w' ⟨rfl, rfl⟩)
      go_ret
      exact ⟨rfl, 0, rfl⟩
    · have i1 := idxA2; have i2 := idxB21
      go_enter Tryz.func74, Tryz.ntmps74
      go_wp2_with (go_at_call 65; (first | (with_reducible refine (within_true 0 0 3 _ (by decide) (by decide)).mono ?_) | (with_reducible refine (within_true 1 0 3 _ (by decide) (by decide)).mono ?_) | (with_reducible refine (within_true 2 0 3 _ (by decide) (by decide)).mono ?_) | (with_reducible refine (within_true 3 0 3 _ (by decide) (by decide)).mono ?_)); rintro e w' ⟨rfl, rfl⟩)
      go_ret
      exact ⟨rfl, 0, rfl⟩
    · have i1 := idxA2; have i2 := idxB22
      go_enter Tryz.func74, Tryz.ntmps74
      go_wp2_with (go_at_call 65; (first | (with_reducible refine (within_true 0 0 3 _ (by decide) (by decide)).mono ?_) | (with_reducible refine (within_true 1 0 3 _ (by decide) (by decide)).mono ?_) | (with_reducible refine (within_true 2 0 3 _ (by decide) (by decide)).mono ?_) | (with_reducible refine (within_true 3 0 3 _ (by decide) (by decide)).mono ?_)); rintro e w' ⟨rfl, rfl⟩)
      go_ret
      exact ⟨rfl, 0, rfl⟩
    · have i1 := idxA2; have i2 := idxB23
      go_enter Tryz.func74, Tryz.ntmps74
      go_wp2_with (go_at_call 65; (first | (with_reducible refine (within_true 0 0 3 _ (by decide) (by decide)).mono ?_) | (with_reducible refine (within_true 1 0 3 _ (by decide) (by decide)).mono ?_) | (with_reducible refine (within_true 2 0 3 _ (by decide) (by decide)).mono ?_) | (with_reducible refine (within_true 3 0 3 _ (by decide) (by decide)).mono ?_)); rintro e w' ⟨rfl, rfl⟩)
      go_ret
      exact ⟨rfl, 0, rfl⟩
  · obtain rfl | rfl | rfl | rfl : b = 0 ∨ b = 1 ∨ b = 2 ∨ b = 3 := by omega
    · have i1 := idxA3; have i2 := idxB30
      go_enter Tryz.func74, Tryz.ntmps74
      go_wp2_with (go_at_call 65; (first | (with_reducible refine (within_true 0 0 3 _ (by decide) (by decide)).mono ?_) | (with_reducible refine (within_true 1 0 3 _ (by decide) (by decide)).mono ?_) | (with_reducible refine (within_true 2 0 3 _ (by decide) (by decide)).mono ?_) | (with_reducible refine (within_true 3 0 3 _ (by decide) (by decide)).mono ?_)); rintro e w' ⟨rfl, rfl⟩)
      go_ret
      exact ⟨rfl, 0, rfl⟩
    · have i1 := idxA3; have i2 := idxB31
      go_enter Tryz.func74, Tryz.ntmps74
      go_wp2_with (go_at_call 65; (first | (with_reducible refine (within_true 0 0 3 _ (by decide) (by decide)).mono ?_) | (with_reducible refine (within_true 1 0 3 _ (by decide) (by decide)).mono ?_) | (with_reducible refine (within_true 2 0 3 _ (by decide) (by decide)).mono ?_) | (with_reducible refine (within_true 3 0 3 _ (by decide) (by decide)).mono ?_)); rintro e w' ⟨rfl, rfl⟩)
      go_ret
      exact ⟨rfl, 0, rfl⟩
    · have i1 := idxA3; have i2 := idxB32
      go_enter Tryz.func74, Tryz.ntmps74
      go_wp2_with (go_at_call 65; (first | (with_reducible refine (within_true 0 0 3 _ (by decide) (by decide)).mono ?_) | (with_reducible refine (within_true 1 0 3 _ (by decide) (by decide)).mono ?_) | (with_reducible refine (within_true 2 0 3 _ (by decide) (by decide)).mono ?_) | (with_reducible refine (within_true 3 0 3 _ (by decide) (by decide)).mono ?_)); rintro e w' ⟨rfl, rfl⟩)
      go_ret
      exact ⟨rfl, 0, rfl⟩
    · have i1 := idxA3; have i2 := idxB33
      go_enter Tryz.func74, Tryz.ntmps74
      go_wp2_with (go_at_call 65; (first | (with_reducible refine (within_true 0 0 3 _ (by decide) (by decide)).mono ?_) | (with_reducible refine (within_true 1 0 3 _ (by decide) (by decide)).mono ?_) | (with_reducible refine (within_true 2 0 3 _ (by decide) (by decide)).mono ?_) | (with_reducible refine (within_true 3 0 3 _ (by decide) (by decide)).mono ?_)); rintro e w' ⟨rfl, rfl⟩)
      go_ret
      exact ⟨rfl, 0, rfl⟩
set_option maxHeartbeats 8000000 in
set_option maxRecDepth 100000 in
theorem specApartNeed (a b : Int) (w : World) (ha : 0 ≤ a ∧ a ≤ 3) (hb : 0 ≤ b ∧ b ≤ 3) : Calls Tryz.prog 62 #[.int .i64 a, .int .i64 b] w fun e w' => e = .returned (.int .i64 (needC a b)) ∧ w = w' := by
  obtain rfl | rfl | rfl | rfl : a = 0 ∨ a = 1 ∨ a = 2 ∨ a = 3 := by omega
  all_goals (obtain rfl | rfl | rfl | rfl : b = 0 ∨ b = 1 ∨ b = 2 ∨ b = 3 := by omega)
  all_goals (go_enter Tryz.func62, Tryz.ntmps62; go_wp2_with fail; go_ret; exact ⟨rfl, rfl⟩)
end Go.Proofs.YtbllbpjlkechdaaGreat
end
section
/- Ships: how far two slots are apart, the program. -/
namespace Go.Proofs.YtbllbpjlkechdaaGreat
open Go Go.ChangeShapes Go.WideShapes Go.ChangeAt Go.RowKit
set_option linter.unusedVariables false
theorem hulKeep {w W W' : World} {y0 y1 y2 : Int} (h : Below w.heap.size w W ∧ w.heap.size < W.heap.size ∧ W.cell? ⟨w.heap.size, 0, none⟩ = some (.int .i64 y0) ∧ W.cell? ⟨w.heap.size, 1, none⟩ = some (.int .i64 y1) ∧ W.cell? ⟨w.heap.size, 2, none⟩ = some (.int .i64 y2)) (hb : Below W.heap.size W W') :
    Below w.heap.size w W' ∧ w.heap.size < W'.heap.size ∧ W'.cell? ⟨w.heap.size, 0, none⟩ = some (.int .i64 y0) ∧ W'.cell? ⟨w.heap.size, 1, none⟩ = some (.int .i64 y1) ∧ W'.cell? ⟨w.heap.size, 2, none⟩ = some (.int .i64 y2) :=
  ⟨below_trans h.1 hb, Nat.lt_of_lt_of_le h.2.1 hb.size, (hb.cell (p := ⟨w.heap.size, 0, none⟩) h.2.1).trans h.2.2.1, (hb.cell (p := ⟨w.heap.size, 1, none⟩) h.2.1).trans h.2.2.2.1, (hb.cell (p := ⟨w.heap.size, 2, none⟩) h.2.1).trans h.2.2.2.2⟩
theorem hulNew (w : World) (y0 y1 y2 : Int) : Below w.heap.size w (w.alloc (.cells #[.int .i64 y0, .int .i64 y1, .int .i64 y2] 37)) ∧ w.heap.size < (w.alloc (.cells #[.int .i64 y0, .int .i64 y1, .int .i64 y2] 37)).heap.size ∧ (w.alloc (.cells #[.int .i64 y0, .int .i64 y1, .int .i64 y2] 37)).cell? ⟨w.heap.size, 0, none⟩ = some (.int .i64 y0) ∧ (w.alloc (.cells #[.int .i64 y0, .int .i64 y1, .int .i64 y2] 37)).cell? ⟨w.heap.size, 1, none⟩ = some (.int .i64 y1) ∧ (w.alloc (.cells #[.int .i64 y0, .int .i64 y1, .int .i64 y2] 37)).cell? ⟨w.heap.size, 2, none⟩ = some (.int .i64 y2) :=
  ⟨(Below.refl _ _).alloc (Nat.le_refl _) _, by simp, by simp, by simp, by simp⟩
set_option maxHeartbeats 2000000 in
theorem implApart (x : HullV) (a b : Int) (w : World) (hh : hullOk x = true) (ha : 0 ≤ a ∧ a ≤ 100) (hb : 0 ≤ b ∧ b ≤ 100) : Calls Tryz.prog 73 #[.agg #[.int .i64 x.f0, .int .i64 x.f1, .int .i64 x.f2], .int .i64 a, .int .i64 b] w fun e w' => e = .returned (.int .i64 (apartH x a b)) ∧ Below w.heap.size w w' := by
  obtain ⟨y0, y1, y2⟩ := x
  have hA := fun W => implBay ⟨y0, y1, y2⟩ a W hh ha.1 ha.2
  have hB := fun W => implBay ⟨y0, y1, y2⟩ b W hh hb.1 hb.2
  have sA := fun W => implStack ⟨y0, y1, y2⟩ a W hh ha.1 ha.2
  have sB := fun W => implStack ⟨y0, y1, y2⟩ b W hh hb.1 hb.2
  obtain ⟨⟨a1, a2⟩, ⟨b1, b2⟩, c1, c2⟩ := hullOk_iff.1 hh
  dsimp only at *
  have pa := Int.ediv_nonneg ha.1 (show 0 ≤ y2 by omega)
  have pb := Int.ediv_nonneg hb.1 (show 0 ≤ y2 by omega)
  have pc := Int.ediv_nonneg pa (show 0 ≤ y1 by omega)
  have pd := Int.ediv_nonneg pb (show 0 ≤ y1 by omega)
  have qa := Int.ediv_le_self y2 ha.1
  have qb := Int.ediv_le_self y2 hb.1
  have qc := Int.ediv_le_self y1 pa
  have qd := Int.ediv_le_self y1 pb
  have HR : Hid (apartH ⟨y0, y1, y2⟩ a b = if a / y2 = b / y2 then 0 else if a / y2 / y1 = b / y2 / y1 then 1 else if a / y2 / y1 - b / y2 / y1 = 1 ∨ a / y2 / y1 - b / y2 / y1 = -1 then 2 else 3) := Lib.hid rfl
  generalize a / y2 / y1 = ba at *
  generalize b / y2 / y1 = bb at *
  generalize a / y2 = sa at *
  generalize b / y2 = sb at *
  have K0 := hulNew w y0 y1 y2
  go_enter Tryz.func73, Tryz.ntmps73
  go_wp2_with fail
  go_region_held3 (fun W => Below w.heap.size w W ∧ w.heap.size < W.heap.size ∧ W.cell? ⟨w.heap.size, 0, none⟩ = some (.int .i64 y0) ∧ W.cell? ⟨w.heap.size, 1, none⟩ = some (.int .i64 y1) ∧ W.cell? ⟨w.heap.size, 2, none⟩ = some (.int .i64 y2))
    (first | assumption | exact kA | exact kB | exact hulKeep (by assumption) (Below.drew (Below.refl _ _)))
    (first
      | (go_at_call 89; (with_reducible refine (hA _).mono ?_); rintro e w5 ⟨rfl, h5⟩; have kA := hulKeep (by assumption) h5; clear h5)
      | (go_at_call 89; (with_reducible refine (hB _).mono ?_); rintro e w6 ⟨rfl, h6⟩; have kB := hulKeep (by assumption) h6; clear h6))
  go_wp2_with fail
  clear hA hB kA K0
  go_region_held3 (fun W => Below w.heap.size w W ∧ w.heap.size < W.heap.size ∧ W.cell? ⟨w.heap.size, 0, none⟩ = some (.int .i64 y0) ∧ W.cell? ⟨w.heap.size, 1, none⟩ = some (.int .i64 y1) ∧ W.cell? ⟨w.heap.size, 2, none⟩ = some (.int .i64 y2))
    (first | assumption | exact kC | exact kD | exact hulKeep (by assumption) (Below.drew (Below.refl _ _)))
    (first
      | (go_at_call 90; (with_reducible refine (sA _).mono ?_); rintro e w7 ⟨rfl, h7⟩; have kC := hulKeep (by assumption) h7; clear h7)
      | (go_at_call 90; (with_reducible refine (sB _).mono ?_); rintro e w8 ⟨rfl, h8⟩; have kD := hulKeep (by assumption) h8; clear h8))
  clear sA sB kC
  obtain ⟨z1, z2, z3, z4, z5⟩ := kD
  have Z1 := Lib.hid z1
  clear z1
  have wr : IntKind.i64.wrap (ba - bb) = ba - bb := by
    rw [IntKind.wrap_i64]
    omega
  rw [wr]
  clear wr
  by_cases e1 : sa = sb
  · have H1 : Hid (apartH ⟨y0, y1, y2⟩ a b = 0) := Lib.hid (by rw [HR.out, if_pos e1])
    clear HR
    subst e1
    go_wp2_with fail
    go_ret
    exact ⟨by rw [H1.out]; rfl, Z1.out⟩
  · by_cases e2 : ba = bb
    · have H1 : Hid (apartH ⟨y0, y1, y2⟩ a b = 1) := Lib.hid (by rw [HR.out, if_neg e1, if_pos e2])
      clear HR
      have e0 : ba - bb = 0 := by omega
      rw [e0]
      clear e2 e0
      go_wp2_with fail
      go_ret
      exact ⟨by rw [H1.out]; rfl, Z1.out⟩
    · have e0 : ¬ (ba - bb = 0) := by omega
      by_cases e3 : ba - bb = 1
      · have H1 : Hid (apartH ⟨y0, y1, y2⟩ a b = 2) := Lib.hid (by rw [HR.out, if_neg e1, if_neg e2, if_pos (.inl e3)])
        clear HR e2 e0
        rw [e3]
        clear e3
        go_wp2_with fail
        go_ret
        exact ⟨by rw [H1.out]; rfl, Z1.out⟩
      · by_cases e4 : ba - bb = -1
        · have H1 : Hid (apartH ⟨y0, y1, y2⟩ a b = 2) := Lib.hid (by rw [HR.out, if_neg e1, if_neg e2, if_pos (.inr e4)])
          clear HR e2 e0 e3
          rw [e4]
          clear e4
          go_wp2_with fail
          go_ret
          exact ⟨by rw [H1.out]; rfl, Z1.out⟩
        · have H1 : Hid (apartH ⟨y0, y1, y2⟩ a b = 3) := Lib.hid (by rw [HR.out, if_neg e1, if_neg e2, if_neg (by omega)])
          clear HR e2
          generalize ba - bb = d at *
          have g1 : (d == 1) = false := by simp [e3]
          have g2 : (d == -1) = false := by simp [e4]
          have g3 : decide (d = 1) = false := decide_eq_false e3
          have g4 : decide (d = -1) = false := decide_eq_false e4
          have g0 : (d == 0) = false := by simp [e0]
          go_wp2_with fail
          go_ret
          exact ⟨by rw [H1.out]; rfl, Z1.out⟩
end Go.Proofs.YtbllbpjlkechdaaGreat
end
section
/- Plans: the program says whether one is valid. -/
namespace Go.Proofs.YtbllbpjlkechdaaGreat
open Go Go.ChangeShapes Go.WideShapes Go.ChangeAt Go.RowKit
set_option linter.unusedVariables false
/-- the cells of a ship that is laid in memory, in a later world -/
abbrev HulAt (w W : World) (y0 y1 y2 : Int) : Prop := Below w.heap.size w W ∧ w.heap.size < W.heap.size ∧ W.cell? ⟨w.heap.size, 0, none⟩ = some (.int .i64 y0) ∧ W.cell? ⟨w.heap.size, 1, none⟩ = some (.int .i64 y1) ∧ W.cell? ⟨w.heap.size, 2, none⟩ = some (.int .i64 y2)
theorem slotOk_zero {h : HullV} {bs : List BoxV} {plan : List Int} {k : Nat} (hk : k < plan.length) (h0 : plan[k] = 0) : slotOk h bs plan k = true := by
  simp [slotOk, List.getD, hk, h0]
theorem slotOk_cut {h : HullV} {bs : List BoxV} {plan : List Int} {k : Nat} (hk : k < plan.length) (h0 : plan[k] ≠ 0) :
    slotOk h bs plan k = ((hasF bs plan[k] && !hasI (plan.take k) plan[k]) && !(decide (0 < (k : Int) % h.f2) && decide (plan.getD (k - 1) 0 = 0))) := by
  have : plan.getD k 0 = plan[k] := by simp [List.getD, hk]
  rw [slotOk, this, decide_eq_false h0, Bool.false_or]
theorem slots_up {h : HullV} {bs : List BoxV} {plan : List Int} {k : Nat} (H : ∀ j, j < k → slotOk h bs plan j = true) (hk : slotOk h bs plan k = true) : ∀ j, j < k + 1 → slotOk h bs plan j = true := fun j hj => by
  by_cases e : j = k
  · rw [e]; exact hk
  · exact H j (by omega)
theorem idx_has (bs : List BoxV) (x : Int) : decide (idxI (findF bs x) < 0) = !hasF bs x := by
  cases hq : findF bs x with
  | none =>
    rw [findF_none] at hq
    have : hasF bs x = false := by
      rw [Bool.eq_false_iff]
      intro h
      obtain ⟨y, hy, e⟩ := hasF_iff.1 h
      exact hq y hy e
    rw [this]
    simp [idxI]
  | some i =>
    obtain ⟨hi, h1, _⟩ := findF_some hq
    have : hasF bs x = true := hasF_iff.2 ⟨bs[i], List.getElem_mem hi, by assumption⟩
    rw [this]
    simp only [idxI, Bool.not_true]
    exact decide_eq_false (by omega)
set_option maxHeartbeats 4000000 in
theorem implPlanValid (x : HullV) (A PA : Option Addr) (n c m pc : Nat) (bs : List BoxV) (plan : List Int) (w : World) (hn : bs.length = n) (hr : RdV w A (boxs bs)) (hnc : n ≤ c) (hm : n ≤ 1099511627776) (hpn : plan.length = m) (hp : RdV w PA (ints plan)) (hpc : m ≤ pc) (hpm : pc ≤ 9223372036854775807) :
    Calls Tryz.prog 37 #[.agg #[.int .i64 x.f0, .int .i64 x.f1, .int .i64 x.f2], .slice A n c, .slice PA m pc] w fun e w' => e = .returned (.bool (planOk x bs plan)) ∧ Below w.heap.size w w' := by
  obtain ⟨y0, y1, y2⟩ := x
  have K0 := hulNew w y0 y1 y2
  have HN := Lib.hid hn
  have HPN := Lib.hid hpn
  clear hn hpn
  have hV := fun W => implHullValid ⟨y0, y1, y2⟩ W
  dsimp only at *
  go_enter Tryz.func37, Tryz.ntmps37
  go_wp2_with fail
  refine (hV _).mono ?_
  rintro e w3 ⟨rfl, h3⟩
  have k3 := hulKeep K0 h3
  clear h3 hV K0
  cases hh : hullOk ⟨y0, y1, y2⟩ with
  | false =>
    have HE : Hid (planOk ⟨y0, y1, y2⟩ bs plan = false) := Lib.hid (planOk_hull hh)
    obtain ⟨v1, v2, v3, v4, v5⟩ := k3
    have Z := Lib.hid v1
    clear v1 hh
    go_wp2_with fail
    go_ret
    exact ⟨by rw [HE.out]; rfl, Z.out⟩
  | true =>
    have hle := slots_le hh
    have hT := (hullOk_iff.1 hh).2.2
    have hsl := fun W => implSlots ⟨y0, y1, y2⟩ W hh
    have hti := fun (j : Nat) W (hj : j ≤ 100) => implTier ⟨y0, y1, y2⟩ j W hh (by omega) (by omega)
    have HH := Lib.hid hh
    clear hh
    dsimp only at *
    have hr3 := hr.below k3.1
    go_wp2_with fail
    refine (implBoxesValid A n c bs _ HN.out hr3 hnc hm).mono ?_
    rintro e w4 ⟨rfl, h4⟩
    have k4 := hulKeep k3 h4
    clear h4 k3 hr3
    cases hbo : boxesOk bs with
    | false =>
      have HE : Hid (planOk ⟨y0, y1, y2⟩ bs plan = false) := Lib.hid (planOk_boxes hbo)
      obtain ⟨v1, v2, v3, v4, v5⟩ := k4
      have Z := Lib.hid v1
      clear v1 hbo
      go_wp2_with fail
      go_ret
      exact ⟨by rw [HE.out]; rfl, Z.out⟩
    | true =>
      have HBO := Lib.hid hbo
      clear hbo
      have HSL : Hid (slotsH ⟨y0, y1, y2⟩ = slotsH ⟨y0, y1, y2⟩) := Lib.hid rfl
      generalize hsv : slotsH ⟨y0, y1, y2⟩ = sv at *
      have HSV := Lib.hid hsv
      clear hsv HSL
      obtain ⟨v1, v2, v3, v4, v5⟩ := id k4
      have K4 := Lib.hid k4
      clear v1 k4
      go_wp2_with fail
      refine (hsl _).mono ?_
      rintro e w5 ⟨rfl, h5⟩
      have K5 := Lib.hid (hulKeep K4.out h5)
      clear h5 hsl K4 v2 v3 v4 v5
      by_cases hlen : (m : Int) = sv
      · have hm36 : m ≤ 36 := by omega
        subst hlen
        have H0 : Hid (∀ j, j < 0 → slotOk ⟨y0, y1, y2⟩ bs plan j = true) := Lib.hid (fun j hj => absurd hj (Nat.not_lt_zero j))
        go_wp2_with fail
        go_loopw [26, 7, 8] (fun i _ _ wr => ∃ (k : Nat), k ≤ m ∧ i = .int .i64 k ∧ Hid (∀ j, j < k → slotOk ⟨y0, y1, y2⟩ bs plan j = true) ∧ Hid (HulAt w wr y0 y1 y2)) (fun i _ _ _ => m - (intOf i).toNat)
        case atStart => exact ⟨0, Nat.zero_le _, rfl, H0, K5⟩
        case round =>
          clear H0 K5
          obtain ⟨k, hk, rfl, HS, HK⟩ := hrel
          by_cases hlt : k < m
          · have hkz : k < plan.length := by rw [HPN.out]; exact hlt
            have hki : (k : Int) < (m : Int) := by omega
            have hbl := HK.out.1
            obtain ⟨pb, po, rfl, hl1, hc1⟩ := (hp.below hbl).pos (k := k) (by rw [ints_len]; exact hkz)
            have hcell : wr.cell? ⟨pb, po + k, none⟩ = some (.int .i64 plan[k]) := by rw [hc1 k (by rw [ints_len]; exact hkz), ints_at]
            by_cases h0 : plan[k] = 0
            · have HS2 : Hid (∀ j, j < k + 1 → slotOk ⟨y0, y1, y2⟩ bs plan j = true) := Lib.hid (slots_up HS.out (slotOk_zero hkz h0))
              rw [h0] at hcell
              clear hc1 h0 HS hbl
              go_wp2_with fail
              go_roundw
              case rel => exact ⟨k + 1, by omega, by go_num, HS2, HK⟩
              case measure => simp [intOf]; omega
            · have HCU := Lib.hid (slotOk_cut (h := ⟨y0, y1, y2⟩) (bs := bs) hkz h0)
              have HTK := Lib.hid (RdV.takeI (zs := plan) hl1 hc1 k)
              have HBX := Lib.hid (hr.below hbl)
              have hP : 0 < k → ∃ u, plan.getD (k - 1) 0 = u ∧ wr.cell? ⟨pb, po + (k - 1), none⟩ = some (.int .i64 u) := fun hk0 => by
                have hk1 : k - 1 < plan.length := by omega
                refine ⟨plan[k - 1], by simp [List.getD, hk1], ?_⟩
                rw [hc1 (k - 1) (by rw [ints_len]; exact hk1), ints_at]
              have HP := Lib.hid hP
              have HTL : Hid ((plan.take k).length = k) := Lib.hid (by rw [List.length_take]; omega)
              have g0 : (plan[k] == 0) = false := by simp [h0]
              have HKZ := Lib.hid hkz
              generalize plan[k] = v at *
              have HBI := Lib.hid (idx_has bs v)
              clear hc1 hP hbl hkz
              go_wp2_with fail
              refine (boxAt_any A n c bs v _ HN.out HBX.out (by omega)).mono ?_
              rintro e w6 ⟨rfl, h6⟩
              have K6 := Lib.hid (hulKeep HK.out h6)
              have HTK6 := Lib.hid (HTK.out.below h6)
              clear HTK HBX
              have q0 := hl1
              have hl6 : pb < w6.heap.size := Nat.lt_of_lt_of_le hl1 h6.size
              have HP6 : Hid (0 < k → ∃ u, plan.getD (k - 1) 0 = u ∧ w6.cell? ⟨pb, po + (k - 1), none⟩ = some (.int .i64 u)) := Lib.hid (fun h => by obtain ⟨u, e1, e2⟩ := HP.out h; exact ⟨u, e1, (h6.cell (p := ⟨pb, po + (k - 1), none⟩) q0).trans e2⟩)
              clear HP h6 q0
              generalize idxI (findF bs v) = fi at *
              cases hf : hasF bs v with
              | false =>
                have HE : Hid (planOk ⟨y0, y1, y2⟩ bs plan = false) := Lib.hid (planOk_bad HKZ.out (by rw [HCU.out, hf]; rfl))
                have hfi := HBI.out
                rw [hf] at hfi
                have hlt0 : decide (fi < 0) = true := hfi
                have hlt1 : fi < 0 := of_decide_eq_true hlt0
                clear hf hfi
                go_wp2_with fail
                go_ret
                exact ⟨by rw [HE.out]; rfl, K6.out.1⟩
              | true =>
                have hfi := HBI.out
                rw [hf] at hfi
                have hlt0 : decide (fi < 0) = false := hfi
                have hlt1 : ¬ fi < 0 := of_decide_eq_false hlt0
                have HF := Lib.hid hf
                clear hf hfi
                go_wp2_with fail
                refine (contains_int _ k pc (plan.take k) v _ HTL.out HTK6.out (by omega)).mono ?_
                rintro e w7 ⟨rfl, rfl⟩
                cases hi : hasI (plan.take k) v with
                | true =>
                  have HE : Hid (planOk ⟨y0, y1, y2⟩ bs plan = false) := Lib.hid (planOk_bad HKZ.out (by rw [HCU.out, hi]; simp))
                  clear hi
                  go_wp2_with fail
                  go_ret
                  exact ⟨by rw [HE.out]; rfl, K6.out.1⟩
                | false =>
                  have HI := Lib.hid hi
                  clear hi
                  obtain ⟨v1, v2, v3, v4, v5⟩ := K6.out
                  clear v1
                  go_wp2_with fail
                  refine (hti k _ (by omega)).mono ?_
                  rintro e w8 ⟨rfl, h8⟩
                  have K8 := Lib.hid (hulKeep K6.out h8)
                  clear v2 v3 v4 v5
                  by_cases ht : 0 < (k : Int) % y2
                  · have hk0 : 0 < k := by
                      rcases Nat.eq_zero_or_pos k with e | e
                      · subst e; simp at ht
                      · exact e
                    obtain ⟨u, hu, hcu⟩ := HP6.out hk0
                    have hcu8 := (h8.cell (p := ⟨pb, po + (k - 1), none⟩) hl6).trans hcu
                    have hl8 : pb < w8.heap.size := Nat.lt_of_lt_of_le hl6 h8.size
                    have HT := Lib.hid ht
                    have HU := Lib.hid hu
                    have HQ : Hid (slotOk ⟨y0, y1, y2⟩ bs plan k = !decide (u = 0)) := Lib.hid (by rw [HCU.out, HF.out, HI.out, decide_eq_true ht, hu]; simp)
                    obtain ⟨j, rfl⟩ : ∃ j, k = j + 1 := ⟨k - 1, by omega⟩
                    have ea : ((j + 1 : Nat) : Int) - 1 = (j : Int) := by omega
                    have hji : (j : Int) < (m : Int) := by omega
                    simp only [Nat.add_sub_cancel] at hcu8
                    generalize ((j + 1 : Nat) : Int) % y2 = tt at *
                    clear h8 hcu hu HP6 hl6
                    by_cases hu0 : u = 0
                    · have HE : Hid (planOk ⟨y0, y1, y2⟩ bs plan = false) := Lib.hid (planOk_bad HKZ.out (by rw [HQ.out, hu0]; rfl))
                      subst hu0
                      go_wp2_with fail
                      go_ret
                      exact ⟨by rw [HE.out]; rfl, K8.out.1⟩
                    · have HS2 : Hid (∀ i, i < j + 1 + 1 → slotOk ⟨y0, y1, y2⟩ bs plan i = true) := Lib.hid (slots_up HS.out (by rw [HQ.out]; simp [hu0]))
                      have gu : (u == 0) = false := by simp [hu0]
                      go_wp2_with fail
                      go_roundw
                      case rel => exact ⟨j + 1 + 1, by omega, by go_num, HS2, K8⟩
                      case measure => simp [intOf]; omega
                  · have HS2 : Hid (∀ j, j < k + 1 → slotOk ⟨y0, y1, y2⟩ bs plan j = true) := Lib.hid (slots_up HS.out (by rw [HCU.out, HF.out, HI.out, decide_eq_false ht]; rfl))
                    generalize (k : Int) % y2 = tt at *
                    have gt : decide (0 < tt) = false := decide_eq_false ht
                    clear h8 HP6
                    go_wp2_with fail
                    go_roundw
                    case rel => exact ⟨k + 1, by omega, by go_num, HS2, K8⟩
                    case measure => simp [intOf]; omega
          · obtain rfl : k = m := by omega
            have HE : Hid (planOk ⟨y0, y1, y2⟩ bs plan = true) := Lib.hid (planOk_good HH.out HBO.out (by rw [HPN.out, HSV.out]) (fun j hj => HS.out j (by have := HPN.out; omega)))
            go_wp2_with fail
            go_ret
            exact ⟨by rw [HE.out]; rfl, HK.out.1⟩
      · have HE : Hid (planOk ⟨y0, y1, y2⟩ bs plan = false) := Lib.hid (planOk_len (by rw [HPN.out, HSV.out]; exact hlen))
        have g1 : ((m : Int) != sv) = true := by simp [hlen]
        go_wp2_with fail
        go_ret
        exact ⟨by rw [HE.out]; rfl, K5.out.1⟩
end Go.Proofs.YtbllbpjlkechdaaGreat
end
