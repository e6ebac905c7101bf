/- Several texts of the proof in one; each says at its head what it proves; no condition. -/
import Derived.Test.YtbkfhcbecejomaaGreatMg11
import Derived.Deep.RegionHeld3
import Derived.Deep.DeepCutAuto
import Derived.Test.YtbkfhcbecejomaaGreatMg5
import Derived.Test.YtbkfhcbecejomaaGreatMg3
section
/- Ships: the methods of the program; how far classes have to be apart, both. -/
namespace Go.Proofs.YtbkfhcbecejomaaGreat
open Go Go.ChangeShapes Go.WideShapes Go.ChangeAt Go.RowKit
set_option linter.unusedVariables false
set_option maxHeartbeats 1000000 in
theorem implSlots (x : HullV) (w : World) (hh : hullOk x = true) : Calls Tryz.prog 43 #[.agg #[.int .i64 x.f0, .int .i64 x.f1, .int .i64 x.f2]] w fun e w' => e = .returned (.int .i64 (slotsH x)) ∧ Below w.heap.size w w' := by
  obtain ⟨y0, y1, y2⟩ := x
  have hle := slots_le hh
  obtain ⟨⟨a1, a2⟩, ⟨b1, b2⟩, c1, c2⟩ := hullOk_iff.1 hh
  dsimp only [slotsH] at *
  obtain ⟨e1, e2, e3, e4⟩ := hle
  go_enter Tryz.func43, Tryz.ntmps43
  go_wp2_with fail
  go_ret; exact ⟨rfl, (Below.refl _ _).alloc (Nat.le_refl _) _⟩
set_option maxHeartbeats 1000000 in
theorem implTier (x : HullV) (k : Int) (w : World) (hh : hullOk x = true) (h0 : 0 ≤ k) (hk : k ≤ 100) : Calls Tryz.prog 44 #[.agg #[.int .i64 x.f0, .int .i64 x.f1, .int .i64 x.f2], .int .i64 k] w fun e w' => e = .returned (.int .i64 (k % x.f2)) ∧ Below w.heap.size w w' := by
  obtain ⟨y0, y1, y2⟩ := x
  have hle := slots_le hh
  obtain ⟨⟨a1, a2⟩, ⟨b1, b2⟩, c1, c2⟩ := hullOk_iff.1 hh
  dsimp only [slotsH] at *
  have n2 : ¬ y2 = 0 := (by omega); have t2 : Int.tmod k y2 = k % y2 := Int.tmod_eq_emod_of_nonneg h0
  go_enter Tryz.func44, Tryz.ntmps44
  go_wp2_with fail
  go_ret; exact ⟨rfl, (Below.refl _ _).alloc (Nat.le_refl _) _⟩
set_option maxHeartbeats 1000000 in
theorem implStack (x : HullV) (k : Int) (w : World) (hh : hullOk x = true) (h0 : 0 ≤ k) (hk : k ≤ 100) : Calls Tryz.prog 81 #[.agg #[.int .i64 x.f0, .int .i64 x.f1, .int .i64 x.f2], .int .i64 k] w fun e w' => e = .returned (.int .i64 (k / x.f2)) ∧ Below w.heap.size w w' := by
  obtain ⟨y0, y1, y2⟩ := x
  have hle := slots_le hh
  obtain ⟨⟨a1, a2⟩, ⟨b1, b2⟩, c1, c2⟩ := hullOk_iff.1 hh
  dsimp only [slotsH] at *
  have n2 : ¬ y2 = 0 := (by omega); have t2 : Int.tdiv k y2 = k / y2 := Int.tdiv_eq_ediv_of_nonneg h0; have u1 : k / y2 ≤ k := Int.ediv_le_self _ h0; have u0 : 0 ≤ k / y2 := Int.ediv_nonneg h0 (by omega)
  go_enter Tryz.func81, Tryz.ntmps81
  go_wp2_with fail
  go_ret; exact ⟨rfl, (Below.refl _ _).alloc (Nat.le_refl _) _⟩
set_option maxHeartbeats 1000000 in
theorem implBay (x : HullV) (k : Int) (w : World) (hh : hullOk x = true) (h0 : 0 ≤ k) (hk : k ≤ 100) : Calls Tryz.prog 80 #[.agg #[.int .i64 x.f0, .int .i64 x.f1, .int .i64 x.f2], .int .i64 k] w fun e w' => e = .returned (.int .i64 (k / x.f2 / x.f1)) ∧ Below w.heap.size w w' := by
  obtain ⟨y0, y1, y2⟩ := x
  have hle := slots_le hh
  obtain ⟨⟨a1, a2⟩, ⟨b1, b2⟩, c1, c2⟩ := hullOk_iff.1 hh
  dsimp only [slotsH] at *
  have n2 : ¬ y2 = 0 := (by omega); have n1 : ¬ y1 = 0 := (by omega); have t2 : Int.tdiv k y2 = k / y2 := Int.tdiv_eq_ediv_of_nonneg h0; have u1 : k / y2 ≤ k := Int.ediv_le_self _ h0; have u0 : 0 ≤ k / y2 := Int.ediv_nonneg h0 (by omega); have t3 : Int.tdiv (k / y2) y1 = k / y2 / y1 := Int.tdiv_eq_ediv_of_nonneg u0; have v1 : k / y2 / y1 ≤ k / y2 := Int.ediv_le_self _ u0; have v0 : 0 ≤ k / y2 / y1 := Int.ediv_nonneg u0 (by omega); have s5 : wrap64 (k / y2) = k / y2 := (by unfold wrap64; omega); have s6 : wrap64 (k / y2 / y1) = k / y2 / y1 := (by unfold wrap64; omega)
  go_enter Tryz.func80, Tryz.ntmps80
  go_wp2_with fail
  go_quiet (fail); go_wp2_with fail; go_ret; exact ⟨rfl, below_drewN ((Below.refl _ _).alloc (Nat.le_refl _) _) _⟩
theorem idxA0 (w : World) : Sem.run Tryz.prog (Instr.index 101 (Value.agg #[Value.int IntKind.i64 0, Value.int IntKind.i64 0, Value.int IntKind.i64 0, Value.int IntKind.i64 0, Value.int IntKind.i64 0, Value.int IntKind.i64 0, Value.int IntKind.i64 1, Value.int IntKind.i64 2, Value.int IntKind.i64 0, Value.int IntKind.i64 1, Value.int IntKind.i64 0, Value.int IntKind.i64 3, Value.int IntKind.i64 0, Value.int IntKind.i64 2, Value.int IntKind.i64 3, Value.int IntKind.i64 1]) (Value.int IntKind.i64 0)) w = Result.ok (Value.agg #[Value.int IntKind.i64 0, Value.int IntKind.i64 0, Value.int IntKind.i64 0, Value.int IntKind.i64 0]) w := by kernel_rfl
theorem idxB00 (w : World) : Sem.run Tryz.prog (Instr.index 100 (Value.agg #[Value.int IntKind.i64 0, Value.int IntKind.i64 0, Value.int IntKind.i64 0, Value.int IntKind.i64 0]) (Value.int IntKind.i64 0)) w = Result.ok (Value.int IntKind.i64 0) w := by kernel_rfl
theorem idxB01 (w : World) : Sem.run Tryz.prog (Instr.index 100 (Value.agg #[Value.int IntKind.i64 0, Value.int IntKind.i64 0, Value.int IntKind.i64 0, Value.int IntKind.i64 0]) (Value.int IntKind.i64 1)) w = Result.ok (Value.int IntKind.i64 0) w := by kernel_rfl
theorem idxB02 (w : World) : Sem.run Tryz.prog (Instr.index 100 (Value.agg #[Value.int IntKind.i64 0, Value.int IntKind.i64 0, Value.int IntKind.i64 0, Value.int IntKind.i64 0]) (Value.int IntKind.i64 2)) w = Result.ok (Value.int IntKind.i64 0) w := by kernel_rfl
theorem idxB03 (w : World) : Sem.run Tryz.prog (Instr.index 100 (Value.agg #[Value.int IntKind.i64 0, Value.int IntKind.i64 0, Value.int IntKind.i64 0, Value.int IntKind.i64 0]) (Value.int IntKind.i64 3)) w = Result.ok (Value.int IntKind.i64 0) w := by kernel_rfl
theorem idxA1 (w : World) : Sem.run Tryz.prog (Instr.index 101 (Value.agg #[Value.int IntKind.i64 0, Value.int IntKind.i64 0, Value.int IntKind.i64 0, Value.int IntKind.i64 0, Value.int IntKind.i64 0, Value.int IntKind.i64 0, Value.int IntKind.i64 1, Value.int IntKind.i64 2, Value.int IntKind.i64 0, Value.int IntKind.i64 1, Value.int IntKind.i64 0, Value.int IntKind.i64 3, Value.int IntKind.i64 0, Value.int IntKind.i64 2, Value.int IntKind.i64 3, Value.int IntKind.i64 1]) (Value.int IntKind.i64 1)) w = Result.ok (Value.agg #[Value.int IntKind.i64 0, Value.int IntKind.i64 0, Value.int IntKind.i64 1, Value.int IntKind.i64 2]) w := by kernel_rfl
theorem idxB10 (w : World) : Sem.run Tryz.prog (Instr.index 100 (Value.agg #[Value.int IntKind.i64 0, Value.int IntKind.i64 0, Value.int IntKind.i64 1, Value.int IntKind.i64 2]) (Value.int IntKind.i64 0)) w = Result.ok (Value.int IntKind.i64 0) w := by kernel_rfl
theorem idxB11 (w : World) : Sem.run Tryz.prog (Instr.index 100 (Value.agg #[Value.int IntKind.i64 0, Value.int IntKind.i64 0, Value.int IntKind.i64 1, Value.int IntKind.i64 2]) (Value.int IntKind.i64 1)) w = Result.ok (Value.int IntKind.i64 0) w := by kernel_rfl
theorem idxB12 (w : World) : Sem.run Tryz.prog (Instr.index 100 (Value.agg #[Value.int IntKind.i64 0, Value.int IntKind.i64 0, Value.int IntKind.i64 1, Value.int IntKind.i64 2]) (Value.int IntKind.i64 2)) w = Result.ok (Value.int IntKind.i64 1) w := by kernel_rfl
theorem idxB13 (w : World) : Sem.run Tryz.prog (Instr.index 100 (Value.agg #[Value.int IntKind.i64 0, Value.int IntKind.i64 0, Value.int IntKind.i64 1, Value.int IntKind.i64 2]) (Value.int IntKind.i64 3)) w = Result.ok (Value.int IntKind.i64 2) w := by kernel_rfl
theorem idxA2 (w : World) : Sem.run Tryz.prog (Instr.index 101 (Value.agg #[Value.int IntKind.i64 0, Value.int IntKind.i64 0, Value.int IntKind.i64 0, Value.int IntKind.i64 0, Value.int IntKind.i64 0, Value.int IntKind.i64 0, Value.int IntKind.i64 1, Value.int IntKind.i64 2, Value.int IntKind.i64 0, Value.int IntKind.i64 1, Value.int IntKind.i64 0, Value.int IntKind.i64 3, Value.int IntKind.i64 0, Value.int IntKind.i64 2, Value.int IntKind.i64 3, Value.int IntKind.i64 1]) (Value.int IntKind.i64 2)) w = Result.ok (Value.agg #[Value.int IntKind.i64 0, Value.int IntKind.i64 1, Value.int IntKind.i64 0, Value.int IntKind.i64 3]) w := by kernel_rfl
theorem idxB20 (w : World) : Sem.run Tryz.prog (Instr.index 100 (Value.agg #[Value.int IntKind.i64 0, Value.int IntKind.i64 1, Value.int IntKind.i64 0, Value.int IntKind.i64 3]) (Value.int IntKind.i64 0)) w = Result.ok (Value.int IntKind.i64 0) w := by kernel_rfl
theorem idxB21 (w : World) : Sem.run Tryz.prog (Instr.index 100 (Value.agg #[Value.int IntKind.i64 0, Value.int IntKind.i64 1, Value.int IntKind.i64 0, Value.int IntKind.i64 3]) (Value.int IntKind.i64 1)) w = Result.ok (Value.int IntKind.i64 1) w := by kernel_rfl
theorem idxB22 (w : World) : Sem.run Tryz.prog (Instr.index 100 (Value.agg #[Value.int IntKind.i64 0, Value.int IntKind.i64 1, Value.int IntKind.i64 0, Value.int IntKind.i64 3]) (Value.int IntKind.i64 2)) w = Result.ok (Value.int IntKind.i64 0) w := by kernel_rfl
theorem idxB23 (w : World) : Sem.run Tryz.prog (Instr.index 100 (Value.agg #[Value.int IntKind.i64 0, Value.int IntKind.i64 1, Value.int IntKind.i64 0, Value.int IntKind.i64 3]) (Value.int IntKind.i64 3)) w = Result.ok (Value.int IntKind.i64 3) w := by kernel_rfl
theorem idxA3 (w : World) : Sem.run Tryz.prog (Instr.index 101 (Value.agg #[Value.int IntKind.i64 0, Value.int IntKind.i64 0, Value.int IntKind.i64 0, Value.int IntKind.i64 0, Value.int IntKind.i64 0, Value.int IntKind.i64 0, Value.int IntKind.i64 1, Value.int IntKind.i64 2, Value.int IntKind.i64 0, Value.int IntKind.i64 1, Value.int IntKind.i64 0, Value.int IntKind.i64 3, Value.int IntKind.i64 0, Value.int IntKind.i64 2, Value.int IntKind.i64 3, Value.int IntKind.i64 1]) (Value.int IntKind.i64 3)) w = Result.ok (Value.agg #[Value.int IntKind.i64 0, Value.int IntKind.i64 2, Value.int IntKind.i64 3, Value.int IntKind.i64 1]) w := by kernel_rfl
theorem idxB30 (w : World) : Sem.run Tryz.prog (Instr.index 100 (Value.agg #[Value.int IntKind.i64 0, Value.int IntKind.i64 2, Value.int IntKind.i64 3, Value.int IntKind.i64 1]) (Value.int IntKind.i64 0)) w = Result.ok (Value.int IntKind.i64 0) w := by kernel_rfl
theorem idxB31 (w : World) : Sem.run Tryz.prog (Instr.index 100 (Value.agg #[Value.int IntKind.i64 0, Value.int IntKind.i64 2, Value.int IntKind.i64 3, Value.int IntKind.i64 1]) (Value.int IntKind.i64 1)) w = Result.ok (Value.int IntKind.i64 2) w := by kernel_rfl
theorem idxB32 (w : World) : Sem.run Tryz.prog (Instr.index 100 (Value.agg #[Value.int IntKind.i64 0, Value.int IntKind.i64 2, Value.int IntKind.i64 3, Value.int IntKind.i64 1]) (Value.int IntKind.i64 2)) w = Result.ok (Value.int IntKind.i64 3) w := by kernel_rfl
theorem idxB33 (w : World) : Sem.run Tryz.prog (Instr.index 100 (Value.agg #[Value.int IntKind.i64 0, Value.int IntKind.i64 2, Value.int IntKind.i64 3, Value.int IntKind.i64 1]) (Value.int IntKind.i64 3)) w = Result.ok (Value.int IntKind.i64 1) w := by kernel_rfl
set_option maxHeartbeats 8000000 in
set_option maxRecDepth 100000 in
theorem implApartNeed (a b : Int) (w : World) (ha : 0 ≤ a ∧ a ≤ 3) (hb : 0 ≤ b ∧ b ≤ 3) : Calls Tryz.prog 39 #[.int .i64 a, .int .i64 b] w fun e w' => e = .returned (.int .i64 (needC a b)) ∧ ∃ q, w' = w.drewN q := by
  obtain rfl | rfl | rfl | rfl : a = 0 ∨ a = 1 ∨ a = 2 ∨ a = 3 := by omega
  · obtain rfl | rfl | rfl | rfl : b = 0 ∨ b = 1 ∨ b = 2 ∨ b = 3 := by omega
    · have i1 := idxA0; have i2 := idxB00
      go_enter Tryz.func39, Tryz.ntmps39
      go_wp2_with (go_at_call 56; (first | (with_reducible refine (within_true 0 0 3 _ (by decide) (by decide)).mono ?_) | (with_reducible refine (within_true 1 0 3 _ (by decide) (by decide)).mono ?_) | (with_reducible refine (within_true 2 0 3 _ (by decide) (by decide)).mono ?_) | (with_reducible refine (within_true 3 0 3 _ (by decide) (by decide)).mono ?_)); rintro e w' ⟨rfl, rfl⟩)
      go_ret
      exact ⟨rfl, 0, rfl⟩
    · have i1 := idxA0; have i2 := idxB01
      go_enter Tryz.func39, Tryz.ntmps39
      go_wp2_with (go_at_call 56; (first | (with_reducible refine (within_true 0 0 3 _ (by decide) (by decide)).mono ?_) | (with_reducible refine (within_true 1 0 3 _ (by decide) (by decide)).mono ?_) | (with_reducible refine (within_true 2 0 3 _ (by decide) (by decide)).mono ?_) | (with_reducible refine (within_true 3 0 3 _ (by decide) (by decide)).mono ?_)); rintro e w' ⟨rfl, rfl⟩)
      go_ret
      exact ⟨rfl, 0, rfl⟩
    · have i1 := idxA0; have i2 := idxB02
      go_enter Tryz.func39, Tryz.ntmps39
      go_wp2_with (go_at_call 56; (first | (with_reducible refine (within_true 0 0 3 _ (by decide) (by decide)).mono ?_) | (with_reducible refine (within_true 1 0 3 _ (by decide) (by decide)).mono ?_) | (with_reducible refine (within_true 2 0 3 _ (by decide) (by decide)).mono ?_) | (with_reducible refine (within_true 3 0 3 _ (by decide) (by decide)).mono ?_)); rintro e w' ⟨rfl, rfl⟩)
      go_ret
      exact ⟨rfl, 0, rfl⟩
    · have i1 := idxA0; have i2 := idxB03
      go_enter Tryz.func39, Tryz.ntmps39
      go_wp2_with (go_at_call 56; (first | (with_reducible refine (within_true 0 0 3 _ (by decide) (by decide)).mono ?_) | (with_reducible refine (within_true 1 0 3 _ (by decide) (by decide)).mono ?_) | (with_reducible refine (within_true 2 0 3 _ (by decide) (by decide)).mono ?_) | (with_reducible refine (within_true 3 0 3 _ (by decide) (by decide)).mono ?_)); rintro e w' ⟨rfl, rfl⟩)
      go_ret
      exact ⟨rfl, 0, rfl⟩
  · obtain rfl | rfl | rfl | rfl : b = 0 ∨ b = 1 ∨ b = 2 ∨ b = 3 := by omega
    · have i1 := idxA1; have i2 := idxB10
      go_enter Tryz.func39, Tryz.ntmps39
      go_wp2_with (go_at_call 56; (first | (with_reducible refine (within_true 0 0 3 _ (by decide) (by decide)).mono ?_) | (with_reducible refine (within_true 1 0 3 _ (by decide) (by decide)).mono ?_) | (with_reducible refine (within_true 2 0 3 _ (by decide) (by decide)).mono ?_) | (with_reducible refine (within_true 3 0 3 _ (by decide) (by decide)).mono ?_)); rintro e w' ⟨rfl, rfl⟩)
      go_ret
      exact ⟨rfl, 0, rfl⟩
    · have i1 := idxA1; have i2 := idxB11
      go_enter Tryz.func39, Tryz.ntmps39
      go_wp2_with (go_at_call 56; (first | (with_reducible refine (within_true 0 0 3 _ (by decide) (by decide)).mono ?_) | (with_reducible refine (within_true 1 0 3 _ (by decide) (by decide)).mono ?_) | (with_reducible refine (within_true 2 0 3 _ (by decide) (by decide)).mono ?_) | (with_reducible refine (within_true 3 0 3 _ (by decide) (by decide)).mono ?_)); rintro e w' ⟨rfl, rfl⟩)
      go_ret
      exact ⟨rfl, 0, rfl⟩
    · have i1 := idxA1; have i2 := idxB12
      go_enter Tryz.func39, Tryz.ntmps39
      go_wp2_with (go_at_call 56; (first | (with_reducible refine (within_true 0 0 3 _ (by decide) (by decide)).mono ?_) | (with_reducible refine (within_true 1 0 3 _ (by decide) (by decide)).mono ?_) | (with_reducible refine (within_true 2 0 3 _ (by decide) (by decide)).mono ?_) | (with_reducible refine (within_true 3 0 3 _ (by decide) (by decide)).mono ?_)); rintro e w' ⟨rfl, rfl⟩)
      go_ret
      exact ⟨rfl, 0, rfl⟩
    · have i1 := idxA1; have i2 := idxB13
      go_enter Tryz.func39, Tryz.ntmps39
      go_wp2_with (go_at_call 56; (first | (with_reducible refine (within_true 0 0 3 _ (by decide) (by decide)).mono ?_) | (with_reducible refine (within_true 1 0 3 _ (by decide) (by decide)).mono ?_) | (with_reducible refine (within_true 2 0 3 _ (by decide) (by decide)).mono ?_) | (with_reducible refine (within_true 3 0 3 _ (by decide) (by decide)).mono ?_)); rintro e w' ⟨rfl, rfl⟩)
      go_ret
      exact ⟨rfl, 0, rfl⟩
  · obtain rfl | rfl | rfl | rfl : b = 0 ∨ b = 1 ∨ b = 2 ∨ b = 3 := by omega
    · have i1 := idxA2; have i2 := idxB20
      go_enter Tryz.func39, Tryz.ntmps39
      go_wp2_with (go_at_call 56; (first | (with_reducible refine (within_true 0 0 3 _ (by decide) (by decide)).mono ?_) | (with_reducible refine (within_true 1 0 3 _ (by decide) (by decide)).mono ?_) | (with_reducible refine (within_true 2 0 3 _ (by decide) (by decide)).mono ?_) | (with_reducible refine (within_true 3 0 3 _ (by decide) (by decide)).mono ?_)); rintro e w' ⟨rfl, rfl⟩)
      go_ret
      exact ⟨rfl, 0, rfl⟩
    · have i1 := idxA2; have i2 := idxB21
      go_enter Tryz.func39, Tryz.ntmps39
      go_wp2_with (go_at_call 56; (first | (with_reducible refine (within_true 0 0 3 _ (by decide) (by decide)).mono ?_) | (with_reducible refine (within_true 1 0 3 _ (by decide) (by decide)).mono ?_) | (with_reducible refine (within_true 2 0 3 _ (by decide) (by decide)).mono ?_) | (with_reducible refine (within_true 3 0 3 _ (by decide) (by decide)).mono ?_)); rintro e w' ⟨rfl, rfl⟩)
      go_ret
      exact ⟨rfl, 0, rfl⟩
    · have i1 := idxA2; have i2 := idxB22
      go_enter Tryz.func39, Tryz.ntmps39
      go_wp2_with (go_at_call 56; (first | (with_reducible refine (within_true 0 0 3 _ (by decide) (by decide)).mono ?_) | (with_reducible refine (within_true 1 0 3 _ (by decide) (by decide)).mono ?_) | (with_reducible refine (within_true 2 0 3 _ (by decide) (by decide)).mono ?_) | (with_reducible refine (within_true 3 0 3 _ (by decide) (by decide)).mono ?_)); rintro e w' ⟨rfl, rfl⟩)
      go_ret
      exact ⟨rfl, 0, rfl⟩
    · have i1 := idxA2; have i2 := idxB23
      go_enter Tryz.func39, Tryz.ntmps39
      go_wp2_with (go_at_call 56; (first | (with_reducible refine (within_true 0 0 3 _ (by decide) (by decide)).mono ?_) | (with_reducible refine (within_true 1 0 3 _ (by decide) (by decide)).mono ?_) | (with_reducible refine (within_true 2 0 3 _ (by decide) (by decide)).mono ?_) | (with_reducible refine (within_true 3 0 3 _ (by decide) (by decide)).mono ?_)); rintro e w' ⟨rfl, rfl⟩)
      go_ret
      exact ⟨rfl, 0, rfl⟩
  · obtain rfl | rfl | rfl | rfl : b = 0 ∨ b = 1 ∨ b = 2 ∨ b = 3 := by omega
    · have i1 := idxA3; have i2 := idxB30
      go_enter Tryz.func39, Tryz.ntmps39
      go_wp2_with (go_at_call 56; (first | (with_reducible refine (within_true 0 0 3 _ (by decide) (by decide)).mono ?_) | (with_reducible refine (within_true 1 0 3 _ (by decide) (by decide)).mono ?_) | (with_reducible refine (within_true 2 0 3 _ (by decide) (by decide)).mono ?_) | (with_reducible refine (within_true 3 0 3 _ (by decide) (by decide)).mono ?_)); rintro e w' ⟨rfl, rfl⟩)
      go_ret
      exact ⟨rfl, 0, rfl⟩
    · have i1 := idxA3; have i2 := idxB31
      go_enter Tryz.func39, Tryz.ntmps39
      go_wp2_with (go_at_call 56; (first | (with_reducible refine (within_true 0 0 3 _ (by decide) (by decide)).mono ?_) | (with_reducible refine (within_true 1 0 3 _ (by decide) (by decide)).mono ?_) | (with_reducible refine (within_true 2 0 3 _ (by decide) (by decide)).mono ?_) | (with_reducible refine (within_true 3 0 3 _ (by decide) (by decide)).mono ?_)); rintro e w' ⟨rfl, rfl⟩)
      go_ret
      exact ⟨rfl, 0, rfl⟩
    · have i1 := idxA3; have i2 := idxB32
      go_enter Tryz.func39, Tryz.ntmps39
      go_wp2_with (go_at_call 56; (first | (with_reducible refine (within_true 0 0 3 _ (by decide) (by decide)).mono ?_) | (with_reducible refine (within_true 1 0 3 _ (by decide) (by decide)).mono ?_) | (with_reducible refine (within_true 2 0 3 _ (by decide) (by decide)).mono ?_) | (with_reducible refine (within_true 3 0 3 _ (by decide) (by decide)).mono ?_)); rintro e w' ⟨rfl, rfl⟩)
      go_ret
      exact ⟨rfl, 0, rfl⟩
    · have i1 := idxA3; have i2 := idxB33
      go_enter Tryz.func39, Tryz.ntmps39
      go_wp2_with (go_at_call 56; (first | (with_reducible refine (within_true 0 0 3 _ (by decide) (by decide)).mono ?_) | (with_reducible refine (within_true 1 0 3 _ (by decide) (by decide)).mono ?_) | (with_reducible refine (within_true 2 0 3 _ (by decide) (by decide)).mono ?_) | (with_reducible refine (within_true 3 0 3 _ (by decide) (by decide)).mono ?_)); rintro e w' ⟨rfl, rfl⟩)
      go_ret
      exact ⟨rfl, 0, rfl⟩
set_option maxHeartbeats 8000000 in
set_option maxRecDepth 100000 in
theorem specApartNeed (a b : Int) (w : World) (ha : 0 ≤ a ∧ a ≤ 3) (hb : 0 ≤ b ∧ b ≤ 3) : Calls Tryz.prog 69 #[.int .i64 a, .int .i64 b] w fun e w' => e = .returned (.int .i64 (needC a b)) ∧ w = w' := by
  obtain rfl | rfl | rfl | rfl : a = 0 ∨ a = 1 ∨ a = 2 ∨ a = 3 := by omega
  all_goals (obtain rfl | rfl | rfl | rfl : b = 0 ∨ b = 1 ∨ b = 2 ∨ b = 3 := by omega)
  all_goals (go_enter Tryz.func69, Tryz.ntmps69; go_wp2_with fail; go_ret; exact ⟨rfl, rfl⟩)
end Go.Proofs.YtbkfhcbecejomaaGreat
end
section
/- Ships: how far two slots are apart, the program. -/
namespace Go.Proofs.YtbkfhcbecejomaaGreat
open Go Go.ChangeShapes Go.WideShapes Go.ChangeAt Go.RowKit
set_option linter.unusedVariables false
theorem hulKeep {w W W' : World} {y0 y1 y2 : Int} (h : Below w.heap.size w W ∧ w.heap.size < W.heap.size ∧ W.cell? ⟨w.heap.size, 0, none⟩ = some (.int .i64 y0) ∧ W.cell? ⟨w.heap.size, 1, none⟩ = some (.int .i64 y1) ∧ W.cell? ⟨w.heap.size, 2, none⟩ = some (.int .i64 y2)) (hb : Below W.heap.size W W') :
    Below w.heap.size w W' ∧ w.heap.size < W'.heap.size ∧ W'.cell? ⟨w.heap.size, 0, none⟩ = some (.int .i64 y0) ∧ W'.cell? ⟨w.heap.size, 1, none⟩ = some (.int .i64 y1) ∧ W'.cell? ⟨w.heap.size, 2, none⟩ = some (.int .i64 y2) :=
  ⟨below_trans h.1 hb, Nat.lt_of_lt_of_le h.2.1 hb.size, (hb.cell (p := ⟨w.heap.size, 0, none⟩) h.2.1).trans h.2.2.1, (hb.cell (p := ⟨w.heap.size, 1, none⟩) h.2.1).trans h.2.2.2.1, (hb.cell (p := ⟨w.heap.size, 2, none⟩) h.2.1).trans h.2.2.2.2⟩
theorem hulNew (w : World) (y0 y1 y2 : Int) : Below w.heap.size w (w.alloc (.cells #[.int .i64 y0, .int .i64 y1, .int .i64 y2] 27)) ∧ w.heap.size < (w.alloc (.cells #[.int .i64 y0, .int .i64 y1, .int .i64 y2] 27)).heap.size ∧ (w.alloc (.cells #[.int .i64 y0, .int .i64 y1, .int .i64 y2] 27)).cell? ⟨w.heap.size, 0, none⟩ = some (.int .i64 y0) ∧ (w.alloc (.cells #[.int .i64 y0, .int .i64 y1, .int .i64 y2] 27)).cell? ⟨w.heap.size, 1, none⟩ = some (.int .i64 y1) ∧ (w.alloc (.cells #[.int .i64 y0, .int .i64 y1, .int .i64 y2] 27)).cell? ⟨w.heap.size, 2, none⟩ = some (.int .i64 y2) :=
  ⟨(Below.refl _ _).alloc (Nat.le_refl _) _, by simp, by simp, by simp, by simp⟩
set_option maxHeartbeats 2000000 in
theorem implApart (x : HullV) (a b : Int) (w : World) (hh : hullOk x = true) (ha : 0 ≤ a ∧ a ≤ 100) (hb : 0 ≤ b ∧ b ≤ 100) : Calls Tryz.prog 38 #[.agg #[.int .i64 x.f0, .int .i64 x.f1, .int .i64 x.f2], .int .i64 a, .int .i64 b] w fun e w' => e = .returned (.int .i64 (apartH x a b)) ∧ Below w.heap.size w w' := by
  obtain ⟨y0, y1, y2⟩ := x
  have hA := fun W => implBay ⟨y0, y1, y2⟩ a W hh ha.1 ha.2
  have hB := fun W => implBay ⟨y0, y1, y2⟩ b W hh hb.1 hb.2
  have sA := fun W => implStack ⟨y0, y1, y2⟩ a W hh ha.1 ha.2
  have sB := fun W => implStack ⟨y0, y1, y2⟩ b W hh hb.1 hb.2
  obtain ⟨⟨a1, a2⟩, ⟨b1, b2⟩, c1, c2⟩ := hullOk_iff.1 hh
  dsimp only at *
  have pa := Int.ediv_nonneg ha.1 (show 0 ≤ y2 by omega)
  have pb := Int.ediv_nonneg hb.1 (show 0 ≤ y2 by omega)
  have pc := Int.ediv_nonneg pa (show 0 ≤ y1 by omega)
  have pd := Int.ediv_nonneg pb (show 0 ≤ y1 by omega)
  have qa := Int.ediv_le_self y2 ha.1
  have qb := Int.ediv_le_self y2 hb.1
  have qc := Int.ediv_le_self y1 pa
  have qd := Int.ediv_le_self y1 pb
  have HR : Hid (apartH ⟨y0, y1, y2⟩ a b = if a / y2 = b / y2 then 0 else if a / y2 / y1 = b / y2 / y1 then 1 else if a / y2 / y1 - b / y2 / y1 = 1 ∨ a / y2 / y1 - b / y2 / y1 = -1 then 2 else 3) := Lib.hid rfl
  generalize a / y2 / y1 = ba at *
  generalize b / y2 / y1 = bb at *
  generalize a / y2 = sa at *
  generalize b / y2 = sb at *
  have K0 := hulNew w y0 y1 y2
  go_enter Tryz.func38, Tryz.ntmps38
  go_wp2_with fail
  go_region_held3 (fun W => Below w.heap.size w W ∧ w.heap.size < W.heap.size ∧ W.cell? ⟨w.heap.size, 0, none⟩ = some (.int .i64 y0) ∧ W.cell? ⟨w.heap.size, 1, none⟩ = some (.int .i64 y1) ∧ W.cell? ⟨w.heap.size, 2, none⟩ = some (.int .i64 y2))
    (first | assumption | exact kA | exact kB | exact hulKeep (by assumption) (Below.drew (Below.refl _ _)))
    (first
      | (go_at_call 80; (with_reducible refine (hA _).mono ?_); rintro e w5 ⟨rfl, h5⟩; have kA := hulKeep (by assumption) h5; clear h5)
      | (go_at_call 80; (with_reducible refine (hB _).mono ?_); rintro e w6 ⟨rfl, h6⟩; have kB := hulKeep (by assumption) h6; clear h6))
  go_wp2_with fail
  clear hA hB kA K0
  go_region_held3 (fun W => Below w.heap.size w W ∧ w.heap.size < W.heap.size ∧ W.cell? ⟨w.heap.size, 0, none⟩ = some (.int .i64 y0) ∧ W.cell? ⟨w.heap.size, 1, none⟩ = some (.int .i64 y1) ∧ W.cell? ⟨w.heap.size, 2, none⟩ = some (.int .i64 y2))
    (first | assumption | exact kC | exact kD | exact hulKeep (by assumption) (Below.drew (Below.refl _ _)))
    (first
      | (go_at_call 81; (with_reducible refine (sA _).mono ?_); rintro e w7 ⟨rfl, h7⟩; have kC := hulKeep (by assumption) h7; clear h7)
      | (go_at_call 81; (with_reducible refine (sB _).mono ?_); rintro e w8 ⟨rfl, h8⟩; have kD := hulKeep (by assumption) h8; clear h8))
  clear sA sB kC
  obtain ⟨z1, z2, z3, z4, z5⟩ := kD
  have Z1 := Lib.hid z1
  clear z1
  have wr : IntKind.i64.wrap (ba - bb) = ba - bb := by
    rw [IntKind.wrap_i64]
    omega
  rw [wr]
  clear wr
  by_cases e1 : sa = sb
  · have H1 : Hid (apartH ⟨y0, y1, y2⟩ a b = 0) := Lib.hid (by rw [HR.out, if_pos e1])
    clear HR
    subst e1
    go_wp2_with fail
    go_ret
    exact ⟨by rw [H1.out]; rfl, Z1.out⟩
  · by_cases e2 : ba = bb
    · have H1 : Hid (apartH ⟨y0, y1, y2⟩ a b = 1) := Lib.hid (by rw [HR.out, if_neg e1, if_pos e2])
      clear HR
      have e0 : ba - bb = 0 := by omega
      rw [e0]
      clear e2 e0
      go_wp2_with fail
      go_ret
      exact ⟨by rw [H1.out]; rfl, Z1.out⟩
    · have e0 : ¬ (ba - bb = 0) := by omega
      by_cases e3 : ba - bb = 1
      · have H1 : Hid (apartH ⟨y0, y1, y2⟩ a b = 2) := Lib.hid (by rw [HR.out, if_neg e1, if_neg e2, if_pos (.inl e3)])
        clear HR e2 e0
        rw [e3]
        clear e3
        go_wp2_with fail
        go_ret
        exact ⟨by rw [H1.out]; rfl, Z1.out⟩
      · by_cases e4 : ba - bb = -1
        · have H1 : Hid (apartH ⟨y0, y1, y2⟩ a b = 2) := Lib.hid (by rw [HR.out, if_neg e1, if_neg e2, if_pos (.inr e4)])
          clear HR e2 e0 e3
          rw [e4]
          clear e4
          go_wp2_with fail
          go_ret
          exact ⟨by rw [H1.out]; rfl, Z1.out⟩
        · have H1 : Hid (apartH ⟨y0, y1, y2⟩ a b = 3) := Lib.hid (by rw [HR.out, if_neg e1, if_neg e2, if_neg (by omega)])
          clear HR e2
          generalize ba - bb = d at *
          have g1 : (d == 1) = false := by simp [e3]
          have g2 : (d == -1) = false := by simp [e4]
          have g3 : decide (d = 1) = false := decide_eq_false e3
          have g4 : decide (d = -1) = false := decide_eq_false e4
          have g0 : (d == 0) = false := by simp [e0]
          go_wp2_with fail
          go_ret
          exact ⟨by rw [H1.out]; rfl, Z1.out⟩
end Go.Proofs.YtbkfhcbecejomaaGreat
end
section
/- Lists of Box: marking them, reading the marks. -/
namespace Go.Proofs.YtbkfhcbecejomaaGreat
open Go Go.ChangeShapes Go.WideShapes Go.ChangeAt Go.RowKit
def marksX (k : Int) (n : Nat) : List BoxV := (List.range n).map fun (i : Nat) => ⟨k + ((5 * i : Nat) : Int), k + ((5 * i : Nat) : Int) + 1, k + ((5 * i : Nat) : Int) + 1 + 1, k + ((5 * i : Nat) : Int) + 1 + 1 + 1, (k + ((5 * i : Nat) : Int) + 1 + 1 + 1 + 1) % 3 == 0⟩
theorem marksX_len (k : Int) (n : Nat) : (marksX k n).length = n := by simp [marksX]
theorem marksX_succ (k : Int) (n : Nat) : marksX k (n + 1) = marksX k n ++ [⟨k + ((5 * n : Nat) : Int), k + ((5 * n : Nat) : Int) + 1, k + ((5 * n : Nat) : Int) + 1 + 1, k + ((5 * n : Nat) : Int) + 1 + 1 + 1, (k + ((5 * n : Nat) : Int) + 1 + 1 + 1 + 1) % 3 == 0⟩] := by simp [marksX, List.range_succ]
theorem marksX_at (k : Int) (n j : Nat) (h : j < (marksX k n).length) : (marksX k n)[j] = ⟨k + ((5 * j : Nat) : Int), k + ((5 * j : Nat) : Int) + 1, k + ((5 * j : Nat) : Int) + 1 + 1, k + ((5 * j : Nat) : Int) + 1 + 1 + 1, (k + ((5 * j : Nat) : Int) + 1 + 1 + 1 + 1) % 3 == 0⟩ := by simp [marksX]
theorem boxs_append (a b : List BoxV) : boxs (a ++ b) = boxs a ++ boxs b := cellsOf_append _ _ _
theorem boxs_one (a : BoxV) : boxs [a] = [.int .i64 a.f0, .int .i64 a.f1, .int .i64 a.f2, .int .i64 a.f3, .bool a.f4] := cellsOf_one _ _
theorem set_f5 (a r : List Value) (x0 x1 x2 x3 x4 y0 y1 y2 y3 y4 : Value) (o : Nat) (ho : a.length = o) : (((((a ++ ([x0, x1, x2, x3, x4] ++ r)).set (o) y0).set (o + 1) y1).set (o + 2) y2).set (o + 3) y3).set (o + 4) y4 = a ++ ([y0, y1, y2, y3, y4] ++ r) := by
  subst ho
  simp [List.set_append_right]
end Go.Proofs.YtbkfhcbecejomaaGreat
end
section
/- Valid boxes, FindBox: both programs return the plain word. -/
namespace Go.Proofs.YtbkfhcbecejomaaGreat
open Go Go.ChangeShapes Go.WideShapes Go.ChangeAt Go.RowKit
set_option linter.unusedVariables false
theorem RdV.boxTake {w : World} {A : Option Addr} {zs : List BoxV} (h : RdV w A (boxs zs)) (k : Nat) : RdV w A (boxs (zs.take k)) := by
  rcases h with h | ⟨b, o, rfl, hl, hc⟩
  · left
    have : zs = [] := by
      have := boxs_len zs
      rw [h] at this
      simp at this
      exact List.eq_nil_of_length_eq_zero (by omega)
    rw [this]; simp [boxs, cellsOf]
  · refine .inr ⟨b, o, rfl, hl, fun j hj => ?_⟩
    have he : boxs zs = boxs (zs.take k) ++ boxs (zs.drop k) := by rw [← boxs_append, List.take_append_drop]
    have hj2 : j < (boxs zs).length := by rw [he, List.length_append]; omega
    rw [hc j hj2]
    congr 1
    have : (boxs zs)[j]? = (boxs (zs.take k))[j]? := by rw [he, List.getElem?_append_left hj]
    rw [List.getElem?_eq_getElem hj2, List.getElem?_eq_getElem hj] at this
    injection this
set_option maxHeartbeats 2000000 in
theorem specBoxesValid (A : Option Addr) (n c : Nat) (zs : List BoxV) (w : World) (hn : zs.length = n) (hr : RdV w A (boxs zs)) (hm : n ≤ 1099511627776) :
    Calls Tryz.prog 65 #[.slice A n c] w fun e w' => e = .returned (.bool (boxesOk zs)) ∧ Below w.heap.size w w' := by
  have HN := Lib.hid hn
  clear hn
  go_enter Tryz.func65, Tryz.ntmps65
  go_wp2_with fail
  go_loopw [3] (fun i wr => ∃ k : Nat, k ≤ n ∧ i = .int .i64 k ∧ Hid (okGo [] zs = okGo (zs.take k) (zs.drop k)) ∧ Below w.heap.size w wr) (fun i _ => n - (intOf i).toNat)
  case atStart => exact ⟨0, Nat.zero_le _, rfl, Lib.hid (by simp), Below.refl _ _⟩
  case round =>
    obtain ⟨k, hk, rfl, HJ, hb⟩ := hrel
    by_cases hlt : k < n
    · have hkz : k < zs.length := by rw [HN.out]; exact hlt
      obtain ⟨b, o, rfl, hl, c0, c1, c2, c3, c4⟩ := (hr.below hb).boxAt hkz
      have hst := okGo_at hkz
      rw [← HJ.out] at hst
      have HST := Lib.hid hst
      have HLT := Lib.hid (findF_lt hkz)
      have hV := specBoxValid (zs[k]) wr
      have hF := fun (W : World) (hW : Below wr.heap.size wr W) => l2Find_any (some ⟨b, o, none⟩) n c zs (zs[k]).f0 W HN.out (hr.below (below_trans hb hW)) (by omega)
      have hki : (k : Int) < (n : Int) := by omega
      generalize zs[k] = y at *
      obtain ⟨y0, y1, y2, y3, y4⟩ := y
      dsimp only at c0 c1 c2 c3 c4 HLT hV hF HST
      clear hst
      have d0 : ∀ W : World, Below wr.heap.size wr W → W.cell? ⟨b, o + k * 5, none⟩ = some (.int .i64 y0) := fun W hW => (hW.cell (p := ⟨b, o + k * 5, none⟩) hl).trans c0
      cases hbv : bOk ⟨y0, y1, y2, y3, y4⟩ with
      | false =>
        have HF2 : Hid (boxesOk zs = false) := Lib.hid (by unfold boxesOk; rw [HST.out, hbv]; rfl)
        rw [hbv] at hV
        clear hbv
        go_wp2_with (go_at_call 94; refine hV.mono ?_; rintro e w2 ⟨rfl, hb2⟩)
        go_ret
        exact ⟨by rw [HF2.out]; rfl, below_trans hb hb2⟩
      | true =>
        rw [hbv] at hV
        generalize hid : idxI (findF zs y0) = iv at *
        have HID := Lib.hid hid
        clear hid
        by_cases hlk : iv < (k : Int)
        · have HF2 : Hid (boxesOk zs = false) := Lib.hid (by unfold boxesOk; rw [HST.out, ← HLT.out, decide_eq_true hlk]; simp)
          clear hbv
          go_wp2_with fail
          refine hV.mono ?_
          rintro e w2 ⟨rfl, hb2⟩
          have e0 := d0 w2 hb2
          have hF3 := hF w2 hb2
          clear hF hV
          go_wp2_with (go_at_call 31; refine hF3.mono ?_; rintro e w3 ⟨rfl, rfl⟩)
          go_ret
          exact ⟨by rw [HF2.out]; rfl, below_trans hb hb2⟩
        · have HG : Hid (okGo [] zs = okGo (zs.take (k + 1)) (zs.drop (k + 1))) := Lib.hid (by rw [HST.out, ← HLT.out, decide_eq_false hlk, hbv]; rfl)
          clear hbv
          go_wp2_with fail
          refine hV.mono ?_
          rintro e w2 ⟨rfl, hb2⟩
          have e0 := d0 w2 hb2
          have hF3 := hF w2 hb2
          clear hF hV
          go_wp2_with (go_at_call 31; refine hF3.mono ?_; rintro e w3 ⟨rfl, rfl⟩)
          go_roundw
          case rel => exact ⟨k + 1, by omega, by go_num, HG, below_trans hb hb2⟩
          case measure => simp [intOf]; omega
    · obtain rfl : k = n := by omega
      have HE : Hid (boxesOk zs = decide ((k : Int) ≤ 10)) := Lib.hid (by
        unfold boxesOk
        rw [HJ.out, List.drop_of_length_le (by rw [HN.out]; exact Nat.le_refl _), HN.out]
        by_cases h : k ≤ 10
        · rw [decide_eq_true h, decide_eq_true (by omega : (k : Int) ≤ 10)]; rfl
        · rw [decide_eq_false h, decide_eq_false (by omega : ¬ (k : Int) ≤ 10)]; rfl)
      go_wp2_with fail
      go_ret
      exact ⟨by rw [HE.out]; rfl, hb⟩
set_option maxHeartbeats 4000000 in
theorem implBoxesValid (A : Option Addr) (n c : Nat) (zs : List BoxV) (w : World) (hn : zs.length = n) (hr : RdV w A (boxs zs)) (hnc : n ≤ c) (hm : n ≤ 1099511627776) :
    Calls Tryz.prog 42 #[.slice A n c] w fun e w' => e = .returned (.bool (boxesOk zs)) ∧ Below w.heap.size w w' := by
  have HN := Lib.hid hn
  clear hn
  go_enter Tryz.func42, Tryz.ntmps42
  go_wp2_with fail
  go_loopw [7, 3, 4] (fun i _ _ wr => ∃ k : Nat, k ≤ n ∧ i = .int .i64 k ∧ Hid (okGo [] zs = okGo (zs.take k) (zs.drop k)) ∧ Below w.heap.size w wr) (fun i _ _ _ => n - (intOf i).toNat)
  case atStart => exact ⟨0, Nat.zero_le _, rfl, Lib.hid (by simp), Below.refl _ _⟩
  case round =>
    obtain ⟨k, hk, rfl, HJ, hb⟩ := hrel
    by_cases hlt : k < n
    · have hkz : k < zs.length := by rw [HN.out]; exact hlt
      obtain ⟨b, o, rfl, hl, c0, c1, c2, c3, c4⟩ := (hr.below hb).boxAt hkz
      have hst := okGo_at hkz
      rw [← HJ.out] at hst
      have HST := Lib.hid hst
      have HTL : (zs.take k).length = k := by rw [List.length_take]; omega
      have hV := fun W => implBoxValid (zs[k]) W
      have hF := fun (W : World) (hW : Below wr.heap.size wr W) => boxAt_any (some ⟨b, o, none⟩) k c (zs.take k) (zs[k]).f0 W HTL ((hr.below (below_trans hb hW)).boxTake k) (by omega)
      have hHS := findF_has (zs := zs.take k) (id := (zs[k]).f0)
      have hki : (k : Int) < (n : Int) := by omega
      have hkc : (k : Int) ≤ (c : Int) := by omega
      generalize zs[k] = y at *
      obtain ⟨y0, y1, y2, y3, y4⟩ := y
      dsimp only at c0 c1 c2 c3 c4 hV hF HST hHS
      clear hst HTL
      have hal : Below wr.heap.size wr (wr.alloc (.cells #[.int .i64 y0, .int .i64 y1, .int .i64 y2, .int .i64 y3, .bool y4] 79)) := (Below.refl _ _).alloc (Nat.le_refl _) _
      have H2 : Blk (wr.alloc (.cells #[.int .i64 y0, .int .i64 y1, .int .i64 y2, .int .i64 y3, .bool y4] 79)) wr.heap.size 79 [.int .i64 y0, .int .i64 y1, .int .i64 y2, .int .i64 y3, .bool y4] := Blk.new _ _ _
      have HB2 := Lib.hid (below_trans hb hal)
      have hF := fun (W : World) (hW : Below _ _ W) => hF W (below_trans hal hW)
      clear hb hal
      go_wp2_with fail
      generalize wr.alloc (.cells #[.int .i64 y0, .int .i64 y1, .int .i64 y2, .int .i64 y3, .bool y4] 79) = w4 at *
      have d0 : ∀ p : BelW w4, p.W.cell? ⟨wr.heap.size, 0, none⟩ = some (.int .i64 y0) := fun p => (H2.belw p).cellAt 0 (by simp)
      have d1 : ∀ p : BelW w4, p.W.cell? ⟨wr.heap.size, 1, none⟩ = some (.int .i64 y1) := fun p => (H2.belw p).cellAt 1 (by simp)
      have d2 : ∀ p : BelW w4, p.W.cell? ⟨wr.heap.size, 2, none⟩ = some (.int .i64 y2) := fun p => (H2.belw p).cellAt 2 (by simp)
      have d3 : ∀ p : BelW w4, p.W.cell? ⟨wr.heap.size, 3, none⟩ = some (.int .i64 y3) := fun p => (H2.belw p).cellAt 3 (by simp)
      have d4 : ∀ p : BelW w4, p.W.cell? ⟨wr.heap.size, 4, none⟩ = some (.bool y4) := fun p => (H2.belw p).cellAt 4 (by simp)
      clear c0 c1 c2 c3 c4 H2
      cases hbv : bOk ⟨y0, y1, y2, y3, y4⟩ with
      | false =>
        have HF2 : Hid (boxesOk zs = false) := Lib.hid (by unfold boxesOk; rw [HST.out, hbv]; rfl)
        rw [hbv] at hV
        clear hbv hHS
        refine wp_region_below (by kernel_rfl) (by kernel_rfl) ?_
        repeat (go_big_quiet_step ((first | (go_at_call 82; exact calls_below (hV _)) | (go_at_call 22; exact calls_below (hF _ (BelW.ok _))))))
        refine wpQuiet_nil ?_
        intro _ hw'
        obtain ⟨⟨wq, hbq⟩, hw''⟩ := hw'
        subst hw''
        have HBQ := Lib.hid (below_trans HB2.out hbq)
        clear hbq hV hF
        go_wp2_with fail
        go_ret
        exact ⟨by rw [HF2.out]; rfl, HBQ.out⟩
      | true =>
        rw [hbv] at hV
        generalize idxI (findF (zs.take k) y0) = iv at *
        cases hh : hasF (zs.take k) y0 with
        | true =>
          have HF2 : Hid (boxesOk zs = false) := Lib.hid (by unfold boxesOk; rw [HST.out, hh]; simp)
          rw [hh] at hHS
          clear hbv hh
          refine wp_region_below (by kernel_rfl) (by kernel_rfl) ?_
          repeat (go_big_quiet_step ((first | (go_at_call 82; exact calls_below (hV _)) | (go_at_call 22; exact calls_below (hF _ (BelW.ok _))))))
          refine wpQuiet_nil ?_
          intro _ hw'
          obtain ⟨⟨wq, hbq⟩, hw''⟩ := hw'
          subst hw''
          have HBQ := Lib.hid (below_trans HB2.out hbq)
          clear hbq hV hF
          go_wp2_with fail
          go_ret
          exact ⟨by rw [HF2.out]; rfl, HBQ.out⟩
        | false =>
          have HG : Hid (okGo [] zs = okGo (zs.take (k + 1)) (zs.drop (k + 1))) := Lib.hid (by rw [HST.out, hh, hbv]; rfl)
          rw [hh] at hHS
          clear hbv hh
          refine wp_region_below (by kernel_rfl) (by kernel_rfl) ?_
          repeat (go_big_quiet_step ((first | (go_at_call 82; exact calls_below (hV _)) | (go_at_call 22; exact calls_below (hF _ (BelW.ok _))))))
          refine wpQuiet_nil ?_
          intro _ hw'
          obtain ⟨⟨wq, hbq⟩, hw''⟩ := hw'
          subst hw''
          have HBQ := Lib.hid (below_trans HB2.out hbq)
          clear hbq hV hF
          go_wp2_with fail
          go_roundw
          case rel => exact ⟨k + 1, by omega, by go_num, HG, HBQ.out⟩
          case measure => simp [intOf]; omega
    · obtain rfl : k = n := by omega
      have HE : Hid (boxesOk zs = decide ((k : Int) ≤ 10)) := Lib.hid (by
        unfold boxesOk
        rw [HJ.out, List.drop_of_length_le (by rw [HN.out]; exact Nat.le_refl _), HN.out]
        by_cases h : k ≤ 10
        · rw [decide_eq_true h, decide_eq_true (by omega : (k : Int) ≤ 10)]; rfl
        · rw [decide_eq_false h, decide_eq_false (by omega : ¬ (k : Int) ≤ 10)]; rfl)
      go_wp2_with fail
      go_ret
      exact ⟨by rw [HE.out]; rfl, hb⟩
end Go.Proofs.YtbkfhcbecejomaaGreat
end
section
/- Plans: the program says whether one is valid. -/
namespace Go.Proofs.YtbkfhcbecejomaaGreat
open Go Go.ChangeShapes Go.WideShapes Go.ChangeAt Go.RowKit
set_option linter.unusedVariables false
/-- the cells of a ship that is laid in memory, in a later world -/
abbrev HulAt (w W : World) (y0 y1 y2 : Int) : Prop := Below w.heap.size w W ∧ w.heap.size < W.heap.size ∧ W.cell? ⟨w.heap.size, 0, none⟩ = some (.int .i64 y0) ∧ W.cell? ⟨w.heap.size, 1, none⟩ = some (.int .i64 y1) ∧ W.cell? ⟨w.heap.size, 2, none⟩ = some (.int .i64 y2)
theorem slotOk_zero {h : HullV} {bs : List BoxV} {plan : List Int} {k : Nat} (hk : k < plan.length) (h0 : plan[k] = 0) : slotOk h bs plan k = true := by
  simp [slotOk, List.getD, hk, h0]
theorem slotOk_cut {h : HullV} {bs : List BoxV} {plan : List Int} {k : Nat} (hk : k < plan.length) (h0 : plan[k] ≠ 0) :
    slotOk h bs plan k = ((hasF bs plan[k] && !hasI (plan.take k) plan[k]) && !(decide (0 < (k : Int) % h.f2) && decide (plan.getD (k - 1) 0 = 0))) := by
  have : plan.getD k 0 = plan[k] := by simp [List.getD, hk]
  rw [slotOk, this, decide_eq_false h0, Bool.false_or]
theorem slots_up {h : HullV} {bs : List BoxV} {plan : List Int} {k : Nat} (H : ∀ j, j < k → slotOk h bs plan j = true) (hk : slotOk h bs plan k = true) : ∀ j, j < k + 1 → slotOk h bs plan j = true := fun j hj => by
  by_cases e : j = k
  · rw [e]; exact hk
  · exact H j (by omega)
theorem idx_has (bs : List BoxV) (x : Int) : decide (idxI (findF bs x) < 0) = !hasF bs x := by
  cases hq : findF bs x with
  | none =>
    rw [findF_none] at hq
    have : hasF bs x = false := by
      rw [Bool.eq_false_iff]
      intro h
      obtain ⟨y, hy, e⟩ := hasF_iff.1 h
      exact hq y hy e
    rw [this]
    simp [idxI]
  | some i =>
    obtain ⟨hi, h1, _⟩ := findF_some hq
    have : hasF bs x = true := hasF_iff.2 ⟨bs[i], List.getElem_mem hi, by assumption⟩
    rw [this]
    simp only [idxI, Bool.not_true]
    exact decide_eq_false (by omega)
set_option maxHeartbeats 4000000 in
theorem implPlanValid (x : HullV) (A PA : Option Addr) (n c m pc : Nat) (bs : List BoxV) (plan : List Int) (w : World) (hn : bs.length = n) (hr : RdV w A (boxs bs)) (hnc : n ≤ c) (hm : n ≤ 1099511627776) (hpn : plan.length = m) (hp : RdV w PA (ints plan)) (hpc : m ≤ pc) (hpm : pc ≤ 9223372036854775807) :
    Calls Tryz.prog 12 #[.agg #[.int .i64 x.f0, .int .i64 x.f1, .int .i64 x.f2], .slice A n c, .slice PA m pc] w fun e w' => e = .returned (.bool (planOk x bs plan)) ∧ Below w.heap.size w w' := by
  obtain ⟨y0, y1, y2⟩ := x
  have K0 := hulNew w y0 y1 y2
  have HN := Lib.hid hn
  have HPN := Lib.hid hpn
  clear hn hpn
  have hV := fun W => implHullValid ⟨y0, y1, y2⟩ W
  dsimp only at *
  go_enter Tryz.func12, Tryz.ntmps12
  go_wp2_with fail
  refine (hV _).mono ?_
  rintro e w3 ⟨rfl, h3⟩
  have k3 := hulKeep K0 h3
  clear h3 hV K0
  cases hh : hullOk ⟨y0, y1, y2⟩ with
  | false =>
    have HE : Hid (planOk ⟨y0, y1, y2⟩ bs plan = false) := Lib.hid (planOk_hull hh)
    obtain ⟨v1, v2, v3, v4, v5⟩ := k3
    have Z := Lib.hid v1
    clear v1 hh
    go_wp2_with fail
    go_ret
    exact ⟨by rw [HE.out]; rfl, Z.out⟩
  | true =>
    have hle := slots_le hh
    have hT := (hullOk_iff.1 hh).2.2
    have hsl := fun W => implSlots ⟨y0, y1, y2⟩ W hh
    have hti := fun (j : Nat) W (hj : j ≤ 100) => implTier ⟨y0, y1, y2⟩ j W hh (by omega) (by omega)
    have HH := Lib.hid hh
    clear hh
    dsimp only at *
    have hr3 := hr.below k3.1
    go_wp2_with fail
    refine (implBoxesValid A n c bs _ HN.out hr3 hnc hm).mono ?_
    rintro e w4 ⟨rfl, h4⟩
    have k4 := hulKeep k3 h4
    clear h4 k3 hr3
    cases hbo : boxesOk bs with
    | false =>
      have HE : Hid (planOk ⟨y0, y1, y2⟩ bs plan = false) := Lib.hid (planOk_boxes hbo)
      obtain ⟨v1, v2, v3, v4, v5⟩ := k4
      have Z := Lib.hid v1
      clear v1 hbo
      go_wp2_with fail
      go_ret
      exact ⟨by rw [HE.out]; rfl, Z.out⟩
    | true =>
      have HBO := Lib.hid hbo
      clear hbo
      have HSL : Hid (slotsH ⟨y0, y1, y2⟩ = slotsH ⟨y0, y1, y2⟩) := Lib.hid rfl
      generalize hsv : slotsH ⟨y0, y1, y2⟩ = sv at *
      have HSV := Lib.hid hsv
      clear hsv HSL
      obtain ⟨v1, v2, v3, v4, v5⟩ := id k4
      have K4 := Lib.hid k4
      clear v1 k4
      go_wp2_with fail
      refine (hsl _).mono ?_
      rintro e w5 ⟨rfl, h5⟩
      have K5 := Lib.hid (hulKeep K4.out h5)
      clear h5 hsl K4 v2 v3 v4 v5
      by_cases hlen : (m : Int) = sv
      · have hm36 : m ≤ 36 := by omega
        subst hlen
        have H0 : Hid (∀ j, j < 0 → slotOk ⟨y0, y1, y2⟩ bs plan j = true) := Lib.hid (fun j hj => absurd hj (Nat.not_lt_zero j))
        go_wp2_with fail
        go_loopw [26, 7, 8] (fun i _ _ wr => ∃ (k : Nat), k ≤ m ∧ i = .int .i64 k ∧ Hid (∀ j, j < k → slotOk ⟨y0, y1, y2⟩ bs plan j = true) ∧ Hid (HulAt w wr y0 y1 y2)) (fun i _ _ _ => m - (intOf i).toNat)
        case atStart => exact ⟨0, Nat.zero_le _, rfl, H0, K5⟩
        case round =>
          clear H0 K5
          obtain ⟨k, hk, rfl, HS, HK⟩ := hrel
          by_cases hlt : k < m
          · have hkz : k < plan.length := by rw [HPN.out]; exact hlt
            have hki : (k : Int) < (m : Int) := by omega
            have hbl := HK.out.1
            obtain ⟨pb, po, rfl, hl1, hc1⟩ := (hp.below hbl).pos (k := k) (by rw [ints_len]; exact hkz)
            have hcell : wr.cell? ⟨pb, po + k, none⟩ = some (.int .i64 plan[k]) := by rw [hc1 k (by rw [ints_len]; exact hkz), ints_at]
            by_cases h0 : plan[k] = 0
            · have HS2 : Hid (∀ j, j < k + 1 → slotOk ⟨y0, y1, y2⟩ bs plan j = true) := Lib.hid (slots_up HS.out (slotOk_zero hkz h0))
              rw [h0] at hcell
              clear hc1 h0 HS hbl
              go_wp2_with fail
              go_roundw
              case rel => exact ⟨k + 1, by omega, by go_num, HS2, HK⟩
              case measure => simp [intOf]; omega
            · have HCU := Lib.hid (slotOk_cut (h := ⟨y0, y1, y2⟩) (bs := bs) hkz h0)
              have HTK := Lib.hid (RdV.takeI (zs := plan) hl1 hc1 k)
              have HBX := Lib.hid (hr.below hbl)
              have hP : 0 < k → ∃ u, plan.getD (k - 1) 0 = u ∧ wr.cell? ⟨pb, po + (k - 1), none⟩ = some (.int .i64 u) := fun hk0 => by
                have hk1 : k - 1 < plan.length := by omega
                refine ⟨plan[k - 1], by simp [List.getD, hk1], ?_⟩
                rw [hc1 (k - 1) (by rw [ints_len]; exact hk1), ints_at]
              have HP := Lib.hid hP
              have HTL : Hid ((plan.take k).length = k) := Lib.hid (by rw [List.length_take]; omega)
              have g0 : (plan[k] == 0) = false := by simp [h0]
              have HKZ := Lib.hid hkz
              generalize plan[k] = v at *
              have HBI := Lib.hid (idx_has bs v)
              clear hc1 hP hbl hkz
              go_wp2_with fail
              refine (boxAt_any A n c bs v _ HN.out HBX.out (by omega)).mono ?_
              rintro e w6 ⟨rfl, h6⟩
              have K6 := Lib.hid (hulKeep HK.out h6)
              have HTK6 := Lib.hid (HTK.out.below h6)
              clear HTK HBX
              have q0 := hl1
              have hl6 : pb < w6.heap.size := Nat.lt_of_lt_of_le hl1 h6.size
              have HP6 : Hid (0 < k → ∃ u, plan.getD (k - 1) 0 = u ∧ w6.cell? ⟨pb, po + (k - 1), none⟩ = some (.int .i64 u)) := Lib.hid (fun h => by obtain ⟨u, e1, e2⟩ := HP.out h; exact ⟨u, e1, (h6.cell (p := ⟨pb, po + (k - 1), none⟩) q0).trans e2⟩)
              clear HP h6 q0
              generalize idxI (findF bs v) = fi at *
              cases hf : hasF bs v with
              | false =>
                have HE : Hid (planOk ⟨y0, y1, y2⟩ bs plan = false) := Lib.hid (planOk_bad HKZ.out (by rw [HCU.out, hf]; rfl))
                have hfi := HBI.out
                rw [hf] at hfi
                have hlt0 : decide (fi < 0) = true := hfi
                have hlt1 : fi < 0 := of_decide_eq_true hlt0
                clear hf hfi
                go_wp2_with fail
                go_ret
                exact ⟨by rw [HE.out]; rfl, K6.out.1⟩
              | true =>
                have hfi := HBI.out
                rw [hf] at hfi
                have hlt0 : decide (fi < 0) = false := hfi
                have hlt1 : ¬ fi < 0 := of_decide_eq_false hlt0
                have HF := Lib.hid hf
                clear hf hfi
                go_wp2_with fail
                refine (contains_int _ k pc (plan.take k) v _ HTL.out HTK6.out (by omega)).mono ?_
                rintro e w7 ⟨rfl, rfl⟩
                cases hi : hasI (plan.take k) v with
                | true =>
                  have HE : Hid (planOk ⟨y0, y1, y2⟩ bs plan = false) := Lib.hid (planOk_bad HKZ.out (by rw [HCU.out, hi]; simp))
                  clear hi
                  go_wp2_with fail
                  go_ret
                  exact ⟨by rw [HE.out]; rfl, K6.out.1⟩
                | false =>
                  have HI := Lib.hid hi
                  clear hi
                  obtain ⟨v1, v2, v3, v4, v5⟩ := K6.out
                  clear v1
                  go_wp2_with fail
                  refine (hti k _ (by omega)).mono ?_
                  rintro e w8 ⟨rfl, h8⟩
                  have K8 := Lib.hid (hulKeep K6.out h8)
                  clear v2 v3 v4 v5
                  by_cases ht : 0 < (k : Int) % y2
                  · have hk0 : 0 < k := by
                      rcases Nat.eq_zero_or_pos k with e | e
                      · subst e; simp at ht
                      · exact e
                    obtain ⟨u, hu, hcu⟩ := HP6.out hk0
                    have hcu8 := (h8.cell (p := ⟨pb, po + (k - 1), none⟩) hl6).trans hcu
                    have hl8 : pb < w8.heap.size := Nat.lt_of_lt_of_le hl6 h8.size
                    have HT := Lib.hid ht
                    have HU := Lib.hid hu
                    have HQ : Hid (slotOk ⟨y0, y1, y2⟩ bs plan k = !decide (u = 0)) := Lib.hid (by rw [HCU.out, HF.out, HI.out, decide_eq_true ht, hu]; simp)
                    obtain ⟨j, rfl⟩ : ∃ j, k = j + 1 := ⟨k - 1, by omega⟩
                    have ea : ((j + 1 : Nat) : Int) - 1 = (j : Int) := by omega
                    have hji : (j : Int) < (m : Int) := by omega
                    simp only [Nat.add_sub_cancel] at hcu8
                    generalize ((j + 1 : Nat) : Int) % y2 = tt at *
                    clear h8 hcu hu HP6 hl6
                    by_cases hu0 : u = 0
                    · have HE : Hid (planOk ⟨y0, y1, y2⟩ bs plan = false) := Lib.hid (planOk_bad HKZ.out (by rw [HQ.out, hu0]; rfl))
                      subst hu0
                      go_wp2_with fail
                      go_ret
                      exact ⟨by rw [HE.out]; rfl, K8.out.1⟩
                    · have HS2 : Hid (∀ i, i < j + 1 + 1 → slotOk ⟨y0, y1, y2⟩ bs plan i = true) := Lib.hid (slots_up HS.out (by rw [HQ.out]; simp [hu0]))
                      have gu : (u == 0) = false := by simp [hu0]
                      go_wp2_with fail
                      go_roundw
                      case rel => exact ⟨j + 1 + 1, by omega, by go_num, HS2, K8⟩
                      case measure => simp [intOf]; omega
                  · have HS2 : Hid (∀ j, j < k + 1 → slotOk ⟨y0, y1, y2⟩ bs plan j = true) := Lib.hid (slots_up HS.out (by rw [HCU.out, HF.out, HI.out, decide_eq_false ht]; rfl))
                    generalize (k : Int) % y2 = tt at *
                    have gt : decide (0 < tt) = false := decide_eq_false ht
                    clear h8 HP6
                    go_wp2_with fail
                    go_roundw
                    case rel => exact ⟨k + 1, by omega, by go_num, HS2, K8⟩
                    case measure => simp [intOf]; omega
          · obtain rfl : k = m := by omega
            have HE : Hid (planOk ⟨y0, y1, y2⟩ bs plan = true) := Lib.hid (planOk_good HH.out HBO.out (by rw [HPN.out, HSV.out]) (fun j hj => HS.out j (by have := HPN.out; omega)))
            go_wp2_with fail
            go_ret
            exact ⟨by rw [HE.out]; rfl, HK.out.1⟩
      · have HE : Hid (planOk ⟨y0, y1, y2⟩ bs plan = false) := Lib.hid (planOk_len (by rw [HPN.out, HSV.out]; exact hlen))
        have g1 : ((m : Int) != sv) = true := by simp [hlen]
        go_wp2_with fail
        go_ret
        exact ⟨by rw [HE.out]; rfl, K5.out.1⟩
end Go.Proofs.YtbkfhcbecejomaaGreat
end
