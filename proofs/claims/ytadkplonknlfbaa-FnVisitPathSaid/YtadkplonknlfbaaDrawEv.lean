/- The events that are drawn. -/
import Derived.Test.YtadkplonknlfbaaDrawList
import Derived.Test.YtadkplonknlfbaaOwnStep
import Derived.Deep.RegionLaw
namespace Go.Proofs.Ytadkplonknlfbaa
open Go.ChangeShapes Go.WideShapes Go.ChangeAt Go.RowKit

/-- the element of the literal list of events -/
def evAt (v : Int) : Int := [0, 1, 1, 2, 2, 3, 4].getD v.toNat 0
theorem evAt_some (v : Int) (h0 : 0 ≤ v) (h1 : v < 7) : [Value.int .i64 0, .int .i64 1, .int .i64 1, .int .i64 2, .int .i64 2, .int .i64 3, .int .i64 4][v.toNat]? = some (.int .i64 (evAt v)) := by
  obtain rfl | rfl | rfl | rfl | rfl | rfl | rfl : v = 0 ∨ v = 1 ∨ v = 2 ∨ v = 3 ∨ v = 4 ∨ v = 5 ∨ v = 6 := by omega
  all_goals rfl
theorem evAt_get (v : Int) (h0 : 0 ≤ v) (h1 : v < 7) : ∀ h, [Value.int .i64 0, .int .i64 1, .int .i64 1, .int .i64 2, .int .i64 2, .int .i64 3, .int .i64 4][v.toNat]'h = .int .i64 (evAt v) := by
  obtain rfl | rfl | rfl | rfl | rfl | rfl | rfl : v = 0 ∨ v = 1 ∨ v = 2 ∨ v = 3 ∨ v = 4 ∨ v = 5 ∨ v = 6 := by omega
  all_goals exact fun _ => rfl
theorem evAt_bd (v : Int) : 0 ≤ evAt v ∧ evAt v ≤ 4 := by
  unfold evAt
  rcases hv : v.toNat with _ | _ | _ | _ | _ | _ | _ | k <;> simp

set_option maxHeartbeats 4000000 in
theorem l20Events_any (g q : Nat) (w : World) (hr : Rdr w g q) (hq : q ≤ 1000000) :
    Calls Try.prog 23 #[.pointer (some ⟨g, 0, none⟩)] w (Drawn w g q 100) := by
  go_enter Try.func23, Try.ntmps23
  go_wp2_with fail
  have hal : Below w.heap.size w (w.alloc (.cells #[] 3)) := (Below.refl _ _).alloc (Nat.le_refl _) _
  refine (pick_any g q 14 _ (hr.kept hal) (by omega) (by omega)).mono ?_
  rintro e w1 ⟨k0, rfl, ⟨hk0, hk1, _⟩, hr1, hg1⟩
  have hown0 : (w.alloc (.cells #[] 3)).ownsRow w.heap.size 3 1 (.slice (some ⟨w.heap.size, 0, none⟩) 0 0) 0 [] := World.ownsRow_made _ _ 0 (Nat.le_refl _) (by decide) rfl
  have hown1 := own_only hown0 hg1 (by simp [Value.ownBlock]; have := hr.lt; omega)
  have hgg1 := only_trans (only_below hal g) hg1
  have hlt := hr.lt
  clear hal hown0 hg1
  go_wp2_with fail
  go_loopw [3, 4] (fun v i wr => ∃ (k : Nat) (zs : List Int) (q' : Nat), i = .int .i64 k ∧ k ≤ 14 ∧ zs.length + k ≤ 14 ∧ wr.ownsRow w.heap.size 3 1 v zs.length (ints zs) ∧ q' ≤ q + 2 * (14 - k) + 1 ∧ Rdr wr g q' ∧ w.grownBy wr (some g)) (fun _ i _ => (intOf i).toNat)
  case atStart =>
    obtain ⟨k, rfl⟩ := Int.eq_ofNat_of_zero_le hk0
    exact ⟨k, [], q + 1, rfl, by omega, by simp; omega, hown1, by omega, hr1, hgg1⟩
  case round =>
    obtain ⟨k, zs, q', rfl, hk20, hzk, hown, hq', hrr, hgr⟩ := hrel
    by_cases hlt0 : 0 < k
    · go_wp2_with fail
      have ab : ∀ (W : World), Below W.heap.size W (W.alloc (.cells [Value.int .i64 0, .int .i64 1, .int .i64 1, .int .i64 2, .int .i64 2, .int .i64 3, .int .i64 4].toArray 3)) := fun W => (Below.refl _ _).alloc (Nat.le_refl _) _
      have AB := Lib.hid ab
      clear ab
      go_region_law (first
        | (go_simp; go_at_call 22; (with_reducible refine (pick_any g _ 7 _ hrr.drew (by omega) (by omega)).mono ?_); rintro e w2 ⟨v, rfl, ⟨hv0, hv1, _⟩, hr2, hg2⟩; have hown2 := own_only hown.drew hg2 (own_ne hown hlt); have hv7 := hv1 (by omega); have hl1 := evAt_some v hv0 hv7; have hl2 := evAt_get v hv0 hv7; have hT2 := only_trans hgr (only_of_drew hg2); have HT2 := Lib.hid hT2; clear hT2)
        | (go_simp; go_at_call 22; (with_reducible refine (pick_any g _ 7 _ ((hrr.alloc _).drew) (by omega) (by omega)).mono ?_); rintro e w2 ⟨v, rfl, ⟨hv0, hv1, _⟩, hr2, hg2⟩; have hown2 := own_only (hown.alloc _).drew hg2 (own_ne hown hlt); have hv7 := hv1 (by omega); have hB2 := (Blk.new wr 3 [Value.int .i64 0, .int .i64 1, .int .i64 1, .int .i64 2, .int .i64 2, .int .i64 3, .int .i64 4]).drew.only hg2 (by have := hrr.lt; omega); have hx2 := hB2.cell v.toNat; rw [evAt_some v hv0 hv7] at hx2; have hT2 := only_trans hgr (only_trans (only_below (AB.out wr) g) (only_of_drew hg2)); have HT2 := Lib.hid hT2; clear hT2)
        | (go_simp; go_at_call 22; (with_reducible refine (pick_any g _ 40 _ hr2 (by omega) (by omega)).mono ?_); rintro e w3 ⟨z, rfl, ⟨hz0, hz1, _⟩, hr3, hg3⟩; have hown3 := own_only hown2 hg3 (own_ne hown2 hlt); (try (have hB3 := hB2.only hg3 (by have := hrr.lt; omega); have hx3 := hB3.cell v.toNat; rw [evAt_some v hv0 hv7] at hx3)); have hT3 := only_trans HT2.out hg3; have HT3 := Lib.hid hT3; have hs3 := hT3.size; clear hT3)
        | (go_simp; go_at_call 22; (with_reducible refine (pick_any g _ 40 _ (hr2.alloc _) (by omega) (by omega)).mono ?_); rintro e w3 ⟨z, rfl, ⟨hz0, hz1, _⟩, hr3, hg3⟩; have hown3 := own_only (hown2.alloc _) hg3 (own_ne hown2 hlt); have hB3 := (Blk.new w2 3 [Value.int .i64 0, .int .i64 1, .int .i64 1, .int .i64 2, .int .i64 2, .int .i64 3, .int .i64 4]).only hg3 (by have := hr2.lt; omega); have hx3 := hB3.cell v.toNat; rw [evAt_some v hv0 hv7] at hx3; have hT3 := only_trans HT2.out (only_trans (only_below (AB.out w2) g) hg3); have HT3 := Lib.hid hT3; have hs3 := hT3.size; clear hT3)
        | ((with_reducible refine step_append_new rfl _ _ 22 rfl 3 _ _ _ Try.underlying22 int_infoD _ w3 _ _ _ rfl hown3 [.int .i64 _] rfl rfl (by simp [Value.oneCell']) (by omega) hs3 ?_); intro v' w4 hown4 hg4 hblk4; have hr4 := hr3.away hg4 (fun b e => by have := (hown3.lt b e).1; omega); have HT4 := Lib.hid (only_own HT3.out hg4 (fun b e => (hown3.lt b e).1)))
        | ((with_reducible refine step_append_new rfl _ _ 22 rfl 3 _ _ _ Try.underlying22 int_infoD _ (w3.alloc _) _ _ _ rfl (hown3.alloc _) [.int .i64 _] (by simp; with_unfolding_all rfl) rfl (by simp [Value.oneCell']) (by omega) (by simp; omega) ?_); intro v' w4 hown4 hg4 hblk4; have hr4 := (hr3.alloc _).away hg4 (fun b e => by have := (hown3.lt b e).1; omega); have HT4 := Lib.hid (only_own (only_trans HT3.out (only_below (AB.out w3) g)) hg4 (fun b e => (hown3.lt b e).1))))
      all_goals
        go_wp2_with fail
        go_roundw
        case rel => exact ⟨k - 1, zs ++ [_], q' + 1 + 1, by go_num, by omega, by simp; omega, by simpa [ints] using hown4, by omega, hr4, HT4.out⟩
        case measure => simp [intOf]; omega
    · go_wp2_with fail
      go_ret
      exact RVal.mk ⟨zs, q', hown, by omega, by omega, hrr, hgr⟩
end Go.Proofs.Ytadkplonknlfbaa
