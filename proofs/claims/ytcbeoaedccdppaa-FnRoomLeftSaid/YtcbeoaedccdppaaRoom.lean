/- RoomLeft: both programs return the plain word. -/
import Derived.Test.YtcbeoaedccdppaaYdY
import Derived.Test.YtcbeoaedccdppaaYdJ
namespace Go.Proofs.Ytcbeoaedccdppaa
open Go Go.ChangeShapes Go.WideShapes Go.ChangeAt Go.RowKit
set_option linter.unusedVariables false
/-- how many boxes more there is room for -/
def roomI (high : Int) (rows : List (List Int)) : Int := if yardOk high rows then high * (rows.length : Int) - (rows.flatten.length : Int) else -1
set_option maxHeartbeats 1000000 in
theorem implRoomLeft (high : Int) (A : Option Addr) (n c : Nat) (rows : List (List Int)) (w : World) (hn : rows.length = n) (hr : RdRR w A (intss rows)) (hm : n ≤ 1048576) :
    Calls Try.prog 9 #[.agg #[.int .i64 high, .slice A n c]] w fun e w' => e = .returned (.int .i64 (roomI high rows)) ∧ Below w.heap.size w w' := by
  have HN := Lib.hid hn
  clear hn
  have hal : Below w.heap.size w (w.alloc (.cells #[.int .i64 high, .slice A n c] 27)) := (Below.refl _ _).alloc (Nat.le_refl _) _
  have hP : Blk (w.alloc (.cells #[.int .i64 high, .slice A n c] 27)) w.heap.size 27 [.int .i64 high, .slice A n c] := Blk.new _ _ _
  have h1 := hr.below hal
  go_enter Try.func9, Try.ntmps9
  go_wp2_with fail
  generalize w.alloc (.cells #[.int .i64 high, .slice A n c] 27) = w1 at *
  refine (implYardValid high A n c rows w1 HN.out h1 (by omega)).mono ?_
  rintro e w2 ⟨rfl, b2⟩
  have HB2 := Lib.hid (below_trans hal b2)
  have P2 := hP.later b2
  have hlt := P2.lt
  have x0 := P2.cellAt 0 (by simp)
  have x1 := P2.cellAt 1 (by simp)
  simp only [List.getElem_cons_zero, List.getElem_cons_succ] at x0 x1
  clear hal hP b2 h1
  cases hok : yardOk high rows with
  | false =>
    have HI : Hid (roomI high rows = -1) := Lib.hid (by simp [roomI, hok])
    clear hok
    go_wp2_with fail
    go_ret
    exact ⟨by rw [HI.out]; rfl, HB2.out⟩
  | true =>
    have HI : Hid (roomI high rows = high * (n : Int) - ((idsA high rows).length : Int)) := Lib.hid (by have h3 := HN.out; simp [roomI, hok, idsA, srtI_len, h3])
    obtain ⟨_, hn5, hg1, hg2, _⟩ := yardOk_parts hok
    rw [HN.out] at hn5
    have h25 := (ids_len high rows).2
    have hids := fun W hW => implYardIds high A n c rows W HN.out (hr.below (below_trans HB2.out hW)) (by omega)
    unfold IdsOut at hids
    generalize (idsA high rows).length = p at *
    have hmb : (0 : Int) ≤ high * (n : Int) ∧ high * (n : Int) ≤ 25 := ⟨Int.mul_nonneg (by omega) (by omega), Int.le_trans (Int.mul_le_mul hg2 (show (n : Int) ≤ 5 by omega) (by omega) (by omega)) (by decide)⟩
    have e1 : IntKind.i64.wrap (high * (n : Int)) = high * (n : Int) := IntWalk.i64_in _ (by omega)
    have e1' : IntKind.i64.wrap ((n : Int) * high) = high * (n : Int) := by rw [Int.mul_comm]; exact e1
    have e2 : IntKind.i64.wrap (high * (n : Int) - (p : Int)) = high * (n : Int) - (p : Int) := IntWalk.i64_in _ (by omega)
    clear hok
    go_wp2_with fail
    go_region_held3 (fun W => Below w2.heap.size w2 W ∧ W.cell? ⟨w.heap.size, 0, none⟩ = some (.int .i64 high) ∧ W.cell? ⟨w.heap.size, 1, none⟩ = some (.slice A n c))
      (first | exact keepQY (Below.refl _ _) hlt x0 x1 | exact keepQY (Below.drew (Below.refl _ _)) hlt x0 x1 | exact keepQY ka hlt x0 x1)
      ((go_at_call 19; (with_reducible refine (hids _ (Below.drew (Below.refl _ _))).mono ?_); rintro e wa ⟨_, rfl, CA, cc, rfl, oa, ba⟩; have ka : Below w2.heap.size w2 wa := below_trans (Below.drew (Below.refl _ _)) ba; clear oa))
    all_goals
      go_wp2_with fail
      go_ret
      exact ⟨by rw [HI.out]; rfl, below_trans HB2.out ka⟩
set_option maxHeartbeats 1000000 in
theorem specRoomLeft (high : Int) (A : Option Addr) (n c : Nat) (rows : List (List Int)) (w : World) (hn : rows.length = n) (hr : RdRR w A (intss rows)) (hm : n ≤ 1048576) :
    Calls Try.prog 7 #[.agg #[.int .i64 high, .slice A n c]] w fun e w' => e = .returned (.int .i64 (roomI high rows)) ∧ Below w.heap.size w w' := by
  have HN := Lib.hid hn
  clear hn
  have hal : Below w.heap.size w (w.alloc (.cells #[.int .i64 high, .slice A n c] 27)) := (Below.refl _ _).alloc (Nat.le_refl _) _
  have hP : Blk (w.alloc (.cells #[.int .i64 high, .slice A n c] 27)) w.heap.size 27 [.int .i64 high, .slice A n c] := Blk.new _ _ _
  have h1 := hr.below hal
  go_enter Try.func7, Try.ntmps7
  go_wp2_with fail
  generalize w.alloc (.cells #[.int .i64 high, .slice A n c] 27) = w1 at *
  refine (specYardValid high A n c rows w1 HN.out h1 (by omega)).mono ?_
  rintro e w2 ⟨rfl, b2⟩
  have HB2 := Lib.hid (below_trans hal b2)
  have P2 := hP.later b2
  have hlt := P2.lt
  have x0 := P2.cellAt 0 (by simp)
  have x1 := P2.cellAt 1 (by simp)
  simp only [List.getElem_cons_zero, List.getElem_cons_succ] at x0 x1
  clear hal hP b2 h1
  cases hok : yardOk high rows with
  | false =>
    have HI : Hid (roomI high rows = -1) := Lib.hid (by simp [roomI, hok])
    clear hok
    go_wp2_with fail
    go_ret
    exact ⟨by rw [HI.out]; rfl, HB2.out⟩
  | true =>
    have HI : Hid (roomI high rows = high * (n : Int) - ((idsB high rows).length : Int)) := Lib.hid (by have h3 := HN.out; simp [roomI, hok, idsB, insAll_len, h3])
    obtain ⟨_, hn5, hg1, hg2, _⟩ := yardOk_parts hok
    rw [HN.out] at hn5
    have h25 := ((ids_len high rows).1 ▸ (ids_len high rows).2)
    have hids := fun W hW => specYardIds high A n c rows W HN.out (hr.below (below_trans HB2.out hW)) (by omega)
    unfold IdsOut at hids
    generalize (idsB high rows).length = p at *
    have hmb : (0 : Int) ≤ high * (n : Int) ∧ high * (n : Int) ≤ 25 := ⟨Int.mul_nonneg (by omega) (by omega), Int.le_trans (Int.mul_le_mul hg2 (show (n : Int) ≤ 5 by omega) (by omega) (by omega)) (by decide)⟩
    have e1 : IntKind.i64.wrap (high * (n : Int)) = high * (n : Int) := IntWalk.i64_in _ (by omega)
    have e1' : IntKind.i64.wrap ((n : Int) * high) = high * (n : Int) := by rw [Int.mul_comm]; exact e1
    have e2 : IntKind.i64.wrap (high * (n : Int) - (p : Int)) = high * (n : Int) - (p : Int) := IntWalk.i64_in _ (by omega)
    clear hok
    go_wp2_with fail
    go_region_held3 (fun W => Below w2.heap.size w2 W ∧ W.cell? ⟨w.heap.size, 0, none⟩ = some (.int .i64 high) ∧ W.cell? ⟨w.heap.size, 1, none⟩ = some (.slice A n c))
      (first | exact keepQY (Below.refl _ _) hlt x0 x1 | exact keepQY (Below.drew (Below.refl _ _)) hlt x0 x1 | exact keepQY ka hlt x0 x1)
      ((go_at_call 22; (with_reducible refine (hids _ (Below.drew (Below.refl _ _))).mono ?_); rintro e wa ⟨_, rfl, CA, cc, rfl, oa, ba⟩; have ka : Below w2.heap.size w2 wa := below_trans (Below.drew (Below.refl _ _)) ba; clear oa))
    all_goals
      go_wp2_with fail
      go_ret
      exact ⟨by rw [HI.out]; rfl, below_trans HB2.out ka⟩
end Go.Proofs.Ytcbeoaedccdppaa
