/- The parts of segments that are drawn: some text of at most four bytes. -/
import Derived.Test.YtkdaekiihkkpkaaRdr
import Derived.Test.YtkdaekiihkkpkaaStr
import Derived.Deep.RegionWith
namespace Go.Proofs.Ytkdaekiihkkpkaa
open Go Go.ChangeShapes Go.WideShapes Go.ChangeAt Go.RowKit
/-- the texts of one byte that are drawn -/
def ptCells : List Value := [.string (txt [65]), .string (txt [55]), .string (txt [43]), .string (txt [58]), .string (txt [39]), .string (txt [63]), .string (txt [32]), .string (txt [120])]
theorem pt_get (v : Int) (h0 : 0 ≤ v) (h1 : v < 8) : ∃ c, ptCells[v.toNat]? = some (.string (txt [c])) := by
  obtain rfl | rfl | rfl | rfl | rfl | rfl | rfl | rfl : v = 0 ∨ v = 1 ∨ v = 2 ∨ v = 3 ∨ v = 4 ∨ v = 5 ∨ v = 6 ∨ v = 7 := by omega
  all_goals exact ⟨_, rfl⟩
/-- a text of at most m bytes; the reader has gone on by at most k -/
def DrawnTxt (w : World) (g q k m : Nat) : Ending → World → Prop :=
  RVal fun v w' => ∃ l q', v = .string (txt l) ∧ l.length ≤ m ∧ q' ≤ q + k ∧ Rdr w' g q' ∧ w.grownBy w' (some g)
set_option maxHeartbeats 1000000 in
theorem l20Part_any (g q : Nat) (w : World) (hr : Rdr w g q) (hq : q ≤ 100000000) :
    Calls Try.prog 17 #[.pointer (some ⟨g, 0, none⟩)] w (DrawnTxt w g q 5 4) := by
  go_enter Try.func17, Try.ntmps17
  go_wp2_with fail
  refine (pick_any g q 5 _ hr (by omega) (by omega)).mono ?_
  rintro e w1 ⟨k0, rfl, ⟨hk0, hk1, _⟩, hr1, hg1⟩
  go_wp2_with fail
  go_loopw [3, 4] (fun o i wr => ∃ (k : Nat) (l : List UInt8) (q' : Nat), i = .int .i64 k ∧ o = .string (txt l) ∧ k ≤ 4 ∧ l.length + k ≤ 4 ∧ q' + k ≤ q + 5 ∧ Rdr wr g q' ∧ w.grownBy wr (some g)) (fun _ i _ => (intOf i).toNat)
  case atStart =>
    obtain ⟨k, rfl⟩ := Int.eq_ofNat_of_zero_le hk0
    exact ⟨k, [], q + 1, rfl, rfl, by omega, by simp; omega, by omega, hr1, hg1⟩
  case round =>
    obtain ⟨k, l, q', rfl, rfl, hk4, hlk, hq', hrr, hgr⟩ := hrel
    by_cases hlt0 : 0 < k
    · have hal : Below wr.heap.size wr (wr.alloc (.cells ptCells.toArray 9)) := (Below.refl _ _).alloc (Nat.le_refl _) _
      go_wp2_with fail
      refine (pick_any g q' 8 _ (hrr.kept hal) (by omega) (by omega)).mono ?_
      rintro e w2 ⟨v, rfl, ⟨hv0, hv1, _⟩, hr2, hg2⟩
      have hb := (Blk.new wr 9 ptCells).only hg2 (by have := hrr.lt; omega)
      have HF := Lib.hid (only_trans (only_trans hgr (only_below hal g)) hg2)
      obtain ⟨c, hc⟩ := pt_get v hv0 (hv1 (by omega))
      have hx := hb.cell v.toNat
      rw [hc] at hx
      have ha := run_cat (P := Try.prog) l [c] (by simp; omega)
      have hv8 := hv1 (by omega)
      clear hg2 hal hc hb
      go_wp2_with fail
      go_roundw
      case rel => exact ⟨k - 1, l ++ [c], q' + 1, by go_num, rfl, by omega, by simp; omega, by omega, hr2, HF.out⟩
      case measure => simp [intOf]; omega
    · go_wp2_with fail
      go_ret
      exact RVal.mk ⟨l, q', rfl, by omega, by omega, hrr, hgr⟩
end Go.Proofs.Ytkdaekiihkkpkaa
