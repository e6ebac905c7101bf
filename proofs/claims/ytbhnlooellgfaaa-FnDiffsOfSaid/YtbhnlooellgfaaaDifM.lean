/- Lists of Diff: marking them, reading the marks. -/
import Derived.Test.YtbhnlooellgfaaaDifS
import Derived.Test.YtbhnlooellgfaaaBoxM
namespace Go.Proofs.Ytbhnlooellgfaaa
open Go Go.ChangeShapes Go.WideShapes Go.ChangeAt Go.RowKit
def marksY (k : Int) (n : Nat) : List DiffV := (List.range n).map fun (i : Nat) => ⟨k + ((6 * i : Nat) : Int), k + ((6 * i : Nat) : Int) + 1, k + ((6 * i : Nat) : Int) + 1 + 1, k + ((6 * i : Nat) : Int) + 1 + 1 + 1, k + ((6 * i : Nat) : Int) + 1 + 1 + 1 + 1, (k + ((6 * i : Nat) : Int) + 1 + 1 + 1 + 1 + 1) % 3 == 0⟩
theorem marksY_len (k : Int) (n : Nat) : (marksY k n).length = n := by simp [marksY]
theorem marksY_succ (k : Int) (n : Nat) : marksY k (n + 1) = marksY k n ++ [⟨k + ((6 * n : Nat) : Int), k + ((6 * n : Nat) : Int) + 1, k + ((6 * n : Nat) : Int) + 1 + 1, k + ((6 * n : Nat) : Int) + 1 + 1 + 1, k + ((6 * n : Nat) : Int) + 1 + 1 + 1 + 1, (k + ((6 * n : Nat) : Int) + 1 + 1 + 1 + 1 + 1) % 3 == 0⟩] := by simp [marksY, List.range_succ]
theorem marksY_at (k : Int) (n j : Nat) (h : j < (marksY k n).length) : (marksY k n)[j] = ⟨k + ((6 * j : Nat) : Int), k + ((6 * j : Nat) : Int) + 1, k + ((6 * j : Nat) : Int) + 1 + 1, k + ((6 * j : Nat) : Int) + 1 + 1 + 1, k + ((6 * j : Nat) : Int) + 1 + 1 + 1 + 1, (k + ((6 * j : Nat) : Int) + 1 + 1 + 1 + 1 + 1) % 3 == 0⟩ := by simp [marksY]
theorem diffs_append (a b : List DiffV) : diffs (a ++ b) = diffs a ++ diffs b := cellsOf_append _ _ _
theorem diffs_one (a : DiffV) : diffs [a] = [.int .i64 a.k, .int .i64 a.b.f0, .int .i64 a.b.f1, .int .i64 a.b.f2, .int .i64 a.b.f3, .bool a.b.f4] := cellsOf_one _ _
theorem set_f6 (a r : List Value) (x0 x1 x2 x3 x4 x5 y0 y1 y2 y3 y4 y5 : Value) (o : Nat) (ho : a.length = o) : ((((((a ++ ([x0, x1, x2, x3, x4, x5] ++ r)).set (o) y0).set (o + 1) y1).set (o + 2) y2).set (o + 3) y3).set (o + 4) y4).set (o + 5) y5 = a ++ ([y0, y1, y2, y3, y4, y5] ++ r) := by
  subst ho
  simp [List.set_append_right]
set_option maxHeartbeats 1000000 in
theorem markDiffS_any (A : Option Addr) (n c base : Nat) (k : Int) (xs : List Value) (w : World) (h : w.ownsRow base 56 6 (.slice A n c) n xs) (h0 : 0 ≤ k) (hk : k + 6 * n ≤ 1099511627776) :
    Calls Try.prog 19 #[.slice A n c, .int .i64 k] w fun e w' => e = .returned (.int .i64 (k + ((6 * n : Nat) : Int))) ∧ w'.ownsRow base 56 6 (.slice A n c) n (diffs (marksY k n)) ∧ w.grownBy w' (Value.ownBlock (.slice A n c)) := by
  go_enter Try.func19, Try.ntmps19
  go_wp2
  go_loopw [1, 5] (fun kk i wr => ∃ j : Nat, j ≤ n ∧ i = .int .i64 j ∧ kk = .int .i64 (k + ((6 * j : Nat) : Int)) ∧ wr.ownsRow base 56 6 (.slice A n c) n (diffs (marksY k j) ++ xs.drop (j * 6)) ∧ w.grownBy wr (Value.ownBlock (.slice A n c))) (fun _ i _ => n - (intOf i).toNat)
  case atStart => exact ⟨0, Nat.zero_le _, rfl, by simp, by simpa [marksY, diffs, cellsOf] using h, World.grownBy.refl _ _⟩
  case round =>
    obtain ⟨j, hj, rfl, rfl, hown, hg⟩ := hrel
    have hxl : xs.length = n * 6 := h.1
    by_cases hlt : j < n
    · rcases own_form hown with ⟨_, hn0, _⟩ | ⟨g, c', hv, _, _, _⟩
      · omega
      injection hv with hA _ hc'
      subst hA
      have hml : (diffs (marksY k j)).length = j * 6 := by rw [diffs_len, marksY_len]
      have hfz0 := hown.frozenAt (j * 6)
      have hfz1 := hown.frozenAt (j * 6 + 1)
      have hfz2 := hown.frozenAt (j * 6 + 2)
      have hfz3 := hown.frozenAt (j * 6 + 3)
      have hfz4 := hown.frozenAt (j * 6 + 4)
      have hfz5 := hown.frozenAt (j * 6 + 5)
      have hd : xs.drop (j * 6) = [xs[j * 6], xs[j * 6 + 1], xs[j * 6 + 2], xs[j * 6 + 3], xs[j * 6 + 4], xs[j * 6 + 5]] ++ xs.drop ((j + 1) * 6) := by
        rw [List.drop_eq_getElem_cons (show j * 6 < xs.length by omega), List.drop_eq_getElem_cons (show j * 6 + 1 < xs.length by omega), List.drop_eq_getElem_cons (show j * 6 + 2 < xs.length by omega), List.drop_eq_getElem_cons (show j * 6 + 3 < xs.length by omega), List.drop_eq_getElem_cons (show j * 6 + 4 < xs.length by omega), List.drop_eq_getElem_cons (show j * 6 + 5 < xs.length by omega), show j * 6 + 5 + 1 = (j + 1) * 6 from by omega]
        rfl
      rw [hd] at hown
      have hcell0 := hown.cellAt (j * 6) (by omega)
      rw [List.getElem?_append_right (by omega), hml, show j * 6 - j * 6 = 0 from by omega] at hcell0
      have hcell1 := hown.cellAt (j * 6 + 1) (by omega)
      rw [List.getElem?_append_right (by omega), hml, show j * 6 + 1 - j * 6 = 1 from by omega] at hcell1
      have hcell2 := hown.cellAt (j * 6 + 2) (by omega)
      rw [List.getElem?_append_right (by omega), hml, show j * 6 + 2 - j * 6 = 2 from by omega] at hcell2
      have hcell3 := hown.cellAt (j * 6 + 3) (by omega)
      rw [List.getElem?_append_right (by omega), hml, show j * 6 + 3 - j * 6 = 3 from by omega] at hcell3
      have hcell4 := hown.cellAt (j * 6 + 4) (by omega)
      rw [List.getElem?_append_right (by omega), hml, show j * 6 + 4 - j * 6 = 4 from by omega] at hcell4
      have hcell5 := hown.cellAt (j * 6 + 5) (by omega)
      rw [List.getElem?_append_right (by omega), hml, show j * 6 + 5 - j * 6 = 5 from by omega] at hcell5
      simp only [List.cons_append, List.getElem?_cons_zero, List.getElem?_cons_succ] at hcell0 hcell1 hcell2 hcell3 hcell4 hcell5
      obtain ⟨hst0, hgt0⟩ := hown.stored (j * 6) (.int .i64 (k + ((6 * j : Nat) : Int)))
      obtain ⟨hst1, hgt1⟩ := hst0.stored (j * 6 + 1) (.int .i64 (k + ((6 * j : Nat) : Int) + 1))
      obtain ⟨hst2, hgt2⟩ := hst1.stored (j * 6 + 2) (.int .i64 (k + ((6 * j : Nat) : Int) + 1 + 1))
      obtain ⟨hst3, hgt3⟩ := hst2.stored (j * 6 + 3) (.int .i64 (k + ((6 * j : Nat) : Int) + 1 + 1 + 1))
      obtain ⟨hst4, hgt4⟩ := hst3.stored (j * 6 + 4) (.int .i64 (k + ((6 * j : Nat) : Int) + 1 + 1 + 1 + 1))
      obtain ⟨hst5, hgt5⟩ := hst4.stored (j * 6 + 5) (.bool ((k + ((6 * j : Nat) : Int) + 1 + 1 + 1 + 1 + 1) % 3 == 0))
      rw [set_f6 _ _ _ _ _ _ _ _ _ _ _ _ _ _ _ hml] at hst5
      rw [show diffs (marksY k j) ++ ([.int .i64 (k + ((6 * j : Nat) : Int)), .int .i64 (k + ((6 * j : Nat) : Int) + 1), .int .i64 (k + ((6 * j : Nat) : Int) + 1 + 1), .int .i64 (k + ((6 * j : Nat) : Int) + 1 + 1 + 1), .int .i64 (k + ((6 * j : Nat) : Int) + 1 + 1 + 1 + 1), .bool ((k + ((6 * j : Nat) : Int) + 1 + 1 + 1 + 1 + 1) % 3 == 0)] ++ xs.drop ((j + 1) * 6)) = diffs (marksY k (j + 1)) ++ xs.drop ((j + 1) * 6) from by rw [marksY_succ, diffs_append, diffs_one, List.append_assoc]] at hst5
      have HH := Lib.hid hst5
      have HG := Lib.hid (((((((hg).trans hgt0).trans hgt1).trans hgt2).trans hgt3).trans hgt4).trans hgt5)
      have hj0 : 0 ≤ k + ((6 * j : Nat) : Int) := by omega
      generalize xs[j * 6] = y0 at hcell0
      generalize xs[j * 6 + 1] = y1 at hcell1
      generalize xs[j * 6 + 2] = y2 at hcell2
      generalize xs[j * 6 + 3] = y3 at hcell3
      generalize xs[j * 6 + 4] = y4 at hcell4
      generalize xs[j * 6 + 5] = y5 at hcell5
      clear hst0 hgt0 hst1 hgt1 hst2 hgt2 hst3 hgt3 hst4 hgt4 hst5 hgt5 hown hg hd h hxl hml
      go_wp2
      go_roundw
      case rel => exact ⟨j + 1, by omega, by go_num, by go_num, HH.out, HG.out⟩
      case measure => simp [intOf]; omega
    · go_wp2
      go_ret
      obtain rfl : j = n := by omega
      rw [List.drop_of_length_le (by omega), List.append_nil] at hown
      exact ⟨rfl, hown, hg⟩
set_option maxHeartbeats 1000000 in
theorem heldDiffS_any (A : Option Addr) (n c : Nat) (k : Int) (w : World) (h : RdV w A (diffs (marksY k n))) (h0 : 0 ≤ k) (hk : k + 6 * n ≤ 1099511627776) :
    Calls Try.prog 20 #[.slice A n c, .int .i64 k] w fun e w' => e = .returned (.int .i64 (k + ((6 * n : Nat) : Int))) ∧ Below w.heap.size w w' := by
  go_enter Try.func20, Try.ntmps20
  go_wp2
  go_loopw [1, 5] (fun kk i wr => ∃ j : Nat, j ≤ n ∧ i = .int .i64 j ∧ kk = .int .i64 (k + ((6 * j : Nat) : Int)) ∧ Below w.heap.size w wr) (fun _ i _ => n - (intOf i).toNat)
  case atStart => exact ⟨0, Nat.zero_le _, rfl, by simp, Below.refl _ _⟩
  case round =>
    obtain ⟨j, hj, rfl, rfl, hb⟩ := hrel
    by_cases hlt : j < n
    · have hjl : j < (marksY k n).length := by rw [marksY_len]; exact hlt
      obtain ⟨b, oo, rfl, hl, hc0, hc1, hc2, hc3, hc4, hc5⟩ := h.diffAt hjl
      have g0 : wr.cell? ⟨b, oo + j * 6, none⟩ = some (.int .i64 ((marksY k n)[j]).k) := (hb.cell (p := ⟨b, oo + j * 6, none⟩) hl).trans hc0
      have g1 : wr.cell? ⟨b, oo + j * 6 + 1, none⟩ = some (.int .i64 ((marksY k n)[j]).b.f0) := (hb.cell (p := ⟨b, oo + j * 6 + 1, none⟩) hl).trans hc1
      have g2 : wr.cell? ⟨b, oo + j * 6 + 2, none⟩ = some (.int .i64 ((marksY k n)[j]).b.f1) := (hb.cell (p := ⟨b, oo + j * 6 + 2, none⟩) hl).trans hc2
      have g3 : wr.cell? ⟨b, oo + j * 6 + 3, none⟩ = some (.int .i64 ((marksY k n)[j]).b.f2) := (hb.cell (p := ⟨b, oo + j * 6 + 3, none⟩) hl).trans hc3
      have g4 : wr.cell? ⟨b, oo + j * 6 + 4, none⟩ = some (.int .i64 ((marksY k n)[j]).b.f3) := (hb.cell (p := ⟨b, oo + j * 6 + 4, none⟩) hl).trans hc4
      have g5 : wr.cell? ⟨b, oo + j * 6 + 5, none⟩ = some (.bool ((marksY k n)[j]).b.f4) := (hb.cell (p := ⟨b, oo + j * 6 + 5, none⟩) hl).trans hc5
      rw [marksY_at] at g0 g1 g2 g3 g4 g5
      dsimp only at g0 g1 g2 g3 g4 g5
      have hne0 : ((k + ((6 * j : Nat) : Int)) != (k + ((6 * j : Nat) : Int))) = false := by simp
      have hne1 : ((k + ((6 * j : Nat) : Int) + 1) != (k + ((6 * j : Nat) : Int) + 1)) = false := by simp
      have hne2 : ((k + ((6 * j : Nat) : Int) + 1 + 1) != (k + ((6 * j : Nat) : Int) + 1 + 1)) = false := by simp
      have hne3 : ((k + ((6 * j : Nat) : Int) + 1 + 1 + 1) != (k + ((6 * j : Nat) : Int) + 1 + 1 + 1)) = false := by simp
      have hne4 : ((k + ((6 * j : Nat) : Int) + 1 + 1 + 1 + 1) != (k + ((6 * j : Nat) : Int) + 1 + 1 + 1 + 1)) = false := by simp
      have hne5 : (((k + ((6 * j : Nat) : Int) + 1 + 1 + 1 + 1 + 1) % 3 == 0) != ((k + ((6 * j : Nat) : Int) + 1 + 1 + 1 + 1 + 1) % 3 == 0)) = false := by simp
      have hj0 : 0 ≤ k + ((6 * j : Nat) : Int) := by omega
      clear hc0 hc1 hc2 hc3 hc4 hc5
      go_wp2
      go_roundw
      case rel => exact ⟨j + 1, by omega, by go_num, by go_num, hb⟩
      case measure => simp [intOf]; omega
    · go_wp2
      go_ret
      obtain rfl : j = n := by omega
      exact ⟨rfl, hb⟩
end Go.Proofs.Ytbhnlooellgfaaa
