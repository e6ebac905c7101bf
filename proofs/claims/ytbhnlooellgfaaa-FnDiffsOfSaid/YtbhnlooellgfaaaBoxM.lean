/- Lists of Box: marking them, reading the marks. -/
import Derived.Test.YtbhnlooellgfaaaBoxS
namespace Go.Proofs.Ytbhnlooellgfaaa
open Go Go.ChangeShapes Go.WideShapes Go.ChangeAt Go.RowKit
def marksX (k : Int) (n : Nat) : List BoxV := (List.range n).map fun (i : Nat) => ⟨k + ((5 * i : Nat) : Int), k + ((5 * i : Nat) : Int) + 1, k + ((5 * i : Nat) : Int) + 1 + 1, k + ((5 * i : Nat) : Int) + 1 + 1 + 1, (k + ((5 * i : Nat) : Int) + 1 + 1 + 1 + 1) % 3 == 0⟩
theorem marksX_len (k : Int) (n : Nat) : (marksX k n).length = n := by simp [marksX]
theorem marksX_succ (k : Int) (n : Nat) : marksX k (n + 1) = marksX k n ++ [⟨k + ((5 * n : Nat) : Int), k + ((5 * n : Nat) : Int) + 1, k + ((5 * n : Nat) : Int) + 1 + 1, k + ((5 * n : Nat) : Int) + 1 + 1 + 1, (k + ((5 * n : Nat) : Int) + 1 + 1 + 1 + 1) % 3 == 0⟩] := by simp [marksX, List.range_succ]
theorem marksX_at (k : Int) (n j : Nat) (h : j < (marksX k n).length) : (marksX k n)[j] = ⟨k + ((5 * j : Nat) : Int), k + ((5 * j : Nat) : Int) + 1, k + ((5 * j : Nat) : Int) + 1 + 1, k + ((5 * j : Nat) : Int) + 1 + 1 + 1, (k + ((5 * j : Nat) : Int) + 1 + 1 + 1 + 1) % 3 == 0⟩ := by simp [marksX]
theorem boxs_append (a b : List BoxV) : boxs (a ++ b) = boxs a ++ boxs b := cellsOf_append _ _ _
theorem boxs_one (a : BoxV) : boxs [a] = [.int .i64 a.f0, .int .i64 a.f1, .int .i64 a.f2, .int .i64 a.f3, .bool a.f4] := cellsOf_one _ _
theorem set_f5 (a r : List Value) (x0 x1 x2 x3 x4 y0 y1 y2 y3 y4 : Value) (o : Nat) (ho : a.length = o) : (((((a ++ ([x0, x1, x2, x3, x4] ++ r)).set (o) y0).set (o + 1) y1).set (o + 2) y2).set (o + 3) y3).set (o + 4) y4 = a ++ ([y0, y1, y2, y3, y4] ++ r) := by
  subst ho
  simp [List.set_append_right]
set_option maxHeartbeats 1000000 in
theorem markBoxS_any (A : Option Addr) (n c base : Nat) (k : Int) (xs : List Value) (w : World) (h : w.ownsRow base 40 5 (.slice A n c) n xs) (h0 : 0 ≤ k) (hk : k + 5 * n ≤ 1099511627776) :
    Calls Try.prog 14 #[.slice A n c, .int .i64 k] w fun e w' => e = .returned (.int .i64 (k + ((5 * n : Nat) : Int))) ∧ w'.ownsRow base 40 5 (.slice A n c) n (boxs (marksX k n)) ∧ w.grownBy w' (Value.ownBlock (.slice A n c)) := by
  go_enter Try.func14, Try.ntmps14
  go_wp2
  go_loopw [1, 5] (fun kk i wr => ∃ j : Nat, j ≤ n ∧ i = .int .i64 j ∧ kk = .int .i64 (k + ((5 * j : Nat) : Int)) ∧ wr.ownsRow base 40 5 (.slice A n c) n (boxs (marksX k j) ++ xs.drop (j * 5)) ∧ w.grownBy wr (Value.ownBlock (.slice A n c))) (fun _ i _ => n - (intOf i).toNat)
  case atStart => exact ⟨0, Nat.zero_le _, rfl, by simp, by simpa [marksX, boxs, cellsOf] using h, World.grownBy.refl _ _⟩
  case round =>
    obtain ⟨j, hj, rfl, rfl, hown, hg⟩ := hrel
    have hxl : xs.length = n * 5 := h.1
    by_cases hlt : j < n
    · rcases own_form hown with ⟨_, hn0, _⟩ | ⟨g, c', hv, _, _, _⟩
      · omega
      injection hv with hA _ hc'
      subst hA
      have hml : (boxs (marksX k j)).length = j * 5 := by rw [boxs_len, marksX_len]
      have hfz0 := hown.frozenAt (j * 5)
      have hfz1 := hown.frozenAt (j * 5 + 1)
      have hfz2 := hown.frozenAt (j * 5 + 2)
      have hfz3 := hown.frozenAt (j * 5 + 3)
      have hfz4 := hown.frozenAt (j * 5 + 4)
      have hd : xs.drop (j * 5) = [xs[j * 5], xs[j * 5 + 1], xs[j * 5 + 2], xs[j * 5 + 3], xs[j * 5 + 4]] ++ xs.drop ((j + 1) * 5) := by
        rw [List.drop_eq_getElem_cons (show j * 5 < xs.length by omega), List.drop_eq_getElem_cons (show j * 5 + 1 < xs.length by omega), List.drop_eq_getElem_cons (show j * 5 + 2 < xs.length by omega), List.drop_eq_getElem_cons (show j * 5 + 3 < xs.length by omega), List.drop_eq_getElem_cons (show j * 5 + 4 < xs.length by omega), show j * 5 + 4 + 1 = (j + 1) * 5 from by omega]
        rfl
      rw [hd] at hown
      have hcell0 := hown.cellAt (j * 5) (by omega)
      rw [List.getElem?_append_right (by omega), hml, show j * 5 - j * 5 = 0 from by omega] at hcell0
      have hcell1 := hown.cellAt (j * 5 + 1) (by omega)
      rw [List.getElem?_append_right (by omega), hml, show j * 5 + 1 - j * 5 = 1 from by omega] at hcell1
      have hcell2 := hown.cellAt (j * 5 + 2) (by omega)
      rw [List.getElem?_append_right (by omega), hml, show j * 5 + 2 - j * 5 = 2 from by omega] at hcell2
      have hcell3 := hown.cellAt (j * 5 + 3) (by omega)
      rw [List.getElem?_append_right (by omega), hml, show j * 5 + 3 - j * 5 = 3 from by omega] at hcell3
      have hcell4 := hown.cellAt (j * 5 + 4) (by omega)
      rw [List.getElem?_append_right (by omega), hml, show j * 5 + 4 - j * 5 = 4 from by omega] at hcell4
      simp only [List.cons_append, List.getElem?_cons_zero, List.getElem?_cons_succ] at hcell0 hcell1 hcell2 hcell3 hcell4
      obtain ⟨hst0, hgt0⟩ := hown.stored (j * 5) (.int .i64 (k + ((5 * j : Nat) : Int)))
      obtain ⟨hst1, hgt1⟩ := hst0.stored (j * 5 + 1) (.int .i64 (k + ((5 * j : Nat) : Int) + 1))
      obtain ⟨hst2, hgt2⟩ := hst1.stored (j * 5 + 2) (.int .i64 (k + ((5 * j : Nat) : Int) + 1 + 1))
      obtain ⟨hst3, hgt3⟩ := hst2.stored (j * 5 + 3) (.int .i64 (k + ((5 * j : Nat) : Int) + 1 + 1 + 1))
      obtain ⟨hst4, hgt4⟩ := hst3.stored (j * 5 + 4) (.bool ((k + ((5 * j : Nat) : Int) + 1 + 1 + 1 + 1) % 3 == 0))
      rw [set_f5 _ _ _ _ _ _ _ _ _ _ _ _ _ hml] at hst4
      rw [show boxs (marksX k j) ++ ([.int .i64 (k + ((5 * j : Nat) : Int)), .int .i64 (k + ((5 * j : Nat) : Int) + 1), .int .i64 (k + ((5 * j : Nat) : Int) + 1 + 1), .int .i64 (k + ((5 * j : Nat) : Int) + 1 + 1 + 1), .bool ((k + ((5 * j : Nat) : Int) + 1 + 1 + 1 + 1) % 3 == 0)] ++ xs.drop ((j + 1) * 5)) = boxs (marksX k (j + 1)) ++ xs.drop ((j + 1) * 5) from by rw [marksX_succ, boxs_append, boxs_one, List.append_assoc]] at hst4
      have HH := Lib.hid hst4
      have HG := Lib.hid ((((((hg).trans hgt0).trans hgt1).trans hgt2).trans hgt3).trans hgt4)
      have hj0 : 0 ≤ k + ((5 * j : Nat) : Int) := by omega
      generalize xs[j * 5] = y0 at hcell0
      generalize xs[j * 5 + 1] = y1 at hcell1
      generalize xs[j * 5 + 2] = y2 at hcell2
      generalize xs[j * 5 + 3] = y3 at hcell3
      generalize xs[j * 5 + 4] = y4 at hcell4
      clear hst0 hgt0 hst1 hgt1 hst2 hgt2 hst3 hgt3 hst4 hgt4 hown hg hd h hxl hml
      go_wp2
      go_roundw
      case rel => exact ⟨j + 1, by omega, by go_num, by go_num, HH.out, HG.out⟩
      case measure => simp [intOf]; omega
    · go_wp2
      go_ret
      obtain rfl : j = n := by omega
      rw [List.drop_of_length_le (by omega), List.append_nil] at hown
      exact ⟨rfl, hown, hg⟩
set_option maxHeartbeats 1000000 in
theorem heldBoxS_any (A : Option Addr) (n c : Nat) (k : Int) (w : World) (h : RdV w A (boxs (marksX k n))) (h0 : 0 ≤ k) (hk : k + 5 * n ≤ 1099511627776) :
    Calls Try.prog 15 #[.slice A n c, .int .i64 k] w fun e w' => e = .returned (.int .i64 (k + ((5 * n : Nat) : Int))) ∧ Below w.heap.size w w' := by
  go_enter Try.func15, Try.ntmps15
  go_wp2
  go_loopw [1, 5] (fun kk i wr => ∃ j : Nat, j ≤ n ∧ i = .int .i64 j ∧ kk = .int .i64 (k + ((5 * j : Nat) : Int)) ∧ Below w.heap.size w wr) (fun _ i _ => n - (intOf i).toNat)
  case atStart => exact ⟨0, Nat.zero_le _, rfl, by simp, Below.refl _ _⟩
  case round =>
    obtain ⟨j, hj, rfl, rfl, hb⟩ := hrel
    by_cases hlt : j < n
    · have hjl : j < (marksX k n).length := by rw [marksX_len]; exact hlt
      obtain ⟨b, oo, rfl, hl, hc0, hc1, hc2, hc3, hc4⟩ := h.boxAt hjl
      have g0 : wr.cell? ⟨b, oo + j * 5, none⟩ = some (.int .i64 ((marksX k n)[j]).f0) := (hb.cell (p := ⟨b, oo + j * 5, none⟩) hl).trans hc0
      have g1 : wr.cell? ⟨b, oo + j * 5 + 1, none⟩ = some (.int .i64 ((marksX k n)[j]).f1) := (hb.cell (p := ⟨b, oo + j * 5 + 1, none⟩) hl).trans hc1
      have g2 : wr.cell? ⟨b, oo + j * 5 + 2, none⟩ = some (.int .i64 ((marksX k n)[j]).f2) := (hb.cell (p := ⟨b, oo + j * 5 + 2, none⟩) hl).trans hc2
      have g3 : wr.cell? ⟨b, oo + j * 5 + 3, none⟩ = some (.int .i64 ((marksX k n)[j]).f3) := (hb.cell (p := ⟨b, oo + j * 5 + 3, none⟩) hl).trans hc3
      have g4 : wr.cell? ⟨b, oo + j * 5 + 4, none⟩ = some (.bool ((marksX k n)[j]).f4) := (hb.cell (p := ⟨b, oo + j * 5 + 4, none⟩) hl).trans hc4
      rw [marksX_at] at g0 g1 g2 g3 g4
      dsimp only at g0 g1 g2 g3 g4
      have hne0 : ((k + ((5 * j : Nat) : Int)) != (k + ((5 * j : Nat) : Int))) = false := by simp
      have hne1 : ((k + ((5 * j : Nat) : Int) + 1) != (k + ((5 * j : Nat) : Int) + 1)) = false := by simp
      have hne2 : ((k + ((5 * j : Nat) : Int) + 1 + 1) != (k + ((5 * j : Nat) : Int) + 1 + 1)) = false := by simp
      have hne3 : ((k + ((5 * j : Nat) : Int) + 1 + 1 + 1) != (k + ((5 * j : Nat) : Int) + 1 + 1 + 1)) = false := by simp
      have hne4 : (((k + ((5 * j : Nat) : Int) + 1 + 1 + 1 + 1) % 3 == 0) != ((k + ((5 * j : Nat) : Int) + 1 + 1 + 1 + 1) % 3 == 0)) = false := by simp
      have hj0 : 0 ≤ k + ((5 * j : Nat) : Int) := by omega
      clear hc0 hc1 hc2 hc3 hc4
      go_wp2
      go_roundw
      case rel => exact ⟨j + 1, by omega, by go_num, by go_num, hb⟩
      case measure => simp [intOf]; omega
    · go_wp2
      go_ret
      obtain rfl : j = n := by omega
      exact ⟨rfl, hb⟩
end Go.Proofs.Ytbhnlooellgfaaa
