/- Lists of PaperDeed: marking them, reading the marks. -/
import Derived.Test.YtpkbipjnobfcdaaDedS
namespace Go.Proofs.Ytpkbipjnobfcdaa
open Go Go.ChangeShapes Go.WideShapes Go.ChangeAt Go.RowKit
def marksD (k : Int) (n : Nat) : List PaperDeedV := (List.range n).map fun (i : Nat) => ⟨k + ((3 * i : Nat) : Int), k + ((3 * i : Nat) : Int) + 1, k + ((3 * i : Nat) : Int) + 1 + 1⟩
theorem marksD_len (k : Int) (n : Nat) : (marksD k n).length = n := by simp [marksD]
theorem marksD_succ (k : Int) (n : Nat) : marksD k (n + 1) = marksD k n ++ [⟨k + ((3 * n : Nat) : Int), k + ((3 * n : Nat) : Int) + 1, k + ((3 * n : Nat) : Int) + 1 + 1⟩] := by simp [marksD, List.range_succ]
theorem marksD_at (k : Int) (n j : Nat) (h : j < (marksD k n).length) : (marksD k n)[j] = ⟨k + ((3 * j : Nat) : Int), k + ((3 * j : Nat) : Int) + 1, k + ((3 * j : Nat) : Int) + 1 + 1⟩ := by simp [marksD]
theorem paperdeeds_append (a b : List PaperDeedV) : paperdeeds (a ++ b) = paperdeeds a ++ paperdeeds b := cellsOf_append _ _ _
theorem paperdeeds_one (a : PaperDeedV) : paperdeeds [a] = [.int .i64 a.f0, .int .i64 a.f1, .int .i64 a.f2] := cellsOf_one _ _
theorem set_f3 (a r : List Value) (x0 x1 x2 y0 y1 y2 : Value) (o : Nat) (ho : a.length = o) : (((a ++ ([x0, x1, x2] ++ r)).set (o) y0).set (o + 1) y1).set (o + 2) y2 = a ++ ([y0, y1, y2] ++ r) := by
  subst ho
  simp [List.set_append_right]
set_option maxHeartbeats 1000000 in
theorem markPaperDeedS_any (A : Option Addr) (n c base : Nat) (k : Int) (xs : List Value) (w : World) (h : w.ownsRow base 41 3 (.slice A n c) n xs) (h0 : 0 ≤ k) (hk : k + 3 * n ≤ 1099511627776) :
    Calls Try.prog 37 #[.slice A n c, .int .i64 k] w fun e w' => e = .returned (.int .i64 (k + ((3 * n : Nat) : Int))) ∧ w'.ownsRow base 41 3 (.slice A n c) n (paperdeeds (marksD k n)) ∧ w.grownBy w' (Value.ownBlock (.slice A n c)) := by
  go_enter Try.func37, Try.ntmps37
  go_wp2
  go_loopw [1, 5] (fun kk i wr => ∃ j : Nat, j ≤ n ∧ i = .int .i64 j ∧ kk = .int .i64 (k + ((3 * j : Nat) : Int)) ∧ wr.ownsRow base 41 3 (.slice A n c) n (paperdeeds (marksD k j) ++ xs.drop (j * 3)) ∧ w.grownBy wr (Value.ownBlock (.slice A n c))) (fun _ i _ => n - (intOf i).toNat)
  case atStart => exact ⟨0, Nat.zero_le _, rfl, by simp, by simpa [marksD, paperdeeds, cellsOf] using h, World.grownBy.refl _ _⟩
  case round =>
    obtain ⟨j, hj, rfl, rfl, hown, hg⟩ := hrel
    have hxl : xs.length = n * 3 := h.1
    by_cases hlt : j < n
    · rcases own_form hown with ⟨_, hn0, _⟩ | ⟨g, c', hv, _, _, _⟩
      · omega
      injection hv with hA _ hc'
      subst hA
      have hml : (paperdeeds (marksD k j)).length = j * 3 := by rw [paperdeeds_len, marksD_len]
      have hfz0 := hown.frozenAt (j * 3)
      have hfz1 := hown.frozenAt (j * 3 + 1)
      have hfz2 := hown.frozenAt (j * 3 + 2)
      have hd : xs.drop (j * 3) = [xs[j * 3], xs[j * 3 + 1], xs[j * 3 + 2]] ++ xs.drop ((j + 1) * 3) := by
        rw [List.drop_eq_getElem_cons (show j * 3 < xs.length by omega), List.drop_eq_getElem_cons (show j * 3 + 1 < xs.length by omega), List.drop_eq_getElem_cons (show j * 3 + 2 < xs.length by omega), show j * 3 + 2 + 1 = (j + 1) * 3 from by omega]
        rfl
      rw [hd] at hown
      have hcell0 := hown.cellAt (j * 3) (by omega)
      rw [List.getElem?_append_right (by omega), hml, show j * 3 - j * 3 = 0 from by omega] at hcell0
      have hcell1 := hown.cellAt (j * 3 + 1) (by omega)
      rw [List.getElem?_append_right (by omega), hml, show j * 3 + 1 - j * 3 = 1 from by omega] at hcell1
      have hcell2 := hown.cellAt (j * 3 + 2) (by omega)
      rw [List.getElem?_append_right (by omega), hml, show j * 3 + 2 - j * 3 = 2 from by omega] at hcell2
      simp only [List.cons_append, List.getElem?_cons_zero, List.getElem?_cons_succ] at hcell0 hcell1 hcell2
      obtain ⟨hst0, hgt0⟩ := hown.stored (j * 3) (.int .i64 (k + ((3 * j : Nat) : Int)))
      obtain ⟨hst1, hgt1⟩ := hst0.stored (j * 3 + 1) (.int .i64 (k + ((3 * j : Nat) : Int) + 1))
      obtain ⟨hst2, hgt2⟩ := hst1.stored (j * 3 + 2) (.int .i64 (k + ((3 * j : Nat) : Int) + 1 + 1))
      rw [set_f3 _ _ _ _ _ _ _ _ _ hml] at hst2
      rw [show paperdeeds (marksD k j) ++ ([.int .i64 (k + ((3 * j : Nat) : Int)), .int .i64 (k + ((3 * j : Nat) : Int) + 1), .int .i64 (k + ((3 * j : Nat) : Int) + 1 + 1)] ++ xs.drop ((j + 1) * 3)) = paperdeeds (marksD k (j + 1)) ++ xs.drop ((j + 1) * 3) from by rw [marksD_succ, paperdeeds_append, paperdeeds_one, List.append_assoc]] at hst2
      have HH := Lib.hid hst2
      have HG := Lib.hid ((((hg).trans hgt0).trans hgt1).trans hgt2)
      have hj0 : 0 ≤ k + ((3 * j : Nat) : Int) := by omega
      generalize xs[j * 3] = y0 at hcell0
      generalize xs[j * 3 + 1] = y1 at hcell1
      generalize xs[j * 3 + 2] = y2 at hcell2
      clear hst0 hgt0 hst1 hgt1 hst2 hgt2 hown hg hd h hxl hml
      go_wp2
      go_roundw
      case rel => exact ⟨j + 1, by omega, by go_num, by go_num, HH.out, HG.out⟩
      case measure => simp [intOf]; omega
    · go_wp2
      go_ret
      obtain rfl : j = n := by omega
      rw [List.drop_of_length_le (by omega), List.append_nil] at hown
      exact ⟨rfl, hown, hg⟩
end Go.Proofs.Ytpkbipjnobfcdaa
