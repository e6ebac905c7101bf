/- Lists of Hold and inboxes: marking them, reading the marks. -/
import Derived.Test.YtpkbipjnobfcdaaHldS
namespace Go.Proofs.Ytpkbipjnobfcdaa
open Go Go.ChangeShapes Go.WideShapes Go.ChangeAt Go.RowKit
def marksH (k : Int) (n : Nat) : List HoldV := (List.range n).map fun (i : Nat) => ⟨k + ((2 * i : Nat) : Int), k + ((2 * i : Nat) : Int) + 1⟩
theorem marksH_len (k : Int) (n : Nat) : (marksH k n).length = n := by simp [marksH]
theorem marksH_succ (k : Int) (n : Nat) : marksH k (n + 1) = marksH k n ++ [⟨k + ((2 * n : Nat) : Int), k + ((2 * n : Nat) : Int) + 1⟩] := by simp [marksH, List.range_succ]
theorem marksH_at (k : Int) (n j : Nat) (h : j < (marksH k n).length) : (marksH k n)[j] = ⟨k + ((2 * j : Nat) : Int), k + ((2 * j : Nat) : Int) + 1⟩ := by simp [marksH]
theorem holds_append (a b : List HoldV) : holds (a ++ b) = holds a ++ holds b := cellsOf_append _ _ _
theorem holds_one (a : HoldV) : holds [a] = [.int .i64 a.f0, .int .i64 a.f1] := cellsOf_one _ _
set_option maxHeartbeats 1000000 in
theorem markHoldS_any (A : Option Addr) (n c base : Nat) (k : Int) (xs : List Value) (w : World) (h : w.ownsRow base 38 2 (.slice A n c) n xs) (h0 : 0 ≤ k) (hk : k + 2 * n ≤ 1099511627776) :
    Calls Try.prog 63 #[.slice A n c, .int .i64 k] w fun e w' => e = .returned (.int .i64 (k + ((2 * n : Nat) : Int))) ∧ w'.ownsRow base 38 2 (.slice A n c) n (holds (marksH k n)) ∧ w.grownBy w' (Value.ownBlock (.slice A n c)) := by
  go_enter Try.func63, Try.ntmps63
  go_wp2
  go_loopw [1, 5] (fun kk i wr => ∃ j : Nat, j ≤ n ∧ i = .int .i64 j ∧ kk = .int .i64 (k + ((2 * j : Nat) : Int)) ∧ wr.ownsRow base 38 2 (.slice A n c) n (holds (marksH k j) ++ xs.drop (j * 2)) ∧ w.grownBy wr (Value.ownBlock (.slice A n c))) (fun _ i _ => n - (intOf i).toNat)
  case atStart => exact ⟨0, Nat.zero_le _, rfl, by simp, by simpa [marksH, holds, cellsOf] using h, World.grownBy.refl _ _⟩
  case round =>
    obtain ⟨j, hj, rfl, rfl, hown, hg⟩ := hrel
    have hxl : xs.length = n * 2 := h.1
    by_cases hlt : j < n
    · rcases own_form hown with ⟨_, hn0, _⟩ | ⟨g, c', hv, _, _, _⟩
      · omega
      injection hv with hA _ hc'
      subst hA
      have hml : (holds (marksH k j)).length = j * 2 := by rw [holds_len, marksH_len]
      have hfz := hown.frozenAt (j * 2)
      have hfz1 := hown.frozenAt (j * 2 + 1)
      have hd : xs.drop (j * 2) = [xs[j * 2], xs[j * 2 + 1]] ++ xs.drop ((j + 1) * 2) := by
        rw [List.drop_eq_getElem_cons (show j * 2 < xs.length by omega), List.drop_eq_getElem_cons (show j * 2 + 1 < xs.length by omega), show j * 2 + 1 + 1 = (j + 1) * 2 from by omega]
        rfl
      rw [hd] at hown
      have hcell := hown.cellAt (j * 2) (by omega)
      rw [List.getElem?_append_right (by omega), hml, Nat.sub_self] at hcell
      have hcell1 := hown.cellAt (j * 2 + 1) (by omega)
      rw [List.getElem?_append_right (by omega), hml, show j * 2 + 1 - j * 2 = 1 from by omega] at hcell1
      simp only [List.cons_append, List.getElem?_cons_zero, List.getElem?_cons_succ] at hcell hcell1
      have hst := hown.stored (j * 2) (.int .i64 (k + ((2 * j : Nat) : Int)))
      obtain ⟨hst1, hst2⟩ := hst
      have hst' := hst1.stored (j * 2 + 1) (.int .i64 (k + ((2 * j : Nat) : Int) + 1))
      obtain ⟨hst3, hst4⟩ := hst'
      rw [set_2 _ _ _ _ _ _ _ hml] at hst3
      rw [show holds (marksH k j) ++ ([.int .i64 (k + ((2 * j : Nat) : Int)), .int .i64 (k + ((2 * j : Nat) : Int) + 1)] ++ xs.drop ((j + 1) * 2)) = holds (marksH k (j + 1)) ++ xs.drop ((j + 1) * 2) from by rw [marksH_succ, holds_append, holds_one, List.append_assoc]] at hst3
      have HH := Lib.hid hst3
      have HG := Lib.hid ((hg.trans hst2).trans hst4)
      have hj0 : 0 ≤ k + ((2 * j : Nat) : Int) := by omega
      generalize xs[j * 2] = y0 at hcell
      generalize xs[j * 2 + 1] = y1 at hcell1
      clear hst1 hst2 hst3 hst4 hown hg hd h hxl hml
      go_wp2
      go_roundw
      case rel => exact ⟨j + 1, by omega, by go_num, by go_num, HH.out, HG.out⟩
      case measure => simp [intOf]; omega
    · go_wp2
      go_ret
      obtain rfl : j = n := by omega
      rw [List.drop_of_length_le (by omega), List.append_nil] at hown
      exact ⟨rfl, hown, hg⟩
set_option maxHeartbeats 1000000 in
theorem heldHoldS_any (A : Option Addr) (n c : Nat) (k : Int) (w : World) (h : RdV w A (holds (marksH k n))) (h0 : 0 ≤ k) (hk : k + 2 * n ≤ 1099511627776) :
    Calls Try.prog 65 #[.slice A n c, .int .i64 k] w fun e w' => e = .returned (.int .i64 (k + ((2 * n : Nat) : Int))) ∧ Below w.heap.size w w' := by
  go_enter Try.func65, Try.ntmps65
  go_wp2
  go_loopw [1, 5] (fun kk i wr => ∃ j : Nat, j ≤ n ∧ i = .int .i64 j ∧ kk = .int .i64 (k + ((2 * j : Nat) : Int)) ∧ Below w.heap.size w wr) (fun _ i _ => n - (intOf i).toNat)
  case atStart => exact ⟨0, Nat.zero_le _, rfl, by simp, Below.refl _ _⟩
  case round =>
    obtain ⟨j, hj, rfl, rfl, hb⟩ := hrel
    by_cases hlt : j < n
    · have hjl : j < (marksH k n).length := by rw [marksH_len]; exact hlt
      obtain ⟨b, oo, rfl, hl, hc0, hc1⟩ := h.holdAt hjl
      have h0 : wr.cell? ⟨b, oo + j * 2, none⟩ = some (.int .i64 ((marksH k n)[j]).f0) := (hb.cell (p := ⟨b, oo + j * 2, none⟩) hl).trans hc0
      have h1 : wr.cell? ⟨b, oo + j * 2 + 1, none⟩ = some (.int .i64 ((marksH k n)[j]).f1) := (hb.cell (p := ⟨b, oo + j * 2 + 1, none⟩) hl).trans hc1
      rw [marksH_at] at h0 h1
      dsimp only at h0 h1
      have hne : ((k + ((2 * j : Nat) : Int)) != (k + ((2 * j : Nat) : Int))) = false := by simp
      have hne1 : ((k + ((2 * j : Nat) : Int) + 1) != (k + ((2 * j : Nat) : Int) + 1)) = false := by simp
      have hj0 : 0 ≤ k + ((2 * j : Nat) : Int) := by omega
      clear hc0 hc1
      go_wp2
      go_roundw
      case rel => exact ⟨j + 1, by omega, by go_num, by go_num, hb⟩
      case measure => simp [intOf]; omega
    · go_wp2
      go_ret
      obtain rfl : j = n := by omega
      exact ⟨rfl, hb⟩
end Go.Proofs.Ytpkbipjnobfcdaa
