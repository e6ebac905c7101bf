/- Lists of Message and inboxes: marking them, reading the marks. -/
import Derived.Test.YtnbppfgfmhfgdaaInbX
namespace Go.Proofs.Ytnbppfgfmhfgdaa
open Go Go.ChangeShapes Go.WideShapes Go.ChangeAt Go.RowKit
def marksM (k : Int) (n : Nat) : List MessageV := (List.range n).map fun (i : Nat) => ⟨k + ((2 * i : Nat) : Int), k + ((2 * i : Nat) : Int) + 1⟩
theorem marksM_len (k : Int) (n : Nat) : (marksM k n).length = n := by simp [marksM]
theorem marksM_succ (k : Int) (n : Nat) : marksM k (n + 1) = marksM k n ++ [⟨k + ((2 * n : Nat) : Int), k + ((2 * n : Nat) : Int) + 1⟩] := by simp [marksM, List.range_succ]
theorem marksM_at (k : Int) (n j : Nat) (h : j < (marksM k n).length) : (marksM k n)[j] = ⟨k + ((2 * j : Nat) : Int), k + ((2 * j : Nat) : Int) + 1⟩ := by simp [marksM]
theorem messages_append (a b : List MessageV) : messages (a ++ b) = messages a ++ messages b := cellsOf_append _ _ _
theorem messages_one (a : MessageV) : messages [a] = [.int .i64 a.f0, .int .i64 a.f1] := cellsOf_one _ _
set_option maxHeartbeats 1000000 in
theorem markMessageS_any (A : Option Addr) (n c base : Nat) (k : Int) (xs : List Value) (w : World) (h : w.ownsRow base 41 2 (.slice A n c) n xs) (h0 : 0 ≤ k) (hk : k + 2 * n ≤ 1099511627776) :
    Calls Try.prog 36 #[.slice A n c, .int .i64 k] w fun e w' => e = .returned (.int .i64 (k + ((2 * n : Nat) : Int))) ∧ w'.ownsRow base 41 2 (.slice A n c) n (messages (marksM k n)) ∧ w.grownBy w' (Value.ownBlock (.slice A n c)) := by
  go_enter Try.func36, Try.ntmps36
  go_wp2
  go_loopw [1, 5] (fun kk i wr => ∃ j : Nat, j ≤ n ∧ i = .int .i64 j ∧ kk = .int .i64 (k + ((2 * j : Nat) : Int)) ∧ wr.ownsRow base 41 2 (.slice A n c) n (messages (marksM k j) ++ xs.drop (j * 2)) ∧ w.grownBy wr (Value.ownBlock (.slice A n c))) (fun _ i _ => n - (intOf i).toNat)
  case atStart => exact ⟨0, Nat.zero_le _, rfl, by simp, by simpa [marksM, messages, cellsOf] using h, World.grownBy.refl _ _⟩
  case round =>
    obtain ⟨j, hj, rfl, rfl, hown, hg⟩ := hrel
    have hxl : xs.length = n * 2 := h.1
    by_cases hlt : j < n
    · rcases own_form hown with ⟨_, hn0, _⟩ | ⟨g, c', hv, _, _, _⟩
      · omega
      injection hv with hA _ hc'
      subst hA
      have hml : (messages (marksM k j)).length = j * 2 := by rw [messages_len, marksM_len]
      have hfz := hown.frozenAt (j * 2)
      have hfz1 := hown.frozenAt (j * 2 + 1)
      have hd : xs.drop (j * 2) = [xs[j * 2], xs[j * 2 + 1]] ++ xs.drop ((j + 1) * 2) := by
        rw [List.drop_eq_getElem_cons (show j * 2 < xs.length by omega), List.drop_eq_getElem_cons (show j * 2 + 1 < xs.length by omega), show j * 2 + 1 + 1 = (j + 1) * 2 from by omega]
        rfl
      rw [hd] at hown
      have hcell := hown.cellAt (j * 2) (by omega)
      rw [List.getElem?_append_right (by omega), hml, Nat.sub_self] at hcell
      have hcell1 := hown.cellAt (j * 2 + 1) (by omega)
      rw [List.getElem?_append_right (by omega), hml, show j * 2 + 1 - j * 2 = 1 from by omega] at hcell1
      simp only [List.cons_append, List.getElem?_cons_zero, List.getElem?_cons_succ] at hcell hcell1
      have hst := hown.stored (j * 2) (.int .i64 (k + ((2 * j : Nat) : Int)))
      obtain ⟨hst1, hst2⟩ := hst
      have hst' := hst1.stored (j * 2 + 1) (.int .i64 (k + ((2 * j : Nat) : Int) + 1))
      obtain ⟨hst3, hst4⟩ := hst'
      rw [set_2 _ _ _ _ _ _ _ hml] at hst3
      rw [show messages (marksM k j) ++ ([.int .i64 (k + ((2 * j : Nat) : Int)), .int .i64 (k + ((2 * j : Nat) : Int) + 1)] ++ xs.drop ((j + 1) * 2)) = messages (marksM k (j + 1)) ++ xs.drop ((j + 1) * 2) from by rw [marksM_succ, messages_append, messages_one, List.append_assoc]] at hst3
      have HH := Lib.hid hst3
      have HG := Lib.hid ((hg.trans hst2).trans hst4)
      have hj0 : 0 ≤ k + ((2 * j : Nat) : Int) := by omega
      generalize xs[j * 2] = y0 at hcell
      generalize xs[j * 2 + 1] = y1 at hcell1
      clear hst1 hst2 hst3 hst4 hown hg hd h hxl hml
      go_wp2
      go_roundw
      case rel => exact ⟨j + 1, by omega, by go_num, by go_num, HH.out, HG.out⟩
      case measure => simp [intOf]; omega
    · go_wp2
      go_ret
      obtain rfl : j = n := by omega
      rw [List.drop_of_length_le (by omega), List.append_nil] at hown
      exact ⟨rfl, hown, hg⟩
set_option maxHeartbeats 1000000 in
theorem heldMessageS_any (A : Option Addr) (n c : Nat) (k : Int) (w : World) (h : RdV w A (messages (marksM k n))) (h0 : 0 ≤ k) (hk : k + 2 * n ≤ 1099511627776) :
    Calls Try.prog 51 #[.slice A n c, .int .i64 k] w fun e w' => e = .returned (.int .i64 (k + ((2 * n : Nat) : Int))) ∧ Below w.heap.size w w' := by
  go_enter Try.func51, Try.ntmps51
  go_wp2
  go_loopw [1, 5] (fun kk i wr => ∃ j : Nat, j ≤ n ∧ i = .int .i64 j ∧ kk = .int .i64 (k + ((2 * j : Nat) : Int)) ∧ Below w.heap.size w wr) (fun _ i _ => n - (intOf i).toNat)
  case atStart => exact ⟨0, Nat.zero_le _, rfl, by simp, Below.refl _ _⟩
  case round =>
    obtain ⟨j, hj, rfl, rfl, hb⟩ := hrel
    by_cases hlt : j < n
    · have hjl : j < (marksM k n).length := by rw [marksM_len]; exact hlt
      obtain ⟨b, oo, rfl, hl, hc0, hc1⟩ := h.messageAt hjl
      have h0 : wr.cell? ⟨b, oo + j * 2, none⟩ = some (.int .i64 ((marksM k n)[j]).f0) := (hb.cell (p := ⟨b, oo + j * 2, none⟩) hl).trans hc0
      have h1 : wr.cell? ⟨b, oo + j * 2 + 1, none⟩ = some (.int .i64 ((marksM k n)[j]).f1) := (hb.cell (p := ⟨b, oo + j * 2 + 1, none⟩) hl).trans hc1
      rw [marksM_at] at h0 h1
      dsimp only at h0 h1
      have hne : ((k + ((2 * j : Nat) : Int)) != (k + ((2 * j : Nat) : Int))) = false := by simp
      have hne1 : ((k + ((2 * j : Nat) : Int) + 1) != (k + ((2 * j : Nat) : Int) + 1)) = false := by simp
      have hj0 : 0 ≤ k + ((2 * j : Nat) : Int) := by omega
      clear hc0 hc1
      go_wp2
      go_roundw
      case rel => exact ⟨j + 1, by omega, by go_num, by go_num, hb⟩
      case measure => simp [intOf]; omega
    · go_wp2
      go_ret
      obtain rfl : j = n := by omega
      exact ⟨rfl, hb⟩
theorem markInbox_any (next : Int) (A : Option Addr) (n c lo hi : Nat) (k : Int) (xs : List Value) (w : World) (h : OwnI w lo hi 41 2 (.slice A n c) n xs) (h0 : 0 ≤ k) (hk : k + 2 * n ≤ 1099511627776) :
    Calls Try.prog 19 #[.agg #[.int .i64 next, .slice A n c], .int .i64 k] w fun e w' => e = .returned (.int .i64 (k + ((2 * n : Nat) : Int))) ∧ OwnI w' lo hi 41 2 (.slice A n c) n (messages (marksM k n)) ∧ Out lo hi w w' := by
  have hbl : Below w.heap.size w (w.alloc (.cells #[.int .i64 next, .slice A n c] 29)) := (Below.refl _ _).alloc (Nat.le_refl _) _
  have h1 := h.later hbl
  have HO := Lib.hid (Below.out hbl lo hi)
  clear hbl h
  go_enter Try.func19, Try.ntmps19
  go_wp2_with fail
  refine (markMessageS_any A n c lo k xs _ h1.row h0 hk).mono ?_
  rintro e w1 ⟨rfl, hrow, hgr⟩
  obtain ⟨h2, ho2⟩ := h1.turned hrow hgr
  have HO2 := Lib.hid (HO.out.trans ho2)
  clear hrow hgr ho2 h1
  go_wp2_with fail
  go_ret
  exact ⟨rfl, h2, HO2.out⟩
theorem heldInbox_any (next : Int) (A : Option Addr) (n c : Nat) (k : Int) (w : World) (h : RdV w A (messages (marksM k n))) (h0 : 0 ≤ k) (hk : k + 2 * n ≤ 1099511627776) :
    Calls Try.prog 27 #[.agg #[.int .i64 next, .slice A n c], .int .i64 k] w fun e w' => e = .returned (.int .i64 (k + ((2 * n : Nat) : Int))) ∧ Below w.heap.size w w' := by
  have hbl : Below w.heap.size w (w.alloc (.cells #[.int .i64 next, .slice A n c] 29)) := (Below.refl _ _).alloc (Nat.le_refl _) _
  have h1 := h.below hbl
  have HB := Lib.hid hbl
  clear hbl h
  go_enter Try.func27, Try.ntmps27
  go_wp2_with fail
  refine (heldMessageS_any A n c k _ h1 h0 hk).mono ?_
  rintro e w1 ⟨rfl, hb1⟩
  have hnn : 0 ≤ k + ((2 * n : Nat) : Int) := by omega
  have HB1 := Lib.hid (below_trans HB.out hb1)
  clear hb1
  go_wp2_with fail
  go_ret
  exact ⟨rfl, HB1.out⟩
end Go.Proofs.Ytnbppfgfmhfgdaa
