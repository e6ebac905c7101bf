/- Lists of numbers and truths: comparing, marking, reading the marks. -/
import Derived.Test.YtpkbipjnobfcdaaIntM
import Derived.Test.YtpkbipjnobfcdaaProg
import Derived.Deep.QuietTactic
import Derived.BigQuiet
namespace Go.Proofs.Ytpkbipjnobfcdaa
open Go.ChangeShapes Go.WideShapes Go.ChangeAt Go.RowKit

theorem eqBoolS_any (A B : Option Addr) (zs : List Bool) (n c d : Nat) (hzn : zs.length = n) (w : World) (ha : RdV w A (bools zs)) (hb : RdV w B (bools zs)) (hn : n ≤ 1099511627776) :
    Calls Try.prog 35 #[.slice A n c, .slice B n d] w fun e w' => e = .returned (.bool true) ∧ Below w.heap.size w w' := by
  have HZ := Lib.hid hzn
  clear hzn
  have hne : ((n : Int) != (n : Int)) = false := by simp
  go_enter Try.func35, Try.ntmps35
  go_wp2
  go_loopw [5] (fun i wr => ∃ k : Nat, k ≤ n ∧ i = .int .i64 k ∧ Below w.heap.size w wr) (fun i _ => n - (intOf i).toNat)
  case atStart => exact ⟨0, Nat.zero_le _, rfl, Below.refl _ _⟩
  case round =>
    obtain ⟨k, hk, rfl, hbl⟩ := hrel
    by_cases hlt : k < n
    · have hkl : k < (bools zs).length := by rw [bools_len, HZ.out]; exact hlt
      obtain ⟨b1, o1, rfl, hl1, hc1⟩ := ha.pos hkl
      obtain ⟨b2, o2, rfl, hl2, hc2⟩ := hb.pos hkl
      have h1 : wr.cell? ⟨b1, o1 + k, none⟩ = some (bools zs)[k] := (hbl.cell (p := ⟨b1, o1 + k, none⟩) hl1).trans (hc1 k hkl)
      have h2 : wr.cell? ⟨b2, o2 + k, none⟩ = some (bools zs)[k] := (hbl.cell (p := ⟨b2, o2 + k, none⟩) hl2).trans (hc2 k hkl)
      rw [bools_at] at h1 h2
      generalize (zs[k]'(by rw [HZ.out]; exact hlt)) = x at h1 h2
      have hx : (x != x) = false := by simp
      have hki : (k : Int) < (n : Int) := by omega
      clear hc1 hc2
      go_wp2
      go_quiet (fail)
      go_wp2
      go_roundw
      case rel => exact ⟨k + 1, by omega, by go_num, below_drewN hbl _⟩
      case measure => simp [intOf]; omega
    · go_wp2
      go_ret
      exact ⟨rfl, hbl⟩
theorem markBoolS_any (A : Option Addr) (n c base : Nat) (k : Int) (xs : List Value) (w : World) (h : w.ownsRow base 4 1 (.slice A n c) n xs) (h0 : 0 ≤ k) (hk : k + n ≤ 1099511627776) :
    Calls Try.prog 38 #[.slice A n c, .int .i64 k] w fun e w' => e = .returned (.int .i64 (k + n)) ∧ w'.ownsRow base 4 1 (.slice A n c) n (bools (marksB k n)) ∧ w.grownBy w' (Value.ownBlock (.slice A n c)) := by
  go_enter Try.func38, Try.ntmps38
  go_wp2
  go_loopw [1, 5] (fun kk i wr => ∃ j : Nat, j ≤ n ∧ i = .int .i64 j ∧ kk = .int .i64 (k + j) ∧ wr.ownsRow base 4 1 (.slice A n c) n (bools (marksB k j) ++ xs.drop j) ∧ w.grownBy wr (Value.ownBlock (.slice A n c))) (fun _ i _ => n - (intOf i).toNat)
  case atStart => exact ⟨0, Nat.zero_le _, rfl, by simp, by simpa [marksB, bools] using h, World.grownBy.refl _ _⟩
  case round =>
    obtain ⟨j, hj, rfl, rfl, hown, hg⟩ := hrel
    have hxl : xs.length = n := by simpa using h.1
    by_cases hlt : j < n
    · rcases own_form hown with ⟨_, hn0, _⟩ | ⟨g, c', hv, _, _, _⟩
      · omega
      injection hv with hA _ hc'
      subst hA
      have hj1 : j < (bools (marksB k j) ++ xs.drop j).length := by rw [List.length_append, bools_len, marksB_len, List.length_drop]; omega
      have hcell := hown.cellAt j (by omega)
      rw [List.getElem?_eq_getElem hj1] at hcell
      have hfz := hown.frozenAt j
      have hst := hown.stored j (.bool ((k + (j : Int)) % 3 == 0))
      have hset : (bools (marksB k j) ++ xs.drop j).set j (.bool ((k + (j : Int)) % 3 == 0)) = bools (marksB k (j + 1)) ++ xs.drop (j + 1) := by
        rw [List.set_append_right _ _ (by rw [bools_len, marksB_len]; exact Nat.le_refl _), bools_len, marksB_len, Nat.sub_self, List.drop_eq_getElem_cons (by omega), List.set_cons_zero, marksB_succ]
        simp [bools]
      rw [hset] at hst
      obtain ⟨hst1, hst2⟩ := hst
      have HH := Lib.hid hst1
      have HG := Lib.hid (hg.trans hst2)
      have hj0 : 0 ≤ k + (j : Int) := by omega
      generalize (bools (marksB k j) ++ xs.drop j)[j] = y at hcell
      clear hst1 hst2 hset hxl hg
      go_wp2
      go_roundw
      case rel => exact ⟨j + 1, by omega, by go_num, by go_num, HH.out, HG.out⟩
      case measure => simp [intOf]; omega
    · go_wp2
      go_ret
      obtain rfl : j = n := by omega
      rw [List.drop_of_length_le (by omega), List.append_nil] at hown
      exact ⟨rfl, hown, hg⟩
theorem heldBoolS_any (A : Option Addr) (n c : Nat) (k : Int) (w : World) (h : RdV w A (bools (marksB k n))) (h0 : 0 ≤ k) (hk : k + n ≤ 1099511627776) :
    Calls Try.prog 39 #[.slice A n c, .int .i64 k] w fun e w' => e = .returned (.int .i64 (k + n)) ∧ Below w.heap.size w w' := by
  go_enter Try.func39, Try.ntmps39
  go_wp2
  go_loopw [1, 5] (fun kk i wr => ∃ j : Nat, j ≤ n ∧ i = .int .i64 j ∧ kk = .int .i64 (k + j) ∧ Below w.heap.size w wr) (fun _ i _ => n - (intOf i).toNat)
  case atStart => exact ⟨0, Nat.zero_le _, rfl, by simp, Below.refl _ _⟩
  case round =>
    obtain ⟨j, hj, rfl, rfl, hb⟩ := hrel
    by_cases hlt : j < n
    · have hjl : j < (bools (marksB k n)).length := by rw [bools_len, marksB_len]; exact hlt
      obtain ⟨b, off, rfl, hlb, hc⟩ := h.pos hjl
      have hsrc : wr.cell? ⟨b, off + j, none⟩ = some (bools (marksB k n))[j] := (hb.cell (p := ⟨b, off + j, none⟩) hlb).trans (hc j hjl)
      rw [bools_at, marksB_at] at hsrc
      have hne : (((k + (j : Int)) % 3 == 0) != ((k + (j : Int)) % 3 == 0)) = false := by simp
      have hj0 : 0 ≤ k + (j : Int) := by omega
      clear hc
      go_wp2
      go_roundw
      case rel => exact ⟨j + 1, by omega, by go_num, by go_num, hb⟩
      case measure => simp [intOf]; omega
    · go_wp2
      go_ret
      obtain rfl : j = n := by omega
      exact ⟨rfl, hb⟩
end Go.Proofs.Ytpkbipjnobfcdaa
