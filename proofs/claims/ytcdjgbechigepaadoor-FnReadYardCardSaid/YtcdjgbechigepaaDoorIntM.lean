/- Lists of numbers and truths: comparing, marking, reading the marks. -/
import Derived.Test.YtcdjgbechigepaaDoorOwn
import Derived.Test.YtcdjgbechigepaaDoorProg
import Derived.Deep.QuietTactic
import Derived.BigQuiet
namespace Go.Proofs.YtcdjgbechigepaaDoor
open Go.ChangeShapes Go.WideShapes Go.ChangeAt Go.RowKit

/-- the marks k, k + 1 and so on; and whether each is a multiple of 3 -/
def marksI (k : Int) (n : Nat) : List Int := (List.range n).map fun (i : Nat) => k + (i : Int)
def marksB (k : Int) (n : Nat) : List Bool := (List.range n).map fun (i : Nat) => (k + (i : Int)) % 3 == 0
theorem marksI_len (k : Int) (n : Nat) : (marksI k n).length = n := by simp [marksI]
theorem marksB_len (k : Int) (n : Nat) : (marksB k n).length = n := by simp [marksB]
theorem marksI_succ (k : Int) (n : Nat) : marksI k (n + 1) = marksI k n ++ [k + (n : Int)] := by simp [marksI, List.range_succ]
theorem marksB_succ (k : Int) (n : Nat) : marksB k (n + 1) = marksB k n ++ [(k + (n : Int)) % 3 == 0] := by simp [marksB, List.range_succ]
theorem marksI_at (k : Int) (n j : Nat) (h : j < (marksI k n).length) : (marksI k n)[j] = k + (j : Int) := by simp [marksI]
theorem marksB_at (k : Int) (n j : Nat) (h : j < (marksB k n).length) : (marksB k n)[j] = ((k + (j : Int)) % 3 == 0) := by simp [marksB]
theorem eqIntS_any (A B : Option Addr) (zs : List Int) (n c d : Nat) (hzn : zs.length = n) (w : World) (ha : RdV w A (ints zs)) (hb : RdV w B (ints zs)) (hn : n ≤ 1099511627776) :
    Calls Tryd.prog 42 #[.slice A n c, .slice B n d] w fun e w' => e = .returned (.bool true) ∧ Below w.heap.size w w' := by
  have HZ := Lib.hid hzn
  clear hzn
  have hne : ((n : Int) != (n : Int)) = false := by simp
  go_enter Tryd.func42, Tryd.ntmps42
  go_wp2
  go_loopw [5] (fun i wr => ∃ k : Nat, k ≤ n ∧ i = .int .i64 k ∧ Below w.heap.size w wr) (fun i _ => n - (intOf i).toNat)
  case atStart => exact ⟨0, Nat.zero_le _, rfl, Below.refl _ _⟩
  case round =>
    obtain ⟨k, hk, rfl, hbl⟩ := hrel
    by_cases hlt : k < n
    · have hkl : k < (ints zs).length := by rw [ints_len, HZ.out]; exact hlt
      obtain ⟨b1, o1, rfl, hl1, hc1⟩ := ha.pos hkl
      obtain ⟨b2, o2, rfl, hl2, hc2⟩ := hb.pos hkl
      have h1 : wr.cell? ⟨b1, o1 + k, none⟩ = some (ints zs)[k] := (hbl.cell (p := ⟨b1, o1 + k, none⟩) hl1).trans (hc1 k hkl)
      have h2 : wr.cell? ⟨b2, o2 + k, none⟩ = some (ints zs)[k] := (hbl.cell (p := ⟨b2, o2 + k, none⟩) hl2).trans (hc2 k hkl)
      rw [ints_at] at h1 h2
      generalize (zs[k]'(by rw [HZ.out]; exact hlt)) = x at h1 h2
      have hx : (x != x) = false := by simp
      have hki : (k : Int) < (n : Int) := by omega
      clear hc1 hc2
      go_wp2
      go_quiet (fail)
      go_wp2
      go_roundw
      case rel => exact ⟨k + 1, by omega, by go_num, below_drewN hbl _⟩
      case measure => simp [intOf]; omega
    · go_wp2
      go_ret
      exact ⟨rfl, hbl⟩
theorem markIntS_any (A : Option Addr) (n c base : Nat) (k : Int) (xs : List Value) (w : World) (h : w.ownsRow base 3 1 (.slice A n c) n xs) (h0 : 0 ≤ k) (hk : k + n ≤ 1099511627776) :
    Calls Tryd.prog 43 #[.slice A n c, .int .i64 k] w fun e w' => e = .returned (.int .i64 (k + n)) ∧ w'.ownsRow base 3 1 (.slice A n c) n (ints (marksI k n)) ∧ w.grownBy w' (Value.ownBlock (.slice A n c)) := by
  go_enter Tryd.func43, Tryd.ntmps43
  go_wp2
  go_loopw [1, 5] (fun kk i wr => ∃ j : Nat, j ≤ n ∧ i = .int .i64 j ∧ kk = .int .i64 (k + j) ∧ wr.ownsRow base 3 1 (.slice A n c) n (ints (marksI k j) ++ xs.drop j) ∧ w.grownBy wr (Value.ownBlock (.slice A n c))) (fun _ i _ => n - (intOf i).toNat)
  case atStart => exact ⟨0, Nat.zero_le _, rfl, by simp, by simpa [marksI, ints] using h, World.grownBy.refl _ _⟩
  case round =>
    obtain ⟨j, hj, rfl, rfl, hown, hg⟩ := hrel
    have hxl : xs.length = n := by simpa using h.1
    by_cases hlt : j < n
    · rcases own_form hown with ⟨_, hn0, _⟩ | ⟨g, c', hv, _, _, _⟩
      · omega
      injection hv with hA _ hc'
      subst hA
      have hj1 : j < (ints (marksI k j) ++ xs.drop j).length := by rw [List.length_append, ints_len, marksI_len, List.length_drop]; omega
      have hcell := hown.cellAt j (by omega)
      rw [List.getElem?_eq_getElem hj1] at hcell
      have hfz := hown.frozenAt j
      have hst := hown.stored j (.int .i64 (k + (j : Int)))
      have hset : (ints (marksI k j) ++ xs.drop j).set j (.int .i64 (k + (j : Int))) = ints (marksI k (j + 1)) ++ xs.drop (j + 1) := by
        rw [List.set_append_right _ _ (by rw [ints_len, marksI_len]; exact Nat.le_refl _), ints_len, marksI_len, Nat.sub_self, List.drop_eq_getElem_cons (by omega), List.set_cons_zero, marksI_succ]
        simp [ints]
      rw [hset] at hst
      obtain ⟨hst1, hst2⟩ := hst
      have HH := Lib.hid hst1
      have HG := Lib.hid (hg.trans hst2)
      have hj0 : 0 ≤ k + (j : Int) := by omega
      generalize (ints (marksI k j) ++ xs.drop j)[j] = y at hcell
      clear hst1 hst2 hset hxl hg
      go_wp2
      go_roundw
      case rel => exact ⟨j + 1, by omega, by go_num, by go_num, HH.out, HG.out⟩
      case measure => simp [intOf]; omega
    · go_wp2
      go_ret
      obtain rfl : j = n := by omega
      rw [List.drop_of_length_le (by omega), List.append_nil] at hown
      exact ⟨rfl, hown, hg⟩
theorem heldIntS_any (A : Option Addr) (n c : Nat) (k : Int) (w : World) (h : RdV w A (ints (marksI k n))) (h0 : 0 ≤ k) (hk : k + n ≤ 1099511627776) :
    Calls Tryd.prog 44 #[.slice A n c, .int .i64 k] w fun e w' => e = .returned (.int .i64 (k + n)) ∧ Below w.heap.size w w' := by
  go_enter Tryd.func44, Tryd.ntmps44
  go_wp2
  go_loopw [1, 5] (fun kk i wr => ∃ j : Nat, j ≤ n ∧ i = .int .i64 j ∧ kk = .int .i64 (k + j) ∧ Below w.heap.size w wr) (fun _ i _ => n - (intOf i).toNat)
  case atStart => exact ⟨0, Nat.zero_le _, rfl, by simp, Below.refl _ _⟩
  case round =>
    obtain ⟨j, hj, rfl, rfl, hb⟩ := hrel
    by_cases hlt : j < n
    · have hjl : j < (ints (marksI k n)).length := by rw [ints_len, marksI_len]; exact hlt
      obtain ⟨b, off, rfl, hlb, hc⟩ := h.pos hjl
      have hsrc : wr.cell? ⟨b, off + j, none⟩ = some (ints (marksI k n))[j] := (hb.cell (p := ⟨b, off + j, none⟩) hlb).trans (hc j hjl)
      rw [ints_at, marksI_at] at hsrc
      have hne : ((k + (j : Int)) != (k + (j : Int))) = false := by simp
      have hj0 : 0 ≤ k + (j : Int) := by omega
      clear hc
      go_wp2
      go_roundw
      case rel => exact ⟨j + 1, by omega, by go_num, by go_num, hb⟩
      case measure => simp [intOf]; omega
    · go_wp2
      go_ret
      obtain rfl : j = n := by omega
      exact ⟨rfl, hb⟩
end Go.Proofs.YtcdjgbechigepaaDoor
