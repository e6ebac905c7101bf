/- Lists of Hold: their cells; copying, comparing, measuring. -/
import Derived.Test.YtpkbipjnobfcdaaFlat
import Derived.Test.YtpkbipjnobfcdaaProg
import Derived.Deep.QuietTactic
import Derived.BigQuiet
import Derived.Deep.RegionHeld3
namespace Go.Proofs.Ytpkbipjnobfcdaa
open Go Go.ChangeShapes Go.WideShapes Go.ChangeAt Go.RowKit
structure HoldV where
  f0 : Int
  f1 : Int
def holdC (x : HoldV) : List Value := [.int .i64 x.f0, .int .i64 x.f1]
theorem holdC_len (x : HoldV) : (holdC x).length = 2 := rfl
/-- the cells of a list -/
def holds (zs : List HoldV) : List Value := cellsOf holdC zs
theorem holds_len (zs : List HoldV) : (holds zs).length = zs.length * 2 := cellsOf_len _ _ holdC_len zs
theorem RdV.holdAt {w : World} {A : Option Addr} {zs : List HoldV} (h : RdV w A (holds zs)) {j : Nat} (hj : j < zs.length) : ∃ b o, A = some ⟨b, o, none⟩ ∧ b < w.heap.size ∧ w.cell? ⟨b, o + j * 2, none⟩ = some (.int .i64 (zs[j]).f0) ∧ w.cell? ⟨b, o + j * 2 + 1, none⟩ = some (.int .i64 (zs[j]).f1) := by
  obtain ⟨b, o, hA, hl, hc⟩ := RdV.fieldAt holdC_len h hj (by decide)
  exact ⟨b, o, hA, hl, hc 0 _ rfl, hc 1 _ rfl⟩
theorem hold_info : (Try.prog.info? 38).map (fun i => (i.zero, i.size, i.bytes)) = some (some (.agg #[.int .i64 0, .int .i64 0]), 2, 16) := by kernel_rfl
set_option maxHeartbeats 1000000 in
theorem toHold_any (x : HoldV) (w : World) : Calls Try.prog 79 #[.agg #[.int .i64 x.f0, .int .i64 x.f1]] w fun e w' => e = .returned (.agg #[.int .i64 x.f0, .int .i64 x.f1]) ∧ Below w.heap.size w w' := by
  go_enter Try.func79, Try.ntmps79
  go_wp2
  refine bodyPost_ret (v := .agg #[.int .i64 x.f0, .int .i64 x.f1]) (by simp [results, Try.results79, go_sem]) rfl ⟨rfl, ?_⟩
  exact ((((Below.refl _ _).alloc (Nat.le_refl _) _).alloc (by simp) _).alloc (by simp; omega) _)
theorem make_hold (n : Nat) (hn : n ≤ 1048576) (w : World) : (Instr.makeSlice 23 (.int .i64 (n : Int)) (.int .i64 (n : Int))).run Try.prog w = .ok (.slice (some ⟨w.heap.size, 0, none⟩) n n) (w.alloc (.cells ((List.replicate n [.int .i64 0, .int .i64 0]).flatten).toArray 38)) :=
  run_make_rowk (P := Try.prog) 23 38 (.agg #[.int .i64 0, .int .i64 0]) [.int .i64 0, .int .i64 0] 16 2 Try.underlying23 hold_info rfl rfl (by decide) n (by omega) (by omega) w
set_option maxHeartbeats 1000000 in
theorem toHoldS_any (A : Option Addr) (zs : List HoldV) (n c : Nat) (hzn : zs.length = n) (w : World) (hr : RdV w A (holds zs)) (hn : n ≤ 1048576) :
    Calls Try.prog 59 #[.slice A n c] w fun e w' => e = .returned (.slice (some ⟨w.heap.size, 0, none⟩) n n) ∧ Blk w' w.heap.size 38 (holds zs) ∧ Below w.heap.size w w' := by
  have hmk := make_hold n hn
  have HZ := Lib.hid hzn
  rw [← hzn, ← cpF_zero holdC [.int .i64 0, .int .i64 0] zs] at hmk
  rw [hzn] at hmk
  clear hzn
  go_enter Try.func59, Try.ntmps59
  go_wp2
  go_loopw [4] (fun i wr => ∃ k : Nat, k ≤ n ∧ i = .int .i64 k ∧ Blk wr w.heap.size 38 (cpF holdC [.int .i64 0, .int .i64 0] zs k) ∧ Below w.heap.size w wr) (fun i _ => n - (intOf i).toNat)
  case atStart => exact ⟨0, Nat.zero_le _, rfl, Blk.new _ _ _, (Below.refl _ _).alloc (Nat.le_refl _) _⟩
  case round =>
    obtain ⟨k, hk, rfl, hblk, hb⟩ := hrel
    by_cases hlt : k < n
    · have hkz : k < zs.length := by rw [HZ.out]; exact hlt
      obtain ⟨b, off, rfl, hlb, hc0, hc1⟩ := hr.holdAt hkz
      obtain ⟨e1, e2, e3⟩ := cpF_at holdC [.int .i64 0, .int .i64 0] zs k 2 holdC_len hkz
      have hs0 : wr.cell? ⟨b, off + k * 2, none⟩ = some (.int .i64 (zs[k]).f0) := (hb.cell (p := ⟨b, off + k * 2, none⟩) hlb).trans hc0
      have hs1 : wr.cell? ⟨b, off + k * 2 + 1, none⟩ = some (.int .i64 (zs[k]).f1) := (hb.cell (p := ⟨b, off + k * 2 + 1, none⟩) hlb).trans hc1
      generalize zs[k] = x at *
      have E1 := Lib.hid e1
      have E2 := Lib.hid e2
      have E3 := Lib.hid e3
      clear e1 e2 e3 hmk hc0 hc1
      go_wp2_with fail
      refine (toHold_any x _).mono ?_
      rintro e w2 ⟨rfl, hb2⟩
      have hblk2 := hblk.later hb2
      have hlt2 := hblk.lt
      rw [E1.out] at hblk2
      have hd0 : w2.cell? ⟨w.heap.size, k * 2, none⟩ = some (.int .i64 0) := by
        rw [hblk2.cell, List.getElem?_append_right (by rw [E3.out]; omega), E3.out]
        simp
      have hf0 : w2.frozen? ⟨w.heap.size, k * 2, none⟩ = false := hblk2.frozen _
      have hd1 : w2.cell? ⟨w.heap.size, k * 2 + 1, none⟩ = some (.int .i64 0) := by
        rw [hblk2.cell, List.getElem?_append_right (by rw [E3.out]; omega), E3.out]
        simp
      have hf1 : w2.frozen? ⟨w.heap.size, k * 2 + 1, none⟩ = false := hblk2.frozen _
      have hset := ((hblk2.set_ (k * 2) (.int .i64 x.f0)).set_ (k * 2 + 1) (.int .i64 x.f1))
      have HSET := Lib.hid hset
      have HB := Lib.hid (hb.trans (hb2.mono hb.size))
      clear hset hblk hblk2 hb hb2
      go_wp2_with fail
      go_roundw
      case rel =>
        refine ⟨k + 1, by omega, by go_num, ?_, ((HB.out.setCell (p := ⟨w.heap.size, _, none⟩) (Nat.le_refl _) _).setCell (p := ⟨w.heap.size, _, none⟩) (Nat.le_refl _) _)⟩
        have h := HSET.out
        rw [set_2 _ _ _ _ _ _ _ E3.out] at h
        rw [E2.out]
        exact h
      case measure => simp [intOf]; omega
    · go_wp2_with fail
      go_ret
      obtain rfl : k = n := by omega
      rw [← HZ.out, cpF_all] at hblk
      exact ⟨rfl, hblk, hb⟩

set_option maxHeartbeats 1000000 in
theorem eqHold_any (x : HoldV) (w : World) : Calls Try.prog 80 #[.agg #[.int .i64 x.f0, .int .i64 x.f1], .agg #[.int .i64 x.f0, .int .i64 x.f1]] w fun e w' => e = .returned (.bool true) ∧ Below w.heap.size w w' := by
  have h0 : (x.f0 != x.f0) = false := by simp
  have h1 : (x.f1 != x.f1) = false := by simp
  go_enter Try.func80, Try.ntmps80
  go_wp2
  go_ret
  exact ⟨rfl, ((Below.refl _ _).alloc (Nat.le_refl _) _).alloc (by simp) _⟩
set_option maxHeartbeats 1000000 in
theorem eqHoldS_any (A B : Option Addr) (zs : List HoldV) (n c d : Nat) (hzn : zs.length = n) (w : World) (ha : RdV w A (holds zs)) (hb : RdV w B (holds zs)) (hn : n ≤ 1099511627776) :
    Calls Try.prog 61 #[.slice A n c, .slice B n d] w fun e w' => e = .returned (.bool true) ∧ Below w.heap.size w w' := by
  have HZ := Lib.hid hzn
  clear hzn
  have hne : ((n : Int) != (n : Int)) = false := by simp
  go_enter Try.func61, Try.ntmps61
  go_wp2
  go_loopw [5] (fun i wr => ∃ k : Nat, k ≤ n ∧ i = .int .i64 k ∧ Below w.heap.size w wr) (fun i _ => n - (intOf i).toNat)
  case atStart => exact ⟨0, Nat.zero_le _, rfl, Below.refl _ _⟩
  case round =>
    obtain ⟨k, hk, rfl, hbl⟩ := hrel
    by_cases hlt : k < n
    · have hkz : k < zs.length := by rw [HZ.out]; exact hlt
      obtain ⟨b1, o1, rfl, hl1, hc0, hc1⟩ := ha.holdAt hkz
      obtain ⟨b2, o2, rfl, hl2, hd0, hd1⟩ := hb.holdAt hkz
      have hs0 : wr.cell? ⟨b1, o1 + k * 2, none⟩ = some (.int .i64 (zs[k]).f0) := (hbl.cell (p := ⟨b1, o1 + k * 2, none⟩) hl1).trans hc0
      have ht0 : wr.cell? ⟨b2, o2 + k * 2, none⟩ = some (.int .i64 (zs[k]).f0) := (hbl.cell (p := ⟨b2, o2 + k * 2, none⟩) hl2).trans hd0
      have hs1 : wr.cell? ⟨b1, o1 + k * 2 + 1, none⟩ = some (.int .i64 (zs[k]).f1) := (hbl.cell (p := ⟨b1, o1 + k * 2 + 1, none⟩) hl1).trans hc1
      have ht1 : wr.cell? ⟨b2, o2 + k * 2 + 1, none⟩ = some (.int .i64 (zs[k]).f1) := (hbl.cell (p := ⟨b2, o2 + k * 2 + 1, none⟩) hl2).trans hd1
      generalize zs[k] = x at *
      have hki : (k : Int) < (n : Int) := by omega
      have lw1 : b1 < wr.heap.size := Nat.lt_of_lt_of_le hl1 hbl.size
      have lw2 : b2 < wr.heap.size := Nat.lt_of_lt_of_le hl2 hbl.size
      clear hc0 hd0 hc1 hd1
      go_wp2_with fail
      go_region_held3 (fun w' => Below wr.heap.size wr w' ∧ w'.cell? ⟨b1, o1 + k * 2, none⟩ = some (.int .i64 x.f0) ∧ w'.cell? ⟨b1, o1 + k * 2 + 1, none⟩ = some (.int .i64 x.f1) ∧ w'.cell? ⟨b2, o2 + k * 2, none⟩ = some (.int .i64 x.f0) ∧ w'.cell? ⟨b2, o2 + k * 2 + 1, none⟩ = some (.int .i64 x.f1)) (first | exact ⟨Below.refl _ _, by assumption, by assumption, by assumption, by assumption⟩ | exact ⟨Below.drew (Below.refl _ _), by assumption, by assumption, by assumption, by assumption⟩ | exact ⟨hbq, (hbq.cell (p := ⟨b1, o1 + k * 2, none⟩) lw1).trans hs0, (hbq.cell (p := ⟨b1, o1 + k * 2 + 1, none⟩) lw1).trans hs1, (hbq.cell (p := ⟨b2, o2 + k * 2, none⟩) lw2).trans ht0, (hbq.cell (p := ⟨b2, o2 + k * 2 + 1, none⟩) lw2).trans ht1⟩)
        (first | (go_at_call 80; (with_reducible refine (eqHold_any x _).mono ?_); rintro e w2 ⟨rfl, hbq0⟩; have hbq : Below wr.heap.size wr w2 := ⟨hbq0.os, hbq0.tape, hbq0.output, hbq0.size, hbq0.block⟩))
      all_goals
        go_wp2_with fail
        go_roundw
        case rel => exact ⟨k + 1, by omega, by go_num, hbl.trans (hbq.mono hbl.size)⟩
        case measure => simp [intOf]; omega
    · go_wp2_with fail
      go_ret
      exact ⟨rfl, hbl⟩
theorem szHoldS_any (A : Option Addr) (n c : Nat) (w : World) (hm : n ≤ 9223372036854775807) (l : Int) (h0 : 0 ≤ l) (h1 : l ≤ 1048576) :
    Calls Try.prog 57 #[.slice A n c, .int .i64 l] w (RInt fun r w' => r ≤ l ∧ (0 ≤ r → (n : Int) ≤ l) ∧ w = w') := by
  by_cases hn : (n : Int) ≤ l
  · go_enter Try.func57, Try.ntmps57
    go_wp2
    go_ret
    exact RInt.mk ⟨by omega, fun _ => by first | omega | trivial, rfl⟩
  · go_enter Try.func57, Try.ntmps57
    go_wp2
    go_ret
    exact RInt.mk ⟨by omega, fun h => by omega, rfl⟩
end Go.Proofs.Ytpkbipjnobfcdaa
