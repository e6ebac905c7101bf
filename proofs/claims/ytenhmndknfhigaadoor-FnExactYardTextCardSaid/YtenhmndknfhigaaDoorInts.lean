/- toIntS copies a slice of integers into memory of its own; eqIntS compares two. -/
import Derived.Test.YtenhmndknfhigaaDoorBase
import Derived.Test.YtenhmndknfhigaaDoorProg
import Derived.Deep.QuietTactic
import Derived.BigQuiet
namespace Go.Proofs.YtenhmndknfhigaaDoor
open Go.ChangeShapes Go.WideShapes Go.ChangeAt Go.RowKit

theorem int_info : (Tryd.prog.info? 3).map (fun i => (i.zero, i.size, i.bytes)) = some (some (.int .i64 0), 1, 8) := by kernel_rfl

theorem toIntS_any (A : Option Addr) (zs : List Int) (n c : Nat) (hzn : zs.length = n) (w : World) (hr : RdV w A (ints zs)) (hn : n ≤ 1048576) :
    Calls Tryd.prog 22 #[.slice A n c] w fun e w' => e = .returned (.slice (some ⟨w.heap.size, 0, none⟩) n n) ∧ Blk w' w.heap.size 3 (ints zs) ∧ Below w.heap.size w w' := by
  have hmk := run_make_row' (P := Tryd.prog) 34 3 (.int .i64 0) 8 Tryd.underlying34 int_info rfl .i64 .i64 n (by omega) (by omega)
  have hil : (ints zs).length = n := by rw [ints_len]; exact hzn
  have Hil := Lib.hid hil
  rw [made_one, ← hil, ← cpV_zero] at hmk
  rw [hil] at hmk
  have HZ := Lib.hid hzn
  clear hil hzn
  go_enter Tryd.func22, Tryd.ntmps22
  go_wp2
  go_loopw [4] (fun i wr => ∃ k : Nat, k ≤ n ∧ i = .int .i64 k ∧ Blk wr w.heap.size 3 (cpV (.int .i64 0) (ints zs) k) ∧ Below w.heap.size w wr) (fun i _ => n - (intOf i).toNat)
  case atStart => exact ⟨0, Nat.zero_le _, rfl, Blk.new _ _ _, (Below.refl _ _).alloc (Nat.le_refl _) _⟩
  case round =>
    obtain ⟨k, hk, rfl, hblk, hb⟩ := hrel
    by_cases hlt : k < n
    · have hkl : k < (ints zs).length := by rw [Hil.out]; exact hlt
      obtain ⟨b, off, rfl, hlb, hc⟩ := hr.pos hkl
      have hsrc : wr.cell? ⟨b, off + k, none⟩ = some (ints zs)[k] := (hb.cell (p := ⟨b, off + k, none⟩) hlb).trans (hc k hkl)
      have hdst : wr.cell? ⟨w.heap.size, k, none⟩ = some ((cpV (.int .i64 0) (ints zs) k)[k]'(by rw [cpV_len _ _ _ (by omega)]; exact hkl)) := hblk.cellAt k _
      have hset := hblk.set_ k (ints zs)[k]
      rw [cpV_set _ _ _ hkl] at hset
      rw [ints_at] at hsrc hset
      have hfz : wr.frozen? ⟨w.heap.size, k, none⟩ = false := hblk.frozen k
      generalize (zs[k]'(by rw [HZ.out]; exact hlt)) = x at hsrc hset
      generalize ((cpV (.int .i64 0) (ints zs) k)[k]'(by rw [cpV_len _ _ _ (by omega)]; exact hkl)) = y at hdst
      clear hc hmk
      go_wp2
      go_roundw
      case rel => exact ⟨k + 1, by omega, by go_num, hset, hb.setCell (Nat.le_refl _) _⟩
      case measure => simp [intOf]; omega
    · go_wp2
      go_ret
      obtain rfl : k = n := by omega
      have hk2 : k = (ints zs).length := Hil.out.symm
      exact ⟨rfl, by rw [← cpV_all (.int .i64 0) (ints zs), ← hk2]; exact hblk, hb⟩

theorem eqIntS_true (A B : Option Addr) (zs : List Int) (n c d : Nat) (hzn : zs.length = n) (w : World) (ha : RdV w A (ints zs)) (hb : RdV w B (ints zs)) (hn : n ≤ 1048576) :
    Calls Tryd.prog 29 #[.slice A n c, .slice B n d] w fun e w' => e = .returned (.bool true) ∧ Below w.heap.size w w' := by
  have HZ := Lib.hid hzn
  clear hzn
  have hne : ((n : Int) != (n : Int)) = false := by simp
  go_enter Tryd.func29, Tryd.ntmps29
  go_wp2
  go_loopw [5] (fun i wr => ∃ k : Nat, k ≤ n ∧ i = .int .i64 k ∧ Below w.heap.size w wr) (fun i _ => n - (intOf i).toNat)
  case atStart => exact ⟨0, Nat.zero_le _, rfl, Below.refl _ _⟩
  case round =>
    obtain ⟨k, hk, rfl, hbl⟩ := hrel
    by_cases hlt : k < n
    · have hkl : k < (ints zs).length := by rw [ints_len, HZ.out]; exact hlt
      obtain ⟨b1, o1, rfl, hl1, hc1⟩ := ha.pos hkl
      obtain ⟨b2, o2, rfl, hl2, hc2⟩ := hb.pos hkl
      have h1 : wr.cell? ⟨b1, o1 + k, none⟩ = some (ints zs)[k] := (hbl.cell (p := ⟨b1, o1 + k, none⟩) hl1).trans (hc1 k hkl)
      have h2 : wr.cell? ⟨b2, o2 + k, none⟩ = some (ints zs)[k] := (hbl.cell (p := ⟨b2, o2 + k, none⟩) hl2).trans (hc2 k hkl)
      rw [ints_at] at h1 h2
      generalize (zs[k]'(by rw [HZ.out]; exact hlt)) = x at h1 h2
      have hx : (x != x) = false := by simp
      have hki : (k : Int) < (n : Int) := by omega
      clear hc1 hc2
      go_wp2
      go_quiet (fail)
      go_wp2
      go_roundw
      case rel => exact ⟨k + 1, by omega, by go_num, below_drewN hbl _⟩
      case measure => simp [intOf]; omega
    · go_wp2
      go_ret
      exact ⟨rfl, hbl⟩
end Go.Proofs.YtenhmndknfhigaaDoor
