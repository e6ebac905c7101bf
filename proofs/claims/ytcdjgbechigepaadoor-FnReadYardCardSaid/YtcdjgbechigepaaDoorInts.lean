/- toIntS copies a slice of integers into memory of its own; eqIntS compares two. -/
import Derived.Test.YtcdjgbechigepaaDoorBase
import Derived.Test.YtcdjgbechigepaaDoorProg
import Derived.Deep.QuietTactic
import Derived.BigQuiet
namespace Go.Proofs.YtcdjgbechigepaaDoor
open Go.ChangeShapes Go.WideShapes Go.ChangeAt Go.RowKit

theorem int_info : (Tryd.prog.info? 3).map (fun i => (i.zero, i.size, i.bytes)) = some (some (.int .i64 0), 1, 8) := by kernel_rfl

theorem eqIntS_true (A B : Option Addr) (zs : List Int) (n c d : Nat) (hzn : zs.length = n) (w : World) (ha : RdV w A (ints zs)) (hb : RdV w B (ints zs)) (hn : n ≤ 1048576) :
    Calls Tryd.prog 42 #[.slice A n c, .slice B n d] w fun e w' => e = .returned (.bool true) ∧ Below w.heap.size w w' := by
  have HZ := Lib.hid hzn
  clear hzn
  have hne : ((n : Int) != (n : Int)) = false := by simp
  go_enter Tryd.func42, Tryd.ntmps42
  go_wp2
  go_loopw [5] (fun i wr => ∃ k : Nat, k ≤ n ∧ i = .int .i64 k ∧ Below w.heap.size w wr) (fun i _ => n - (intOf i).toNat)
  case atStart => exact ⟨0, Nat.zero_le _, rfl, Below.refl _ _⟩
  case round =>
    obtain ⟨k, hk, rfl, hbl⟩ := hrel
    by_cases hlt : k < n
    · have hkl : k < (ints zs).length := by rw [ints_len, HZ.out]; exact hlt
      obtain ⟨b1, o1, rfl, hl1, hc1⟩ := ha.pos hkl
      obtain ⟨b2, o2, rfl, hl2, hc2⟩ := hb.pos hkl
      have h1 : wr.cell? ⟨b1, o1 + k, none⟩ = some (ints zs)[k] := (hbl.cell (p := ⟨b1, o1 + k, none⟩) hl1).trans (hc1 k hkl)
      have h2 : wr.cell? ⟨b2, o2 + k, none⟩ = some (ints zs)[k] := (hbl.cell (p := ⟨b2, o2 + k, none⟩) hl2).trans (hc2 k hkl)
      rw [ints_at] at h1 h2
      generalize (zs[k]'(by rw [HZ.out]; exact hlt)) = x at h1 h2
      have hx : (x != x) = false := by simp
      have hki : (k : Int) < (n : Int) := by omega
      clear hc1 hc2
      go_wp2
      go_quiet (fail)
      go_wp2
      go_roundw
      case rel => exact ⟨k + 1, by omega, by go_num, below_drewN hbl _⟩
      case measure => simp [intOf]; omega
    · go_wp2
      go_ret
      exact ⟨rfl, hbl⟩
end Go.Proofs.YtcdjgbechigepaaDoor
