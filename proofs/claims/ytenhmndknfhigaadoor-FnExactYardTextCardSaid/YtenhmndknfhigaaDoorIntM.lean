/- Lists of numbers and truths: comparing, marking, reading the marks. -/
import Derived.Test.YtenhmndknfhigaaDoorOwn
import Derived.Test.YtenhmndknfhigaaDoorProg
import Derived.Deep.QuietTactic
import Derived.BigQuiet
namespace Go.Proofs.YtenhmndknfhigaaDoor
open Go.ChangeShapes Go.WideShapes Go.ChangeAt Go.RowKit

/-- the marks k, k + 1 and so on; and whether each is a multiple of 3 -/
def marksI (k : Int) (n : Nat) : List Int := (List.range n).map fun (i : Nat) => k + (i : Int)
def marksB (k : Int) (n : Nat) : List Bool := (List.range n).map fun (i : Nat) => (k + (i : Int)) % 3 == 0
theorem marksI_len (k : Int) (n : Nat) : (marksI k n).length = n := by simp [marksI]
theorem marksB_len (k : Int) (n : Nat) : (marksB k n).length = n := by simp [marksB]
theorem marksI_succ (k : Int) (n : Nat) : marksI k (n + 1) = marksI k n ++ [k + (n : Int)] := by simp [marksI, List.range_succ]
theorem marksB_succ (k : Int) (n : Nat) : marksB k (n + 1) = marksB k n ++ [(k + (n : Int)) % 3 == 0] := by simp [marksB, List.range_succ]
theorem marksI_at (k : Int) (n j : Nat) (h : j < (marksI k n).length) : (marksI k n)[j] = k + (j : Int) := by simp [marksI]
theorem marksB_at (k : Int) (n j : Nat) (h : j < (marksB k n).length) : (marksB k n)[j] = ((k + (j : Int)) % 3 == 0) := by simp [marksB]
theorem eqIntS_any (A B : Option Addr) (zs : List Int) (n c d : Nat) (hzn : zs.length = n) (w : World) (ha : RdV w A (ints zs)) (hb : RdV w B (ints zs)) (hn : n ≤ 1099511627776) :
    Calls Tryd.prog 29 #[.slice A n c, .slice B n d] w fun e w' => e = .returned (.bool true) ∧ Below w.heap.size w w' := by
  have HZ := Lib.hid hzn
  clear hzn
  have hne : ((n : Int) != (n : Int)) = false := by simp
  go_enter Tryd.func29, Tryd.ntmps29
  go_wp2
  go_loopw [5] (fun i wr => ∃ k : Nat, k ≤ n ∧ i = .int .i64 k ∧ Below w.heap.size w wr) (fun i _ => n - (intOf i).toNat)
  case atStart => exact ⟨0, Nat.zero_le _, rfl, Below.refl _ _⟩
  case round =>
    obtain ⟨k, hk, rfl, hbl⟩ := hrel
    by_cases hlt : k < n
    · have hkl : k < (ints zs).length := by rw [ints_len, HZ.out]; exact hlt
      obtain ⟨b1, o1, rfl, hl1, hc1⟩ := ha.pos hkl
      obtain ⟨b2, o2, rfl, hl2, hc2⟩ := hb.pos hkl
      have h1 : wr.cell? ⟨b1, o1 + k, none⟩ = some (ints zs)[k] := (hbl.cell (p := ⟨b1, o1 + k, none⟩) hl1).trans (hc1 k hkl)
      have h2 : wr.cell? ⟨b2, o2 + k, none⟩ = some (ints zs)[k] := (hbl.cell (p := ⟨b2, o2 + k, none⟩) hl2).trans (hc2 k hkl)
      rw [ints_at] at h1 h2
      generalize (zs[k]'(by rw [HZ.out]; exact hlt)) = x at h1 h2
      have hx : (x != x) = false := by simp
      have hki : (k : Int) < (n : Int) := by omega
      clear hc1 hc2
      go_wp2
      go_quiet (fail)
      go_wp2
      go_roundw
      case rel => exact ⟨k + 1, by omega, by go_num, below_drewN hbl _⟩
      case measure => simp [intOf]; omega
    · go_wp2
      go_ret
      exact ⟨rfl, hbl⟩
end Go.Proofs.YtenhmndknfhigaaDoor
