/- ascend: true of an ascending list. -/
import Derived.Test.YtehaacpeamhamaaSameI
namespace Go.Proofs.Ytehaacpeamhamaa
open Go Go.ChangeShapes Go.WideShapes Go.ChangeAt Go.RowKit
/-- strictly ascending -/
def Asc (zs : List Int) : Prop := ∀ i (h : i + 1 < zs.length), zs[i] < zs[i + 1]
theorem ascend_any (A : Option Addr) (zs : List Int) (n c : Nat) (hzn : zs.length = n) (w : World) (hr : RdV w A (ints zs)) (hn : n ≤ 1099511627776) (ha : Asc zs) :
    Calls Try.prog 16 #[.slice A n c] w fun e w' => e = .returned (.bool true) ∧ ∃ q, w' = w.drewN q := by
  have HZ := Lib.hid hzn
  have HA := Lib.hid ha
  clear hzn ha
  go_enter Try.func16, Try.ntmps16
  go_wp2_with fail
  go_loopw [3] (fun i wr => ∃ k : Nat, 1 ≤ k ∧ i = .int .i64 k ∧ (k ≤ n ∨ k = 1) ∧ ∃ q, wr = w.drewN q) (fun i _ => n - (intOf i).toNat)
  case atStart => exact ⟨1, Nat.le_refl _, rfl, .inr rfl, 0, rfl⟩
  case round =>
    obtain ⟨k, hk1, rfl, hk, q, hq⟩ := hrel
    by_cases hlt : k < n
    · have hkl : k < (ints zs).length := by rw [ints_len, HZ.out]; exact hlt
      have hkl0 : k - 1 < (ints zs).length := by omega
      obtain ⟨b1, o1, rfl, hl1, hc1⟩ := hr.pos hkl
      have h1 : wr.cell? ⟨b1, o1 + k, none⟩ = some (ints zs)[k] := by rw [hq]; exact hc1 k hkl
      have h0 : wr.cell? ⟨b1, o1 + (k - 1), none⟩ = some (ints zs)[k - 1] := by rw [hq]; exact hc1 (k - 1) hkl0
      rw [ints_at] at h1 h0
      have hz : k - 1 < zs.length := by rw [HZ.out]; omega
      have hz1 : k < zs.length := by rw [HZ.out]; omega
      have hx : zs[k - 1] < zs[k] := by
        have := HA.out (k - 1) (by rw [HZ.out]; omega)
        have e : k - 1 + 1 = k := by omega
        simpa only [e] using this
      generalize zs[k - 1] = x at *
      generalize zs[k] = y at *
      have hki : (k : Int) < (n : Int) := by omega
      have e0 : IntKind.i64.wrap ((k : Int) - 1) = (k : Int) - 1 := IntWalk.i64_in _ (by omega)
      have e1 : IntKind.i64.wrap ((k : Int) + 1) = (k : Int) + 1 := IntWalk.i64_in _ (by omega)
      have e2 : ((k : Int) - 1).toNat = k - 1 := by omega
      have b0 : (0 : Int) ≤ (k : Int) - 1 := by omega
      have b1' : (k : Int) - 1 < (n : Int) := by omega
      have HQ := Lib.hid hq
      clear hc1 hq
      go_wp2_with fail
      go_quiet (fail)
      go_wp2_with fail
      go_roundw
      case rel => exact ⟨k + 1, by omega, by go_num, .inl (by omega), q + nq, by rw [HQ.out]; exact World.drewN_drewN _ _ _⟩
      case measure => simp [intOf]; omega
    · go_wp2_with fail
      go_ret
      exact ⟨rfl, q, rfl⟩
end Go.Proofs.Ytehaacpeamhamaa
