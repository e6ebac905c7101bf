/- Parts that are too long: the search for the first one. -/
import Derived.Test.YtkdaekiihkkpkaaSegP
import Derived.Test.YtkdaekiihkkpkaaRR
import Derived.Test.YtkdaekiihkkpkaaWithin
namespace Go.Proofs.Ytkdaekiihkkpkaa
open Go Go.ChangeShapes Go.WideShapes Go.ChangeAt Go.RowKit
theorem isCapital_true (c : Int) (w : World) (h : capI c = true) : Calls Try.prog 10 #[.int .u8 c] w fun e w' => e = .returned (.bool true) ∧ w = w' := by
  rcases capI_cases c with ⟨_, h1, h2⟩ | ⟨h0, _⟩
  · clear h
    go_enter Try.func10, Try.ntmps10
    go_wp2
    go_ret
    exact ⟨rfl, rfl⟩
  · rw [h] at h0; cases h0
theorem isCapital_false (c : Int) (w : World) (h : capI c = false) : Calls Try.prog 10 #[.int .u8 c] w fun e w' => e = .returned (.bool false) ∧ w = w' := by
  rcases capI_cases c with ⟨h0, _⟩ | ⟨_, hc⟩
  · rw [h] at h0; cases h0
  · clear h
    by_cases h1 : 65 ≤ c
    · have h2 : decide (c ≤ 90) = false := decide_eq_false (by omega)
      clear hc
      go_enter Try.func10, Try.ntmps10
      go_wp2
      go_ret
      exact ⟨rfl, rfl⟩
    · clear hc
      go_enter Try.func10, Try.ntmps10
      go_wp2
      go_ret
      exact ⟨rfl, rfl⟩
theorem tooLong_any (p : ByteArray) (w : World) : Calls Try.prog 13 #[.string p] w fun e w' => e = .returned (.bool (decide (8 < p.size))) ∧ w = w' := by
  go_enter Try.func13, Try.ntmps13
  go_wp2
  go_ret
  exact ⟨by simp; omega, rfl⟩
set_option maxHeartbeats 1000000 in
theorem idxLong_any (A : Option Addr) (n c : Nat) (ps : List ByteArray) (w : World) (hn : ps.length = n) (hr : RdV w A (strs ps)) (hm : n ≤ 9223372036854775807) :
    Calls Try.prog 19 #[.slice A n c, .func (.func 13) #[] #[]] w fun e w' => e = .returned (.int .i64 (longAt ps)) ∧ w = w' := by
  have HN := Lib.hid hn
  clear hn
  go_enter Try.func19, Try.ntmps19
  go_wp2
  go_loop [8] (fun i => ∃ k : Nat, k ≤ n ∧ i = .int .i64 k ∧ Hid (∀ j (hj : j < k) (hl : j < ps.length), (ps[j]).size ≤ 8)) (fun i => n - (intOf i).toNat)
  case atStart => exact ⟨0, Nat.zero_le _, rfl, Lib.hid (fun j hj => absurd hj (by omega))⟩
  case round =>
    obtain ⟨k, hk, rfl, HJ⟩ := hrel
    by_cases hlt : k < n
    · have hkl : k < (strs ps).length := by rw [strs_len, HN.out]; exact hlt
      have hkp : k < ps.length := by rw [HN.out]; exact hlt
      obtain ⟨b, o, rfl, hl, hc⟩ := hr.pos hkl
      have h1 := hc k hkl
      rw [strs_at] at h1
      have HL : Hid (8 < (ps[k]).size → longAt ps = k) := Lib.hid fun h8 => longAt_some hkp h8 (fun j hj => HJ.out j hj (by omega))
      generalize hx : ps[k] = x at *
      have HX := Lib.hid hx
      clear hc hx
      by_cases h8 : 8 < x.size
      · have hd : decide (8 < x.size) = true := by simp [h8]
        go_wp2_with fail
        refine (tooLong_any x _).mono ?_
        rintro e w' ⟨rfl, rfl⟩
        rw [hd]
        go_wp2_with fail
        go_ret
        exact ⟨by rw [HL.out h8]; rfl, rfl⟩
      · have hd : decide (8 < x.size) = false := by simp; omega
        go_wp2_with fail
        refine (tooLong_any x _).mono ?_
        rintro e w' ⟨rfl, rfl⟩
        rw [hd]
        go_wp2_with fail
        go_round
        case rel => exact ⟨k + 1, by omega, by go_num, Lib.hid (fun j hj hl => by
          rcases Nat.lt_or_ge j k with h | h
          · exact HJ.out j h hl
          · obtain rfl : j = k := by omega
            rw [HX.out]; omega)⟩
        case measure => simp [intOf]; omega
    · obtain rfl : k = n := by omega
      have HL : Hid (longAt ps = -1) := Lib.hid (longAt_none fun j hj => HJ.out j (by rw [← HN.out]; exact hj) hj)
      go_wp2_with fail
      go_ret
      exact ⟨by rw [HL.out]; rfl, rfl⟩
theorem anyLong_any (A : Option Addr) (n c : Nat) (ps : List ByteArray) (w : World) (hn : ps.length = n) (hr : RdV w A (strs ps)) (hm : n ≤ 9223372036854775807) :
    Calls Try.prog 12 #[.slice A n c, .func (.func 13) #[] #[]] w fun e w' => e = .returned (.bool (decide (0 ≤ longAt ps))) ∧ w = w' := by
  have HN := Lib.hid hn
  clear hn
  go_enter Try.func12, Try.ntmps12
  go_wp2_with fail
  refine (idxLong_any A n c ps w HN.out hr hm).mono ?_
  rintro e w' ⟨rfl, rfl⟩
  go_wp2_with fail
  go_ret
  exact ⟨by simp, rfl⟩
end Go.Proofs.Ytkdaekiihkkpkaa
