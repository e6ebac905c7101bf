/- Numbers are read, the reference (l1Read). -/
import Derived.Test.YtcdjgbechigepaaDoorStr
import Derived.Test.YtcdjgbechigepaaDoorYdI
import Derived.Test.YtcdjgbechigepaaDoorNumS
import Derived.Test.YtcdjgbechigepaaDoorOut
namespace Go.Proofs.YtcdjgbechigepaaDoor
open Go Go.ChangeShapes Go.WideShapes Go.ChangeAt Go.RowKit
set_option linter.unusedVariables false
def rdF : Int → List UInt8 → Int
  | acc, [] => acc
  | acc, c :: r => if (c.toNat : Int) < 48 ∨ 57 < (c.toNat : Int) then -1 else rdF (10 * acc + ((c.toNat : Int) - 48)) r
/-- what l1Read returns -/
def rdN (s : List UInt8) : Int := if ¬ (1 ≤ s.length ∧ s.length ≤ 3) ∨ (1 < s.length ∧ s.headD 0 = 48) then -1 else rdF 0 s
theorem rdF_step {s : List UInt8} {k : Nat} {acc : Int} (h : k < s.length) : rdF acc (s.drop k) = if ((s[k].toNat : Nat) : Int) < 48 ∨ 57 < ((s[k].toNat : Nat) : Int) then -1 else rdF (10 * acc + (((s[k].toNat : Nat) : Int) - 48)) (s.drop (k + 1)) := by
  rw [List.drop_eq_getElem_cons h, rdF]
theorem rdN_bad {s : List UInt8} (h : ¬ (1 ≤ s.length ∧ s.length ≤ 3) ∨ (1 < s.length ∧ s.headD 0 = 48)) : rdN s = -1 := if_pos h
theorem rdN_good {s : List UInt8} (h : ¬ (¬ (1 ≤ s.length ∧ s.length ≤ 3) ∨ (1 < s.length ∧ s.headD 0 = 48))) : rdN s = rdF 0 s := if_neg h
theorem head_get {s : ByteArray} (h : 0 < s.size) : s.data.toList.headD 0 = s[0] := by
  have e := str_get s 0 h
  cases hd : s.data.toList with
  | nil => rw [← list_len, hd] at h; simp at h
  | cons a r =>
    rw [e]
    simp [hd]
set_option maxHeartbeats 1000000 in
theorem specRead (s : ByteArray) (hm : s.size ≤ 9223372036854775807) (w : World) : Calls Tryd.prog 19 #[.string s] w fun e w' => e = .returned (.int .i64 (rdN s.data.toList)) ∧ w' = w := by
  have cI := fun w => l1In_any (s.size : Int) 1 3 w
  by_cases h13 : 1 ≤ s.size ∧ s.size ≤ 3
  · have hin : inI (s.size : Int) 1 3 = true := by simp [inI]; omega
    simp only [hin] at cI
    have h0 : 0 < s.size := h13.1
    by_cases hz : 1 < s.size ∧ ((s[0].toNat : Nat) : Int) = 48
    · obtain ⟨z1, z2⟩ := hz
      have HR : Hid (rdN s.data.toList = -1) := Lib.hid (rdN_bad (.inr ⟨by rw [list_len]; exact z1, by
        rw [head_get h0]
        exact UInt8.toNat_inj.1 (by have : (48 : UInt8).toNat = 48 := rfl; omega)⟩))
      rw [HR.out]
      have z1' : (1 : Int) < (s.size : Int) := by omega
      go_enter Tryd.func19, Tryd.ntmps19
      go_wp2_with (go_at_call 36; refine (cI _).mono ?_; rintro e w' ⟨rfl, rfl⟩)
      go_ret
      exact ⟨rfl, rfl⟩
    · have HR : Hid (rdN s.data.toList = rdF 0 s.data.toList) := Lib.hid (rdN_good (by
        rw [list_len, head_get h0]
        rintro (h | ⟨h, h2⟩)
        · exact h h13
        · exact hz ⟨h, by rw [h2]; rfl⟩))
      rw [HR.out]
      have HL : Hid (s.data.toList.length = s.size) := Lib.hid (list_len s)
      have H3 := h13.2
      have run : ∀ w, Calls Tryd.prog 19 #[.string s] w fun e w' => e = .returned (.int .i64 (rdF 0 s.data.toList)) ∧ w' = w := by
        intro w
        have HG := Lib.hid (str_get s 0 h0)
        by_cases z1 : 1 < s.size
        · have z1' : (1 : Int) < (s.size : Int) := by omega
          have z2 : ¬ ((s[0].toNat : Nat) : Int) = 48 := fun h => hz ⟨z1, h⟩
          clear hz hin h13
          go_enter Tryd.func19, Tryd.ntmps19
          go_wp2_with (go_at_call 36; refine (cI _).mono ?_; rintro e w' ⟨rfl, rfl⟩)
          clear z1 z1' z2 HG
          go_loop [3, 4] (fun a i => ∃ (k : Nat) (acc : Int), k ≤ s.size ∧ i = .int .i64 k ∧ a = .int .i64 acc ∧ 0 ≤ acc ∧ acc < 10 ^ k ∧ rdF 0 s.data.toList = rdF acc (s.data.toList.drop k)) (fun _ i => s.size - (intOf i).toNat)
          case atStart => exact ⟨0, 0, Nat.zero_le _, rfl, rfl, by omega, by simp, by simp⟩
          case round =>
            obtain ⟨k, acc, hk, rfl, rfl, ha, hb, hF⟩ := hrel
            have hb3 : acc < 1000 := by
              have hb' := hb
              rcases (show k = 0 ∨ k = 1 ∨ k = 2 ∨ k = 3 by omega) with h | h | h | h <;> (rw [h] at hb'; omega)
            by_cases hlt : k < s.size
            · have hkl : k < s.data.toList.length := by rw [HL.out]; exact hlt
              have hst := rdF_step (acc := acc) hkl
              rw [← str_get s k hlt] at hst
              have hu : ((s[k].toNat : Nat) : Int) < 256 := by have := s[k].toNat_lt; omega
              have hki : (k : Int) < (s.size : Int) := by omega
              have HF := Lib.hid hF
              have HST := Lib.hid hst
              have HB : Hid (acc < 10 ^ k) := Lib.hid hb
              clear hF hst hb
              by_cases l1 : ((s[k].toNat : Nat) : Int) < 48
              · have hv : rdF 0 s.data.toList = -1 := by rw [HF.out, HST.out, if_pos (.inl l1)]
                rw [hv]
                go_wp2_with fail
                go_ret
                exact ⟨rfl, rfl⟩
              · by_cases l2 : 57 < ((s[k].toNat : Nat) : Int)
                · have hv : rdF 0 s.data.toList = -1 := by rw [HF.out, HST.out, if_pos (.inr l2)]
                  rw [hv]
                  go_wp2_with fail
                  go_ret
                  exact ⟨rfl, rfl⟩
                · have hsub : IntKind.u8.wrap (((s[k].toNat : Nat) : Int) - 48) = ((s[k].toNat : Nat) : Int) - 48 := wrap_byte (by omega) (by omega)
                  have hw1 : IntKind.i64.wrap (10 * acc) = 10 * acc := IntWalk.i64_in _ (by omega)
                  have hw2 : IntKind.i64.wrap (((s[k].toNat : Nat) : Int) - 48) = ((s[k].toNat : Nat) : Int) - 48 := IntWalk.i64_in _ (by omega)
                  have hw3 : IntKind.i64.wrap (10 * acc + (((s[k].toNat : Nat) : Int) - 48)) = 10 * acc + (((s[k].toNat : Nat) : Int) - 48) := IntWalk.i64_in _ (by omega)
                  have HN := Lib.hid ((HF.out.trans HST.out).trans (if_neg (by omega)))
                  have HP : Hid (10 * acc + (((s[k].toNat : Nat) : Int) - 48) < 10 ^ (k + 1)) := Lib.hid (by have := HB.out; rw [Int.pow_succ]; omega)
                  go_wp2_with fail
                  go_round
                  case rel => exact ⟨k + 1, _, by omega, by go_num, rfl, by omega, HP.out, HN.out⟩
                  case measure => simp [intOf]; omega
            · obtain rfl : k = s.size := by omega
              have hv : rdF 0 s.data.toList = acc := by rw [hF, List.drop_of_length_le (by rw [HL.out]; exact Nat.le_refl _), rdF]
              have HV := Lib.hid hv
              clear hF hb hv
              go_wp2_with fail
              go_ret
              exact ⟨by rw [HV.out]; rfl, rfl⟩
        · have z1' : ¬ (1 : Int) < (s.size : Int) := by omega
          clear hz hin h13
          go_enter Tryd.func19, Tryd.ntmps19
          go_wp2_with (go_at_call 36; refine (cI _).mono ?_; rintro e w' ⟨rfl, rfl⟩)
          clear z1 z1' HG
          go_loop [3, 4] (fun a i => ∃ (k : Nat) (acc : Int), k ≤ s.size ∧ i = .int .i64 k ∧ a = .int .i64 acc ∧ 0 ≤ acc ∧ acc < 10 ^ k ∧ rdF 0 s.data.toList = rdF acc (s.data.toList.drop k)) (fun _ i => s.size - (intOf i).toNat)
          case atStart => exact ⟨0, 0, Nat.zero_le _, rfl, rfl, by omega, by simp, by simp⟩
          case round =>
            obtain ⟨k, acc, hk, rfl, rfl, ha, hb, hF⟩ := hrel
            have hb3 : acc < 1000 := by
              have hb' := hb
              rcases (show k = 0 ∨ k = 1 ∨ k = 2 ∨ k = 3 by omega) with h | h | h | h <;> (rw [h] at hb'; omega)
            by_cases hlt : k < s.size
            · have hkl : k < s.data.toList.length := by rw [HL.out]; exact hlt
              have hst := rdF_step (acc := acc) hkl
              rw [← str_get s k hlt] at hst
              have hu : ((s[k].toNat : Nat) : Int) < 256 := by have := s[k].toNat_lt; omega
              have hki : (k : Int) < (s.size : Int) := by omega
              have HF := Lib.hid hF
              have HST := Lib.hid hst
              have HB : Hid (acc < 10 ^ k) := Lib.hid hb
              clear hF hst hb
              by_cases l1 : ((s[k].toNat : Nat) : Int) < 48
              · have hv : rdF 0 s.data.toList = -1 := by rw [HF.out, HST.out, if_pos (.inl l1)]
                rw [hv]
                go_wp2_with fail
                go_ret
                exact ⟨rfl, rfl⟩
              · by_cases l2 : 57 < ((s[k].toNat : Nat) : Int)
                · have hv : rdF 0 s.data.toList = -1 := by rw [HF.out, HST.out, if_pos (.inr l2)]
                  rw [hv]
                  go_wp2_with fail
                  go_ret
                  exact ⟨rfl, rfl⟩
                · have hsub : IntKind.u8.wrap (((s[k].toNat : Nat) : Int) - 48) = ((s[k].toNat : Nat) : Int) - 48 := wrap_byte (by omega) (by omega)
                  have hw1 : IntKind.i64.wrap (10 * acc) = 10 * acc := IntWalk.i64_in _ (by omega)
                  have hw2 : IntKind.i64.wrap (((s[k].toNat : Nat) : Int) - 48) = ((s[k].toNat : Nat) : Int) - 48 := IntWalk.i64_in _ (by omega)
                  have hw3 : IntKind.i64.wrap (10 * acc + (((s[k].toNat : Nat) : Int) - 48)) = 10 * acc + (((s[k].toNat : Nat) : Int) - 48) := IntWalk.i64_in _ (by omega)
                  have HN := Lib.hid ((HF.out.trans HST.out).trans (if_neg (by omega)))
                  have HP : Hid (10 * acc + (((s[k].toNat : Nat) : Int) - 48) < 10 ^ (k + 1)) := Lib.hid (by have := HB.out; rw [Int.pow_succ]; omega)
                  go_wp2_with fail
                  go_round
                  case rel => exact ⟨k + 1, _, by omega, by go_num, rfl, by omega, HP.out, HN.out⟩
                  case measure => simp [intOf]; omega
            · obtain rfl : k = s.size := by omega
              have hv : rdF 0 s.data.toList = acc := by rw [hF, List.drop_of_length_le (by rw [HL.out]; exact Nat.le_refl _), rdF]
              have HV := Lib.hid hv
              clear hF hb hv
              go_wp2_with fail
              go_ret
              exact ⟨by rw [HV.out]; rfl, rfl⟩
      exact run w
  · have hin : inI (s.size : Int) 1 3 = false := by simp [inI]; omega
    simp only [hin] at cI
    have HR : Hid (rdN s.data.toList = -1) := Lib.hid (rdN_bad (.inl (by rw [list_len]; exact h13)))
    rw [HR.out]
    go_enter Tryd.func19, Tryd.ntmps19
    go_wp2_with (go_at_call 36; refine (cI _).mono ?_; rintro e w' ⟨rfl, rfl⟩)
    go_ret
    exact ⟨rfl, rfl⟩
end Go.Proofs.YtcdjgbechigepaaDoor
