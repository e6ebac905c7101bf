/- l28End returns the plain word. -/
import Derived.Test.YtljbbhipdfnppaaSegRP
import Derived.Test.YtljbbhipdfnppaaStr
namespace Go.Proofs.Ytljbbhipdfnppaa
open Go Go.ChangeShapes Go.WideShapes Go.ChangeAt Go.RowKit
theorem data_at (s : ByteArray) (k : Nat) (h : k < s.size) : s.data.toList.drop k = s[k] :: s.data.toList.drop (k + 1) := by
  rw [List.drop_eq_getElem_cons (by simpa using h)]
  rfl
theorem data_end (s : ByteArray) (k : Nat) (h : s.size ≤ k) : s.data.toList.drop k = [] := List.drop_of_length_le (by simpa using h)
theorem byte_eq {b : UInt8} {n : Nat} (hn : n < 256) (h : (b.toNat : Int) = n) : b = UInt8.ofNat n := by
  apply UInt8.toNat.inj
  rw [UInt8.toNat_ofNat']
  omega
theorem byte_ne {b : UInt8} {n : Nat} (hn : n < 256) (h : ¬ (b.toNat : Int) = n) : b ≠ UInt8.ofNat n := by
  rintro rfl
  apply h
  rw [UInt8.toNat_ofNat', Nat.mod_eq_of_lt hn]
set_option maxHeartbeats 1000000 in
theorem specEnd (s : ByteArray) (w : World) (hs : s.size ≤ 274877906944) :
    Calls Try.prog 43 #[.string s] w fun e w' => e = .returned (.int .i64 (endAux s.data.toList 0)) ∧ w = w' := by
  go_enter Try.func43, Try.ntmps43
  go_wp2
  go_loop [3] (fun i => ∃ k : Nat, k ≤ s.size + 1 ∧ i = .int .i64 k ∧ Hid (endAux (s.data.toList.drop k) k = endAux s.data.toList 0)) (fun i => s.size + 1 - (intOf i).toNat)
  case atStart => exact ⟨0, Nat.zero_le _, rfl, Lib.hid (by simp)⟩
  case round =>
    obtain ⟨k, hk, rfl, HE⟩ := hrel
    by_cases hlt : k < s.size
    · have HD := Lib.hid (data_at s k hlt)
      have hki : (k : Int) < (s.size : Int) := by omega
      have e1 : IntKind.i64.wrap ((k : Int) + 1) = (k : Int) + 1 := IntWalk.i64_in _ (by omega)
      have e2 : IntKind.i64.wrap ((k : Int) + 1 + 1) = (k : Int) + 1 + 1 := IntWalk.i64_in _ (by omega)
      by_cases h63 : (s[k].toNat : Int) = 63
      · have hc := byte_eq (n := 63) (by decide) h63
        have HC := Lib.hid hc
        clear hc
        go_wp2_with fail
        go_round
        case rel =>
          refine ⟨k + 2, by omega, by go_num, Lib.hid ?_⟩
          rw [← HE.out, HD.out, HC.out]
          by_cases h1 : k + 1 < s.size
          · rw [data_at s (k + 1) h1]
            exact (e_63 _ _ _).symm
          · rw [data_end s (k + 1) (by omega), data_end s (k + 2) (by omega), e_nil]
            exact (e_631 _).symm
        case measure => simp [intOf]; omega
      · have hc63 := byte_ne (n := 63) (by decide) h63
        have HC63 := Lib.hid hc63
        clear hc63
        by_cases h39 : (s[k].toNat : Int) = 39
        · have hc := byte_eq (n := 39) (by decide) h39
          have HC := Lib.hid hc
          clear hc
          go_wp2_with fail
          go_ret
          refine ⟨?_, rfl⟩
          rw [← HE.out, HD.out, HC.out]
          exact congrArg Ending.returned (congrArg (Value.int .i64) (by rw [show UInt8.ofNat 39 = 39 from rfl, e_39]; rfl))
        · have hc39 := byte_ne (n := 39) (by decide) h39
          have HC39 := Lib.hid hc39
          clear hc39
          go_wp2_with fail
          go_round
          case rel =>
            refine ⟨k + 1, by omega, by go_num, Lib.hid ?_⟩
            rw [← HE.out, HD.out, endAux_one HC63.out HC39.out]
          case measure => simp [intOf]; omega
    · have H0 : Hid (endAux s.data.toList 0 = 0) := Lib.hid (by rw [← HE.out, data_end s k (by omega), e_nil])
      go_wp2_with fail
      go_ret
      exact ⟨by rw [H0.out]; rfl, rfl⟩
end Go.Proofs.Ytljbbhipdfnppaa
