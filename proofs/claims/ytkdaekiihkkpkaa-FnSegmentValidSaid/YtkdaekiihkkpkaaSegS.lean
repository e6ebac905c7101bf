/- The reference's SegmentValid returns the plain word. -/
import Derived.Test.YtkdaekiihkkpkaaSegI
namespace Go.Proofs.Ytkdaekiihkkpkaa
open Go Go.ChangeShapes Go.WideShapes Go.ChangeAt Go.RowKit
set_option maxHeartbeats 4000000 in
theorem specSegmentValid (tag : ByteArray) (A : Option Addr) (n c : Nat) (ess : List (List ByteArray)) (w : World) (hn : ess.length = n) (hr : RdRR w A (strss ess)) (hm : n ≤ 9223372036854775807) :
    Calls Try.prog 6 #[.agg #[.string tag, .slice A n c]] w fun e w' => e = .returned (.bool (segOk tag ess)) ∧ Below w.heap.size w w' := by
  have HN := Lib.hid hn
  clear hn
  have hbl : Below w.heap.size w (w.alloc (.cells #[.string tag, .slice A n c] 25)) := (Below.refl _ _).alloc (Nat.le_refl _) _
  have HBL := Lib.hid hbl
  have hr1 := hr.below hbl
  clear hbl hr
  by_cases h3 : tag.size = 3
  · have h3b : ((tag.size : Int) != 3) = false := by rw [h3]; rfl
    have H3 := Lib.hid h3
    clear h3
    by_cases h5 : n ≤ 5
    · go_enter Try.func6, Try.ntmps6
      go_wp2_with fail
      go_loop [3] (fun i => ∃ k : Nat, k ≤ 3 ∧ i = .int .i64 k ∧ Hid (∀ j (hj : j < k) (hl : j < tag.size), capI (tag[j].toNat) = true)) (fun i => 3 - (intOf i).toNat)
      case atStart => exact ⟨0, Nat.zero_le _, rfl, Lib.hid (fun j hj => absurd hj (by omega))⟩
      case round =>
        obtain ⟨k, hk, rfl, HJ⟩ := hrel
        by_cases hlt : k < 3
        · have hkt : k < tag.size := by rw [H3.out]; exact hlt
          rcases capI_cases (tag[k].toNat : Int) with ⟨hc, hc1, hc2⟩ | ⟨hc, hc1⟩
          · have HC := Lib.hid hc
            clear hc
            go_wp2_with fail
            go_round
            case rel => exact ⟨k + 1, by omega, by go_num, Lib.hid (fun j hj hl => by
              rcases Nat.lt_or_ge j k with h | h
              · exact HJ.out j h hl
              · obtain rfl : j = k := by omega
                exact HC.out)⟩
            case measure => simp [intOf]; omega
          · have HF : Hid (segOk tag ess = false) := Lib.hid (segOk_tag (by
              rw [tagOk_three (by rw [list_len]; exact H3.out)]
              have hcc : capI ((tag.data.toList[k]'(by rw [list_len]; exact hkt)).toNat) = false := hc
              obtain rfl | rfl | rfl : k = 0 ∨ k = 1 ∨ k = 2 := by omega
              all_goals rw [hcc]; simp))
            clear hc
            by_cases hc2 : 65 ≤ (tag[k].toNat : Int)
            · have hc3 : 90 < (tag[k].toNat : Int) := by omega
              clear hc1
              go_wp2_with fail
              go_ret
              exact ⟨by rw [HF.out]; rfl, HBL.out⟩
            · clear hc1
              go_wp2_with fail
              go_ret
              exact ⟨by rw [HF.out]; rfl, HBL.out⟩
        · obtain rfl : k = 3 := by omega
          have HTO : Hid (tagOk tag.data.toList = true) := Lib.hid (by
            rw [tagOk_three (by rw [list_len]; exact H3.out)]
            have h0 := HJ.out 0 (by omega) (by rw [H3.out]; omega)
            have h1 := HJ.out 1 (by omega) (by rw [H3.out]; omega)
            have h2 := HJ.out 2 (by omega) (by rw [H3.out]; omega)
            simp only [str_get] at h0 h1 h2
            rw [h0, h1, h2]
            rfl)
          clear hlt HJ hk
          go_wp2_with fail
          go_loop [4, 5] (fun i _ => ∃ k : Nat, k ≤ n ∧ i = .int .i64 k ∧ Hid (∀ j (hj : j < k) (hl : j < ess.length), partsOk ess[j] = true)) (fun i _ => n - (intOf i).toNat)
          case atStart => exact ⟨0, Nat.zero_le _, rfl, Lib.hid (fun j hj => absurd hj (by omega))⟩
          case round =>
            obtain ⟨k, hk, rfl, HJ⟩ := hrel
            by_cases hlt : k < n
            · have hke : k < ess.length := by rw [HN.out]; exact hlt
              obtain ⟨b, o, rfl, hl, B, c', hcell, hle, hmx, hrB⟩ := strss_pos hr1 hke
              have HP : Hid (partsOk ess[k] = false → segOk tag ess = false) := Lib.hid (segOk_bad hke)
              have HQ : Hid (partsOk ess[k] = true → ∀ j (hj : j < k + 1) (hl : j < ess.length), partsOk ess[j] = true) := Lib.hid fun hq j hj hl => by
                rcases Nat.lt_or_ge j k with h | h
                · exact HJ.out j h hl
                · obtain rfl : j = k := by omega
                  exact hq
              unfold maxLen at hmx
              generalize ess[k] = ps at *
              generalize hm' : ps.length = m at *
              have HM := Lib.hid hm'
              clear hm' hr1
              by_cases hin : 1 ≤ m ∧ m ≤ 4
              · have hi1' : (1 : Int) ≤ m := by omega
                have hi2' : (m : Int) ≤ 4 := by omega
                go_wp2_with fail
                refine (l1In_true _ _ _ _ hi1' hi2').mono ?_
                rintro e w' ⟨rfl, rfl⟩
                go_wp2_with fail
                go_loop [5] (fun i => ∃ q : Nat, q ≤ m ∧ i = .int .i64 q ∧ Hid (∀ j (hj : j < q) (hl : j < ps.length), (ps[j]).size ≤ 8)) (fun i => m - (intOf i).toNat)
                case atStart => exact ⟨0, Nat.zero_le _, rfl, Lib.hid (fun j hj => absurd hj (by omega))⟩
                case round =>
                  obtain ⟨q, hq, rfl, HK⟩ := hrel
                  by_cases hlq : q < m
                  · have hqp : q < ps.length := by rw [HM.out]; exact hlq
                    have hqs : q < (strs ps).length := by rw [strs_len]; exact hqp
                    obtain ⟨b2, o2, rfl, hl2, hc2⟩ := hrB.pos hqs
                    have h2 := hc2 q hqs
                    rw [strs_at] at h2
                    have HL : Hid (8 < (ps[q]).size → segOk tag ess = false) := Lib.hid fun h8 => HP.out (partsOk_bad hqp h8)
                    generalize hx : ps[q] = x at *
                    have HX := Lib.hid hx
                    clear hc2 hx
                    by_cases h8 : 8 < x.size
                    · have HF := Lib.hid (HL.out h8)
                      go_wp2_with fail
                      go_ret
                      exact ⟨by rw [HF.out]; rfl, HBL.out⟩
                    · go_wp2_with fail
                      go_round
                      case rel => exact ⟨q + 1, by omega, by go_num, Lib.hid (fun j hj hl => by
                        rcases Nat.lt_or_ge j q with h | h
                        · exact HK.out j h hl
                        · obtain rfl : j = q := by omega
                          rw [HX.out]; omega)⟩
                      case measure => simp [intOf]; omega
                  · obtain rfl : q = m := by omega
                    have HF : Hid (partsOk ps = true) := Lib.hid (partsOk_good (by rw [HM.out]; exact hin.1) (by rw [HM.out]; exact hin.2) (fun j hj => HK.out j (by rw [← HM.out]; exact hj) hj))
                    go_wp2_with fail
                    go_round
                    case rel => exact ⟨k + 1, by omega, by go_num, Lib.hid (HQ.out HF.out)⟩
                    case measure => simp [intOf]; omega
              · have HF : Hid (segOk tag ess = false) := Lib.hid (HP.out (partsOk_len (by rw [HM.out]; omega)))
                have hin' : (m : Int) < 1 ∨ 4 < (m : Int) := by omega
                have HI := Lib.hid hin'
                clear hin hin'
                go_wp2_with fail
                refine (l1In_false _ _ _ _ HI.out).mono ?_
                rintro e w' ⟨rfl, rfl⟩
                go_wp2_with fail
                go_ret
                exact ⟨by rw [HF.out]; rfl, HBL.out⟩
            · obtain rfl : k = n := by omega
              have HF : Hid (segOk tag ess = true) := Lib.hid (segOk_good HTO.out (by rw [HN.out]; omega) (fun j hj => HJ.out j (by rw [← HN.out]; exact hj) hj))
              go_wp2_with fail
              go_ret
              exact ⟨by rw [HF.out]; rfl, HBL.out⟩
    · have HF : Hid (segOk tag ess = false) := Lib.hid (segOk_many (by rw [HN.out]; omega))
      go_enter Try.func6, Try.ntmps6
      go_wp2_with fail
      go_ret
      exact ⟨by rw [HF.out]; rfl, HBL.out⟩
  · have h3b : ((tag.size : Int) != 3) = true := by simp; omega
    have hf : segOk tag ess = false := segOk_tag (tagOk_len (by rw [list_len]; exact h3))
    have HF := Lib.hid hf
    clear hf h3
    go_enter Try.func6, Try.ntmps6
    go_wp2_with fail
    go_ret
    exact ⟨by rw [HF.out]; rfl, HBL.out⟩
end Go.Proofs.Ytkdaekiihkkpkaa
