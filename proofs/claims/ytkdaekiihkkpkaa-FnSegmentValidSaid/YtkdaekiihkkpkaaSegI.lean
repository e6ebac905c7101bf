/- The program's SegmentValid returns the plain word. -/
import Derived.Test.YtkdaekiihkkpkaaSegL
import Derived.Test.YtkdaekiihkkpkaaStr
namespace Go.Proofs.Ytkdaekiihkkpkaa
open Go Go.ChangeShapes Go.WideShapes Go.ChangeAt Go.RowKit
theorem strss_pos {w : World} {A : Option Addr} {ess : List (List ByteArray)} (h : RdRR w A (strss ess)) {k : Nat} (hk : k < ess.length) :
    ∃ b o, A = some ⟨b, o, none⟩ ∧ b < w.heap.size ∧ ∃ B c, w.cell? ⟨b, o + k, none⟩ = some (.slice B (ess[k]).length c) ∧ (ess[k]).length ≤ c ∧ c ≤ maxLen ∧ RdV w B (strs ess[k]) := by
  have hk' : k < (strss ess).length := by rw [strss_len]; exact hk
  have := h.pos hk'
  simp only [strss_at, strs_len] at this
  exact this
set_option maxHeartbeats 2000000 in
theorem implSegmentValid (tag : ByteArray) (A : Option Addr) (n c : Nat) (ess : List (List ByteArray)) (w : World) (hn : ess.length = n) (hr : RdRR w A (strss ess)) (hm : n ≤ 9223372036854775807) :
    Calls Try.prog 5 #[.agg #[.string tag, .slice A n c]] w fun e w' => e = .returned (.bool (segOk tag ess)) ∧ Below w.heap.size w w' := by
  have HN := Lib.hid hn
  clear hn
  have hbl : Below w.heap.size w (w.alloc (.cells #[.string tag, .slice A n c] 25)) := (Below.refl _ _).alloc (Nat.le_refl _) _
  have HBL := Lib.hid hbl
  have hr1 := hr.below hbl
  clear hbl hr
  by_cases h3 : tag.size = 3
  · have h3b : ((tag.size : Int) != 3) = false := by rw [h3]; rfl
    have H3 := Lib.hid h3
    clear h3
    have hi0 : 0 < tag.size := by have := H3.out; omega
    have hi1 : 1 < tag.size := by have := H3.out; omega
    have hi2 : 2 < tag.size := by have := H3.out; omega
    have HT : Hid (tagOk tag.data.toList = (capI ((tag[0]'hi0).toNat) && capI ((tag[1]'hi1).toNat) && capI ((tag[2]'hi2).toNat))) := Lib.hid (tagOk_three (by rw [list_len]; exact H3.out))
    by_cases hc0 : capI ((tag[0]'hi0).toNat) = true
    · by_cases hc1 : capI ((tag[1]'hi1).toNat) = true
      · by_cases hc2 : capI ((tag[2]'hi2).toNat) = true
        · have C0 := Lib.hid hc0
          have C1 := Lib.hid hc1
          have C2 := Lib.hid hc2
          clear hc0 hc1 hc2
          have HTO : Hid (tagOk tag.data.toList = true) := Lib.hid (by rw [HT.out, C0.out, C1.out, C2.out]; rfl)
          by_cases h5 : n ≤ 5
          · go_enter Try.func5, Try.ntmps5
            go_wp2_with fail
            refine (isCapital_true _ _ C0.out).mono ?_
            rintro e w' ⟨rfl, rfl⟩
            go_wp2_with fail
            refine (isCapital_true _ _ C1.out).mono ?_
            rintro e w' ⟨rfl, rfl⟩
            go_wp2_with fail
            refine (isCapital_true _ _ C2.out).mono ?_
            rintro e w' ⟨rfl, rfl⟩
            go_wp2_with fail
            go_loop [39] (fun i => ∃ k : Nat, k ≤ n ∧ i = .int .i64 k ∧ Hid (∀ j (hj : j < k) (hl : j < ess.length), partsOk ess[j] = true)) (fun i => n - (intOf i).toNat)
            case atStart => exact ⟨0, Nat.zero_le _, rfl, Lib.hid (fun j hj => absurd hj (by omega))⟩
            case round =>
              obtain ⟨k, hk, rfl, HJ⟩ := hrel
              by_cases hlt : k < n
              · have hke : k < ess.length := by rw [HN.out]; exact hlt
                obtain ⟨b, o, rfl, hl, B, c', hcell, hle, hmx, hrB⟩ := strss_pos hr1 hke
                have HP : Hid (partsOk ess[k] = false → segOk tag ess = false) := Lib.hid (segOk_bad hke)
                have HE := Lib.hid (partsOk_eq ess[k])
                have HQ : Hid (partsOk ess[k] = true → ∀ j (hj : j < k + 1) (hl : j < ess.length), partsOk ess[j] = true) := Lib.hid fun hq j hj hl => by
                  rcases Nat.lt_or_ge j k with h | h
                  · exact HJ.out j h hl
                  · obtain rfl : j = k := by omega
                    exact hq
                unfold maxLen at hmx
                generalize ess[k] = ps at *
                generalize hm' : ps.length = m at *
                have HM := Lib.hid hm'
                clear hm' hr1
                by_cases hin : 1 ≤ m ∧ m ≤ 4
                · have hi1' : (1 : Int) ≤ m := by omega
                  have hi2' : (m : Int) ≤ 4 := by omega
                  have HD : Hid (partsOk ps = !decide (0 ≤ longAt ps)) := Lib.hid (by rw [HE.out, decide_eq_true hin.1, decide_eq_true hin.2]; rfl)
                  by_cases hL : 0 ≤ longAt ps
                  · have hd : decide (0 ≤ longAt ps) = true := decide_eq_true hL
                    have hf : segOk tag ess = false := HP.out (by rw [HD.out, hd]; rfl)
                    have HF := Lib.hid hf
                    clear hf hin
                    go_wp2_with fail
                    refine (within_true _ _ _ _ hi1' hi2').mono ?_
                    rintro e w' ⟨rfl, rfl⟩
                    go_wp2_with fail
                    refine (anyLong_any B m c' ps _ HM.out hrB (by omega)).mono ?_
                    rintro e w' ⟨rfl, rfl⟩
                    rw [hd]
                    go_wp2_with fail
                    go_ret
                    exact ⟨by rw [HF.out]; rfl, HBL.out⟩
                  · have hd : decide (0 ≤ longAt ps) = false := decide_eq_false hL
                    have HF : Hid (partsOk ps = true) := Lib.hid (by rw [HD.out, hd]; rfl)
                    clear hin
                    go_wp2_with fail
                    refine (within_true _ _ _ _ hi1' hi2').mono ?_
                    rintro e w' ⟨rfl, rfl⟩
                    go_wp2_with fail
                    refine (anyLong_any B m c' ps _ HM.out hrB (by omega)).mono ?_
                    rintro e w' ⟨rfl, rfl⟩
                    rw [hd]
                    go_wp2_with fail
                    go_round
                    case rel => exact ⟨k + 1, by omega, by go_num, Lib.hid (HQ.out HF.out)⟩
                    case measure => simp [intOf]; omega
                · have HF : Hid (segOk tag ess = false) := Lib.hid (HP.out (partsOk_len (by rw [HM.out]; omega)))
                  have hin' : (m : Int) < 1 ∨ 4 < (m : Int) := by omega
                  have HI := Lib.hid hin'
                  clear hin hin'
                  go_wp2_with fail
                  refine (within_false _ _ _ _ HI.out).mono ?_
                  rintro e w' ⟨rfl, rfl⟩
                  go_wp2_with fail
                  go_ret
                  exact ⟨by rw [HF.out]; rfl, HBL.out⟩
              · obtain rfl : k = n := by omega
                have HF : Hid (segOk tag ess = true) := Lib.hid (segOk_good HTO.out (by rw [HN.out]; omega) (fun j hj => HJ.out j (by rw [← HN.out]; exact hj) hj))
                go_wp2_with fail
                go_ret
                exact ⟨by rw [HF.out]; rfl, HBL.out⟩
          · have hf : segOk tag ess = false := segOk_many (by rw [HN.out]; omega)
            have HF := Lib.hid hf
            clear hf
            go_enter Try.func5, Try.ntmps5
            go_wp2_with fail
            refine (isCapital_true _ _ C0.out).mono ?_
            rintro e w' ⟨rfl, rfl⟩
            go_wp2_with fail
            refine (isCapital_true _ _ C1.out).mono ?_
            rintro e w' ⟨rfl, rfl⟩
            go_wp2_with fail
            refine (isCapital_true _ _ C2.out).mono ?_
            rintro e w' ⟨rfl, rfl⟩
            go_wp2_with fail
            go_ret
            exact ⟨by rw [HF.out]; rfl, HBL.out⟩
        · have hc2 := Bool.eq_false_iff.2 hc2
          have HF : Hid (segOk tag ess = false) := Lib.hid (segOk_tag (by rw [HT.out, hc2]; simp))
          have C0 := Lib.hid hc0
          have C1 := Lib.hid hc1
          have C2 := Lib.hid hc2
          clear hc0 hc1 hc2
          go_enter Try.func5, Try.ntmps5
          go_wp2_with fail
          refine (isCapital_true _ _ C0.out).mono ?_
          rintro e w' ⟨rfl, rfl⟩
          go_wp2_with fail
          refine (isCapital_true _ _ C1.out).mono ?_
          rintro e w' ⟨rfl, rfl⟩
          go_wp2_with fail
          refine (isCapital_false _ _ C2.out).mono ?_
          rintro e w' ⟨rfl, rfl⟩
          go_wp2_with fail
          go_ret
          exact ⟨by rw [HF.out]; rfl, HBL.out⟩
      · have hc1 := Bool.eq_false_iff.2 hc1
        have HF : Hid (segOk tag ess = false) := Lib.hid (segOk_tag (by rw [HT.out, hc1]; simp))
        have C0 := Lib.hid hc0
        have C1 := Lib.hid hc1
        clear hc0 hc1
        go_enter Try.func5, Try.ntmps5
        go_wp2_with fail
        refine (isCapital_true _ _ C0.out).mono ?_
        rintro e w' ⟨rfl, rfl⟩
        go_wp2_with fail
        refine (isCapital_false _ _ C1.out).mono ?_
        rintro e w' ⟨rfl, rfl⟩
        go_wp2_with fail
        go_ret
        exact ⟨by rw [HF.out]; rfl, HBL.out⟩
    · have hc0 := Bool.eq_false_iff.2 hc0
      have HF : Hid (segOk tag ess = false) := Lib.hid (segOk_tag (by rw [HT.out, hc0]; simp))
      have C0 := Lib.hid hc0
      clear hc0
      go_enter Try.func5, Try.ntmps5
      go_wp2_with fail
      refine (isCapital_false _ _ C0.out).mono ?_
      rintro e w' ⟨rfl, rfl⟩
      go_wp2_with fail
      go_ret
      exact ⟨by rw [HF.out]; rfl, HBL.out⟩
  · have h3b : ((tag.size : Int) != 3) = true := by simp; omega
    have hf : segOk tag ess = false := segOk_tag (tagOk_len (by rw [list_len]; exact h3))
    have HF := Lib.hid hf
    clear hf h3
    go_enter Try.func5, Try.ntmps5
    go_wp2_with fail
    go_ret
    exact ⟨by rw [HF.out]; rfl, HBL.out⟩
end Go.Proofs.Ytkdaekiihkkpkaa
