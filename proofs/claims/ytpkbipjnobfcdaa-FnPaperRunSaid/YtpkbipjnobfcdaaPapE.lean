/- PapersValid of the reference: the plain word. -/
import Derived.Test.YtpkbipjnobfcdaaPapD
namespace Go.Proofs.Ytpkbipjnobfcdaa
open Go Go.ChangeShapes Go.WideShapes Go.ChangeAt Go.RowKit
set_option linter.unusedVariables false
set_option maxHeartbeats 4000000 in
theorem specPapersValid (HA LA : Option Addr) (n c m lc : Nat) (hs : List HoldV) (ls : List Int) (w : World) (hn : hs.length = n) (hln : ls.length = m) (hr : RdV w HA (holds hs)) (hrl : RdV w LA (ints ls)) (hm : n ≤ 1048576) (hm2 : m ≤ 1048576) :
    Calls Try.prog 12 #[.agg #[.slice HA n c, .slice LA m lc]] w fun e w' => e = .returned (.bool (papOk hs ls)) ∧ Below w.heap.size w w' := by
  have HN := Lib.hid hn
  have HLN := Lib.hid hln
  clear hn hln
  have hbl : Below w.heap.size w (w.alloc (.cells #[.slice HA n c, .slice LA m lc] 26)) := (Below.refl _ _).alloc (Nat.le_refl _) _
  have hP : Blk (w.alloc (.cells #[.slice HA n c, .slice LA m lc] 26)) w.heap.size 26 [.slice HA n c, .slice LA m lc] := Blk.new _ _ _
  go_enter Try.func12, Try.ntmps12
  go_wp2_with fail
  go_loopw [3, 4] (fun i _ wr => ∃ k : Nat, k ≤ n ∧ i = .int .i64 k ∧ Hid (holdGo ls 0 hs = holdGo ls (lastH hs k) (hs.drop k)) ∧ Blk wr w.heap.size 26 [.slice HA n c, .slice LA m lc] ∧ Below w.heap.size w wr) (fun i _ _ => n - (intOf i).toNat)
  case atStart => exact ⟨0, Nat.zero_le _, rfl, Lib.hid rfl, hP, hbl⟩
  case round =>
    obtain ⟨k, hk, rfl, HJ, P1, hb⟩ := hrel
    have c0 := P1.cellAt 0 (by simp)
    have c1 := P1.cellAt 1 (by simp)
    simp only [List.getElem_cons_zero, List.getElem_cons_succ] at c0 c1
    have hPlt := P1.lt
    by_cases hlt : k < n
    · have hke : k < hs.length := by rw [HN.out]; exact hlt
      obtain ⟨b, o, rfl, hl, hc0, hc1⟩ := hr.holdAt hke
      have h0 : wr.cell? ⟨b, o + k * 2, none⟩ = some (.int .i64 (hs[k]).f0) := (hb.cell (p := ⟨b, o + k * 2, none⟩) hl).trans hc0
      have h1 : wr.cell? ⟨b, o + k * 2 + 1, none⟩ = some (.int .i64 (hs[k]).f1) := (hb.cell (p := ⟨b, o + k * 2 + 1, none⟩) hl).trans hc1
      have HST := Lib.hid (holdGo_step hke HJ.out)
      have HPV : Hid (∀ (hk0 : 0 < k), w.cell? ⟨b, o + (k - 1) * 2, none⟩ = some (.int .i64 (lastH hs k))) := Lib.hid (fun hk0 => by
        obtain ⟨b', o', e', _, hp0, _⟩ := hr.holdAt (show k - 1 < hs.length by omega)
        injection e' with e'
        injection e' with e1 e2
        subst e1 e2
        rw [hp0, ← lastH_succ (show k - 1 < hs.length by omega), show k - 1 + 1 = k from by omega])
      have HL0 : Hid (k = 0 → lastH hs k = 0) := Lib.hid (fun e => by rw [e]; rfl)
      generalize lastH hs k = lv at *
      have HSU := Lib.hid (lastH_succ hke)
      generalize hs[k] = y at *
      obtain ⟨y0, y1⟩ := y
      dsimp only at h0 h1 HST HSU
      have HGO : Hid (idI y0 = true ∧ inI y1 1 7 = true ∧ lv < y0 ∧ hasI ls y0 = false → holdGo ls 0 hs = holdGo ls (lastH hs (k + 1)) (hs.drop (k + 1))) := Lib.hid (fun h => by
        obtain ⟨q1, q2, q3, q4⟩ := h
        have q2' : (decide (1 ≤ y1) && decide (y1 ≤ 7)) = true := q2
        rw [HST.out, q1, q2', decide_eq_true q3, q4, HSU.out]; rfl)
      have HNO : Hid (¬ (idI y0 = true ∧ inI y1 1 7 = true ∧ lv < y0 ∧ hasI ls y0 = false) → papOk hs ls = false) := Lib.hid (fun h => by
        have : holdGo ls 0 hs = false := by
          rw [HST.out]
          exact gate_no (b := inI y1 1 7) h
        simp [papOk, this])
      have hal : Below wr.heap.size wr (wr.alloc (.cells #[.int .i64 y0, .int .i64 y1] 38)) := (Below.refl _ _).alloc (Nat.le_refl _) _
      have P2 := P1.later hal
      have H2 : Blk (wr.alloc (.cells #[.int .i64 y0, .int .i64 y1] 38)) wr.heap.size 38 [.int .i64 y0, .int .i64 y1] := Blk.new _ _ _
      have HB2 := Lib.hid (below_trans hb hal)
      have hki : (k : Int) < (n : Int) := by omega
      clear hc0 hc1 hal P1 hb hbl hP
      go_wp2_with fail
      generalize wr.alloc (.cells #[.int .i64 y0, .int .i64 y1] 38) = w4 at *
      have x0 : ∀ p : BelW w4, p.W.cell? ⟨w.heap.size, 0, none⟩ = some (.slice (some ⟨b, o, none⟩) n c) := fun p => (P2.belw p).cellAt 0 (by simp)
      have x1 : ∀ p : BelW w4, p.W.cell? ⟨w.heap.size, 1, none⟩ = some (.slice LA m lc) := fun p => (P2.belw p).cellAt 1 (by simp)
      have d0 : ∀ p : BelW w4, p.W.cell? ⟨wr.heap.size, 0, none⟩ = some (.int .i64 y0) := fun p => (H2.belw p).cellAt 0 (by simp)
      have d1 : ∀ p : BelW w4, p.W.cell? ⟨wr.heap.size, 1, none⟩ = some (.int .i64 y1) := fun p => (H2.belw p).cellAt 1 (by simp)
      have HP2 := Lib.hid P2
      have hI := fun W => l1In_any y0 1 999 W
      have hV := fun W => l1In_any y1 1 7 W
      have hC := fun W (hW : Below w4.heap.size w4 W) => l1Has_any LA m lc ls y0 W HLN.out (hrl.below (below_trans HB2.out hW)) (by omega)
      clear c0 c1 P2 H2 h0 h1
      have hId : idI y0 = inI y0 1 999 := rfl
      cases hid : idI y0 with
      | false =>
        have HF := Lib.hid (HNO.out (by simp [hid]))
        rw [← hId, hid] at hI
        clear hid hId
        refine wp_region_below (by kernel_rfl) (by kernel_rfl) ?_
        repeat (go_big_quiet_step ((first | (go_at_call 43; first | (with_reducible exact calls_same (hI _)) | (with_reducible exact calls_same (hV _))) | (go_at_call 44; exact calls_same (hC _ (BelW.ok _))))))
        refine wpQuiet_nil ?_
        intro _ hw'
        obtain ⟨⟨wq, hbq⟩, hw''⟩ := hw'
        subst hw''
        have HBQ := Lib.hid (below_trans HB2.out hbq)
        clear hbq hI hV hC
        go_wp2_with fail
        go_ret
        exact ⟨by rw [HF.out]; rfl, HBQ.out⟩
      | true =>
        have HID := Lib.hid hid
        have hid1 : 1 ≤ y0 := (idI_iff2.1 hid).1
        rw [← hId, hid] at hI
        clear hid hId
        cases hin : inI y1 1 7 with
        | false =>
          have HF := Lib.hid (HNO.out (by simp [hin]))
          rw [hin] at hV
          clear hin
          refine wp_region_below (by kernel_rfl) (by kernel_rfl) ?_
          repeat (go_big_quiet_step ((first | (go_at_call 43; first | (with_reducible exact calls_same (hI _)) | (with_reducible exact calls_same (hV _))) | (go_at_call 44; exact calls_same (hC _ (BelW.ok _))))))
          refine wpQuiet_nil ?_
          intro _ hw'
          obtain ⟨⟨wq, hbq⟩, hw''⟩ := hw'
          subst hw''
          have HBQ := Lib.hid (below_trans HB2.out hbq)
          clear hbq hI hV hC
          go_wp2_with fail
          go_ret
          exact ⟨by rw [HF.out]; rfl, HBQ.out⟩
        | true =>
          have HIN := Lib.hid hin
          rw [hin] at hV
          clear hin
          by_cases hk0 : 0 < k
          · have hd0 : decide ((0 : Int) < (k : Int)) = true := decide_eq_true (by omega)
            have hpv := HPV.out hk0
            have hp : ∀ p : BelW w4, p.W.cell? ⟨b, o + (k - 1) * 2, none⟩ = some (.int .i64 lv) := fun p => (below_trans HB2.out p.ok).cell (p := ⟨b, o + (k - 1) * 2, none⟩) hl |>.trans hpv
            have ek : IntKind.i64.wrap ((k : Int) - 1) = ((k - 1 : Nat) : Int) := by rw [IntWalk.i64_in _ (by omega)]; omega
            have ek1 : (0 : Int) ≤ ((k - 1 : Nat) : Int) := by omega
            have ek2 : ((k - 1 : Nat) : Int) < (n : Int) := by omega
            clear hpv
            by_cases hle : y0 ≤ lv
            · have hd1 : decide (y0 ≤ lv) = true := decide_eq_true hle
              have HF := Lib.hid (HNO.out (by omega))
              refine wp_region_below (by kernel_rfl) (by kernel_rfl) ?_
              repeat (go_big_quiet_step ((first | (go_at_call 43; first | (with_reducible exact calls_same (hI _)) | (with_reducible exact calls_same (hV _))) | (go_at_call 44; exact calls_same (hC _ (BelW.ok _))))))
              refine wpQuiet_nil ?_
              intro _ hw'
              obtain ⟨⟨wq, hbq⟩, hw''⟩ := hw'
              subst hw''
              have HBQ := Lib.hid (below_trans HB2.out hbq)
              clear hbq hI hV hC
              go_wp2_with fail
              go_ret
              exact ⟨by rw [HF.out]; rfl, HBQ.out⟩
            · have hd1 : decide (y0 ≤ lv) = false := decide_eq_false hle
              cases hh : hasI ls y0 with
              | true =>
                have HF := Lib.hid (HNO.out (by simp [hh]))
                rw [hh] at hC
                clear hh
                refine wp_region_below (by kernel_rfl) (by kernel_rfl) ?_
                repeat (go_big_quiet_step ((first | (go_at_call 43; first | (with_reducible exact calls_same (hI _)) | (with_reducible exact calls_same (hV _))) | (go_at_call 44; exact calls_same (hC _ (BelW.ok _))))))
                refine wpQuiet_nil ?_
                intro _ hw'
                obtain ⟨⟨wq, hbq⟩, hw''⟩ := hw'
                subst hw''
                have HBQ := Lib.hid (below_trans HB2.out hbq)
                clear hbq hI hV hC
                go_wp2_with fail
                go_ret
                exact ⟨by rw [HF.out]; rfl, HBQ.out⟩
              | false =>
                have HG := Lib.hid (HGO.out ⟨HID.out, HIN.out, by omega, hh⟩)
                rw [hh] at hC
                clear hh
                refine wp_region_below (by kernel_rfl) (by kernel_rfl) ?_
                repeat (go_big_quiet_step ((first | (go_at_call 43; first | (with_reducible exact calls_same (hI _)) | (with_reducible exact calls_same (hV _))) | (go_at_call 44; exact calls_same (hC _ (BelW.ok _))))))
                refine wpQuiet_nil ?_
                intro _ hw'
                obtain ⟨⟨wq, hbq⟩, hw''⟩ := hw'
                subst hw''
                have HBQ := Lib.hid (below_trans HB2.out hbq)
                have HPQ := Lib.hid (HP2.out.later hbq)
                clear hbq hI hV hC
                go_wp2_with fail
                go_roundw
                case rel => exact ⟨k + 1, by omega, by go_num, HG, HPQ.out, HBQ.out⟩
                case measure => simp [intOf]; omega
          · have hd0 : decide ((0 : Int) < (k : Int)) = false := decide_eq_false (by omega)
            have hlv : lv = 0 := HL0.out (by omega)
            have HLV := Lib.hid hlv
            have hll : lv < y0 := by omega
            clear hlv
            cases hh : hasI ls y0 with
            | true =>
              have HF := Lib.hid (HNO.out (by simp [hh]))
              rw [hh] at hC
              clear hh
              refine wp_region_below (by kernel_rfl) (by kernel_rfl) ?_
              repeat (go_big_quiet_step ((first | (go_at_call 43; first | (with_reducible exact calls_same (hI _)) | (with_reducible exact calls_same (hV _))) | (go_at_call 44; exact calls_same (hC _ (BelW.ok _))))))
              refine wpQuiet_nil ?_
              intro _ hw'
              obtain ⟨⟨wq, hbq⟩, hw''⟩ := hw'
              subst hw''
              have HBQ := Lib.hid (below_trans HB2.out hbq)
              clear hbq hI hV hC
              go_wp2_with fail
              go_ret
              exact ⟨by rw [HF.out]; rfl, HBQ.out⟩
            | false =>
              have HG := Lib.hid (HGO.out ⟨HID.out, HIN.out, by omega, hh⟩)
              rw [hh] at hC
              clear hh
              refine wp_region_below (by kernel_rfl) (by kernel_rfl) ?_
              repeat (go_big_quiet_step ((first | (go_at_call 43; first | (with_reducible exact calls_same (hI _)) | (with_reducible exact calls_same (hV _))) | (go_at_call 44; exact calls_same (hC _ (BelW.ok _))))))
              refine wpQuiet_nil ?_
              intro _ hw'
              obtain ⟨⟨wq, hbq⟩, hw''⟩ := hw'
              subst hw''
              have HBQ := Lib.hid (below_trans HB2.out hbq)
              have HPQ := Lib.hid (HP2.out.later hbq)
              clear hbq hI hV hC
              go_wp2_with fail
              go_roundw
              case rel => exact ⟨k + 1, by omega, by go_num, HG, HPQ.out, HBQ.out⟩
              case measure => simp [intOf]; omega
    · obtain rfl : n = k := by omega
      have HE : Hid (holdGo ls 0 hs = true) := Lib.hid (by rw [HJ.out, List.drop_of_length_le (by rw [HN.out]; exact Nat.le_refl _)]; rfl)
      have P1 := P1
      have hb := hb
      go_wp2_with fail
      go_loopw [5] (fun i wr => ∃ k : Nat, k ≤ m ∧ i = .int .i64 k ∧ Hid (leftGo 0 ls = leftGo (lastL ls k) (ls.drop k)) ∧ Blk wr w.heap.size 26 [.slice HA n c, .slice LA m lc] ∧ Below w.heap.size w wr) (fun i _ => m - (intOf i).toNat)
      case atStart => exact ⟨0, Nat.zero_le _, rfl, Lib.hid rfl, P1, hb⟩
      case round =>
        clear P1 hb c0 c1 hPlt HJ
        obtain ⟨k, hk, rfl, HJ, P1, hb⟩ := hrel
        have c0 := P1.cellAt 0 (by simp)
        have c1 := P1.cellAt 1 (by simp)
        simp only [List.getElem_cons_zero, List.getElem_cons_succ] at c0 c1
        have hPlt := P1.lt
        by_cases hlt : k < m
        · have hke : k < ls.length := by rw [HLN.out]; exact hlt
          have hkl : k < (ints ls).length := by rw [ints_len]; exact hke
          obtain ⟨b, o, rfl, hl, hcc⟩ := hrl.pos hkl
          have hc0 := hcc k hkl
          rw [ints_at] at hc0
          have HST := Lib.hid (leftGo_step hke HJ.out)
          have HPV : Hid (∀ (hk0 : 0 < k), w.cell? ⟨b, o + (k - 1), none⟩ = some (.int .i64 (lastL ls k))) := Lib.hid (fun hk0 => by
            have hk1 : k - 1 < (ints ls).length := by rw [ints_len]; omega
            have := hcc (k - 1) hk1
            rw [ints_at] at this
            rw [this, ← lastL_succ (show k - 1 < ls.length by omega), show k - 1 + 1 = k from by omega])
          have HL0 : Hid (k = 0 → lastL ls k = 0) := Lib.hid (fun e => by rw [e]; rfl)
          generalize lastL ls k = lv at *
          have HSU := Lib.hid (lastL_succ hke)
          generalize ls[k] = y0 at *
          have HGO : Hid (idI y0 = true ∧ lv < y0 → leftGo 0 ls = leftGo (lastL ls (k + 1)) (ls.drop (k + 1))) := Lib.hid (fun h => by
            obtain ⟨q1, q3⟩ := h
            rw [HST.out, q1, decide_eq_true q3, HSU.out]; rfl)
          have HNO : Hid (¬ (idI y0 = true ∧ lv < y0) → papOk hs ls = false) := Lib.hid (fun h => by
            have : leftGo 0 ls = false := by
              rw [HST.out]
              exact gate_no2 h
            simp [papOk, this])
          have hki : (k : Int) < (m : Int) := by omega
          have HB := Lib.hid hb
          have HP := Lib.hid P1
          have h0 : wr.cell? ⟨b, o + k, none⟩ = some (.int .i64 y0) := (hb.cell (p := ⟨b, o + k, none⟩) hl).trans hc0
          have x1 : ∀ p : BelW wr, p.W.cell? ⟨w.heap.size, 1, none⟩ = some (.slice (some ⟨b, o, none⟩) m lc) := fun p => (P1.belw p).cellAt 1 (by simp)
          have d0 : ∀ p : BelW wr, p.W.cell? ⟨b, o + k, none⟩ = some (.int .i64 y0) := fun p => p.cell (a := ⟨b, o + k, none⟩) (Nat.lt_of_lt_of_le hl hb.size) h0
          have hI := fun W => l1In_any y0 1 999 W
          have hId : idI y0 = inI y0 1 999 := rfl
          clear hcc hc0
          cases hid : idI y0 with
          | false =>
            have HF := Lib.hid (HNO.out (by simp [hid]))
            rw [← hId, hid] at hI
            clear hid hId
            go_wp2_with fail
            refine wp_region_below (by kernel_rfl) (by kernel_rfl) ?_
            repeat (go_big_quiet_step ((go_at_call 43; exact calls_same (hI _))))
            refine wpQuiet_nil ?_
            intro _ hw'
            obtain ⟨⟨wq, hbq⟩, hw''⟩ := hw'
            subst hw''
            go_wp2_with fail



            go_ret
            exact ⟨by rw [HF.out]; rfl, below_trans HB.out hbq⟩
          | true =>
            have HID := Lib.hid hid
            have hid1 : 1 ≤ y0 := (idI_iff2.1 hid).1
            rw [← hId, hid] at hI
            clear hid hId
            by_cases hk0 : 0 < k
            · have hd0 : decide ((0 : Int) < (k : Int)) = true := decide_eq_true (by omega)
              have hpv := (hb.cell (p := ⟨b, o + (k - 1), none⟩) hl).trans (HPV.out hk0)
              have hp : ∀ p : BelW wr, p.W.cell? ⟨b, o + (k - 1), none⟩ = some (.int .i64 lv) := fun p => p.cell (a := ⟨b, o + (k - 1), none⟩) (Nat.lt_of_lt_of_le hl hb.size) hpv
              have ek : IntKind.i64.wrap ((k : Int) - 1) = ((k - 1 : Nat) : Int) := by rw [IntWalk.i64_in _ (by omega)]; omega
              have ek1 : (0 : Int) ≤ ((k - 1 : Nat) : Int) := by omega
              have ek2 : ((k - 1 : Nat) : Int) < (m : Int) := by omega
              by_cases hle : y0 ≤ lv
              · have hd1 : decide (y0 ≤ lv) = true := decide_eq_true hle
                have HF := Lib.hid (HNO.out (by omega))
                go_wp2_with fail
                refine wp_region_below (by kernel_rfl) (by kernel_rfl) ?_
                repeat (go_big_quiet_step ((go_at_call 43; exact calls_same (hI _))))
                refine wpQuiet_nil ?_
                intro _ hw'
                obtain ⟨⟨wq, hbq⟩, hw''⟩ := hw'
                subst hw''
                go_wp2_with fail



                go_ret
                exact ⟨by rw [HF.out]; rfl, below_trans HB.out hbq⟩
              · have hd1 : decide (y0 ≤ lv) = false := decide_eq_false hle
                have HG := Lib.hid (HGO.out ⟨HID.out, by omega⟩)
                go_wp2_with fail
                refine wp_region_below (by kernel_rfl) (by kernel_rfl) ?_
                repeat (go_big_quiet_step ((go_at_call 43; exact calls_same (hI _))))
                refine wpQuiet_nil ?_
                intro _ hw'
                obtain ⟨⟨wq, hbq⟩, hw''⟩ := hw'
                subst hw''
                go_wp2_with fail



                go_roundw
                case rel => exact ⟨k + 1, by omega, by go_num, HG, HP.out.later hbq, below_trans HB.out hbq⟩
                case measure => simp [intOf]; omega
            · have hd0 : decide ((0 : Int) < (k : Int)) = false := decide_eq_false (by omega)
              have hlv : lv = 0 := HL0.out (by omega)
              have HG := Lib.hid (HGO.out ⟨HID.out, by omega⟩)
              clear hlv
              go_wp2_with fail
              refine wp_region_below (by kernel_rfl) (by kernel_rfl) ?_
              repeat (go_big_quiet_step ((go_at_call 43; exact calls_same (hI _))))
              refine wpQuiet_nil ?_
              intro _ hw'
              obtain ⟨⟨wq, hbq⟩, hw''⟩ := hw'
              subst hw''
              go_wp2_with fail



              go_roundw
              case rel => exact ⟨k + 1, by omega, by go_num, HG, HP.out.later hbq, below_trans HB.out hbq⟩
              case measure => simp [intOf]; omega
        · obtain rfl : m = k := by omega
          have HE2 : Hid (papOk hs ls = (decide ((n : Int) ≤ 12) && decide ((m : Int) ≤ 12))) := Lib.hid (by
            have : leftGo 0 ls = true := by rw [HJ.out, List.drop_of_length_le (by rw [HLN.out]; exact Nat.le_refl _)]; rfl
            simp only [papOk, HE.out, this, HN.out, HLN.out]; simp)
          have HB := Lib.hid hb
          cases h1 : decide ((n : Int) ≤ 12) with
          | false =>
            have HF : Hid (papOk hs ls = false) := Lib.hid (by rw [HE2.out, h1]; rfl)
            go_wp2_with fail
            go_ret
            exact ⟨by rw [HF.out]; rfl, HB.out⟩
          | true =>
            have HF : Hid (papOk hs ls = decide ((m : Int) ≤ 12)) := Lib.hid (by rw [HE2.out, h1]; rfl)
            go_wp2_with fail
            go_ret
            exact ⟨by rw [HF.out]; rfl, HB.out⟩
end Go.Proofs.Ytpkbipjnobfcdaa
