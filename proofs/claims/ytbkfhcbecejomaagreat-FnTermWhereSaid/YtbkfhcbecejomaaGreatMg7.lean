/- Several texts of the proof in one; each says at its head what it proves; no condition. -/
import Derived.Test.YtbkfhcbecejomaaGreatMg6
import Derived.Test.YtbkfhcbecejomaaGreatMg2
import Derived.Lib.SliceRun
import Derived.Deep.RegionLaw
import Derived.Test.YtbkfhcbecejomaaGreatMg3
import Derived.Deep.RegionHeld3
section
/- PapersValid of the reference: the plain word. -/
namespace Go.Proofs.YtbkfhcbecejomaaGreat
open Go Go.ChangeShapes Go.WideShapes Go.ChangeAt Go.RowKit
set_option linter.unusedVariables false
set_option maxHeartbeats 4000000 in
theorem specPapersValid (HA LA : Option Addr) (n c m lc : Nat) (hs : List HoldV) (ls : List Int) (w : World) (hn : hs.length = n) (hln : ls.length = m) (hr : RdV w HA (holds hs)) (hrl : RdV w LA (ints ls)) (hm : n ≤ 1048576) (hm2 : m ≤ 1048576) :
    Calls Tryz.prog 28 #[.agg #[.slice HA n c, .slice LA m lc]] w fun e w' => e = .returned (.bool (papOk hs ls)) ∧ Below w.heap.size w w' := by
  have HN := Lib.hid hn
  have HLN := Lib.hid hln
  clear hn hln
  have hbl : Below w.heap.size w (w.alloc (.cells #[.slice HA n c, .slice LA m lc] 32)) := (Below.refl _ _).alloc (Nat.le_refl _) _
  have hP : Blk (w.alloc (.cells #[.slice HA n c, .slice LA m lc] 32)) w.heap.size 32 [.slice HA n c, .slice LA m lc] := Blk.new _ _ _
  go_enter Tryz.func28, Tryz.ntmps28
  go_wp2_with fail
  go_loopw [3, 4] (fun i _ wr => ∃ k : Nat, k ≤ n ∧ i = .int .i64 k ∧ Hid (holdGo ls 0 hs = holdGo ls (lastH hs k) (hs.drop k)) ∧ Blk wr w.heap.size 32 [.slice HA n c, .slice LA m lc] ∧ Below w.heap.size w wr) (fun i _ _ => n - (intOf i).toNat)
  case atStart => exact ⟨0, Nat.zero_le _, rfl, Lib.hid rfl, hP, hbl⟩
  case round =>
    obtain ⟨k, hk, rfl, HJ, P1, hb⟩ := hrel
    have c0 := P1.cellAt 0 (by simp)
    have c1 := P1.cellAt 1 (by simp)
    simp only [List.getElem_cons_zero, List.getElem_cons_succ] at c0 c1
    have hPlt := P1.lt
    by_cases hlt : k < n
    · have hke : k < hs.length := by rw [HN.out]; exact hlt
      obtain ⟨b, o, rfl, hl, hc0, hc1⟩ := hr.holdAt hke
      have h0 : wr.cell? ⟨b, o + k * 2, none⟩ = some (.int .i64 (hs[k]).f0) := (hb.cell (p := ⟨b, o + k * 2, none⟩) hl).trans hc0
      have h1 : wr.cell? ⟨b, o + k * 2 + 1, none⟩ = some (.int .i64 (hs[k]).f1) := (hb.cell (p := ⟨b, o + k * 2 + 1, none⟩) hl).trans hc1
      have HST := Lib.hid (holdGo_step hke HJ.out)
      have HPV : Hid (∀ (hk0 : 0 < k), w.cell? ⟨b, o + (k - 1) * 2, none⟩ = some (.int .i64 (lastH hs k))) := Lib.hid (fun hk0 => by
        obtain ⟨b', o', e', _, hp0, _⟩ := hr.holdAt (show k - 1 < hs.length by omega)
        injection e' with e'
        injection e' with e1 e2
        subst e1 e2
        rw [hp0, ← lastH_succ (show k - 1 < hs.length by omega), show k - 1 + 1 = k from by omega])
      have HL0 : Hid (k = 0 → lastH hs k = 0) := Lib.hid (fun e => by rw [e]; rfl)
      generalize lastH hs k = lv at *
      have HSU := Lib.hid (lastH_succ hke)
      generalize hs[k] = y at *
      obtain ⟨y0, y1⟩ := y
      dsimp only at h0 h1 HST HSU
      have HGO : Hid (idI y0 = true ∧ inI y1 1 7 = true ∧ lv < y0 ∧ hasI ls y0 = false → holdGo ls 0 hs = holdGo ls (lastH hs (k + 1)) (hs.drop (k + 1))) := Lib.hid (fun h => by
        obtain ⟨q1, q2, q3, q4⟩ := h
        have q2' : (decide (1 ≤ y1) && decide (y1 ≤ 7)) = true := q2
        rw [HST.out, q1, q2', decide_eq_true q3, q4, HSU.out]; rfl)
      have HNO : Hid (¬ (idI y0 = true ∧ inI y1 1 7 = true ∧ lv < y0 ∧ hasI ls y0 = false) → papOk hs ls = false) := Lib.hid (fun h => by
        have : holdGo ls 0 hs = false := by
          rw [HST.out]
          exact gate_no (b := inI y1 1 7) h
        simp [papOk, this])
      have hal : Below wr.heap.size wr (wr.alloc (.cells #[.int .i64 y0, .int .i64 y1] 88)) := (Below.refl _ _).alloc (Nat.le_refl _) _
      have P2 := P1.later hal
      have H2 : Blk (wr.alloc (.cells #[.int .i64 y0, .int .i64 y1] 88)) wr.heap.size 88 [.int .i64 y0, .int .i64 y1] := Blk.new _ _ _
      have HB2 := Lib.hid (below_trans hb hal)
      have hki : (k : Int) < (n : Int) := by omega
      clear hc0 hc1 hal P1 hb hbl hP
      go_wp2_with fail
      generalize wr.alloc (.cells #[.int .i64 y0, .int .i64 y1] 88) = w4 at *
      have x0 : ∀ p : BelW w4, p.W.cell? ⟨w.heap.size, 0, none⟩ = some (.slice (some ⟨b, o, none⟩) n c) := fun p => (P2.belw p).cellAt 0 (by simp)
      have x1 : ∀ p : BelW w4, p.W.cell? ⟨w.heap.size, 1, none⟩ = some (.slice LA m lc) := fun p => (P2.belw p).cellAt 1 (by simp)
      have d0 : ∀ p : BelW w4, p.W.cell? ⟨wr.heap.size, 0, none⟩ = some (.int .i64 y0) := fun p => (H2.belw p).cellAt 0 (by simp)
      have d1 : ∀ p : BelW w4, p.W.cell? ⟨wr.heap.size, 1, none⟩ = some (.int .i64 y1) := fun p => (H2.belw p).cellAt 1 (by simp)
      have HP2 := Lib.hid P2
      have hI := fun W => l1In_any y0 1 999 W
      have hV := fun W => l1In_any y1 1 7 W
      have hC := fun W (hW : Below w4.heap.size w4 W) => l1Has_any LA m lc ls y0 W HLN.out (hrl.below (below_trans HB2.out hW)) (by omega)
      clear c0 c1 P2 H2 h0 h1
      have hId : idI y0 = inI y0 1 999 := rfl
      cases hid : idI y0 with
      | false =>
        have HF := Lib.hid (HNO.out (by simp [hid]))
        rw [← hId, hid] at hI
        clear hid hId
        refine wp_region_below (by kernel_rfl) (by kernel_rfl) ?_
        repeat (go_big_quiet_step ((first | (go_at_call 63; first | (with_reducible exact calls_same (hI _)) | (with_reducible exact calls_same (hV _))) | (go_at_call 32; exact calls_same (hC _ (BelW.ok _))))))
        refine wpQuiet_nil ?_
        intro _ hw'
        obtain ⟨⟨wq, hbq⟩, hw''⟩ := hw'
        subst hw''
        have HBQ := Lib.hid (below_trans HB2.out hbq)
        clear hbq hI hV hC
        go_wp2_with fail
        go_ret
        exact ⟨by rw [HF.out]; rfl, HBQ.out⟩
      | true =>
        have HID := Lib.hid hid
        have hid1 : 1 ≤ y0 := (idI_iff2.1 hid).1
        rw [← hId, hid] at hI
        clear hid hId
        cases hin : inI y1 1 7 with
        | false =>
          have HF := Lib.hid (HNO.out (by simp [hin]))
          rw [hin] at hV
          clear hin
          refine wp_region_below (by kernel_rfl) (by kernel_rfl) ?_
          repeat (go_big_quiet_step ((first | (go_at_call 63; first | (with_reducible exact calls_same (hI _)) | (with_reducible exact calls_same (hV _))) | (go_at_call 32; exact calls_same (hC _ (BelW.ok _))))))
          refine wpQuiet_nil ?_
          intro _ hw'
          obtain ⟨⟨wq, hbq⟩, hw''⟩ := hw'
          subst hw''
          have HBQ := Lib.hid (below_trans HB2.out hbq)
          clear hbq hI hV hC
          go_wp2_with fail
          go_ret
          exact ⟨by rw [HF.out]; rfl, HBQ.out⟩
        | true =>
          have HIN := Lib.hid hin
          rw [hin] at hV
          clear hin
          by_cases hk0 : 0 < k
          · have hd0 : decide ((0 : Int) < (k : Int)) = true := decide_eq_true (by omega)
            have hpv := HPV.out hk0
            have hp : ∀ p : BelW w4, p.W.cell? ⟨b, o + (k - 1) * 2, none⟩ = some (.int .i64 lv) := fun p => (below_trans HB2.out p.ok).cell (p := ⟨b, o + (k - 1) * 2, none⟩) hl |>.trans hpv
            have ek : IntKind.i64.wrap ((k : Int) - 1) = ((k - 1 : Nat) : Int) := by rw [IntWalk.i64_in _ (by omega)]; omega
            have ek1 : (0 : Int) ≤ ((k - 1 : Nat) : Int) := by omega
            have ek2 : ((k - 1 : Nat) : Int) < (n : Int) := by omega
            clear hpv
            by_cases hle : y0 ≤ lv
            · have hd1 : decide (y0 ≤ lv) = true := decide_eq_true hle
              have HF := Lib.hid (HNO.out (by omega))
              refine wp_region_below (by kernel_rfl) (by kernel_rfl) ?_
              repeat (go_big_quiet_step ((first | (go_at_call 63; first | (with_reducible exact calls_same (hI _)) | (with_reducible exact calls_same (hV _))) | (go_at_call 32; exact calls_same (hC _ (BelW.ok _))))))
              refine wpQuiet_nil ?_
              intro _ hw'
              obtain ⟨⟨wq, hbq⟩, hw''⟩ := hw'
              subst hw''
              have HBQ := Lib.hid (below_trans HB2.out hbq)
              clear hbq hI hV hC
              go_wp2_with fail
              go_ret
              exact ⟨by rw [HF.out]; rfl, HBQ.out⟩
            · have hd1 : decide (y0 ≤ lv) = false := decide_eq_false hle
              cases hh : hasI ls y0 with
              | true =>
                have HF := Lib.hid (HNO.out (by simp [hh]))
                rw [hh] at hC
                clear hh
                refine wp_region_below (by kernel_rfl) (by kernel_rfl) ?_
                repeat (go_big_quiet_step ((first | (go_at_call 63; first | (with_reducible exact calls_same (hI _)) | (with_reducible exact calls_same (hV _))) | (go_at_call 32; exact calls_same (hC _ (BelW.ok _))))))
                refine wpQuiet_nil ?_
                intro _ hw'
                obtain ⟨⟨wq, hbq⟩, hw''⟩ := hw'
                subst hw''
                have HBQ := Lib.hid (below_trans HB2.out hbq)
                clear hbq hI hV hC
                go_wp2_with fail
                go_ret
                exact ⟨by rw [HF.out]; rfl, HBQ.out⟩
              | false =>
                have HG := Lib.hid (HGO.out ⟨HID.out, HIN.out, by omega, hh⟩)
                rw [hh] at hC
                clear hh
                refine wp_region_below (by kernel_rfl) (by kernel_rfl) ?_
                repeat (go_big_quiet_step ((first | (go_at_call 63; first | (with_reducible exact calls_same (hI _)) | (with_reducible exact calls_same (hV _))) | (go_at_call 32; exact calls_same (hC _ (BelW.ok _))))))
                refine wpQuiet_nil ?_
                intro _ hw'
                obtain ⟨⟨wq, hbq⟩, hw''⟩ := hw'
                subst hw''
                have HBQ := Lib.hid (below_trans HB2.out hbq)
                have HPQ := Lib.hid (HP2.out.later hbq)
                clear hbq hI hV hC
                go_wp2_with fail
                go_roundw
                case rel => exact ⟨k + 1, by omega, by go_num, HG, HPQ.out, HBQ.out⟩
                case measure => simp [intOf]; omega
          · have hd0 : decide ((0 : Int) < (k : Int)) = false := decide_eq_false (by omega)
            have hlv : lv = 0 := HL0.out (by omega)
            have HLV := Lib.hid hlv
            have hll : lv < y0 := by omega
            clear hlv
            cases hh : hasI ls y0 with
            | true =>
              have HF := Lib.hid (HNO.out (by simp [hh]))
              rw [hh] at hC
              clear hh
              refine wp_region_below (by kernel_rfl) (by kernel_rfl) ?_
              repeat (go_big_quiet_step ((first | (go_at_call 63; first | (with_reducible exact calls_same (hI _)) | (with_reducible exact calls_same (hV _))) | (go_at_call 32; exact calls_same (hC _ (BelW.ok _))))))
              refine wpQuiet_nil ?_
              intro _ hw'
              obtain ⟨⟨wq, hbq⟩, hw''⟩ := hw'
              subst hw''
              have HBQ := Lib.hid (below_trans HB2.out hbq)
              clear hbq hI hV hC
              go_wp2_with fail
              go_ret
              exact ⟨by rw [HF.out]; rfl, HBQ.out⟩
            | false =>
              have HG := Lib.hid (HGO.out ⟨HID.out, HIN.out, by omega, hh⟩)
              rw [hh] at hC
              clear hh
              refine wp_region_below (by kernel_rfl) (by kernel_rfl) ?_
              repeat (go_big_quiet_step ((first | (go_at_call 63; first | (with_reducible exact calls_same (hI _)) | (with_reducible exact calls_same (hV _))) | (go_at_call 32; exact calls_same (hC _ (BelW.ok _))))))
              refine wpQuiet_nil ?_
              intro _ hw'
              obtain ⟨⟨wq, hbq⟩, hw''⟩ := hw'
              subst hw''
              have HBQ := Lib.hid (below_trans HB2.out hbq)
              have HPQ := Lib.hid (HP2.out.later hbq)
              clear hbq hI hV hC
              go_wp2_with fail
              go_roundw
              case rel => exact ⟨k + 1, by omega, by go_num, HG, HPQ.out, HBQ.out⟩
              case measure => simp [intOf]; omega
    · obtain rfl : n = k := by omega
      have HE : Hid (holdGo ls 0 hs = true) := Lib.hid (by rw [HJ.out, List.drop_of_length_le (by rw [HN.out]; exact Nat.le_refl _)]; rfl)
      have P1 := P1
      have hb := hb
      go_wp2_with fail
      go_loopw [5] (fun i wr => ∃ k : Nat, k ≤ m ∧ i = .int .i64 k ∧ Hid (leftGo 0 ls = leftGo (lastL ls k) (ls.drop k)) ∧ Blk wr w.heap.size 32 [.slice HA n c, .slice LA m lc] ∧ Below w.heap.size w wr) (fun i _ => m - (intOf i).toNat)
      case atStart => exact ⟨0, Nat.zero_le _, rfl, Lib.hid rfl, P1, hb⟩
      case round =>
        clear P1 hb c0 c1 hPlt HJ
        obtain ⟨k, hk, rfl, HJ, P1, hb⟩ := hrel
        have c0 := P1.cellAt 0 (by simp)
        have c1 := P1.cellAt 1 (by simp)
        simp only [List.getElem_cons_zero, List.getElem_cons_succ] at c0 c1
        have hPlt := P1.lt
        by_cases hlt : k < m
        · have hke : k < ls.length := by rw [HLN.out]; exact hlt
          have hkl : k < (ints ls).length := by rw [ints_len]; exact hke
          obtain ⟨b, o, rfl, hl, hcc⟩ := hrl.pos hkl
          have hc0 := hcc k hkl
          rw [ints_at] at hc0
          have HST := Lib.hid (leftGo_step hke HJ.out)
          have HPV : Hid (∀ (hk0 : 0 < k), w.cell? ⟨b, o + (k - 1), none⟩ = some (.int .i64 (lastL ls k))) := Lib.hid (fun hk0 => by
            have hk1 : k - 1 < (ints ls).length := by rw [ints_len]; omega
            have := hcc (k - 1) hk1
            rw [ints_at] at this
            rw [this, ← lastL_succ (show k - 1 < ls.length by omega), show k - 1 + 1 = k from by omega])
          have HL0 : Hid (k = 0 → lastL ls k = 0) := Lib.hid (fun e => by rw [e]; rfl)
          generalize lastL ls k = lv at *
          have HSU := Lib.hid (lastL_succ hke)
          generalize ls[k] = y0 at *
          have HGO : Hid (idI y0 = true ∧ lv < y0 → leftGo 0 ls = leftGo (lastL ls (k + 1)) (ls.drop (k + 1))) := Lib.hid (fun h => by
            obtain ⟨q1, q3⟩ := h
            rw [HST.out, q1, decide_eq_true q3, HSU.out]; rfl)
          have HNO : Hid (¬ (idI y0 = true ∧ lv < y0) → papOk hs ls = false) := Lib.hid (fun h => by
            have : leftGo 0 ls = false := by
              rw [HST.out]
              exact gate_no2 h
            simp [papOk, this])
          have hki : (k : Int) < (m : Int) := by omega
          have HB := Lib.hid hb
          have HP := Lib.hid P1
          have h0 : wr.cell? ⟨b, o + k, none⟩ = some (.int .i64 y0) := (hb.cell (p := ⟨b, o + k, none⟩) hl).trans hc0
          have x1 : ∀ p : BelW wr, p.W.cell? ⟨w.heap.size, 1, none⟩ = some (.slice (some ⟨b, o, none⟩) m lc) := fun p => (P1.belw p).cellAt 1 (by simp)
          have d0 : ∀ p : BelW wr, p.W.cell? ⟨b, o + k, none⟩ = some (.int .i64 y0) := fun p => p.cell (a := ⟨b, o + k, none⟩) (Nat.lt_of_lt_of_le hl hb.size) h0
          have hI := fun W => l1In_any y0 1 999 W
          have hId : idI y0 = inI y0 1 999 := rfl
          clear hcc hc0
          cases hid : idI y0 with
          | false =>
            have HF := Lib.hid (HNO.out (by simp [hid]))
            rw [← hId, hid] at hI
            clear hid hId
            go_wp2_with fail
            refine wp_region_below (by kernel_rfl) (by kernel_rfl) ?_
            repeat (go_big_quiet_step ((go_at_call 63; exact calls_same (hI _))))
            refine wpQuiet_nil ?_
            intro _ hw'
            obtain ⟨⟨wq, hbq⟩, hw''⟩ := hw'
            subst hw''
            go_wp2_with fail



            go_ret
            exact ⟨by rw [HF.out]; rfl, below_trans HB.out hbq⟩
          | true =>
            have HID := Lib.hid hid
            have hid1 : 1 ≤ y0 := (idI_iff2.1 hid).1
            rw [← hId, hid] at hI
            clear hid hId
            by_cases hk0 : 0 < k
            · have hd0 : decide ((0 : Int) < (k : Int)) = true := decide_eq_true (by omega)
              have hpv := (hb.cell (p := ⟨b, o + (k - 1), none⟩) hl).trans (HPV.out hk0)
              have hp : ∀ p : BelW wr, p.W.cell? ⟨b, o + (k - 1), none⟩ = some (.int .i64 lv) := fun p => p.cell (a := ⟨b, o + (k - 1), none⟩) (Nat.lt_of_lt_of_le hl hb.size) hpv
              have ek : IntKind.i64.wrap ((k : Int) - 1) = ((k - 1 : Nat) : Int) := by rw [IntWalk.i64_in _ (by omega)]; omega
              have ek1 : (0 : Int) ≤ ((k - 1 : Nat) : Int) := by omega
              have ek2 : ((k - 1 : Nat) : Int) < (m : Int) := by omega
              by_cases hle : y0 ≤ lv
              · have hd1 : decide (y0 ≤ lv) = true := decide_eq_true hle
                have HF := Lib.hid (HNO.out (by omega))
                go_wp2_with fail
                refine wp_region_below (by kernel_rfl) (by kernel_rfl) ?_
                repeat (go_big_quiet_step ((go_at_call 63; exact calls_same (hI _))))
                refine wpQuiet_nil ?_
                intro _ hw'
                obtain ⟨⟨wq, hbq⟩, hw''⟩ := hw'
                subst hw''
                go_wp2_with fail



                go_ret
                exact ⟨by rw [HF.out]; rfl, below_trans HB.out hbq⟩
              · have hd1 : decide (y0 ≤ lv) = false := decide_eq_false hle
                have HG := Lib.hid (HGO.out ⟨HID.out, by omega⟩)
                go_wp2_with fail
                refine wp_region_below (by kernel_rfl) (by kernel_rfl) ?_
                repeat (go_big_quiet_step ((go_at_call 63; exact calls_same (hI _))))
                refine wpQuiet_nil ?_
                intro _ hw'
                obtain ⟨⟨wq, hbq⟩, hw''⟩ := hw'
                subst hw''
                go_wp2_with fail



                go_roundw
                case rel => exact ⟨k + 1, by omega, by go_num, HG, HP.out.later hbq, below_trans HB.out hbq⟩
                case measure => simp [intOf]; omega
            · have hd0 : decide ((0 : Int) < (k : Int)) = false := decide_eq_false (by omega)
              have hlv : lv = 0 := HL0.out (by omega)
              have HG := Lib.hid (HGO.out ⟨HID.out, by omega⟩)
              clear hlv
              go_wp2_with fail
              refine wp_region_below (by kernel_rfl) (by kernel_rfl) ?_
              repeat (go_big_quiet_step ((go_at_call 63; exact calls_same (hI _))))
              refine wpQuiet_nil ?_
              intro _ hw'
              obtain ⟨⟨wq, hbq⟩, hw''⟩ := hw'
              subst hw''
              go_wp2_with fail



              go_roundw
              case rel => exact ⟨k + 1, by omega, by go_num, HG, HP.out.later hbq, below_trans HB.out hbq⟩
              case measure => simp [intOf]; omega
        · obtain rfl : m = k := by omega
          have HE2 : Hid (papOk hs ls = (decide ((n : Int) ≤ 12) && decide ((m : Int) ≤ 12))) := Lib.hid (by
            have : leftGo 0 ls = true := by rw [HJ.out, List.drop_of_length_le (by rw [HLN.out]; exact Nat.le_refl _)]; rfl
            simp only [papOk, HE.out, this, HN.out, HLN.out]; simp)
          have HB := Lib.hid hb
          cases h1 : decide ((n : Int) ≤ 12) with
          | false =>
            have HF : Hid (papOk hs ls = false) := Lib.hid (by rw [HE2.out, h1]; rfl)
            go_wp2_with fail
            go_ret
            exact ⟨by rw [HF.out]; rfl, HB.out⟩
          | true =>
            have HF : Hid (papOk hs ls = decide ((m : Int) ≤ 12)) := Lib.hid (by rw [HE2.out, h1]; rfl)
            go_wp2_with fail
            go_ret
            exact ⟨by rw [HF.out]; rfl, HB.out⟩
end Go.Proofs.YtbkfhcbecejomaaGreat
end
section
/- The library's functions on lists of holds: Clone, BinarySearchFunc, Insert, Delete. -/
namespace Go.Proofs.YtbkfhcbecejomaaGreat
open Go Go.ChangeShapes Go.WideShapes Go.ChangeAt Go.RowKit
theorem rd_none {w : World} {zs : List HoldV} (h : RdV w none (holds zs)) : zs = [] := by
  rcases h with h | ⟨b, off, e, _⟩
  · have := holds_len zs
    rw [h] at this
    exact List.eq_nil_of_length_eq_zero (by simp at this; omega)
  · cases e
theorem eqn_hold (w : World) (a : Option Addr) (n c n' c' : Nat) : (binOp .eql 30 (.slice a n c) (.slice none n' c')).run Tryz.prog w = .ok (.bool a.isNone) w := Lib.run_eql_slice_nil w _ _ a n c n' c' Tryz.underlying30
theorem isNaN_any (a : Int) (w : World) : Calls Tryz.prog 128 #[.int .i64 a] w fun e w' => e = .returned (.bool false) ∧ w = w' := by
  have h : (a != a) = false := by simp
  go_enter Tryz.func128, Tryz.ntmps128
  go_wp2_with fail
  go_ret
  exact ⟨rfl, rfl⟩
def cmpI (a b : Int) : Int := if a < b then -1 else if b < a then 1 else 0
theorem cmpI_neg {a b : Int} (h : a < b) : cmpI a b = -1 := by simp [cmpI, h]
theorem cmpI_zero {a : Int} : cmpI a a = 0 := by simp [cmpI]
theorem cmpI_pos {a b : Int} (h : b < a) : cmpI a b = 1 := by simp [cmpI, h]; omega
/-- where the first message lies that is not less -/
def AtH (zs : List HoldV) (x : Int) (i : Nat) : Prop := i ≤ zs.length ∧ (∀ t (h : t < zs.length), t < i → (zs[t]).f0 < x) ∧ (∀ t (h : t < zs.length), i ≤ t → x ≤ (zs[t]).f0)
def FoundH (zs : List HoldV) (x : Int) (i : Nat) : Bool := match zs[i]? with | some y => decide (y.f0 = x) | none => false
def AscH (zs : List HoldV) : Prop := ∀ s t (hs : s < zs.length) (ht : t < zs.length), s < t → (zs[s]).f0 < (zs[t]).f0
end Go.Proofs.YtbkfhcbecejomaaGreat
end
section
/- The library's Insert and Delete on lists of holds. -/
namespace Go.Proofs.YtbkfhcbecejomaaGreat
open Go Go.ChangeShapes Go.WideShapes Go.ChangeAt Go.RowKit
theorem hold_size : (Tryz.prog.info? 88).map (·.size) = some 2 := by kernel_rfl
theorem add_lit' (b o j : Nat) : (⟨b, o, none⟩ : Addr).add j = ⟨b, o + j, none⟩ := by unfold Addr.add; split <;> simp_all
theorem holds_drop (zs : List HoldV) (i : Nat) (hi : i ≤ zs.length) : holds (zs.drop i) = (holds zs).drop (i * 2) := by
  have h : holds zs = holds (zs.take i) ++ holds (zs.drop i) := by rw [← holds_app, List.take_append_drop]
  have hl : (holds (zs.take i)).length = i * 2 := by rw [holds_len, List.length_take, Nat.min_eq_left hi]
  conv => rhs; rw [h]
  rw [List.drop_append_of_le_length (Nat.le_of_eq hl.symm), List.drop_of_length_le (Nat.le_of_eq hl), List.nil_append]
theorem addr_run {w : World} {b off : Nat} {cs : List Value} (h : ∀ k (h : k < cs.length), w.cell? ⟨b, off + k, none⟩ = some cs[k]) : ∀ j v, cs[j]? = some v → w.cell? ((⟨b, off, none⟩ : Addr).add j) = some v := by
  intro j v hj
  obtain ⟨hl, rfl⟩ := List.getElem?_eq_some_iff.1 hj
  rw [add_lit']
  exact h j hl
theorem blk_src {w : World} {g : Nat} {t : TypeId} {a cs b : List Value} (h : Blk w g t (a ++ (cs ++ b))) : ∀ j v, cs[j]? = some v → w.cell? ((⟨g, a.length, none⟩ : Addr).add j) = some v := by
  intro j v hj
  obtain ⟨hl, rfl⟩ := List.getElem?_eq_some_iff.1 hj
  rw [add_lit', h.cell, List.getElem?_append_right (by omega), Nat.add_sub_cancel_left, List.getElem?_append_left hl, List.getElem?_eq_getElem hl]
def InsOut (w : World) (base : Nat) (v : Value) (zs : List HoldV) : Ending → World → Prop :=
  RVal fun u w' => w'.ownsRow base 88 2 u zs.length (holds zs) ∧ w.grownBy w' v.ownBlock ∧ (u.ownBlock = v.ownBlock ∨ ∃ g, u.ownBlock = some g ∧ w.heap.size ≤ g)
def insH (zs : List HoldV) (i : Nat) (x : HoldV) : List HoldV := zs.take i ++ (x :: zs.drop i)
theorem insH_len (zs : List HoldV) (i : Nat) (x : HoldV) (hi : i ≤ zs.length) : (insH zs i x).length = zs.length + 1 := by simp [insH]; omega
theorem holds_ins (zs : List HoldV) (i : Nat) (x : HoldV) : holds (insH zs i x) = holds (zs.take i) ++ ([.int .i64 x.f0, .int .i64 x.f1] ++ holds (zs.drop i)) := by
  unfold insH
  rw [holds_app]
  rfl
theorem hold_zero (w : World) : (zeroValue 88).run Tryz.prog w = .ok (.agg #[.int .i64 0, .int .i64 0]) w := by
  obtain ⟨i0, hi0, hinf⟩ := Option.map_eq_some_iff.1 hold_info
  simp only [Prod.mk.injEq] at hinf
  simp [zeroValue, typeInfo, hi0, hinf.1]
/-- without the element i -/
def delH (zs : List HoldV) (i : Nat) : List HoldV := zs.take i ++ zs.drop (i + 1)
def DelOut (w : World) (base : Nat) (A : Option Addr) (n c i : Nat) (zs : List HoldV) : Ending → World → Prop :=
  RVal fun u w' => u = .slice A (n - 1) c ∧ w'.ownsRow base 88 2 (.slice A (n - 1) c) (n - 1) (holds (delH zs i)) ∧ w.grownBy w' (Value.slice A n c).ownBlock
end Go.Proofs.YtbkfhcbecejomaaGreat
end
section
/- The library's Insert and Delete on lists of ints. -/
namespace Go.Proofs.YtbkfhcbecejomaaGreat
open Go Go.ChangeShapes Go.WideShapes Go.ChangeAt Go.RowKit
theorem int_size : (Tryz.prog.info? 3).map (·.size) = some 1 := by kernel_rfl
theorem ints_len1 (zs : List Int) : (ints zs).length = zs.length := ints_len zs
def InsOutI (w : World) (base : Nat) (v : Value) (zs : List Int) : Ending → World → Prop :=
  RVal fun u w' => w'.ownsRow base 3 1 u zs.length (ints zs) ∧ w.grownBy w' v.ownBlock ∧ (u.ownBlock = v.ownBlock ∨ ∃ g, u.ownBlock = some g ∧ w.heap.size ≤ g)
def insI (zs : List Int) (i : Nat) (x : Int) : List Int := zs.take i ++ (x :: zs.drop i)
theorem insI_len (zs : List Int) (i : Nat) (x : Int) (hi : i ≤ zs.length) : (insI zs i x).length = zs.length + 1 := by simp [insI]; omega
theorem ints_ins (zs : List Int) (i : Nat) (x : Int) : ints (insI zs i x) = ints (zs.take i) ++ ([.int .i64 x] ++ ints (zs.drop i)) := by
  unfold insI
  rw [ints_app]
  rfl
end Go.Proofs.YtbkfhcbecejomaaGreat
end
section
/- Papers copied: both programs give the same papers in new memory. -/
namespace Go.Proofs.YtbkfhcbecejomaaGreat
open Go Go.ChangeShapes Go.WideShapes Go.ChangeAt Go.RowKit
set_option linter.unusedVariables false
set_option linter.unusedSimpArgs false
/-- papers in memory of the call's own -/
def PapOut (w : World) (p : PapV) : Ending → World → Prop :=
  RVal fun u w' => ∃ HA hc LA lc, u = .agg #[.slice HA p.hs.length hc, .slice LA p.ls.length lc] ∧ w'.ownsRow w.heap.size 88 2 (.slice HA p.hs.length hc) p.hs.length (holds p.hs) ∧ w'.ownsRow w.heap.size 3 1 (.slice LA p.ls.length lc) p.ls.length (ints p.ls) ∧ Below w.heap.size w w'
theorem papOut_mk {w w' : World} {hs : List HoldV} {ls : List Int} {n m hc lc : Nat} {HA LA : Option Addr} (hn : hs.length = n) (hm : ls.length = m) (h1 : w'.ownsRow w.heap.size 88 2 (.slice HA n hc) n (holds hs)) (h2 : w'.ownsRow w.heap.size 3 1 (.slice LA m lc) m (ints ls)) (hb : Below w.heap.size w w') :
    PapOut w ⟨hs, ls⟩ (.returned (.agg #[.slice HA n hc, .slice LA m lc])) w' := by
  subst hn hm
  exact RVal.mk ⟨HA, hc, LA, lc, rfl, h1, h2, hb⟩
theorem keepP {w0 w W : World} {a : Nat} {u v : Value} (h0 : Below w0.heap.size w0 w) (hb : Below w.heap.size w W) (lx : a < w.heap.size) (x0 : w.cell? ⟨a, 0, none⟩ = some u) (x1 : w.cell? ⟨a, 1, none⟩ = some v) :
    Below w0.heap.size w0 W ∧ W.cell? ⟨a, 0, none⟩ = some u ∧ W.cell? ⟨a, 1, none⟩ = some v :=
  ⟨below_trans h0 hb, (hb.cell (p := ⟨a, 0, none⟩) lx).trans x0, (hb.cell (p := ⟨a, 1, none⟩) lx).trans x1⟩
theorem keepPs {w0 W : World} {a q : Nat} {ty : TypeId} {u v u1 u2 : Value} (hb : Below w0.heap.size w0 W) (hq : w0.heap.size ≤ q) (hP : Blk W a ty [u, v]) (hne : a ≠ q) :
    Below w0.heap.size w0 ((W.setCell ⟨q, 0, none⟩ u1).setCell ⟨q, 1, none⟩ u2) ∧ ((W.setCell ⟨q, 0, none⟩ u1).setCell ⟨q, 1, none⟩ u2).cell? ⟨a, 0, none⟩ = some u ∧ ((W.setCell ⟨q, 0, none⟩ u1).setCell ⟨q, 1, none⟩ u2).cell? ⟨a, 1, none⟩ = some v := by
  have h2 : Blk ((W.setCell ⟨q, 0, none⟩ u1).setCell ⟨q, 1, none⟩ u2) a ty [u, v] := (Below.heap_setCell _ ⟨q, 1, none⟩ _ a hne).trans ((Below.heap_setCell _ ⟨q, 0, none⟩ _ a hne).trans hP)
  exact ⟨(hb.setCell hq _).setCell hq _, h2.cellAt 0 (by simp), h2.cellAt 1 (by simp)⟩
theorem eqn_int (w : World) (a : Option Addr) (n c n' c' : Nat) : (binOp .eql 29 (.slice a n c) (.slice none n' c')).run Tryz.prog w = .ok (.bool a.isNone) w := Lib.run_eql_slice_nil w _ _ a n c n' c' Tryz.underlying29
theorem oeH {W : World} {g base : Nat} (h : Blk W g 88 []) (hb : base ≤ g) : W.ownsRow base 88 2 (.slice (some ⟨g, 0, none⟩) 0 0) 0 [] := own_of_blk (cs := []) h hb rfl (by decide)
theorem oeI {W : World} {g base : Nat} (h : Blk W g 3 []) (hb : base ≤ g) : W.ownsRow base 3 1 (.slice (some ⟨g, 0, none⟩) 0 0) 0 [] := own_of_blk (cs := []) h hb rfl (by decide)
/-- rows of two element types lie apart -/
theorem own_types {W : World} {b b' k k' n n' : Nat} {e e' : TypeId} {v v' : Value} {xs ys : List Value} (h : W.ownsRow b e k v n xs) (h' : W.ownsRow b' e' k' v' n' ys) (hne : e ≠ e') : ∀ g, v.ownBlock = some g → v'.ownBlock = some g → False := by
  intro g e1 e2
  rcases h.2 with ⟨rfl, _⟩ | ⟨g1, cap, cur, rfl, _, hg, _⟩
  · cases e1
  · rcases h'.2 with ⟨rfl, _⟩ | ⟨g2, cap2, cur2, rfl, _, hg2, _⟩
    · cases e2
    · obtain rfl : g1 = g := by simpa [Value.ownBlock] using e1
      obtain rfl : g2 = g1 := by simpa [Value.ownBlock] using e2
      rw [hg] at hg2
      injection hg2 with hg2
      injection hg2 with _ hg2
      exact hne hg2
set_option maxHeartbeats 2000000 in
theorem specClone (HA LA : Option Addr) (n c m lc : Nat) (hs : List HoldV) (ls : List Int) (w : World) (hn : hs.length = n) (hln : ls.length = m) (hr : RdV w HA (holds hs)) (hrl : RdV w LA (ints ls)) (hm : n ≤ 1048576) (hm2 : m ≤ 1048576) :
    Calls Tryz.prog 103 #[.agg #[.slice HA n c, .slice LA m lc]] w (PapOut w ⟨hs, ls⟩) := by
  have HN := Lib.hid hn
  have HLN := Lib.hid hln
  clear hn hln
  go_enter Tryz.func103, Tryz.ntmps103
  go_wp2_with fail
  have hP : Blk ((w.alloc (.cells #[.slice HA n c, .slice LA m lc] 32)).alloc (.cells #[.slice none 0 0, .slice none 0 0] 32)) w.heap.size 32 [.slice HA n c, .slice LA m lc] := (Blk.new _ _ _).alloc _
  have hQ : Blk ((w.alloc (.cells #[.slice HA n c, .slice LA m lc] 32)).alloc (.cells #[.slice none 0 0, .slice none 0 0] 32)) (w.heap.size + 1) 32 [.slice none 0 0, .slice none 0 0] := by simpa using Blk.new (w.alloc (.cells #[.slice HA n c, .slice LA m lc] 32)) 32 [.slice none 0 0, .slice none 0 0]
  have hB : Below w.heap.size w ((w.alloc (.cells #[.slice HA n c, .slice LA m lc] 32)).alloc (.cells #[.slice none 0 0, .slice none 0 0] 32)) := ((Below.refl _ _).alloc (Nat.le_refl _) _).alloc (by simp) _
  have hsz : w.heap.size + 2 ≤ ((w.alloc (.cells #[.slice HA n c, .slice LA m lc] 32)).alloc (.cells #[.slice none 0 0, .slice none 0 0] 32)).heap.size := by simp
  generalize (w.alloc (.cells #[.slice HA n c, .slice LA m lc] 32)).alloc (.cells #[.slice none 0 0, .slice none 0 0] 32) = w2 at *
  have c0 := hP.cellAt 0 (by simp)
  have c1 := hP.cellAt 1 (by simp)
  simp only [List.getElem_cons_zero, List.getElem_cons_succ] at c0 c1
  have HP := Lib.hid hP
  have HQ := Lib.hid hQ
  have HB := Lib.hid hB
  have lp := hP.lt
  have lq := hQ.lt
  have hr2 := hr.below hB
  have hrl2 := hrl.below hB
  clear hP hQ hB hr hrl
  have HML : Hid ((holds hs).length = n * 2) := Lib.hid (by rw [holds_len, HN.out])
  have HML2 : Hid ((ints ls).length = m * 1) := Lib.hid (by rw [ints_len, HLN.out, Nat.mul_one])
  have hone := Lib.hid (holds_cell hs)
  have hone2 := Lib.hid (ints_one ls)
  have oH_H : (w2.drew.alloc (.cells #[] 88)).ownsRow w2.heap.size 88 2 (.slice (some ⟨w2.heap.size, 0, none⟩) 0 0) 0 [] := oeH (Blk.new w2.drew _ []) (Nat.le_refl _)
  have oI_I : (w2.drew.alloc (.cells #[] 3)).ownsRow w2.heap.size 3 1 (.slice (some ⟨w2.heap.size, 0, none⟩) 0 0) 0 [] := oeI (Blk.new w2.drew _ []) (Nat.le_refl _)
  have oHI_H : ((w2.alloc (.cells #[] 88)).alloc (.cells #[] 3)).drew.ownsRow w2.heap.size 88 2 (.slice (some ⟨w2.heap.size, 0, none⟩) 0 0) 0 [] := oeH (Blk.drew ((Blk.new w2 _ []).alloc _)) (Nat.le_refl _)
  have oHI_I : ((w2.alloc (.cells #[] 88)).alloc (.cells #[] 3)).drew.ownsRow w2.heap.size 3 1 (.slice (some ⟨w2.heap.size + 1, 0, none⟩) 0 0) 0 [] := oeI (Blk.drew (by simpa using Blk.new (w2.alloc (.cells #[] 88)) 3 [])) (Nat.le_succ _)
  have oIH_I : ((w2.alloc (.cells #[] 3)).alloc (.cells #[] 88)).drew.ownsRow w2.heap.size 3 1 (.slice (some ⟨w2.heap.size, 0, none⟩) 0 0) 0 [] := oeI (Blk.drew ((Blk.new w2 _ []).alloc _)) (Nat.le_refl _)
  have oIH_H : ((w2.alloc (.cells #[] 3)).alloc (.cells #[] 88)).drew.ownsRow w2.heap.size 88 2 (.slice (some ⟨w2.heap.size + 1, 0, none⟩) 0 0) 0 [] := oeH (Blk.drew (by simpa using Blk.new (w2.alloc (.cells #[] 3)) 88 [])) (Nat.le_succ _)
  go_region_held3 (fun W => Below w.heap.size w W ∧ W.cell? ⟨w.heap.size, 0, none⟩ = some (.slice HA n c) ∧ W.cell? ⟨w.heap.size, 1, none⟩ = some (.slice LA m lc))
    (first
      | exact keepP HB.out (Below.refl _ _) lp c0 c1
      | exact keepP HB.out (by first | assumption | exact Below.drew ((Below.refl _ _).alloc (Nat.le_refl _) _) | exact Below.drew (((Below.refl _ _).alloc (Nat.le_refl _) _).alloc (by simp) _) | exact Below.alloc (by assumption) (Below.size (by assumption)) _) lp c0 c1
      | exact keepP HB.out (Below.drew (Below.refl _ _)) lp c0 c1
      | exact keepPs (below_trans HB.out (by assumption)) (Nat.le_succ _) (HP.out.later (by assumption)) (Nat.ne_of_lt (Nat.lt_succ_self _)))
    (first
      | (refine step_append_src rfl (.tmp 3) (.tmp 5) 30 rfl 88 _ _ _ Tryz.underlying30 hold_infoD w2.heap.size _ _ 0 [] rfl (by first | exact oH_H | exact oHI_H | exact oIH_H | exact oWH | exact oH') HA n c (holds hs) rfl HML.out (hr2.below (by first | assumption | exact Below.drew ((Below.refl _ _).alloc (Nat.le_refl _) _) | exact Below.drew (((Below.refl _ _).alloc (Nat.le_refl _) _).alloc (by simp) _) | exact Below.alloc (by assumption) (Below.size (by assumption)) _)) hone.out (by omega) (Below.size (by first | assumption | exact Below.drew ((Below.refl _ _).alloc (Nat.le_refl _) _) | exact Below.drew (((Below.refl _ _).alloc (Nat.le_refl _) _).alloc (by simp) _) | exact Below.alloc (by assumption) (Below.size (by assumption)) _)) ?_
         intro v1 wa oa ga ba
         obtain ⟨A1, c1', rfl, _, _⟩ := own_slice oa
         rw [Nat.zero_add, List.nil_append] at oa
         have ka : Below w2.heap.size w2 wa := below_append (by first | assumption | exact Below.drew ((Below.refl _ _).alloc (Nat.le_refl _) _) | exact Below.drew (((Below.refl _ _).alloc (Nat.le_refl _) _).alloc (by simp) _) | exact Below.alloc (by assumption) (Below.size (by assumption)) _) ga (by first | exact oH_H | exact oHI_H | exact oIH_H | exact oWH | exact oH') rfl
         try have oI' := own_only oHI_I ga (by simp [Value.ownBlock])
         try have oI' := own_only oIH_I ga (by simp [Value.ownBlock])
         have oWI : (wa.alloc (.cells #[] 3)).ownsRow w2.heap.size 3 1 (.slice (some ⟨wa.heap.size, 0, none⟩) 0 0) 0 [] := oeI (Blk.new wa _ []) (Below.size ka)
         have HA1 : Hid (∀ W', Below wa.heap.size wa W' → W'.ownsRow w2.heap.size 88 2 (.slice A1 n c1') n (holds hs)) := Lib.hid fun W' h => own_later oa h
         have la := (OwnI.of oa).lt
         have ea0 := ((HQ.out.later ka).cellAt 0 (by simp))
         have ea1 := ((HQ.out.later ka).cellAt 1 (by simp))
         simp only [List.getElem_cons_zero, List.getElem_cons_succ] at ea0 ea1
         have fa0 := (HQ.out.later ka).frozen 0
         have fa1 := (HQ.out.later ka).frozen 1
         skip)
      | (refine step_append_src rfl (.tmp 7) (.tmp 9) 29 rfl 3 _ _ _ Tryz.underlying29 int_infoY w2.heap.size _ _ 0 [] rfl (by first | exact oI_I | exact oHI_I | exact oIH_I | exact oWI | exact oI') LA m lc (ints ls) rfl HML2.out (hrl2.below (by first | assumption | exact Below.drew ((Below.refl _ _).alloc (Nat.le_refl _) _) | exact Below.drew (((Below.refl _ _).alloc (Nat.le_refl _) _).alloc (by simp) _) | exact Below.alloc (by assumption) (Below.size (by assumption)) _)) hone2.out (by omega) (Below.size (by first | assumption | exact Below.drew ((Below.refl _ _).alloc (Nat.le_refl _) _) | exact Below.drew (((Below.refl _ _).alloc (Nat.le_refl _) _).alloc (by simp) _) | exact Below.alloc (by assumption) (Below.size (by assumption)) _)) ?_
         intro v2 wb ob gb bb
         obtain ⟨A2, c2', rfl, _, _⟩ := own_slice ob
         rw [Nat.zero_add, List.nil_append] at ob
         have kb : Below w2.heap.size w2 wb := below_append (by first | assumption | exact Below.drew ((Below.refl _ _).alloc (Nat.le_refl _) _) | exact Below.drew (((Below.refl _ _).alloc (Nat.le_refl _) _).alloc (by simp) _) | exact Below.alloc (by assumption) (Below.size (by assumption)) _) gb (by first | exact oI_I | exact oHI_I | exact oIH_I | exact oWI | exact oI') rfl
         try have oH' := own_only oHI_H gb (by simp [Value.ownBlock])
         try have oH' := own_only oIH_H gb (by simp [Value.ownBlock])
         have oWH : (wb.alloc (.cells #[] 88)).ownsRow w2.heap.size 88 2 (.slice (some ⟨wb.heap.size, 0, none⟩) 0 0) 0 [] := oeH (Blk.new wb _ []) (Below.size kb)
         have HA2 : Hid (∀ W', Below wb.heap.size wb W' → W'.ownsRow w2.heap.size 3 1 (.slice A2 m c2') m (ints ls)) := Lib.hid fun W' h => own_later ob h
         have eb0 := ((HQ.out.later kb).cellAt 0 (by simp))
         have eb1 := ((HQ.out.later kb).cellAt 1 (by simp))
         simp only [List.getElem_cons_zero, List.getElem_cons_succ] at eb0 eb1
         have fb0 := (HQ.out.later kb).frozen 0
         have fb1 := (HQ.out.later kb).frozen 1
         skip))
  all_goals
    first
      | (have hA := own_only oa gb (fun e => own_types oa oI' (by decide) _ e rfl)
         clear ga gb ba bb la
         have OA := Lib.hid hA
         have OB := Lib.hid ob
         have KK := Lib.hid kb
         go_wp2_with fail
         refine bodyPost_ret (v := .agg #[.slice A1 n c1', .slice A2 m c2']) (by simp [results, Tryz.results103, go_sem, *]) rfl ?_
         have h6 : Out w.heap.size (w.heap.size + 2) wb ((wb.setCell ⟨w.heap.size + 1, 0, none⟩ (.slice A1 n c1')).setCell ⟨w.heap.size + 1, 1, none⟩ (.slice A2 m c2')) := out_set (out_set (Out.refl _ _ _) _ _ _ (by omega) (by omega)) _ _ _ (by omega) (by omega)
         refine papOut_mk HN.out HLN.out (own_out (own_base OA.out (by omega)) h6 ?_) (own_out (own_base OB.out (by omega)) h6 ?_) (below_out (below_trans HB.out KK.out) h6 (Nat.le_refl _))
         · intro g e
           have := (OA.out.lt g e).1
           omega
         · intro g e
           have := (OB.out.lt g e).1
           omega
         skip)
      | (have hA := own_only (own_later oa ((Below.refl _ _).alloc (Nat.le_refl _) _)) gb (fun e => Nat.lt_irrefl _ (oa.lt _ e).2)
         clear ga gb ba bb la
         have OA := Lib.hid hA
         have OB := Lib.hid ob
         have KK := Lib.hid kb
         go_wp2_with fail
         refine bodyPost_ret (v := .agg #[.slice A1 n c1', .slice A2 m c2']) (by simp [results, Tryz.results103, go_sem, *]) rfl ?_
         have h6 : Out w.heap.size (w.heap.size + 2) wb ((wb.setCell ⟨w.heap.size + 1, 0, none⟩ (.slice A1 n c1')).setCell ⟨w.heap.size + 1, 1, none⟩ (.slice A2 m c2')) := out_set (out_set (Out.refl _ _ _) _ _ _ (by omega) (by omega)) _ _ _ (by omega) (by omega)
         refine papOut_mk HN.out HLN.out (own_out (own_base OA.out (by omega)) h6 ?_) (own_out (own_base OB.out (by omega)) h6 ?_) (below_out (below_trans HB.out KK.out) h6 (Nat.le_refl _))
         · intro g e
           have := (OA.out.lt g e).1
           omega
         · intro g e
           have := (OB.out.lt g e).1
           omega
         skip)
      | (have hB := own_only ob ga (fun e => own_types ob oH' (by decide) _ e rfl)
         clear ga gb ba bb la
         have OA := Lib.hid oa
         have OB := Lib.hid hB
         have KK := Lib.hid ka
         go_wp2_with fail
         refine bodyPost_ret (v := .agg #[.slice A1 n c1', .slice A2 m c2']) (by simp [results, Tryz.results103, go_sem, *]) rfl ?_
         have h6 : Out w.heap.size (w.heap.size + 2) wa ((wa.setCell ⟨w.heap.size + 1, 0, none⟩ (.slice A1 n c1')).setCell ⟨w.heap.size + 1, 1, none⟩ (.slice A2 m c2')) := out_set (out_set (Out.refl _ _ _) _ _ _ (by omega) (by omega)) _ _ _ (by omega) (by omega)
         refine papOut_mk HN.out HLN.out (own_out (own_base OA.out (by omega)) h6 ?_) (own_out (own_base OB.out (by omega)) h6 ?_) (below_out (below_trans HB.out KK.out) h6 (Nat.le_refl _))
         · intro g e
           have := (OA.out.lt g e).1
           omega
         · intro g e
           have := (OB.out.lt g e).1
           omega
         skip)
      | (have hB := own_only (own_later ob ((Below.refl _ _).alloc (Nat.le_refl _) _)) ga (fun e => Nat.lt_irrefl _ (ob.lt _ e).2)
         clear ga gb ba bb la
         have OA := Lib.hid oa
         have OB := Lib.hid hB
         have KK := Lib.hid ka
         go_wp2_with fail
         refine bodyPost_ret (v := .agg #[.slice A1 n c1', .slice A2 m c2']) (by simp [results, Tryz.results103, go_sem, *]) rfl ?_
         have h6 : Out w.heap.size (w.heap.size + 2) wa ((wa.setCell ⟨w.heap.size + 1, 0, none⟩ (.slice A1 n c1')).setCell ⟨w.heap.size + 1, 1, none⟩ (.slice A2 m c2')) := out_set (out_set (Out.refl _ _ _) _ _ _ (by omega) (by omega)) _ _ _ (by omega) (by omega)
         refine papOut_mk HN.out HLN.out (own_out (own_base OA.out (by omega)) h6 ?_) (own_out (own_base OB.out (by omega)) h6 ?_) (below_out (below_trans HB.out KK.out) h6 (Nat.le_refl _))
         · intro g e
           have := (OA.out.lt g e).1
           omega
         · intro g e
           have := (OB.out.lt g e).1
           omega
         skip)
end Go.Proofs.YtbkfhcbecejomaaGreat
end
