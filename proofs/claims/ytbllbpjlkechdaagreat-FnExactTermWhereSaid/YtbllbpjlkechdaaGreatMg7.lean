/- Several texts of the proof in one; each says at its head what it proves; no condition. -/
import Derived.Test.YtbllbpjlkechdaaGreatMg6
import Derived.Test.YtbllbpjlkechdaaGreatMg2
import Derived.Test.YtbllbpjlkechdaaGreatMg3
import Derived.Laws.IdiomCopy
import Derived.Deep.AppendSrc
import Derived.Lib.AppendZerosOnto
import Derived.Lib.Overlaps
import Derived.Lib.SliceRun
import Derived.Deep.RegionLaw
import Derived.Deep.RegionHeld3
import Derived.Deep.CutRange
import Derived.Test.YtbllbpjlkechdaaGreatProg
import Derived.Deep.QuietTactic
import Derived.BigQuiet
import Derived.Test.YtbllbpjlkechdaaGreatMg1
import Derived.Deep.Slices
import Derived.ChangeSame
section
/- PapersValid of the reference: the plain word. -/
namespace Go.Proofs.YtbllbpjlkechdaaGreat
open Go Go.ChangeShapes Go.WideShapes Go.ChangeAt Go.RowKit
set_option linter.unusedVariables false
set_option maxHeartbeats 4000000 in
theorem specPapersValid (HA LA : Option Addr) (n c m lc : Nat) (hs : List HoldV) (ls : List Int) (w : World) (hn : hs.length = n) (hln : ls.length = m) (hr : RdV w HA (holds hs)) (hrl : RdV w LA (ints ls)) (hm : n ≤ 1048576) (hm2 : m ≤ 1048576) :
    Calls Tryz.prog 33 #[.agg #[.slice HA n c, .slice LA m lc]] w fun e w' => e = .returned (.bool (papOk hs ls)) ∧ Below w.heap.size w w' := by
  have HN := Lib.hid hn
  have HLN := Lib.hid hln
  clear hn hln
  have hbl : Below w.heap.size w (w.alloc (.cells #[.slice HA n c, .slice LA m lc] 41)) := (Below.refl _ _).alloc (Nat.le_refl _) _
  have hP : Blk (w.alloc (.cells #[.slice HA n c, .slice LA m lc] 41)) w.heap.size 41 [.slice HA n c, .slice LA m lc] := Blk.new _ _ _
  go_enter Tryz.func33, Tryz.ntmps33
  go_wp2_with fail
  go_loopw [3, 4] (fun i _ wr => ∃ k : Nat, k ≤ n ∧ i = .int .i64 k ∧ Hid (holdGo ls 0 hs = holdGo ls (lastH hs k) (hs.drop k)) ∧ Blk wr w.heap.size 41 [.slice HA n c, .slice LA m lc] ∧ Below w.heap.size w wr) (fun i _ _ => n - (intOf i).toNat)
  case atStart => exact ⟨0, Nat.zero_le _, rfl, Lib.hid rfl, hP, hbl⟩
  case round =>
    obtain ⟨k, hk, rfl, HJ, P1, hb⟩ := hrel
    have c0 := P1.cellAt 0 (by simp)
    have c1 := P1.cellAt 1 (by simp)
    simp only [List.getElem_cons_zero, List.getElem_cons_succ] at c0 c1
    have hPlt := P1.lt
    by_cases hlt : k < n
    · have hke : k < hs.length := by rw [HN.out]; exact hlt
      obtain ⟨b, o, rfl, hl, hc0, hc1⟩ := hr.holdAt hke
      have h0 : wr.cell? ⟨b, o + k * 2, none⟩ = some (.int .i64 (hs[k]).f0) := (hb.cell (p := ⟨b, o + k * 2, none⟩) hl).trans hc0
      have h1 : wr.cell? ⟨b, o + k * 2 + 1, none⟩ = some (.int .i64 (hs[k]).f1) := (hb.cell (p := ⟨b, o + k * 2 + 1, none⟩) hl).trans hc1
      have HST := Lib.hid (holdGo_step hke HJ.out)
      have HPV : Hid (∀ (hk0 : 0 < k), w.cell? ⟨b, o + (k - 1) * 2, none⟩ = some (.int .i64 (lastH hs k))) := Lib.hid (fun hk0 => by
        obtain ⟨b', o', e', _, hp0, _⟩ := hr.holdAt (show k - 1 < hs.length by omega)
        injection e' with e'
        injection e' with e1 e2
        subst e1 e2
        rw [hp0, ← lastH_succ (show k - 1 < hs.length by omega), show k - 1 + 1 = k from by omega])
      have HL0 : Hid (k = 0 → lastH hs k = 0) := Lib.hid (fun e => by rw [e]; rfl)
      generalize lastH hs k = lv at *
      have HSU := Lib.hid (lastH_succ hke)
      generalize hs[k] = y at *
      obtain ⟨y0, y1⟩ := y
      dsimp only at h0 h1 HST HSU
      have HGO : Hid (idI y0 = true ∧ inI y1 1 7 = true ∧ lv < y0 ∧ hasI ls y0 = false → holdGo ls 0 hs = holdGo ls (lastH hs (k + 1)) (hs.drop (k + 1))) := Lib.hid (fun h => by
        obtain ⟨q1, q2, q3, q4⟩ := h
        have q2' : (decide (1 ≤ y1) && decide (y1 ≤ 7)) = true := q2
        rw [HST.out, q1, q2', decide_eq_true q3, q4, HSU.out]; rfl)
      have HNO : Hid (¬ (idI y0 = true ∧ inI y1 1 7 = true ∧ lv < y0 ∧ hasI ls y0 = false) → papOk hs ls = false) := Lib.hid (fun h => by
        have : holdGo ls 0 hs = false := by
          rw [HST.out]
          exact gate_no (b := inI y1 1 7) h
        simp [papOk, this])
      have hal : Below wr.heap.size wr (wr.alloc (.cells #[.int .i64 y0, .int .i64 y1] 94)) := (Below.refl _ _).alloc (Nat.le_refl _) _
      have P2 := P1.later hal
      have H2 : Blk (wr.alloc (.cells #[.int .i64 y0, .int .i64 y1] 94)) wr.heap.size 94 [.int .i64 y0, .int .i64 y1] := Blk.new _ _ _
      have HB2 := Lib.hid (below_trans hb hal)
      have hki : (k : Int) < (n : Int) := by omega
      clear hc0 hc1 hal P1 hb hbl hP
      go_wp2_with fail
      generalize wr.alloc (.cells #[.int .i64 y0, .int .i64 y1] 94) = w4 at *
      have x0 : ∀ p : BelW w4, p.W.cell? ⟨w.heap.size, 0, none⟩ = some (.slice (some ⟨b, o, none⟩) n c) := fun p => (P2.belw p).cellAt 0 (by simp)
      have x1 : ∀ p : BelW w4, p.W.cell? ⟨w.heap.size, 1, none⟩ = some (.slice LA m lc) := fun p => (P2.belw p).cellAt 1 (by simp)
      have d0 : ∀ p : BelW w4, p.W.cell? ⟨wr.heap.size, 0, none⟩ = some (.int .i64 y0) := fun p => (H2.belw p).cellAt 0 (by simp)
      have d1 : ∀ p : BelW w4, p.W.cell? ⟨wr.heap.size, 1, none⟩ = some (.int .i64 y1) := fun p => (H2.belw p).cellAt 1 (by simp)
      have HP2 := Lib.hid P2
      have hI := fun W => l1In_any y0 1 999 W
      have hV := fun W => l1In_any y1 1 7 W
      have hC := fun W (hW : Below w4.heap.size w4 W) => l1Has_any LA m lc ls y0 W HLN.out (hrl.below (below_trans HB2.out hW)) (by omega)
      clear c0 c1 P2 H2 h0 h1
      have hId : idI y0 = inI y0 1 999 := rfl
      cases hid : idI y0 with
      | false =>
        have HF := Lib.hid (HNO.out (by simp [hid]))
        rw [← hId, hid] at hI
        clear hid hId
        refine wp_region_below (by kernel_rfl) (by kernel_rfl) ?_
        repeat (go_big_quiet_step ((first | (go_at_call 56; first | (with_reducible exact calls_same (hI _)) | (with_reducible exact calls_same (hV _))) | (go_at_call 18; exact calls_same (hC _ (BelW.ok _))))))
        refine wpQuiet_nil ?_
        intro _ hw'
        obtain ⟨⟨wq, hbq⟩, hw''⟩ := hw'
        subst hw''
        have HBQ := Lib.hid (below_trans HB2.out hbq)
        clear hbq hI hV hC
        go_wp2_with fail
        go_ret
        exact ⟨by rw [HF.out]; rfl, HBQ.out⟩
      | true =>
        have HID := Lib.hid hid
        have hid1 : 1 ≤ y0 := (idI_iff2.1 hid).1
        rw [← hId, hid] at hI
        clear hid hId
        cases hin : inI y1 1 7 with
        | false =>
          have HF := Lib.hid (HNO.out (by simp [hin]))
          rw [hin] at hV
          clear hin
          refine wp_region_below (by kernel_rfl) (by kernel_rfl) ?_
          repeat (go_big_quiet_step ((first | (go_at_call 56; first | (with_reducible exact calls_same (hI _)) | (with_reducible exact calls_same (hV _))) | (go_at_call 18; exact calls_same (hC _ (BelW.ok _))))))
          refine wpQuiet_nil ?_
          intro _ hw'
          obtain ⟨⟨wq, hbq⟩, hw''⟩ := hw'
          subst hw''
          have HBQ := Lib.hid (below_trans HB2.out hbq)
          clear hbq hI hV hC
          go_wp2_with fail
          go_ret
          exact ⟨by rw [HF.out]; rfl, HBQ.out⟩
        | true =>
          have HIN := Lib.hid hin
          rw [hin] at hV
          clear hin
          by_cases hk0 : 0 < k
          · have hd0 : decide ((0 : Int) < (k : Int)) = true := decide_eq_true (by omega)
            have hpv := HPV.out hk0
            have hp : ∀ p : BelW w4, p.W.cell? ⟨b, o + (k - 1) * 2, none⟩ = some (.int .i64 lv) := fun p => (below_trans HB2.out p.ok).cell (p := ⟨b, o + (k - 1) * 2, none⟩) hl |>.trans hpv
            have ek : IntKind.i64.wrap ((k : Int) - 1) = ((k - 1 : Nat) : Int) := by rw [IntWalk.i64_in _ (by omega)]; omega
            have ek1 : (0 : Int) ≤ ((k - 1 : Nat) : Int) := by omega
            have ek2 : ((k - 1 : Nat) : Int) < (n : Int) := by omega
            clear hpv
            by_cases hle : y0 ≤ lv
            · have hd1 : decide (y0 ≤ lv) = true := decide_eq_true hle
              have HF := Lib.hid (HNO.out (by omega))
              refine wp_region_below (by kernel_rfl) (by kernel_rfl) ?_
              repeat (go_big_quiet_step ((first | (go_at_call 56; first | (with_reducible exact calls_same (hI _)) | (with_reducible exact calls_same (hV _))) | (go_at_call 18; exact calls_same (hC _ (BelW.ok _))))))
              refine wpQuiet_nil ?_
              intro _ hw'
              obtain ⟨⟨wq, hbq⟩, hw''⟩ := hw'
              subst hw''
              have HBQ := Lib.hid (below_trans HB2.out hbq)
              clear hbq hI hV hC
              go_wp2_with fail
              go_ret
              exact ⟨by rw [HF.out]; rfl, HBQ.out⟩
            · have hd1 : decide (y0 ≤ lv) = false := decide_eq_false hle
              cases hh : hasI ls y0 with
              | true =>
                have HF := Lib.hid (HNO.out (by simp [hh]))
                rw [hh] at hC
                clear hh
                refine wp_region_below (by kernel_rfl) (by kernel_rfl) ?_
                repeat (go_big_quiet_step ((first | (go_at_call 56; first | (with_reducible exact calls_same (hI _)) | (with_reducible exact calls_same (hV _))) | (go_at_call 18; exact calls_same (hC _ (BelW.ok _))))))
                refine wpQuiet_nil ?_
                intro _ hw'
                obtain ⟨⟨wq, hbq⟩, hw''⟩ := hw'
                subst hw''
                have HBQ := Lib.hid (below_trans HB2.out hbq)
                clear hbq hI hV hC
                go_wp2_with fail
                go_ret
                exact ⟨by rw [HF.out]; rfl, HBQ.out⟩
              | false =>
                have HG := Lib.hid (HGO.out ⟨HID.out, HIN.out, by omega, hh⟩)
                rw [hh] at hC
                clear hh
                refine wp_region_below (by kernel_rfl) (by kernel_rfl) ?_
                repeat (go_big_quiet_step ((first | (go_at_call 56; first | (with_reducible exact calls_same (hI _)) | (with_reducible exact calls_same (hV _))) | (go_at_call 18; exact calls_same (hC _ (BelW.ok _))))))
                refine wpQuiet_nil ?_
                intro _ hw'
                obtain ⟨⟨wq, hbq⟩, hw''⟩ := hw'
                subst hw''
                have HBQ := Lib.hid (below_trans HB2.out hbq)
                have HPQ := Lib.hid (HP2.out.later hbq)
                clear hbq hI hV hC
                go_wp2_with fail
                go_roundw
                case rel => exact ⟨k + 1, by omega, by go_num, HG, HPQ.out, HBQ.out⟩
                case measure => simp [intOf]; omega
          · have hd0 : decide ((0 : Int) < (k : Int)) = false := decide_eq_false (by omega)
            have hlv : lv = 0 := HL0.out (by omega)
            have HLV := Lib.hid hlv
            have hll : lv < y0 := by omega
            clear hlv
            cases hh : hasI ls y0 with
            | true =>
              have HF := Lib.hid (HNO.out (by simp [hh]))
              rw [hh] at hC
              clear hh
              refine wp_region_below (by kernel_rfl) (by kernel_rfl) ?_
              repeat (go_big_quiet_step ((first | (go_at_call 56; first | (with_reducible exact calls_same (hI _)) | (with_reducible exact calls_same (hV _))) | (go_at_call 18; exact calls_same (hC _ (BelW.ok _))))))
              refine wpQuiet_nil ?_
              intro _ hw'
              obtain ⟨⟨wq, hbq⟩, hw''⟩ := hw'
              subst hw''
              have HBQ := Lib.hid (below_trans HB2.out hbq)
              clear hbq hI hV hC
              go_wp2_with fail
              go_ret
              exact ⟨by rw [HF.out]; rfl, HBQ.out⟩
            | false =>
              have HG := Lib.hid (HGO.out ⟨HID.out, HIN.out, by omega, hh⟩)
              rw [hh] at hC
              clear hh
              refine wp_region_below (by kernel_rfl) (by kernel_rfl) ?_
              repeat (go_big_quiet_step ((first | (go_at_call 56; first | (with_reducible exact calls_same (hI _)) | (with_reducible exact calls_same (hV _))) | (go_at_call 18; exact calls_same (hC _ (BelW.ok _))))))
              refine wpQuiet_nil ?_
              intro _ hw'
              obtain ⟨⟨wq, hbq⟩, hw''⟩ := hw'
              subst hw''
              have HBQ := Lib.hid (below_trans HB2.out hbq)
              have HPQ := Lib.hid (HP2.out.later hbq)
              clear hbq hI hV hC
              go_wp2_with fail
              go_roundw
              case rel => exact ⟨k + 1, by omega, by go_num, HG, HPQ.out, HBQ.out⟩
              case measure => simp [intOf]; omega
    · obtain rfl : n = k := by omega
      have HE : Hid (holdGo ls 0 hs = true) := Lib.hid (by rw [HJ.out, List.drop_of_length_le (by rw [HN.out]; exact Nat.le_refl _)]; rfl)
      have P1 := P1
      have hb := hb
      go_wp2_with fail
      go_loopw [5] (fun i wr => ∃ k : Nat, k ≤ m ∧ i = .int .i64 k ∧ Hid (leftGo 0 ls = leftGo (lastL ls k) (ls.drop k)) ∧ Blk wr w.heap.size 41 [.slice HA n c, .slice LA m lc] ∧ Below w.heap.size w wr) (fun i _ => m - (intOf i).toNat)
      case atStart => exact ⟨0, Nat.zero_le _, rfl, Lib.hid rfl, P1, hb⟩
      case round =>
        clear P1 hb c0 c1 hPlt HJ
        obtain ⟨k, hk, rfl, HJ, P1, hb⟩ := hrel
        have c0 := P1.cellAt 0 (by simp)
        have c1 := P1.cellAt 1 (by simp)
        simp only [List.getElem_cons_zero, List.getElem_cons_succ] at c0 c1
        have hPlt := P1.lt
        by_cases hlt : k < m
        · have hke : k < ls.length := by rw [HLN.out]; exact hlt
          have hkl : k < (ints ls).length := by rw [ints_len]; exact hke
          obtain ⟨b, o, rfl, hl, hcc⟩ := hrl.pos hkl
          have hc0 := hcc k hkl
          rw [ints_at] at hc0
          have HST := Lib.hid (leftGo_step hke HJ.out)
          have HPV : Hid (∀ (hk0 : 0 < k), w.cell? ⟨b, o + (k - 1), none⟩ = some (.int .i64 (lastL ls k))) := Lib.hid (fun hk0 => by
            have hk1 : k - 1 < (ints ls).length := by rw [ints_len]; omega
            have := hcc (k - 1) hk1
            rw [ints_at] at this
            rw [this, ← lastL_succ (show k - 1 < ls.length by omega), show k - 1 + 1 = k from by omega])
          have HL0 : Hid (k = 0 → lastL ls k = 0) := Lib.hid (fun e => by rw [e]; rfl)
          generalize lastL ls k = lv at *
          have HSU := Lib.hid (lastL_succ hke)
          generalize ls[k] = y0 at *
          have HGO : Hid (idI y0 = true ∧ lv < y0 → leftGo 0 ls = leftGo (lastL ls (k + 1)) (ls.drop (k + 1))) := Lib.hid (fun h => by
            obtain ⟨q1, q3⟩ := h
            rw [HST.out, q1, decide_eq_true q3, HSU.out]; rfl)
          have HNO : Hid (¬ (idI y0 = true ∧ lv < y0) → papOk hs ls = false) := Lib.hid (fun h => by
            have : leftGo 0 ls = false := by
              rw [HST.out]
              exact gate_no2 h
            simp [papOk, this])
          have hki : (k : Int) < (m : Int) := by omega
          have HB := Lib.hid hb
          have HP := Lib.hid P1
          have h0 : wr.cell? ⟨b, o + k, none⟩ = some (.int .i64 y0) := (hb.cell (p := ⟨b, o + k, none⟩) hl).trans hc0
          have x1 : ∀ p : BelW wr, p.W.cell? ⟨w.heap.size, 1, none⟩ = some (.slice (some ⟨b, o, none⟩) m lc) := fun p => (P1.belw p).cellAt 1 (by simp)
          have d0 : ∀ p : BelW wr, p.W.cell? ⟨b, o + k, none⟩ = some (.int .i64 y0) := fun p => p.cell (a := ⟨b, o + k, none⟩) (Nat.lt_of_lt_of_le hl hb.size) h0
          have hI := fun W => l1In_any y0 1 999 W
          have hId : idI y0 = inI y0 1 999 := rfl
          clear hcc hc0
          cases hid : idI y0 with
          | false =>
            have HF := Lib.hid (HNO.out (by simp [hid]))
            rw [← hId, hid] at hI
            clear hid hId
            go_wp2_with fail
            refine wp_region_below (by kernel_rfl) (by kernel_rfl) ?_
            repeat (go_big_quiet_step ((go_at_call 56; exact calls_same (hI _))))
            refine wpQuiet_nil ?_
            intro _ hw'
            obtain ⟨⟨wq, hbq⟩, hw''⟩ := hw'
            subst hw''
            go_wp2_with fail



            go_ret
            exact ⟨by rw [HF.out]; rfl, below_trans HB.out hbq⟩
          | true =>
            have HID := Lib.hid hid
            have hid1 : 1 ≤ y0 := (idI_iff2.1 hid).1
            rw [← hId, hid] at hI
            clear hid hId
            by_cases hk0 : 0 < k
            · have hd0 : decide ((0 : Int) < (k : Int)) = true := decide_eq_true (by omega)
              have hpv := (hb.cell (p := ⟨b, o + (k - 1), none⟩) hl).trans (HPV.out hk0)
              have hp : ∀ p : BelW wr, p.W.cell? ⟨b, o + (k - 1), none⟩ = some (.int .i64 lv) := fun p => p.cell (a := ⟨b, o + (k - 1), none⟩) (Nat.lt_of_lt_of_le hl hb.size) hpv
              have ek : IntKind.i64.wrap ((k : Int) - 1) = ((k - 1 : Nat) : Int) := by rw [IntWalk.i64_in _ (by omega)]; omega
              have ek1 : (0 : Int) ≤ ((k - 1 : Nat) : Int) := by omega
              have ek2 : ((k - 1 : Nat) : Int) < (m : Int) := by omega
              by_cases hle : y0 ≤ lv
              · have hd1 : decide (y0 ≤ lv) = true := decide_eq_true hle
                have HF := Lib.hid (HNO.out (by omega))
                go_wp2_with fail
                refine wp_region_below (by kernel_rfl) (by kernel_rfl) ?_
                repeat (go_big_quiet_step ((go_at_call 56; exact calls_same (hI _))))
                refine wpQuiet_nil ?_
                intro _ hw'
                obtain ⟨⟨wq, hbq⟩, hw''⟩ := hw'
                subst hw''
                go_wp2_with fail



                go_ret
                exact ⟨by rw [HF.out]; rfl, below_trans HB.out hbq⟩
              · have hd1 : decide (y0 ≤ lv) = false := decide_eq_false hle
                have HG := Lib.hid (HGO.out ⟨HID.out, by omega⟩)
                go_wp2_with fail
                refine wp_region_below (by kernel_rfl) (by kernel_rfl) ?_
                repeat (go_big_quiet_step ((go_at_call 56; exact calls_same (hI _))))
                refine wpQuiet_nil ?_
                intro _ hw'
                obtain ⟨⟨wq, hbq⟩, hw''⟩ := hw'
                subst hw''
                go_wp2_with fail



                go_roundw
                case rel => exact ⟨k + 1, by omega, by go_num, HG, HP.out.later hbq, below_trans HB.out hbq⟩
                case measure => simp [intOf]; omega
            · have hd0 : decide ((0 : Int) < (k : Int)) = false := decide_eq_false (by omega)
              have hlv : lv = 0 := HL0.out (by omega)
              have HG := Lib.hid (HGO.out ⟨HID.out, by omega⟩)
              clear hlv
              go_wp2_with fail
              refine wp_region_below (by kernel_rfl) (by kernel_rfl) ?_
              repeat (go_big_quiet_step ((go_at_call 56; exact calls_same (hI _))))
              refine wpQuiet_nil ?_
              intro _ hw'
              obtain ⟨⟨wq, hbq⟩, hw''⟩ := hw'
              subst hw''
              go_wp2_with fail



              go_roundw
              case rel => exact ⟨k + 1, by omega, by go_num, HG, HP.out.later hbq, below_trans HB.out hbq⟩
              case measure => simp [intOf]; omega
        · obtain rfl : m = k := by omega
          have HE2 : Hid (papOk hs ls = (decide ((n : Int) ≤ 12) && decide ((m : Int) ≤ 12))) := Lib.hid (by
            have : leftGo 0 ls = true := by rw [HJ.out, List.drop_of_length_le (by rw [HLN.out]; exact Nat.le_refl _)]; rfl
            simp only [papOk, HE.out, this, HN.out, HLN.out]; simp)
          have HB := Lib.hid hb
          cases h1 : decide ((n : Int) ≤ 12) with
          | false =>
            have HF : Hid (papOk hs ls = false) := Lib.hid (by rw [HE2.out, h1]; rfl)
            go_wp2_with fail
            go_ret
            exact ⟨by rw [HF.out]; rfl, HB.out⟩
          | true =>
            have HF : Hid (papOk hs ls = decide ((m : Int) ≤ 12)) := Lib.hid (by rw [HE2.out, h1]; rfl)
            go_wp2_with fail
            go_ret
            exact ⟨by rw [HF.out]; rfl, HB.out⟩
end Go.Proofs.YtbllbpjlkechdaaGreat
end
section
/- Runs of cells stored into a block that is known whole; copy, clear, append in place, where an element has k cells. -/
namespace Go.Proofs.YtbllbpjlkechdaaGreat
open Go Go.ChangeShapes Go.WideShapes Go.ChangeAt Go.RowKit
theorem set_mid (a b : List Value) (x v : Value) (o : Nat) (ho : a.length = o) : (a ++ (x :: b)).set o v = (a ++ [v]) ++ b := by
  rw [List.set_append_right _ _ (by omega), ho, Nat.sub_self, List.set_cons_zero, List.append_assoc]
  rfl
theorem Blk.setCells_ {g : Nat} {t : TypeId} {b : List Value} (vs : List Value) : ∀ {w : World} {a m : List Value} {o : Nat}, Blk w g t (a ++ (m ++ b)) → a.length = o → m.length = vs.length → Blk (w.setCells g o vs) g t (a ++ (vs ++ b)) := by
  induction vs with
  | nil =>
    intro w a m o h _ hm
    obtain rfl : m = [] := List.eq_nil_of_length_eq_zero hm
    exact h
  | cons v r ih =>
    intro w a m o h ho hm
    cases m with
    | nil => simp at hm
    | cons x m =>
      have h1 := h.set_ o v
      rw [show a ++ (x :: m ++ b) = a ++ (x :: (m ++ b)) from rfl, set_mid _ _ _ _ _ ho] at h1
      have := ih (o := o + 1) h1 (by simp; omega) (by simpa using hm)
      rw [List.append_assoc] at this
      exact this
theorem grown_setCells (g : Nat) (vs : List Value) : ∀ (o : Nat) (w : World), w.grownBy (w.setCells g o vs) (some g) := by
  induction vs with
  | nil => intro o w; exact World.grownBy.refl _ _
  | cons v r ih =>
    intro o w
    refine World.grownBy.trans (b := w.setCell ⟨g, o, none⟩ v) ?_ (ih (o + 1) _)
    exact ⟨rfl, rfl, rfl, by simp [World.setCell], fun k _ hne => Below.heap_setCell w ⟨g, o, none⟩ v k (fun e => hne (by rw [e]))⟩
theorem blk_shape {w : World} {g : Nat} {t : TypeId} {cs : List Value} (h : Blk w g t cs) : w.shape? g = some (t, cs.length) := by
  unfold Blk at h
  simp [World.shape?, h]
theorem drew_setCells' (b : Nat) : ∀ (vs : List Value) (o : Nat) (w : World), (w.setCells b o vs).drew = w.drew.setCells b o vs
  | [], _, _ => rfl
  | v :: r, o, w => by rw [World.setCells, World.setCells, drew_setCells' b r]; rfl
theorem blk_some {w : World} {g : Nat} {t : TypeId} {cs : List Value} (h : Blk w g t cs) (j : Nat) (hj : j < cs.length) : (w.cell? ⟨g, j, none⟩).isSome = true := by
  rw [h.cellAt j hj]
  rfl
section
variable {P : Program}
theorem run_copy_k (w : World) (dT sT ty elem : TypeId) (k b o dLen dCap : Nat) (a : Addr) (sLen sCap : Nat) (cs : List Value)
    (hu : P.underlying dT = some (.slice elem)) (hs : (P.info? elem).map (·.size) = some k) (hn : cs.length = Nat.min sLen dLen * k)
    (hsrc : ∀ j v, cs[j]? = some v → w.cell? (a.add j) = some v) (hc : ∀ j, j < cs.length → (w.cell? ⟨b, o + j, none⟩).isSome = true) (hf : ∀ j, j < cs.length → w.frozen? ⟨b, o + j, none⟩ = false) (h1 : ∀ v ∈ cs, v.oneCell' = true) :
    (Builtin.copy_ #[dT, sT] ty #[.slice (some ⟨b, o, none⟩) dLen dCap, .slice (some a) sLen sCap]).run P w = .ok (goInt (Nat.min sLen dLen)) (w.setCells b o cs) := by
  have hl := run_loadCells_list (P := P) w a cs hsrc
  have hst := run_storeCells_cells (P := P) b o cs 0 w (by simpa using hc) (by simpa using hf) h1
  cases hq : P.info? elem with
  | none => simp [hq] at hs
  | some i =>
    have hi : i.size = k := by simpa [hq] using hs
    rw [hn] at hl
    simp [Builtin.copy_, run_underlying hu, Builtin.lenOf, Builtin.firstCells, sizeOf, typeInfo, hq, hi, hl, hst]
/-- copy into a block that is known whole -/
theorem run_copy_blk (w : World) (dT sT ty elem : TypeId) (k g o dLen dCap : Nat) (ad : Addr) (sLen sCap : Nat) (t : TypeId) (a m b cs : List Value)
    (hu : P.underlying dT = some (.slice elem)) (hs : (P.info? elem).map (·.size) = some k) (hn : cs.length = Nat.min sLen dLen * k)
    (hsrc : ∀ j v, cs[j]? = some v → w.cell? (ad.add j) = some v) (hb : Blk w g t (a ++ (m ++ b))) (ho : a.length = o) (hm : m.length = cs.length) (h1 : ∀ v ∈ cs, v.oneCell' = true) :
    (Builtin.copy_ #[dT, sT] ty #[.slice (some ⟨g, o, none⟩) dLen dCap, .slice (some ad) sLen sCap]).run P w = .ok (goInt (Nat.min sLen dLen)) (w.setCells g o cs) :=
  run_copy_k w dT sT ty elem k g o dLen dCap ad sLen sCap cs hu hs hn hsrc (fun j hj => blk_some hb _ (by simp; omega)) (fun j _ => hb.frozen _) h1
theorem wpList_copy_runE (w : World) {ops : Array Oper} {rest : List Oper} {o : Oper} {a : Act} {Q : Exit → Act → World → Prop} (hgd : o.guard = none) (d s : Operand) (t t' : TypeId)
    (ho : o.op = .call { callee := .builtin .copy, args := #[d, s], argTypes := #[t, t'] }) (v u : Value) (hd : a.eval d = v) (hs : a.eval s = u) {v' : Value} {w' : World}
    (hr : (Builtin.copy_ #[t, t'] o.type #[v, u]).run P w = .ok v' w') (h : wpList P ops Q rest (a.put o.dst v') w') : wpList P ops Q (o :: rest) a w := by
  refine wpList_plain hgd fun K hK => ?_
  unfold Oper.wp execOp
  simp only [ho, resolve, invoke, builtin, Sem.run_bind, Sem.run_pure, Result.andThen_ok, List.map_toArray, List.map_cons, List.map_nil, hd, hs, hr]
  exact hK _ _ h
theorem step_copy_runE {ops : Array Oper} {o : Oper} {a : Act} {w : World} {K : Act → World → Prop} {Q : Exit → Act → World → Prop} {E : Prop}
    (hg : o.guard = none) (d x : Operand) (dT sT : TypeId) (hop : o.op = Op.call { callee := Callee.builtin Builtin.copy, args := #[d, x], argTypes := #[dT, sT] })
    (v u : Value) (hd : a.eval d = v) (hx : a.eval x = u) {v' : Value} {w' : World} (hr : (Builtin.copy_ #[dT, sT] o.type #[v, u]).run P w = .ok v' w') (hK : K (a.put o.dst v') w') :
    if Region.wanted o (yielded ops a.tmps) = true then Oper.wp P o a w K Q else E := by
  have hw : Region.wanted o (yielded ops a.tmps) = true := by simp [Region.wanted, hg]
  rw [if_pos hw]
  unfold Oper.wp
  simp [execOp, hop, resolve, invoke, builtin, hd, hx, hr, Result.andThen]
  exact hK
theorem wpList_append_runE (w : World) {ops : Array Oper} {rest : List Oper} {o : Oper} {a : Act} {Q : Exit → Act → World → Prop} (hgd : o.guard = none) (d s : Operand) (t t' : TypeId)
    (ho : o.op = .call { callee := .builtin .append, args := #[d, s], argTypes := #[t, t'] }) (v u : Value) (hd : a.eval d = v) (hs : a.eval s = u) {v' : Value} {w' : World}
    (hr : (Builtin.append_ #[t, t'] o.type #[v, u]).run P w = .ok v' w') (h : wpList P ops Q rest (a.put o.dst v') w') : wpList P ops Q (o :: rest) a w := by
  refine wpList_plain hgd fun K hK => ?_
  unfold Oper.wp execOp
  simp only [ho, resolve, invoke, builtin, Sem.run_bind, Sem.run_pure, Result.andThen_ok, List.map_toArray, List.map_cons, List.map_nil, hd, hs, hr]
  exact hK _ _ h
theorem step_append_runE {ops : Array Oper} {o : Oper} {a : Act} {w : World} {K : Act → World → Prop} {Q : Exit → Act → World → Prop} {E : Prop}
    (hg : o.guard = none) (d x : Operand) (dT sT : TypeId) (hop : o.op = Op.call { callee := Callee.builtin Builtin.append, args := #[d, x], argTypes := #[dT, sT] })
    (v u : Value) (hd : a.eval d = v) (hx : a.eval x = u) {v' : Value} {w' : World} (hr : (Builtin.append_ #[dT, sT] o.type #[v, u]).run P w = .ok v' w') (hK : K (a.put o.dst v') w') :
    if Region.wanted o (yielded ops a.tmps) = true then Oper.wp P o a w K Q else E := by
  have hw : Region.wanted o (yielded ops a.tmps) = true := by simp [Region.wanted, hg]
  rw [if_pos hw]
  unfold Oper.wp
  simp [execOp, hop, resolve, invoke, builtin, hd, hx, hr, Result.andThen]
  exact hK
theorem wpList_clear_runE (w : World) {ops : Array Oper} {rest : List Oper} {o : Oper} {a : Act} {Q : Exit → Act → World → Prop} (hgd : o.guard = none) (s : Operand) (t : TypeId)
    (ho : o.op = .call { callee := .builtin .clear, args := #[s], argTypes := #[t] }) (v : Value) (hs : a.eval s = v) {v' : Value} {w' : World}
    (hr : (Builtin.clear_ #[t] o.type #[v]).run P w = .ok v' w') (h : wpList P ops Q rest (a.put o.dst v') w') : wpList P ops Q (o :: rest) a w := by
  refine wpList_plain hgd fun K hK => ?_
  unfold Oper.wp execOp
  simp only [ho, resolve, invoke, builtin, Sem.run_bind, Sem.run_pure, Result.andThen_ok, List.map_toArray, List.map_cons, List.map_nil, hs, hr]
  exact hK _ _ h
theorem zeroCells_k (zc : List Value) (n : Nat) (hz : 0 < zc.length) : Builtin.zeroCells zc.toArray n = ((List.replicate n zc).flatten).toArray := by
  rw [← made_k zc n hz]
  simp [Builtin.zeroCells, madeCells]
theorem run_clear_k (w : World) (t e ty : TypeId) (z : Value) (zc : List Value) (ht : P.underlying t = some (.slice e)) (hv : ∀ w, (zeroValue e).run P w = .ok z w) (hz : z.cells = zc.toArray) (hz0 : 0 < zc.length) (h1 : ∀ v ∈ zc, v.oneCell' = true) (b o n c : Nat) (hn : 0 < n)
    (hc : ∀ j, j < n * zc.length → (w.cell? ⟨b, o + j, none⟩).isSome = true) (hf : ∀ j, j < n * zc.length → w.frozen? ⟨b, o + j, none⟩ = false) :
    (Builtin.clear_ #[t] ty #[.slice (some ⟨b, o, none⟩) n c]).run P w = .ok (.tuple #[]) (w.setCells b o (List.replicate n zc).flatten) := by
  have hl : ((List.replicate n zc).flatten).length = n * zc.length := by simp
  have hzc : (Builtin.zeroCells z.cells n).toList = (List.replicate n zc).flatten := by rw [hz, zeroCells_k zc n hz0]
  have hst := run_storeCells_cells (P := P) b o ((List.replicate n zc).flatten) 0 w (by simpa [hl] using hc) (by simpa [hl] using hf) (by
    intro v hv'
    simp only [List.mem_flatten, List.mem_replicate] at hv'
    obtain ⟨l, ⟨_, rfl⟩, hvl⟩ := hv'
    exact h1 v hvl)
  simp only [Nat.add_zero] at hst
  obtain ⟨m, rfl⟩ : ∃ m, n = m + 1 := ⟨n - 1, by omega⟩
  simp [Builtin.clear_, run_underlying ht, hv, hzc, hst]
end
/-- the block of a slice of the call's own, known whole -/
theorem own_blk {w : World} {base : Nat} {e : TypeId} {size n c : Nat} {A : Option Addr} {xs : List Value} (h : w.ownsRow base e size (.slice A n c) n xs) :
    (A = none ∧ n = 0 ∧ c = 0 ∧ xs = []) ∨ ∃ g sp, A = some ⟨g, 0, none⟩ ∧ base ≤ g ∧ Blk w g e (xs ++ sp) ∧ sp.length = (c - n) * size ∧ n ≤ c ∧ c ≤ maxLen := by
  have hl := h.1
  rcases h.2 with ⟨e1, hx⟩ | ⟨g, cap, cur, e1, hb, hg, h1, h2, h3, h4⟩
  · injection e1 with a1 a2 a3
    exact .inl ⟨a1, a2, a3, List.eq_nil_of_length_eq_zero (by rw [hl, hx, Nat.zero_mul])⟩
  · injection e1 with a1 a2 a3
    subst a1 a3
    refine .inr ⟨g, cur.toList.drop (n * size), rfl, hb, ?_, ?_, h1, h2⟩
    · unfold Blk
      rw [hg, ← h4, List.take_append_drop]
    · simp [h3, Nat.sub_mul]
theorem own_mk {w : World} {base : Nat} {e : TypeId} {size n c g : Nat} {xs sp : List Value} (h : Blk w g e (xs ++ sp)) (hb : base ≤ g) (hx : xs.length = n * size) (hs : sp.length = (c - n) * size) (hn : n ≤ c) (hc : c ≤ maxLen) :
    w.ownsRow base e size (.slice (some ⟨g, 0, none⟩) n c) n xs :=
  ⟨hx, .inr ⟨g, c, (xs ++ sp).toArray, rfl, hb, h, hn, hc, by simp [hx, hs, ← Nat.add_mul]; congr 1; omega, by simp [← hx]⟩⟩
end Go.Proofs.YtbllbpjlkechdaaGreat
end
section
/- The library's functions on lists of holds: Clone, BinarySearchFunc, Insert, Delete. -/
namespace Go.Proofs.YtbllbpjlkechdaaGreat
open Go Go.ChangeShapes Go.WideShapes Go.ChangeAt Go.RowKit
theorem rd_none {w : World} {zs : List HoldV} (h : RdV w none (holds zs)) : zs = [] := by
  rcases h with h | ⟨b, off, e, _⟩
  · have := holds_len zs
    rw [h] at this
    exact List.eq_nil_of_length_eq_zero (by simp at this; omega)
  · cases e
theorem eqn_hold (w : World) (a : Option Addr) (n c n' c' : Nat) : (binOp .eql 39 (.slice a n c) (.slice none n' c')).run Tryz.prog w = .ok (.bool a.isNone) w := Lib.run_eql_slice_nil w _ _ a n c n' c' Tryz.underlying39
theorem isNaN_any (a : Int) (w : World) : Calls Tryz.prog 114 #[.int .i64 a] w fun e w' => e = .returned (.bool false) ∧ w = w' := by
  have h : (a != a) = false := by simp
  go_enter Tryz.func114, Tryz.ntmps114
  go_wp2_with fail
  go_ret
  exact ⟨rfl, rfl⟩
def cmpI (a b : Int) : Int := if a < b then -1 else if b < a then 1 else 0
theorem cmpI_neg {a b : Int} (h : a < b) : cmpI a b = -1 := by simp [cmpI, h]
theorem cmpI_zero {a : Int} : cmpI a a = 0 := by simp [cmpI]
theorem cmpI_pos {a b : Int} (h : b < a) : cmpI a b = 1 := by simp [cmpI, h]; omega
/-- where the first message lies that is not less -/
def AtH (zs : List HoldV) (x : Int) (i : Nat) : Prop := i ≤ zs.length ∧ (∀ t (h : t < zs.length), t < i → (zs[t]).f0 < x) ∧ (∀ t (h : t < zs.length), i ≤ t → x ≤ (zs[t]).f0)
def FoundH (zs : List HoldV) (x : Int) (i : Nat) : Bool := match zs[i]? with | some y => decide (y.f0 = x) | none => false
def AscH (zs : List HoldV) : Prop := ∀ s t (hs : s < zs.length) (ht : t < zs.length), s < t → (zs[s]).f0 < (zs[t]).f0
end Go.Proofs.YtbllbpjlkechdaaGreat
end
section
/- The library's Insert and Delete on lists of holds. -/
namespace Go.Proofs.YtbllbpjlkechdaaGreat
open Go Go.ChangeShapes Go.WideShapes Go.ChangeAt Go.RowKit
theorem hold_size : (Tryz.prog.info? 94).map (·.size) = some 2 := by kernel_rfl
theorem add_lit' (b o j : Nat) : (⟨b, o, none⟩ : Addr).add j = ⟨b, o + j, none⟩ := by unfold Addr.add; split <;> simp_all
theorem holds_drop (zs : List HoldV) (i : Nat) (hi : i ≤ zs.length) : holds (zs.drop i) = (holds zs).drop (i * 2) := by
  have h : holds zs = holds (zs.take i) ++ holds (zs.drop i) := by rw [← holds_app, List.take_append_drop]
  have hl : (holds (zs.take i)).length = i * 2 := by rw [holds_len, List.length_take, Nat.min_eq_left hi]
  conv => rhs; rw [h]
  rw [List.drop_append_of_le_length (Nat.le_of_eq hl.symm), List.drop_of_length_le (Nat.le_of_eq hl), List.nil_append]
theorem addr_run {w : World} {b off : Nat} {cs : List Value} (h : ∀ k (h : k < cs.length), w.cell? ⟨b, off + k, none⟩ = some cs[k]) : ∀ j v, cs[j]? = some v → w.cell? ((⟨b, off, none⟩ : Addr).add j) = some v := by
  intro j v hj
  obtain ⟨hl, rfl⟩ := List.getElem?_eq_some_iff.1 hj
  rw [add_lit']
  exact h j hl
theorem blk_src {w : World} {g : Nat} {t : TypeId} {a cs b : List Value} (h : Blk w g t (a ++ (cs ++ b))) : ∀ j v, cs[j]? = some v → w.cell? ((⟨g, a.length, none⟩ : Addr).add j) = some v := by
  intro j v hj
  obtain ⟨hl, rfl⟩ := List.getElem?_eq_some_iff.1 hj
  rw [add_lit', h.cell, List.getElem?_append_right (by omega), Nat.add_sub_cancel_left, List.getElem?_append_left hl, List.getElem?_eq_getElem hl]
def InsOut (w : World) (base : Nat) (v : Value) (zs : List HoldV) : Ending → World → Prop :=
  RVal fun u w' => w'.ownsRow base 94 2 u zs.length (holds zs) ∧ w.grownBy w' v.ownBlock ∧ (u.ownBlock = v.ownBlock ∨ ∃ g, u.ownBlock = some g ∧ w.heap.size ≤ g)
def insH (zs : List HoldV) (i : Nat) (x : HoldV) : List HoldV := zs.take i ++ (x :: zs.drop i)
theorem insH_len (zs : List HoldV) (i : Nat) (x : HoldV) (hi : i ≤ zs.length) : (insH zs i x).length = zs.length + 1 := by simp [insH]; omega
theorem holds_ins (zs : List HoldV) (i : Nat) (x : HoldV) : holds (insH zs i x) = holds (zs.take i) ++ ([.int .i64 x.f0, .int .i64 x.f1] ++ holds (zs.drop i)) := by
  unfold insH
  rw [holds_app]
  rfl
theorem hold_zero (w : World) : (zeroValue 94).run Tryz.prog w = .ok (.agg #[.int .i64 0, .int .i64 0]) w := by
  obtain ⟨i0, hi0, hinf⟩ := Option.map_eq_some_iff.1 hold_info
  simp only [Prod.mk.injEq] at hinf
  simp [zeroValue, typeInfo, hi0, hinf.1]
/-- without the element i -/
def delH (zs : List HoldV) (i : Nat) : List HoldV := zs.take i ++ zs.drop (i + 1)
def DelOut (w : World) (base : Nat) (A : Option Addr) (n c i : Nat) (zs : List HoldV) : Ending → World → Prop :=
  RVal fun u w' => u = .slice A (n - 1) c ∧ w'.ownsRow base 94 2 (.slice A (n - 1) c) (n - 1) (holds (delH zs i)) ∧ w.grownBy w' (Value.slice A n c).ownBlock
end Go.Proofs.YtbllbpjlkechdaaGreat
end
section
/- The library's Insert and Delete on lists of ints. -/
namespace Go.Proofs.YtbllbpjlkechdaaGreat
open Go Go.ChangeShapes Go.WideShapes Go.ChangeAt Go.RowKit
theorem int_size : (Tryz.prog.info? 3).map (·.size) = some 1 := by kernel_rfl
theorem ints_len1 (zs : List Int) : (ints zs).length = zs.length := ints_len zs
def InsOutI (w : World) (base : Nat) (v : Value) (zs : List Int) : Ending → World → Prop :=
  RVal fun u w' => w'.ownsRow base 3 1 u zs.length (ints zs) ∧ w.grownBy w' v.ownBlock ∧ (u.ownBlock = v.ownBlock ∨ ∃ g, u.ownBlock = some g ∧ w.heap.size ≤ g)
def insI (zs : List Int) (i : Nat) (x : Int) : List Int := zs.take i ++ (x :: zs.drop i)
theorem insI_len (zs : List Int) (i : Nat) (x : Int) (hi : i ≤ zs.length) : (insI zs i x).length = zs.length + 1 := by simp [insI]; omega
theorem ints_ins (zs : List Int) (i : Nat) (x : Int) : ints (insI zs i x) = ints (zs.take i) ++ ([.int .i64 x] ++ ints (zs.drop i)) := by
  unfold insI
  rw [ints_app]
  rfl
end Go.Proofs.YtbllbpjlkechdaaGreat
end
section
/- Papers copied: both programs give the same papers in new memory. -/
namespace Go.Proofs.YtbllbpjlkechdaaGreat
open Go Go.ChangeShapes Go.WideShapes Go.ChangeAt Go.RowKit
set_option linter.unusedVariables false
set_option linter.unusedSimpArgs false
/-- papers in memory of the call's own -/
def PapOut (w : World) (p : PapV) : Ending → World → Prop :=
  RVal fun u w' => ∃ HA hc LA lc, u = .agg #[.slice HA p.hs.length hc, .slice LA p.ls.length lc] ∧ w'.ownsRow w.heap.size 94 2 (.slice HA p.hs.length hc) p.hs.length (holds p.hs) ∧ w'.ownsRow w.heap.size 3 1 (.slice LA p.ls.length lc) p.ls.length (ints p.ls) ∧ Below w.heap.size w w'
theorem papOut_mk {w w' : World} {hs : List HoldV} {ls : List Int} {n m hc lc : Nat} {HA LA : Option Addr} (hn : hs.length = n) (hm : ls.length = m) (h1 : w'.ownsRow w.heap.size 94 2 (.slice HA n hc) n (holds hs)) (h2 : w'.ownsRow w.heap.size 3 1 (.slice LA m lc) m (ints ls)) (hb : Below w.heap.size w w') :
    PapOut w ⟨hs, ls⟩ (.returned (.agg #[.slice HA n hc, .slice LA m lc])) w' := by
  subst hn hm
  exact RVal.mk ⟨HA, hc, LA, lc, rfl, h1, h2, hb⟩
theorem keepP {w0 w W : World} {a : Nat} {u v : Value} (h0 : Below w0.heap.size w0 w) (hb : Below w.heap.size w W) (lx : a < w.heap.size) (x0 : w.cell? ⟨a, 0, none⟩ = some u) (x1 : w.cell? ⟨a, 1, none⟩ = some v) :
    Below w0.heap.size w0 W ∧ W.cell? ⟨a, 0, none⟩ = some u ∧ W.cell? ⟨a, 1, none⟩ = some v :=
  ⟨below_trans h0 hb, (hb.cell (p := ⟨a, 0, none⟩) lx).trans x0, (hb.cell (p := ⟨a, 1, none⟩) lx).trans x1⟩
theorem keepPs {w0 W : World} {a q : Nat} {ty : TypeId} {u v u1 u2 : Value} (hb : Below w0.heap.size w0 W) (hq : w0.heap.size ≤ q) (hP : Blk W a ty [u, v]) (hne : a ≠ q) :
    Below w0.heap.size w0 ((W.setCell ⟨q, 0, none⟩ u1).setCell ⟨q, 1, none⟩ u2) ∧ ((W.setCell ⟨q, 0, none⟩ u1).setCell ⟨q, 1, none⟩ u2).cell? ⟨a, 0, none⟩ = some u ∧ ((W.setCell ⟨q, 0, none⟩ u1).setCell ⟨q, 1, none⟩ u2).cell? ⟨a, 1, none⟩ = some v := by
  have h2 : Blk ((W.setCell ⟨q, 0, none⟩ u1).setCell ⟨q, 1, none⟩ u2) a ty [u, v] := (Below.heap_setCell _ ⟨q, 1, none⟩ _ a hne).trans ((Below.heap_setCell _ ⟨q, 0, none⟩ _ a hne).trans hP)
  exact ⟨(hb.setCell hq _).setCell hq _, h2.cellAt 0 (by simp), h2.cellAt 1 (by simp)⟩
theorem eqn_int (w : World) (a : Option Addr) (n c n' c' : Nat) : (binOp .eql 28 (.slice a n c) (.slice none n' c')).run Tryz.prog w = .ok (.bool a.isNone) w := Lib.run_eql_slice_nil w _ _ a n c n' c' Tryz.underlying28
theorem oeH {W : World} {g base : Nat} (h : Blk W g 94 []) (hb : base ≤ g) : W.ownsRow base 94 2 (.slice (some ⟨g, 0, none⟩) 0 0) 0 [] := own_of_blk (cs := []) h hb rfl (by decide)
theorem oeI {W : World} {g base : Nat} (h : Blk W g 3 []) (hb : base ≤ g) : W.ownsRow base 3 1 (.slice (some ⟨g, 0, none⟩) 0 0) 0 [] := own_of_blk (cs := []) h hb rfl (by decide)
/-- rows of two element types lie apart -/
theorem own_types {W : World} {b b' k k' n n' : Nat} {e e' : TypeId} {v v' : Value} {xs ys : List Value} (h : W.ownsRow b e k v n xs) (h' : W.ownsRow b' e' k' v' n' ys) (hne : e ≠ e') : ∀ g, v.ownBlock = some g → v'.ownBlock = some g → False := by
  intro g e1 e2
  rcases h.2 with ⟨rfl, _⟩ | ⟨g1, cap, cur, rfl, _, hg, _⟩
  · cases e1
  · rcases h'.2 with ⟨rfl, _⟩ | ⟨g2, cap2, cur2, rfl, _, hg2, _⟩
    · cases e2
    · obtain rfl : g1 = g := by simpa [Value.ownBlock] using e1
      obtain rfl : g2 = g1 := by simpa [Value.ownBlock] using e2
      rw [hg] at hg2
      injection hg2 with hg2
      injection hg2 with _ hg2
      exact hne hg2
end Go.Proofs.YtbllbpjlkechdaaGreat
end
section
/- Marks that are set: the reference's l24Set. -/
namespace Go.Proofs.YtbllbpjlkechdaaGreat
open Go Go.ChangeShapes Go.WideShapes Go.ChangeAt Go.RowKit
set_option linter.unusedVariables false
/-- the reference's loop -/
def setGo (x m : Int) : Bool → List HoldV → List HoldV
  | done, [] => if done then [] else [⟨x, m⟩]
  | done, h :: r => (if !done && decide (x ≤ h.f0) then [⟨x, m⟩] else []) ++ ((if h.f0 = x then [] else [h]) ++ setGo x m (done || decide (x ≤ h.f0)) r)
theorem setGo_done {x m : Int} {l : List HoldV} (h : ∀ a ∈ l, a.f0 ≠ x) : setGo x m true l = l := by
  induction l with
  | nil => rfl
  | cons a r ih =>
    have h1 := h a (List.mem_cons_self ..)
    rw [setGo, if_neg h1]
    simp [ih (fun b hb => h b (List.mem_cons_of_mem _ hb))]
theorem setGo_zero {x m : Int} {l : List HoldV} (hp : l.Pairwise (fun a b => a.f0 < b.f0)) (hm : m = 0) : setGo x m true l = setH l x m := by
  induction l with
  | nil => simp [setGo, setH, hm]
  | cons a r ih =>
    have hr := (List.pairwise_cons.1 hp).2
    have ha := (List.pairwise_cons.1 hp).1
    rw [setGo, setH]
    by_cases hlt : a.f0 < x
    · rw [if_pos hlt, if_neg (show ¬ a.f0 = x by omega)]
      simp [ih hr]
    · rw [if_neg hlt]
      by_cases hax : a.f0 = x
      · rw [if_pos hax, if_pos hax, if_pos hm]
        have := setGo_done (x := x) (m := m) (l := r) (fun b hb => by have := ha b hb; omega)
        simp [this]
      · rw [if_neg hax, if_neg hax, if_pos hm]
        have := setGo_done (x := x) (m := m) (l := r) (fun b hb => by have := ha b hb; omega)
        simp [this]
theorem setGo_set {x m : Int} {l : List HoldV} (hp : l.Pairwise (fun a b => a.f0 < b.f0)) (hm : m ≠ 0) : setGo x m false l = setH l x m := by
  induction l with
  | nil => simp [setGo, setH, hm]
  | cons a r ih =>
    have hr := (List.pairwise_cons.1 hp).2
    have ha := (List.pairwise_cons.1 hp).1
    rw [setGo, setH]
    by_cases hlt : a.f0 < x
    · have hd : decide (x ≤ a.f0) = false := decide_eq_false (by omega)
      rw [if_pos hlt, if_neg (show ¬ a.f0 = x by omega), hd]
      simp [ih hr]
    · have hd : decide (x ≤ a.f0) = true := decide_eq_true (by omega)
      rw [if_neg hlt, hd]
      have := setGo_done (x := x) (m := m) (l := r) (fun b hb => by have := ha b hb; omega)
      by_cases hax : a.f0 = x
      · rw [if_pos hax, if_pos hax, if_neg hm]
        simp [this]
      · rw [if_neg hax, if_neg hax, if_neg hm]
        simp [this]
theorem setGo_eq {x m : Int} {l : List HoldV} (hp : l.Pairwise (fun a b => a.f0 < b.f0)) : setGo x m (m == 0) l = setH l x m := by
  by_cases hm : m = 0
  · rw [show (m == 0) = true from by simp [hm]]; exact setGo_zero hp hm
  · rw [show (m == 0) = false from by simp [hm]]; exact setGo_set hp hm
/-- between two rounds of l24Set -/
structure SetAt (w0 W : World) (q n c m lc : Nat) (HA LA : Option Addr) (acc : List HoldV) (ls : List Int) (p d lc2 : Nat) (A LA2 : Option Addr) : Prop where
  box : Blk W w0.heap.size 41 [.slice HA n c, .slice LA m lc]
  res : Blk W (w0.heap.size + 1) 41 [.slice none 0 0, .slice none 0 0]
  out : Blk W q 41 [.slice A p d, .slice LA2 m lc2]
  hq : w0.heap.size + 2 ≤ q
  holds : W.ownsRow (w0.heap.size + 2) 94 2 (.slice A p d) p (holds acc)
  left : W.ownsRow (w0.heap.size + 2) 3 1 (.slice LA2 m lc2) m (ints ls)
  bel : Below w0.heap.size w0 W
theorem SetAt.sz {w0 W : World} {q n c m lc p d lc2 : Nat} {HA LA A LA2 : Option Addr} {acc : List HoldV} {ls : List Int} (h : SetAt w0 W q n c m lc HA LA acc ls p d lc2 A LA2) : w0.heap.size + 2 ≤ W.heap.size := Nat.le_of_lt (Nat.lt_of_le_of_lt h.hq h.out.lt)
theorem SetAt.drew {w0 W : World} {q n c m lc p d lc2 : Nat} {HA LA A LA2 : Option Addr} {acc : List HoldV} {ls : List Int} (h : SetAt w0 W q n c m lc HA LA acc ls p d lc2 A LA2) : SetAt w0 W.drew q n c m lc HA LA acc ls p d lc2 A LA2 :=
  ⟨h.box, h.res, h.out, h.hq, h.holds, h.left, Below.drew h.bel⟩
/-- a block of another element type stays where a row of its own grows -/
theorem own_blk_apart {W w6 : World} {b k n g : Nat} {e t : TypeId} {v : Value} {xs cs : List Value} (h : W.ownsRow b e k v n xs) (hg : W.grownBy w6 v.ownBlock) (hb : Blk W g t cs) (hne : e ≠ t) : Blk w6 g t cs := by
  refine hb.offG hg (fun b' e' => ?_)
  rintro rfl
  rcases h.2 with ⟨rfl, _⟩ | ⟨g1, cap, cur, rfl, _, hg1, _⟩
  · cases e'
  · obtain rfl : g1 = b' := by simpa [Value.ownBlock] using e'
    unfold Blk at hb
    rw [hg1] at hb
    injection hb with hb
    injection hb with _ hb
    exact hne hb
theorem own_own_apart {W w6 : World} {b k n b' k' n' : Nat} {e t : TypeId} {v u : Value} {xs cs : List Value} (h : W.ownsRow b e k v n xs) (hg : W.grownBy w6 v.ownBlock) (hb : W.ownsRow b' t k' u n' cs) (hne : e ≠ t) : w6.ownsRow b' t k' u n' cs := by
  refine hb.kept hg ?_
  cases hu : u.ownBlock with
  | none => exact .inl rfl
  | some g => exact .inr (fun e' => own_types h hb hne g e'.symm hu)
theorem own_setAt {W : World} {b k n q i : Nat} {e t : TypeId} {v u : Value} {xs cs : List Value} (h : W.ownsRow b e k v n xs) (hq : Blk W q t cs) (hne : e ≠ t) : (W.setCell ⟨q, i, none⟩ u).ownsRow b e k v n xs := by
  refine h.kept (row := some q) ⟨rfl, rfl, rfl, by simp [World.setCell], fun j hj hn => Below.heap_setCell W ⟨q, i, none⟩ u j (by intro e; exact hn (by rw [e]))⟩ ?_
  refine .inr (fun hu => ?_)
  rcases h.2 with ⟨rfl, _⟩ | ⟨g1, cap, cur, rfl, _, hg1, _⟩
  · cases hu
  · obtain rfl : g1 = q := by simpa [Value.ownBlock] using hu
    unfold Blk at hq
    rw [hg1] at hq
    injection hq with hq
    injection hq with _ hq
    exact hne hq
section
variable {w0 W w6 : World} {q n c m lc p d lc2 d6 : Nat} {HA LA A LA2 A6 : Option Addr} {acc : List HoldV} {ls : List Int} {y0 y1 : Int}
theorem SetAt.out6 (h : SetAt w0 W q n c m lc HA LA acc ls p d lc2 A LA2) (hown : w6.ownsRow (w0.heap.size + 2) 94 2 (.slice A6 (p + 1) d6) (p + 1) (Go.Proofs.YtbllbpjlkechdaaGreat.holds acc ++ [.int .i64 y0, .int .i64 y1])) (hg : W.grownBy w6 (Value.ownBlock (.slice A p d))) : Blk w6 q 41 [.slice A p d, .slice LA2 m lc2] :=
  own_blk_apart h.holds hg h.out (by decide)
theorem SetAt.push (h : SetAt w0 W q n c m lc HA LA acc ls p d lc2 A LA2) (hown : w6.ownsRow (w0.heap.size + 2) 94 2 (.slice A6 (p + 1) d6) (p + 1) (Go.Proofs.YtbllbpjlkechdaaGreat.holds acc ++ [.int .i64 y0, .int .i64 y1])) (hg : W.grownBy w6 (Value.ownBlock (.slice A p d))) :
    SetAt w0 (w6.setCell ⟨q, 0, none⟩ (.slice A6 (p + 1) d6)) q n c m lc HA LA (acc ++ [⟨y0, y1⟩]) ls (p + 1) d6 lc2 A6 LA2 := by
  have o6 := h.out6 hown hg
  have hq := h.hq
  have e : Go.Proofs.YtbllbpjlkechdaaGreat.holds (acc ++ [⟨y0, y1⟩]) = Go.Proofs.YtbllbpjlkechdaaGreat.holds acc ++ [.int .i64 y0, .int .i64 y1] := by rw [holds_app]; rfl
  refine ⟨(own_blk_apart h.holds hg h.box (by decide)).far (by show w0.heap.size ≠ q; omega) _, (own_blk_apart h.holds hg h.res (by decide)).far (by show w0.heap.size + 1 ≠ q; omega) _, o6.set_ 0 _, hq, ?_, own_setAt (own_own_apart h.holds hg h.left (by decide)) o6 (by decide), (h.bel.grown hg h.bel.size (fun g e => by have := (h.holds.lt g e).1; omega)).setCell (by show w0.heap.size ≤ q; omega) _⟩
  rw [e]
  exact own_setAt hown o6 (by decide)
end
end Go.Proofs.YtbllbpjlkechdaaGreat
end
section
/- Lists of Hold and inboxes: marking them, reading the marks. -/
namespace Go.Proofs.YtbllbpjlkechdaaGreat
open Go Go.ChangeShapes Go.WideShapes Go.ChangeAt Go.RowKit
def marksH (k : Int) (n : Nat) : List HoldV := (List.range n).map fun (i : Nat) => ⟨k + ((2 * i : Nat) : Int), k + ((2 * i : Nat) : Int) + 1⟩
theorem marksH_len (k : Int) (n : Nat) : (marksH k n).length = n := by simp [marksH]
theorem marksH_succ (k : Int) (n : Nat) : marksH k (n + 1) = marksH k n ++ [⟨k + ((2 * n : Nat) : Int), k + ((2 * n : Nat) : Int) + 1⟩] := by simp [marksH, List.range_succ]
theorem marksH_at (k : Int) (n j : Nat) (h : j < (marksH k n).length) : (marksH k n)[j] = ⟨k + ((2 * j : Nat) : Int), k + ((2 * j : Nat) : Int) + 1⟩ := by simp [marksH]
theorem holds_append (a b : List HoldV) : holds (a ++ b) = holds a ++ holds b := cellsOf_append _ _ _
theorem holds_one (a : HoldV) : holds [a] = [.int .i64 a.f0, .int .i64 a.f1] := cellsOf_one _ _
end Go.Proofs.YtbllbpjlkechdaaGreat
end
section
/- Lists of PaperDeed: their cells; copying, comparing, measuring. -/
namespace Go.Proofs.YtbllbpjlkechdaaGreat
open Go Go.ChangeShapes Go.WideShapes Go.ChangeAt Go.RowKit
theorem set_3 (l r : List Value) (a0 a1 a2 c0 c1 c2 : Value) (i : Nat) (hl : l.length = i) : (((l ++ ([a0, a1, a2] ++ r)).set i c0).set (i + 1) c1).set (i + 1 + 1) c2 = l ++ ([c0, c1, c2] ++ r) := by
  subst hl
  simp [Nat.add_assoc]
structure PaperDeedV where
  f0 : Int
  f1 : Int
  f2 : Int
def paperdeedC (x : PaperDeedV) : List Value := [.int .i64 x.f0, .int .i64 x.f1, .int .i64 x.f2]
theorem paperdeedC_len (x : PaperDeedV) : (paperdeedC x).length = 3 := rfl
/-- the cells of a list -/
def paperdeeds (zs : List PaperDeedV) : List Value := cellsOf paperdeedC zs
theorem paperdeeds_len (zs : List PaperDeedV) : (paperdeeds zs).length = zs.length * 3 := cellsOf_len _ _ paperdeedC_len zs
theorem RdV.paperdeedAt {w : World} {A : Option Addr} {zs : List PaperDeedV} (h : RdV w A (paperdeeds zs)) {j : Nat} (hj : j < zs.length) : ∃ b o, A = some ⟨b, o, none⟩ ∧ b < w.heap.size ∧ w.cell? ⟨b, o + j * 3, none⟩ = some (.int .i64 (zs[j]).f0) ∧ w.cell? ⟨b, o + j * 3 + 1, none⟩ = some (.int .i64 (zs[j]).f1) ∧ w.cell? ⟨b, o + j * 3 + 2, none⟩ = some (.int .i64 (zs[j]).f2) := by
  obtain ⟨b, o, hA, hl, hc⟩ := RdV.fieldAt paperdeedC_len h hj (by decide)
  exact ⟨b, o, hA, hl, hc 0 _ rfl, hc 1 _ rfl, hc 2 _ rfl⟩
end Go.Proofs.YtbllbpjlkechdaaGreat
end
section
/- A slice of structs that came in, read: whatever its elements are. -/
namespace Go.Proofs.YtbllbpjlkechdaaGreat
open Go Go.ChangeShapes Go.WideShapes Go.ChangeAt Go.RowKit Go.Deep
theorem rdVF_of_cells {w : World} {x : Addr} {cs : List Value} (hc : ∀ i (h : i < cs.length), w.cell? (x.add i) = some cs[i]) : RdV w (some x) cs := by
  rcases Nat.eq_zero_or_pos cs.length with h0 | h0
  · exact .inl (List.eq_nil_of_length_eq_zero h0)
  · obtain ⟨b, off, spot⟩ := x
    have h1 := hc 0 h0
    have hs : spot = none := by simpa [Addr.add] using World.cell?_spot h1
    subst hs
    have hlt : b < w.heap.size := by
      have := World.block_lt_of_cell? w _ h1
      simpa [Addr.add] using this
    refine .inr ⟨b, off, rfl, hlt, fun j hj => ?_⟩
    have h2 := hc j hj
    have he : (⟨b, off, none⟩ : Addr).add j = ⟨b, off + j, none⟩ := by
      unfold Addr.add; split <;> simp_all
    rw [he] at h2
    exact h2
section
variable {H : Type} {enc : TypeId × Value → H} {P : Program} {w : World} {base : Nat} {spare : Nat → Bool} {held : Bool}
theorem read_list {α : Type} [Inhabited α] {ec : α → List Value} {k : Nat} (hk : ∀ x, (ec x).length = k) (h0 : 0 < k) {t e : TypeId} {v : Value} {fuel : Nat} {x : DataW H × List MemPlace} (ht : P.underlying t = some (.slice e)) (ce : P.cellsOf e = k)
    (one : ∀ (cs : List Value) (n : Nat) (y : DataW H × List MemPlace), DataW.trod enc P w base spare held n e cs = some y → ∃ z : α, cs = ec z) (h : DataW.trod enc P w base spare held fuel t [v] = some x) :
    ∃ (A : Option Addr) (n c : Nat) (zs : List α), v = .slice A n c ∧ zs.length = n ∧ n ≤ c ∧ c ≤ maxLen ∧ RdV w A (cellsOf ec zs) := by
  rcases open_slice ht h with ⟨hcs, _⟩ | ⟨a, len, cap, m, n, D, Pl, hcs, hb, hl, hm, hmm, rfl, hx⟩
  · simp at hcs
    exact ⟨none, 0, 0, [], hcs, rfl, Nat.le_refl _, by decide, RdV.nil_⟩
  · simp at hcs
    have hlm : len ≤ m := by rw [hmm]; split <;> omega
    have each : ∀ i, i < len → ∃ z : α, ∀ j, j < k → w.cell? (a.add (i * k + j)) = (ec z)[j]? := fun i hi => by
      obtain ⟨cs', h1, h2⟩ := hx i (by omega)
      rw [ce] at h1
      obtain ⟨_, hlen, hcell⟩ := World.cells?_some h1
      obtain ⟨z, rfl⟩ := one _ _ _ h2
      refine ⟨z, fun j hj => ?_⟩
      have := hcell j hj
      rw [add_add] at this
      exact this
    obtain ⟨F, hF⟩ := choose_lt each
    refine ⟨some a, len, cap, (List.range len).map F, hcs, by simp, hl, hm, rdVF_of_cells fun i hi => ?_⟩
    have hi' : i < len * k := by rw [cellsOf_len ec k hk] at hi; simpa using hi
    have hq : i / k < len := Nat.div_lt_of_lt_mul (by rw [Nat.mul_comm]; exact hi')
    have hr : i % k < k := Nat.mod_lt _ h0
    have e : i / k * k + i % k = i := Nat.div_add_mod' i k
    have h2 := cellsOf_at ec k hk ((List.range len).map F) (i / k) (by simpa using hq) (i % k) hr
    rw [e] at h2
    rw [← List.getElem?_eq_getElem hi, h2]
    have h3 := hF (i / k) hq (i % k) hr
    rw [e] at h3
    rw [h3]
    simp
theorem ints_flat (zs : List Int) : ints zs = cellsOf (fun z : Int => [Value.int .i64 z]) zs := by
  induction zs with
  | nil => rfl
  | cons a r ih =>
    show Value.int .i64 a :: ints r = [Value.int .i64 a] ++ cellsOf _ r
    rw [ih]; rfl
theorem read_intlist {t e : TypeId} {v : Value} {fuel : Nat} {x : DataW H × List MemPlace} (ht : P.underlying t = some (.slice e)) (he : P.underlying e = some (.int .i64)) (ce : P.cellsOf e = 1)
    (h : DataW.trod enc P w base spare held fuel t [v] = some x) : ∃ (A : Option Addr) (n c : Nat) (zs : List Int), v = .slice A n c ∧ zs.length = n ∧ n ≤ c ∧ c ≤ maxLen ∧ RdV w A (ints zs) := by
  obtain ⟨A, n, c, zs, h1, h2, h3, h4, h5⟩ := read_list (α := Int) (ec := fun z : Int => [Value.int .i64 z]) (k := 1) (fun _ => rfl) (by decide) ht ce (fun cs n y hy => by
    obtain ⟨z, hz, _⟩ := DataW.trod_int he hy
    exact ⟨z, hz⟩) h
  exact ⟨A, n, c, zs, h1, h2, h3, h4, by rw [ints_flat]; exact h5⟩
end
end Go.Proofs.YtbllbpjlkechdaaGreat
end
