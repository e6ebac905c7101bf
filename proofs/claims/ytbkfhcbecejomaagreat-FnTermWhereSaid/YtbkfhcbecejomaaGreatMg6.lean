/- Several texts of the proof in one; each says at its head what it proves; no condition. -/
import Derived.Test.YtbkfhcbecejomaaGreatMg5
import Derived.Test.YtbkfhcbecejomaaGreatMg3
import Derived.Test.YtbkfhcbecejomaaGreatMg4
import Derived.Test.YtbkfhcbecejomaaGreatProg
import Derived.Test.YtbkfhcbecejomaaGreatMg1
import Derived.Deep.CutRange
import Derived.Deep.RegionLaw
section
/- Marks of a box, papers that are valid: both programs return the plain word. -/
namespace Go.Proofs.YtbkfhcbecejomaaGreat
open Go Go.ChangeShapes Go.WideShapes Go.ChangeAt Go.RowKit
set_option linter.unusedVariables false
theorem marks_hit {hs : List HoldV} {k : Nat} {x : Int} (hk : k < hs.length) (h : marksOf hs x = marksOf (hs.drop k) x) (hx : (hs[k]).f0 = x) : marksOf hs x = (hs[k]).f1 := by
  rw [h, List.drop_eq_getElem_cons hk, marksOf, if_pos hx]
theorem marks_miss {hs : List HoldV} {k : Nat} {x : Int} (hk : k < hs.length) (h : marksOf hs x = marksOf (hs.drop k) x) (hx : (hs[k]).f0 ≠ x) : marksOf hs x = marksOf (hs.drop (k + 1)) x := by
  rw [h, List.drop_eq_getElem_cons hk, marksOf, if_neg hx]
set_option maxHeartbeats 1000000 in
theorem specMarksOf (HA : Option Addr) (n c : Nat) (hs : List HoldV) (LA : Option Addr) (ln lc : Nat) (x : Int) (w : World) (hn : hs.length = n) (hr : RdV w HA (holds hs)) (hm : n ≤ 1048576) :
    Calls Tryz.prog 105 #[.agg #[.slice HA n c, .slice LA ln lc], .int .i64 x] w fun e w' => e = .returned (.int .i64 (marksOf hs x)) ∧ Below w.heap.size w w' := by
  have HN := Lib.hid hn
  clear hn
  have hbl : Below w.heap.size w (w.alloc (.cells #[.slice HA n c, .slice LA ln lc] 32)) := (Below.refl _ _).alloc (Nat.le_refl _) _
  have hP : Blk (w.alloc (.cells #[.slice HA n c, .slice LA ln lc] 32)) w.heap.size 32 [.slice HA n c, .slice LA ln lc] := Blk.new _ _ _
  have q0 := hP.cellAt 0 (by simp)
  simp only [List.getElem_cons_zero] at q0
  go_enter Tryz.func105, Tryz.ntmps105
  go_wp2_with fail
  go_loopw [5] (fun i wr => ∃ k : Nat, k ≤ n ∧ i = .int .i64 k ∧ Hid (marksOf hs x = marksOf (hs.drop k) x) ∧ Blk wr w.heap.size 32 [.slice HA n c, .slice LA ln lc] ∧ Below w.heap.size w wr) (fun i _ => n - (intOf i).toNat)
  case atStart => exact ⟨0, Nat.zero_le _, rfl, Lib.hid rfl, hP, hbl⟩
  case round =>
    clear q0 hP
    obtain ⟨k, hk, rfl, HJ, P1, hb⟩ := hrel
    have q0 := P1.cellAt 0 (by simp)
    simp only [List.getElem_cons_zero] at q0
    have hPlt := P1.lt
    by_cases hlt : k < n
    · have hke : k < hs.length := by rw [HN.out]; exact hlt
      obtain ⟨b, o, rfl, hl, hc0, hc1⟩ := hr.holdAt hke
      have h0 : wr.cell? ⟨b, o + k * 2, none⟩ = some (.int .i64 (hs[k]).f0) := (hb.cell (p := ⟨b, o + k * 2, none⟩) hl).trans hc0
      have h1 : wr.cell? ⟨b, o + k * 2 + 1, none⟩ = some (.int .i64 (hs[k]).f1) := (hb.cell (p := ⟨b, o + k * 2 + 1, none⟩) hl).trans hc1
      have HH := Lib.hid (fun hx => marks_hit (x := x) hke HJ.out hx)
      have HM := Lib.hid (fun hx => marks_miss (x := x) hke HJ.out hx)
      generalize hs[k] = y at *
      obtain ⟨y0, y1⟩ := y
      dsimp only at h0 h1 HH HM
      have hki : (k : Int) < (n : Int) := by omega
      have HB2 := Lib.hid hb
      have HP2 := Lib.hid P1
      clear hc0 hc1 P1 hb
      by_cases hx : y0 = x
      · have HT := Lib.hid (HH.out hx)
        have hd : (y0 == x) = true := by simp [hx]
        clear hx
        go_wp2_with fail
        go_ret
        exact ⟨by rw [HT.out]; rfl, HB2.out⟩
      · have HT := Lib.hid (HM.out hx)
        have hd : (y0 == x) = false := by simp [hx]
        clear hx
        go_wp2_with fail
        go_roundw
        case rel => exact ⟨k + 1, by omega, by go_num, HT, HP2.out, HB2.out⟩
        case measure => simp [intOf]; omega
    · obtain rfl : k = n := by omega
      have HE : Hid (marksOf hs x = 0) := Lib.hid (by rw [HJ.out, List.drop_of_length_le (by rw [HN.out]; exact Nat.le_refl _)]; rfl)
      go_wp2_with fail
      go_ret
      exact ⟨by rw [HE.out]; rfl, hb⟩
/-- the id ahead of the hold k; the number ahead of the number k -/
def lastH (hs : List HoldV) : Nat → Int
  | 0 => 0
  | k + 1 => (hs.getD k ⟨0, 0⟩).f0
def lastL (ls : List Int) : Nat → Int
  | 0 => 0
  | k + 1 => ls.getD k 0
theorem lastH_succ {hs : List HoldV} {k : Nat} (hk : k < hs.length) : lastH hs (k + 1) = (hs[k]).f0 := by simp [lastH, List.getD, List.getElem?_eq_getElem hk]
theorem lastL_succ {ls : List Int} {k : Nat} (hk : k < ls.length) : lastL ls (k + 1) = ls[k] := by simp [lastL, List.getD, List.getElem?_eq_getElem hk]
theorem holdGo_step {hs : List HoldV} {ls : List Int} {k : Nat} {last : Int} (hk : k < hs.length) (h : holdGo ls 0 hs = holdGo ls last (hs.drop k)) :
    holdGo ls 0 hs = ((idI (hs[k]).f0 && ((decide (1 ≤ (hs[k]).f1) && decide ((hs[k]).f1 ≤ 7)) && (decide (last < (hs[k]).f0) && !hasI ls (hs[k]).f0))) && holdGo ls (hs[k]).f0 (hs.drop (k + 1))) := by
  rw [h, List.drop_eq_getElem_cons hk, holdGo]
theorem leftGo_step {ls : List Int} {k : Nat} {last : Int} (hk : k < ls.length) (h : leftGo 0 ls = leftGo last (ls.drop k)) :
    leftGo 0 ls = ((idI ls[k] && decide (last < ls[k])) && leftGo ls[k] (ls.drop (k + 1))) := by
  rw [h, List.drop_eq_getElem_cons hk, leftGo]
end Go.Proofs.YtbkfhcbecejomaaGreat
end
section
/- PapersValid of the program: the plain word. -/
namespace Go.Proofs.YtbkfhcbecejomaaGreat
open Go Go.ChangeShapes Go.WideShapes Go.ChangeAt Go.RowKit
set_option linter.unusedVariables false
theorem gate_no {a b d r : Bool} {P : Prop} [Decidable P] (h : ¬ (a = true ∧ b = true ∧ P ∧ d = false)) : ((a && (b && (decide P && !d))) && r) = false := by
  cases a <;> cases b <;> cases d <;> by_cases hp : P <;> simp_all
theorem gate_no2 {a r : Bool} {P : Prop} [Decidable P] (h : ¬ (a = true ∧ P)) : ((a && decide P) && r) = false := by
  cases a <;> by_cases hp : P <;> simp_all
set_option maxHeartbeats 4000000 in
theorem implPapersValid (HA LA : Option Addr) (n c m lc : Nat) (hs : List HoldV) (ls : List Int) (w : World) (hn : hs.length = n) (hln : ls.length = m) (hr : RdV w HA (holds hs)) (hrl : RdV w LA (ints ls)) (hm : n ≤ 1048576) (hm2 : m ≤ 1048576) :
    Calls Tryz.prog 21 #[.agg #[.slice HA n c, .slice LA m lc]] w fun e w' => e = .returned (.bool (papOk hs ls)) ∧ Below w.heap.size w w' := by
  have HN := Lib.hid hn
  have HLN := Lib.hid hln
  clear hn hln
  have hbl : Below w.heap.size w (w.alloc (.cells #[.slice HA n c, .slice LA m lc] 32)) := (Below.refl _ _).alloc (Nat.le_refl _) _
  have hP : Blk (w.alloc (.cells #[.slice HA n c, .slice LA m lc] 32)) w.heap.size 32 [.slice HA n c, .slice LA m lc] := Blk.new _ _ _
  go_enter Tryz.func21, Tryz.ntmps21
  go_wp2_with fail
  go_loopw [3, 10, 4] (fun _ i _ wr => ∃ k : Nat, k ≤ n ∧ i = .int .i64 k ∧ Hid (holdGo ls 0 hs = holdGo ls (lastH hs k) (hs.drop k)) ∧ Blk wr w.heap.size 32 [.slice HA n c, .slice LA m lc] ∧ Below w.heap.size w wr) (fun _ i _ _ => n - (intOf i).toNat)
  case atStart => exact ⟨0, Nat.zero_le _, rfl, Lib.hid rfl, hP, hbl⟩
  case round =>
    obtain ⟨k, hk, rfl, HJ, P1, hb⟩ := hrel
    have c0 := P1.cellAt 0 (by simp)
    have c1 := P1.cellAt 1 (by simp)
    simp only [List.getElem_cons_zero, List.getElem_cons_succ] at c0 c1
    have hPlt := P1.lt
    by_cases hlt : k < n
    · have hke : k < hs.length := by rw [HN.out]; exact hlt
      obtain ⟨b, o, rfl, hl, hc0, hc1⟩ := hr.holdAt hke
      have h0 : wr.cell? ⟨b, o + k * 2, none⟩ = some (.int .i64 (hs[k]).f0) := (hb.cell (p := ⟨b, o + k * 2, none⟩) hl).trans hc0
      have h1 : wr.cell? ⟨b, o + k * 2 + 1, none⟩ = some (.int .i64 (hs[k]).f1) := (hb.cell (p := ⟨b, o + k * 2 + 1, none⟩) hl).trans hc1
      have HST := Lib.hid (holdGo_step hke HJ.out)
      have HPV : Hid (∀ (hk0 : 0 < k), w.cell? ⟨b, o + (k - 1) * 2, none⟩ = some (.int .i64 (lastH hs k))) := Lib.hid (fun hk0 => by
        obtain ⟨b', o', e', _, hp0, _⟩ := hr.holdAt (show k - 1 < hs.length by omega)
        injection e' with e'
        injection e' with e1 e2
        subst e1 e2
        rw [hp0, ← lastH_succ (show k - 1 < hs.length by omega), show k - 1 + 1 = k from by omega])
      have HL0 : Hid (k = 0 → lastH hs k = 0) := Lib.hid (fun e => by rw [e]; rfl)
      generalize lastH hs k = lv at *
      have HSU := Lib.hid (lastH_succ hke)
      generalize hs[k] = y at *
      obtain ⟨y0, y1⟩ := y
      dsimp only at h0 h1 HST HSU
      have HGO : Hid (idI y0 = true ∧ inI y1 1 7 = true ∧ lv < y0 ∧ hasI ls y0 = false → holdGo ls 0 hs = holdGo ls (lastH hs (k + 1)) (hs.drop (k + 1))) := Lib.hid (fun h => by
        obtain ⟨q1, q2, q3, q4⟩ := h
        have q2' : (decide (1 ≤ y1) && decide (y1 ≤ 7)) = true := q2
        rw [HST.out, q1, q2', decide_eq_true q3, q4, HSU.out]; rfl)
      have HNO : Hid (¬ (idI y0 = true ∧ inI y1 1 7 = true ∧ lv < y0 ∧ hasI ls y0 = false) → papOk hs ls = false) := Lib.hid (fun h => by
        have : holdGo ls 0 hs = false := by
          rw [HST.out]
          exact gate_no (b := inI y1 1 7) h
        simp [papOk, this])
      have hal : Below wr.heap.size wr (wr.alloc (.cells #[.int .i64 y0, .int .i64 y1] 88)) := (Below.refl _ _).alloc (Nat.le_refl _) _
      have P2 := P1.later hal
      have H2 : Blk (wr.alloc (.cells #[.int .i64 y0, .int .i64 y1] 88)) wr.heap.size 88 [.int .i64 y0, .int .i64 y1] := Blk.new _ _ _
      have HB2 := Lib.hid (below_trans hb hal)
      have hki : (k : Int) < (n : Int) := by omega
      clear hc0 hc1 hal P1 hb hbl hP
      go_wp2_with fail
      generalize wr.alloc (.cells #[.int .i64 y0, .int .i64 y1] 88) = w4 at *
      have x0 : ∀ p : BelW w4, p.W.cell? ⟨w.heap.size, 0, none⟩ = some (.slice (some ⟨b, o, none⟩) n c) := fun p => (P2.belw p).cellAt 0 (by simp)
      have x1 : ∀ p : BelW w4, p.W.cell? ⟨w.heap.size, 1, none⟩ = some (.slice LA m lc) := fun p => (P2.belw p).cellAt 1 (by simp)
      have d0 : ∀ p : BelW w4, p.W.cell? ⟨wr.heap.size, 0, none⟩ = some (.int .i64 y0) := fun p => (H2.belw p).cellAt 0 (by simp)
      have d1 : ∀ p : BelW w4, p.W.cell? ⟨wr.heap.size, 1, none⟩ = some (.int .i64 y1) := fun p => (H2.belw p).cellAt 1 (by simp)
      have HP2 := Lib.hid P2
      have hI := fun W => isId_any y0 W
      have hV := fun W => within_any y1 1 7 W
      have hC := fun W (hW : Below w4.heap.size w4 W) => contains_int LA m lc ls y0 W HLN.out (hrl.below (below_trans HB2.out hW)) (by omega)
      clear c0 c1 P2 H2 h0 h1
      
      cases hid : idI y0 with
      | false =>
        have HF := Lib.hid (HNO.out (by simp [hid]))
        rw [hid] at hI
        clear hid 
        refine wp_region_below (by kernel_rfl) (by kernel_rfl) ?_
        repeat (go_big_quiet_step ((first | (go_at_call 58; exact calls_same (hI _)) | (go_at_call 56; exact calls_same (hV _)) | (go_at_call 23; exact calls_same (hC _ (BelW.ok _))))))
        refine wpQuiet_nil ?_
        intro _ hw'
        obtain ⟨⟨wq, hbq⟩, hw''⟩ := hw'
        subst hw''
        have HBQ := Lib.hid (below_trans HB2.out hbq)
        clear hbq hI hV hC
        go_wp2_with fail
        go_ret
        exact ⟨by rw [HF.out]; rfl, HBQ.out⟩
      | true =>
        have HID := Lib.hid hid
        have hid1 : 1 ≤ y0 := (idI_iff2.1 hid).1
        rw [hid] at hI
        clear hid 
        cases hin : inI y1 1 7 with
        | false =>
          have HF := Lib.hid (HNO.out (by simp [hin]))
          rw [hin] at hV
          clear hin
          refine wp_region_below (by kernel_rfl) (by kernel_rfl) ?_
          repeat (go_big_quiet_step ((first | (go_at_call 58; exact calls_same (hI _)) | (go_at_call 56; exact calls_same (hV _)) | (go_at_call 23; exact calls_same (hC _ (BelW.ok _))))))
          refine wpQuiet_nil ?_
          intro _ hw'
          obtain ⟨⟨wq, hbq⟩, hw''⟩ := hw'
          subst hw''
          have HBQ := Lib.hid (below_trans HB2.out hbq)
          clear hbq hI hV hC
          go_wp2_with fail
          go_ret
          exact ⟨by rw [HF.out]; rfl, HBQ.out⟩
        | true =>
          have HIN := Lib.hid hin
          rw [hin] at hV
          clear hin
          by_cases hk0 : 0 < k
          · have hd0 : decide ((0 : Int) < (k : Int)) = true := decide_eq_true (by omega)
            have hpv := HPV.out hk0
            have hp : ∀ p : BelW w4, p.W.cell? ⟨b, o + (k - 1) * 2, none⟩ = some (.int .i64 lv) := fun p => (below_trans HB2.out p.ok).cell (p := ⟨b, o + (k - 1) * 2, none⟩) hl |>.trans hpv
            have ek : IntKind.i64.wrap ((k : Int) - 1) = ((k - 1 : Nat) : Int) := by rw [IntWalk.i64_in _ (by omega)]; omega
            have ek1 : (0 : Int) ≤ ((k - 1 : Nat) : Int) := by omega
            have ek2 : ((k - 1 : Nat) : Int) < (n : Int) := by omega
            clear hpv
            by_cases hle : y0 ≤ lv
            · have hd1 : decide (y0 ≤ lv) = true := decide_eq_true hle
              have HF := Lib.hid (HNO.out (by omega))
              refine wp_region_below (by kernel_rfl) (by kernel_rfl) ?_
              repeat (go_big_quiet_step ((first | (go_at_call 58; exact calls_same (hI _)) | (go_at_call 56; exact calls_same (hV _)) | (go_at_call 23; exact calls_same (hC _ (BelW.ok _))))))
              refine wpQuiet_nil ?_
              intro _ hw'
              obtain ⟨⟨wq, hbq⟩, hw''⟩ := hw'
              subst hw''
              have HBQ := Lib.hid (below_trans HB2.out hbq)
              clear hbq hI hV hC
              go_wp2_with fail
              go_ret
              exact ⟨by rw [HF.out]; rfl, HBQ.out⟩
            · have hd1 : decide (y0 ≤ lv) = false := decide_eq_false hle
              cases hh : hasI ls y0 with
              | true =>
                have HF := Lib.hid (HNO.out (by simp [hh]))
                rw [hh] at hC
                clear hh
                refine wp_region_below (by kernel_rfl) (by kernel_rfl) ?_
                repeat (go_big_quiet_step ((first | (go_at_call 58; exact calls_same (hI _)) | (go_at_call 56; exact calls_same (hV _)) | (go_at_call 23; exact calls_same (hC _ (BelW.ok _))))))
                refine wpQuiet_nil ?_
                intro _ hw'
                obtain ⟨⟨wq, hbq⟩, hw''⟩ := hw'
                subst hw''
                have HBQ := Lib.hid (below_trans HB2.out hbq)
                clear hbq hI hV hC
                go_wp2_with fail
                go_ret
                exact ⟨by rw [HF.out]; rfl, HBQ.out⟩
              | false =>
                have HG := Lib.hid (HGO.out ⟨HID.out, HIN.out, by omega, hh⟩)
                rw [hh] at hC
                clear hh
                refine wp_region_below (by kernel_rfl) (by kernel_rfl) ?_
                repeat (go_big_quiet_step ((first | (go_at_call 58; exact calls_same (hI _)) | (go_at_call 56; exact calls_same (hV _)) | (go_at_call 23; exact calls_same (hC _ (BelW.ok _))))))
                refine wpQuiet_nil ?_
                intro _ hw'
                obtain ⟨⟨wq, hbq⟩, hw''⟩ := hw'
                subst hw''
                have HBQ := Lib.hid (below_trans HB2.out hbq)
                have HPQ := Lib.hid (HP2.out.later hbq)
                clear hbq hI hV hC
                go_wp2_with fail
                go_roundw
                case rel => exact ⟨k + 1, by omega, by go_num, HG, HPQ.out, HBQ.out⟩
                case measure => simp [intOf]; omega
          · have hd0 : decide ((0 : Int) < (k : Int)) = false := decide_eq_false (by omega)
            have hlv : lv = 0 := HL0.out (by omega)
            have HLV := Lib.hid hlv
            have hll : lv < y0 := by omega
            clear hlv
            cases hh : hasI ls y0 with
            | true =>
              have HF := Lib.hid (HNO.out (by simp [hh]))
              rw [hh] at hC
              clear hh
              refine wp_region_below (by kernel_rfl) (by kernel_rfl) ?_
              repeat (go_big_quiet_step ((first | (go_at_call 58; exact calls_same (hI _)) | (go_at_call 56; exact calls_same (hV _)) | (go_at_call 23; exact calls_same (hC _ (BelW.ok _))))))
              refine wpQuiet_nil ?_
              intro _ hw'
              obtain ⟨⟨wq, hbq⟩, hw''⟩ := hw'
              subst hw''
              have HBQ := Lib.hid (below_trans HB2.out hbq)
              clear hbq hI hV hC
              go_wp2_with fail
              go_ret
              exact ⟨by rw [HF.out]; rfl, HBQ.out⟩
            | false =>
              have HG := Lib.hid (HGO.out ⟨HID.out, HIN.out, by omega, hh⟩)
              rw [hh] at hC
              clear hh
              refine wp_region_below (by kernel_rfl) (by kernel_rfl) ?_
              repeat (go_big_quiet_step ((first | (go_at_call 58; exact calls_same (hI _)) | (go_at_call 56; exact calls_same (hV _)) | (go_at_call 23; exact calls_same (hC _ (BelW.ok _))))))
              refine wpQuiet_nil ?_
              intro _ hw'
              obtain ⟨⟨wq, hbq⟩, hw''⟩ := hw'
              subst hw''
              have HBQ := Lib.hid (below_trans HB2.out hbq)
              have HPQ := Lib.hid (HP2.out.later hbq)
              clear hbq hI hV hC
              go_wp2_with fail
              go_roundw
              case rel => exact ⟨k + 1, by omega, by go_num, HG, HPQ.out, HBQ.out⟩
              case measure => simp [intOf]; omega
    · obtain rfl : n = k := by omega
      have HE : Hid (holdGo ls 0 hs = true) := Lib.hid (by rw [HJ.out, List.drop_of_length_le (by rw [HN.out]; exact Nat.le_refl _)]; rfl)
      have P1 := P1
      have hb := hb
      go_wp2_with fail
      go_loopw [5, 6, 52] (fun _ _ i wr => ∃ k : Nat, k ≤ m ∧ i = .int .i64 k ∧ Hid (leftGo 0 ls = leftGo (lastL ls k) (ls.drop k)) ∧ Blk wr w.heap.size 32 [.slice HA n c, .slice LA m lc] ∧ Below w.heap.size w wr) (fun _ _ i _ => m - (intOf i).toNat)
      case atStart => exact ⟨0, Nat.zero_le _, rfl, Lib.hid rfl, P1, hb⟩
      case round =>
        clear P1 hb c0 c1 hPlt HJ
        obtain ⟨k, hk, rfl, HJ, P1, hb⟩ := hrel
        have c0 := P1.cellAt 0 (by simp)
        have c1 := P1.cellAt 1 (by simp)
        simp only [List.getElem_cons_zero, List.getElem_cons_succ] at c0 c1
        have hPlt := P1.lt
        by_cases hlt : k < m
        · have hke : k < ls.length := by rw [HLN.out]; exact hlt
          have hkl : k < (ints ls).length := by rw [ints_len]; exact hke
          obtain ⟨b, o, rfl, hl, hcc⟩ := hrl.pos hkl
          have hc0 := hcc k hkl
          rw [ints_at] at hc0
          have HST := Lib.hid (leftGo_step hke HJ.out)
          have HPV : Hid (∀ (hk0 : 0 < k), w.cell? ⟨b, o + (k - 1), none⟩ = some (.int .i64 (lastL ls k))) := Lib.hid (fun hk0 => by
            have hk1 : k - 1 < (ints ls).length := by rw [ints_len]; omega
            have := hcc (k - 1) hk1
            rw [ints_at] at this
            rw [this, ← lastL_succ (show k - 1 < ls.length by omega), show k - 1 + 1 = k from by omega])
          have HL0 : Hid (k = 0 → lastL ls k = 0) := Lib.hid (fun e => by rw [e]; rfl)
          generalize lastL ls k = lv at *
          have HSU := Lib.hid (lastL_succ hke)
          generalize ls[k] = y0 at *
          have HGO : Hid (idI y0 = true ∧ lv < y0 → leftGo 0 ls = leftGo (lastL ls (k + 1)) (ls.drop (k + 1))) := Lib.hid (fun h => by
            obtain ⟨q1, q3⟩ := h
            rw [HST.out, q1, decide_eq_true q3, HSU.out]; rfl)
          have HNO : Hid (¬ (idI y0 = true ∧ lv < y0) → papOk hs ls = false) := Lib.hid (fun h => by
            have : leftGo 0 ls = false := by
              rw [HST.out]
              exact gate_no2 h
            simp [papOk, this])
          have hki : (k : Int) < (m : Int) := by omega
          have HB := Lib.hid hb
          have HP := Lib.hid P1
          have h0 : wr.cell? ⟨b, o + k, none⟩ = some (.int .i64 y0) := (hb.cell (p := ⟨b, o + k, none⟩) hl).trans hc0
          
          
          have hI := fun W => isId_any y0 W
          have hId : idI y0 = inI y0 1 999 := rfl
          clear hcc hc0
          cases hid : idI y0 with
          | false =>
            have HF := Lib.hid (HNO.out (by simp [hid]))
            rw [hid] at hI
            clear hid hId
            

            go_wp2_with fail
            refine (hI _).mono ?_
            rintro e w2 ⟨rfl, rfl⟩
            go_wp2_with fail
            go_ret
            exact ⟨by rw [HF.out]; rfl, HB.out⟩
          | true =>
            have HID := Lib.hid hid
            have hid1 : 1 ≤ y0 := (idI_iff2.1 hid).1
            rw [hid] at hI
            clear hid hId
            by_cases hk0 : 0 < k
            · have hd0 : decide ((0 : Int) < (k : Int)) = true := decide_eq_true (by omega)
              have hpv := (hb.cell (p := ⟨b, o + (k - 1), none⟩) hl).trans (HPV.out hk0)
              
              have ek : IntKind.i64.wrap ((k : Int) - 1) = ((k - 1 : Nat) : Int) := by rw [IntWalk.i64_in _ (by omega)]; omega
              have ek1 : (0 : Int) ≤ ((k - 1 : Nat) : Int) := by omega
              have ek2 : ((k - 1 : Nat) : Int) < (m : Int) := by omega
              by_cases hle : y0 ≤ lv
              · have hd1 : decide (y0 ≤ lv) = true := decide_eq_true hle
                have HF := Lib.hid (HNO.out (by omega))
                

                go_wp2_with fail
                refine (hI _).mono ?_
                rintro e w2 ⟨rfl, rfl⟩
                go_wp2_with fail
                go_ret
                exact ⟨by rw [HF.out]; rfl, HB.out⟩
              · have hd1 : decide (y0 ≤ lv) = false := decide_eq_false hle
                have HG := Lib.hid (HGO.out ⟨HID.out, by omega⟩)
                

                go_wp2_with fail
                refine (hI _).mono ?_
                rintro e w2 ⟨rfl, rfl⟩
                go_wp2_with fail
                go_roundw
                case rel => exact ⟨k + 1, by omega, by go_num, HG, HP.out, HB.out⟩
                case measure => simp [intOf]; omega
            · have hd0 : decide ((0 : Int) < (k : Int)) = false := decide_eq_false (by omega)
              have hlv : lv = 0 := HL0.out (by omega)
              have HG := Lib.hid (HGO.out ⟨HID.out, by omega⟩)
              clear hlv
              

              go_wp2_with fail
              refine (hI _).mono ?_
              rintro e w2 ⟨rfl, rfl⟩
              go_wp2_with fail
              go_roundw
              case rel => exact ⟨k + 1, by omega, by go_num, HG, HP.out, HB.out⟩
              case measure => simp [intOf]; omega
        · obtain rfl : m = k := by omega
          have HE2 : Hid (papOk hs ls = (decide ((n : Int) ≤ 12) && decide ((m : Int) ≤ 12))) := Lib.hid (by
            have : leftGo 0 ls = true := by rw [HJ.out, List.drop_of_length_le (by rw [HLN.out]; exact Nat.le_refl _)]; rfl
            simp only [papOk, HE.out, this, HN.out, HLN.out]; simp)
          have HB := Lib.hid hb
          cases h1 : decide ((n : Int) ≤ 12) with
          | false =>
            have HF : Hid (papOk hs ls = false) := Lib.hid (by rw [HE2.out, h1]; rfl)
            go_wp2_with fail
            go_ret
            exact ⟨by rw [HF.out]; rfl, HB.out⟩
          | true =>
            have HF : Hid (papOk hs ls = decide ((m : Int) ≤ 12)) := Lib.hid (by rw [HE2.out, h1]; rfl)
            go_wp2_with fail
            go_ret
            exact ⟨by rw [HF.out]; rfl, HB.out⟩
end Go.Proofs.YtbkfhcbecejomaaGreat
end
section
/- A terminal that may be read. -/
namespace Go.Proofs.YtbkfhcbecejomaaGreat
open Go Go.ChangeShapes Go.WideShapes Go.ChangeAt Go.RowKit
set_option linter.unusedVariables false
structure TrmRd (w : World) (YA BA PA HA LA : Option Addr) (yn bn bc pn pc hn ln : Nat) (rows : List (List Int)) (bs : List BoxV) (plan : List Int) (hs : List HoldV) (ls : List Int) : Prop where
  yl : rows.length = yn
  yr : RdRR w YA (intss rows)
  ym : yn ≤ 1048576
  bl : bs.length = bn
  br : RdV w BA (boxs bs)
  bm : bn ≤ 1048576
  bk : bn ≤ bc
  pl : plan.length = pn
  pr : RdV w PA (ints plan)
  pm : pn ≤ 1048576
  pk : pn ≤ pc
  px : pc ≤ 9223372036854775807
  hl : hs.length = hn
  hr : RdV w HA (holds hs)
  hm : hn ≤ 1048576
  ll : ls.length = ln
  lr : RdV w LA (ints ls)
  lm : ln ≤ 1048576
theorem TrmRd.below {w w' : World} {YA BA PA HA LA : Option Addr} {yn bn bc pn pc hn ln : Nat} {rows : List (List Int)} {bs : List BoxV} {plan : List Int} {hs : List HoldV} {ls : List Int} (h : TrmRd w YA BA PA HA LA yn bn bc pn pc hn ln rows bs plan hs ls) (hb : Below w.heap.size w w') : TrmRd w' YA BA PA HA LA yn bn bc pn pc hn ln rows bs plan hs ls :=
  ⟨h.yl, h.yr.below hb, h.ym, h.bl, h.br.below hb, h.bm, h.bk, h.pl, h.pr.below hb, h.pm, h.pk, h.px, h.hl, h.hr.below hb, h.hm, h.ll, h.lr.below hb, h.lm⟩
theorem idsA_all {high : Int} {rows : List (List Int)} (h : yardOk high rows = true) (f : Int → Bool) : (idsA high rows).all f = rows.flatten.all f := by
  unfold idsA
  rw [if_pos h]
  exact all_mem f (srtI_mem _)
theorem idsB_all {high : Int} {rows : List (List Int)} (h : yardOk high rows = true) (f : Int → Bool) : (idsB high rows).all f = rows.flatten.all f := by
  unfold idsB
  rw [if_pos h]
  exact all_mem f (insAll_mem _)
end Go.Proofs.YtbkfhcbecejomaaGreat
end
section
/- slices.Clone at []int, by the shelf's contract. -/




namespace Go.Proofs.YtbkfhcbecejomaaGreat

end Go.Proofs.YtbkfhcbecejomaaGreat
end
section
/- Rows of rows: an inner row is replaced by another. -/
namespace Go.Proofs.YtbkfhcbecejomaaGreat
open Go Go.ChangeShapes Go.WideShapes Go.ChangeAt Go.RowKit
theorem grown_set (w : World) (g i : Nat) (u : Value) : w.grownBy (w.setCell ⟨g, i, none⟩ u) (some g) :=
  ⟨rfl, rfl, rfl, by simp [World.setCell], fun k _ hn => Below.heap_setCell w ⟨g, i, none⟩ u k (by show k ≠ g; intro e; exact hn (by rw [e]))⟩
theorem own_kept' {w w' : World} {base : Nat} {e : TypeId} {size n : Nat} {u : Value} {xs : List Value} {row : Option Nat} (h : w.ownsRow base e size u n xs) (hg : w.grownBy w' row) (hne : ∀ g, u.ownBlock = some g → row ≠ some g) : w'.ownsRow base e size u n xs :=
  h.kept hg (by
    cases hb : u.ownBlock with
    | none => exact .inl rfl
    | some g => exact .inr fun e => hne g hb e.symm)
theorem OwnRR.put {w : World} {lo hi : Nat} {te ti : TypeId} {v : Value} {xss : List (List Value)} (h : OwnRR w lo hi te ti v xss) {i : Nat} (hi' : i < xss.length) :
    ∃ g c B c', v = .slice (some ⟨g, 0, none⟩) xss.length c ∧ lo ≤ g ∧ g < hi ∧ w.cell? ⟨g, i, none⟩ = some (.slice B (xss[i]).length c') ∧ w.frozen? ⟨g, i, none⟩ = false ∧ OwnI w lo hi ti 1 (.slice B (xss[i]).length c') (xss[i]).length xss[i] ∧ (∀ b, Value.ownBlock (.slice B (xss[i]).length c') = some b → b ≠ g) ∧
      ∀ (w2 : World) (u : Value) (ys : List Value), w.grownBy w2 (Value.ownBlock (.slice B (xss[i]).length c')) → w2.ownsRow lo ti 1 u ys.length ys → (u.ownBlock = Value.ownBlock (.slice B (xss[i]).length c') ∨ ∃ b, u.ownBlock = some b ∧ hi ≤ b) →
        OwnRR (w2.setCell ⟨g, i, none⟩ u) lo (w2.setCell ⟨g, i, none⟩ u).heap.size te ti v (xss.set i ys) ∧ Out lo hi w (w2.setCell ⟨g, i, none⟩ u) := by
  obtain ⟨hs, h1, h2, h3⟩ := h
  obtain ⟨u0, eu, hu, hne⟩ := h2 i hi'
  obtain ⟨B, c', rfl, _, _⟩ := own_slice hu.row
  have hl := h1.row.1
  rw [Nat.mul_one] at hl
  rcases own_form h1.row with ⟨_, h0, _⟩ | ⟨g, c, rfl, hg1, hg2, hg3⟩
  · omega
  have hgo : Value.ownBlock (.slice (some ⟨g, 0, none⟩) xss.length c) = some g := rfl
  have hgh := h1.lt g hgo
  refine ⟨g, c, B, c', rfl, hg1, hgh, ?_, h1.row.frozenAt i, hu, fun b hb e => hne b hb (by rw [e]; rfl), fun w2 u ys hgr hown hub => ?_⟩
  · rw [h1.row.cellAt i (by omega)]
    exact eu
  · generalize hu0 : Value.slice B (xss[i]).length c' = u0 at *
    have hneg : ∀ b, u.ownBlock = some b → b ≠ g := by
      intro b hb e
      rcases hub with hub | ⟨b', hb', hge⟩
      · rw [hub] at hb
        exact hne b hb (by rw [hgo, e])
      · rw [hb'] at hb
        injection hb with hb
        omega
    have hset := grown_set w2 g i u
    have hsz : (w2.setCell ⟨g, i, none⟩ u).heap.size = w2.heap.size := by simp [World.setCell]
    have ho1 : Out lo hi w w2 := out_of_grown hgr (fun b e => ⟨(hu.row.lt b e).1, hu.lt b e⟩)
    have ho : Out lo hi w (w2.setCell ⟨g, i, none⟩ u) := out_set ho1 g i u hg1 hgh
    have hrow2 := own_kept' h1.row hgr (fun b hb e => by rw [hgo] at hb; exact hne g (by rw [e, ← hb]) hgo)
    have hle := hgr.size
    refine ⟨⟨hs.set i u, ⟨?_, fun b hb => by rw [hsz]; have := h1.lt b hb; have := h1.top; omega, Nat.le_refl _⟩, fun j hj => ?_, fun a b x y d hab hx hy hd e => ?_⟩, ho⟩
    · have := (hrow2.stored i u).1
      rw [List.length_set]
      exact this
    · rw [List.length_set] at hj
      by_cases hij : i = j
      · subst hij
        rw [List.getElem_set_self]
        refine ⟨u, ?_, ⟨own_kept' hown hset (fun b hb e => hneg b hb (by injection e with e; exact e.symm)), fun b hb => ?_, Nat.le_refl _⟩, fun b hb e => hneg b hb (by rw [hgo] at e; injection e with e; exact e.symm)⟩
        · rw [List.getElem?_set_self (by omega)]
        · rw [hsz]; exact (hown.lt b hb).2
      · rw [List.getElem_set_ne hij]
        obtain ⟨u2, e2, hu2, hne2⟩ := h2 j hj
        refine ⟨u2, by rw [List.getElem?_set_ne hij]; exact e2, ⟨?_, fun b hb => by rw [hsz]; have := hu2.lt b hb; have := hu2.top; omega, Nat.le_refl _⟩, hne2⟩
        refine own_kept' (own_kept' hu2.row hgr (fun b hb e => ?_)) hset (fun b hb e => hne2 b hb (by rw [hgo]; exact e))
        rcases Nat.lt_or_gt_of_ne hij with hlt | hgt
        · exact h3 i j _ _ b hlt eu e2 e hb
        · exact h3 j i _ _ b hgt e2 eu hb e
    · have ha : a < hs.length := by have := (List.getElem?_eq_some_iff.1 hx).1; rwa [List.length_set] at this
      have hb : b < hs.length := by have := (List.getElem?_eq_some_iff.1 hy).1; rwa [List.length_set] at this
      have old : ∀ (j : Nat) (z : Value), hs[j]? = some z → ∀ d, z.ownBlock = some d → d < hi := by
        intro j z hz d hd
        have hj : j < xss.length := by rw [← hl]; exact (List.getElem?_eq_some_iff.1 hz).1
        obtain ⟨z', ez, hz', _⟩ := h2 j hj
        rw [hz] at ez
        injection ez with ez
        rw [ez] at hd
        exact hz'.lt d hd
      by_cases hia : i = a
      · subst hia
        rw [List.getElem?_set_self ha] at hx
        injection hx with hx
        subst hx
        rw [List.getElem?_set_ne (by omega)] at hy
        rcases hub with hub | ⟨b', hb', hge⟩
        · rw [hub] at hd
          exact h3 i b _ _ d hab eu hy hd e
        · rw [hb'] at hd
          injection hd with hd
          have := old b y hy d e
          omega
      · rw [List.getElem?_set_ne hia] at hx
        by_cases hib : i = b
        · subst hib
          rw [List.getElem?_set_self hb] at hy
          injection hy with hy
          subst hy
          rcases hub with hub | ⟨b', hb', hge⟩
          · rw [hub] at e
            exact h3 a i _ _ d hab hx eu hd e
          · rw [hb'] at e
            injection e with e
            have := old a x hx d hd
            omega
        · rw [List.getElem?_set_ne hib] at hy
          exact h3 a b x y d hab hx hy hd e
/-- an inner row's own cell is turned -/
theorem OwnRR.turn {w : World} {lo hi : Nat} {te ti : TypeId} {v : Value} {xss : List (List Value)} (h : OwnRR w lo hi te ti v xss) {i j : Nat} (hi' : i < xss.length) (hj : j < (xss[i]).length) (x : Value) :
    ∃ g c b c', v = .slice (some ⟨g, 0, none⟩) xss.length c ∧ lo ≤ g ∧ g < w.heap.size ∧ lo ≤ b ∧ b < w.heap.size ∧ w.cell? ⟨g, i, none⟩ = some (.slice (some ⟨b, 0, none⟩) (xss[i]).length c') ∧ w.cell? ⟨b, j, none⟩ = some ((xss[i])[j]) ∧ w.frozen? ⟨b, j, none⟩ = false ∧
      OwnRR (w.setCell ⟨b, j, none⟩ x) lo hi te ti v (xss.set i ((xss[i]).set j x)) ∧ Out lo hi w (w.setCell ⟨b, j, none⟩ x) := by
  obtain ⟨A, c, B, c', rfl, hu, ⟨g, rfl, hg2, hc, hf⟩, hput⟩ := h.row hi'
  obtain ⟨hs, h1, _, _⟩ := h
  have hg1 := (h1.row.lt g rfl).1
  rcases own_form hu.row with ⟨e, h0, _⟩ | ⟨b, c2, e, hb1, hb2, hb3⟩
  · omega
  · injection e with e1 e2 e3
    subst e1
    refine ⟨g, c, b, c', rfl, hg1, hg2, hb1, hb2, hc, ?_, hu.row.frozenAt j, ?_⟩
    · have := hu.row.cellAt j (by rw [Nat.mul_one]; exact hj)
      rw [this, List.getElem?_eq_getElem hj]
    · obtain ⟨s1, s2⟩ := hu.row.stored j x
      exact hput _ _ (by simp) s1 s2
end Go.Proofs.YtbkfhcbecejomaaGreat
end
section
/- Yards: copying. -/
namespace Go.Proofs.YtbkfhcbecejomaaGreat
open Go Go.ChangeShapes Go.WideShapes Go.ChangeAt Go.RowKit
set_option linter.unusedVariables false
theorem own_snoc2 {w w' : World} {lo hi : Nat} {te ti : TypeId} {v v' u : Value} {xss : List (List Value)} {ys hs : List Value} (h1 : OwnI w lo hi te 1 v xss.length hs)
    (h2 : ∀ i (h : i < xss.length), ∃ u, hs[i]? = some u ∧ OwnI w lo hi ti 1 u (xss[i]).length xss[i] ∧ (∀ g, u.ownBlock = some g → v.ownBlock ≠ some g))
    (h3 : ∀ (i j : Nat) (u u' : Value) (g : Nat), i < j → hs[i]? = some u → hs[j]? = some u' → u.ownBlock = some g → u'.ownBlock ≠ some g)
    (hu : w.ownsRow lo ti 1 u ys.length ys) (hge : ∀ g, u.ownBlock = some g → hi ≤ g)
    (hown : w'.ownsRow lo te 1 v' (xss.length + 1) (hs ++ [u])) (hg : w.grownBy w' v.ownBlock) (hb : v'.ownBlock = v.ownBlock ∨ ∃ b, v'.ownBlock = some b ∧ w.heap.size ≤ b) :
    OwnRR w' lo w'.heap.size te ti v' (xss ++ [ys]) := by
  have hl := h1.row.1
  rw [Nat.mul_one] at hl
  have hvu : ∀ g, u.ownBlock = some g → v.ownBlock ≠ some g := fun g e e2 => by have := hge g e; have := h1.lt g e2; omega
  refine ⟨hs ++ [u], ⟨by rw [List.length_append]; exact hown, fun g e => (hown.lt g e).2, Nat.le_refl _⟩, fun i hi' => ?_, fun i j a b g hij ha hb' hga => ?_⟩
  · rw [List.length_append, List.length_singleton] at hi'
    by_cases hlt : i < xss.length
    · obtain ⟨a, ea, ha, hne⟩ := h2 i hlt
      rw [List.getElem_append_left hlt]
      refine ⟨a, by rw [List.getElem?_append_left (by omega)]; exact ea, ⟨ha.row.kept hg ?_, fun g e => Nat.lt_of_lt_of_le (ha.lt g e) (Nat.le_trans ha.top hg.size), Nat.le_refl _⟩, fun g e => ?_⟩
      · cases hab : a.ownBlock with
        | none => exact .inl rfl
        | some g => exact .inr fun e => hne g hab e.symm
      · rcases hb with h | ⟨b', h, hb'⟩
        · rw [h]; exact hne g e
        · rw [h]
          have := ha.lt g e
          have := ha.top
          simp
          omega
    · obtain rfl : i = xss.length := by omega
      have e1 : (xss ++ [ys])[xss.length]'(by simp) = ys := by simp
      rw [e1]
      refine ⟨u, by rw [List.getElem?_append_right (by omega), hl, Nat.sub_self]; rfl, ⟨hu.kept hg ?_, fun g e => Nat.lt_of_lt_of_le (hu.lt g e).2 hg.size, Nat.le_refl _⟩, fun g e => ?_⟩
      · cases hab : u.ownBlock with
        | none => exact .inl rfl
        | some g => exact .inr fun e => hvu g hab e.symm
      · rcases hb with h | ⟨b', h, hb'⟩
        · rw [h]; exact hvu g e
        · rw [h]
          have := (hu.lt g e).2
          simp
          omega
  · by_cases hjl : j < xss.length
    · rw [List.getElem?_append_left (by omega)] at ha
      rw [List.getElem?_append_left (by omega)] at hb'
      exact h3 i j a b g hij ha hb' hga
    · have hj2 : j < (hs ++ [u]).length := (List.getElem?_eq_some_iff.1 hb').1
      rw [List.length_append, List.length_singleton] at hj2
      obtain rfl : j = xss.length := by omega
      rw [List.getElem?_append_left (by omega)] at ha
      rw [List.getElem?_append_right (by omega), hl, Nat.sub_self] at hb'
      simp at hb'
      subst hb'
      intro e
      obtain ⟨a', ea, ha', _⟩ := h2 i (by omega)
      rw [ha] at ea
      injection ea with ea
      rw [← ea] at ha'
      have := ha'.lt g hga
      have := hge g e
      omega
/-- a yard in memory of the call's own -/
def YardOut (w : World) (high : Int) (n : Nat) (rows : List (List Int)) : Ending → World → Prop :=
  RVal fun u w' => ∃ A c, u = .agg #[.int .i64 high, .slice A n c] ∧ OwnRR w' w.heap.size w'.heap.size 29 3 (.slice A n c) (intss rows) ∧ Below w.heap.size w w'

theorem ints_infoD : Info Tryz.prog 29 (.slice none 0 0) 1 24 := Info.mk' ints_info rfl (by decide) (by decide)

theorem intss_snoc {rows : List (List Int)} {k : Nat} (h : k < rows.length) : intss (rows.take (k + 1)) = intss (rows.take k) ++ [ints rows[k]] := by
  rw [List.take_succ_eq_append_getElem h, intss_app]; rfl
theorem below_freshY {w W w' : World} {row : Option Nat} (hg : W.grownBy w' row) (hb : Below w.heap.size w W) (hr : row = some w.heap.size) : Below w.heap.size w w' :=
  ⟨hg.os.trans hb.os, hg.tape.trans hb.tape, hg.output.trans hb.output, Nat.le_trans hb.size hg.size, fun i hi => (hg.block i (Nat.lt_of_lt_of_le hi hb.size) (fun e => by rw [hr] at e; injection e with e; omega)).trans (hb.block i hi)⟩
/-- a row of its own is put behind the others -/
theorem OwnRR.add {wr : World} {lo : Nat} {te ti : TypeId} {v : Value} {xss : List (List Value)} (h : OwnRR wr lo wr.heap.size te ti v xss) (hlo : lo ≤ wr.heap.size) :
    ∃ hs, ∀ (w5 : World) (u : Value) (ys : List Value), Below wr.heap.size wr w5 → w5.ownsRow wr.heap.size ti 1 u ys.length ys →
      (w5.alloc (.cells #[u] te)).ownsRow lo te 1 v xss.length hs ∧ Blk (w5.alloc (.cells #[u] te)) w5.heap.size te [u] ∧
      ∀ (v' : Value) (w7 : World), w7.ownsRow lo te 1 v' (xss.length + 1) (hs ++ [u]) → (w5.alloc (.cells #[u] te)).grownBy w7 v.ownBlock → (v'.ownBlock = v.ownBlock ∨ v'.ownBlock = some (w5.alloc (.cells #[u] te)).heap.size) →
        OwnRR w7 lo w7.heap.size te ti v' (xss ++ [ys]) ∧ Out lo wr.heap.size wr w7 := by
  obtain ⟨hs, h1, h2, h3⟩ := h
  refine ⟨hs, fun w5 u ys hb hu => ?_⟩
  have hal : Below w5.heap.size w5 (w5.alloc (.cells #[u] te)) := (Below.refl _ _).alloc (Nat.le_refl _) _
  have hba := below_trans hb hal
  have h1' := h1.later hba
  refine ⟨h1'.row, Blk.new _ _ _, fun v' w7 hown hg hbk => ?_⟩
  refine ⟨own_snoc2 h1' (fun i hi => ?_) h3 (own_base (own_later hu hal) hlo) (fun g e => (hu.lt g e).1) hown hg (hbk.imp id fun e => ⟨_, e, Nat.le_refl _⟩), ?_⟩
  · obtain ⟨a, ea, ha, hne⟩ := h2 i hi
    exact ⟨a, ea, ha.later hba, hne⟩
  · exact (Below.out hba _ _).trans (out_of_grown hg (fun g e => ⟨(h1.row.lt g e).1, h1.lt g e⟩))
/-- the copy so far -/
def YCut (w : World) (q : Nat) (high : Int) (k : Nat) (X : List (List Value)) (wx : World) : Prop :=
  ∃ A c, Blk wx q 25 [.int .i64 high, .slice A k c] ∧ OwnRR wx (q + 1) wx.heap.size 29 3 (.slice A k c) X ∧ q + 1 ≤ wx.heap.size ∧ Below w.heap.size w wx
theorem ycut_store {w wr w7 : World} {q k : Nat} {high : Int} {A1 A7 : Option Addr} {c1 c7 : Nat} {X : List (List Value)} (hq : w.heap.size ≤ q) (hb : Below w.heap.size w wr) (hP : Blk wr q 25 [.int .i64 high, .slice A1 k c1]) (hO : OwnRR w7 (q + 1) w7.heap.size 29 3 (.slice A7 (k + 1) c7) X) (ho : Out (q + 1) wr.heap.size wr w7) :
    YCut w q high (k + 1) X (w7.setCell ⟨q, 1, none⟩ (.slice A7 (k + 1) c7)) := by
  have hP7 : Blk w7 q 25 [.int .i64 high, .slice A1 k c1] := (ho.block q hP.lt (.inl (by omega))).trans hP
  have hs := hP7.lt
  refine ⟨A7, c7, hP7.set_ 1 _, ?_, ?_, ?_⟩
  · exact hO.set_far q 1 _ (by omega) (Nat.le_refl _)
  · simp [World.setCell]; omega
  · exact (below_out hb ho (by omega)).setCell hq _
end Go.Proofs.YtbkfhcbecejomaaGreat
end
section
/- Yards: the reference's copying. -/
namespace Go.Proofs.YtbkfhcbecejomaaGreat
open Go Go.ChangeShapes Go.WideShapes Go.ChangeAt Go.RowKit
set_option linter.unusedVariables false
set_option maxHeartbeats 4000000 in
theorem specCopy (high : Int) (A : Option Addr) (n c : Nat) (rows : List (List Int)) (w : World) (hn : rows.length = n) (hr : RdRR w A (intss rows)) (hm : n ≤ 1048576) (hin : ∀ s ∈ rows, s.length ≤ 1048576) :
    Calls Tryz.prog 102 #[.agg #[.int .i64 high, .slice A n c]] w (YardOut w high n rows) := by
  have HN := Lib.hid hn
  have HIN := Lib.hid hin
  clear hn hin
  go_enter Tryz.func102, Tryz.ntmps102
  go_wp2_with fail
  go_loopw [4] (fun i wr => ∃ (k : Nat), k ≤ n ∧ i = .int .i64 k ∧ Blk wr w.heap.size 25 [.int .i64 high, .slice A n c] ∧ Blk wr (w.heap.size + 1) 25 [.int .i64 0, .slice none 0 0] ∧ YCut w (w.heap.size + 1 + 1) high k (intss (rows.take k)) wr) (fun i _ => n - (intOf i).toNat)
  case atStart =>
    refine ⟨0, Nat.zero_le _, rfl, ?_, ?_, none, 0, ?_, ?_, ?_, ?_⟩
    · exact ((Blk.new _ _ _).alloc _).alloc _
    · have := Blk.new (w.alloc (.cells #[.int .i64 high, .slice A n c] 25)) 25 [.int .i64 0, .slice none 0 0]
      simp only [World.size_alloc] at this
      exact this.alloc _
    · have := Blk.new ((w.alloc (.cells #[.int .i64 high, .slice A n c] 25)).alloc (.cells #[.int .i64 0, .slice none 0 0] 25)) 25 [.int .i64 high, .slice none 0 0]
      simp only [World.size_alloc] at this
      exact this
    · exact ownRR_none _ _ _ _
    · simp
    · exact (((Below.refl _ _).alloc (Nat.le_refl _) _).alloc (by simp) _).alloc (by simp; omega) _
  case round =>
    obtain ⟨k, hk, rfl, hS0, hR0, A1, c1, P1, hO, hsz, hb⟩ := hrel
    have s0 := hS0.cellAt 0 (by simp)
    have s1 := hS0.cellAt 1 (by simp)
    simp only [List.getElem_cons_zero, List.getElem_cons_succ] at s0 s1
    have HS0 := Lib.hid hS0
    have hS0lt := hS0.lt
    have c0 := P1.cellAt 0 (by simp)
    have c1' := P1.cellAt 1 (by simp)
    simp only [List.getElem_cons_zero, List.getElem_cons_succ] at c0 c1'
    have hPlt := P1.lt
    have HR0 := Lib.hid hR0
    by_cases hlt : k < n
    · have hkz : k < rows.length := by rw [HN.out]; exact hlt
      have hkl : k < (intss rows).length := by rw [intss_len]; exact hkz
      obtain ⟨b, o, rfl, hl0, B, c', hcell0, hle, hmx, hrB0⟩ := hr.pos hkl
      have hl : b < wr.heap.size := Nat.lt_of_lt_of_le hl0 hb.size
      have hcell := (hb.cell (p := ⟨b, o + k, none⟩) hl0).trans hcell0
      have hrB := hrB0.below hb
      rw [intss_at] at hrB
      simp only [intss_at, ints_len] at hcell
      have HSN := Lib.hid (intss_snoc hkz)
      have hzl := HIN.out rows[k] (List.getElem_mem hkz)
      have hxl : (intss (rows.take k)).length = k := by rw [intss_len, List.length_take]; omega
      generalize rows[k] = zs at *
      generalize hz : zs.length = p at *
      have HZ := Lib.hid hz
      generalize intss (rows.take k) = X at *
      have hki : (k : Int) < (n : Int) := by omega
      have e1 : IntKind.i64.wrap ((k : Int) + 1) = (k : Int) + 1 := IntWalk.i64_in _ (by omega)
      obtain ⟨hs, hadd⟩ := hO.add hsz
      rw [hxl] at hadd
      have HADD := Lib.hid hadd
      have HP1 := Lib.hid P1
      have HR := Lib.hid hr
      have HB := Lib.hid hb
      have HRB := Lib.hid hrB
      have hil : (ints zs).length = p * 1 := by rw [ints_len, HZ.out, Nat.mul_one]
      have HIL := Lib.hid hil
      have hone := Lib.hid (ints_one zs)
      clear hz hcell0 hrB0 hl0 hle hmx hr P1 hO hb hrB hadd hR0 hS0 hil
      go_upto_region 5 with fail
      go_region_law (first
        | (refine step_append_src rfl (.tmp 17) (.tmp 22) 29 rfl 3 _ _ _ Tryz.underlying29 int_infoY wr.heap.size (wr.drew.alloc (.cells #[] 3)) (.slice (some ⟨wr.heap.size, 0, none⟩) 0 0) 0 [] rfl (own_of_blk (cs := []) (Blk.new _ _ _) (Nat.le_refl _) rfl (by decide)) B p c' (ints zs) rfl HIL.out (HRB.out.below (Below.drew ((Below.refl _ _).alloc (Nat.le_refl _) _))) hone.out (by omega) (by simp) ?_
           intro v5 w5 hown5 hg5 hb5
           rw [Nat.zero_add, List.nil_append] at hown5
           obtain ⟨Au, cu, rfl, _, _⟩ := own_slice hown5
           have kb : Below wr.heap.size wr w5 := below_freshY hg5 (Below.drew ((Below.refl _ _).alloc (Nat.le_refl _) _)) rfl
           obtain ⟨ka, kblk, kfin⟩ := HADD.out w5 (.slice Au p cu) (ints zs) kb (by rw [ints_len, HZ.out]; exact hown5)
           have d5 := (HP1.out.later kb).cellAt 1 (by simp)
           have d6 := ((HP1.out.later kb).alloc (.cells #[.slice Au p cu] 29)).cellAt 1 (by simp)
           simp only [List.getElem_cons_zero, List.getElem_cons_succ] at d5 d6
           have KA := Lib.hid ka
           have KBLK := Lib.hid kblk
           have KFIN := Lib.hid kfin
           have hs5 : w.heap.size + 1 + 1 + 1 ≤ (w5.alloc (.cells #[.slice Au p cu] 29)).heap.size := by have := kb.size; simp; omega
           clear ka kblk kfin hown5 hg5 hb5)
        | (refine step_append_src rfl (.tmp 16) (.tmp 24) 23 rfl 29 _ _ _ Tryz.underlying23 ints_infoD (w.heap.size + 1 + 1 + 1) (w5.alloc (.cells #[.slice Au p cu] 29)) (.slice A1 k c1) k hs rfl KA.out (some ⟨w5.heap.size, 0, none⟩) 1 1 [.slice Au p cu] rfl rfl KBLK.out.rd (by simp [Value.oneCell']) (by omega) hs5 ?_
           intro v7 w7 hown7 hg7 hb7
           obtain ⟨A7, c7, rfl, _, _⟩ := own_slice hown7
           obtain ⟨m1, m2⟩ := KFIN.out _ w7 hown7 hg7 hb7
           have P7 : Blk w7 (w.heap.size + 1 + 1) 25 [.int .i64 high, .slice A1 k c1] := (m2.block _ hPlt (.inl (Nat.lt_succ_self _))).trans HP1.out
           have f7 := P7.frozen 1
           have d7 := P7.cellAt 1 (by simp)
           simp only [List.getElem_cons_zero, List.getElem_cons_succ] at d7
           have M1 := Lib.hid m1
           have M2 := Lib.hid m2
           clear m1 m2 hown7 hg7 hb7 P7))
      all_goals
        have hyc := ycut_store (k := k) (Nat.le_trans (Nat.le_succ _) (Nat.le_succ _)) HB.out HP1.out M1.out M2.out
        rw [← HSN.out] at hyc
        have hr7 : Blk w7 (w.heap.size + 1) 25 [.int .i64 0, .slice none 0 0] := (M2.out.block _ (Nat.lt_trans (Nat.lt_succ_self _) hPlt) (.inl (by omega))).trans HR0.out
        have hs7 := (M2.out.block _ hS0lt (.inl (by omega))).trans HS0.out
        have HS7 : Hid (Blk (w7.setCell ⟨w.heap.size + 1 + 1, 1, none⟩ (.slice A7 (k + 1) c7)) w.heap.size 25 [.int .i64 high, .slice (some ⟨b, o, none⟩) n c]) := Lib.hid (Blk.far (w := w7) hs7 (by show w.heap.size ≠ w.heap.size + 1 + 1; omega) _)
        have HYC := Lib.hid hyc
        have HR7 : Hid (Blk (w7.setCell ⟨w.heap.size + 1 + 1, 1, none⟩ (.slice A7 (k + 1) c7)) (w.heap.size + 1) 25 [.int .i64 0, .slice none 0 0]) := Lib.hid (hr7.far (by show w.heap.size + 1 ≠ w.heap.size + 1 + 1; omega) _)
        clear hyc hr7 hs7
        go_wp2_with fail
        go_roundw
        case rel => exact ⟨k + 1, by omega, by go_num, HS7.out, HR7.out, HYC.out⟩
        case measure => simp [intOf]; omega
    · obtain rfl : k = n := by omega
      have htl : rows.take k = rows := List.take_of_length_le (by rw [HN.out]; exact Nat.le_refl _)
      rw [htl] at hO
      clear htl
      have hq7 := P1.lt
      have r0 := HR0.out.cellAt 0 (by simp)
      have r1 := HR0.out.cellAt 1 (by simp)
      have f0 := HR0.out.frozen 0
      have f1 := HR0.out.frozen 1
      simp only [List.getElem_cons_zero, List.getElem_cons_succ] at r0 r1
      go_wp2_with fail
      have hR := (HR0.out.set_ 0 (.int .i64 high)).set_ 1 (.slice A1 k c1)
      have z0 := hR.cellAt 0 (by simp)
      have z1 := hR.cellAt 1 (by simp)
      simp only [List.set_cons_zero, List.set_cons_succ, List.getElem_cons_zero, List.getElem_cons_succ] at z0 z1
      refine bodyPost_ret (v := .agg #[.int .i64 high, .slice A1 k c1]) (by simp [results, Tryz.results102, go_sem, z0, z1]) rfl ?_
      have ho : Out w.heap.size (w.heap.size + 3) wr ((wr.setCell ⟨w.heap.size + 1, 0, none⟩ (.int .i64 high)).setCell ⟨w.heap.size + 1, 1, none⟩ (.slice A1 k c1)) := out_set (out_set (Out.refl _ _ _) _ _ _ (by omega) (by omega)) _ _ _ (by omega) (by omega)
      exact RVal.mk ⟨A1, c1, rfl, ((hO.out ho (.inr (by omega))).hi ho.size (Nat.le_refl _)).base (by omega), below_out hb ho (Nat.le_refl _)⟩
end Go.Proofs.YtbkfhcbecejomaaGreat
end
