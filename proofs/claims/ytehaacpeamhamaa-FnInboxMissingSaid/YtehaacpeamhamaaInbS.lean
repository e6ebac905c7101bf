/- The reference's InboxValid returns the plain word. -/
import Derived.Test.YtehaacpeamhamaaInbI
namespace Go.Proofs.Ytehaacpeamhamaa
open Go Go.ChangeShapes Go.WideShapes Go.ChangeAt Go.RowKit
set_option maxHeartbeats 4000000 in
theorem specInboxValid (next : Int) (A : Option Addr) (n c : Nat) (held : List MessageV) (w : World) (hn : held.length = n) (hr : RdV w A (messages held)) (hm : n ≤ 9223372036854775807) :
    Calls Try.prog 15 #[.agg #[.int .i64 next, .slice A n c]] w fun e w' => e = .returned (.bool (inbOk next held)) ∧ Below w.heap.size w w' := by
  have HN := Lib.hid hn
  clear hn
  have hbl : Below w.heap.size w (w.alloc (.cells #[.int .i64 next, .slice A n c] 25)) := (Below.refl _ _).alloc (Nat.le_refl _) _
  have hP : Blk (w.alloc (.cells #[.int .i64 next, .slice A n c] 25)) w.heap.size 25 [.int .i64 next, .slice A n c] := Blk.new _ _ _
  by_cases hin : 1 ≤ next ∧ next ≤ 999
  · obtain ⟨hn1, hn9⟩ := hin
    have HOK : Hid (inbOk next held = inbGo next next held) := Lib.hid (inbOk_in hn1 hn9)
    go_enter Try.func15, Try.ntmps15
    go_wp2_with fail
    refine (l1In_true _ _ _ _ hn1 hn9).mono ?_
    rintro e w' ⟨rfl, rfl⟩
    go_wp2_with fail
    go_loopw [3, 4] (fun i _ wr => ∃ (k : Nat) (lv : Int), k ≤ n ∧ i = .int .i64 k ∧ next ≤ lv ∧ lv ≤ 1005 ∧ Hid (lv = lastAt next held k) ∧ Hid (inbGo next next held = inbGo next (lastAt next held k) (held.drop k)) ∧ Blk wr w.heap.size 25 [.int .i64 next, .slice A n c] ∧ Below w.heap.size w wr) (fun i _ _ => n - (intOf i).toNat)
    case atStart => exact ⟨0, next, Nat.zero_le _, rfl, by omega, by omega, Lib.hid rfl, Lib.hid rfl, hP, hbl⟩
    case round =>
      obtain ⟨k, lv, hk, rfl, hl1, hl2, HLV, HGO, P1, hb⟩ := hrel
      have c0 := P1.cellAt 0 (by simp)
      have c1 := P1.cellAt 1 (by simp)
      simp only [List.getElem_cons_zero, List.getElem_cons_succ] at c0 c1
      have hPlt := P1.lt
      by_cases hlt : k < n
      · have hke : k < held.length := by rw [HN.out]; exact hlt
        obtain ⟨b, o, rfl, hl, hc0, hc1⟩ := hr.messageAt hke
        have h0 : wr.cell? ⟨b, o + k * 2, none⟩ = some (.int .i64 (held[k]).f0) := (hb.cell (p := ⟨b, o + k * 2, none⟩) hl).trans hc0
        have h1 : wr.cell? ⟨b, o + k * 2 + 1, none⟩ = some (.int .i64 (held[k]).f1) := (hb.cell (p := ⟨b, o + k * 2 + 1, none⟩) hl).trans hc1
        have HGO2 : Hid (lv + 1 ≤ (held[k]).f0 → (held[k]).f0 ≤ next + 6 → 1 ≤ (held[k]).f1 → (held[k]).f1 ≤ 999 → inbGo next next held = inbGo next (lastAt next held (k + 1)) (held.drop (k + 1))) := Lib.hid (by rw [HLV.out]; exact inb_go hke HGO.out)
        have HNO : Hid (¬ (lv + 1 ≤ (held[k]).f0 ∧ (held[k]).f0 ≤ next + 6 ∧ 1 ≤ (held[k]).f1 ∧ (held[k]).f1 ≤ 999) → inbOk next held = false) := Lib.hid (fun h => by rw [HOK.out]; exact inb_no hke HGO.out (by rw [← HLV.out]; exact h))
        have HSU := Lib.hid (lastAt_succ (next := next) hke)
        have HPV : Hid (∀ (hk0 : 0 < k), wr.cell? ⟨b, o + (k - 1) * 2, none⟩ = some (.int .i64 lv)) := Lib.hid (fun hk0 => by
          obtain ⟨b', o', e', _, hp0, _⟩ := hr.messageAt (show k - 1 < held.length by omega)
          injection e' with e'
          injection e' with e1 e2
          subst e1 e2
          have e3 : lv = (held[k - 1]'(by omega)).f0 := by
            rw [HLV.out, ← lastAt_succ (next := next) (show k - 1 < held.length by omega), show k - 1 + 1 = k from by omega]
          rw [e3]
          exact (hb.cell (p := ⟨b, o + (k - 1) * 2, none⟩) hl).trans hp0)
        generalize held[k] = x at *
        obtain ⟨xn, xi⟩ := x
        dsimp only at h0 h1 HGO2 HNO HSU
        have hal : Below wr.heap.size wr (wr.alloc (.cells #[.int .i64 xn, .int .i64 xi] 35)) := (Below.refl _ _).alloc (Nat.le_refl _) _
        have P2 := P1.later hal
        have HB2 := Lib.hid (hb.trans (hal.mono hb.size))
        have HP2 := Lib.hid P2
        have d0 := P2.cellAt 0 (by simp)
        have d1 := P2.cellAt 1 (by simp)
        simp only [List.getElem_cons_zero, List.getElem_cons_succ] at d0 d1
        have hki : (k : Int) < (n : Int) := by omega
        have hbw : b < wr.heap.size := Nat.lt_of_lt_of_le hl hb.size
        clear hc0 hc1 P2 P1 hb hbl hP
        by_cases hi : 1 ≤ xi ∧ xi ≤ 999
        · have hcI : ∀ w0 : World, Calls Try.prog 27 #[.int .i64 xi, .int .i64 1, .int .i64 999] w0 fun r w' => r = .returned (.bool true) ∧ w' = w0 := fun w0 => (l1In_true _ _ _ w0 hi.1 hi.2).mono (fun _ _ h => ⟨h.1, h.2.symm⟩)
          have e1 : IntKind.i64.wrap (next + 1) = next + 1 := IntWalk.i64_in _ (by omega)
          have e6 : IntKind.i64.wrap (next + 6) = next + 6 := IntWalk.i64_in _ (by omega)
          by_cases hr1 : next + 1 ≤ xn ∧ xn ≤ next + 6
          · have hcN : ∀ w0 : World, Calls Try.prog 27 #[.int .i64 xn, .int .i64 (next + 1), .int .i64 (next + 6)] w0 fun r w' => r = .returned (.bool true) ∧ w' = w0 := fun w0 => (l1In_true _ _ _ w0 hr1.1 hr1.2).mono (fun _ _ h => ⟨h.1, h.2.symm⟩)
            by_cases hk0 : 0 < k
            · have hpv := HPV.out hk0
              have hpv2 : (wr.alloc (.cells #[.int .i64 xn, .int .i64 xi] 35)).cell? ⟨b, o + (k - 1) * 2, none⟩ = some (.int .i64 lv) := (hal.cell (p := ⟨b, o + (k - 1) * 2, none⟩) hbw).trans hpv
              have ek : IntKind.i64.wrap ((k : Int) - 1) = ((k - 1 : Nat) : Int) := by rw [IntWalk.i64_in _ (by omega)]; omega
              have ek1 : (0 : Int) ≤ ((k - 1 : Nat) : Int) := by omega
              have ek2 : ((k - 1 : Nat) : Int) < (n : Int) := by omega
              have hd0 : decide ((0 : Int) < (k : Int)) = true := by simp; omega
              have hb1 := hr1.1
              have hb2 := hr1.2
              have hb3 := hi.1
              have hb4 := hi.2
              clear hi hr1
              by_cases hge : xn ≤ lv
              · have hd1 : decide (xn ≤ lv) = true := decide_eq_true hge
                have HF := Lib.hid (HNO.out (by omega))
                go_wp2_with fail
                go_quiet ((go_at_call 27; first | (with_reducible exact Calls.quiet_of_same (hcI _)) | (with_reducible exact Calls.quiet_of_same (hcN _))))
                clear ek e1 e6
                go_wp2_with fail
                go_ret
                exact ⟨by rw [HF.out]; rfl, below_drewN HB2.out _⟩
              · have hd1 : decide (xn ≤ lv) = false := decide_eq_false hge
                have HG3 := Lib.hid (HGO2.out (by omega) (by assumption) (by assumption) (by assumption))
                go_wp2_with fail
                go_quiet ((go_at_call 27; first | (with_reducible exact Calls.quiet_of_same (hcI _)) | (with_reducible exact Calls.quiet_of_same (hcN _))))
                clear ek e1 e6
                go_wp2_with fail
                go_roundw
                case rel => exact ⟨k + 1, xn, by omega, by go_num, by omega, by omega, Lib.hid HSU.out.symm, HG3, HP2.out.drewN _, below_drewN HB2.out _⟩
                case measure => simp [intOf]; omega
            · have hk00 : k = 0 := by omega
              have hlv : lv = next := by have := HLV.out; rw [hk00] at this; exact this
              have hd0 : decide ((0 : Int) < (k : Int)) = false := decide_eq_false (by omega)
              have HG3 := Lib.hid (HGO2.out (by omega) hr1.2 hi.1 hi.2)
              have hb1 := hr1.1
              have hb2 := hr1.2
              clear hi hr1 hlv hk00
              go_wp2_with fail
              go_quiet ((go_at_call 27; first | (with_reducible exact Calls.quiet_of_same (hcI _)) | (with_reducible exact Calls.quiet_of_same (hcN _))))
              clear e1 e6
              go_wp2_with fail
              go_roundw
              case rel => exact ⟨k + 1, xn, by omega, by go_num, by omega, by omega, Lib.hid HSU.out.symm, HG3, HP2.out.drewN _, below_drewN HB2.out _⟩
              case measure => simp [intOf]; omega
          · have hcN : ∀ w0 : World, Calls Try.prog 27 #[.int .i64 xn, .int .i64 (next + 1), .int .i64 (next + 6)] w0 fun r w' => r = .returned (.bool false) ∧ w' = w0 := fun w0 => (l1In_false _ _ _ w0 (by omega)).mono (fun _ _ h => ⟨h.1, h.2.symm⟩)
            have HF := Lib.hid (HNO.out (by omega))
            clear hi hr1
            go_wp2_with fail
            go_quiet ((go_at_call 27; first | (with_reducible exact Calls.quiet_of_same (hcI _)) | (with_reducible exact Calls.quiet_of_same (hcN _))))
            clear e1 e6
            go_wp2_with fail
            go_ret
            exact ⟨by rw [HF.out]; rfl, below_drewN HB2.out _⟩
        · have hcI : ∀ w0 : World, Calls Try.prog 27 #[.int .i64 xi, .int .i64 1, .int .i64 999] w0 fun r w' => r = .returned (.bool false) ∧ w' = w0 := fun w0 => (l1In_false _ _ _ w0 (by omega)).mono (fun _ _ h => ⟨h.1, h.2.symm⟩)
          have HF := Lib.hid (HNO.out (by omega))
          clear hi
          go_wp2_with fail
          go_quiet ((go_at_call 27; exact Calls.quiet_of_same (hcI _)))
          go_wp2_with fail
          go_ret
          exact ⟨by rw [HF.out]; rfl, below_drewN HB2.out _⟩
      · obtain rfl : k = n := by omega
        have HF : Hid (inbOk next held = true) := Lib.hid (by rw [HOK.out, HGO.out, List.drop_of_length_le (by rw [HN.out]; exact Nat.le_refl _)]; rfl)
        go_wp2_with fail
        go_ret
        exact ⟨by rw [HF.out]; rfl, hb⟩
  · have HF : Hid (inbOk next held = false) := Lib.hid (inbOk_out (by omega))
    have HI : Hid (next < 1 ∨ 999 < next) := Lib.hid (by omega)
    clear hin
    go_enter Try.func15, Try.ntmps15
    go_wp2_with fail
    refine (l1In_false _ _ _ _ HI.out).mono ?_
    rintro e w' ⟨rfl, rfl⟩
    go_wp2_with fail
    go_ret
    exact ⟨by rw [HF.out]; rfl, hbl⟩
end Go.Proofs.Ytehaacpeamhamaa
