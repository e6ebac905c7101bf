/- The program's InboxValid returns the plain word. -/
import Derived.Test.YtehaacpeamhamaaInbP
import Derived.Test.YtehaacpeamhamaaWithin
namespace Go.Proofs.Ytehaacpeamhamaa
open Go Go.ChangeShapes Go.WideShapes Go.ChangeAt Go.RowKit
set_option maxHeartbeats 4000000 in
theorem implInboxValid (next : Int) (A : Option Addr) (n c : Nat) (held : List MessageV) (w : World) (hn : held.length = n) (hr : RdV w A (messages held)) (hm : n ≤ 9223372036854775807) :
    Calls Try.prog 21 #[.agg #[.int .i64 next, .slice A n c]] w fun e w' => e = .returned (.bool (inbOk next held)) ∧ Below w.heap.size w w' := by
  have HN := Lib.hid hn
  clear hn
  have hbl : Below w.heap.size w (w.alloc (.cells #[.int .i64 next, .slice A n c] 25)) := (Below.refl _ _).alloc (Nat.le_refl _) _
  have hP : Blk (w.alloc (.cells #[.int .i64 next, .slice A n c] 25)) w.heap.size 25 [.int .i64 next, .slice A n c] := Blk.new _ _ _
  by_cases hin : 1 ≤ next ∧ next ≤ 999
  · obtain ⟨hn1, hn9⟩ := hin
    have HOK : Hid (inbOk next held = inbGo next next held) := Lib.hid (inbOk_in hn1 hn9)
    go_enter Try.func21, Try.ntmps21
    go_wp2_with fail
    go_loopw [3, 11, 5] (fun l i _ wr => ∃ (k : Nat) (lv : Int), k ≤ n ∧ i = .int .i64 k ∧ l = .int .i64 lv ∧ 1 ≤ lv ∧ lv ≤ 1005 ∧ Hid (lv = lastAt next held k) ∧ Hid (inbGo next next held = inbGo next (lastAt next held k) (held.drop k)) ∧ Blk wr w.heap.size 25 [.int .i64 next, .slice A n c] ∧ Below w.heap.size w wr) (fun _ i _ _ => n - (intOf i).toNat)
    case atStart => exact ⟨0, next, Nat.zero_le _, rfl, rfl, by omega, by omega, Lib.hid rfl, Lib.hid rfl, hP, hbl⟩
    case round =>
      obtain ⟨k, lv, hk, rfl, rfl, hl1, hl2, HLV, HGO, P1, hb⟩ := hrel
      have c0 := P1.cellAt 0 (by simp)
      have c1 := P1.cellAt 1 (by simp)
      simp only [List.getElem_cons_zero, List.getElem_cons_succ] at c0 c1
      have hPlt := P1.lt
      by_cases hlt : k < n
      · have hke : k < held.length := by rw [HN.out]; exact hlt
        obtain ⟨b, o, rfl, hl, hc0, hc1⟩ := hr.messageAt hke
        have h0 : wr.cell? ⟨b, o + k * 2, none⟩ = some (.int .i64 (held[k]).f0) := (hb.cell (p := ⟨b, o + k * 2, none⟩) hl).trans hc0
        have h1 : wr.cell? ⟨b, o + k * 2 + 1, none⟩ = some (.int .i64 (held[k]).f1) := (hb.cell (p := ⟨b, o + k * 2 + 1, none⟩) hl).trans hc1
        have HGO2 : Hid (lv + 1 ≤ (held[k]).f0 → (held[k]).f0 ≤ next + 6 → 1 ≤ (held[k]).f1 → (held[k]).f1 ≤ 999 → inbGo next next held = inbGo next (lastAt next held (k + 1)) (held.drop (k + 1))) := Lib.hid (by rw [HLV.out]; exact inb_go hke HGO.out)
        have HNO : Hid (¬ (lv + 1 ≤ (held[k]).f0 ∧ (held[k]).f0 ≤ next + 6 ∧ 1 ≤ (held[k]).f1 ∧ (held[k]).f1 ≤ 999) → inbOk next held = false) := Lib.hid (fun h => by rw [HOK.out]; exact inb_no hke HGO.out (by rw [← HLV.out]; exact h))
        have HSU := Lib.hid (lastAt_succ (next := next) hke)
        generalize held[k] = x at *
        obtain ⟨xn, xi⟩ := x
        dsimp only at h0 h1 HGO2 HNO HSU
        have hal : Below wr.heap.size wr (wr.alloc (.cells #[.int .i64 xn, .int .i64 xi] 35)) := (Below.refl _ _).alloc (Nat.le_refl _) _
        have P2 := P1.later hal
        have HB2 := Lib.hid (hb.trans (hal.mono hb.size))
        have HP2 := Lib.hid P2
        have d0 := P2.cellAt 0 (by simp)
        have d1 := P2.cellAt 1 (by simp)
        simp only [List.getElem_cons_zero, List.getElem_cons_succ] at d0 d1
        have hki : (k : Int) < (n : Int) := by omega
        clear hc0 hc1 hal P2 P1 hb hbl hP
        by_cases hw1 : lv + 1 ≤ xn ∧ xn ≤ next + 6
        · obtain ⟨hw1, hw2⟩ := hw1
          by_cases hi : 1 ≤ xi ∧ xi ≤ 999
          · obtain ⟨hi1, hi2⟩ := hi
            go_wp2_with fail
            refine (within_true _ _ _ _ hw1 hw2).mono ?_
            rintro e w' ⟨rfl, rfl⟩
            go_wp2_with fail
            refine (isId_true _ _ hi1 hi2).mono ?_
            rintro e w' ⟨rfl, rfl⟩
            go_wp2_with fail
            go_roundw
            case rel => exact ⟨k + 1, xn, by omega, by go_num, rfl, by omega, by omega, Lib.hid HSU.out.symm, Lib.hid (HGO2.out hw1 hw2 hi1 hi2), HP2.out, HB2.out⟩
            case measure => simp [intOf]; omega
          · have HF := Lib.hid (HNO.out (by omega))
            have HI : Hid (xi < 1 ∨ 999 < xi) := Lib.hid (by omega)
            clear hi
            go_wp2_with fail
            refine (within_true _ _ _ _ hw1 hw2).mono ?_
            rintro e w' ⟨rfl, rfl⟩
            go_wp2_with fail
            refine (isId_false _ _ HI.out).mono ?_
            rintro e w' ⟨rfl, rfl⟩
            go_wp2_with fail
            go_ret
            exact ⟨by rw [HF.out]; rfl, HB2.out⟩
        · have HF := Lib.hid (HNO.out (by omega))
          have HI : Hid (xn < lv + 1 ∨ next + 6 < xn) := Lib.hid (by omega)
          clear hw1
          go_wp2_with fail
          refine (within_false _ _ _ _ HI.out).mono ?_
          rintro e w' ⟨rfl, rfl⟩
          go_wp2_with fail
          go_ret
          exact ⟨by rw [HF.out]; rfl, HB2.out⟩
      · obtain rfl : k = n := by omega
        have HF : Hid (inbOk next held = true) := Lib.hid (by rw [HOK.out, HGO.out, List.drop_of_length_le (by rw [HN.out]; exact Nat.le_refl _)]; rfl)
        go_wp2_with fail
        refine (isId_true _ _ hn1 hn9).mono ?_
        rintro e w' ⟨rfl, rfl⟩
        go_wp2_with fail
        go_ret
        exact ⟨by rw [HF.out]; rfl, hb⟩
  · have HF : Hid (inbOk next held = false) := Lib.hid (inbOk_out (by omega))
    have HI : Hid (next < 1 ∨ 999 < next) := Lib.hid (by omega)
    clear hin
    go_enter Try.func21, Try.ntmps21
    go_wp2_with fail
    go_loopw [3, 11, 5] (fun l i _ wr => ∃ (k : Nat) (lv : Int), k ≤ n ∧ i = .int .i64 k ∧ l = .int .i64 lv ∧ Blk wr w.heap.size 25 [.int .i64 next, .slice A n c] ∧ Below w.heap.size w wr) (fun _ i _ _ => n - (intOf i).toNat)
    case atStart => exact ⟨0, next, Nat.zero_le _, rfl, rfl, hP, hbl⟩
    case round =>
      obtain ⟨k, lv, hk, rfl, rfl, P1, hb⟩ := hrel
      have c0 := P1.cellAt 0 (by simp)
      have c1 := P1.cellAt 1 (by simp)
      simp only [List.getElem_cons_zero, List.getElem_cons_succ] at c0 c1
      have hPlt := P1.lt
      by_cases hlt : k < n
      · have hke : k < held.length := by rw [HN.out]; exact hlt
        obtain ⟨b, o, rfl, hl, hc0, hc1⟩ := hr.messageAt hke
        have h0 : wr.cell? ⟨b, o + k * 2, none⟩ = some (.int .i64 (held[k]).f0) := (hb.cell (p := ⟨b, o + k * 2, none⟩) hl).trans hc0
        have h1 : wr.cell? ⟨b, o + k * 2 + 1, none⟩ = some (.int .i64 (held[k]).f1) := (hb.cell (p := ⟨b, o + k * 2 + 1, none⟩) hl).trans hc1
        generalize held[k] = x at *
        obtain ⟨xn, xi⟩ := x
        dsimp only at h0 h1
        have hal : Below wr.heap.size wr (wr.alloc (.cells #[.int .i64 xn, .int .i64 xi] 35)) := (Below.refl _ _).alloc (Nat.le_refl _) _
        have P2 := P1.later hal
        have HB2 := Lib.hid (hb.trans (hal.mono hb.size))
        have HP2 := Lib.hid P2
        have d0 := P2.cellAt 0 (by simp)
        have d1 := P2.cellAt 1 (by simp)
        simp only [List.getElem_cons_zero, List.getElem_cons_succ] at d0 d1
        have hki : (k : Int) < (n : Int) := by omega
        clear hc0 hc1 hal P2 P1 hb hbl hP
        go_wp2_with fail
        refine (within_some _ _ _ _).mono ?_
        rintro e w' ⟨b1, rfl, rfl⟩
        cases b1
        · go_wp2_with fail
          go_ret
          exact ⟨by rw [HF.out]; rfl, HB2.out⟩
        · go_wp2_with fail
          refine (isId_some _ _).mono ?_
          rintro e w' ⟨b2, rfl, rfl⟩
          cases b2
          · go_wp2_with fail
            go_ret
            exact ⟨by rw [HF.out]; rfl, HB2.out⟩
          · go_wp2_with fail
            go_roundw
            case rel => exact ⟨k + 1, xn, by omega, by go_num, rfl, HP2.out, HB2.out⟩
            case measure => simp [intOf]; omega
      · go_wp2_with fail
        refine (isId_false _ _ HI.out).mono ?_
        rintro e w' ⟨rfl, rfl⟩
        go_wp2_with fail
        go_ret
        exact ⟨by rw [HF.out]; rfl, hb⟩
end Go.Proofs.Ytehaacpeamhamaa
