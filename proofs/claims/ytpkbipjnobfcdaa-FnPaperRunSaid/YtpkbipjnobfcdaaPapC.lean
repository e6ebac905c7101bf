/- Marks of a box, papers that are valid: both programs return the plain word. -/
import Derived.Test.YtpkbipjnobfcdaaPapQ
import Derived.Test.YtpkbipjnobfcdaaQuietB
import Derived.Test.YtpkbipjnobfcdaaYdI
namespace Go.Proofs.Ytpkbipjnobfcdaa
open Go Go.ChangeShapes Go.WideShapes Go.ChangeAt Go.RowKit
set_option linter.unusedVariables false
theorem marks_hit {hs : List HoldV} {k : Nat} {x : Int} (hk : k < hs.length) (h : marksOf hs x = marksOf (hs.drop k) x) (hx : (hs[k]).f0 = x) : marksOf hs x = (hs[k]).f1 := by
  rw [h, List.drop_eq_getElem_cons hk, marksOf, if_pos hx]
theorem marks_miss {hs : List HoldV} {k : Nat} {x : Int} (hk : k < hs.length) (h : marksOf hs x = marksOf (hs.drop k) x) (hx : (hs[k]).f0 ≠ x) : marksOf hs x = marksOf (hs.drop (k + 1)) x := by
  rw [h, List.drop_eq_getElem_cons hk, marksOf, if_neg hx]
set_option maxHeartbeats 1000000 in
theorem implMarksOf (HA : Option Addr) (n c : Nat) (hs : List HoldV) (LA : Option Addr) (ln lc : Nat) (x : Int) (w : World) (hn : hs.length = n) (hr : RdV w HA (holds hs)) (hm : n ≤ 1048576) :
    Calls Try.prog 10 #[.agg #[.slice HA n c, .slice LA ln lc], .int .i64 x] w fun e w' => e = .returned (.int .i64 (marksOf hs x)) ∧ Below w.heap.size w w' := by
  have HN := Lib.hid hn
  clear hn
  have hbl : Below w.heap.size w (w.alloc (.cells #[.slice HA n c, .slice LA ln lc] 26)) := (Below.refl _ _).alloc (Nat.le_refl _) _
  go_enter Try.func10, Try.ntmps10
  go_wp2_with fail
  go_loopw [10, 6] (fun i _ wr => ∃ k : Nat, k ≤ n ∧ i = .int .i64 k ∧ Hid (marksOf hs x = marksOf (hs.drop k) x) ∧ Below w.heap.size w wr) (fun i _ _ => n - (intOf i).toNat)
  case atStart => exact ⟨0, Nat.zero_le _, rfl, Lib.hid rfl, hbl⟩
  case round =>
    obtain ⟨k, hk, rfl, HJ, hb⟩ := hrel
    by_cases hlt : k < n
    · have hke : k < hs.length := by rw [HN.out]; exact hlt
      obtain ⟨b, o, rfl, hl, hc0, hc1⟩ := hr.holdAt hke
      have h0 : wr.cell? ⟨b, o + k * 2, none⟩ = some (.int .i64 (hs[k]).f0) := (hb.cell (p := ⟨b, o + k * 2, none⟩) hl).trans hc0
      have h1 : wr.cell? ⟨b, o + k * 2 + 1, none⟩ = some (.int .i64 (hs[k]).f1) := (hb.cell (p := ⟨b, o + k * 2 + 1, none⟩) hl).trans hc1
      have HH := Lib.hid (fun hx => marks_hit (x := x) hke HJ.out hx)
      have HM := Lib.hid (fun hx => marks_miss (x := x) hke HJ.out hx)
      generalize hs[k] = y at *
      obtain ⟨y0, y1⟩ := y
      dsimp only at h0 h1 HH HM
      have hki : (k : Int) < (n : Int) := by omega
      have hal : Below wr.heap.size wr (wr.alloc (.cells #[.int .i64 y0, .int .i64 y1] 38)) := (Below.refl _ _).alloc (Nat.le_refl _) _
      have P2 : Blk (wr.alloc (.cells #[.int .i64 y0, .int .i64 y1] 38)) wr.heap.size 38 [.int .i64 y0, .int .i64 y1] := Blk.new _ _ _
      have d0 := P2.cellAt 0 (by simp)
      have d1 := P2.cellAt 1 (by simp)
      simp only [List.getElem_cons_zero, List.getElem_cons_succ] at d0 d1
      have HB2 := Lib.hid (below_trans hb hal)
      clear hc0 hc1 hal P2 hb
      by_cases hx : y0 = x
      · have HT := Lib.hid (HH.out hx)
        have hd : (y0 == x) = true := by simp [hx]
        clear hx
        go_wp2_with fail
        go_ret
        exact ⟨by rw [HT.out]; rfl, HB2.out⟩
      · have HT := Lib.hid (HM.out hx)
        have hd : (y0 == x) = false := by simp [hx]
        clear hx
        go_wp2_with fail
        go_roundw
        case rel => exact ⟨k + 1, by omega, by go_num, HT, HB2.out⟩
        case measure => simp [intOf]; omega
    · obtain rfl : k = n := by omega
      have HE : Hid (marksOf hs x = 0) := Lib.hid (by rw [HJ.out, List.drop_of_length_le (by rw [HN.out]; exact Nat.le_refl _)]; rfl)
      go_wp2_with fail
      go_ret
      exact ⟨by rw [HE.out]; rfl, hb⟩
set_option maxHeartbeats 1000000 in
theorem specMarksOf (HA : Option Addr) (n c : Nat) (hs : List HoldV) (LA : Option Addr) (ln lc : Nat) (x : Int) (w : World) (hn : hs.length = n) (hr : RdV w HA (holds hs)) (hm : n ≤ 1048576) :
    Calls Try.prog 11 #[.agg #[.slice HA n c, .slice LA ln lc], .int .i64 x] w fun e w' => e = .returned (.int .i64 (marksOf hs x)) ∧ Below w.heap.size w w' := by
  have HN := Lib.hid hn
  clear hn
  have hbl : Below w.heap.size w (w.alloc (.cells #[.slice HA n c, .slice LA ln lc] 26)) := (Below.refl _ _).alloc (Nat.le_refl _) _
  have hP : Blk (w.alloc (.cells #[.slice HA n c, .slice LA ln lc] 26)) w.heap.size 26 [.slice HA n c, .slice LA ln lc] := Blk.new _ _ _
  have q0 := hP.cellAt 0 (by simp)
  simp only [List.getElem_cons_zero] at q0
  go_enter Try.func11, Try.ntmps11
  go_wp2_with fail
  go_loopw [5] (fun i wr => ∃ k : Nat, k ≤ n ∧ i = .int .i64 k ∧ Hid (marksOf hs x = marksOf (hs.drop k) x) ∧ Blk wr w.heap.size 26 [.slice HA n c, .slice LA ln lc] ∧ Below w.heap.size w wr) (fun i _ => n - (intOf i).toNat)
  case atStart => exact ⟨0, Nat.zero_le _, rfl, Lib.hid rfl, hP, hbl⟩
  case round =>
    clear q0 hP
    obtain ⟨k, hk, rfl, HJ, P1, hb⟩ := hrel
    have q0 := P1.cellAt 0 (by simp)
    simp only [List.getElem_cons_zero] at q0
    have hPlt := P1.lt
    by_cases hlt : k < n
    · have hke : k < hs.length := by rw [HN.out]; exact hlt
      obtain ⟨b, o, rfl, hl, hc0, hc1⟩ := hr.holdAt hke
      have h0 : wr.cell? ⟨b, o + k * 2, none⟩ = some (.int .i64 (hs[k]).f0) := (hb.cell (p := ⟨b, o + k * 2, none⟩) hl).trans hc0
      have h1 : wr.cell? ⟨b, o + k * 2 + 1, none⟩ = some (.int .i64 (hs[k]).f1) := (hb.cell (p := ⟨b, o + k * 2 + 1, none⟩) hl).trans hc1
      have HH := Lib.hid (fun hx => marks_hit (x := x) hke HJ.out hx)
      have HM := Lib.hid (fun hx => marks_miss (x := x) hke HJ.out hx)
      generalize hs[k] = y at *
      obtain ⟨y0, y1⟩ := y
      dsimp only at h0 h1 HH HM
      have hki : (k : Int) < (n : Int) := by omega
      have HB2 := Lib.hid hb
      have HP2 := Lib.hid P1
      clear hc0 hc1 P1 hb
      by_cases hx : y0 = x
      · have HT := Lib.hid (HH.out hx)
        have hd : (y0 == x) = true := by simp [hx]
        clear hx
        go_wp2_with fail
        go_ret
        exact ⟨by rw [HT.out]; rfl, HB2.out⟩
      · have HT := Lib.hid (HM.out hx)
        have hd : (y0 == x) = false := by simp [hx]
        clear hx
        go_wp2_with fail
        go_roundw
        case rel => exact ⟨k + 1, by omega, by go_num, HT, HP2.out, HB2.out⟩
        case measure => simp [intOf]; omega
    · obtain rfl : k = n := by omega
      have HE : Hid (marksOf hs x = 0) := Lib.hid (by rw [HJ.out, List.drop_of_length_le (by rw [HN.out]; exact Nat.le_refl _)]; rfl)
      go_wp2_with fail
      go_ret
      exact ⟨by rw [HE.out]; rfl, hb⟩
/-- the id ahead of the hold k; the number ahead of the number k -/
def lastH (hs : List HoldV) : Nat → Int
  | 0 => 0
  | k + 1 => (hs.getD k ⟨0, 0⟩).f0
def lastL (ls : List Int) : Nat → Int
  | 0 => 0
  | k + 1 => ls.getD k 0
theorem lastH_succ {hs : List HoldV} {k : Nat} (hk : k < hs.length) : lastH hs (k + 1) = (hs[k]).f0 := by simp [lastH, List.getD, List.getElem?_eq_getElem hk]
theorem lastL_succ {ls : List Int} {k : Nat} (hk : k < ls.length) : lastL ls (k + 1) = ls[k] := by simp [lastL, List.getD, List.getElem?_eq_getElem hk]
theorem holdGo_step {hs : List HoldV} {ls : List Int} {k : Nat} {last : Int} (hk : k < hs.length) (h : holdGo ls 0 hs = holdGo ls last (hs.drop k)) :
    holdGo ls 0 hs = ((idI (hs[k]).f0 && ((decide (1 ≤ (hs[k]).f1) && decide ((hs[k]).f1 ≤ 7)) && (decide (last < (hs[k]).f0) && !hasI ls (hs[k]).f0))) && holdGo ls (hs[k]).f0 (hs.drop (k + 1))) := by
  rw [h, List.drop_eq_getElem_cons hk, holdGo]
theorem leftGo_step {ls : List Int} {k : Nat} {last : Int} (hk : k < ls.length) (h : leftGo 0 ls = leftGo last (ls.drop k)) :
    leftGo 0 ls = ((idI ls[k] && decide (last < ls[k])) && leftGo ls[k] (ls.drop (k + 1))) := by
  rw [h, List.drop_eq_getElem_cons hk, leftGo]
end Go.Proofs.Ytpkbipjnobfcdaa
