/- The reference's InboxMissing returns the plain word. -/
import Derived.Test.YtehaacpeamhamaaInbMI
namespace Go.Proofs.Ytehaacpeamhamaa
open Go Go.ChangeShapes Go.WideShapes Go.ChangeAt Go.RowKit
set_option maxHeartbeats 4000000 in
theorem specInboxMissing (next : Int) (A : Option Addr) (n c : Nat) (held : List MessageV) (w : World) (hn : held.length = n) (hr : RdV w A (messages held)) (hm : n ≤ 9223372036854775807) :
    Calls Try.prog 14 #[.agg #[.int .i64 next, .slice A n c]] w (MissOut w next held) := by
  have HN := Lib.hid hn
  clear hn
  have hbl0 : Below w.heap.size w (w.alloc (.cells #[.int .i64 next, .slice A n c] 25)) := (Below.refl _ _).alloc (Nat.le_refl _) _
  have hP0 : Blk (w.alloc (.cells #[.int .i64 next, .slice A n c] 25)) w.heap.size 25 [.int .i64 next, .slice A n c] := Blk.new _ _ _
  have hal : Below (w.alloc (.cells #[.int .i64 next, .slice A n c] 25)).heap.size (w.alloc (.cells #[.int .i64 next, .slice A n c] 25)) ((w.alloc (.cells #[.int .i64 next, .slice A n c] 25)).alloc (.cells #[] 3)) := (Below.refl _ _).alloc (Nat.le_refl _) _
  have ho : ((w.alloc (.cells #[.int .i64 next, .slice A n c] 25)).alloc (.cells #[] 3)).ownsRow (w.heap.size + 1) 3 1 (.slice (some ⟨w.heap.size + 1, 0, none⟩) 0 0) 0 [] := own_of_blk (cs := []) (by simpa using Blk.new (w.alloc (.cells #[.int .i64 next, .slice A n c] 25)) 3 []) (Nat.le_refl _) rfl (by decide)
  have hP := hP0.later hal
  have hbl := below_trans hbl0 hal
  have HBL := Lib.hid hbl
  have hr0 := hr.below hbl
  have c0 := hP.cellAt 0 (by simp)
  simp only [List.getElem_cons_zero] at c0
  clear hP0 hbl0 hal
  go_enter Try.func14, Try.ntmps14
  go_wp2_with fail
  refine (specInboxValid next A n c held _ HN.out hr0 hm).mono ?_
  rintro e w1 ⟨rfl, hb1⟩
  have P1 := hP.later hb1
  have B1 := below_trans hbl hb1
  have o1 := own_later ho hb1
  clear hb1 hP hr0 ho hbl c0
  cases hok : inbOk next held with
  | false =>
    have HM := Lib.hid (inbMiss_bad hok)
    clear hok
    go_wp2_with fail
    go_ret
    exact RVal.mk ⟨by rw [HM.out]; exact own_base o1 (Nat.le_succ _), B1⟩
  | true =>
    have HM := Lib.hid (inbMiss_ok hok)
    obtain ⟨hn1, hn9, hgo⟩ := inbOk_bounds hok
    have HGO0 := Lib.hid hgo
    clear hgo hok
    have c0 := P1.cellAt 0 (by simp)
    have c1 := P1.cellAt 1 (by simp)
    simp only [List.getElem_cons_zero, List.getElem_cons_succ] at c0 c1
    have hP1 := P1.lt
    have hsz1 : w.heap.size + 1 ≤ w1.heap.size := hP1
    go_wp2_with (at_builtin; refine append_new rfl _ _ 28 rfl 3 _ _ _ Try.underlying28 int_infoM _ w1 _ _ _ rfl o1 [.int .i64 next] rfl rfl (by simp [Value.oneCell']) (by omega) hsz1 ?_; intro v' w2 o2 hg2 hblk2; have P2 : Blk w2 w.heap.size 25 [.int .i64 next, .slice A n c] := (hg2.block _ hP1 (fun e => by have := (o1.lt _ e.symm).1; omega)).trans P1; have B2 := below_append B1 hg2 (own_base o1 (Nat.le_succ _)) rfl; have d0 := P2.cellAt 0 (by simp); have d1 := P2.cellAt 1 (by simp); simp only [List.getElem_cons_zero, List.getElem_cons_succ] at d0 d1)
    clear hg2 hblk2 P1 B1 o1
    go_loopw [3, 4, 5] (fun o i nu wr => ∃ (k : Nat) (l : Int) (xs : List Int), k ≤ n ∧ i = .int .i64 k ∧ nu = .int .i64 (l + 1) ∧ next ≤ l ∧ l ≤ next + 6 ∧ Hid (inbGo next l (held.drop k) = true) ∧ Hid (xs ++ missGo l (held.drop k) = inbMiss next held) ∧ (xs.length : Int) ≤ l + 1 - next ∧ wr.ownsRow (w.heap.size + 1) 3 1 o xs.length (ints xs) ∧ Blk wr w.heap.size 25 [.int .i64 next, .slice A n c] ∧ Below w.heap.size w wr) (fun _ _ nu _ => (1007 - intOf nu).toNat)
    case atStart => exact ⟨0, next, [next], Nat.zero_le _, rfl, rfl, by omega, by omega, HGO0, Lib.hid (by rw [HM.out]; rfl), by simp; omega, o2, P2, B2⟩
    case round =>
      obtain ⟨k, l, xs, hk, rfl, rfl, hl1, hl2, HGO, HX, hxl, hown, P3, B3⟩ := hrel
      have p0 := P3.cellAt 0 (by simp)
      have p1 := P3.cellAt 1 (by simp)
      simp only [List.getElem_cons_zero, List.getElem_cons_succ] at p0 p1
      have hplt := P3.lt
      by_cases hlt : k < n
      · have hrd := hr.below B3
        have hke : k < held.length := by rw [HN.out]; exact hlt
        obtain ⟨hlo, hhi, _⟩ := inbGo_at hke HGO.out
        have HEQ := Lib.hid (inb_eq hke HGO.out)
        have HNE := Lib.hid (inb_ne hke HGO.out)
        obtain ⟨b, oo, rfl, hl, hc0, _⟩ := hrd.messageAt hke
        generalize held[k] = x at *
        obtain ⟨xn, xi⟩ := x
        dsimp only at hc0 hlo hhi HEQ HNE
        have hki : (k : Int) < (n : Int) := by omega
        clear hrd
        by_cases he : xn = l + 1
        · obtain ⟨hg1, hg2⟩ := HEQ.out he
          have HG := Lib.hid hg1
          have HX2 : Hid (xs ++ missGo (l + 1) (held.drop (k + 1)) = inbMiss next held) := Lib.hid (by rw [← hg2]; exact HX.out)
          have hb : (xn == l + 1) = true := by simp [he]
          clear hg1 hg2
          go_wp2_with fail
          go_roundw
          case rel => exact ⟨k + 1, l + 1, xs, by omega, by go_num, by go_num, by omega, by omega, HG, HX2, by omega, hown, P3, B3⟩
          case measure => simp [intOf]; omega
        · obtain ⟨hg1, hg2⟩ := HNE.out he
          have HG := Lib.hid hg1
          have HX2 : Hid (xs ++ [l + 1] ++ missGo (l + 1) (held.drop k) = inbMiss next held) := Lib.hid (by rw [← HX.out, hg2]; simp)
          have hb : (xn == l + 1) = false := by simp [he]
          have hsz5 : w.heap.size + 1 ≤ wr.heap.size := hplt
          clear hg1 hg2
          go_wp2_with (at_builtin; refine append_new rfl _ _ 28 rfl 3 _ _ _ Try.underlying28 int_infoM _ wr _ _ _ rfl hown [.int .i64 (l + 1)] rfl rfl (by simp [Value.oneCell']) (by omega) hsz5 ?_; intro v' w6 hown6 hg6 hblk6)
          go_roundw
          case rel =>
            refine ⟨k, l + 1, xs ++ [l + 1], by omega, rfl, by go_num, by omega, by omega, HG, HX2, by simp; omega, ?_, ?_, ?_⟩
            · rw [show ints (xs ++ [l + 1]) = ints xs ++ [.int .i64 (l + 1)] from by simp [ints], List.length_append]; exact hown6
            · exact (hg6.block _ hplt (fun e => by have := (hown.lt _ e.symm).1; omega)).trans P3
            · exact below_append B3 hg6 (own_base hown (Nat.le_succ _)) rfl
          case measure => simp [intOf]; omega
      · obtain rfl : k = n := by omega
        have HE : Hid (xs = inbMiss next held) := Lib.hid (by rw [← HX.out, missGo_end (by rw [HN.out]; exact Nat.le_refl _)]; simp)
        go_wp2_with fail
        go_ret
        exact RVal.mk ⟨by rw [← HE.out]; exact own_base hown (Nat.le_succ _), B3⟩
end Go.Proofs.Ytehaacpeamhamaa
