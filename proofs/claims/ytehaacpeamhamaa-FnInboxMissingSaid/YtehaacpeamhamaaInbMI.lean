/- The program's InboxMissing returns the plain word. -/
import Derived.Test.YtehaacpeamhamaaInbMP
import Derived.Test.YtehaacpeamhamaaInbX
import Derived.Test.YtehaacpeamhamaaIntM
namespace Go.Proofs.Ytehaacpeamhamaa
open Go Go.ChangeShapes Go.WideShapes Go.ChangeAt Go.RowKit
theorem int_infoM : Info Try.prog 3 (.int .i64 0) 1 8 := Info.mk' (by kernel_rfl) rfl (by decide) (by decide)
def MissOut (w : World) (next : Int) (held : List MessageV) : Ending → World → Prop :=
  RVal fun u w' => w'.ownsRow w.heap.size 3 1 u (inbMiss next held).length (ints (inbMiss next held)) ∧ Below w.heap.size w w'
set_option maxHeartbeats 4000000 in
theorem implInboxMissing (next : Int) (A : Option Addr) (n c : Nat) (held : List MessageV) (w : World) (hn : held.length = n) (hr : RdV w A (messages held)) (hm : n ≤ 9223372036854775807) :
    Calls Try.prog 13 #[.agg #[.int .i64 next, .slice A n c]] w (MissOut w next held) := by
  have HN := Lib.hid hn
  clear hn
  have hbl : Below w.heap.size w (w.alloc (.cells #[.int .i64 next, .slice A n c] 25)) := (Below.refl _ _).alloc (Nat.le_refl _) _
  have hP : Blk (w.alloc (.cells #[.int .i64 next, .slice A n c] 25)) w.heap.size 25 [.int .i64 next, .slice A n c] := Blk.new _ _ _
  have hr0 := hr.below hbl
  have HBL := Lib.hid hbl
  clear hbl
  go_enter Try.func13, Try.ntmps13
  go_wp2_with fail
  refine (implInboxValid next A n c held _ HN.out hr0 hm).mono ?_
  rintro e w1 ⟨rfl, hb1⟩
  have P1 := hP.later hb1
  have B1 := Lib.hid (below_trans HBL.out hb1)
  clear hb1 hP hr0
  cases hok : inbOk next held with
  | false =>
    have HM := Lib.hid (inbMiss_bad hok)
    clear hok
    go_wp2_with fail
    go_ret
    exact RVal.mk ⟨by rw [HM.out]; exact World.ownsRow_nil _ _ _ _, B1.out⟩
  | true =>
    have HM := Lib.hid (inbMiss_ok hok)
    obtain ⟨hn1, hn9, hgo⟩ := inbOk_bounds hok
    have HGO0 := Lib.hid hgo
    clear hgo hok
    have c0 := P1.cellAt 0 (by simp)
    have c1 := P1.cellAt 1 (by simp)
    simp only [List.getElem_cons_zero, List.getElem_cons_succ] at c0 c1
    have hP1 := P1.lt
    have hal : Below w1.heap.size w1 (w1.alloc (.cells #[.int .i64 next] 3)) := (Below.refl _ _).alloc (Nat.le_refl _) _
    have hw1 : w.heap.size + 1 ≤ w1.heap.size := P1.lt
    have ho2 : (w1.alloc (.cells #[.int .i64 next] 3)).ownsRow (w.heap.size + 1) 3 1 (.slice (some ⟨w1.heap.size, 0, none⟩) 1 1) 1 [.int .i64 next] := own_of_blk (cs := [.int .i64 next]) (Blk.new w1 3 [.int .i64 next]) hw1 rfl (by decide)
    have P2 := P1.later hal
    have B2 := below_trans B1.out hal
    have d0 := P2.cellAt 0 (by simp)
    have d1 := P2.cellAt 1 (by simp)
    simp only [List.getElem_cons_zero, List.getElem_cons_succ] at d0 d1
    clear hal P1 B1
    go_wp2_with fail
    go_loopw [3, 4, 19, 6, 7] (fun o l i _ _ wr => ∃ (k : Nat) (lv : Int) (xs : List Int), k ≤ n ∧ i = .int .i64 k ∧ l = .int .i64 lv ∧ next ≤ lv ∧ lv ≤ 1005 ∧ Hid (inbGo next lv (held.drop k) = true) ∧ Hid (xs ++ missGo lv (held.drop k) = inbMiss next held) ∧ (xs.length : Int) ≤ lv + 1 - next ∧ wr.ownsRow (w.heap.size + 1) 3 1 o xs.length (ints xs) ∧ Blk wr w.heap.size 25 [.int .i64 next, .slice A n c] ∧ Below w.heap.size w wr) (fun _ _ i _ _ _ => n - (intOf i).toNat)
    case atStart => exact ⟨0, next, [next], Nat.zero_le _, rfl, rfl, by omega, by omega, HGO0, Lib.hid (by rw [HM.out]; rfl), by simp; omega, ho2, P2, B2⟩
    case round =>
      obtain ⟨k, lv, xs, hk, rfl, rfl, hl1, hl2, HGO, HX, hxl, hown, P3, B3⟩ := hrel
      by_cases hlt : k < n
      · have hrd := hr.below B3
        have hke : k < held.length := by rw [HN.out]; exact hlt
        obtain ⟨hlo, hhi, hgo2⟩ := inbGo_at hke HGO.out
        have HGO2 := Lib.hid hgo2
        have HX2 : Hid (xs ++ (gapTo (lv + 1) (held[k]).f0 ++ missGo (held[k]).f0 (held.drop (k + 1))) = inbMiss next held) := Lib.hid (by rw [← missGo_at hke]; exact HX.out)
        obtain ⟨b, oo, rfl, hl, hc0, hc1⟩ := hrd.messageAt hke
        generalize held[k] = x at *
        obtain ⟨xn, xi⟩ := x
        dsimp only at hc0 hc1 hlo hhi HX2 HGO2
        have hal : Below wr.heap.size wr (wr.alloc (.cells #[.int .i64 xn, .int .i64 xi] 35)) := (Below.refl _ _).alloc (Nat.le_refl _) _
        have P4 := P3.later hal
        have Q4 : Blk (wr.alloc (.cells #[.int .i64 xn, .int .i64 xi] 35)) wr.heap.size 35 [.int .i64 xn, .int .i64 xi] := Blk.new _ _ _
        have B4 := below_trans B3 hal
        have hown4 := own_later hown hal
        have hsz4 : w.heap.size + 1 ≤ wr.heap.size := P3.lt
        have hki : (k : Int) < (n : Int) := by omega
        have hownlt : ∀ g, u3.ownBlock = some g → g < wr.heap.size := fun g e => (hown.lt g e).2
        clear hgo2 hal P3 B3 hrd hown HX HGO
        obtain ⟨wo, rfl⟩ : ∃ wo : World, wo = wr := ⟨_, rfl⟩
        have HOB : Hid (∀ g, u3.ownBlock = some g → g ≠ wo.heap.size) := Lib.hid (fun g e => by have := (hown4.lt g e); have := (hownlt g e); omega)
        go_wp2_with fail
        go_loopw [3, 7] (fun o nu w5 => ∃ (nv : Int) (ys : List Int), nu = .int .i64 nv ∧ lv + 1 ≤ nv ∧ nv ≤ xn ∧ Hid (ys ++ (gapTo nv xn ++ missGo xn (held.drop (k + 1))) = inbMiss next held) ∧ (ys.length : Int) ≤ nv - next ∧ w5.ownsRow (w.heap.size + 1) 3 1 o ys.length (ints ys) ∧ Hid (∀ g, o.ownBlock = some g → g ≠ wo.heap.size) ∧ Blk w5 w.heap.size 25 [.int .i64 next, .slice (some ⟨b, oo, none⟩) n c] ∧ Blk w5 wo.heap.size 35 [.int .i64 xn, .int .i64 xi] ∧ Below w.heap.size w w5) (fun _ nu _ => (xn - intOf nu).toNat)
        case atStart => exact ⟨lv + 1, xs, rfl, by omega, by omega, HX2, by omega, hown4, HOB, P4, Q4, B4⟩
        case round =>
          obtain ⟨nv, ys, rfl, hv1, hv2, HY, hyl, hown5, HO5, P5, Q5, B5⟩ := hrel
          have q0 := Q5.cellAt 0 (by simp)
          have p0 := P5.cellAt 0 (by simp)
          have p1 := P5.cellAt 1 (by simp)
          simp only [List.getElem_cons_zero, List.getElem_cons_succ] at q0 p0 p1
          have hmlt := Q5.lt
          have hplt := P5.lt
          by_cases hgt : nv < xn
          · have hsz5 : w.heap.size + 1 ≤ wr.heap.size := hplt
            have hd : decide (nv < xn) = true := decide_eq_true hgt
            have HY2 : Hid (ys ++ [nv] ++ (gapTo (nv + 1) xn ++ missGo xn (held.drop (k + 1))) = inbMiss next held) := Lib.hid (by rw [← HY.out, gapTo_step hgt]; simp)
            go_wp2_with (at_builtin; refine append_new rfl _ _ 28 rfl 3 _ _ _ Try.underlying28 int_infoM _ wr _ _ _ rfl hown5 [.int .i64 nv] rfl rfl (by simp [Value.oneCell']) (by omega) hsz5 ?_; intro v' w6 hown6 hg6 hblk6)
            go_roundw
            case rel =>
              refine ⟨nv + 1, ys ++ [nv], by go_num, by omega, by omega, HY2, by simp; omega, ?_, ?_, ?_, ?_, ?_⟩
              · rw [show ints (ys ++ [nv]) = ints ys ++ [.int .i64 nv] from by simp [ints], List.length_append]; exact hown6
              · exact Lib.hid (fun g e => by
                  rcases hblk6 with h | h
                  · rw [e] at h
                    exact HO5.out g h.symm
                  · rw [e] at h
                    injection h with h
                    omega)
              · exact (hg6.block _ hplt (fun e => by have := (hown5.lt _ e.symm).1; omega)).trans P5
              · exact (hg6.block _ hmlt (fun e => HO5.out _ e.symm rfl)).trans Q5
              · exact below_append B5 hg6 (own_base hown5 (Nat.le_succ _)) rfl
            case measure => simp [intOf]; omega
          · have hd : decide (nv < xn) = false := decide_eq_false hgt
            obtain rfl : nv = xn := by omega
            have HY2 : Hid (ys ++ missGo nv (held.drop (k + 1)) = inbMiss next held) := Lib.hid (by rw [← HY.out, gapTo_stop (Int.le_refl _)]; simp)
            go_wp2_with fail
            go_roundw
            case rel => exact ⟨k + 1, nv, ys, by omega, by go_num, rfl, by omega, by omega, HGO2, HY2, by omega, hown5, P5, B5⟩
            case measure => simp [intOf]; omega
      · obtain rfl : k = n := by omega
        have HE : Hid (xs = inbMiss next held) := Lib.hid (by rw [← HX.out, missGo_end (by rw [HN.out]; exact Nat.le_refl _)]; simp)
        go_wp2_with fail
        go_ret
        exact RVal.mk ⟨by rw [← HE.out]; exact own_base hown (Nat.le_succ _), B3⟩
end Go.Proofs.Ytehaacpeamhamaa
