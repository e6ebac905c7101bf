/- An inbox and a message that are drawn for the law on taking. -/
import Derived.Test.YtnbppfgfmhfgdaaDrawInbs
namespace Go.Proofs.Ytnbppfgfmhfgdaa
open Go Go.ChangeShapes Go.WideShapes Go.ChangeAt Go.RowKit
def InbMsgMade (w : World) : Ending → World → Prop :=
  RVal fun u w' => ∃ (next : Int) (A : Option Addr) (n c : Nat) (held : List MessageV) (x0 x1 : Int), u = .tuple #[.agg #[.int .i64 next, .slice A n c], .agg #[.int .i64 x0, .int .i64 x1]] ∧ QueM w' w.heap.size w'.heap.size A n c held ∧ 0 ≤ next ∧ next ≤ 1000 ∧ n ≤ 7 ∧ Below w.heap.size w w'
theorem inbMsg_fin {w W W' : World} {next : Int} {A : Option Addr} {n c hi : Nat} {held : List MessageV} {x0 x1 : Int} (hB : Below w.heap.size w W) (hO : Out w.heap.size (w.heap.size + 2) W W') (hq : QueM W (w.heap.size + 2) hi A n c held) (h0 : 0 ≤ next) (h1 : next ≤ 1000) (hn : n ≤ 7) :
    InbMsgMade w (.returned (.tuple #[.agg #[.int .i64 next, .slice A n c], .agg #[.int .i64 x0, .int .i64 x1]])) W' := by
  have hq3 := hq.out hO (.inr (Nat.le_refl _))
  exact RVal.mk ⟨next, A, n, c, held, x0, x1, rfl, hq3.wide (by omega) hq3.2.2.2.1 (Nat.le_refl _), h0, h1, hn, below_out hB hO (Nat.le_refl _)⟩
theorem out_drew {lo hi : Nat} {w w' : World} (h : Out lo hi w w') : Out lo hi w w'.drew := ⟨h.os, h.tape, h.output, h.size, h.block⟩
theorem out2 {W : World} {b : Nat} {v0 v1 v2 v3 : Value} : Out b (b + 2) W ((((W.setCell ⟨b, 0, none⟩ v0).setCell ⟨b, 1, none⟩ v1).setCell ⟨b + 1, 0, none⟩ v2).setCell ⟨b + 1, 1, none⟩ v3) :=
  out_set (out_set (out_set (out_set (Out.refl _ _ _) _ _ _ (Nat.le_refl _) (by omega)) _ _ _ (Nat.le_refl _) (by omega)) _ _ _ (by omega) (by omega)) _ _ _ (by omega) (by omega)
theorem out2' {W : World} {b : Nat} {v0 v1 v2 v3 : Value} : Out b (b + 2) W ((((W.setCell ⟨b + 1, 0, none⟩ v2).setCell ⟨b + 1, 1, none⟩ v3).setCell ⟨b, 0, none⟩ v0).setCell ⟨b, 1, none⟩ v1) :=
  out_set (out_set (out_set (out_set (Out.refl _ _ _) _ _ _ (by omega) (by omega)) _ _ _ (by omega) (by omega)) _ _ _ (Nat.le_refl _) (by omega)) _ _ _ (Nat.le_refl _) (by omega)
set_option maxHeartbeats 2000000 in
theorem drawInboxTake_any (A : Option Addr) (n c : Nat) (bs : List Int) (w : World) (h : Code w A n c bs) :
    Calls Try.prog 28 #[.slice A n c] w (InbMsgMade w) := by
  have hal : Below w.heap.size w ((w.alloc (.cells #[.int .i64 0, .slice none 0 0] 29)).alloc (.cells #[.int .i64 0, .int .i64 0] 41)) := ((Below.refl _ _).alloc (Nat.le_refl _) _).alloc (by simp) _
  have hR0 : Blk ((w.alloc (.cells #[.int .i64 0, .slice none 0 0] 29)).alloc (.cells #[.int .i64 0, .int .i64 0] 41)) w.heap.size 29 [.int .i64 0, .slice none 0 0] := (Blk.new _ _ _).alloc _
  have hS0 : Blk ((w.alloc (.cells #[.int .i64 0, .slice none 0 0] 29)).alloc (.cells #[.int .i64 0, .int .i64 0] 41)) (w.heap.size + 1) 41 [.int .i64 0, .int .i64 0] := by simpa using Blk.new (w.alloc (.cells #[.int .i64 0, .slice none 0 0] 29)) 41 [.int .i64 0, .int .i64 0]
  go_enter Try.func28, Try.ntmps28
  go_wp2_with fail
  generalize (w.alloc (.cells #[.int .i64 0, .slice none 0 0] 29)).alloc (.cells #[.int .i64 0, .int .i64 0] 41) = w0 at *
  have hz0 : w.heap.size + 1 < w0.heap.size := hS0.lt
  refine (open_any A n c bs w0 (h.below hal)).mono ?_
  rintro e w1 ⟨v, rfl, g, rfl, hg, hr, hb⟩
  have hR1 := hR0.later hb
  have hS1 := hS0.later hb
  have B1 := below_trans hal hb
  have hz1 := hb.size
  have hgl1 := hr.lt
  clear hR0 hS0 hal hb h
  go_wp2_with fail
  refine (l20Inbox_any g 0 9 w1 hr (by omega) (by omega)).mono ?_
  rintro e w2 ⟨_, rfl, next, A2, n2, c2, held, q2, rfl, hq2, h0, h1, hn, hqq, hr2, hg2⟩
  have hal : Below w2.heap.size w2 (w2.alloc (.cells #[.int .i64 next, .slice A2 n2 c2] 29)) := (Below.refl _ _).alloc (Nat.le_refl _) _
  have hI3 : Blk (w2.alloc (.cells #[.int .i64 next, .slice A2 n2 c2] 29)) w2.heap.size 29 [.int .i64 next, .slice A2 n2 c2] := Blk.new _ _ _
  have hR3 := (hR1.only hg2 (by omega)).later hal
  have hS3 := (hS1.only hg2 (by omega)).later hal
  have hB3 := below_trans (below_only B1 hg2 (by omega)) hal
  have hr3 := hr2.kept hal
  have hq3 := hq2.later hal
  have hz2 := hg2.size
  clear hR1 hS1 B1 hg2 hq2 hr2 hr hal
  go_wp2_with fail
  generalize w2.alloc (.cells #[.int .i64 next, .slice A2 n2 c2] 29) = w3 at *
  have i0 := hI3.cellAt 0 (by simp)
  simp only [List.getElem_cons_zero] at i0
  go_wp2_with fail
  refine (l20Message_any g q2 next w3 hr3 (by omega) h0 (by omega)).mono ?_
  rintro e w4 ⟨_, rfl, x, rfl, hx1, hx2, hr4, hg4⟩
  have hal : Below w4.heap.size w4 (w4.alloc (.cells #[.int .i64 x, .int .i64 (idOf x)] 41)) := (Below.refl _ _).alloc (Nat.le_refl _) _
  have hM5 : Blk (w4.alloc (.cells #[.int .i64 x, .int .i64 (idOf x)] 41)) w4.heap.size 41 [.int .i64 x, .int .i64 (idOf x)] := Blk.new _ _ _
  have hz3 := hI3.lt
  have hI5 := (hI3.only hg4 (by omega)).later hal
  have hR5 := (hR3.only hg4 (by omega)).later hal
  have hS5 := (hS3.only hg4 (by omega)).later hal
  have hB5 := below_trans (below_only hB3 hg4 (by omega)) hal
  have hr5 := hr4.kept hal
  have hq5 := (hq3.only hg4 (by omega)).later hal
  have hz4 := hg4.size
  have hid := idOf_in x
  clear hI3 hR3 hS3 hB3 hr3 hq3 hg4 hr4 hal i0
  generalize idOf x = y at *
  go_wp2_with fail
  generalize w4.alloc (.cells #[.int .i64 x, .int .i64 y] 41) = w5 at *
  refine (odd_any g (q2 + 1) 12 w5 hr5 (by omega) (by omega)).mono ?_
  rintro e w6 ⟨b, rfl, q6, h61, h62, hr6, hg6⟩
  have hM6 := hM5.only hg6 (by omega)
  have hI6 := hI5.only hg6 (by omega)
  have hR6 := hR5.only hg6 (by omega)
  have hS6 := hS5.only hg6 (by omega)
  have hB6 := below_only hB5 hg6 (by omega)
  have hq6 := hq5.only hg6 (by omega)
  have hz6 := hg6.size
  have hz5 := hM5.lt
  clear hM5 hI5 hR5 hS5 hB5 hr5 hq5 hg6
  cases b
  · go_wp2_with fail
    have i0 := hI6.cellAt 0 (by simp)
    have i1 := hI6.cellAt 1 (by simp)
    have m0 := hM6.cellAt 0 (by simp)
    have m1 := hM6.cellAt 1 (by simp)
    have r0 := hR6.cellAt 0 (by simp)
    have r1 := hR6.cellAt 1 (by simp)
    have rf0 := hR6.frozen 0
    have rf1 := hR6.frozen 1
    have s0 := hS6.cellAt 0 (by simp)
    have s1 := hS6.cellAt 1 (by simp)
    have sf0 := hS6.frozen 0
    have sf1 := hS6.frozen 1
    simp only [List.getElem_cons_zero, List.getElem_cons_succ] at i0 i1 m0 m1 r0 r1 s0 s1
    have HB := Lib.hid hB6
    have HQ := Lib.hid hq6
    have hzR : w.heap.size + 1 < w6.heap.size := by omega
    clear hM6 hI6 hR6 hS6 hB6 hq6
    go_region
    all_goals
      go_wp2_with fail
      refine bodyPost_ret (v := .tuple #[.agg #[.int .i64 next, .slice A2 n2 c2], .agg #[.int .i64 x, .int .i64 y]]) (by simp [results, Try.results28, go_sem, *]) rfl ?_
      exact inbMsg_fin (HB.out) (by first | exact out2 | exact out2' | exact out_drew out2 | exact out_drew out2') (HQ.out.wide (by omega) (Nat.le_refl _) (HQ.out.2.2.2.1)) h0 h1 hn
  · have hal : Below w6.heap.size w6 (w6.alloc (.cells [Value.int .i64 0, .int .i64 1000].toArray 3)) := (Below.refl _ _).alloc (Nat.le_refl _) _
    go_wp2_with fail
    refine (pick_any g q6 2 _ (hr6.kept hal) (by omega) (by omega)).mono ?_
    rintro e w7 ⟨z, rfl, ⟨hy0, hy1, _⟩, hr7, hg7⟩
    have hL := (Blk.new w6 3 [Value.int .i64 0, .int .i64 1000]).only hg7 (by omega)
    have hM7 := (hM6.later hal).only hg7 (by omega)
    have hI7 := (hI6.later hal).only hg7 (by omega)
    have hR7 := (hR6.later hal).only hg7 (by omega)
    have hS7 := (hS6.later hal).only hg7 (by omega)
    have hB7 := below_only (below_trans hB6 hal) hg7 (by omega)
    have hq7 := (hq6.later hal).only hg7 (by omega)
    have hz7 := Nat.le_trans hal.size hg7.size
    have hz2' := hy1 (by omega)
    clear hM6 hI6 hR6 hS6 hB6 hq6 hg7 hr6 hr7 hal hy1
    have hL0 := hL.cellAt 0 (by simp)
    have hL1 := hL.cellAt 1 (by simp)
    have m1 := hM7.cellAt 1 (by simp)
    have mf1 := hM7.frozen 1
    simp only [List.getElem_cons_zero, List.getElem_cons_succ] at hL0 hL1 m1
    have HM := Lib.hid hM7
    have HI := Lib.hid hI7
    have HR := Lib.hid hR7
    have HS := Lib.hid hS7
    have HB := Lib.hid hB7
    have HQ := Lib.hid hq7
    clear hM7 hI7 hR7 hS7 hB7 hq7
    obtain rfl | rfl : z = 0 ∨ z = 1 := by omega
    · go_wp2_with fail
      have hO : Out w4.heap.size (w4.heap.size + 1) w7 (w7.setCell ⟨w4.heap.size, 1, none⟩ (.int .i64 0)) := out_set (Out.refl _ _ _) _ _ _ (Nat.le_refl _) (by omega)
      have hM6 := HM.out.set_ 1 (.int .i64 0)
      have hI6 := HI.out.offO hO (.inl (by omega))
      have hR6 := HR.out.offO hO (.inl (by omega))
      have hS6 := HS.out.offO hO (.inl (by omega))
      have hB6 := below_out HB.out hO (by omega)
      have hq6 := HQ.out.out hO (.inl (by omega))
      have hz8 := hO.size
      clear hO HM HI HR HS HB HQ hL0 hL1 m1 mf1
      generalize w7.setCell ⟨w4.heap.size, 1, none⟩ (.int .i64 0) = w8 at *
      have i0 := hI6.cellAt 0 (by simp)
      have i1 := hI6.cellAt 1 (by simp)
      have m0 := hM6.cellAt 0 (by simp)
      have m1 := hM6.cellAt 1 (by simp)
      have r0 := hR6.cellAt 0 (by simp)
      have r1 := hR6.cellAt 1 (by simp)
      have rf0 := hR6.frozen 0
      have rf1 := hR6.frozen 1
      have s0 := hS6.cellAt 0 (by simp)
      have s1 := hS6.cellAt 1 (by simp)
      have sf0 := hS6.frozen 0
      have sf1 := hS6.frozen 1
      simp only [List.getElem_cons_zero, List.getElem_cons_succ] at i0 i1 m0 m1 r0 r1 s0 s1
      have HB := Lib.hid hB6
      have HQ := Lib.hid hq6
      have hzR : w.heap.size + 1 < w8.heap.size := by omega
      clear hM6 hI6 hR6 hS6 hB6 hq6
      go_region
      all_goals
        go_wp2_with fail
        refine bodyPost_ret (v := .tuple #[.agg #[.int .i64 next, .slice A2 n2 c2], .agg #[.int .i64 x, .int .i64 0]]) (by simp [results, Try.results28, go_sem, *]) rfl ?_
        exact inbMsg_fin (HB.out) (by first | exact out2 | exact out2' | exact out_drew out2 | exact out_drew out2') (HQ.out.wide (by omega) (Nat.le_refl _) (HQ.out.2.2.2.1)) h0 h1 hn
    · go_wp2_with fail
      have hO : Out w4.heap.size (w4.heap.size + 1) w7 (w7.setCell ⟨w4.heap.size, 1, none⟩ (.int .i64 1000)) := out_set (Out.refl _ _ _) _ _ _ (Nat.le_refl _) (by omega)
      have hM6 := HM.out.set_ 1 (.int .i64 1000)
      have hI6 := HI.out.offO hO (.inl (by omega))
      have hR6 := HR.out.offO hO (.inl (by omega))
      have hS6 := HS.out.offO hO (.inl (by omega))
      have hB6 := below_out HB.out hO (by omega)
      have hq6 := HQ.out.out hO (.inl (by omega))
      have hz8 := hO.size
      clear hO HM HI HR HS HB HQ hL0 hL1 m1 mf1
      generalize w7.setCell ⟨w4.heap.size, 1, none⟩ (.int .i64 1000) = w8 at *
      have i0 := hI6.cellAt 0 (by simp)
      have i1 := hI6.cellAt 1 (by simp)
      have m0 := hM6.cellAt 0 (by simp)
      have m1 := hM6.cellAt 1 (by simp)
      have r0 := hR6.cellAt 0 (by simp)
      have r1 := hR6.cellAt 1 (by simp)
      have rf0 := hR6.frozen 0
      have rf1 := hR6.frozen 1
      have s0 := hS6.cellAt 0 (by simp)
      have s1 := hS6.cellAt 1 (by simp)
      have sf0 := hS6.frozen 0
      have sf1 := hS6.frozen 1
      simp only [List.getElem_cons_zero, List.getElem_cons_succ] at i0 i1 m0 m1 r0 r1 s0 s1
      have HB := Lib.hid hB6
      have HQ := Lib.hid hq6
      have hzR : w.heap.size + 1 < w8.heap.size := by omega
      clear hM6 hI6 hR6 hS6 hB6 hq6
      go_region
      all_goals
        go_wp2_with fail
        refine bodyPost_ret (v := .tuple #[.agg #[.int .i64 next, .slice A2 n2 c2], .agg #[.int .i64 x, .int .i64 1000]]) (by simp [results, Try.results28, go_sem, *]) rfl ?_
        exact inbMsg_fin (HB.out) (by first | exact out2 | exact out2' | exact out_drew out2 | exact out_drew out2') (HQ.out.wide (by omega) (Nat.le_refl _) (HQ.out.2.2.2.1)) h0 h1 hn
end Go.Proofs.Ytnbppfgfmhfgdaa
