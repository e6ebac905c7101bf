/- A yard, a stack and a box that are drawn. -/
import Derived.Test.YtcbeoaedccdppaaDrawYardT
namespace Go.Proofs.Ytcbeoaedccdppaa
open Go Go.ChangeShapes Go.WideShapes Go.ChangeAt Go.RowKit
set_option linter.unusedVariables false
set_option linter.unusedSimpArgs false
/-- a yard and two numbers that were drawn -/
def YardPutD (w : World) : Ending → World → Prop :=
  RVal fun u w' => ∃ high A c rows, ∃ i x : Int, u = .tuple #[.agg #[.int .i64 high, .slice A rows.length c], .int .i64 i, .int .i64 x] ∧ RdRR w' A (intss rows) ∧ YardLow rows ∧ Below w.heap.size w w'
set_option maxHeartbeats 2000000 in
theorem drawYardPut_any (A : Option Addr) (n c : Nat) (bs : List Int) (w : World) (h : Code w A n c bs) : Calls Try.prog 15 #[.slice A n c] w (YardPutD w) := by
  have hal : Below w.heap.size w (w.alloc (.cells #[.int .i64 0, .slice none 0 0] 27)) := (Below.refl _ _).alloc (Nat.le_refl _) _
  have hR0 : Blk (w.alloc (.cells #[.int .i64 0, .slice none 0 0] 27)) w.heap.size 27 [.int .i64 0, .slice none 0 0] := Blk.new _ _ _
  have h1 := codeY_below h hal
  have HAL := Lib.hid hal
  clear h hal
  go_enter Try.func15, Try.ntmps15
  go_wp2_with fail
  refine (open_any A n c bs _ h1).mono ?_
  rintro e w1 ⟨v, rfl, g, rfl, hg, hr, hb⟩
  have hg : w.heap.size + 1 ≤ g := by simpa using hg
  have hR1 := hR0.later hb
  have HB1 := Lib.hid (HAL.out.trans (hb.mono (by simp)))
  have hs1 : w.heap.size + 1 ≤ w1.heap.size := by have := hb.size; simpa using this
  clear hR0 h1 hb
  go_wp2_with fail
  refine (l20Yard_any g 0 9 w1 hr (by omega) (by omega)).mono ?_
  rintro e w2 ⟨_, rfl, high, A2, c2, rows, q2, rfl, ⟨lo, hlo, hO⟩, hL, hq, hr2, hg2⟩
  have hR2 := hR1.only hg2 (by omega)
  have hgl := hr.lt
  have HB2 := Lib.hid (HB1.out.grown hg2 (by omega) (fun k e => by injection e with e; omega))
  have hal3 : Below w2.heap.size w2 (w2.alloc (.cells #[.int .i64 high, .slice A2 rows.length c2] 27)) := (Below.refl _ _).alloc (Nat.le_refl _) _
  have hR3 := hR2.later hal3
  have hY3 : Blk (w2.alloc (.cells #[.int .i64 high, .slice A2 rows.length c2] 27)) w2.heap.size 27 [.int .i64 high, .slice A2 rows.length c2] := Blk.new _ _ _
  have hr3 := hr2.kept hal3
  have HO3 := Lib.hid (hO.later hal3)
  have HB3 := Lib.hid (below_trans HB2.out hal3)
  have hs2 : w1.heap.size ≤ w2.heap.size := hg2.size
  have hrow7 : rows.length ≤ 7 := hL.1
  have HL := Lib.hid hL
  clear hg2 hR1 hR2 hr hr2 hal3 hO hL HB1
  go_wp2_with fail
  generalize w2.alloc (.cells #[.int .i64 high, .slice A2 rows.length c2] 27) = w3 at *
  generalize w2.heap.size = qy at *
  have hgq : g < qy := by omega
  refine (pick_any g q2 50 _ hr3 (by omega) (by omega)).mono ?_
  rintro e w4 ⟨v50, rfl, ⟨v500, v501, _⟩, hr4, hg4⟩
  have hb3 : IntKind.i64.wrap (300 + v50) = 300 + v50 := by have := v501 (by omega); exact IntWalk.i64_in _ (by omega)
  have HR4 := Lib.hid (hR3.only hg4 (by omega))
  have HY4 := Lib.hid (hY3.only hg4 (by omega))
  have HO4 := Lib.hid (HO3.out.only hg4 (by omega))
  have HB4 := Lib.hid (HB3.out.grown hg4 HB3.out.size (fun k e => by injection e with e; omega))
  clear hg4 hr3 hR3 hY3 HO3 HB3 v501
  go_wp2_with fail
  refine (odd_any g (q2 + 1) 6 _ hr4 (by omega) (by omega)).mono ?_
  rintro e w5 ⟨bb, rfl, q5, hq50, hq51, hr5, hg5⟩
  have HR5 := Lib.hid (HR4.out.only hg5 (by omega))
  have HY5 := Lib.hid (HY4.out.only hg5 (by omega))
  have HO5 := Lib.hid (HO4.out.only hg5 (by omega))
  have HB5 := Lib.hid (HB4.out.grown hg5 HB4.out.size (fun k e => by injection e with e; omega))
  clear hg5 hr4 HR4 HY4 HO4 HB4
  cases bb
  · go_upto_region 6 with fail
    have y0 := HY5.out.cellAt 0 (by simp)
    have y1 := HY5.out.cellAt 1 (by simp)
    simp only [List.getElem_cons_zero, List.getElem_cons_succ] at y0 y1
    have HRD := Lib.hid hr5
    have ly := HY5.out.lt
    have hb1 : IntKind.i64.wrap ((rows.length : Int) + 1) = (rows.length : Int) + 1 := IntWalk.i64_in _ (by omega)
    have hne : g ≠ qy := by omega
    clear hr5
    go_region_held3 (fun W => W.cell? ⟨qy, 0, none⟩ = some (.int .i64 high) ∧ W.cell? ⟨qy, 1, none⟩ = some (.slice A2 rows.length c2))
      (first | exact ⟨y0, y1⟩ | assumption | exact ⟨far_cellY (far_cellY kb.1 (by omega)) (by omega), far_cellY (far_cellY kb.2 (by omega)) (by omega)⟩)
      (first
        | (go_at_call 34; (with_reducible refine (pick_any g (q5) ((rows.length : Int) + 1) _ (HRD.out.kept (Below.drew (Below.refl _ _))) (by omega) (by omega)).mono ?_); rintro e wa ⟨va, rfl, ⟨va0, va1, va2⟩, hra, hga⟩; have hga' := only_trans (only_below (Below.drew (Below.refl w5.heap.size w5)) g) hga; have Ya := HY5.out.only hga' (Ne.symm hne); have ka : wa.cell? ⟨qy, 0, none⟩ = some (.int .i64 high) ∧ wa.cell? ⟨qy, 1, none⟩ = some (.slice A2 rows.length c2) := ⟨Ya.cellAt 0 (by simp), Ya.cellAt 1 (by simp)⟩)
        | (go_at_call 34; (with_reducible refine (pick_any g (q5 + 1) 20 _ hra (by omega) (by omega)).mono ?_); rintro e wb ⟨vb, rfl, ⟨vb0, vb1, vb2⟩, hrb, hgb⟩; have hgb' := only_trans hga' hgb; have Yb := Ya.only hgb (Ne.symm hne); have kb : wb.cell? ⟨qy, 0, none⟩ = some (.int .i64 high) ∧ wb.cell? ⟨qy, 1, none⟩ = some (.slice A2 rows.length c2) := ⟨Yb.cellAt 0 (by simp), Yb.cellAt 1 (by simp)⟩; have Rb := HR5.out.only hgb' (by omega); have z0 := Rb.cellAt 0 (by simp); have z1 := Rb.cellAt 1 (by simp); simp only [List.getElem_cons_zero, List.getElem_cons_succ] at z0 z1; have f0 := Rb.frozen 0; have f1 := Rb.frozen 1))
    generalize IntKind.i64.wrap (va - IntKind.i64.wrap (vb.tdiv 19)) = at_ at *
    have hR := (Rb.set_ 0 (.int .i64 high)).set_ 1 (.slice A2 rows.length c2)
    have hR1 := Rb.set_ 0 (.int .i64 high)
    have u0 := hR1.cellAt 0 (by simp)
    have u0' := hR.cellAt 0 (by simp)
    have u1 := hR.cellAt 1 (by simp)
    simp only [List.set_cons_zero, List.set_cons_succ, List.getElem_cons_zero, List.getElem_cons_succ] at u0 u0' u1
    have hO7 := HO5.out.only hgb' (by omega)
    have hB7 := HB5.out.grown hgb' (Nat.le_trans HB5.out.size (Nat.le_refl _)) (fun k e => by injection e with e; omega)
    have hlo2 : w.heap.size < lo := by omega
    have HO7 := Lib.hid hO7
    have HB7 := Lib.hid hB7
    clear hO7 hB7 ka kb
    go_wp2_with fail
    refine bodyPost_ret (v := .tuple #[.agg #[.int .i64 high, .slice A2 rows.length c2], .int .i64 at_, .int .i64 (300 + v50)]) (by simp [results, Try.results15, go_sem, *]) rfl ?_
    exact RVal.mk ⟨high, A2, c2, rows, at_, 300 + v50, rfl, ((HO7.out.set hlo2 _).set hlo2 _).rd, HL.out, (HB7.out.setCell (p := ⟨w.heap.size, 0, none⟩) (Nat.le_refl _) _).setCell (p := ⟨w.heap.size, 1, none⟩) (Nat.le_refl _) _⟩
  · go_wp2_with fail
    refine (pick_any g q5 20 _ hr5 (by omega) (by omega)).mono ?_
    rintro e w6 ⟨v20, rfl, _, hr6, hg6⟩
    have HR6 := Lib.hid (HR5.out.only hg6 (by omega))
    have HY6 := Lib.hid (HY5.out.only hg6 (by omega))
    have HO6 := Lib.hid (HO5.out.only hg6 (by omega))
    have HB6 := Lib.hid (HB5.out.grown hg6 HB5.out.size (fun k e => by injection e with e; omega))
    clear hg6 hr5 HR5 HY5 HO5 HB5
    go_upto_region 6 with fail
    have y0 := HY6.out.cellAt 0 (by simp)
    have y1 := HY6.out.cellAt 1 (by simp)
    simp only [List.getElem_cons_zero, List.getElem_cons_succ] at y0 y1
    have HRD := Lib.hid hr6
    have ly := HY6.out.lt
    have hb1 : IntKind.i64.wrap ((rows.length : Int) + 1) = (rows.length : Int) + 1 := IntWalk.i64_in _ (by omega)
    have hne : g ≠ qy := by omega
    clear hr6
    go_region_held3 (fun W => W.cell? ⟨qy, 0, none⟩ = some (.int .i64 high) ∧ W.cell? ⟨qy, 1, none⟩ = some (.slice A2 rows.length c2))
      (first | exact ⟨y0, y1⟩ | assumption | exact ⟨far_cellY (far_cellY kb.1 (by omega)) (by omega), far_cellY (far_cellY kb.2 (by omega)) (by omega)⟩)
      (first
        | (go_at_call 34; (with_reducible refine (pick_any g (q5 + 1) ((rows.length : Int) + 1) _ (HRD.out.kept (Below.drew (Below.refl _ _))) (by omega) (by omega)).mono ?_); rintro e wa ⟨va, rfl, ⟨va0, va1, va2⟩, hra, hga⟩; have hga' := only_trans (only_below (Below.drew (Below.refl w6.heap.size w6)) g) hga; have Ya := HY6.out.only hga' (Ne.symm hne); have ka : wa.cell? ⟨qy, 0, none⟩ = some (.int .i64 high) ∧ wa.cell? ⟨qy, 1, none⟩ = some (.slice A2 rows.length c2) := ⟨Ya.cellAt 0 (by simp), Ya.cellAt 1 (by simp)⟩)
        | (go_at_call 34; (with_reducible refine (pick_any g (q5 + 1 + 1) 20 _ hra (by omega) (by omega)).mono ?_); rintro e wb ⟨vb, rfl, ⟨vb0, vb1, vb2⟩, hrb, hgb⟩; have hgb' := only_trans hga' hgb; have Yb := Ya.only hgb (Ne.symm hne); have kb : wb.cell? ⟨qy, 0, none⟩ = some (.int .i64 high) ∧ wb.cell? ⟨qy, 1, none⟩ = some (.slice A2 rows.length c2) := ⟨Yb.cellAt 0 (by simp), Yb.cellAt 1 (by simp)⟩; have Rb := HR6.out.only hgb' (by omega); have z0 := Rb.cellAt 0 (by simp); have z1 := Rb.cellAt 1 (by simp); simp only [List.getElem_cons_zero, List.getElem_cons_succ] at z0 z1; have f0 := Rb.frozen 0; have f1 := Rb.frozen 1))
    generalize IntKind.i64.wrap (va - IntKind.i64.wrap (vb.tdiv 19)) = at_ at *
    have hR := (Rb.set_ 0 (.int .i64 high)).set_ 1 (.slice A2 rows.length c2)
    have hR1 := Rb.set_ 0 (.int .i64 high)
    have u0 := hR1.cellAt 0 (by simp)
    have u0' := hR.cellAt 0 (by simp)
    have u1 := hR.cellAt 1 (by simp)
    simp only [List.set_cons_zero, List.set_cons_succ, List.getElem_cons_zero, List.getElem_cons_succ] at u0 u0' u1
    have hO7 := HO6.out.only hgb' (by omega)
    have hB7 := HB6.out.grown hgb' (Nat.le_trans HB6.out.size (Nat.le_refl _)) (fun k e => by injection e with e; omega)
    have hlo2 : w.heap.size < lo := by omega
    have HO7 := Lib.hid hO7
    have HB7 := Lib.hid hB7
    clear hO7 hB7 ka kb
    go_wp2_with fail
    refine bodyPost_ret (v := .tuple #[.agg #[.int .i64 high, .slice A2 rows.length c2], .int .i64 at_, .int .i64 (v20)]) (by simp [results, Try.results15, go_sem, *]) rfl ?_
    exact RVal.mk ⟨high, A2, c2, rows, at_, v20, rfl, ((HO7.out.set hlo2 _).set hlo2 _).rd, HL.out, (HB7.out.setCell (p := ⟨w.heap.size, 0, none⟩) (Nat.le_refl _) _).setCell (p := ⟨w.heap.size, 1, none⟩) (Nat.le_refl _) _⟩
end Go.Proofs.Ytcbeoaedccdppaa
