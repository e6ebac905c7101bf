/- FnPaperDo returns true, for every code; no condition. -/
import Derived.Test.YtpkbipjnobfcdaaPapW
namespace Go.Proofs.Ytpkbipjnobfcdaa
open Go Go.ChangeShapes Go.WideShapes Go.ChangeAt Go.RowKit
set_option linter.unusedVariables false
set_option linter.unusedSimpArgs false
set_option maxRecDepth 100000 in
set_option maxHeartbeats 4000000 in
theorem walkFnPaperDo (w : World) (A : Option Addr) (n c : Nat) (bs : List Int) (h : Code w A n c bs) :
    Calls Try.prog 4 #[.slice A n c] w fun e w' => e = .returned (.bool true) ∧ Below w.heap.size w w' := by
  by_cases hn : (n : Int) ≤ 1048576
  · go_enter Try.func4, Try.ntmps4
    go_wp2_with fail
    refine (drawPaperDo_any A n c bs w h).mono ?_
    rintro e w1 ⟨_, _, rfl, hs, ls, k, x, mk, ⟨HA, pn, hc, LA, pm, lc, rfl, e1, e2, e3, e4, o1, o2⟩, rfl, hb1⟩
    have hal : Below w1.heap.size w1 ((w1.alloc (.cells #[.slice HA pn hc, .slice LA pm lc] 26)).alloc (.cells #[.int .i64 k, .int .i64 x, .int .i64 mk] 41)) := ((Below.refl _ _).alloc (Nat.le_refl _) _).alloc (by simp) _
    have P2 : Hid (PapB ((w1.alloc (.cells #[.slice HA pn hc, .slice LA pm lc] 26)).alloc (.cells #[.int .i64 k, .int .i64 x, .int .i64 mk] 41)) w1.heap.size HA pn hc LA pm lc ⟨hs, ls⟩) := Lib.hid ((PapB.new (papQ_own (p := ⟨hs, ls⟩) e1 e2 e3 e4 o1 o2)).later ((Below.refl _ _).alloc (Nat.le_refl _) _))
    have hE2 := Blk.new (w1.alloc (.cells #[.slice HA pn hc, .slice LA pm lc] 26)) 41 [.int .i64 k, .int .i64 x, .int .i64 mk]
    simp only [World.size_alloc] at hE2
    have E2 := Lib.hid hE2
    have B2 := Lib.hid (below_trans hb1 hal)
    clear h e1 e2 o1 o2 hb1 hal hE2
    go_wp2_with fail
    generalize (w1.alloc (.cells #[.slice HA pn hc, .slice LA pm lc] 26)).alloc (.cells #[.int .i64 k, .int .i64 x, .int .i64 mk] 41) = w2 at *
    generalize w1.heap.size = qp at *
    have p0 := (P2.out).blk.cellAt 0 (by simp)
    have p1 := (P2.out).blk.cellAt 1 (by simp)
    simp only [List.getElem_cons_zero, List.getElem_cons_succ] at p0 p1
    have e0 := (E2.out).cellAt 0 (by simp)
    have e1 := (E2.out).cellAt 1 (by simp)
    have e2 := (E2.out).cellAt 2 (by simp)
    simp only [List.getElem_cons_zero, List.getElem_cons_succ] at e0 e1 e2
    have HW := Lib.hid (paperDo_ways ⟨hs, ls⟩ k x mk)
    generalize hp : (⟨hs, ls⟩ : PapV) = p at *
    clear hp
    generalize hr : paperDo p k x mk = r at *
    have HR := Lib.hid hr
    obtain ⟨p', bb⟩ := r
    have hqq : (bb != bb) = false := by simp
    clear hr
    refine (implDoR HR.out P2.out.rd).mono ?_
    rintro e w3 ⟨A3, n3, c3, L3, m3, lc3, rfl, h3, b3⟩
    have hal : Below w3.heap.size w3 (w3.alloc (.cells #[.slice A3 n3 c3, .slice L3 m3 lc3] 26)) := (Below.refl _ _).alloc (Nat.le_refl _) _
    have X4 := Lib.hid (PapB.new h3)
    have b4 := below_trans b3 hal
    have P4 := Lib.hid (P2.out.later b4)
    have E4 := Lib.hid (E2.out.later b4)
    have B4 := Lib.hid (below_trans B2.out b4)
    clear h3 b3 hal b4 p0 p1 e0 e1 e2 P2 E2 B2
    have p0 := (P4.out).blk.cellAt 0 (by simp)
    have p1 := (P4.out).blk.cellAt 1 (by simp)
    simp only [List.getElem_cons_zero, List.getElem_cons_succ] at p0 p1
    have e0 := (E4.out).cellAt 0 (by simp)
    have e1 := (E4.out).cellAt 1 (by simp)
    have e2 := (E4.out).cellAt 2 (by simp)
    simp only [List.getElem_cons_zero, List.getElem_cons_succ] at e0 e1 e2
    go_wp2_with fail
    generalize w3.alloc (.cells #[.slice A3 n3 c3, .slice L3 m3 lc3] 26) = w4 at *
    generalize w3.heap.size = qx at *
    refine (specDoR HR.out P4.out.rd).mono ?_
    rintro e w5 ⟨A5, n5, c5, L5, m5, lc5, rfl, h5, b5⟩
    have hal : Below w5.heap.size w5 (w5.alloc (.cells #[.slice A5 n5 c5, .slice L5 m5 lc5] 26)) := (Below.refl _ _).alloc (Nat.le_refl _) _
    have Y6 := Lib.hid (PapB.new h5)
    have b6 := below_trans b5 hal
    have P6 := Lib.hid (P4.out.later b6)
    have E6 := Lib.hid (E4.out.later b6)
    have X6 := Lib.hid (X4.out.later b6)
    have B6 := Lib.hid (below_trans B4.out b6)
    clear h5 b5 hal b6 p0 p1 e0 e1 e2 P4 E4 X4 B4
    have x0 := (X6.out).blk.cellAt 0 (by simp)
    have x1 := (X6.out).blk.cellAt 1 (by simp)
    simp only [List.getElem_cons_zero, List.getElem_cons_succ] at x0 x1
    have y0 := (Y6.out).blk.cellAt 0 (by simp)
    have y1 := (Y6.out).blk.cellAt 1 (by simp)
    simp only [List.getElem_cons_zero, List.getElem_cons_succ] at y0 y1
    go_wp2_with fail
    generalize w5.alloc (.cells #[.slice A5 n5 c5, .slice L5 m5 lc5] 26) = w6 at *
    generalize w5.heap.size = qy at *
    refine (sameR (same_refl _) X6.out.rd Y6.out.rd).mono ?_
    rintro e w7 ⟨rfl, b7⟩
    have P7 := Lib.hid (P6.out.later b7)
    have E7 := Lib.hid (E6.out.later b7)
    have X7 := Lib.hid (X6.out.later b7)
    have B7 := Lib.hid (below_trans B6.out b7)
    clear b7 x0 x1 y0 y1 P6 E6 X6 Y6 B6
    have p0 := (P7.out).blk.cellAt 0 (by simp)
    have p1 := (P7.out).blk.cellAt 1 (by simp)
    simp only [List.getElem_cons_zero, List.getElem_cons_succ] at p0 p1
    have x0 := (X7.out).blk.cellAt 0 (by simp)
    have x1 := (X7.out).blk.cellAt 1 (by simp)
    simp only [List.getElem_cons_zero, List.getElem_cons_succ] at x0 x1
    cases bb with
    | false =>
      rcases HW.out with ⟨hv, e⟩ | ⟨hv, e⟩ | ⟨_, _, e, _⟩
      · obtain rfl : p' = ⟨[], []⟩ := congrArg Prod.fst e
        have HV := Lib.hid hv
        clear hv e HW
        go_wp2_with fail
        generalize hsm : (decide (([] : List HoldV) = p.hs) && decide (([] : List Int) = p.ls)) = sm
        have cS := Lib.hid (sameR (b := sm) hsm X7.out.rd P7.out.rd)
        clear hsm
        refine cS.out.mono ?_
        rintro e w8 ⟨rfl, b8⟩
        have P8 := Lib.hid (P7.out.later b8)
        have B8 := Lib.hid (below_trans B7.out b8)
        clear b8 p0 p1 x0 x1 P7 E7 X7 B7 cS
        have p0 := (P8.out).blk.cellAt 0 (by simp)
        have p1 := (P8.out).blk.cellAt 1 (by simp)
        simp only [List.getElem_cons_zero, List.getElem_cons_succ] at p0 p1
        cases sm with
        | true =>
          go_wp2_with fail
          refine (alive_any _).mono ?_
          rintro e w' ⟨rfl, rfl⟩
          go_wp2_with fail
          go_ret
          exact ⟨rfl, B8.out⟩
        | false =>
          go_wp2_with fail
          refine (implValidR HV.out P8.out.rd).mono ?_
          rintro e w9 ⟨rfl, b9⟩
          have B9 := Lib.hid (below_trans B8.out b9)
          clear b9 p0 p1 P8 B8
          go_wp2_with fail
          refine (alive_any _).mono ?_
          rintro e w' ⟨rfl, rfl⟩
          go_wp2_with fail
          go_ret
          exact ⟨rfl, B9.out⟩
      · obtain rfl : p' = p := congrArg Prod.fst e
        clear hv e HW
        go_wp2_with fail
        refine (sameR (same_refl _) X7.out.rd P7.out.rd).mono ?_
        rintro e w8 ⟨rfl, b8⟩
        have B8 := Lib.hid (below_trans B7.out b8)
        clear b8 p0 p1 x0 x1 P7 E7 X7 B7
        go_wp2_with fail
        refine (alive_any _).mono ?_
        rintro e w' ⟨rfl, rfl⟩
        go_wp2_with fail
        go_ret
        exact ⟨rfl, B8.out⟩
      · have : false = true := congrArg Prod.snd e
        cases this
    | true =>
      rcases HW.out with ⟨_, e⟩ | ⟨_, e⟩ | ⟨p2, hv, e, hv2, hne, ha⟩
      · have : true = false := congrArg Prod.snd e
        cases this
      · have : true = false := congrArg Prod.snd e
        cases this
      · obtain rfl : p' = p2 := congrArg Prod.fst e
        have HV2 := Lib.hid hv2
        have HA2 := Lib.hid ha
        have HNE : Hid ((decide (p'.hs = p.hs) && decide (p'.ls = p.ls)) = false) := Lib.hid (by
          by_cases h1 : p'.hs = p.hs
          · have h2 : ¬ p'.ls = p.ls := fun h2 => hne ⟨h1, h2⟩
            simp [h2]
          · simp [h1])
        clear hv hv2 ha hne e HW
        have e0 := (E7.out).cellAt 0 (by simp)
        have e1 := (E7.out).cellAt 1 (by simp)
        have e2 := (E7.out).cellAt 2 (by simp)
        simp only [List.getElem_cons_zero, List.getElem_cons_succ] at e0 e1 e2
        go_wp2_with fail
        refine (implDoR HA2.out X7.out.rd).mono ?_
        rintro e w8 ⟨A8, n8, c8, L8, m8, lc8, rfl, h8, b8⟩
        have hal : Below w8.heap.size w8 (w8.alloc (.cells #[.slice A8 n8 c8, .slice L8 m8 lc8] 26)) := (Below.refl _ _).alloc (Nat.le_refl _) _
        have b9 := below_trans b8 hal
        have P9 := Lib.hid (P7.out.later b9)
        have X9 := Lib.hid (X7.out.later b9)
        have B9 := Lib.hid (below_trans B7.out b9)
        clear h8 b8 hal b9 p0 p1 x0 x1 e0 e1 e2 P7 E7 X7 B7
        have x0 := (X9.out).blk.cellAt 0 (by simp)
        have x1 := (X9.out).blk.cellAt 1 (by simp)
        simp only [List.getElem_cons_zero, List.getElem_cons_succ] at x0 x1
        go_wp2_with fail
        generalize w8.alloc (.cells #[.slice A8 n8 c8, .slice L8 m8 lc8] 26) = w9 at *
        refine (implValidR HV2.out X9.out.rd).mono ?_
        rintro e w10 ⟨rfl, b10⟩
        have P10 := Lib.hid (P9.out.later b10)
        have X10 := Lib.hid (X9.out.later b10)
        have B10 := Lib.hid (below_trans B9.out b10)
        clear b10 x0 x1 P9 X9 B9
        have p0 := (P10.out).blk.cellAt 0 (by simp)
        have p1 := (P10.out).blk.cellAt 1 (by simp)
        simp only [List.getElem_cons_zero, List.getElem_cons_succ] at p0 p1
        have x0 := (X10.out).blk.cellAt 0 (by simp)
        have x1 := (X10.out).blk.cellAt 1 (by simp)
        simp only [List.getElem_cons_zero, List.getElem_cons_succ] at x0 x1
        go_wp2_with fail
        refine (sameR HNE.out X10.out.rd P10.out.rd).mono ?_
        rintro e w11 ⟨rfl, b11⟩
        have B11 := Lib.hid (below_trans B10.out b11)
        clear b11 x0 x1 p0 p1 P10 X10 B10
        go_wp2_with fail
        go_ret
        exact ⟨rfl, B11.out⟩
  · go_enter Try.func4, Try.ntmps4
    go_wp2_with fail
    go_ret
    exact ⟨rfl, Below.refl _ _⟩
end Go.Proofs.Ytpkbipjnobfcdaa
