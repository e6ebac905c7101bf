/- FnTermWhere returns true, for every code; no condition. -/
import Derived.Test.YtbkfhcbecejomaaGreatMg25
import Derived.Test.YtbkfhcbecejomaaGreatMg17
import Derived.Test.YtbkfhcbecejomaaGreatMg12
import Derived.Test.YtbkfhcbecejomaaGreatMg18
import Derived.Test.YtbkfhcbecejomaaGreatMg5
import Derived.Deep.QuietTactic
import Derived.BigQuiet
namespace Go.Proofs.YtbkfhcbecejomaaGreat
open Go Go.ChangeShapes Go.WideShapes Go.ChangeAt Go.RowKit
set_option linter.unusedVariables false
set_option linter.unusedSimpArgs false
set_option maxRecDepth 100000 in
set_option maxHeartbeats 8000000 in
theorem walkFnTermWhere (w : World) (A : Option Addr) (n c : Nat) (cs : List Int) (h : Code w A n c cs) :
    Calls Tryz.prog 4 #[.slice A n c] w fun e w' => e = .returned (.bool true) ∧ Below w.heap.size w w' := by
  have hmx := h.max
  by_cases hn : n ≤ 1048576
  · go_enter Tryz.func4, Tryz.ntmps4
    go_wp2_with fail
    refine (drawTermWhere_any A n c cs _ h).mono ?_
    rintro e w1 ⟨_, rfl, high, y0, y1, y2, YB, yn, yd, BB, bn, bd, PB, pn, pd, HB, hn, hd, LB, ln, ld, rows, bs, plan, hs, ls, id, rfl, hT, hbd, b1⟩
    have hal : Below w1.heap.size w1 (w1.alloc (.cells #[.int .i64 high, .slice YB yn yd, .int .i64 y0, .int .i64 y1, .int .i64 y2, .slice BB bn bd, .slice PB pn pd, .slice HB hn hd, .slice LB ln ld] 34)) := (Below.refl _ _).alloc (Nat.le_refl _) _
    have hP : Blk (w1.alloc (.cells #[.int .i64 high, .slice YB yn yd, .int .i64 y0, .int .i64 y1, .int .i64 y2, .slice BB bn bd, .slice PB pn pd, .slice HB hn hd, .slice LB ln ld] 34)) w1.heap.size 34 [.int .i64 high, .slice YB yn yd, .int .i64 y0, .int .i64 y1, .int .i64 y2, .slice BB bn bd, .slice PB pn pd, .slice HB hn hd, .slice LB ln ld] := Blk.new _ _ _
    have T2 := Lib.hid (hT.below hal)
    have B2 := Lib.hid (below_trans b1 hal)
    have P2 := Lib.hid hP
    have BD := Lib.hid hbd
    clear hT b1 hal hP h hbd
    have x0 := (P2.out).cellAt 0 (by simp)
    have x1 := (P2.out).cellAt 1 (by simp)
    have x2 := (P2.out).cellAt 2 (by simp)
    have x3 := (P2.out).cellAt 3 (by simp)
    have x4 := (P2.out).cellAt 4 (by simp)
    have x5 := (P2.out).cellAt 5 (by simp)
    have x6 := (P2.out).cellAt 6 (by simp)
    have x7 := (P2.out).cellAt 7 (by simp)
    have x8 := (P2.out).cellAt 8 (by simp)
    simp only [List.getElem_cons_zero, List.getElem_cons_succ] at x0 x1 x2 x3 x4 x5 x6 x7 x8
    go_wp2_with fail
    generalize w1.alloc (.cells #[.int .i64 high, .slice YB yn yd, .int .i64 y0, .int .i64 y1, .int .i64 y2, .slice BB bn bd, .slice PB pn pd, .slice HB hn hd, .slice LB ln ld] 34) = w2 at *
    generalize w1.heap.size = tb at *
    have hI := implTermWhere high ⟨y0, y1, y2⟩ YB BB PB HB LB yn yd bn bd pn pd hn hd ln ld rows bs plan hs ls id w2 T2.out
    dsimp only at hI
    refine hI.mono ?_
    rintro e w3 ⟨rfl, b3⟩
    have T3 := Lib.hid (T2.out.below b3)
    have P3 := Lib.hid (P2.out.later b3)
    have B3 := Lib.hid (below_trans B2.out b3)
    clear T2 P2 B2 b3 hI x0 x1 x2 x3 x4 x5 x6 x7 x8
    have x0 := (P3.out).cellAt 0 (by simp)
    have x1 := (P3.out).cellAt 1 (by simp)
    have x2 := (P3.out).cellAt 2 (by simp)
    have x3 := (P3.out).cellAt 3 (by simp)
    have x4 := (P3.out).cellAt 4 (by simp)
    have x5 := (P3.out).cellAt 5 (by simp)
    have x6 := (P3.out).cellAt 6 (by simp)
    have x7 := (P3.out).cellAt 7 (by simp)
    have x8 := (P3.out).cellAt 8 (by simp)
    simp only [List.getElem_cons_zero, List.getElem_cons_succ] at x0 x1 x2 x3 x4 x5 x6 x7 x8
    go_wp2_with fail
    have hI := specTermWhere high ⟨y0, y1, y2⟩ YB BB PB HB LB yn yd bn bd pn pd hn hd ln ld rows bs plan hs ls id w3 T3.out
    dsimp only at hI
    refine hI.mono ?_
    rintro e W4 ⟨rfl, b4⟩
    have T4 := Lib.hid (T3.out.below b4)
    have P4 := Lib.hid (P3.out.later b4)
    have B4 := Lib.hid (below_trans B3.out b4)
    clear T3 P3 B3 b4 hI x0 x1 x2 x3 x4 x5 x6 x7 x8
    have HW := Lib.hid (where_parts (high := high) (rows := rows) (h := ⟨y0, y1, y2⟩) (bs := bs) (plan := plan) (hs := hs) (ls := ls) (id := id))
    have HNG := Lib.hid (where_neg (high := high) (rows := rows) (h := ⟨y0, y1, y2⟩) (bs := bs) (plan := plan) (hs := hs) (ls := ls) (id := id))
    generalize termWhere high rows ⟨y0, y1, y2⟩ bs plan ⟨hs, ls⟩ id = x at *
    have hxx : (x != x) = false := by simp
    by_cases hx : x < 0
    · obtain rfl := HNG.out hx
      clear HW HNG T4 P4 BD
      go_wp2_with fail
      refine (alive_any W4).mono ?_
      rintro e w6 ⟨rfl, rfl⟩
      go_wp2_with fail
      go_ret
      exact ⟨rfl, B4.out⟩
    · obtain ⟨ht, hf, h1, h2, h3⟩ := HW.out (by omega)
      obtain ⟨hyo, hpo, _, _, _⟩ := term_parts ht
      have hid1 := hasF_pos hpo hf
      have HYO := Lib.hid hyo
      have HPO := Lib.hid hpo
      have H2 := Lib.hid h2
      have H3 := Lib.hid h3
      have hxl : decide (x < 0) = false := decide_eq_false hx
      have t1 := BD.out.ym
      have t2 := BD.out.pm
      have t3 := BD.out.lm
      have t4 := BD.out.bm
      obtain ⟨fa, hfa⟩ : ∃ fa, findAux rows 0 id = fa := ⟨_, rfl⟩
      have HFA : Hid (decide (0 ≤ fa) = decide (x = 1)) := Lib.hid (by rw [← hfa, h1]; exact findAux_any rows 0 id)
      clear HW HNG ht hf h1 h2 h3 hyo hpo BD
      have x0 := (P4.out).cellAt 0 (by simp)
      have x1 := (P4.out).cellAt 1 (by simp)
      have x2 := (P4.out).cellAt 2 (by simp)
      have x3 := (P4.out).cellAt 3 (by simp)
      have x4 := (P4.out).cellAt 4 (by simp)
      have x5 := (P4.out).cellAt 5 (by simp)
      have x6 := (P4.out).cellAt 6 (by simp)
      have x7 := (P4.out).cellAt 7 (by simp)
      have x8 := (P4.out).cellAt 8 (by simp)
      simp only [List.getElem_cons_zero, List.getElem_cons_succ] at x0 x1 x2 x3 x4 x5 x6 x7 x8
      by_cases q1 : x = 1
      · subst q1
        have gA : decide (0 ≤ fa) = true := by rw [HFA.out]; exact decide_eq_true (by first | trivial | rfl | omega)
        have gAp : 0 ≤ fa := of_decide_eq_true gA
        go_wp2_with fail
        have hY := yardFindW high YB yn yd rows id W4 HYO.out T4.out.yl T4.out.yr (by omega)
        rw [hfa] at hY
        refine hY.mono ?_
        rintro e w5 ⟨rfl, b5⟩
        have T5 := Lib.hid (T4.out.below b5)
        have P5 := P4.out.later b5
        have B5 := Lib.hid (below_trans B4.out b5)
        clear T4 P4 B4 b5 hY hfa x0 x1 x2 x3 x4 x5 x6 x7 x8
        have x0 := (P5).cellAt 0 (by simp)
        have x1 := (P5).cellAt 1 (by simp)
        have x2 := (P5).cellAt 2 (by simp)
        have x3 := (P5).cellAt 3 (by simp)
        have x4 := (P5).cellAt 4 (by simp)
        have x5 := (P5).cellAt 5 (by simp)
        have x6 := (P5).cellAt 6 (by simp)
        have x7 := (P5).cellAt 7 (by simp)
        have x8 := (P5).cellAt 8 (by simp)
        simp only [List.getElem_cons_zero, List.getElem_cons_succ] at x0 x1 x2 x3 x4 x5 x6 x7 x8
        go_wp2_with fail
        have hI := implPlanFind ⟨y0, y1, y2⟩ BB PB bn bd pn pd bs plan id w5 HPO.out hid1 T5.out.bl T5.out.br T5.out.bk (by omega) T5.out.pl T5.out.pr T5.out.pk T5.out.px
        dsimp only at hI
        refine hI.mono ?_
        rintro e w6 ⟨⟨pf, rfl, hpf⟩, b6⟩
        have gB : decide (0 ≤ pf) = false := by rw [hpf, ← H2.out]; exact decide_eq_false (by omega)
        have gBp : ¬ 0 ≤ pf := of_decide_eq_false gB
        have T6 := Lib.hid (T5.out.below b6)
        have P6 := P5.later b6
        have B6 := Lib.hid (below_trans B5.out b6)
        clear T5 P5 B5 b6 hI hpf x0 x1 x2 x3 x4 x5 x6 x7 x8
        have x0 := (P6).cellAt 0 (by simp)
        have x1 := (P6).cellAt 1 (by simp)
        have x2 := (P6).cellAt 2 (by simp)
        have x3 := (P6).cellAt 3 (by simp)
        have x4 := (P6).cellAt 4 (by simp)
        have x5 := (P6).cellAt 5 (by simp)
        have x6 := (P6).cellAt 6 (by simp)
        have x7 := (P6).cellAt 7 (by simp)
        have x8 := (P6).cellAt 8 (by simp)
        simp only [List.getElem_cons_zero, List.getElem_cons_succ] at x0 x1 x2 x3 x4 x5 x6 x7 x8
        have hL : hasI ls id = false := by rw [← H3.out]; exact decide_eq_false (by omega)
        go_wp2_with fail
        have hI := hasInt_same LB ln ld ls id w6 T6.out.ll T6.out.lr (by omega)
        rw [hL] at hI
        refine hI.mono ?_
        rintro e w7 ⟨rfl, rfl⟩
        go_wp2_with fail
        go_ret
        exact ⟨rfl, B6.out⟩
      · by_cases q2 : x = 2
        · subst q2
          have gA : decide (0 ≤ fa) = false := by rw [HFA.out]; exact decide_eq_false (by omega)
          have gAp : ¬ 0 ≤ fa := of_decide_eq_false gA
          go_wp2_with fail
          have hY := yardFindW high YB yn yd rows id W4 HYO.out T4.out.yl T4.out.yr (by omega)
          rw [hfa] at hY
          refine hY.mono ?_
          rintro e w5 ⟨rfl, b5⟩
          have T5 := Lib.hid (T4.out.below b5)
          have P5 := P4.out.later b5
          have B5 := Lib.hid (below_trans B4.out b5)
          clear T4 P4 B4 b5 hY hfa x0 x1 x2 x3 x4 x5 x6 x7 x8
          have x0 := (P5).cellAt 0 (by simp)
          have x1 := (P5).cellAt 1 (by simp)
          have x2 := (P5).cellAt 2 (by simp)
          have x3 := (P5).cellAt 3 (by simp)
          have x4 := (P5).cellAt 4 (by simp)
          have x5 := (P5).cellAt 5 (by simp)
          have x6 := (P5).cellAt 6 (by simp)
          have x7 := (P5).cellAt 7 (by simp)
          have x8 := (P5).cellAt 8 (by simp)
          simp only [List.getElem_cons_zero, List.getElem_cons_succ] at x0 x1 x2 x3 x4 x5 x6 x7 x8
          go_wp2_with fail
          have hI := implPlanFind ⟨y0, y1, y2⟩ BB PB bn bd pn pd bs plan id w5 HPO.out hid1 T5.out.bl T5.out.br T5.out.bk (by omega) T5.out.pl T5.out.pr T5.out.pk T5.out.px
          dsimp only at hI
          refine hI.mono ?_
          rintro e w6 ⟨⟨pf, rfl, hpf⟩, b6⟩
          have gB : decide (0 ≤ pf) = true := by rw [hpf, ← H2.out]; exact decide_eq_true (by first | trivial | rfl | omega)
          have gBp : 0 ≤ pf := of_decide_eq_true gB
          have T6 := Lib.hid (T5.out.below b6)
          have P6 := P5.later b6
          have B6 := Lib.hid (below_trans B5.out b6)
          clear T5 P5 B5 b6 hI hpf x0 x1 x2 x3 x4 x5 x6 x7 x8
          have x0 := (P6).cellAt 0 (by simp)
          have x1 := (P6).cellAt 1 (by simp)
          have x2 := (P6).cellAt 2 (by simp)
          have x3 := (P6).cellAt 3 (by simp)
          have x4 := (P6).cellAt 4 (by simp)
          have x5 := (P6).cellAt 5 (by simp)
          have x6 := (P6).cellAt 6 (by simp)
          have x7 := (P6).cellAt 7 (by simp)
          have x8 := (P6).cellAt 8 (by simp)
          simp only [List.getElem_cons_zero, List.getElem_cons_succ] at x0 x1 x2 x3 x4 x5 x6 x7 x8
          have hL : hasI ls id = false := by rw [← H3.out]; exact decide_eq_false (by omega)
          go_wp2_with fail
          have hI := hasInt_same LB ln ld ls id w6 T6.out.ll T6.out.lr (by omega)
          rw [hL] at hI
          refine hI.mono ?_
          rintro e w7 ⟨rfl, rfl⟩
          go_wp2_with fail
          go_ret
          exact ⟨rfl, B6.out⟩
        · by_cases q3 : x = 3
          · subst q3
            have gA : decide (0 ≤ fa) = false := by rw [HFA.out]; exact decide_eq_false (by omega)
            have gAp : ¬ 0 ≤ fa := of_decide_eq_false gA
            go_wp2_with fail
            have hY := yardFindW high YB yn yd rows id W4 HYO.out T4.out.yl T4.out.yr (by omega)
            rw [hfa] at hY
            refine hY.mono ?_
            rintro e w5 ⟨rfl, b5⟩
            have T5 := Lib.hid (T4.out.below b5)
            have P5 := P4.out.later b5
            have B5 := Lib.hid (below_trans B4.out b5)
            clear T4 P4 B4 b5 hY hfa x0 x1 x2 x3 x4 x5 x6 x7 x8
            have x0 := (P5).cellAt 0 (by simp)
            have x1 := (P5).cellAt 1 (by simp)
            have x2 := (P5).cellAt 2 (by simp)
            have x3 := (P5).cellAt 3 (by simp)
            have x4 := (P5).cellAt 4 (by simp)
            have x5 := (P5).cellAt 5 (by simp)
            have x6 := (P5).cellAt 6 (by simp)
            have x7 := (P5).cellAt 7 (by simp)
            have x8 := (P5).cellAt 8 (by simp)
            simp only [List.getElem_cons_zero, List.getElem_cons_succ] at x0 x1 x2 x3 x4 x5 x6 x7 x8
            go_wp2_with fail
            have hI := implPlanFind ⟨y0, y1, y2⟩ BB PB bn bd pn pd bs plan id w5 HPO.out hid1 T5.out.bl T5.out.br T5.out.bk (by omega) T5.out.pl T5.out.pr T5.out.pk T5.out.px
            dsimp only at hI
            refine hI.mono ?_
            rintro e w6 ⟨⟨pf, rfl, hpf⟩, b6⟩
            have gB : decide (0 ≤ pf) = false := by rw [hpf, ← H2.out]; exact decide_eq_false (by omega)
            have gBp : ¬ 0 ≤ pf := of_decide_eq_false gB
            have T6 := Lib.hid (T5.out.below b6)
            have P6 := P5.later b6
            have B6 := Lib.hid (below_trans B5.out b6)
            clear T5 P5 B5 b6 hI hpf x0 x1 x2 x3 x4 x5 x6 x7 x8
            have x0 := (P6).cellAt 0 (by simp)
            have x1 := (P6).cellAt 1 (by simp)
            have x2 := (P6).cellAt 2 (by simp)
            have x3 := (P6).cellAt 3 (by simp)
            have x4 := (P6).cellAt 4 (by simp)
            have x5 := (P6).cellAt 5 (by simp)
            have x6 := (P6).cellAt 6 (by simp)
            have x7 := (P6).cellAt 7 (by simp)
            have x8 := (P6).cellAt 8 (by simp)
            simp only [List.getElem_cons_zero, List.getElem_cons_succ] at x0 x1 x2 x3 x4 x5 x6 x7 x8
            have hL : hasI ls id = true := by rw [← H3.out]; exact decide_eq_true (by first | trivial | rfl | omega)
            go_wp2_with fail
            have hI := hasInt_same LB ln ld ls id w6 T6.out.ll T6.out.lr (by omega)
            rw [hL] at hI
            refine hI.mono ?_
            rintro e w7 ⟨rfl, rfl⟩
            go_wp2_with fail
            go_ret
            exact ⟨rfl, B6.out⟩
          · have g1 : (x == 1) = false := by simp [q1]
            have g2 : (x == 2) = false := by simp [q2]
            have g3 : (x == 3) = false := by simp [q3]
            have gA : decide (0 ≤ fa) = false := by rw [HFA.out]; exact decide_eq_false (by omega)
            have gAp : ¬ 0 ≤ fa := of_decide_eq_false gA
            go_wp2_with fail
            have hY := yardFindW high YB yn yd rows id W4 HYO.out T4.out.yl T4.out.yr (by omega)
            rw [hfa] at hY
            refine hY.mono ?_
            rintro e w5 ⟨rfl, b5⟩
            have T5 := Lib.hid (T4.out.below b5)
            have P5 := P4.out.later b5
            have B5 := Lib.hid (below_trans B4.out b5)
            clear T4 P4 B4 b5 hY hfa x0 x1 x2 x3 x4 x5 x6 x7 x8
            have x0 := (P5).cellAt 0 (by simp)
            have x1 := (P5).cellAt 1 (by simp)
            have x2 := (P5).cellAt 2 (by simp)
            have x3 := (P5).cellAt 3 (by simp)
            have x4 := (P5).cellAt 4 (by simp)
            have x5 := (P5).cellAt 5 (by simp)
            have x6 := (P5).cellAt 6 (by simp)
            have x7 := (P5).cellAt 7 (by simp)
            have x8 := (P5).cellAt 8 (by simp)
            simp only [List.getElem_cons_zero, List.getElem_cons_succ] at x0 x1 x2 x3 x4 x5 x6 x7 x8
            go_wp2_with fail
            have hI := implPlanFind ⟨y0, y1, y2⟩ BB PB bn bd pn pd bs plan id w5 HPO.out hid1 T5.out.bl T5.out.br T5.out.bk (by omega) T5.out.pl T5.out.pr T5.out.pk T5.out.px
            dsimp only at hI
            refine hI.mono ?_
            rintro e w6 ⟨⟨pf, rfl, hpf⟩, b6⟩
            have gB : decide (0 ≤ pf) = false := by rw [hpf, ← H2.out]; exact decide_eq_false (by omega)
            have gBp : ¬ 0 ≤ pf := of_decide_eq_false gB
            have T6 := Lib.hid (T5.out.below b6)
            have P6 := P5.later b6
            have B6 := Lib.hid (below_trans B5.out b6)
            clear T5 P5 B5 b6 hI hpf x0 x1 x2 x3 x4 x5 x6 x7 x8
            have x0 := (P6).cellAt 0 (by simp)
            have x1 := (P6).cellAt 1 (by simp)
            have x2 := (P6).cellAt 2 (by simp)
            have x3 := (P6).cellAt 3 (by simp)
            have x4 := (P6).cellAt 4 (by simp)
            have x5 := (P6).cellAt 5 (by simp)
            have x6 := (P6).cellAt 6 (by simp)
            have x7 := (P6).cellAt 7 (by simp)
            have x8 := (P6).cellAt 8 (by simp)
            simp only [List.getElem_cons_zero, List.getElem_cons_succ] at x0 x1 x2 x3 x4 x5 x6 x7 x8
            have hL : hasI ls id = false := by rw [← H3.out]; exact decide_eq_false (by omega)
            go_wp2_with fail
            have hI := hasInt_same LB ln ld ls id w6 T6.out.ll T6.out.lr (by omega)
            rw [hL] at hI
            refine hI.mono ?_
            rintro e w7 ⟨rfl, rfl⟩
            go_wp2_with fail
            go_ret
            exact ⟨rfl, B6.out⟩
  · go_enter Tryz.func4, Tryz.ntmps4
    go_wp2_with fail
    go_ret
    exact ⟨rfl, Below.refl _ _⟩
end Go.Proofs.YtbkfhcbecejomaaGreat
