/- FnExactTermWhere returns true, for all arguments; no condition. -/
import Derived.Test.YtbllbpjlkechdaaGreatMg9
import Derived.Test.YtbllbpjlkechdaaGreatMg13
namespace Go.Proofs.YtbllbpjlkechdaaGreat
open Go Go.ChangeShapes Go.WideShapes Go.ChangeAt Go.RowKit
set_option linter.unusedVariables false
set_option maxRecDepth 100000 in
set_option maxHeartbeats 8000000 in
theorem walkFnExactTermWhere (w : World) (v : Value) (d : TrmD) (h : IsTrm w v d) (id : Int) (_ : (Lit.int .i64 id).wf = true) :
    Calls Tryz.prog 3 #[v, .int .i64 id] w fun e w' => e = .returned (.bool true) ∧ Below w.heap.size w w' := by
  obtain ⟨high, y0, y1, y2, YA, BA, PA, HA, LA, yc, bc, pc, hc, lc, rows, bs, plan, hs, ls⟩ := d
  obtain ⟨rfl, hin⟩ := h
  dsimp only at hin ⊢
  generalize rows.length = yn at *
  generalize bs.length = bn at *
  generalize plan.length = pn at *
  generalize hs.length = hn at *
  generalize ls.length = ln at *
  have hbl : Below w.heap.size w (w.alloc (.cells #[.int .i64 high, .slice YA yn yc, .int .i64 y0, .int .i64 y1, .int .i64 y2, .slice BA bn bc, .slice PA pn pc, .slice HA hn hc, .slice LA ln lc] 33)) := (Below.refl _ _).alloc (Nat.le_refl _) _
  have hin0 := hin.below hbl
  have hp0 : Blk (w.alloc (.cells #[.int .i64 high, .slice YA yn yc, .int .i64 y0, .int .i64 y1, .int .i64 y2, .slice BA bn bc, .slice PA pn pc, .slice HA hn hc, .slice LA ln lc] 33)) w.heap.size 33 [.int .i64 high, .slice YA yn yc, .int .i64 y0, .int .i64 y1, .int .i64 y2, .slice BA bn bc, .slice PA pn pc, .slice HA hn hc, .slice LA ln lc] := Blk.new _ _ _
  have HBL := Lib.hid hbl
  clear hin hbl
  go_enter Tryz.func3, Tryz.ntmps3
  go_wp2_with fail
  generalize w.alloc (.cells #[.int .i64 high, .slice YA yn yc, .int .i64 y0, .int .i64 y1, .int .i64 y2, .slice BA bn bc, .slice PA pn pc, .slice HA hn hc, .slice LA ln lc] 33) = w0 at *
  refine (szTerminal_any high y0 y1 y2 YA BA PA HA LA yn yc bn bc pn pc hn hc ln lc rows bs plan hs ls _ hin0).mono ?_
  rintro e w1 ⟨r0, rfl, hr, hb1⟩
  have HR := Lib.hid hr
  have HIN0 := Lib.hid hin0
  have B1 := Lib.hid hb1
  have P1 := Lib.hid (hp0.later hb1)
  have lw0 := hp0.lt
  clear hr hin0 hp0 hb1
  by_cases h0 : 0 ≤ r0
  · have HS := Lib.hid (HR.out h0)
    have HMEM : Hid (∀ s ∈ rows, s.length ≤ 1048576) := Lib.hid (fun s hs => by have := tot_mem s hs; have := HS.out.ys; unfold YardSmall at this; omega)
    clear HR
    have in1 := HIN0.out.below B1.out
    have s0 := (P1.out).cellAt 0 (by simp)
    have s1 := (P1.out).cellAt 1 (by simp)
    have s2 := (P1.out).cellAt 2 (by simp)
    have s3 := (P1.out).cellAt 3 (by simp)
    have s4 := (P1.out).cellAt 4 (by simp)
    have s5 := (P1.out).cellAt 5 (by simp)
    have s6 := (P1.out).cellAt 6 (by simp)
    have s7 := (P1.out).cellAt 7 (by simp)
    have s8 := (P1.out).cellAt 8 (by simp)
    simp only [List.getElem_cons_zero, List.getElem_cons_succ] at s0 s1 s2 s3 s4 s5 s6 s7 s8
    go_wp2_with fail
    refine (toTerminal_any high y0 y1 y2 YA BA PA HA LA yn yc bn bc pn pc hn hc ln lc rows bs plan hs ls _ in1 HS.out).mono ?_
    rintro e w2 ⟨_, rfl, SY, sy, SB, SP, SH, sh, SL, sl, rfl, S2, b2⟩
    have B2 := Lib.hid (below_trans B1.out b2)
    have P2 := Lib.hid (P1.out.later b2)
    clear in1 s0 s1 s2 s3 s4 s5 s6 s7 s8 b2 P1
    go_wp2_with fail
    refine (specTermWhere high ⟨y0, y1, y2⟩ SY SB SP SH SL yn sy bn bn pn pn hn sh ln sl rows bs plan hs ls id _ S2).mono ?_
    rintro e w3 ⟨rfl, b3⟩
    have B3 := Lib.hid (below_trans B2.out b3)
    have P3 := Lib.hid (P2.out.later b3)
    clear b3 S2 P2
    have in3 := HIN0.out.below B3.out
    have s0 := (P3.out).cellAt 0 (by simp)
    have s1 := (P3.out).cellAt 1 (by simp)
    have s2 := (P3.out).cellAt 2 (by simp)
    have s3 := (P3.out).cellAt 3 (by simp)
    have s4 := (P3.out).cellAt 4 (by simp)
    have s5 := (P3.out).cellAt 5 (by simp)
    have s6 := (P3.out).cellAt 6 (by simp)
    have s7 := (P3.out).cellAt 7 (by simp)
    have s8 := (P3.out).cellAt 8 (by simp)
    simp only [List.getElem_cons_zero, List.getElem_cons_succ] at s0 s1 s2 s3 s4 s5 s6 s7 s8
    go_wp2_with fail
    refine (toTerminal_any high y0 y1 y2 YA BA PA HA LA yn yc bn bc pn pc hn hc ln lc rows bs plan hs ls _ in3 HS.out).mono ?_
    rintro e w5 ⟨_, rfl, XY, xy, XB, XP, XH, xh, XL, xl, rfl, X5, b5⟩
    have hal : Below w5.heap.size w5 (w5.alloc (.cells #[.int .i64 high, .slice XY yn xy, .int .i64 y0, .int .i64 y1, .int .i64 y2, .slice XB bn bn, .slice XP pn pn, .slice XH hn xh, .slice XL ln xl] 43)) := (Below.refl _ _).alloc (Nat.le_refl _) _
    have q6 : Blk (w5.alloc (.cells #[.int .i64 high, .slice XY yn xy, .int .i64 y0, .int .i64 y1, .int .i64 y2, .slice XB bn bn, .slice XP pn pn, .slice XH hn xh, .slice XL ln xl] 43)) w5.heap.size 43 [.int .i64 high, .slice XY yn xy, .int .i64 y0, .int .i64 y1, .int .i64 y2, .slice XB bn bn, .slice XP pn pn, .slice XH hn xh, .slice XL ln xl] := Blk.new _ _ _
    have b6 := below_trans b5 hal
    have B6 := Lib.hid (below_trans B3.out b6)
    have P6 := Lib.hid (P3.out.later b6)
    have X6 := Lib.hid (X5.below hal)
    have Q6 := Lib.hid q6
    clear in3 s0 s1 s2 s3 s4 s5 s6 s7 s8 b5 b6 P3 X5 hal q6
    have z0 := (Q6.out).cellAt 0 (by simp)
    have z1 := (Q6.out).cellAt 1 (by simp)
    have z2 := (Q6.out).cellAt 2 (by simp)
    have z3 := (Q6.out).cellAt 3 (by simp)
    have z4 := (Q6.out).cellAt 4 (by simp)
    have z5 := (Q6.out).cellAt 5 (by simp)
    have z6 := (Q6.out).cellAt 6 (by simp)
    have z7 := (Q6.out).cellAt 7 (by simp)
    have z8 := (Q6.out).cellAt 8 (by simp)
    simp only [List.getElem_cons_zero, List.getElem_cons_succ] at z0 z1 z2 z3 z4 z5 z6 z7 z8
    go_wp2_with fail
    generalize w5.alloc (.cells #[.int .i64 high, .slice XY yn xy, .int .i64 y0, .int .i64 y1, .int .i64 y2, .slice XB bn bn, .slice XP pn pn, .slice XH hn xh, .slice XL ln xl] 43) = w6 at *
    generalize w5.heap.size = xb at *
    refine (implTermWhere high ⟨y0, y1, y2⟩ XY XB XP XH XL yn xy bn bn pn pn hn xh ln xl rows bs plan hs ls id _ X6.out).mono ?_
    rintro e w9 ⟨rfl, b9⟩
    have B9 := Lib.hid (below_trans B6.out b9)
    have X9 := Lib.hid (X6.out.below b9)
    have P9 := Lib.hid (P6.out.later b9)
    have Q9 := Lib.hid (Q6.out.later b9)
    have IN9 := Lib.hid (HIN0.out.below B9.out)
    clear b9 X6 P6 Q6 z0 z1 z2 z3 z4 z5 z6 z7 z8
    generalize termWhere high rows ⟨y0, y1, y2⟩ bs plan ⟨hs, ls⟩ id = rr at *
    have hrr : (rr != rr) = false := by simp
    obtain ⟨wo, rfl⟩ : ∃ wo : World, wo = w9 := ⟨_, rfl⟩
    have lpy := Q9.out.lt
    have lps := P9.out.lt
    have z0 := (Q9.out).cellAt 0 (by simp)
    have z1 := (Q9.out).cellAt 1 (by simp)
    have z2 := (Q9.out).cellAt 2 (by simp)
    have z3 := (Q9.out).cellAt 3 (by simp)
    have z4 := (Q9.out).cellAt 4 (by simp)
    have z5 := (Q9.out).cellAt 5 (by simp)
    have z6 := (Q9.out).cellAt 6 (by simp)
    have z7 := (Q9.out).cellAt 7 (by simp)
    have z8 := (Q9.out).cellAt 8 (by simp)
    simp only [List.getElem_cons_zero, List.getElem_cons_succ] at z0 z1 z2 z3 z4 z5 z6 z7 z8
    have s0 := (P9.out).cellAt 0 (by simp)
    have s1 := (P9.out).cellAt 1 (by simp)
    have s2 := (P9.out).cellAt 2 (by simp)
    have s3 := (P9.out).cellAt 3 (by simp)
    have s4 := (P9.out).cellAt 4 (by simp)
    have s5 := (P9.out).cellAt 5 (by simp)
    have s6 := (P9.out).cellAt 6 (by simp)
    have s7 := (P9.out).cellAt 7 (by simp)
    have s8 := (P9.out).cellAt 8 (by simp)
    simp only [List.getElem_cons_zero, List.getElem_cons_succ] at s0 s1 s2 s3 s4 s5 s6 s7 s8
    go_wp2_with fail
    go_region_held3 (fun W => Below wo.heap.size wo W ∧ W.cell? ⟨xb, 0, none⟩ = some (.int .i64 high) ∧ W.cell? ⟨xb, 1, none⟩ = some (.slice XY yn xy) ∧ W.cell? ⟨xb, 2, none⟩ = some (.int .i64 y0) ∧ W.cell? ⟨xb, 3, none⟩ = some (.int .i64 y1) ∧ W.cell? ⟨xb, 4, none⟩ = some (.int .i64 y2) ∧ W.cell? ⟨xb, 5, none⟩ = some (.slice XB bn bn) ∧ W.cell? ⟨xb, 6, none⟩ = some (.slice XP pn pn) ∧ W.cell? ⟨xb, 7, none⟩ = some (.slice XH hn xh) ∧ W.cell? ⟨xb, 8, none⟩ = some (.slice XL ln xl) ∧ W.cell? ⟨w.heap.size, 0, none⟩ = some (.int .i64 high) ∧ W.cell? ⟨w.heap.size, 1, none⟩ = some (.slice YA yn yc) ∧ W.cell? ⟨w.heap.size, 2, none⟩ = some (.int .i64 y0) ∧ W.cell? ⟨w.heap.size, 3, none⟩ = some (.int .i64 y1) ∧ W.cell? ⟨w.heap.size, 4, none⟩ = some (.int .i64 y2) ∧ W.cell? ⟨w.heap.size, 5, none⟩ = some (.slice BA bn bc) ∧ W.cell? ⟨w.heap.size, 6, none⟩ = some (.slice PA pn pc) ∧ W.cell? ⟨w.heap.size, 7, none⟩ = some (.slice HA hn hc) ∧ W.cell? ⟨w.heap.size, 8, none⟩ = some (.slice LA ln lc))
      (first | exact keepT (Below.refl _ _) lpy lps Q9.out P9.out | exact keepT (Below.drew (Below.refl _ _)) lpy lps Q9.out P9.out | assumption)
      (first
        | (go_at_call 7; (with_reducible refine (toTerminal_any high y0 y1 y2 YA BA PA HA LA yn yc bn bc pn pc hn hc ln lc rows bs plan hs ls _ (IN9.out.below (Below.drew (Below.refl _ _))) HS.out).mono ?_); rintro e wa ⟨_, rfl, TY, ty, TB, TP, TH, th, TL, tl, rfl, Ta, ba0⟩; have ba := below_trans (Below.drew (Below.refl _ _)) ba0; have kx := keepT ba lpy lps Q9.out P9.out)
        | (go_at_call 9; (with_reducible refine (eqTerminal_any high y0 y1 y2 XY XB XP XH XL yn xy bn bn pn pn hn xh ln xl rows bs plan hs ls TY TB TP TH TL ty bn pn th tl _ (X9.out.below ba) Ta HMEM.out).mono ?_); rintro e wb ⟨rfl, bb0⟩; have bb := below_trans ba bb0; have ky := keepT bb lpy lps Q9.out P9.out))
    have Bb := Lib.hid (below_trans B9.out bb)
    clear kx ky Ta ba0 ba bb0 bb X9 P9 Q9 IN9 z0 s0 z1 s1 z2 s2 z3 s3 z4 s4 z5 s5 z6 s6 z7 s7 z8 s8
    go_wp2_with fail
    go_ret
    exact ⟨rfl, HBL.out.trans (Bb.out.mono HBL.out.size)⟩
  · go_wp2_with fail
    go_ret
    exact ⟨rfl, HBL.out.trans (B1.out.mono HBL.out.size)⟩
end Go.Proofs.YtbllbpjlkechdaaGreat
