/- FnExactYardPut returns true, for all arguments; no condition. -/
import Derived.Test.YtimnemglcheodaaYdPL
namespace Go.Proofs.Ytimnemglcheodaa
open Go Go.ChangeShapes Go.WideShapes Go.ChangeAt Go.RowKit
set_option linter.unusedVariables false
set_option maxRecDepth 100000 in
set_option maxHeartbeats 4000000 in
theorem walkFnExactYardPut (w : World) (v : Value) (d : YardD) (h : IsYard w v d) (i : Int) (_ : (Lit.int .i64 i).wf = true) (x : Int) (_ : (Lit.int .i64 x).wf = true) :
    Calls Try.prog 4 #[v, .int .i64 i, .int .i64 x] w fun e w' => e = .returned (.bool true) ∧ Below w.heap.size w w' := by
  obtain ⟨high, A, n, c, rows⟩ := d
  obtain ⟨rfl, hin⟩ := h
  dsimp only at hin
  have hbl : Below w.heap.size w (w.alloc (.cells #[.int .i64 high, .slice A n c] 24)) := (Below.refl _ _).alloc (Nat.le_refl _) _
  have hin0 := hin.below hbl
  have hp0 : Blk (w.alloc (.cells #[.int .i64 high, .slice A n c] 24)) w.heap.size 24 [.int .i64 high, .slice A n c] := Blk.new _ _ _
  have HLEN := Lib.hid hin.len
  have HBL := Lib.hid hbl
  have hlt0 := hp0.lt
  clear hin hbl
  go_enter Try.func4, Try.ntmps4
  go_wp2_with fail
  generalize w.alloc (.cells #[.int .i64 high, .slice A n c] 24) = w0 at *
  refine (szYard_any high A n c rows _ hin0).mono ?_
  rintro e w1 ⟨r0, rfl, hr, hb1⟩
  have HR := Lib.hid hr
  have HP0 := Lib.hid hp0
  have HIN0 := Lib.hid hin0
  have B1 := Lib.hid hb1
  clear hr hin0 hp0 hb1
  by_cases h0 : 0 ≤ r0
  · have HS := Lib.hid (HR.out h0)
    have hsm := HR.out h0
    unfold YardSmall at hsm
    have HMEM : Hid (∀ s ∈ rows, s.length ≤ 1048576) := Lib.hid (fun s hs => by have := tot_mem s hs; omega)
    have HMEM2 : Hid (∀ s ∈ rows, s.length ≤ 1099511627776) := Lib.hid (fun s hs => by have := tot_mem s hs; omega)
    have hx := yput_small high rows i x
    have cS := fun (w : World) (A : Option Addr) (c : Nat) (h : RdRR w A (intss rows)) => specYardPut high i x A n c rows w HLEN.out h (by omega) HMEM.out
    have cI := fun (w : World) (A : Option Addr) (c : Nat) (h : RdRR w A (intss rows)) => implYardPut high i x A n c rows w HLEN.out h (by omega) HMEM.out
    rw [HLEN.out] at hx
    generalize yput high rows i x = X at *
    obtain ⟨h', rows', rr⟩ := X
    dsimp only at hx
    obtain ⟨x1, x2⟩ := hx
    have HM2 : Hid (∀ s ∈ rows', s.length ≤ 1099511627776) := Lib.hid (fun s hs => by have := tot_mem s hs; omega)
    have HM1 := Lib.hid (rfl : rows'.length = rows'.length)
    replace cS := fun w A c h => yp_use (cS w A c h) HM1.out
    replace cI := fun w A c h => yp_use (cI w A c h) HM1.out
    clear HM1
    generalize hm : rows'.length = m at *
    have HM := Lib.hid hm
    have HT := Lib.hid (rfl : totI rows' = totI rows')
    generalize ht : totI rows' = tot at *
    replace HT := Lib.hid ht
    have HTX := Lib.hid (rfl : totI rows = totI rows)
    generalize ht2 : totI rows = totx at *
    replace HTX := Lib.hid ht2
    have hrr : (rr != rr) = false := by simp
    have hh : (h' != h') = false := by simp
    have htt : (1 + (tot : Int) != 1 + (tot : Int)) = false := by simp
    have ht0 : ¬ (1 + (tot : Int) < 0) := by omega
    have ht1 : ¬ (1 + (totx : Int) < 0) := by omega
    clear hm ht ht2
    have p1 := HP0.out.later B1.out
    have in1 := HIN0.out.below B1.out
    have s0 := p1.cellAt 0 (by simp)
    have s1 := p1.cellAt 1 (by simp)
    simp only [List.getElem_cons_zero, List.getElem_cons_succ] at s0 s1
    go_wp2_with fail
    refine (toYard_any high A n c rows _ in1 HS.out).mono ?_
    rintro e w2 ⟨_, rfl, SA, sc, rfl, S2, b2⟩
    have B2 := Lib.hid (below_trans B1.out b2)
    clear in1 p1 s0 s1 b2
    go_wp2_with fail
    refine (cS _ SA sc S2.rd).mono ?_
    rintro e w3 ⟨_, rfl, A1, c1, rfl, O3, b3⟩
    clear S2
    have hal4 : Below w3.heap.size w3 (w3.alloc (.cells #[.int .i64 h', .slice A1 m c1] 26)) := (Below.refl _ _).alloc (Nat.le_refl _) _
    have hN4 : Blk (w3.alloc (.cells #[.int .i64 h', .slice A1 m c1] 26)) w3.heap.size 26 [.int .i64 h', .slice A1 m c1] := Blk.new _ _ _
    have B4 := Lib.hid (below_trans (below_trans B2.out b3) hal4)
    have O4 := Lib.hid (O3.later hal4)
    have Q4 := Lib.hid hN4
    have lo3 : w0.heap.size ≤ w3.heap.size := by have := B2.out.size; have := b3.size; omega
    clear b3 O3 hal4 hN4
    have p4 := HP0.out.later B4.out
    have in4 := HIN0.out.below B4.out
    have s0 := p4.cellAt 0 (by simp)
    have s1 := p4.cellAt 1 (by simp)
    simp only [List.getElem_cons_zero, List.getElem_cons_succ] at s0 s1
    go_wp2_with fail
    generalize w3.alloc (.cells #[.int .i64 h', .slice A1 m c1] 26) = w4 at *
    refine (toYard_any high A n c rows _ in4 HS.out).mono ?_
    rintro e w5 ⟨_, rfl, XA, xc, rfl, X5, b5⟩
    have hal6 : Below w5.heap.size w5 (w5.alloc (.cells #[.int .i64 high, .slice XA n xc] 26)) := (Below.refl _ _).alloc (Nat.le_refl _) _
    have hN6 : Blk (w5.alloc (.cells #[.int .i64 high, .slice XA n xc] 26)) w5.heap.size 26 [.int .i64 high, .slice XA n xc] := Blk.new _ _ _
    have b6 := below_trans b5 hal6
    have B6 := Lib.hid (below_trans B4.out b6)
    have O6 := Lib.hid (O4.out.later b6)
    have Q6 := Lib.hid (Q4.out.later b6)
    have X6 := Lib.hid (X5.later hal6)
    have Y6 := Lib.hid hN6
    have l4 := b5.size
    have lq := Q4.out.lt
    clear in4 p4 s0 s1 b5 X5 hal6 b6 O4 Q4
    have y0 := hN6.cellAt 0 (by simp)
    have y1 := hN6.cellAt 1 (by simp)
    simp only [List.getElem_cons_zero, List.getElem_cons_succ] at y0 y1
    clear hN6
    go_wp2_with fail
    generalize w5.alloc (.cells #[.int .i64 high, .slice XA n xc] 26) = w6 at *
    refine (cI _ XA xc X6.out.rd).mono ?_
    rintro e w7 ⟨_, rfl, GA, gc, rfl, G7, b7⟩
    have hal8 : Below w7.heap.size w7 (w7.alloc (.cells #[.int .i64 h', .slice GA m gc] 26)) := (Below.refl _ _).alloc (Nat.le_refl _) _
    have hN8 : Blk (w7.alloc (.cells #[.int .i64 h', .slice GA m gc] 26)) w7.heap.size 26 [.int .i64 h', .slice GA m gc] := Blk.new _ _ _
    have b8 := below_trans b7 hal8
    have B8 := Lib.hid (below_trans B6.out b8)
    have O8 := Lib.hid (O6.out.later b8)
    have Q8 := Lib.hid (Q6.out.later b8)
    have X8 := Lib.hid (X6.out.later b8)
    have Y8 := Lib.hid (Y6.out.later b8)
    have G8 := Lib.hid (G7.later hal8)
    have Z8 := Lib.hid hN8
    have ly := Y6.out.lt
    have l7 := b7.size
    have l8 := hN8.lt
    clear b7 G7 hal8 b8 O6 Q6 X6 Y6 hN8 y0 y1
    have q0 := Q8.out.cellAt 0 (by simp)
    have q1 := Q8.out.cellAt 1 (by simp)
    simp only [List.getElem_cons_zero, List.getElem_cons_succ] at q0 q1
    have z0 := Z8.out.cellAt 0 (by simp)
    have z1 := Z8.out.cellAt 1 (by simp)
    simp only [List.getElem_cons_zero, List.getElem_cons_succ] at z0 z1
    go_wp2_with fail
    generalize w7.alloc (.cells #[.int .i64 h', .slice GA m gc] 26) = w8 at *
    refine (eqYard_any h' GA A1 m gc c1 rows' _ HM.out G8.out.rd O8.out.rd (by omega) HM2.out).mono ?_
    rintro e w9 ⟨rfl, b9⟩
    have B9 := Lib.hid (below_trans B8.out b9)
    have O9 := Lib.hid (O8.out.later b9)
    have Q9 := Lib.hid (Q8.out.later b9)
    have X9 := Lib.hid (X8.out.later b9)
    have Y9 := Lib.hid (Y8.out.later b9)
    have G9 := Lib.hid (G8.out.later b9)
    have Z9 := Lib.hid (Z8.out.later b9)
    clear b9 O8 Q8 X8 Y8 G8 Z8 q0 q1 z0 z1
    have p9 := HP0.out.later B9.out
    have in9 := HIN0.out.below B9.out
    have s0 := p9.cellAt 0 (by simp)
    have s1 := p9.cellAt 1 (by simp)
    simp only [List.getElem_cons_zero, List.getElem_cons_succ] at s0 s1
    have y0 := Y9.out.cellAt 0 (by simp)
    have y1 := Y9.out.cellAt 1 (by simp)
    simp only [List.getElem_cons_zero, List.getElem_cons_succ] at y0 y1
    have lpy := Y9.out.lt
    have lps := p9.lt
    have IN9 := Lib.hid in9
    clear in9 p9
    go_wp2_with fail
    go_region_held3 (fun W => Below w9.heap.size w9 W ∧ W.cell? ⟨w5.heap.size, 0, none⟩ = some (.int .i64 high) ∧ W.cell? ⟨w5.heap.size, 1, none⟩ = some (.slice XA n xc) ∧ W.cell? ⟨w.heap.size, 0, none⟩ = some (.int .i64 high) ∧ W.cell? ⟨w.heap.size, 1, none⟩ = some (.slice A n c))
      (first | exact keepXX (Below.refl _ _) lpy lps y0 y1 s0 s1 | exact keepXX (Below.drew (Below.refl _ _)) lpy lps y0 y1 s0 s1 | assumption)
      (first
        | (go_at_call 9; (with_reducible refine (toYard_any high A n c rows _ (IN9.out.below (Below.drew (Below.refl _ _))) HS.out).mono ?_); rintro e wa ⟨_, rfl, TA, tc, rfl, Ta, ba0⟩; have ba := below_trans (Below.drew (Below.refl _ _)) ba0; have kx := keepXX ba lpy lps y0 y1 s0 s1)
        | (go_at_call 11; (with_reducible refine (eqYard_any high XA TA n xc tc rows _ HLEN.out (X9.out.rd.below ba) Ta.rd (by omega) HMEM2.out).mono ?_); rintro e wb ⟨rfl, bb0⟩; have bb := below_trans ba bb0; have ky := keepXX bb lpy lps y0 y1 s0 s1))
    have Bb := Lib.hid (below_trans B9.out bb)
    have Ob := Lib.hid (O9.out.later bb)
    have Qb := Lib.hid (Q9.out.later bb)
    have Xb := Lib.hid (X9.out.later bb)
    have Yb := Lib.hid (Y9.out.later bb)
    have Gb := Lib.hid (G9.out.later bb)
    have Zb := Lib.hid (Z9.out.later bb)
    clear kx ky Ta ba0 ba bb0 bb y0 y1 s0 s1 O9 Q9 X9 Y9 G9 Z9 IN9
    have y0 := Yb.out.cellAt 0 (by simp)
    have y1 := Yb.out.cellAt 1 (by simp)
    simp only [List.getElem_cons_zero, List.getElem_cons_succ] at y0 y1
    go_wp2_with fail
    have hmk := markYard_any high XA n xc w4.heap.size w5.heap.size 1 rows wb HLEN.out Xb.out (Nat.le_refl _) (by rw [HTX.out]; omega) (by omega)
    rw [HTX.out, show ((1 : Nat) : Int) = 1 from rfl] at hmk
    refine hmk.mono ?_
    rintro e wc ⟨rfl, _, oc⟩
    have lz : w5.heap.size ≤ w7.heap.size := by omega
    have Bc := Lib.hid (below_out Bb.out oc (by omega))
    have Oc := Lib.hid (Ob.out.out oc (.inl (Nat.le_of_lt lq)))
    have Gc := Lib.hid (Gb.out.out oc (.inr (Nat.le_of_lt ly)))
    have Qc : Hid (Blk wc w3.heap.size 26 [.int .i64 h', .slice A1 m c1]) := Lib.hid ((oc.block _ Qb.out.lt (.inl lq)).trans Qb.out)
    have Zc : Hid (Blk wc w7.heap.size 26 [.int .i64 h', .slice GA m gc]) := Lib.hid ((oc.block _ Zb.out.lt (.inr lz)).trans Zb.out)
    clear oc y0 y1 Ob Qb Xb Yb Gb Zb Bb
    have q0 := Qc.out.cellAt 0 (by simp)
    have q1 := Qc.out.cellAt 1 (by simp)
    simp only [List.getElem_cons_zero, List.getElem_cons_succ] at q0 q1
    have z0 := Zc.out.cellAt 0 (by simp)
    have z1 := Zc.out.cellAt 1 (by simp)
    simp only [List.getElem_cons_zero, List.getElem_cons_succ] at z0 z1
    go_wp2_with fail
    refine (eqYard_any h' GA A1 m gc c1 rows' _ HM.out Gc.out.rd Oc.out.rd (by omega) HM2.out).mono ?_
    rintro e wd ⟨rfl, bd⟩
    have Bd := Lib.hid (below_trans Bc.out bd)
    have Od := Lib.hid (Oc.out.later bd)
    have Qd := Lib.hid (Qc.out.later bd)
    have Gd := Lib.hid (Gc.out.later bd)
    have Zd := Lib.hid (Zc.out.later bd)
    clear bd Oc Qc Gc Zc Bc q0 q1 z0 z1
    have z0 := Zd.out.cellAt 0 (by simp)
    have z1 := Zd.out.cellAt 1 (by simp)
    simp only [List.getElem_cons_zero, List.getElem_cons_succ] at z0 z1
    have hmk2 := markYard_any h' GA m gc w6.heap.size w7.heap.size 1 rows' wd HM.out Gd.out (Nat.le_refl _) (by rw [HT.out]; omega) (by omega)
    rw [HT.out, show ((1 : Nat) : Int) = 1 from rfl] at hmk2
    have HMK2 := Lib.hid hmk2
    clear hmk2
    go_wp2_with fail
    refine HMK2.out.mono ?_
    rintro e we ⟨rfl, G5, oe⟩
    have Be := Lib.hid (below_out Bd.out oe (by have := B6.out.size; omega))
    have Oe := Lib.hid (Od.out.out oe (.inl (by omega)))
    have Ge := Lib.hid G5
    have Qe : Hid (Blk we w3.heap.size 26 [.int .i64 h', .slice A1 m c1]) := Lib.hid ((oe.block _ Qd.out.lt (.inl (by omega))).trans Qd.out)
    have Ze : Hid (Blk we w7.heap.size 26 [.int .i64 h', .slice GA m gc]) := Lib.hid ((oe.block _ Zd.out.lt (.inr (Nat.le_refl _))).trans Zd.out)
    clear oe Od Qd Gd Zd Bd G5 z0 z1 HMK2
    have z0 := Ze.out.cellAt 0 (by simp)
    have z1 := Ze.out.cellAt 1 (by simp)
    simp only [List.getElem_cons_zero, List.getElem_cons_succ] at z0 z1
    have hhd := heldYard_any h' GA m gc 1 rows' we HM.out Ge.out.rd (Nat.le_refl _) (by rw [HT.out]; omega) (by omega)
    rw [HT.out, show ((1 : Nat) : Int) = 1 from rfl] at hhd
    have HHD := Lib.hid hhd
    clear hhd
    go_wp2_with fail
    refine HHD.out.mono ?_
    rintro e wf ⟨rfl, bf⟩
    have Bf := Lib.hid (below_trans Be.out bf)
    have Of := Lib.hid (Oe.out.later bf)
    have Qf := Lib.hid (Qe.out.later bf)
    have Gf := Lib.hid (Ge.out.later bf)
    have Zf := Lib.hid (Ze.out.later bf)
    clear bf Oe Qe Ge Ze Be z0 z1 HHD
    have p9 := HP0.out.later Bf.out
    have in9 := HIN0.out.below Bf.out
    have s0 := p9.cellAt 0 (by simp)
    have s1 := p9.cellAt 1 (by simp)
    simp only [List.getElem_cons_zero, List.getElem_cons_succ] at s0 s1
    go_wp2_with fail
    refine (toYard_any high A n c rows _ in9 HS.out).mono ?_
    rintro e wg ⟨_, rfl, TA, tc, rfl, Tg, bg⟩
    have Bg := Lib.hid (below_trans Bf.out bg)
    have Og := Lib.hid (Of.out.later bg)
    have Qg := Lib.hid (Qf.out.later bg)
    have Gg := Lib.hid (Gf.out.later bg)
    have Zg := Lib.hid (Zf.out.later bg)
    clear bg Of Qf Gf Zf Bf s0 s1 p9 in9
    go_wp2_with fail
    refine (cI _ TA tc Tg.rd).mono ?_
    rintro e wh ⟨_, rfl, NA, nc, rfl, Nh, bh⟩
    have halj : Below wh.heap.size wh (wh.alloc (.cells #[.int .i64 h', .slice NA m nc] 26)) := (Below.refl _ _).alloc (Nat.le_refl _) _
    have hNj : Blk (wh.alloc (.cells #[.int .i64 h', .slice NA m nc] 26)) wh.heap.size 26 [.int .i64 h', .slice NA m nc] := Blk.new _ _ _
    have bj := below_trans bh halj
    have Bj := Lib.hid (below_trans Bg.out bj)
    have Oj := Lib.hid (Og.out.later bj)
    have Qj := Lib.hid (Qg.out.later bj)
    have Gj := Lib.hid (Gg.out.later bj)
    have Zj := Lib.hid (Zg.out.later bj)
    have Nj := Lib.hid (Nh.later halj)
    clear bh bj Tg Og Qg Gg Zg Bg Nh halj
    have y0 := hNj.cellAt 0 (by simp)
    have y1 := hNj.cellAt 1 (by simp)
    simp only [List.getElem_cons_zero, List.getElem_cons_succ] at y0 y1
    have q0 := Qj.out.cellAt 0 (by simp)
    have q1 := Qj.out.cellAt 1 (by simp)
    simp only [List.getElem_cons_zero, List.getElem_cons_succ] at q0 q1
    clear hNj
    go_wp2_with fail
    generalize wh.alloc (.cells #[.int .i64 h', .slice NA m nc] 26) = wj at *
    refine (eqYard_any h' NA A1 m nc c1 rows' _ HM.out Nj.out.rd Oj.out.rd (by omega) HM2.out).mono ?_
    rintro e wk ⟨rfl, bk⟩
    have Bk := Lib.hid (below_trans Bj.out bk)
    have Gk := Lib.hid (Gj.out.later bk)
    have Zk := Lib.hid (Zj.out.later bk)
    clear bk Oj Qj Gj Zj Bj Nj y0 y1 q0 q1
    have z0 := Zk.out.cellAt 0 (by simp)
    have z1 := Zk.out.cellAt 1 (by simp)
    simp only [List.getElem_cons_zero, List.getElem_cons_succ] at z0 z1
    have hhd := heldYard_any h' GA m gc 1 rows' wk HM.out Gk.out.rd (Nat.le_refl _) (by rw [HT.out]; omega) (by omega)
    rw [HT.out, show ((1 : Nat) : Int) = 1 from rfl] at hhd
    have HHE := Lib.hid hhd
    clear hhd
    go_wp2_with fail
    refine HHE.out.mono ?_
    rintro e wl ⟨rfl, bl⟩
    have Bl := Lib.hid (below_trans Bk.out bl)
    clear bl z0 z1 HHE
    go_wp2_with fail
    go_ret
    exact ⟨rfl, HBL.out.trans (Bl.out.mono HBL.out.size)⟩
  · go_wp2_with fail
    go_ret
    exact ⟨rfl, HBL.out.trans (B1.out.mono HBL.out.size)⟩
end Go.Proofs.Ytimnemglcheodaa
