/- FnExactPaperRun returns true, for all arguments; no condition. -/
import Derived.Test.YtpkbipjnobfcdaaPapY
import Derived.Deep.RegionHeld3
namespace Go.Proofs.Ytpkbipjnobfcdaa
open Go Go.ChangeShapes Go.WideShapes Go.ChangeAt Go.RowKit
set_option linter.unusedVariables false
set_option linter.unusedSimpArgs false
theorem keep4Q {w W : World} {a b : Nat} {x0 x1 y0 y1 : Value} (hb : Below w.heap.size w W) (la : a < w.heap.size) (lb : b < w.heap.size) (p0 : w.cell? ⟨a, 0, none⟩ = some x0) (p1 : w.cell? ⟨a, 1, none⟩ = some x1) (m0 : w.cell? ⟨b, 0, none⟩ = some y0) (m1 : w.cell? ⟨b, 1, none⟩ = some y1) :
    Below w.heap.size w W ∧ W.cell? ⟨a, 0, none⟩ = some x0 ∧ W.cell? ⟨a, 1, none⟩ = some x1 ∧ W.cell? ⟨b, 0, none⟩ = some y0 ∧ W.cell? ⟨b, 1, none⟩ = some y1 :=
  ⟨hb, (hb.cell (p := ⟨a, 0, none⟩) la).trans p0, (hb.cell (p := ⟨a, 1, none⟩) la).trans p1, (hb.cell (p := ⟨b, 0, none⟩) lb).trans m0, (hb.cell (p := ⟨b, 1, none⟩) lb).trans m1⟩
theorem toPapersQ {w5 : World} (HA LA : Option Addr) (n hc m lc : Nat) (hs : List HoldV) (ls : List Int) (W : World) (hW : Below w5.heap.size w5 W) (h : PapRd w5 HA LA n m hs ls) (h1 : n ≤ 1048576) (h2 : m ≤ 1048576) :
    Calls Try.prog 25 #[.agg #[.slice HA n hc, .slice LA m lc]] W fun e w' => ∃ TA tc TL tlc, e = .returned (.agg #[.slice TA n tc, .slice TL m tlc]) ∧ PapI w' W.heap.size w'.heap.size TA n tc TL m tlc hs ls ∧ Below W.heap.size W w' := by
  refine (toPapers_any HA LA n hc m lc hs ls W (h.later hW) h1 h2).mono ?_
  rintro e w' ⟨_, rfl, TA, tc, TL, tlc, rfl, hp, hb⟩
  exact ⟨TA, tc, TL, tlc, rfl, hp, hb⟩
theorem toDeedsQ {w5 : World} (A : Option Addr) (d c : Nat) (ds : List PaperDeedV) (W : World) (hW : Below w5.heap.size w5 W) (h : RdV w5 A (paperdeeds ds)) (hd : ds.length = d) (h1 : d ≤ 1048576) :
    Calls Try.prog 34 #[.slice A d c] W fun e w' => ∃ TA, e = .returned (.slice TA d d) ∧ OwnI w' W.heap.size w'.heap.size 41 3 (.slice TA d d) d (paperdeeds ds) ∧ Below W.heap.size W w' := by
  refine (toPaperDeedS_any A ds d c hd W (h.below hW) h1).mono ?_
  rintro e w' ⟨rfl, hb, hb2⟩
  exact ⟨_, rfl, blk_ownI (size := 3) (n := d) hb (Nat.le_refl _) (by rw [paperdeeds_len, hd]) (by unfold maxLen; omega), hb2⟩
set_option maxRecDepth 100000 in
set_option maxHeartbeats 8000000 in
theorem walkFnExactPaperRun (w : World) (v : Value) (d : PapD) (h : IsPap w v d) (v2 : Value) (e : DeedsD) (h2 : IsDeeds w v2 e) :
    Calls Try.prog 8 #[v, v2] w fun e w' => e = .returned (.bool true) ∧ Below w.heap.size w w' := by
  obtain ⟨HA, hc, LA, lc, hs, ls⟩ := d
  obtain ⟨DA, dc, ds⟩ := e
  obtain ⟨rfl, hin, hx1, hx2⟩ := h
  obtain ⟨rfl, hind, hx3⟩ := h2
  dsimp only at hin hx1 hx2 hind hx3 ⊢
  generalize hs.length = n at *
  generalize ls.length = m at *
  generalize hdl : ds.length = d at *
  have HDL := Lib.hid hdl
  clear hdl
  have hbl : Below w.heap.size w (w.alloc (.cells #[.slice HA n hc, .slice LA m lc] 50)) := (Below.refl _ _).alloc (Nat.le_refl _) _
  have hp0 := Blk.new w 50 [.slice HA n hc, .slice LA m lc]
  have HIN := Lib.hid (hin.later hbl)
  have HID := Lib.hid (hind.below hbl)
  have HBL := Lib.hid hbl
  clear hin hind hbl
  go_enter Try.func8, Try.ntmps8
  go_wp2_with fail
  generalize w.alloc (.cells #[.slice HA n hc, .slice LA m lc] 50) = w0 at *
  have lp0 := hp0.lt
  have HP0 := Lib.hid hp0
  clear hp0
  refine (szPapers_any HA LA n hc m lc _ hx1 hx2).mono ?_
  rintro e w1 ⟨r0, rfl, hr0, hr, hb1⟩
  have HR := Lib.hid hr
  have B1 := Lib.hid hb1
  clear hr hb1 hx1 hx2
  by_cases h0 : 0 ≤ r0
  · obtain ⟨hn1, hm1⟩ := HR.out h0
    go_wp2_with fail
    refine (szPaperDeedS_any DA d dc _ hx3 r0 h0 hr0).mono ?_
    rintro e w' ⟨r2, rfl, hq1, hq2, rfl⟩
    have HQ := Lib.hid hq2
    clear hq2
    by_cases h3 : 0 ≤ r2
    · have hd1 : d ≤ 1048576 := by have := HQ.out h3; omega
      obtain ⟨g1, g2, g3⟩ := paperRun_small ⟨hs, ls⟩ (ds.map deedV)
      rw [List.length_map, HDL.out] at g3
      generalize hpd : paperRun ⟨hs, ls⟩ (ds.map deedV) = r at *
      have HPD := Lib.hid hpd
      obtain ⟨⟨hs', ls'⟩, bs⟩ := r
      dsimp only at g1 g2 g3
      clear hpd
      have s0 := (HP0.out.later B1.out).cellAt 0 (by simp)
      have s1 := (HP0.out.later B1.out).cellAt 1 (by simp)
      simp only [List.getElem_cons_zero, List.getElem_cons_succ] at s0 s1
      go_wp2_with fail
      refine (toPapersQ (w5 := w0) HA LA n hc m lc hs ls _ B1.out HIN.out hn1 hm1).mono ?_
      rintro e w2 ⟨TA, tc, TL, tlc, rfl, hT2, b2⟩
      have B2 := Lib.hid (below_trans B1.out b2)
      have T2 := Lib.hid hT2
      clear hT2 b2 s0 s1
      go_wp2_with fail
      refine (toDeedsQ (w5 := w0) DA d dc ds _ B2.out HID.out HDL.out hd1).mono ?_
      rintro e w3 ⟨TD, rfl, hT3, b3⟩
      have B3 := Lib.hid (below_trans B2.out b3)
      have T3 := Lib.hid (T2.out.later b3)
      have D3 := Lib.hid hT3
      clear hT3 b3 T2
      go_wp2_with fail
      refine (specRunL (W := w3) HPD.out T3.out.rd D3.out.rd HDL.out hn1 hm1 hd1).mono ?_
      rintro e w4 ⟨A1, n1, c1, L1, m1, lc1, D1, d1, dc1, rfl, e1, e2, e3, o1, o2, o3, b4⟩
      have hal : Below w4.heap.size w4 (w4.alloc (.cells #[.slice A1 n1 c1, .slice L1 m1 lc1] 26)) := (Below.refl _ _).alloc (Nat.le_refl _) _
      dsimp only at e1 e2 e3 o1 o2 o3
      have h1' : n1 ≤ 12 := by omega
      have h2' : m1 ≤ 12 := by omega
      have h3' : d1 ≤ 1048576 := by omega
      have R5 := Lib.hid (rAt_new e1 e2 e3 o1 o2 o3)
      have B5 := Lib.hid (below_trans (below_trans B3.out b4) hal)
      have hs5 := hal.size
      clear T3 D3 e1 e2 e3 o1 o2 o3 b4 hal
      have s0 := (HP0.out.later B5.out).cellAt 0 (by simp)
      have s1 := (HP0.out.later B5.out).cellAt 1 (by simp)
      simp only [List.getElem_cons_zero, List.getElem_cons_succ] at s0 s1
      go_wp2_with fail
      generalize hw5 : w4.alloc (.cells #[.slice A1 n1 c1, .slice L1 m1 lc1] 26) = w5 at *
      clear hw5
      generalize w4.heap.size = q at *
      refine (toPapersQ (w5 := w0) HA LA n hc m lc hs ls _ B5.out HIN.out hn1 hm1).mono ?_
      rintro e w6 ⟨XA, xc, XL, xlc, rfl, hX6, b6⟩
      have hal : Below w6.heap.size w6 (w6.alloc (.cells #[.slice XA n xc, .slice XL m xlc] 26)) := (Below.refl _ _).alloc (Nat.le_refl _) _
      have hY7 := Blk.new w6 26 [.slice XA n xc, .slice XL m xlc]
      have ly := hY7.lt
      have B7 := Lib.hid (below_trans (below_trans B5.out b6) hal)
      have R7 := Lib.hid ((R5.out.later b6).later hal)
      have X7 := Lib.hid (hX6.later hal)
      have Y7 := Lib.hid hY7
      have l56 := b6.size
      have B5' := B5.out.size
      clear hX6 b6 hal hY7 R5 B5 s0 s1
      go_wp2_with fail
      generalize w6.alloc (.cells #[.slice XA n xc, .slice XL m xlc] 26) = w7 at *
      generalize w6.heap.size = qx at *
      refine (toDeedsQ (w5 := w0) DA d dc ds _ B7.out HID.out HDL.out hd1).mono ?_
      rintro e w8 ⟨XD, rfl, hD8, b8⟩
      have B8 := Lib.hid (below_trans B7.out b8)
      have R8 := Lib.hid (R7.out.later b8)
      have X8 := Lib.hid (X7.out.later b8)
      have Y8 := Lib.hid (Y7.out.later b8)
      have D8 := Lib.hid hD8
      have l78 := b8.size
      clear hD8 b8 R7 X7 Y7
      have y0 := Y8.out.cellAt 0 (by simp)
      have y1 := Y8.out.cellAt 1 (by simp)
      simp only [List.getElem_cons_zero, List.getElem_cons_succ] at y0 y1
      go_wp2_with fail
      refine (implRunL (W := w8) HPD.out X8.out.rd D8.out.rd HDL.out hn1 hm1 hd1).mono ?_
      rintro e w9 ⟨A2, n2, c2, L2, m2, lc2, D2, d2, dc2, rfl, e1, e2, e3, o1, o2, o3, b9⟩
      dsimp only at e1 e2 e3 o1 o2 o3
      obtain rfl : n1 = n2 := R8.out.pap.hn.symm.trans e1
      obtain rfl : m1 = m2 := R8.out.pap.hm.symm.trans e2
      obtain rfl : d1 = d2 := R8.out.len.symm.trans e3
      have hal : Below w9.heap.size w9 (w9.alloc (.cells #[.slice A2 n1 c2, .slice L2 m1 lc2] 26)) := (Below.refl _ _).alloc (Nat.le_refl _) _
      have G10 := Lib.hid (rAt_new e1 e2 e3 o1 o2 o3)
      have b10 := below_trans b9 hal
      have B10 := Lib.hid (below_trans B8.out b10)
      have R10 := Lib.hid (R8.out.later b10)
      have X10 := Lib.hid (X8.out.later b10)
      have Y10 := Lib.hid (Y8.out.later b10)
      have D10 := Lib.hid (D8.out.later b10)
      have l89 := b9.size
      clear e1 e2 e3 o1 o2 o3 b9 hal b10 R8 X8 Y8 D8 y0 y1
      have q0 := R10.out.blk.cellAt 0 (by simp)
      have q1 := R10.out.blk.cellAt 1 (by simp)
      have z0 := G10.out.blk.cellAt 0 (by simp)
      have z1 := G10.out.blk.cellAt 1 (by simp)
      simp only [List.getElem_cons_zero, List.getElem_cons_succ] at q0 q1 z0 z1
      go_wp2_with fail
      generalize w9.alloc (.cells #[.slice A2 n1 c2, .slice L2 m1 lc2] 26) = w10 at *
      generalize w9.heap.size = qz at *
      refine (eqPapers_any A2 A1 L2 L1 n1 c2 c1 m1 lc2 lc1 hs' ls' _ G10.out.pap.rd R10.out.pap.rd (by omega) (by omega)).mono ?_
      rintro e w11 ⟨rfl, b11⟩
      have B11 := Lib.hid (below_trans B10.out b11)
      have R11 := Lib.hid (R10.out.later b11)
      have X11 := Lib.hid (X10.out.later b11)
      have Y11 := Lib.hid (Y10.out.later b11)
      have D11 := Lib.hid (D10.out.later b11)
      have G11 := Lib.hid (G10.out.later b11)
      clear b11 B10 R10 X10 Y10 D10 G10 q0 q1 z0 z1
      go_wp2_with fail
      refine (eqBoolS_any D2 D1 bs d1 dc2 dc1 G11.out.len _ G11.out.don.rd R11.out.don.rd (by omega)).mono ?_
      rintro e w12 ⟨rfl, b12⟩
      have B12 := Lib.hid (below_trans B11.out b12)
      have R12 := Lib.hid (R11.out.later b12)
      have X12 := Lib.hid (X11.out.later b12)
      have Y12 := Lib.hid (Y11.out.later b12)
      have D12 := Lib.hid (D11.out.later b12)
      have G12 := Lib.hid (G11.out.later b12)
      clear b12 B11 R11 X11 Y11 D11 G11
      have s0 := (HP0.out.later B12.out).cellAt 0 (by simp)
      have s1 := (HP0.out.later B12.out).cellAt 1 (by simp)
      simp only [List.getElem_cons_zero, List.getElem_cons_succ] at s0 s1
      have y0 := Y12.out.cellAt 0 (by simp)
      have y1 := Y12.out.cellAt 1 (by simp)
      simp only [List.getElem_cons_zero, List.getElem_cons_succ] at y0 y1
      have lpy := Y12.out.lt
      have lps := Nat.lt_of_lt_of_le lp0 B12.out.size
      go_wp2_with fail
      go_region_held3 (fun W' => Below w12.heap.size w12 W' ∧ W'.cell? ⟨qx, 0, none⟩ = some (.slice XA n xc) ∧ W'.cell? ⟨qx, 1, none⟩ = some (.slice XL m xlc) ∧ W'.cell? ⟨w.heap.size, 0, none⟩ = some (.slice HA n hc) ∧ W'.cell? ⟨w.heap.size, 1, none⟩ = some (.slice LA m lc))
        (exact keep4Q (by (repeat (first | assumption | exact Below.refl _ _ | with_reducible refine Below.drew ?_))) lpy lps y0 y1 s0 s1)
        (first
          | (have _tk := HTA
             go_at_call 27
             clear _tk
             (with_reducible refine (eqPapers_any XA TA XL TL n xc tc m xlc tlc hs ls _ (X12.out.rd.later ka) HTA.out.rd (by omega) (by omega)).mono ?_)
             rintro e wb ⟨rfl, hbb⟩
             have kb := below_trans ka hbb
             clear hbb)
          | (go_at_call 25
             (with_reducible refine (toPapersQ (w5 := w12) HA LA n hc m lc hs ls _ (Below.drew (Below.refl _ _)) (HIN.out.later B12.out) hn1 hm1).mono ?_)
             rintro e wa ⟨TA, tc, TL, tlc, rfl, hta, hba0⟩
             have HTA := Lib.hid hta
             have ka := below_trans (Below.drew (Below.refl _ _)) hba0
             clear hta hba0))
      have B13 := Lib.hid (below_trans B12.out kb)
      have R13 := Lib.hid (R12.out.later kb)
      have X13 := Lib.hid (X12.out.later kb)
      have Y13 := Lib.hid (Y12.out.later kb)
      have D13 := Lib.hid (D12.out.later kb)
      have G13 := Lib.hid (G12.out.later kb)
      clear s0 s1 y0 y1 ka kb HTA B12 R12 X12 Y12 D12 G12
      go_wp2_with fail
      refine (toDeedsQ (w5 := w0) DA d dc ds _ B13.out HID.out HDL.out hd1).mono ?_
      rintro e w14 ⟨TD2, rfl, hT14, b14⟩
      have B14 := Lib.hid (below_trans B13.out b14)
      have R14 := Lib.hid (R13.out.later b14)
      have X14 := Lib.hid (X13.out.later b14)
      have Y14 := Lib.hid (Y13.out.later b14)
      have D14 := Lib.hid (D13.out.later b14)
      have G14 := Lib.hid (G13.out.later b14)
      have T14 := Lib.hid hT14
      clear hT14 b14 B13 R13 X13 Y13 D13 G13
      go_wp2_with fail
      refine (eqPaperDeedS_any XD TD2 ds d d d HDL.out _ D14.out.rd T14.out.rd (by omega)).mono ?_
      rintro e w15 ⟨rfl, b15⟩
      have B15 := Lib.hid (below_trans B14.out b15)
      have R15 := Lib.hid (R14.out.later b15)
      have X15 := Lib.hid (X14.out.later b15)
      have Y15 := Lib.hid (Y14.out.later b15)
      have D15 := Lib.hid (D14.out.later b15)
      have G15 := Lib.hid (G14.out.later b15)
      clear b15 B14 R14 X14 Y14 D14 G14 T14
      have y0 := Y15.out.cellAt 0 (by simp)
      have y1 := Y15.out.cellAt 1 (by simp)
      simp only [List.getElem_cons_zero, List.getElem_cons_succ] at y0 y1
      have cMX := Lib.hid (markPapersT_any XA XL n xc m xlc w5.heap.size qx 1 hs ls w15 X15.out (by omega) (by omega))
      go_wp2_with fail
      refine cMX.out.mono ?_
      rintro e w16 ⟨rfl, _, o16, k16⟩
      have B16 := Lib.hid (below_out B15.out o16 B5')
      have R16 := Lib.hid (R15.out.outT o16 (.inl hs5) (k16.1 _ _ _ (by decide) (by decide) R15.out.blk))
      have D16 : Hid (OwnI w16 w7.heap.size w8.heap.size 41 3 (.slice XD d d) d (paperdeeds ds)) := Lib.hid (D15.out.out o16 (.inr (Nat.le_of_lt ly)))
      have G16 := Lib.hid (G15.out.outT o16 (.inr (by omega)) (k16.1 _ _ _ (by decide) (by decide) G15.out.blk))
      clear o16 k16 y0 y1 B15 R15 X15 Y15 D15 G15 cMX
      have hz0 : 0 ≤ (1 : Int) + ((2 * n : Nat) : Int) + (m : Int) := by omega
      go_wp2_with fail
      refine (markPaperDeedS_any XD d d w7.heap.size _ _ _ D16.out.row hz0 (by omega)).mono ?_
      rintro e w17 ⟨rfl, hrow, hgr⟩
      obtain ⟨_, o17⟩ := D16.out.turned hrow hgr
      have B17 := Lib.hid (below_out B16.out o17 (by omega))
      have R17 := Lib.hid (R16.out.outT o17 (.inl (by omega)) (own_blk_apart D16.out.row hgr R16.out.blk (by decide)))
      have G17 := Lib.hid (G16.out.outT o17 (.inr (Nat.le_refl _)) (own_blk_apart D16.out.row hgr G16.out.blk (by decide)))
      have hz1 : ¬ (1 + ((2 * n : Nat) : Int) + (m : Int) + ((3 * d : Nat) : Int) < 0) := by omega
      clear hrow hgr o17 B16 R16 D16 G16
      have q0 := R17.out.blk.cellAt 0 (by simp)
      have q1 := R17.out.blk.cellAt 1 (by simp)
      have z0 := G17.out.blk.cellAt 0 (by simp)
      have z1 := G17.out.blk.cellAt 1 (by simp)
      simp only [List.getElem_cons_zero, List.getElem_cons_succ] at q0 q1 z0 z1
      go_wp2_with fail
      refine (eqPapers_any A2 A1 L2 L1 n1 c2 c1 m1 lc2 lc1 hs' ls' _ G17.out.pap.rd R17.out.pap.rd (by omega) (by omega)).mono ?_
      rintro e w18 ⟨rfl, b18⟩
      have B18 := Lib.hid (below_trans B17.out b18)
      have R18 := Lib.hid (R17.out.later b18)
      have G18 := Lib.hid (G17.out.later b18)
      clear b18 B17 R17 G17 q0 q1 z0 z1
      go_wp2_with fail
      refine (eqBoolS_any D2 D1 bs d1 dc2 dc1 G18.out.len _ G18.out.don.rd R18.out.don.rd (by omega)).mono ?_
      rintro e w19 ⟨rfl, b19⟩
      have B19 := Lib.hid (below_trans B18.out b19)
      have R19 := Lib.hid (R18.out.later b19)
      have G19 := Lib.hid (G18.out.later b19)
      clear b19 B18 R18 G18
      have z0 := G19.out.blk.cellAt 0 (by simp)
      have z1 := G19.out.blk.cellAt 1 (by simp)
      simp only [List.getElem_cons_zero, List.getElem_cons_succ] at z0 z1
      have cMG := Lib.hid (markPapersT_any A2 L2 n1 c2 m1 lc2 w8.heap.size qz 1 hs' ls' w19 G19.out.pap (by omega) (by omega))
      go_wp2_with fail
      refine cMG.out.mono ?_
      rintro e w20 ⟨rfl, p20, o20, k20⟩
      have B20 := Lib.hid (below_out B19.out o20 (by omega))
      have R20 := Lib.hid (R19.out.outT o20 (.inl (by omega)) (k20.1 _ _ _ (by decide) (by decide) R19.out.blk))
      have P20 := Lib.hid p20
      have V20 := Lib.hid (k20.2 _ _ _ _ _ _ (by decide) (by decide) G19.out.don.row)
      have Z20 := Lib.hid (k20.1 _ _ _ (by decide) (by decide) G19.out.blk)
      have VL := Lib.hid G19.out.don.lt
      clear p20 o20 k20 z0 z1 B19 R19 G19 cMG
      have hz2 : 0 ≤ (1 : Int) + ((2 * n1 : Nat) : Int) + (m1 : Int) := by omega
      go_wp2_with fail
      refine (markBoolS_any D2 d1 dc2 w8.heap.size _ _ _ V20.out hz2 (by omega)).mono ?_
      rintro e w21 ⟨rfl, hrow, hgr⟩
      have o21 : Out w8.heap.size qz w20 w21 := out_of_grown hgr (fun g e => ⟨(V20.out.lt g e).1, VL.out g e⟩)
      have B21 := Lib.hid (below_out B20.out o21 (by omega))
      have R21 := Lib.hid (R20.out.outT o21 (.inl (by omega)) (own_blk_apart V20.out hgr R20.out.blk (by decide)))
      have Z21 := Lib.hid (own_blk_apart V20.out hgr Z20.out (by decide))
      have P21 : Hid (PapRd w21 A2 L2 n1 m1 (marksH 1 n1) (marksI (1 + ((2 * n1 : Nat) : Int)) m1)) := Lib.hid ⟨P20.out.hn, P20.out.hm, own_rd (own_own_apart V20.out hgr P20.out.hold.row (by decide)), own_rd (own_own_apart V20.out hgr P20.out.left.row (by decide))⟩
      have V21 := Lib.hid (own_rd hrow)
      clear hrow hgr o21 B20 R20 Z20 P20 V20 VL
      have z0 := Z21.out.cellAt 0 (by simp)
      have z1 := Z21.out.cellAt 1 (by simp)
      simp only [List.getElem_cons_zero, List.getElem_cons_succ] at z0 z1
      have cHG := Lib.hid (heldPapers_any A2 L2 n1 c2 m1 lc2 1 w21 P21.out (by omega) (by omega))
      have hz3 : ¬ (1 + ((2 * n1 : Nat) : Int) + (m1 : Int) < 0) := by omega
      have hz4 : ¬ (1 + ((2 * n1 : Nat) : Int) + (m1 : Int) + (d1 : Int) < 0) := by omega
      have hz5 : (1 + ((2 * n1 : Nat) : Int) + (m1 : Int) + (d1 : Int) != 1 + ((2 * n1 : Nat) : Int) + (m1 : Int) + (d1 : Int)) = false := by simp
      go_wp2_with fail
      refine cHG.out.mono ?_
      rintro e w22 ⟨rfl, b22⟩
      have B22 := Lib.hid (below_trans B21.out b22)
      have R22 := Lib.hid (R21.out.later b22)
      have Z22 := Lib.hid (Z21.out.later b22)
      have P22 := Lib.hid (P21.out.later b22)
      have V22 := Lib.hid (V21.out.below b22)
      clear b22 B21 R21 Z21 P21 V21 z0 z1 cHG
      go_wp2_with fail
      refine (heldBoolS_any D2 d1 dc2 _ _ V22.out hz2 (by omega)).mono ?_
      rintro e w23 ⟨rfl, b23⟩
      have B23 := Lib.hid (below_trans B22.out b23)
      have R23 := Lib.hid (R22.out.later b23)
      have Z23 := Lib.hid (Z22.out.later b23)
      have P23 := Lib.hid (P22.out.later b23)
      have V23 := Lib.hid (V22.out.below b23)
      clear b23 B22 R22 Z22 P22 V22
      have s0 := (HP0.out.later B23.out).cellAt 0 (by simp)
      have s1 := (HP0.out.later B23.out).cellAt 1 (by simp)
      simp only [List.getElem_cons_zero, List.getElem_cons_succ] at s0 s1
      go_wp2_with fail
      refine (toPapersQ (w5 := w0) HA LA n hc m lc hs ls _ B23.out HIN.out hn1 hm1).mono ?_
      rintro e w24 ⟨TA, tc, TL, tlc, rfl, hT24, b24⟩
      have B24 := Lib.hid (below_trans B23.out b24)
      have R24 := Lib.hid (R23.out.later b24)
      have Z24 := Lib.hid (Z23.out.later b24)
      have P24 := Lib.hid (P23.out.later b24)
      have V24 := Lib.hid (V23.out.below b24)
      have T24 := Lib.hid hT24
      clear b24 B23 R23 Z23 P23 V23 hT24 s0 s1
      go_wp2_with fail
      refine (toDeedsQ (w5 := w0) DA d dc ds _ B24.out HID.out HDL.out hd1).mono ?_
      rintro e w25 ⟨TD3, rfl, hT25, b25⟩
      have B25 := Lib.hid (below_trans B24.out b25)
      have R25 := Lib.hid (R24.out.later b25)
      have Z25 := Lib.hid (Z24.out.later b25)
      have P25 := Lib.hid (P24.out.later b25)
      have V25 := Lib.hid (V24.out.below b25)
      have T25 := Lib.hid (T24.out.later b25)
      have U25 := Lib.hid hT25
      clear b25 B24 R24 Z24 P24 V24 T24 hT25
      go_wp2_with fail
      refine (implRunL (W := w25) HPD.out T25.out.rd U25.out.rd HDL.out hn1 hm1 hd1).mono ?_
      rintro e w26 ⟨A3, n2, c3, L3, m2, lc3, D3, d2, dc3, rfl, e1, e2, e3, o1, o2, o3, b26⟩
      dsimp only at e1 e2 e3 o1 o2 o3
      obtain rfl : n1 = n2 := R25.out.pap.hn.symm.trans e1
      obtain rfl : m1 = m2 := R25.out.pap.hm.symm.trans e2
      obtain rfl : d1 = d2 := R25.out.len.symm.trans e3
      have hal : Below w26.heap.size w26 (w26.alloc (.cells #[.slice A3 n1 c3, .slice L3 m1 lc3] 26)) := (Below.refl _ _).alloc (Nat.le_refl _) _
      have N27 := Lib.hid (rAt_new e1 e2 e3 o1 o2 o3)
      have b27 := below_trans b26 hal
      have B27 := Lib.hid (below_trans B25.out b27)
      have R27 := Lib.hid (R25.out.later b27)
      have Z27 := Lib.hid (Z25.out.later b27)
      have P27 := Lib.hid (P25.out.later b27)
      have V27 := Lib.hid (V25.out.below b27)
      clear e1 e2 e3 o1 o2 o3 b26 hal b27 B25 R25 Z25 P25 V25 T25 U25
      have q0 := R27.out.blk.cellAt 0 (by simp)
      have q1 := R27.out.blk.cellAt 1 (by simp)
      have y0 := N27.out.blk.cellAt 0 (by simp)
      have y1 := N27.out.blk.cellAt 1 (by simp)
      simp only [List.getElem_cons_zero, List.getElem_cons_succ] at q0 q1 y0 y1
      go_wp2_with fail
      generalize w26.alloc (.cells #[.slice A3 n1 c3, .slice L3 m1 lc3] 26) = w27 at *
      generalize w26.heap.size = qh at *
      refine (eqPapers_any A3 A1 L3 L1 n1 c3 c1 m1 lc3 lc1 hs' ls' _ N27.out.pap.rd R27.out.pap.rd (by omega) (by omega)).mono ?_
      rintro e w28 ⟨rfl, b28⟩
      have B28 := Lib.hid (below_trans B27.out b28)
      have R28 := Lib.hid (R27.out.later b28)
      have N28 := Lib.hid (N27.out.later b28)
      have Z28 := Lib.hid (Z27.out.later b28)
      have P28 := Lib.hid (P27.out.later b28)
      have V28 := Lib.hid (V27.out.below b28)
      clear b28 B27 R27 N27 Z27 P27 V27 q0 q1 y0 y1
      go_wp2_with fail
      refine (eqBoolS_any D3 D1 bs d1 dc3 dc1 N28.out.len _ N28.out.don.rd R28.out.don.rd (by omega)).mono ?_
      rintro e w29 ⟨rfl, b29⟩
      have B29 := Lib.hid (below_trans B28.out b29)
      have Z29 := Lib.hid (Z28.out.later b29)
      have P29 := Lib.hid (P28.out.later b29)
      have V29 := Lib.hid (V28.out.below b29)
      clear b29 B28 R28 N28 Z28 P28 V28
      have z0 := Z29.out.cellAt 0 (by simp)
      have z1 := Z29.out.cellAt 1 (by simp)
      simp only [List.getElem_cons_zero, List.getElem_cons_succ] at z0 z1
      have cHG := Lib.hid (heldPapers_any A2 L2 n1 c2 m1 lc2 1 w29 P29.out (by omega) (by omega))
      go_wp2_with fail
      refine cHG.out.mono ?_
      rintro e w30 ⟨rfl, b30⟩
      have B30 := Lib.hid (below_trans B29.out b30)
      have V30 := Lib.hid (V29.out.below b30)
      clear b30 B29 Z29 P29 V29 z0 z1 cHG
      go_wp2_with fail
      refine (heldBoolS_any D2 d1 dc2 _ _ V30.out hz2 (by omega)).mono ?_
      rintro e w31 ⟨rfl, b31⟩
      have B31 := Lib.hid (below_trans B30.out b31)
      clear b31 B30 V30
      go_wp2_with fail
      go_ret
      exact ⟨rfl, below_trans HBL.out B31.out⟩
    · go_wp2_with fail
      go_ret
      exact ⟨rfl, below_trans HBL.out B1.out⟩
  · go_wp2_with fail
    go_ret
    exact ⟨rfl, below_trans HBL.out B1.out⟩
end Go.Proofs.Ytpkbipjnobfcdaa
