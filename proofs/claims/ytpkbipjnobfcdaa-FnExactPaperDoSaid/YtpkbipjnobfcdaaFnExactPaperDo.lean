/- FnExactPaperDo returns true, for all arguments; no condition. -/
import Derived.Test.YtpkbipjnobfcdaaPapX
import Derived.Test.YtpkbipjnobfcdaaPapS
import Derived.Deep.RegionHeld3
import Derived.Deep.CutRange
namespace Go.Proofs.Ytpkbipjnobfcdaa
open Go Go.ChangeShapes Go.WideShapes Go.ChangeAt Go.RowKit
set_option linter.unusedVariables false
set_option linter.unusedSimpArgs false
theorem paperDo_small (p : PapV) (k x m : Int) : (paperDo p k x m).1.hs.length ≤ 12 ∧ (paperDo p k x m).1.ls.length ≤ 12 := by
  unfold paperDo
  by_cases h : papOkV p = true
  · rw [if_pos h]
    have := papOk_iff.1 (pdo_ok h k x m)
    exact ⟨this.2.2.1, this.2.2.2⟩
  · rw [if_neg h]
    exact ⟨by simp, by simp⟩
theorem toPapersL {w5 : World} (HA LA : Option Addr) (n hc m lc : Nat) (hs : List HoldV) (ls : List Int) (W : World) (hW : Below w5.heap.size w5 W) (h : PapRd w5 HA LA n m hs ls) (h1 : n ≤ 1048576) (h2 : m ≤ 1048576) :
    Calls Try.prog 25 #[.agg #[.slice HA n hc, .slice LA m lc]] W fun e w' => ∃ TA tc TL tlc, e = .returned (.agg #[.slice TA n tc, .slice TL m tlc]) ∧ PapI w' w5.heap.size w'.heap.size TA n tc TL m tlc hs ls ∧ Below W.heap.size W w' := by
  refine (toPapers_any HA LA n hc m lc hs ls W (h.later hW) h1 h2).mono ?_
  rintro e w' ⟨_, rfl, TA, tc, TL, tlc, rfl, hp, hb⟩
  exact ⟨TA, tc, TL, tlc, rfl, ⟨hp.hn, hp.hm, ⟨own_base hp.hold.row hW.size, hp.hold.lt, hp.hold.top⟩, ⟨own_base hp.left.row hW.size, hp.left.lt, hp.left.top⟩⟩, hb⟩
theorem specDoL {w5 wb : World} {hs : List HoldV} {ls : List Int} {k x mk : Int} {r : PapV × Bool} {A L : Option Addr} {lo hi n c m lc : Nat} (hpd : paperDo ⟨hs, ls⟩ k x mk = r ∧ n ≤ 1048576 ∧ m ≤ 1048576) (h : PapI wb lo hi A n c L m lc hs ls) (hb : Below w5.heap.size w5 wb) (W : World) (hW : Below wb.heap.size wb W) :
    Calls Try.prog 18 #[.agg #[.slice A n c, .slice L m lc], .agg #[.int .i64 k, .int .i64 x, .int .i64 mk]] W fun e w' => ∃ A2 c2 L2 lc2 n2 m2, e = .returned (.tuple #[.agg #[.slice A2 n2 c2, .slice L2 m2 lc2], .bool r.2]) ∧ r.1.hs.length = n2 ∧ r.1.ls.length = m2 ∧ w'.ownsRow w5.heap.size 38 2 (.slice A2 n2 c2) n2 (holds r.1.hs) ∧ w'.ownsRow w5.heap.size 3 1 (.slice L2 m2 lc2) m2 (ints r.1.ls) ∧ Below W.heap.size W w' := by
  refine (specPaperDo A L n c m lc hs ls k x mk W h.hn h.hm (h.rd.hold.below hW) (h.rd.left.below hW) h.cap hpd.2.1 hpd.2.2).mono ?_
  rintro e w' ⟨_, rfl, A2, c2, L2, lc2, rfl, o1, o2, hb'⟩
  rw [hpd.1] at o1 o2 ⊢
  exact ⟨A2, c2, L2, lc2, _, _, rfl, rfl, rfl, own_base o1 (Nat.le_trans hb.size hW.size), own_base o2 (Nat.le_trans hb.size hW.size), hb'⟩
theorem implDoL {w5 wb : World} {hs : List HoldV} {ls : List Int} {k x mk : Int} {r : PapV × Bool} {A L : Option Addr} {lo hi n c m lc : Nat} (hpd : paperDo ⟨hs, ls⟩ k x mk = r ∧ n ≤ 1048576 ∧ m ≤ 1048576) (h : PapI wb lo hi A n c L m lc hs ls) (hb : Below w5.heap.size w5 wb) (W : World) (hW : Below wb.heap.size wb W) :
    Calls Try.prog 17 #[.agg #[.slice A n c, .slice L m lc], .agg #[.int .i64 k, .int .i64 x, .int .i64 mk]] W fun e w' => ∃ A2 c2 L2 lc2 n2 m2, e = .returned (.tuple #[.agg #[.slice A2 n2 c2, .slice L2 m2 lc2], .bool r.2]) ∧ r.1.hs.length = n2 ∧ r.1.ls.length = m2 ∧ w'.ownsRow w5.heap.size 38 2 (.slice A2 n2 c2) n2 (holds r.1.hs) ∧ w'.ownsRow w5.heap.size 3 1 (.slice L2 m2 lc2) m2 (ints r.1.ls) ∧ Below W.heap.size W w' := by
  refine (implPaperDo A L n c m lc hs ls k x mk W h.hn h.hm (h.rd.hold.below hW) (h.rd.left.below hW) hpd.2.1 hpd.2.2).mono ?_
  rintro e w' ⟨_, rfl, A2, c2, L2, lc2, rfl, o1, o2, hb'⟩
  rw [hpd.1] at o1 o2 ⊢
  exact ⟨A2, c2, L2, lc2, _, _, rfl, rfl, rfl, own_base o1 (Nat.le_trans hb.size hW.size), own_base o2 (Nat.le_trans hb.size hW.size), hb'⟩
theorem keep4P {w W : World} {a b : Nat} {x0 x1 y0 y1 : Value} (hb : Below w.heap.size w W) (la : a < w.heap.size) (lb : b < w.heap.size) (p0 : w.cell? ⟨a, 0, none⟩ = some x0) (p1 : w.cell? ⟨a, 1, none⟩ = some x1) (m0 : w.cell? ⟨b, 0, none⟩ = some y0) (m1 : w.cell? ⟨b, 1, none⟩ = some y1) :
    Below w.heap.size w W ∧ W.cell? ⟨a, 0, none⟩ = some x0 ∧ W.cell? ⟨a, 1, none⟩ = some x1 ∧ W.cell? ⟨b, 0, none⟩ = some y0 ∧ W.cell? ⟨b, 1, none⟩ = some y1 :=
  ⟨hb, (hb.cell (p := ⟨a, 0, none⟩) la).trans p0, (hb.cell (p := ⟨a, 1, none⟩) la).trans p1, (hb.cell (p := ⟨b, 0, none⟩) lb).trans m0, (hb.cell (p := ⟨b, 1, none⟩) lb).trans m1⟩
/-- what the cut gives: the struct, its rows -/
theorem papI_of_cut {w5 wx : World} {r : PapV × Bool} {A L : Option Addr} {n c m lc : Nat} (hn : r.1.hs.length = n) (hm : r.1.ls.length = m) (o1 : wx.ownsRow w5.heap.size 38 2 (.slice A n c) n (holds r.1.hs)) (o2 : wx.ownsRow w5.heap.size 3 1 (.slice L m lc) m (ints r.1.ls)) : PapI wx w5.heap.size wx.heap.size A n c L m lc r.1.hs r.1.ls := ⟨hn, hm, OwnI.of o1, OwnI.of o2⟩
set_option maxRecDepth 100000 in
set_option maxHeartbeats 8000000 in
theorem walkFnExactPaperDo (w : World) (v : Value) (d : PapD) (h : IsPap w v d) (v2 : Value) (e : PaperDeedV) (h2 : IsDeed w v2 e) :
    Calls Try.prog 6 #[v, v2] w fun e w' => e = .returned (.bool true) ∧ Below w.heap.size w w' := by
  obtain ⟨HA, hc, LA, lc, hs, ls⟩ := d
  obtain ⟨k, x, mk⟩ := e
  obtain ⟨rfl, hin, hx1, hx2⟩ := h
  obtain rfl := h2
  dsimp only at hin hx1 hx2 ⊢
  generalize hs.length = n at *
  generalize ls.length = m at *
  have hbl : Below w.heap.size w ((w.alloc (.cells #[.slice HA n hc, .slice LA m lc] 50)).alloc (.cells #[.int .i64 k, .int .i64 x, .int .i64 mk] 51)) := ((Below.refl _ _).alloc (Nat.le_refl _) _).alloc (by simp) _
  have hp0 := (Blk.new w 50 [.slice HA n hc, .slice LA m lc]).alloc (.cells #[.int .i64 k, .int .i64 x, .int .i64 mk] 51)
  have he0 := Blk.new (w.alloc (.cells #[.slice HA n hc, .slice LA m lc] 50)) 51 [.int .i64 k, .int .i64 x, .int .i64 mk]
  simp only [World.size_alloc] at he0
  have HIN := Lib.hid (hin.later hbl)
  have HBL := Lib.hid hbl
  clear hin hbl
  go_enter Try.func6, Try.ntmps6
  go_wp2_with fail
  generalize (w.alloc (.cells #[.slice HA n hc, .slice LA m lc] 50)).alloc (.cells #[.int .i64 k, .int .i64 x, .int .i64 mk] 51) = w0 at *
  have lp0 := hp0.lt
  have le0 := he0.lt
  have HP0 := Lib.hid hp0
  have HE0 := Lib.hid he0
  clear hp0 he0
  refine (szPapers_any HA LA n hc m lc _ hx1 hx2).mono ?_
  rintro e w1 ⟨r0, rfl, hr0, hr, hb1⟩
  have HR := Lib.hid hr
  have B1 := Lib.hid hb1
  clear hr hb1 hx1 hx2
  by_cases h0 : 0 ≤ r0
  · obtain ⟨hn1, hm1⟩ := HR.out h0
    obtain ⟨g1, g2⟩ := paperDo_small ⟨hs, ls⟩ k x mk
    generalize hpd : paperDo ⟨hs, ls⟩ k x mk = r at *
    have HPD : Hid (paperDo ⟨hs, ls⟩ k x mk = r ∧ n ≤ 1048576 ∧ m ≤ 1048576) := Lib.hid ⟨hpd, hn1, hm1⟩
    obtain ⟨⟨hs', ls'⟩, bb⟩ := r
    dsimp only at g1 g2
    have hqq : (bb != bb) = false := by simp
    clear hpd
    go_upto_region 5 with fail
    go_cut [6, 7] from 21 to 29 (fun s6 s7 wx => StepCut w1 (⟨hs', ls'⟩, bb) s6 s7 wx)
    case first =>
      have s0 := (HP0.out.later B1.out).cellAt 0 (by simp)
      have s1 := (HP0.out.later B1.out).cellAt 1 (by simp)
      have d0 := (HE0.out.later B1.out).cellAt 0 (by simp)
      have d1 := (HE0.out.later B1.out).cellAt 1 (by simp)
      have d2 := (HE0.out.later B1.out).cellAt 2 (by simp)
      simp only [List.getElem_cons_zero, List.getElem_cons_succ] at s0 s1 d0 d1 d2
      go_region_held3 (fun W' => Below w1.heap.size w1 W' ∧ W'.cell? ⟨w.heap.size, 0, none⟩ = some (.slice HA n hc) ∧ W'.cell? ⟨w.heap.size, 1, none⟩ = some (.slice LA m lc) ∧ W'.cell? ⟨w.heap.size + 1, 0, none⟩ = some (.int .i64 k) ∧ W'.cell? ⟨w.heap.size + 1, 0 + 1, none⟩ = some (.int .i64 x) ∧ W'.cell? ⟨w.heap.size + 1, 0 + 2, none⟩ = some (.int .i64 mk))
        (exact keep5 (by (repeat (first | assumption | exact Below.refl _ _ | with_reducible refine Below.drew ?_ | with_reducible refine bel_allocS ?_ _ | with_reducible refine bel_setS ?_ (by first | exact Nat.le_refl _ | assumption)))) (Nat.lt_of_lt_of_le lp0 B1.out.size) (Nat.lt_of_lt_of_le le0 B1.out.size) s0 s1 d0 d1 d2)
        (first
          | (have _tk := HTB
             go_at_call 18
             clear _tk
             (with_reducible refine (specDoL (w5 := w1) (wb := wb) HPD.out HTB.out kb _ (by (repeat (first | exact Below.refl _ _ | with_reducible refine Below.drew ?_ | with_reducible refine bel_allocS ?_ _)))).mono ?_)
             rintro e wt ⟨A6, c6, L6, lc6, n6, m6, rfl, hn6, hm6, o6, p6, hbt0⟩
             have hbt : Below w1.heap.size w1 wt := by first | exact below_trans kb hbt0 | exact below_trans (bel_allocS kb _) hbt0
             (first | (have hzC := hzB.later hbt0; have hzr := hzb) | (have hzC := (Blk.new wb 26 [.slice none 0 0, .slice none 0 0]).later hbt0; have hzr := kb.size) | skip)
             (first | (have rr0 := hzC.cellAt 0 (by simp); have rr1 := hzC.cellAt 1 (by simp); have rg0 := hzC.frozen 0; have rg1 := hzC.frozen 1; simp only [List.getElem_cons_zero, List.getElem_cons_succ] at rr0 rr1) | skip)
             clear hbt0)
          | (have _tk := HTA
             go_at_call 26
             clear _tk
             (with_reducible refine (toPaperDeed_any ⟨k, x, mk⟩ _).mono ?_)
             rintro e wb ⟨rfl, hbb0⟩
             have kb : Below w1.heap.size w1 wb := by first | exact below_trans ka hbb0 | exact below_trans (bel_allocS ka _) hbb0
             have HTB := Lib.hid (by first | exact HTA.out.later hbb0 | exact (HTA.out.later (bel_allocS (Below.refl _ _) _)).later hbb0 : PapI wb w1.heap.size wa.heap.size TA n tc TL m tlc hs ls)
             (first | (have hzB := hzA.later hbb0; have hzb := Nat.le_refl w1.heap.size) | (have hzB := (Blk.new wa 26 [.slice none 0 0, .slice none 0 0]).later hbb0; have hzb := ka.size) | skip)
             clear hbb0)
          | (go_at_call 25
             (with_reducible refine (toPapersL (w5 := w1) HA LA n hc m lc hs ls _ (by (repeat (first | exact Below.refl _ _ | with_reducible refine Below.drew ?_ | with_reducible refine bel_allocS ?_ _))) (HIN.out.later (below_trans B1.out (Below.refl _ _))) hn1 hm1).mono ?_)
             rintro e wa ⟨TA, tc, TL, tlc, rfl, hta, hba0⟩
             have HTA := Lib.hid hta
             have ka : Below w1.heap.size w1 wa := by first | exact below_trans (Below.drew (Below.refl _ _)) hba0 | exact below_trans (Below.drew (bel_allocS (Below.refl _ _) _)) hba0
             (first | (have hzA := (Blk.drew (Blk.new w1 26 [.slice none 0 0, .slice none 0 0])).later hba0) | skip)
             clear hta hba0))
      all_goals (go_wp2_with fail; go_meet)
      all_goals (first
        | exact stepCut_new (r := (⟨hs', ls'⟩, bb)) hbt o6 p6 hn6 hm6
        | exact stepCut_old (r := (⟨hs', ls'⟩, bb)) hbt hzr hzC o6 p6 hn6 hm6)
    case rest =>
      obtain ⟨w2, hw2⟩ : ∃ w2 : World, w2 = wc := ⟨_, rfl⟩
      subst hw2
      obtain ⟨q, A1, n1, c1, L1, m1, lc1, rfl, rfl, hn2, hm2, hq, hQ2, o2, p2, b2⟩ := hcut
      have g1' : n1 ≤ 12 := by have := hn2; dsimp only at this; omega
      have g2' : m1 ≤ 12 := by have := hm2; dsimp only at this; omega
      have R2 := Lib.hid (papI_of_cut (r := (⟨hs', ls'⟩, bb)) hn2 hm2 o2 p2)
      have Q2 := Lib.hid hQ2
      have B2 := Lib.hid (below_trans B1.out b2)
      have lq := hQ2.lt
      have B2' := Lib.hid B2.out.size
      clear hn2 hm2 o2 p2 b2 hQ2
      have s0 := (HP0.out.later B2.out).cellAt 0 (by simp)
      have s1 := (HP0.out.later B2.out).cellAt 1 (by simp)
      have d0 := (HE0.out.later B2.out).cellAt 0 (by simp)
      have d1 := (HE0.out.later B2.out).cellAt 1 (by simp)
      have d2 := (HE0.out.later B2.out).cellAt 2 (by simp)
      simp only [List.getElem_cons_zero, List.getElem_cons_succ] at s0 s1 d0 d1 d2
      go_wp2_with fail
      refine (toPapersL (w5 := w2) HA LA n hc m lc hs ls _ (Below.refl _ _) (HIN.out.later B2.out) hn1 hm1).mono ?_
      rintro e w3 ⟨XA, xc, XL, xlc, rfl, hX3, b3⟩
      have hal4 : Below w3.heap.size w3 (w3.alloc (.cells #[.slice XA n xc, .slice XL m xlc] 26)) := (Below.refl _ _).alloc (Nat.le_refl _) _
      have hY4 := Blk.new w3 26 [.slice XA n xc, .slice XL m xlc]
      have B4 := Lib.hid (below_trans (below_trans B2.out b3) hal4)
      have R4 := Lib.hid ((R2.out.later b3).later hal4)
      have Q4 := Lib.hid ((Q2.out.later b3).later hal4)
      have X4 := Lib.hid (hX3.later hal4)
      have Y4 := Lib.hid hY4
      have l23 := b3.size
      have ly := hY4.lt
      have B4' : Hid (w0.heap.size ≤ (w3.alloc (.cells #[.slice XA n xc, .slice XL m xlc] 26)).heap.size ∧ w2.heap.size ≤ (w3.alloc (.cells #[.slice XA n xc, .slice XL m xlc] 26)).heap.size) := Lib.hid ⟨B4.out.size, Nat.le_trans l23 hal4.size⟩
      clear s0 s1 d0 d1 d2
      clear hX3 b3 hal4 R2 Q2 B2
      go_upto_region 7 with fail
      generalize w3.alloc (.cells #[.slice XA n xc, .slice XL m xlc] 26) = w4 at *
      generalize w3.heap.size = qx at *
      go_cut [9, 10] from 31 to 38 (fun s9 s10 wx => StepCut w4 (⟨hs', ls'⟩, bb) s9 s10 wx)
      case first =>
        have s0 := (HP0.out.later B4.out).cellAt 0 (by simp)
        have s1 := (HP0.out.later B4.out).cellAt 1 (by simp)
        have d0 := (HE0.out.later B4.out).cellAt 0 (by simp)
        have d1 := (HE0.out.later B4.out).cellAt 1 (by simp)
        have d2 := (HE0.out.later B4.out).cellAt 2 (by simp)
        simp only [List.getElem_cons_zero, List.getElem_cons_succ] at s0 s1 d0 d1 d2
        have y0 := hY4.cellAt 0 (by simp)
        have y1 := hY4.cellAt 1 (by simp)
        simp only [List.getElem_cons_zero, List.getElem_cons_succ] at y0 y1
        go_region_held3 (fun W' => Below w4.heap.size w4 W' ∧ W'.cell? ⟨qx, 0, none⟩ = some (.slice XA n xc) ∧ W'.cell? ⟨qx, 1, none⟩ = some (.slice XL m xlc) ∧ W'.cell? ⟨w.heap.size + 1, 0, none⟩ = some (.int .i64 k) ∧ W'.cell? ⟨w.heap.size + 1, 0 + 1, none⟩ = some (.int .i64 x) ∧ W'.cell? ⟨w.heap.size + 1, 0 + 2, none⟩ = some (.int .i64 mk))
          (exact keep5 (by (repeat (first | assumption | exact Below.refl _ _ | with_reducible refine Below.drew ?_ | with_reducible refine bel_allocS ?_ _ | with_reducible refine bel_setS ?_ (by first | exact Nat.le_refl _ | assumption)))) ly (Nat.lt_of_lt_of_le le0 B4.out.size) y0 y1 d0 d1 d2)
          (first
            | (have _tk := HTB
               go_at_call 17
               clear _tk
               (with_reducible refine (implDoL (w5 := w4) (wb := wb) HPD.out HTB.out kb _ (by (repeat (first | exact Below.refl _ _ | with_reducible refine Below.drew ?_ | with_reducible refine bel_allocS ?_ _)))).mono ?_)
               rintro e wt ⟨A6, c6, L6, lc6, n6, m6, rfl, hn6, hm6, o6, p6, hbt0⟩
               have hbt : Below w4.heap.size w4 wt := by first | exact below_trans kb hbt0 | exact below_trans (bel_allocS kb _) hbt0
               (first | (have hzC := hzB.later hbt0; have hzr := Nat.le_refl w4.heap.size) | (have hzC := (Blk.new wb 26 [.slice none 0 0, .slice none 0 0]).later hbt0; have hzr := kb.size) | skip)
               (first | (have rr0 := hzC.cellAt 0 (by simp); have rr1 := hzC.cellAt 1 (by simp); have rg0 := hzC.frozen 0; have rg1 := hzC.frozen 1; simp only [List.getElem_cons_zero, List.getElem_cons_succ] at rr0 rr1) | skip)
               clear hbt0)
            | (go_at_call 26
               (with_reducible refine (toPaperDeed_any ⟨k, x, mk⟩ _).mono ?_)
               rintro e wb ⟨rfl, hbb0⟩
               have kb : Below w4.heap.size w4 wb := by first | exact below_trans (Below.drew (Below.refl _ _)) hbb0 | exact below_trans (Below.drew (bel_allocS (Below.refl _ _) _)) hbb0
               have HTB := Lib.hid (X4.out.later kb)
               (first | (have hzB := (Blk.drew (Blk.new w4 26 [.slice none 0 0, .slice none 0 0])).later hbb0) | skip)
               clear hbb0))
        all_goals (go_wp2_with fail; go_meet)
        all_goals (first
          | exact stepCut_new (r := (⟨hs', ls'⟩, bb)) hbt o6 p6 hn6 hm6
          | exact stepCut_old (r := (⟨hs', ls'⟩, bb)) hbt hzr hzC o6 p6 hn6 hm6)
      case rest =>
        obtain ⟨w5, hw5⟩ : ∃ w5 : World, w5 = wc := ⟨_, rfl⟩
        subst hw5
        obtain ⟨qg, G1, n1', c2, L2, m1', lc2, rfl, rfl, hn2, hm2, hqg, hQ2, o2, p2, b5⟩ := hcut
        obtain rfl : n1 = n1' := R4.out.hn.symm.trans hn2
        obtain rfl : m1 = m1' := R4.out.hm.symm.trans hm2
        have G5 := Lib.hid (papI_of_cut (r := (⟨hs', ls'⟩, bb)) hn2 hm2 o2 p2)
        have Z5 := Lib.hid hQ2
        have B5 := Lib.hid (below_trans B4.out b5)
        have R5 := Lib.hid (R4.out.later b5)
        have Q5 := Lib.hid (Q4.out.later b5)
        have X5 := Lib.hid (X4.out.later b5)
        have Y5 := Lib.hid (Y4.out.later b5)
        have lz := hQ2.lt
        have lw4 : qx < w4.heap.size := ly
        have q0 := Q5.out.cellAt 0 (by simp)
        have q1 := Q5.out.cellAt 1 (by simp)
        simp only [List.getElem_cons_zero, List.getElem_cons_succ] at q0 q1
        have z0 := hQ2.cellAt 0 (by simp)
        have z1 := hQ2.cellAt 1 (by simp)
        simp only [List.getElem_cons_zero, List.getElem_cons_succ] at z0 z1
        clear hn2 hm2 o2 p2 b5 hQ2 hY4 B4 R4 Q4 X4 Y4
        go_wp2_with fail
        refine (eqPapers_any G1 A1 L2 L1 n1 c2 c1 m1 lc2 lc1 hs' ls' _ G5.out.rd R5.out.rd (by omega) (by omega)).mono ?_
        rintro e w6 ⟨rfl, b6⟩
        have B6 := Lib.hid (below_trans B5.out b6)
        have R6 := Lib.hid (R5.out.later b6)
        have Q6 := Lib.hid (Q5.out.later b6)
        have X6 := Lib.hid (X5.out.later b6)
        have Y6 := Lib.hid (Y5.out.later b6)
        have G6 := Lib.hid (G5.out.later b6)
        have Z6 := Lib.hid (Z5.out.later b6)
        clear b6 B5 R5 Q5 X5 Y5 G5 Z5 q0 q1 z0 z1
        have s0 := (HP0.out.later B6.out).cellAt 0 (by simp)
        have s1 := (HP0.out.later B6.out).cellAt 1 (by simp)
        have d0 := (HE0.out.later B6.out).cellAt 0 (by simp)
        have d1 := (HE0.out.later B6.out).cellAt 1 (by simp)
        have d2 := (HE0.out.later B6.out).cellAt 2 (by simp)
        simp only [List.getElem_cons_zero, List.getElem_cons_succ] at s0 s1 d0 d1 d2
        have y0 := Y6.out.cellAt 0 (by simp)
        have y1 := Y6.out.cellAt 1 (by simp)
        simp only [List.getElem_cons_zero, List.getElem_cons_succ] at y0 y1
        have lpy := Y6.out.lt
        have lps := Nat.lt_of_lt_of_le lp0 B6.out.size
        go_wp2_with fail
        go_region_held3 (fun W' => Below w6.heap.size w6 W' ∧ W'.cell? ⟨qx, 0, none⟩ = some (.slice XA n xc) ∧ W'.cell? ⟨qx, 1, none⟩ = some (.slice XL m xlc) ∧ W'.cell? ⟨w.heap.size, 0, none⟩ = some (.slice HA n hc) ∧ W'.cell? ⟨w.heap.size, 1, none⟩ = some (.slice LA m lc))
          (exact keep4P (by (repeat (first | assumption | exact Below.refl _ _ | with_reducible refine Below.drew ?_))) lpy lps y0 y1 s0 s1)
          (first
            | (have _tk := HTA
               go_at_call 27
               clear _tk
               (with_reducible refine (eqPapers_any XA TA XL TL n xc tc m xlc tlc hs ls _ (X6.out.rd.later ka) HTA.out.rd (by omega) (by omega)).mono ?_)
               rintro e wb ⟨rfl, hbb⟩
               have kb := below_trans ka hbb
               clear hbb)
            | (go_at_call 25
               (with_reducible refine (toPapersL (w5 := w6) HA LA n hc m lc hs ls _ (Below.drew (Below.refl _ _)) (HIN.out.later B6.out) hn1 hm1).mono ?_)
               rintro e wa ⟨TA, tc, TL, tlc, rfl, hta, hba0⟩
               have HTA := Lib.hid hta
               have ka := below_trans (Below.drew (Below.refl _ _)) hba0
               clear hta hba0))
        have B7 := Lib.hid (below_trans B6.out kb)
        have R7 := Lib.hid (R6.out.later kb)
        have Q7 := Lib.hid (Q6.out.later kb)
        have X7 := Lib.hid (X6.out.later kb)
        have Y7 := Lib.hid (Y6.out.later kb)
        have G7 := Lib.hid (G6.out.later kb)
        have Z7 := Lib.hid (Z6.out.later kb)
        clear s0 s1 d0 d1 d2
        clear ka kb HTA y0 y1 B6 R6 Q6 X6 Y6 G6 Z6
        have y0 := Y7.out.cellAt 0 (by simp)
        have y1 := Y7.out.cellAt 1 (by simp)
        simp only [List.getElem_cons_zero, List.getElem_cons_succ] at y0 y1
        have hB12 := B1.out.size
        have hRtop := R7.out.hold.top
        have hz1 : ¬ (1 + ((2 * n : Nat) : Int) + (m : Int) < 0) := by omega
        have hz2 : ¬ (1 + ((2 * n1 : Nat) : Int) + (m1 : Int) < 0) := by omega
        have hzz : (1 + ((2 * n1 : Nat) : Int) + (m1 : Int) != 1 + ((2 * n1 : Nat) : Int) + (m1 : Int)) = false := by simp
        have cMX := Lib.hid (markPapers_any XA XL n xc m xlc w2.heap.size qx 1 hs ls wb X7.out (by omega) (by omega))
        go_wp2_with fail
        refine cMX.out.mono ?_
        rintro e w8 ⟨rfl, _, o8, k8⟩
        have hs8 := o8.size
        have B8 := Lib.hid (below_out B7.out o8 B2'.out)
        have R8 := Lib.hid (R7.out.out o8 (.inl (Nat.le_refl _)))
        have Q8 := Lib.hid (k8 _ _ Q7.out)
        have G8 := Lib.hid (G7.out.out o8 (.inr (Nat.le_of_lt lw4)))
        have Z8 := Lib.hid (k8 _ _ Z7.out)
        clear o8 k8 y0 y1 B7 R7 Q7 X7 Y7 G7 Z7 cMX hRtop
        have q0 := Q8.out.cellAt 0 (by simp)
        have q1 := Q8.out.cellAt 1 (by simp)
        simp only [List.getElem_cons_zero, List.getElem_cons_succ] at q0 q1
        have z0 := Z8.out.cellAt 0 (by simp)
        have z1 := Z8.out.cellAt 1 (by simp)
        simp only [List.getElem_cons_zero, List.getElem_cons_succ] at z0 z1
        go_wp2_with fail
        refine (eqPapers_any G1 A1 L2 L1 n1 c2 c1 m1 lc2 lc1 hs' ls' _ G8.out.rd R8.out.rd (by omega) (by omega)).mono ?_
        rintro e w9 ⟨rfl, b9⟩
        have B9 := Lib.hid (below_trans B8.out b9)
        have R9 := Lib.hid (R8.out.later b9)
        have Q9 := Lib.hid (Q8.out.later b9)
        have G9 := Lib.hid (G8.out.later b9)
        have Z9 := Lib.hid (Z8.out.later b9)
        clear b9 B8 R8 Q8 G8 Z8 q0 q1 z0 z1
        have z0 := Z9.out.cellAt 0 (by simp)
        have z1 := Z9.out.cellAt 1 (by simp)
        simp only [List.getElem_cons_zero, List.getElem_cons_succ] at z0 z1
        have cMG := Lib.hid (markPapers_any G1 L2 n1 c2 m1 lc2 w4.heap.size w5.heap.size 1 hs' ls' w9 G9.out (by omega) (by omega))
        go_wp2_with fail
        refine cMG.out.mono ?_
        rintro e wd ⟨rfl, gd, od, kd⟩
        have Bd := Lib.hid (below_out B9.out od (by have := B4'.out; omega))
        have Rd := Lib.hid (R9.out.out od (.inl (by have := B4'.out; omega)))
        have Qd := Lib.hid (kd _ _ Q9.out)
        have Gd := Lib.hid gd
        have Zd := Lib.hid (kd _ _ Z9.out)
        clear gd od kd z0 z1 B9 R9 Q9 G9 Z9 cMG
        have z0 := Zd.out.cellAt 0 (by simp)
        have z1 := Zd.out.cellAt 1 (by simp)
        simp only [List.getElem_cons_zero, List.getElem_cons_succ] at z0 z1
        have cHG := Lib.hid (heldPapers_any G1 L2 n1 c2 m1 lc2 1 wd Gd.out.rd (by omega) (by omega))
        go_wp2_with fail
        refine cHG.out.mono ?_
        rintro e wf ⟨rfl, bf⟩
        have Bf := Lib.hid (below_trans Bd.out bf)
        have Rf := Lib.hid (Rd.out.later bf)
        have Qf := Lib.hid (Qd.out.later bf)
        have Gf := Lib.hid (Gd.out.later bf)
        have Zf := Lib.hid (Zd.out.later bf)
        clear bf Bd Rd Qd Gd Zd z0 z1 cHG
        go_upto_region 24 with fail
        go_cut [14, 15] from 79 to 87 (fun s14 s15 wx => StepCut wf (⟨hs', ls'⟩, bb) s14 s15 wx)
        case first =>
          have s0 := (HP0.out.later Bf.out).cellAt 0 (by simp)
          have s1 := (HP0.out.later Bf.out).cellAt 1 (by simp)
          have d0 := (HE0.out.later Bf.out).cellAt 0 (by simp)
          have d1 := (HE0.out.later Bf.out).cellAt 1 (by simp)
          have d2 := (HE0.out.later Bf.out).cellAt 2 (by simp)
          simp only [List.getElem_cons_zero, List.getElem_cons_succ] at s0 s1 d0 d1 d2
          go_region_held3 (fun W' => Below wf.heap.size wf W' ∧ W'.cell? ⟨w.heap.size, 0, none⟩ = some (.slice HA n hc) ∧ W'.cell? ⟨w.heap.size, 1, none⟩ = some (.slice LA m lc) ∧ W'.cell? ⟨w.heap.size + 1, 0, none⟩ = some (.int .i64 k) ∧ W'.cell? ⟨w.heap.size + 1, 0 + 1, none⟩ = some (.int .i64 x) ∧ W'.cell? ⟨w.heap.size + 1, 0 + 2, none⟩ = some (.int .i64 mk))
            (exact keep5 (by (repeat (first | assumption | exact Below.refl _ _ | with_reducible refine Below.drew ?_ | with_reducible refine bel_allocS ?_ _ | with_reducible refine bel_setS ?_ (by first | exact Nat.le_refl _ | assumption)))) (Nat.lt_of_lt_of_le lp0 Bf.out.size) (Nat.lt_of_lt_of_le le0 Bf.out.size) s0 s1 d0 d1 d2)
            (first
              | (have _tk := HTB
                 go_at_call 17
                 clear _tk
                 (with_reducible refine (implDoL (w5 := wf) (wb := wb) HPD.out HTB.out kb _ (by (repeat (first | exact Below.refl _ _ | with_reducible refine Below.drew ?_ | with_reducible refine bel_allocS ?_ _)))).mono ?_)
                 rintro e wt ⟨A6, c6, L6, lc6, n6, m6, rfl, hn6, hm6, o6, p6, hbt0⟩
                 have hbt : Below wf.heap.size wf wt := by first | exact below_trans kb hbt0 | exact below_trans (bel_allocS kb _) hbt0
                 (first | (have hzC := hzB.later hbt0; have hzr := hzb) | (have hzC := (Blk.new wb 26 [.slice none 0 0, .slice none 0 0]).later hbt0; have hzr := kb.size) | skip)
                 (first | (have rr0 := hzC.cellAt 0 (by simp); have rr1 := hzC.cellAt 1 (by simp); have rg0 := hzC.frozen 0; have rg1 := hzC.frozen 1; simp only [List.getElem_cons_zero, List.getElem_cons_succ] at rr0 rr1) | skip)
                 clear hbt0)
              | (have _tk := HTA
                 go_at_call 26
                 clear _tk
                 (with_reducible refine (toPaperDeed_any ⟨k, x, mk⟩ _).mono ?_)
                 rintro e wb ⟨rfl, hbb0⟩
                 have kb : Below wf.heap.size wf wb := by first | exact below_trans ka hbb0 | exact below_trans (bel_allocS ka _) hbb0
                 have HTB := Lib.hid (by first | exact HTA.out.later hbb0 | exact (HTA.out.later (bel_allocS (Below.refl _ _) _)).later hbb0 : PapI wb wf.heap.size wa.heap.size TA n tc TL m tlc hs ls)
                 (first | (have hzB := hzA.later hbb0; have hzb := Nat.le_refl wf.heap.size) | (have hzB := (Blk.new wa 26 [.slice none 0 0, .slice none 0 0]).later hbb0; have hzb := ka.size) | skip)
                 clear hbb0)
              | (go_at_call 25
                 (with_reducible refine (toPapersL (w5 := wf) HA LA n hc m lc hs ls _ (by (repeat (first | exact Below.refl _ _ | with_reducible refine Below.drew ?_ | with_reducible refine bel_allocS ?_ _))) (HIN.out.later (below_trans Bf.out (Below.refl _ _))) hn1 hm1).mono ?_)
                 rintro e wa ⟨TA, tc, TL, tlc, rfl, hta, hba0⟩
                 have HTA := Lib.hid hta
                 have ka : Below wf.heap.size wf wa := by first | exact below_trans (Below.drew (Below.refl _ _)) hba0 | exact below_trans (Below.drew (bel_allocS (Below.refl _ _) _)) hba0
                 (first | (have hzA := (Blk.drew (Blk.new wf 26 [.slice none 0 0, .slice none 0 0])).later hba0) | skip)
                 clear hta hba0))
          all_goals (go_wp2_with fail; go_meet)
          all_goals (first
            | exact stepCut_new (r := (⟨hs', ls'⟩, bb)) hbt o6 p6 hn6 hm6
            | exact stepCut_old (r := (⟨hs', ls'⟩, bb)) hbt hzr hzC o6 p6 hn6 hm6)
        case rest =>
          obtain ⟨wg, hwg⟩ : ∃ wg : World, wg = wc := ⟨_, rfl⟩
          subst hwg
          obtain ⟨qh, N1, n2', c3, L3, m2', lc3, rfl, rfl, hn2, hm2, hqh, hQ2, o2, p2, b5⟩ := hcut
          obtain rfl : n1 = n2' := Rf.out.hn.symm.trans hn2
          obtain rfl : m1 = m2' := Rf.out.hm.symm.trans hm2
          have Ng := Lib.hid (papI_of_cut (r := (⟨hs', ls'⟩, bb)) hn2 hm2 o2 p2)
          have Bg := Lib.hid (below_trans Bf.out b5)
          have Rg := Lib.hid (Rf.out.later b5)
          have Qg := Lib.hid (Qf.out.later b5)
          have Gg := Lib.hid (Gf.out.later b5)
          have Zg := Lib.hid (Zf.out.later b5)
          have q0 := Qg.out.cellAt 0 (by simp)
          have q1 := Qg.out.cellAt 1 (by simp)
          simp only [List.getElem_cons_zero, List.getElem_cons_succ] at q0 q1
          have y0 := hQ2.cellAt 0 (by simp)
          have y1 := hQ2.cellAt 1 (by simp)
          simp only [List.getElem_cons_zero, List.getElem_cons_succ] at y0 y1
          clear hn2 hm2 o2 p2 b5 hQ2 Bf Rf Qf Gf Zf
          go_wp2_with fail
          refine (eqPapers_any N1 A1 L3 L1 n1 c3 c1 m1 lc3 lc1 hs' ls' _ Ng.out.rd Rg.out.rd (by omega) (by omega)).mono ?_
          rintro e wh ⟨rfl, bh⟩
          have Bh := Lib.hid (below_trans Bg.out bh)
          have Gh := Lib.hid (Gg.out.later bh)
          have Zh := Lib.hid (Zg.out.later bh)
          clear bh Bg Rg Qg Gg Zg Ng q0 q1 y0 y1
          have z0 := Zh.out.cellAt 0 (by simp)
          have z1 := Zh.out.cellAt 1 (by simp)
          simp only [List.getElem_cons_zero, List.getElem_cons_succ] at z0 z1
          have cHG := Lib.hid (heldPapers_any G1 L2 n1 c2 m1 lc2 1 wh Gh.out.rd (by omega) (by omega))
          go_wp2_with fail
          refine cHG.out.mono ?_
          rintro e wi ⟨rfl, bi⟩
          have Bi := Lib.hid (below_trans Bh.out bi)
          clear bi z0 z1 cHG Bh
          go_wp2_with fail
          go_ret
          exact ⟨rfl, below_trans HBL.out Bi.out⟩
  · go_wp2_with fail
    go_ret
    exact ⟨rfl, below_trans HBL.out B1.out⟩
end Go.Proofs.Ytpkbipjnobfcdaa
