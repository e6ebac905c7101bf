/- Several texts of the proof in one; each says at its head what it proves; no condition. -/
import Derived.Test.YtbllbpjlkechdaaGreatMg6
import Derived.Test.YtbllbpjlkechdaaGreatMg8
import Derived.Test.YtbllbpjlkechdaaGreatMg3
section
/- What the exact laws do with a terminal: its size, a copy, whether two are equal. Printed by gen_trmx.py. -/
namespace Go.Proofs.YtbllbpjlkechdaaGreat
open Go Go.ChangeShapes Go.WideShapes Go.ChangeAt Go.RowKit Go.Deep
set_option linter.unusedVariables false
set_option linter.unusedSimpArgs false
/-- a terminal that came in -/
structure TrmIn (w : World) (YA BA PA HA LA : Option Addr) (yn bn pn hn ln : Nat) (rows : List (List Int)) (bs : List BoxV) (plan : List Int) (hs : List HoldV) (ls : List Int) : Prop where
  yl : rows.length = yn
  yr : RdRR w YA (intss rows)
  ym : yn ≤ 9223372036854775807
  bl : bs.length = bn
  br : RdV w BA (boxs bs)
  bm : bn ≤ 9223372036854775807
  pl : plan.length = pn
  pr : RdV w PA (ints plan)
  pm : pn ≤ 9223372036854775807
  hl : hs.length = hn
  hr : RdV w HA (holds hs)
  hm : hn ≤ 9223372036854775807
  ll : ls.length = ln
  lr : RdV w LA (ints ls)
  lm : ln ≤ 9223372036854775807
theorem TrmIn.below {w w' : World} {YA BA PA HA LA : Option Addr} {yn bn pn hn ln : Nat} {rows : List (List Int)} {bs : List BoxV} {plan : List Int} {hs : List HoldV} {ls : List Int} (h : TrmIn w YA BA PA HA LA yn bn pn hn ln rows bs plan hs ls) (hb : Below w.heap.size w w') : TrmIn w' YA BA PA HA LA yn bn pn hn ln rows bs plan hs ls :=
  ⟨h.yl, h.yr.below hb, h.ym, h.bl, h.br.below hb, h.bm, h.pl, h.pr.below hb, h.pm, h.hl, h.hr.below hb, h.hm, h.ll, h.lr.below hb, h.lm⟩
/-- none of it is great -/
structure TrmSmall (yn bn pn hn ln : Nat) (rows : List (List Int)) : Prop where
  ys : YardSmall yn rows
  bs : bn ≤ 1048576
  ps : pn ≤ 1048576
  hs : hn ≤ 1048576
  ls : ln ≤ 1048576
/-- a terminal in memory of the call's own -/
def TrmNew (w : World) (high y0 y1 y2 : Int) (yn bn pn hn ln : Nat) (rows : List (List Int)) (bs : List BoxV) (plan : List Int) (hs : List HoldV) (ls : List Int) : Ending → World → Prop :=
  RVal fun u w' => ∃ YB yd BB PB HB hd LB ld, u = .agg #[.int .i64 high, .slice YB yn yd, .int .i64 y0, .int .i64 y1, .int .i64 y2, .slice BB bn bn, .slice PB pn pn, .slice HB hn hd, .slice LB ln ld] ∧ TrmRd w' YB BB PB HB LB yn bn bn pn pn hn ln rows bs plan hs ls ∧ Below w.heap.size w w'
theorem szYardL (high : Int) (A : Option Addr) (n c : Nat) (rows : List (List Int)) (w : World) (h : YardIn w A n rows) (l : Int) (h0 : 0 ≤ l) (h1 : l ≤ 1048576) :
    Calls Tryz.prog 12 #[.agg #[.int .i64 high, .slice A n c], .int .i64 l] w (RInt fun r w' => r ≤ l ∧ (0 ≤ r → YardSmall n rows) ∧ Below w.heap.size w w') := by
  obtain ⟨h2, h3, h4⟩ := h
  have H2 := Lib.hid h2
  have hbl : Below w.heap.size w (w.alloc (.cells #[.int .i64 high, .slice A n c] 24)) := (Below.refl _ _).alloc (Nat.le_refl _) _
  have HBL := Lib.hid hbl
  have h3' := h3.below hbl
  clear h2 h3 hbl
  go_enter Tryz.func12, Tryz.ntmps12
  go_wp2_with fail
  refine (szIntSS_any A rows n c H2.out _ h3' h4 l h0 h1).mono ?_
  rintro e w' ⟨r, rfl, hr1, hr2, rfl⟩
  have HR : Hid (0 ≤ r → YardSmall n rows) := Lib.hid fun h => by
    have := hr2 h
    unfold YardSmall
    omega
  clear hr2
  by_cases h0 : 0 ≤ r
  · go_wp2_with fail
    go_ret
    exact RInt.mk ⟨hr1, HR.out, HBL.out⟩
  · go_wp2_with fail
    go_ret
    exact RInt.mk ⟨by omega, fun h => by omega, HBL.out⟩
theorem szPapersL (HA LA : Option Addr) (n hc m lc : Nat) (w : World) (h1 : n ≤ 9223372036854775807) (h2 : m ≤ 9223372036854775807) (l : Int) (hl0 : 0 ≤ l) (hl1 : l ≤ 1048576) :
    Calls Tryz.prog 15 #[.agg #[.slice HA n hc, .slice LA m lc], .int .i64 l] w (RInt fun r w' => r ≤ l ∧ (0 ≤ r → n ≤ 1048576 ∧ m ≤ 1048576) ∧ Below w.heap.size w w') := by
  have hbl : Below w.heap.size w (w.alloc (.cells #[.slice HA n hc, .slice LA m lc] 31)) := (Below.refl _ _).alloc (Nat.le_refl _) _
  have HBL := Lib.hid hbl
  clear hbl
  go_enter Tryz.func15, Tryz.ntmps15
  go_wp2_with fail
  refine (szHoldS_any HA n hc _ h1 l hl0 hl1).mono ?_
  rintro e w' ⟨r, rfl, hr1, hr2, rfl⟩
  by_cases h0 : 0 ≤ r
  · have hn := hr2 h0
    clear hr2
    go_wp2_with fail
    refine (szIntS_any LA m lc _ h2 r h0 (by omega)).mono ?_
    rintro e w' ⟨r2, rfl, hq1, hq2, rfl⟩
    have HQ := Lib.hid hq2
    clear hq2
    by_cases h3 : 0 ≤ r2
    · have hm : m ≤ 1048576 := by have := HQ.out h3; omega
      go_wp2_with fail
      go_ret
      exact RInt.mk ⟨by omega, fun _ => ⟨by omega, hm⟩, HBL.out⟩
    · go_wp2_with fail
      go_ret
      exact RInt.mk ⟨by omega, fun h => by omega, HBL.out⟩
  · clear hr2
    go_wp2_with fail
    go_ret
    exact RInt.mk ⟨by omega, fun h => by omega, HBL.out⟩
set_option maxHeartbeats 1000000 in
theorem toHull_any (y0 y1 y2 : Int) (w : World) : Calls Tryz.prog 20 #[.agg #[.int .i64 y0, .int .i64 y1, .int .i64 y2]] w fun e w' => e = .returned (.agg #[.int .i64 y0, .int .i64 y1, .int .i64 y2]) ∧ Below w.heap.size w w' := by
  go_enter Tryz.func20, Tryz.ntmps20
  go_wp2_with fail
  refine bodyPost_ret (v := .agg #[.int .i64 y0, .int .i64 y1, .int .i64 y2]) (by simp [results, Tryz.results20, go_sem]) rfl ?_
  exact ⟨rfl, (((Below.refl _ _).alloc (Nat.le_refl _) _).alloc (by simp) _).alloc (by simp; omega) _⟩
theorem eqHull_any (y0 y1 y2 : Int) (w : World) : Calls Tryz.prog 27 #[.agg #[.int .i64 y0, .int .i64 y1, .int .i64 y2], .agg #[.int .i64 y0, .int .i64 y1, .int .i64 y2]] w fun e w' => e = .returned (.bool true) ∧ Below w.heap.size w w' := by
  have g0 : (y0 != y0) = false := by simp
  have g1 : (y1 != y1) = false := by simp
  have g2 : (y2 != y2) = false := by simp
  go_enter Tryz.func27, Tryz.ntmps27
  go_wp2_with fail
  go_ret
  exact ⟨rfl, ((Below.refl _ _).alloc (Nat.le_refl _) _).alloc (by simp) _⟩
set_option maxHeartbeats 2000000 in
theorem szTerminal_any (high : Int) (y0 y1 y2 : Int) (YA BA PA HA LA : Option Addr) (yn yc bn bc pn pc hn hc ln lc : Nat) (rows : List (List Int)) (bs : List BoxV) (plan : List Int) (hs : List HoldV) (ls : List Int) (w : World) (T : TrmIn w YA BA PA HA LA yn bn pn hn ln rows bs plan hs ls) :
    Calls Tryz.prog 5 #[.agg #[.int .i64 high, .slice YA yn yc, .int .i64 y0, .int .i64 y1, .int .i64 y2, .slice BA bn bc, .slice PA pn pc, .slice HA hn hc, .slice LA ln lc], .int .i64 1048576] w (RInt fun r w' => (0 ≤ r → TrmSmall yn bn pn hn ln rows) ∧ Below w.heap.size w w') := by
  have hal : Below w.heap.size w (w.alloc (.cells #[.int .i64 high, .slice YA yn yc, .int .i64 y0, .int .i64 y1, .int .i64 y2, .slice BA bn bc, .slice PA pn pc, .slice HA hn hc, .slice LA ln lc] 33)) := (Below.refl _ _).alloc (Nat.le_refl _) _
  have hP : Blk (w.alloc (.cells #[.int .i64 high, .slice YA yn yc, .int .i64 y0, .int .i64 y1, .int .i64 y2, .slice BA bn bc, .slice PA pn pc, .slice HA hn hc, .slice LA ln lc] 33)) w.heap.size 33 [.int .i64 high, .slice YA yn yc, .int .i64 y0, .int .i64 y1, .int .i64 y2, .slice BA bn bc, .slice PA pn pc, .slice HA hn hc, .slice LA ln lc] := Blk.new _ _ _
  have TT := Lib.hid T
  clear T
  go_enter Tryz.func5, Tryz.ntmps5
  go_wp2_with fail
  generalize w.alloc (.cells #[.int .i64 high, .slice YA yn yc, .int .i64 y0, .int .i64 y1, .int .i64 y2, .slice BA bn bc, .slice PA pn pc, .slice HA hn hc, .slice LA ln lc] 33) = w1 at *
  have T1 := TT.out.below hal
  refine (szYardL high YA yn yc rows w1 ⟨T1.yl, T1.yr, T1.ym⟩ 1048576 (by omega) (by omega)).mono ?_
  rintro e w2 ⟨r0, rfl, q0, k0, b2⟩
  have HB := Lib.hid (below_trans hal b2)
  have P2 := hP.later b2
  have T2 := TT.out.below HB.out
  have K0 := Lib.hid k0
  clear hal hP b2 T1 k0
  have x0 := (P2).cellAt 0 (by simp)
  have x1 := (P2).cellAt 1 (by simp)
  have x2 := (P2).cellAt 2 (by simp)
  have x3 := (P2).cellAt 3 (by simp)
  have x4 := (P2).cellAt 4 (by simp)
  have x5 := (P2).cellAt 5 (by simp)
  have x6 := (P2).cellAt 6 (by simp)
  have x7 := (P2).cellAt 7 (by simp)
  have x8 := (P2).cellAt 8 (by simp)
  simp only [List.getElem_cons_zero, List.getElem_cons_succ] at x0 x1 x2 x3 x4 x5 x6 x7 x8
  have xl := P2.lt
  by_cases h0 : 0 ≤ r0
  · go_wp2_with fail
    refine (szBoxS_any BA bn bc _ T2.bm r0 h0 (by omega)).mono ?_
    rintro e w3 ⟨r1, rfl, q1, k1, rfl⟩
    have K1 := Lib.hid k1
    clear k1
    by_cases h1 : 0 ≤ r1
    · go_wp2_with fail
      refine (szIntS_any PA pn pc _ T2.pm r1 h1 (by omega)).mono ?_
      rintro e w3 ⟨r2, rfl, q2, k2, rfl⟩
      have K2 := Lib.hid k2
      clear k2
      by_cases h2 : 0 ≤ r2
      · go_wp2_with fail
        refine (szPapersL HA LA hn hc ln lc _ T2.hm T2.lm r2 h2 (by omega)).mono ?_
        rintro e w3 ⟨r3, rfl, q3, k3, b3⟩
        have K3 := Lib.hid k3
        have HB3 := Lib.hid (below_trans HB.out b3)
        clear k3 b3 x0 x1 x2 x3 x4 x5 x6 x7 x8 P2 T2
        by_cases h3 : 0 ≤ r3
        · have HS : Hid (TrmSmall yn bn pn hn ln rows) := Lib.hid (by
            have e1 := K1.out h1
            have e2 := K2.out h2
            have e3 := K3.out h3
            exact ⟨K0.out h0, by omega, by omega, e3.1, e3.2⟩)
          clear K0 K1 K2 K3
          go_wp2_with fail
          go_ret
          exact RInt.mk ⟨fun _ => HS.out, HB3.out⟩
        · go_wp2_with fail
          go_ret
          exact RInt.mk ⟨fun h => by omega, HB3.out⟩
      · go_wp2_with fail
        go_ret
        exact RInt.mk ⟨fun h => by omega, HB.out⟩
    · go_wp2_with fail
      go_ret
      exact RInt.mk ⟨fun h => by omega, HB.out⟩
  · go_wp2_with fail
    go_ret
    exact RInt.mk ⟨fun h => by omega, HB.out⟩
set_option maxHeartbeats 2000000 in
theorem eqTerminal_any (high : Int) (y0 y1 y2 : Int) (YA BA PA HA LA : Option Addr) (yn yc bn bc pn pc hn hc ln lc : Nat) (rows : List (List Int)) (bs : List BoxV) (plan : List Int) (hs : List HoldV) (ls : List Int) (YB BB PB HB LB : Option Addr) (yd bd pd hd ld : Nat) (w : World) (ta : TrmRd w YA BA PA HA LA yn bn bc pn pc hn ln rows bs plan hs ls) (tb : TrmRd w YB BB PB HB LB yn bn bd pn pd hn ln rows bs plan hs ls) (hin : ∀ s ∈ rows, s.length ≤ 1048576) :
    Calls Tryz.prog 9 #[.agg #[.int .i64 high, .slice YA yn yc, .int .i64 y0, .int .i64 y1, .int .i64 y2, .slice BA bn bc, .slice PA pn pc, .slice HA hn hc, .slice LA ln lc], .agg #[.int .i64 high, .slice YB yn yd, .int .i64 y0, .int .i64 y1, .int .i64 y2, .slice BB bn bd, .slice PB pn pd, .slice HB hn hd, .slice LB ln ld]] w fun e w' => e = .returned (.bool true) ∧ Below w.heap.size w w' := by
  have hal : Below w.heap.size w ((w.alloc (.cells #[.int .i64 high, .slice YA yn yc, .int .i64 y0, .int .i64 y1, .int .i64 y2, .slice BA bn bc, .slice PA pn pc, .slice HA hn hc, .slice LA ln lc] 43)).alloc (.cells #[.int .i64 high, .slice YB yn yd, .int .i64 y0, .int .i64 y1, .int .i64 y2, .slice BB bn bd, .slice PB pn pd, .slice HB hn hd, .slice LB ln ld] 43)) := ((Below.refl _ _).alloc (Nat.le_refl _) _).alloc (by simp) _
  have hP := (Blk.new w 43 [.int .i64 high, .slice YA yn yc, .int .i64 y0, .int .i64 y1, .int .i64 y2, .slice BA bn bc, .slice PA pn pc, .slice HA hn hc, .slice LA ln lc]).alloc (.cells #[.int .i64 high, .slice YB yn yd, .int .i64 y0, .int .i64 y1, .int .i64 y2, .slice BB bn bd, .slice PB pn pd, .slice HB hn hd, .slice LB ln ld] 43)
  have hQ := Blk.new (w.alloc (.cells #[.int .i64 high, .slice YA yn yc, .int .i64 y0, .int .i64 y1, .int .i64 y2, .slice BA bn bc, .slice PA pn pc, .slice HA hn hc, .slice LA ln lc] 43)) 43 [.int .i64 high, .slice YB yn yd, .int .i64 y0, .int .i64 y1, .int .i64 y2, .slice BB bn bd, .slice PB pn pd, .slice HB hn hd, .slice LB ln ld]
  simp only [World.size_alloc] at hQ
  have TA := Lib.hid ta
  have TB := Lib.hid tb
  have HIN : Hid (∀ s ∈ rows, s.length ≤ 1099511627776) := Lib.hid (fun s h => by have := hin s h; omega)
  have g1 := ta.ym
  have g2 := ta.bm
  have g3 := ta.pm
  have g4 := ta.hm
  have g5 := ta.lm
  clear ta tb hin
  go_enter Tryz.func9, Tryz.ntmps9
  go_wp2_with fail
  generalize (w.alloc (.cells #[.int .i64 high, .slice YA yn yc, .int .i64 y0, .int .i64 y1, .int .i64 y2, .slice BA bn bc, .slice PA pn pc, .slice HA hn hc, .slice LA ln lc] 43)).alloc (.cells #[.int .i64 high, .slice YB yn yd, .int .i64 y0, .int .i64 y1, .int .i64 y2, .slice BB bn bd, .slice PB pn pd, .slice HB hn hd, .slice LB ln ld] 43) = w1 at *
  have A0 := TA.out.below hal
  have B0 := TB.out.below hal
  refine (eqYard_any high YA YB yn yc yd rows _ A0.yl A0.yr B0.yr (by omega) HIN.out).mono ?_
  rintro e w2 ⟨rfl, b2⟩
  have HB2 := Lib.hid (below_trans hal b2)
  have P2 := hP.later b2
  have Q2 := hQ.later b2
  clear hal hP hQ A0 B0 b2
  have x2 := (P2).cellAt 2 (by simp)
  have x3 := (P2).cellAt 3 (by simp)
  have x4 := (P2).cellAt 4 (by simp)
  simp only [List.getElem_cons_zero, List.getElem_cons_succ] at x2 x3 x4
  have z2 := (Q2).cellAt 2 (by simp)
  have z3 := (Q2).cellAt 3 (by simp)
  have z4 := (Q2).cellAt 4 (by simp)
  simp only [List.getElem_cons_zero, List.getElem_cons_succ] at z2 z3 z4
  go_wp2_with fail
  have A0 := TA.out.below HB2.out
  have B0 := TB.out.below HB2.out
  refine (eqHull_any y0 y1 y2 _).mono ?_
  rintro e w3 ⟨rfl, b3⟩
  have HB3 := Lib.hid (below_trans HB2.out b3)
  have P3 := P2.later b3
  have Q3 := Q2.later b3
  clear P2 Q2 x2 z2 x3 z3 x4 z4 A0 B0 b3
  have x5 := (P3).cellAt 5 (by simp)
  simp only [List.getElem_cons_zero, List.getElem_cons_succ] at x5
  have z5 := (Q3).cellAt 5 (by simp)
  simp only [List.getElem_cons_zero, List.getElem_cons_succ] at z5
  go_wp2_with fail
  have A0 := TA.out.below HB3.out
  have B0 := TB.out.below HB3.out
  refine (eqBoxS_any BA BB bs bn bc bd A0.bl _ A0.br B0.br (by omega)).mono ?_
  rintro e w4 ⟨rfl, b4⟩
  have HB4 := Lib.hid (below_trans HB3.out b4)
  have P4 := P3.later b4
  have Q4 := Q3.later b4
  clear P3 Q3 x5 z5 A0 B0 b4
  have x6 := (P4).cellAt 6 (by simp)
  simp only [List.getElem_cons_zero, List.getElem_cons_succ] at x6
  have z6 := (Q4).cellAt 6 (by simp)
  simp only [List.getElem_cons_zero, List.getElem_cons_succ] at z6
  go_wp2_with fail
  have A0 := TA.out.below HB4.out
  have B0 := TB.out.below HB4.out
  refine (eqIntS_any PA PB plan pn pc pd A0.pl _ A0.pr B0.pr (by omega)).mono ?_
  rintro e w5 ⟨rfl, b5⟩
  have HB5 := Lib.hid (below_trans HB4.out b5)
  have P5 := P4.later b5
  have Q5 := Q4.later b5
  clear P4 Q4 x6 z6 A0 B0 b5
  have x7 := (P5).cellAt 7 (by simp)
  have x8 := (P5).cellAt 8 (by simp)
  simp only [List.getElem_cons_zero, List.getElem_cons_succ] at x7 x8
  have z7 := (Q5).cellAt 7 (by simp)
  have z8 := (Q5).cellAt 8 (by simp)
  simp only [List.getElem_cons_zero, List.getElem_cons_succ] at z7 z8
  go_wp2_with fail
  have A0 := TA.out.below HB5.out
  have B0 := TB.out.below HB5.out
  refine (eqPapers_any HA HB LA LB hn hc hd ln lc ld hs ls _ ⟨A0.hl, A0.ll, A0.hr, A0.lr⟩ ⟨B0.hl, B0.ll, B0.hr, B0.lr⟩ (by omega) (by omega)).mono ?_
  rintro e w6 ⟨rfl, b6⟩
  have HB6 := Lib.hid (below_trans HB5.out b6)
  have P6 := P5.later b6
  have Q6 := Q5.later b6
  clear P5 Q5 x7 z7 x8 z8 A0 B0 b6
  clear P6 Q6
  go_wp2_with fail
  go_ret
  exact ⟨rfl, HB6.out⟩
set_option maxHeartbeats 4000000 in
set_option maxRecDepth 100000 in
theorem toTerminal_any (high : Int) (y0 y1 y2 : Int) (YA BA PA HA LA : Option Addr) (yn yc bn bc pn pc hn hc ln lc : Nat) (rows : List (List Int)) (bs : List BoxV) (plan : List Int) (hs : List HoldV) (ls : List Int) (w : World) (T : TrmIn w YA BA PA HA LA yn bn pn hn ln rows bs plan hs ls) (S : TrmSmall yn bn pn hn ln rows) :
    Calls Tryz.prog 7 #[.agg #[.int .i64 high, .slice YA yn yc, .int .i64 y0, .int .i64 y1, .int .i64 y2, .slice BA bn bc, .slice PA pn pc, .slice HA hn hc, .slice LA ln lc]] w (TrmNew w high y0 y1 y2 yn bn pn hn ln rows bs plan hs ls) := by
  have hal : Below w.heap.size w (((w.alloc (.cells #[.int .i64 high, .slice YA yn yc, .int .i64 y0, .int .i64 y1, .int .i64 y2, .slice BA bn bc, .slice PA pn pc, .slice HA hn hc, .slice LA ln lc] 33)).alloc (.cells #[.int .i64 0, .slice none 0 0, .int .i64 0, .int .i64 0, .int .i64 0, .slice none 0 0, .slice none 0 0, .slice none 0 0, .slice none 0 0] 43)).alloc (.cells #[.int .i64 0, .slice none 0 0, .int .i64 0, .int .i64 0, .int .i64 0, .slice none 0 0, .slice none 0 0, .slice none 0 0, .slice none 0 0] 43)) := (((Below.refl _ _).alloc (Nat.le_refl _) _).alloc (by simp) _).alloc (by simp; omega) _
  have s1 := (Blk.new w 33 [.int .i64 high, .slice YA yn yc, .int .i64 y0, .int .i64 y1, .int .i64 y2, .slice BA bn bc, .slice PA pn pc, .slice HA hn hc, .slice LA ln lc]).alloc (.cells #[.int .i64 0, .slice none 0 0, .int .i64 0, .int .i64 0, .int .i64 0, .slice none 0 0, .slice none 0 0, .slice none 0 0, .slice none 0 0] 43) |>.alloc (.cells #[.int .i64 0, .slice none 0 0, .int .i64 0, .int .i64 0, .int .i64 0, .slice none 0 0, .slice none 0 0, .slice none 0 0, .slice none 0 0] 43)
  have r1 := (Blk.new (w.alloc (.cells #[.int .i64 high, .slice YA yn yc, .int .i64 y0, .int .i64 y1, .int .i64 y2, .slice BA bn bc, .slice PA pn pc, .slice HA hn hc, .slice LA ln lc] 33)) 43 [.int .i64 0, .slice none 0 0, .int .i64 0, .int .i64 0, .int .i64 0, .slice none 0 0, .slice none 0 0, .slice none 0 0, .slice none 0 0]).alloc (.cells #[.int .i64 0, .slice none 0 0, .int .i64 0, .int .i64 0, .int .i64 0, .slice none 0 0, .slice none 0 0, .slice none 0 0, .slice none 0 0] 43)
  have o1 := Blk.new ((w.alloc (.cells #[.int .i64 high, .slice YA yn yc, .int .i64 y0, .int .i64 y1, .int .i64 y2, .slice BA bn bc, .slice PA pn pc, .slice HA hn hc, .slice LA ln lc] 33)).alloc (.cells #[.int .i64 0, .slice none 0 0, .int .i64 0, .int .i64 0, .int .i64 0, .slice none 0 0, .slice none 0 0, .slice none 0 0, .slice none 0 0] 43)) 43 [.int .i64 0, .slice none 0 0, .int .i64 0, .int .i64 0, .int .i64 0, .slice none 0 0, .slice none 0 0, .slice none 0 0, .slice none 0 0]
  simp only [World.size_alloc] at r1 o1
  have hsz1 : w.heap.size + 1 + 1 + 1 ≤ (((w.alloc (.cells #[.int .i64 high, .slice YA yn yc, .int .i64 y0, .int .i64 y1, .int .i64 y2, .slice BA bn bc, .slice PA pn pc, .slice HA hn hc, .slice LA ln lc] 33)).alloc (.cells #[.int .i64 0, .slice none 0 0, .int .i64 0, .int .i64 0, .int .i64 0, .slice none 0 0, .slice none 0 0, .slice none 0 0, .slice none 0 0] 43)).alloc (.cells #[.int .i64 0, .slice none 0 0, .int .i64 0, .int .i64 0, .int .i64 0, .slice none 0 0, .slice none 0 0, .slice none 0 0, .slice none 0 0] 43)).heap.size := by simp
  have TT := Lib.hid T
  have SS := Lib.hid S
  have e2 := S.bs
  have e3 := S.ps
  have e4 := S.hs
  have e5 := S.ls
  clear T S
  go_enter Tryz.func7, Tryz.ntmps7
  go_wp2_with fail
  generalize ((w.alloc (.cells #[.int .i64 high, .slice YA yn yc, .int .i64 y0, .int .i64 y1, .int .i64 y2, .slice BA bn bc, .slice PA pn pc, .slice HA hn hc, .slice LA ln lc] 33)).alloc (.cells #[.int .i64 0, .slice none 0 0, .int .i64 0, .int .i64 0, .int .i64 0, .slice none 0 0, .slice none 0 0, .slice none 0 0, .slice none 0 0] 43)).alloc (.cells #[.int .i64 0, .slice none 0 0, .int .i64 0, .int .i64 0, .int .i64 0, .slice none 0 0, .slice none 0 0, .slice none 0 0, .slice none 0 0] 43) = w1 at *
  have HB1 := Lib.hid hal
  have HS1 := Lib.hid s1
  have HR1 := Lib.hid r1
  have HO1 := Lib.hid o1
  have HZ1 := Lib.hid hsz1
  clear hal s1 r1 o1 hsz1
  have T1 := TT.out.below HB1.out
  refine (toYard_any high YA yn yc rows _ ⟨T1.yl, T1.yr, T1.ym⟩ SS.out.ys).mono ?_
  rintro e v1 ⟨_, rfl, YB, yd, rfl, q1, b1⟩
  have B1 := below_trans HB1.out b1
  have S1 := HS1.out.later b1
  have R1 := HR1.out.later b1
  have O1 := HO1.out.later b1
  have Z1 := Nat.le_trans HZ1.out b1.size
  have hz0 := HZ1.out
  clear HB1 HS1 HR1 HO1 T1 b1 HZ1
  generalize w1.heap.size = yl at *
  generalize hyh : v1.heap.size = yh at q1
  have Y1 : OwnRR v1 yl yh 28 3 (.slice YB yn yd) (intss rows) := q1
  have HYL : Hid (w.heap.size + 1 + 1 + 1 ≤ yl) := Lib.hid hz0
  have HYH := Lib.hid hyh
  clear hz0 hyh q1
  have f0 := (O1).frozen 0
  have c0 := (O1).cellAt 0 (by simp)
  simp only [List.set_cons_zero, List.set_cons_succ, List.getElem_cons_zero, List.getElem_cons_succ] at c0
  have f1 := ((O1).set_ 0 (.int .i64 high)).frozen 1
  have c1 := ((O1).set_ 0 (.int .i64 high)).cellAt 1 (by simp)
  simp only [List.set_cons_zero, List.set_cons_succ, List.getElem_cons_zero, List.getElem_cons_succ] at c1
  have HB2 := Lib.hid (((B1).setCell (p := ⟨w.heap.size + 1 + 1, 0, none⟩) (by show w.heap.size ≤ w.heap.size + 1 + 1; omega) (.int .i64 high)).setCell (p := ⟨w.heap.size + 1 + 1, 1, none⟩) (by show w.heap.size ≤ w.heap.size + 1 + 1; omega) (.slice YB yn yd))
  have HS2 := Lib.hid (((S1).far (p := ⟨w.heap.size + 1 + 1, 0, none⟩) (by show w.heap.size ≠ w.heap.size + 1 + 1; omega) (.int .i64 high)).far (p := ⟨w.heap.size + 1 + 1, 1, none⟩) (by show w.heap.size ≠ w.heap.size + 1 + 1; omega) (.slice YB yn yd))
  have HR2 := Lib.hid (((R1).far (p := ⟨w.heap.size + 1 + 1, 0, none⟩) (by show w.heap.size + 1 ≠ w.heap.size + 1 + 1; omega) (.int .i64 high)).far (p := ⟨w.heap.size + 1 + 1, 1, none⟩) (by show w.heap.size + 1 ≠ w.heap.size + 1 + 1; omega) (.slice YB yn yd))
  have HO2 := Lib.hid (((O1).set_ 0 (.int .i64 high)).set_ 1 (.slice YB yn yd))
  have HY2 := Lib.hid (Y1.out (out_set (out_set (Out.refl (w.heap.size + 1 + 1) (w.heap.size + 1 + 1 + 1) v1) (w.heap.size + 1 + 1) 0 (.int .i64 high) (by omega) (by omega)) (w.heap.size + 1 + 1) 1 (.slice YB yn yd) (by omega) (by omega)) (.inr HYL.out))
  have HZ2 : Hid (w.heap.size + 1 + 1 + 1 ≤ (((v1).setCell ⟨w.heap.size + 1 + 1, 0, none⟩ (.int .i64 high)).setCell ⟨w.heap.size + 1 + 1, 1, none⟩ (.slice YB yn yd)).heap.size) := Lib.hid (by simp only [World.setCell, Array.size_modify]; exact Z1)
  have x2 := HS2.out.cellAt 2 (by simp)
  have x3 := HS2.out.cellAt 3 (by simp)
  have x4 := HS2.out.cellAt 4 (by simp)
  simp only [List.getElem_cons_zero, List.getElem_cons_succ] at x2 x3 x4
  simp only [List.set_cons_zero, List.set_cons_succ] at HO2
  clear B1 S1 R1 O1 Y1 Z1
  go_wp2_with fail
  generalize ((v1).setCell ⟨w.heap.size + 1 + 1, 0, none⟩ (.int .i64 high)).setCell ⟨w.heap.size + 1 + 1, 1, none⟩ (.slice YB yn yd) = w2 at *
  have T2 := TT.out.below HB2.out
  refine (toHull_any y0 y1 y2 _).mono ?_
  rintro e v2 ⟨rfl, b2⟩
  have B2 := below_trans HB2.out b2
  have S2 := HS2.out.later b2
  have R2 := HR2.out.later b2
  have O2 := HO2.out.later b2
  have Z2 := Nat.le_trans HZ2.out b2.size
  have Y2 := HY2.out.later b2
  clear HB2 HS2 HR2 HO2 T2 b2 HY2 x2 x3 x4 HZ2
  have f2 := (O2).frozen 2
  have c2 := (O2).cellAt 2 (by simp)
  simp only [List.set_cons_zero, List.set_cons_succ, List.getElem_cons_zero, List.getElem_cons_succ] at c2
  have f3 := ((O2).set_ 2 (.int .i64 y0)).frozen 3
  have c3 := ((O2).set_ 2 (.int .i64 y0)).cellAt 3 (by simp)
  simp only [List.set_cons_zero, List.set_cons_succ, List.getElem_cons_zero, List.getElem_cons_succ] at c3
  have f4 := (((O2).set_ 2 (.int .i64 y0)).set_ 3 (.int .i64 y1)).frozen 4
  have c4 := (((O2).set_ 2 (.int .i64 y0)).set_ 3 (.int .i64 y1)).cellAt 4 (by simp)
  simp only [List.set_cons_zero, List.set_cons_succ, List.getElem_cons_zero, List.getElem_cons_succ] at c4
  have HB3 := Lib.hid ((((B2).setCell (p := ⟨w.heap.size + 1 + 1, 2, none⟩) (by show w.heap.size ≤ w.heap.size + 1 + 1; omega) (.int .i64 y0)).setCell (p := ⟨w.heap.size + 1 + 1, 3, none⟩) (by show w.heap.size ≤ w.heap.size + 1 + 1; omega) (.int .i64 y1)).setCell (p := ⟨w.heap.size + 1 + 1, 4, none⟩) (by show w.heap.size ≤ w.heap.size + 1 + 1; omega) (.int .i64 y2))
  have HS3 := Lib.hid ((((S2).far (p := ⟨w.heap.size + 1 + 1, 2, none⟩) (by show w.heap.size ≠ w.heap.size + 1 + 1; omega) (.int .i64 y0)).far (p := ⟨w.heap.size + 1 + 1, 3, none⟩) (by show w.heap.size ≠ w.heap.size + 1 + 1; omega) (.int .i64 y1)).far (p := ⟨w.heap.size + 1 + 1, 4, none⟩) (by show w.heap.size ≠ w.heap.size + 1 + 1; omega) (.int .i64 y2))
  have HR3 := Lib.hid ((((R2).far (p := ⟨w.heap.size + 1 + 1, 2, none⟩) (by show w.heap.size + 1 ≠ w.heap.size + 1 + 1; omega) (.int .i64 y0)).far (p := ⟨w.heap.size + 1 + 1, 3, none⟩) (by show w.heap.size + 1 ≠ w.heap.size + 1 + 1; omega) (.int .i64 y1)).far (p := ⟨w.heap.size + 1 + 1, 4, none⟩) (by show w.heap.size + 1 ≠ w.heap.size + 1 + 1; omega) (.int .i64 y2))
  have HO3 := Lib.hid ((((O2).set_ 2 (.int .i64 y0)).set_ 3 (.int .i64 y1)).set_ 4 (.int .i64 y2))
  have HY3 := Lib.hid (Y2.out (out_set (out_set (out_set (Out.refl (w.heap.size + 1 + 1) (w.heap.size + 1 + 1 + 1) v2) (w.heap.size + 1 + 1) 2 (.int .i64 y0) (by omega) (by omega)) (w.heap.size + 1 + 1) 3 (.int .i64 y1) (by omega) (by omega)) (w.heap.size + 1 + 1) 4 (.int .i64 y2) (by omega) (by omega)) (.inr HYL.out))
  have HZ3 : Hid (w.heap.size + 1 + 1 + 1 ≤ ((((v2).setCell ⟨w.heap.size + 1 + 1, 2, none⟩ (.int .i64 y0)).setCell ⟨w.heap.size + 1 + 1, 3, none⟩ (.int .i64 y1)).setCell ⟨w.heap.size + 1 + 1, 4, none⟩ (.int .i64 y2)).heap.size) := Lib.hid (by simp only [World.setCell, Array.size_modify]; exact Z2)
  have x5 := HS3.out.cellAt 5 (by simp)
  simp only [List.getElem_cons_zero, List.getElem_cons_succ] at x5
  simp only [List.set_cons_zero, List.set_cons_succ] at HO3
  clear B2 S2 R2 O2 Y2 Z2
  go_wp2_with fail
  generalize (((v2).setCell ⟨w.heap.size + 1 + 1, 2, none⟩ (.int .i64 y0)).setCell ⟨w.heap.size + 1 + 1, 3, none⟩ (.int .i64 y1)).setCell ⟨w.heap.size + 1 + 1, 4, none⟩ (.int .i64 y2) = w3 at *
  have T3 := TT.out.below HB3.out
  refine (toBoxS_any BA bs bn bc T3.bl _ T3.br e2).mono ?_
  rintro e v3 ⟨rfl, q3, b3⟩
  have B3 := below_trans HB3.out b3
  have S3 := HS3.out.later b3
  have R3 := HR3.out.later b3
  have O3 := HO3.out.later b3
  have Z3 := Nat.le_trans HZ3.out b3.size
  have Y3 := HY3.out.later b3
  have hz2 := HZ3.out
  clear HB3 HS3 HR3 HO3 T3 b3 HY3 x5 HZ3
  generalize w3.heap.size = bb at *
  have X3 := q3
  have HBB := Lib.hid hz2
  clear hz2 q3
  have f5 := (O3).frozen 5
  have c5 := (O3).cellAt 5 (by simp)
  simp only [List.set_cons_zero, List.set_cons_succ, List.getElem_cons_zero, List.getElem_cons_succ] at c5
  have HB4 := Lib.hid ((B3).setCell (p := ⟨w.heap.size + 1 + 1, 5, none⟩) (by show w.heap.size ≤ w.heap.size + 1 + 1; omega) (.slice (some ⟨bb, 0, none⟩) bn bn))
  have HS4 := Lib.hid ((S3).far (p := ⟨w.heap.size + 1 + 1, 5, none⟩) (by show w.heap.size ≠ w.heap.size + 1 + 1; omega) (.slice (some ⟨bb, 0, none⟩) bn bn))
  have HR4 := Lib.hid ((R3).far (p := ⟨w.heap.size + 1 + 1, 5, none⟩) (by show w.heap.size + 1 ≠ w.heap.size + 1 + 1; omega) (.slice (some ⟨bb, 0, none⟩) bn bn))
  have HO4 := Lib.hid ((O3).set_ 5 (.slice (some ⟨bb, 0, none⟩) bn bn))
  have HY4 := Lib.hid (Y3.out (out_set (Out.refl (w.heap.size + 1 + 1) (w.heap.size + 1 + 1 + 1) v3) (w.heap.size + 1 + 1) 5 (.slice (some ⟨bb, 0, none⟩) bn bn) (by omega) (by omega)) (.inr HYL.out))
  have HX4 := Lib.hid ((X3).far (p := ⟨w.heap.size + 1 + 1, 5, none⟩) (by show bb ≠ w.heap.size + 1 + 1; have := HBB.out; omega) (.slice (some ⟨bb, 0, none⟩) bn bn))
  have HZ4 : Hid (w.heap.size + 1 + 1 + 1 ≤ ((v3).setCell ⟨w.heap.size + 1 + 1, 5, none⟩ (.slice (some ⟨bb, 0, none⟩) bn bn)).heap.size) := Lib.hid (by simp only [World.setCell, Array.size_modify]; exact Z3)
  have x6 := HS4.out.cellAt 6 (by simp)
  simp only [List.getElem_cons_zero, List.getElem_cons_succ] at x6
  simp only [List.set_cons_zero, List.set_cons_succ] at HO4
  clear B3 S3 R3 O3 Y3 X3 Z3
  go_wp2_with fail
  generalize (v3).setCell ⟨w.heap.size + 1 + 1, 5, none⟩ (.slice (some ⟨bb, 0, none⟩) bn bn) = w4 at *
  have T4 := TT.out.below HB4.out
  refine (toIntS_any PA plan pn pc T4.pl _ T4.pr e3).mono ?_
  rintro e v4 ⟨rfl, q4, b4⟩
  have B4 := below_trans HB4.out b4
  have S4 := HS4.out.later b4
  have R4 := HR4.out.later b4
  have O4 := HO4.out.later b4
  have Z4 := Nat.le_trans HZ4.out b4.size
  have Y4 := HY4.out.later b4
  have X4 := HX4.out.later b4
  have hz3 := HZ4.out
  clear HB4 HS4 HR4 HO4 T4 b4 HY4 HX4 x6 HZ4
  generalize w4.heap.size = pb at *
  have N4 := q4
  have HPB := Lib.hid hz3
  clear hz3 q4
  have f6 := (O4).frozen 6
  have c6 := (O4).cellAt 6 (by simp)
  simp only [List.set_cons_zero, List.set_cons_succ, List.getElem_cons_zero, List.getElem_cons_succ] at c6
  have HB5 := Lib.hid ((B4).setCell (p := ⟨w.heap.size + 1 + 1, 6, none⟩) (by show w.heap.size ≤ w.heap.size + 1 + 1; omega) (.slice (some ⟨pb, 0, none⟩) pn pn))
  have HS5 := Lib.hid ((S4).far (p := ⟨w.heap.size + 1 + 1, 6, none⟩) (by show w.heap.size ≠ w.heap.size + 1 + 1; omega) (.slice (some ⟨pb, 0, none⟩) pn pn))
  have HR5 := Lib.hid ((R4).far (p := ⟨w.heap.size + 1 + 1, 6, none⟩) (by show w.heap.size + 1 ≠ w.heap.size + 1 + 1; omega) (.slice (some ⟨pb, 0, none⟩) pn pn))
  have HO5 := Lib.hid ((O4).set_ 6 (.slice (some ⟨pb, 0, none⟩) pn pn))
  have HY5 := Lib.hid (Y4.out (out_set (Out.refl (w.heap.size + 1 + 1) (w.heap.size + 1 + 1 + 1) v4) (w.heap.size + 1 + 1) 6 (.slice (some ⟨pb, 0, none⟩) pn pn) (by omega) (by omega)) (.inr HYL.out))
  have HX5 := Lib.hid ((X4).far (p := ⟨w.heap.size + 1 + 1, 6, none⟩) (by show bb ≠ w.heap.size + 1 + 1; have := HBB.out; omega) (.slice (some ⟨pb, 0, none⟩) pn pn))
  have HN5 := Lib.hid ((N4).far (p := ⟨w.heap.size + 1 + 1, 6, none⟩) (by show pb ≠ w.heap.size + 1 + 1; have := HPB.out; omega) (.slice (some ⟨pb, 0, none⟩) pn pn))
  have HZ5 : Hid (w.heap.size + 1 + 1 + 1 ≤ ((v4).setCell ⟨w.heap.size + 1 + 1, 6, none⟩ (.slice (some ⟨pb, 0, none⟩) pn pn)).heap.size) := Lib.hid (by simp only [World.setCell, Array.size_modify]; exact Z4)
  have x7 := HS5.out.cellAt 7 (by simp)
  have x8 := HS5.out.cellAt 8 (by simp)
  simp only [List.getElem_cons_zero, List.getElem_cons_succ] at x7 x8
  simp only [List.set_cons_zero, List.set_cons_succ] at HO5
  clear B4 S4 R4 O4 Y4 X4 N4 Z4
  go_wp2_with fail
  generalize (v4).setCell ⟨w.heap.size + 1 + 1, 6, none⟩ (.slice (some ⟨pb, 0, none⟩) pn pn) = w5 at *
  have T5 := TT.out.below HB5.out
  refine (toPapers_any HA LA hn hc ln lc hs ls _ ⟨T5.hl, T5.ll, T5.hr, T5.lr⟩ e4 e5).mono ?_
  rintro e v5 ⟨_, rfl, HB, hd, LB, ld, rfl, q5, b5⟩
  have B5 := below_trans HB5.out b5
  have S5 := HS5.out.later b5
  have R5 := HR5.out.later b5
  have O5 := HO5.out.later b5
  have Z5 := Nat.le_trans HZ5.out b5.size
  have Y5 := HY5.out.later b5
  have X5 := HX5.out.later b5
  have N5 := HN5.out.later b5
  have hz4 := HZ5.out
  clear HB5 HS5 HR5 HO5 T5 b5 HY5 HX5 HN5 x7 x8 HZ5
  generalize w5.heap.size = hl at *
  generalize hhh : v5.heap.size = hh at q5
  have HHL := Lib.hid hz4
  clear hz4
  have f27 := (O5).frozen 7
  have c27 := (O5).cellAt 7 (by simp)
  simp only [List.set_cons_zero, List.set_cons_succ, List.getElem_cons_zero, List.getElem_cons_succ] at c27
  have f28 := ((O5).set_ 7 (.slice HB hn hd)).frozen 8
  have c28 := ((O5).set_ 7 (.slice HB hn hd)).cellAt 8 (by simp)
  simp only [List.set_cons_zero, List.set_cons_succ, List.getElem_cons_zero, List.getElem_cons_succ] at c28
  have OO := Lib.hid (((O5).set_ 7 (.slice HB hn hd)).set_ 8 (.slice LB ln ld))
  simp only [List.set_cons_zero, List.set_cons_succ] at OO
  have d0 := OO.out.cellAt 0 (by simp)
  have d1 := OO.out.cellAt 1 (by simp)
  have d2 := OO.out.cellAt 2 (by simp)
  have d3 := OO.out.cellAt 3 (by simp)
  have d4 := OO.out.cellAt 4 (by simp)
  have d5 := OO.out.cellAt 5 (by simp)
  have d6 := OO.out.cellAt 6 (by simp)
  have d7 := OO.out.cellAt 7 (by simp)
  have d8 := OO.out.cellAt 8 (by simp)
  simp only [List.getElem_cons_zero, List.getElem_cons_succ] at d0 d1 d2 d3 d4 d5 d6 d7 d8
  have f10 := (((R5).far (p := ⟨w.heap.size + 1 + 1, 7, none⟩) (by show w.heap.size + 1 ≠ w.heap.size + 1 + 1; omega) (.slice HB hn hd)).far (p := ⟨w.heap.size + 1 + 1, 8, none⟩) (by show w.heap.size + 1 ≠ w.heap.size + 1 + 1; omega) (.slice LB ln ld)).frozen 0
  have c10 := (((R5).far (p := ⟨w.heap.size + 1 + 1, 7, none⟩) (by show w.heap.size + 1 ≠ w.heap.size + 1 + 1; omega) (.slice HB hn hd)).far (p := ⟨w.heap.size + 1 + 1, 8, none⟩) (by show w.heap.size + 1 ≠ w.heap.size + 1 + 1; omega) (.slice LB ln ld)).cellAt 0 (by simp)
  simp only [List.set_cons_zero, List.set_cons_succ, List.getElem_cons_zero, List.getElem_cons_succ] at c10
  have f11 := ((((R5).far (p := ⟨w.heap.size + 1 + 1, 7, none⟩) (by show w.heap.size + 1 ≠ w.heap.size + 1 + 1; omega) (.slice HB hn hd)).far (p := ⟨w.heap.size + 1 + 1, 8, none⟩) (by show w.heap.size + 1 ≠ w.heap.size + 1 + 1; omega) (.slice LB ln ld)).set_ 0 (.int .i64 high)).frozen 1
  have c11 := ((((R5).far (p := ⟨w.heap.size + 1 + 1, 7, none⟩) (by show w.heap.size + 1 ≠ w.heap.size + 1 + 1; omega) (.slice HB hn hd)).far (p := ⟨w.heap.size + 1 + 1, 8, none⟩) (by show w.heap.size + 1 ≠ w.heap.size + 1 + 1; omega) (.slice LB ln ld)).set_ 0 (.int .i64 high)).cellAt 1 (by simp)
  simp only [List.set_cons_zero, List.set_cons_succ, List.getElem_cons_zero, List.getElem_cons_succ] at c11
  have f12 := (((((R5).far (p := ⟨w.heap.size + 1 + 1, 7, none⟩) (by show w.heap.size + 1 ≠ w.heap.size + 1 + 1; omega) (.slice HB hn hd)).far (p := ⟨w.heap.size + 1 + 1, 8, none⟩) (by show w.heap.size + 1 ≠ w.heap.size + 1 + 1; omega) (.slice LB ln ld)).set_ 0 (.int .i64 high)).set_ 1 (.slice YB yn yd)).frozen 2
  have c12 := (((((R5).far (p := ⟨w.heap.size + 1 + 1, 7, none⟩) (by show w.heap.size + 1 ≠ w.heap.size + 1 + 1; omega) (.slice HB hn hd)).far (p := ⟨w.heap.size + 1 + 1, 8, none⟩) (by show w.heap.size + 1 ≠ w.heap.size + 1 + 1; omega) (.slice LB ln ld)).set_ 0 (.int .i64 high)).set_ 1 (.slice YB yn yd)).cellAt 2 (by simp)
  simp only [List.set_cons_zero, List.set_cons_succ, List.getElem_cons_zero, List.getElem_cons_succ] at c12
  have f13 := ((((((R5).far (p := ⟨w.heap.size + 1 + 1, 7, none⟩) (by show w.heap.size + 1 ≠ w.heap.size + 1 + 1; omega) (.slice HB hn hd)).far (p := ⟨w.heap.size + 1 + 1, 8, none⟩) (by show w.heap.size + 1 ≠ w.heap.size + 1 + 1; omega) (.slice LB ln ld)).set_ 0 (.int .i64 high)).set_ 1 (.slice YB yn yd)).set_ 2 (.int .i64 y0)).frozen 3
  have c13 := ((((((R5).far (p := ⟨w.heap.size + 1 + 1, 7, none⟩) (by show w.heap.size + 1 ≠ w.heap.size + 1 + 1; omega) (.slice HB hn hd)).far (p := ⟨w.heap.size + 1 + 1, 8, none⟩) (by show w.heap.size + 1 ≠ w.heap.size + 1 + 1; omega) (.slice LB ln ld)).set_ 0 (.int .i64 high)).set_ 1 (.slice YB yn yd)).set_ 2 (.int .i64 y0)).cellAt 3 (by simp)
  simp only [List.set_cons_zero, List.set_cons_succ, List.getElem_cons_zero, List.getElem_cons_succ] at c13
  have f14 := (((((((R5).far (p := ⟨w.heap.size + 1 + 1, 7, none⟩) (by show w.heap.size + 1 ≠ w.heap.size + 1 + 1; omega) (.slice HB hn hd)).far (p := ⟨w.heap.size + 1 + 1, 8, none⟩) (by show w.heap.size + 1 ≠ w.heap.size + 1 + 1; omega) (.slice LB ln ld)).set_ 0 (.int .i64 high)).set_ 1 (.slice YB yn yd)).set_ 2 (.int .i64 y0)).set_ 3 (.int .i64 y1)).frozen 4
  have c14 := (((((((R5).far (p := ⟨w.heap.size + 1 + 1, 7, none⟩) (by show w.heap.size + 1 ≠ w.heap.size + 1 + 1; omega) (.slice HB hn hd)).far (p := ⟨w.heap.size + 1 + 1, 8, none⟩) (by show w.heap.size + 1 ≠ w.heap.size + 1 + 1; omega) (.slice LB ln ld)).set_ 0 (.int .i64 high)).set_ 1 (.slice YB yn yd)).set_ 2 (.int .i64 y0)).set_ 3 (.int .i64 y1)).cellAt 4 (by simp)
  simp only [List.set_cons_zero, List.set_cons_succ, List.getElem_cons_zero, List.getElem_cons_succ] at c14
  have f15 := ((((((((R5).far (p := ⟨w.heap.size + 1 + 1, 7, none⟩) (by show w.heap.size + 1 ≠ w.heap.size + 1 + 1; omega) (.slice HB hn hd)).far (p := ⟨w.heap.size + 1 + 1, 8, none⟩) (by show w.heap.size + 1 ≠ w.heap.size + 1 + 1; omega) (.slice LB ln ld)).set_ 0 (.int .i64 high)).set_ 1 (.slice YB yn yd)).set_ 2 (.int .i64 y0)).set_ 3 (.int .i64 y1)).set_ 4 (.int .i64 y2)).frozen 5
  have c15 := ((((((((R5).far (p := ⟨w.heap.size + 1 + 1, 7, none⟩) (by show w.heap.size + 1 ≠ w.heap.size + 1 + 1; omega) (.slice HB hn hd)).far (p := ⟨w.heap.size + 1 + 1, 8, none⟩) (by show w.heap.size + 1 ≠ w.heap.size + 1 + 1; omega) (.slice LB ln ld)).set_ 0 (.int .i64 high)).set_ 1 (.slice YB yn yd)).set_ 2 (.int .i64 y0)).set_ 3 (.int .i64 y1)).set_ 4 (.int .i64 y2)).cellAt 5 (by simp)
  simp only [List.set_cons_zero, List.set_cons_succ, List.getElem_cons_zero, List.getElem_cons_succ] at c15
  have f16 := (((((((((R5).far (p := ⟨w.heap.size + 1 + 1, 7, none⟩) (by show w.heap.size + 1 ≠ w.heap.size + 1 + 1; omega) (.slice HB hn hd)).far (p := ⟨w.heap.size + 1 + 1, 8, none⟩) (by show w.heap.size + 1 ≠ w.heap.size + 1 + 1; omega) (.slice LB ln ld)).set_ 0 (.int .i64 high)).set_ 1 (.slice YB yn yd)).set_ 2 (.int .i64 y0)).set_ 3 (.int .i64 y1)).set_ 4 (.int .i64 y2)).set_ 5 (.slice (some ⟨bb, 0, none⟩) bn bn)).frozen 6
  have c16 := (((((((((R5).far (p := ⟨w.heap.size + 1 + 1, 7, none⟩) (by show w.heap.size + 1 ≠ w.heap.size + 1 + 1; omega) (.slice HB hn hd)).far (p := ⟨w.heap.size + 1 + 1, 8, none⟩) (by show w.heap.size + 1 ≠ w.heap.size + 1 + 1; omega) (.slice LB ln ld)).set_ 0 (.int .i64 high)).set_ 1 (.slice YB yn yd)).set_ 2 (.int .i64 y0)).set_ 3 (.int .i64 y1)).set_ 4 (.int .i64 y2)).set_ 5 (.slice (some ⟨bb, 0, none⟩) bn bn)).cellAt 6 (by simp)
  simp only [List.set_cons_zero, List.set_cons_succ, List.getElem_cons_zero, List.getElem_cons_succ] at c16
  have f17 := ((((((((((R5).far (p := ⟨w.heap.size + 1 + 1, 7, none⟩) (by show w.heap.size + 1 ≠ w.heap.size + 1 + 1; omega) (.slice HB hn hd)).far (p := ⟨w.heap.size + 1 + 1, 8, none⟩) (by show w.heap.size + 1 ≠ w.heap.size + 1 + 1; omega) (.slice LB ln ld)).set_ 0 (.int .i64 high)).set_ 1 (.slice YB yn yd)).set_ 2 (.int .i64 y0)).set_ 3 (.int .i64 y1)).set_ 4 (.int .i64 y2)).set_ 5 (.slice (some ⟨bb, 0, none⟩) bn bn)).set_ 6 (.slice (some ⟨pb, 0, none⟩) pn pn)).frozen 7
  have c17 := ((((((((((R5).far (p := ⟨w.heap.size + 1 + 1, 7, none⟩) (by show w.heap.size + 1 ≠ w.heap.size + 1 + 1; omega) (.slice HB hn hd)).far (p := ⟨w.heap.size + 1 + 1, 8, none⟩) (by show w.heap.size + 1 ≠ w.heap.size + 1 + 1; omega) (.slice LB ln ld)).set_ 0 (.int .i64 high)).set_ 1 (.slice YB yn yd)).set_ 2 (.int .i64 y0)).set_ 3 (.int .i64 y1)).set_ 4 (.int .i64 y2)).set_ 5 (.slice (some ⟨bb, 0, none⟩) bn bn)).set_ 6 (.slice (some ⟨pb, 0, none⟩) pn pn)).cellAt 7 (by simp)
  simp only [List.set_cons_zero, List.set_cons_succ, List.getElem_cons_zero, List.getElem_cons_succ] at c17
  have f18 := (((((((((((R5).far (p := ⟨w.heap.size + 1 + 1, 7, none⟩) (by show w.heap.size + 1 ≠ w.heap.size + 1 + 1; omega) (.slice HB hn hd)).far (p := ⟨w.heap.size + 1 + 1, 8, none⟩) (by show w.heap.size + 1 ≠ w.heap.size + 1 + 1; omega) (.slice LB ln ld)).set_ 0 (.int .i64 high)).set_ 1 (.slice YB yn yd)).set_ 2 (.int .i64 y0)).set_ 3 (.int .i64 y1)).set_ 4 (.int .i64 y2)).set_ 5 (.slice (some ⟨bb, 0, none⟩) bn bn)).set_ 6 (.slice (some ⟨pb, 0, none⟩) pn pn)).set_ 7 (.slice HB hn hd)).frozen 8
  have c18 := (((((((((((R5).far (p := ⟨w.heap.size + 1 + 1, 7, none⟩) (by show w.heap.size + 1 ≠ w.heap.size + 1 + 1; omega) (.slice HB hn hd)).far (p := ⟨w.heap.size + 1 + 1, 8, none⟩) (by show w.heap.size + 1 ≠ w.heap.size + 1 + 1; omega) (.slice LB ln ld)).set_ 0 (.int .i64 high)).set_ 1 (.slice YB yn yd)).set_ 2 (.int .i64 y0)).set_ 3 (.int .i64 y1)).set_ 4 (.int .i64 y2)).set_ 5 (.slice (some ⟨bb, 0, none⟩) bn bn)).set_ 6 (.slice (some ⟨pb, 0, none⟩) pn pn)).set_ 7 (.slice HB hn hd)).cellAt 8 (by simp)
  simp only [List.set_cons_zero, List.set_cons_succ, List.getElem_cons_zero, List.getElem_cons_succ] at c18
  have RR := Lib.hid ((((((((((((R5).far (p := ⟨w.heap.size + 1 + 1, 7, none⟩) (by show w.heap.size + 1 ≠ w.heap.size + 1 + 1; omega) (.slice HB hn hd)).far (p := ⟨w.heap.size + 1 + 1, 8, none⟩) (by show w.heap.size + 1 ≠ w.heap.size + 1 + 1; omega) (.slice LB ln ld)).set_ 0 (.int .i64 high)).set_ 1 (.slice YB yn yd)).set_ 2 (.int .i64 y0)).set_ 3 (.int .i64 y1)).set_ 4 (.int .i64 y2)).set_ 5 (.slice (some ⟨bb, 0, none⟩) bn bn)).set_ 6 (.slice (some ⟨pb, 0, none⟩) pn pn)).set_ 7 (.slice HB hn hd)).set_ 8 (.slice LB ln ld))
  simp only [List.set_cons_zero, List.set_cons_succ] at RR
  have g0 := RR.out.cellAt 0 (by simp)
  have g1 := RR.out.cellAt 1 (by simp)
  have g2 := RR.out.cellAt 2 (by simp)
  have g3 := RR.out.cellAt 3 (by simp)
  have g4 := RR.out.cellAt 4 (by simp)
  have g5 := RR.out.cellAt 5 (by simp)
  have g6 := RR.out.cellAt 6 (by simp)
  have g7 := RR.out.cellAt 7 (by simp)
  have g8 := RR.out.cellAt 8 (by simp)
  simp only [List.getElem_cons_zero, List.getElem_cons_succ] at g0 g1 g2 g3 g4 g5 g6 g7 g8
  have HBF := Lib.hid ((((((((((((B5).setCell (p := ⟨w.heap.size + 1 + 1, 7, none⟩) (by show w.heap.size ≤ w.heap.size + 1 + 1; omega) (.slice HB hn hd)).setCell (p := ⟨w.heap.size + 1 + 1, 8, none⟩) (by show w.heap.size ≤ w.heap.size + 1 + 1; omega) (.slice LB ln ld)).setCell (p := ⟨w.heap.size + 1, 0, none⟩) (by show w.heap.size ≤ w.heap.size + 1; omega) (.int .i64 high)).setCell (p := ⟨w.heap.size + 1, 1, none⟩) (by show w.heap.size ≤ w.heap.size + 1; omega) (.slice YB yn yd)).setCell (p := ⟨w.heap.size + 1, 2, none⟩) (by show w.heap.size ≤ w.heap.size + 1; omega) (.int .i64 y0)).setCell (p := ⟨w.heap.size + 1, 3, none⟩) (by show w.heap.size ≤ w.heap.size + 1; omega) (.int .i64 y1)).setCell (p := ⟨w.heap.size + 1, 4, none⟩) (by show w.heap.size ≤ w.heap.size + 1; omega) (.int .i64 y2)).setCell (p := ⟨w.heap.size + 1, 5, none⟩) (by show w.heap.size ≤ w.heap.size + 1; omega) (.slice (some ⟨bb, 0, none⟩) bn bn)).setCell (p := ⟨w.heap.size + 1, 6, none⟩) (by show w.heap.size ≤ w.heap.size + 1; omega) (.slice (some ⟨pb, 0, none⟩) pn pn)).setCell (p := ⟨w.heap.size + 1, 7, none⟩) (by show w.heap.size ≤ w.heap.size + 1; omega) (.slice HB hn hd)).setCell (p := ⟨w.heap.size + 1, 8, none⟩) (by show w.heap.size ≤ w.heap.size + 1; omega) (.slice LB ln ld))
  have HXF := Lib.hid (((((((((((((X5).far (p := ⟨w.heap.size + 1 + 1, 7, none⟩) (by show bb ≠ w.heap.size + 1 + 1; have := HBB.out; omega) (.slice HB hn hd)).far (p := ⟨w.heap.size + 1 + 1, 8, none⟩) (by show bb ≠ w.heap.size + 1 + 1; have := HBB.out; omega) (.slice LB ln ld)).far (p := ⟨w.heap.size + 1, 0, none⟩) (by show bb ≠ w.heap.size + 1; have := HBB.out; omega) (.int .i64 high)).far (p := ⟨w.heap.size + 1, 1, none⟩) (by show bb ≠ w.heap.size + 1; have := HBB.out; omega) (.slice YB yn yd)).far (p := ⟨w.heap.size + 1, 2, none⟩) (by show bb ≠ w.heap.size + 1; have := HBB.out; omega) (.int .i64 y0)).far (p := ⟨w.heap.size + 1, 3, none⟩) (by show bb ≠ w.heap.size + 1; have := HBB.out; omega) (.int .i64 y1)).far (p := ⟨w.heap.size + 1, 4, none⟩) (by show bb ≠ w.heap.size + 1; have := HBB.out; omega) (.int .i64 y2)).far (p := ⟨w.heap.size + 1, 5, none⟩) (by show bb ≠ w.heap.size + 1; have := HBB.out; omega) (.slice (some ⟨bb, 0, none⟩) bn bn)).far (p := ⟨w.heap.size + 1, 6, none⟩) (by show bb ≠ w.heap.size + 1; have := HBB.out; omega) (.slice (some ⟨pb, 0, none⟩) pn pn)).far (p := ⟨w.heap.size + 1, 7, none⟩) (by show bb ≠ w.heap.size + 1; have := HBB.out; omega) (.slice HB hn hd)).far (p := ⟨w.heap.size + 1, 8, none⟩) (by show bb ≠ w.heap.size + 1; have := HBB.out; omega) (.slice LB ln ld)).rd)
  have HNF := Lib.hid (((((((((((((N5).far (p := ⟨w.heap.size + 1 + 1, 7, none⟩) (by show pb ≠ w.heap.size + 1 + 1; have := HPB.out; omega) (.slice HB hn hd)).far (p := ⟨w.heap.size + 1 + 1, 8, none⟩) (by show pb ≠ w.heap.size + 1 + 1; have := HPB.out; omega) (.slice LB ln ld)).far (p := ⟨w.heap.size + 1, 0, none⟩) (by show pb ≠ w.heap.size + 1; have := HPB.out; omega) (.int .i64 high)).far (p := ⟨w.heap.size + 1, 1, none⟩) (by show pb ≠ w.heap.size + 1; have := HPB.out; omega) (.slice YB yn yd)).far (p := ⟨w.heap.size + 1, 2, none⟩) (by show pb ≠ w.heap.size + 1; have := HPB.out; omega) (.int .i64 y0)).far (p := ⟨w.heap.size + 1, 3, none⟩) (by show pb ≠ w.heap.size + 1; have := HPB.out; omega) (.int .i64 y1)).far (p := ⟨w.heap.size + 1, 4, none⟩) (by show pb ≠ w.heap.size + 1; have := HPB.out; omega) (.int .i64 y2)).far (p := ⟨w.heap.size + 1, 5, none⟩) (by show pb ≠ w.heap.size + 1; have := HPB.out; omega) (.slice (some ⟨bb, 0, none⟩) bn bn)).far (p := ⟨w.heap.size + 1, 6, none⟩) (by show pb ≠ w.heap.size + 1; have := HPB.out; omega) (.slice (some ⟨pb, 0, none⟩) pn pn)).far (p := ⟨w.heap.size + 1, 7, none⟩) (by show pb ≠ w.heap.size + 1; have := HPB.out; omega) (.slice HB hn hd)).far (p := ⟨w.heap.size + 1, 8, none⟩) (by show pb ≠ w.heap.size + 1; have := HPB.out; omega) (.slice LB ln ld)).rd)
  have HOUT := Lib.hid (out_set (out_set (out_set (out_set (out_set (out_set (out_set (out_set (out_set (out_set (out_set (Out.refl (w.heap.size + 1) (w.heap.size + 1 + 1 + 1) v5) (w.heap.size + 1 + 1) 7 (.slice HB hn hd) (by omega) (by omega)) (w.heap.size + 1 + 1) 8 (.slice LB ln ld) (by omega) (by omega)) (w.heap.size + 1) 0 (.int .i64 high) (by omega) (by omega)) (w.heap.size + 1) 1 (.slice YB yn yd) (by omega) (by omega)) (w.heap.size + 1) 2 (.int .i64 y0) (by omega) (by omega)) (w.heap.size + 1) 3 (.int .i64 y1) (by omega) (by omega)) (w.heap.size + 1) 4 (.int .i64 y2) (by omega) (by omega)) (w.heap.size + 1) 5 (.slice (some ⟨bb, 0, none⟩) bn bn) (by omega) (by omega)) (w.heap.size + 1) 6 (.slice (some ⟨pb, 0, none⟩) pn pn) (by omega) (by omega)) (w.heap.size + 1) 7 (.slice HB hn hd) (by omega) (by omega)) (w.heap.size + 1) 8 (.slice LB ln ld) (by omega) (by omega))
  have HYF := Lib.hid ((Y5.out HOUT.out (.inr HYL.out)).rd)
  have HHF := Lib.hid ((q5.hold.out HOUT.out (.inr HHL.out)).rd)
  have HLF := Lib.hid ((q5.left.out HOUT.out (.inr HHL.out)).rd)
  have HPH := Lib.hid q5.hn
  have HPL := Lib.hid q5.hm
  clear B5 S5 R5 O5 Y5 X5 N5 Z5 q5 OO RR HOUT
  go_wp2_with fail
  have ysm : yn ≤ 1048576 := by have := SS.out.ys; unfold YardSmall at this; omega
  generalize (((((((((((v5).setCell ⟨w.heap.size + 1 + 1, 7, none⟩ (.slice HB hn hd)).setCell ⟨w.heap.size + 1 + 1, 8, none⟩ (.slice LB ln ld)).setCell ⟨w.heap.size + 1, 0, none⟩ (.int .i64 high)).setCell ⟨w.heap.size + 1, 1, none⟩ (.slice YB yn yd)).setCell ⟨w.heap.size + 1, 2, none⟩ (.int .i64 y0)).setCell ⟨w.heap.size + 1, 3, none⟩ (.int .i64 y1)).setCell ⟨w.heap.size + 1, 4, none⟩ (.int .i64 y2)).setCell ⟨w.heap.size + 1, 5, none⟩ (.slice (some ⟨bb, 0, none⟩) bn bn)).setCell ⟨w.heap.size + 1, 6, none⟩ (.slice (some ⟨pb, 0, none⟩) pn pn)).setCell ⟨w.heap.size + 1, 7, none⟩ (.slice HB hn hd)).setCell ⟨w.heap.size + 1, 8, none⟩ (.slice LB ln ld) = wf at *
  refine bodyPost_ret (v := .agg #[.int .i64 high, .slice YB yn yd, .int .i64 y0, .int .i64 y1, .int .i64 y2, .slice (some ⟨bb, 0, none⟩) bn bn, .slice (some ⟨pb, 0, none⟩) pn pn, .slice HB hn hd, .slice LB ln ld]) (by simp [results, Tryz.results7, go_sem, g0, g1, g2, g3, g4, g5, g6, g7, g8]) rfl ?_
  exact RVal.mk ⟨_, _, _, _, _, _, _, _, rfl, ⟨TT.out.yl, HYF.out, ysm, TT.out.bl, HXF.out, e2, Nat.le_refl _, TT.out.pl, HNF.out, e3, Nat.le_refl _, by omega, HPH.out, HHF.out, e4, HPL.out, HLF.out, e5⟩, HBF.out⟩
end Go.Proofs.YtbllbpjlkechdaaGreat
end
section
/- A terminal that came in, read. -/
namespace Go.Proofs.YtbllbpjlkechdaaGreat
open Go Go.ChangeShapes Go.WideShapes Go.ChangeAt Go.RowKit Go.Deep
set_option linter.unusedVariables false
theorem array9 {cs : Array Value} (h : cs.size = 9) : ∃ c0 c1 c2 c3 c4 c5 c6 c7 c8, cs = #[c0, c1, c2, c3, c4, c5, c6, c7, c8] := by
  obtain ⟨l⟩ := cs
  match l, h with
  | [c0, c1, c2, c3, c4, c5, c6, c7, c8], _ => exact ⟨c0, c1, c2, c3, c4, c5, c6, c7, c8, rfl⟩
/-- a terminal that came in: where its rows lie -/
structure TrmD where
  high : Int
  y0 : Int
  y1 : Int
  y2 : Int
  YA : Option Addr
  BA : Option Addr
  PA : Option Addr
  HA : Option Addr
  LA : Option Addr
  yc : Nat
  bc : Nat
  pc : Nat
  hc : Nat
  lc : Nat
  rows : List (List Int)
  bs : List BoxV
  plan : List Int
  hs : List HoldV
  ls : List Int
def IsTrm (w : World) (v : Value) (d : TrmD) : Prop := v = .agg #[.int .i64 d.high, .slice d.YA d.rows.length d.yc, .int .i64 d.y0, .int .i64 d.y1, .int .i64 d.y2, .slice d.BA d.bs.length d.bc, .slice d.PA d.plan.length d.pc, .slice d.HA d.hs.length d.hc, .slice d.LA d.ls.length d.lc] ∧
  TrmIn w d.YA d.BA d.PA d.HA d.LA d.rows.length d.bs.length d.plan.length d.hs.length d.ls.length d.rows d.bs d.plan d.hs d.ls
set_option maxRecDepth 100000 in
theorem read_terminal {H : Type} {enc : TypeId × Value → H} {w : World} {base b0 : Nat} {spare : Nat → Bool} {held : Bool} {r : Reach} {v : Value} {d : DataW H} {p : List MemPlace}
    (hv : Value.okWide Tryz.prog w r b0 33 v) (h : DataW.Trod enc Tryz.prog w base spare held 33 v d p) : ∃ a, IsTrm w v a := by
  obtain ⟨cs, rfl, hsz⟩ := okWide_struct Tryz.underlying33 hv
  obtain ⟨c0, c1, c2, c3, c4, c5, c6, c7, c8, rfl⟩ := array9 (hsz.trans (by kernel_rfl))
  obtain ⟨fuel, hf⟩ := h
  obtain ⟨y0, y1, y2, y3, y4, n, _, h0, h1, h2, h3, h4⟩ := trod_struct5 Tryz.underlying33 hf
  rw [show Tryz.prog.cellsOf _ = 2 from by kernel_rfl] at h0 h4
  rw [show Tryz.prog.cellsOf _ = 3 from by kernel_rfl] at h1
  rw [show Tryz.prog.cellsOf _ = 1 from by kernel_rfl] at h2 h3
  simp only [Value.cells, List.drop_zero, List.drop_succ_cons, List.take_succ_cons, List.take_zero] at h0 h1 h2 h3 h4
  obtain ⟨a0, a1, m0, _, _, s0, s1⟩ := trod_struct2 Tryz.underlying24 h0
  obtain ⟨b0, b1, b2, m1, _, _, t0, t1, t2⟩ := trod_struct3 Tryz.underlying26 h1
  obtain ⟨e0, e1, m2, _, _, u0, u1⟩ := trod_struct2 Tryz.underlying31 h4
  rw [show Tryz.prog.cellsOf _ = 1 from by kernel_rfl] at s0 s1 t0 t1 t2 u0 u1
  simp only [List.drop_zero, List.drop_succ_cons, List.take_succ_cons, List.take_zero] at s0 s1 t0 t1 t2 u0 u1
  obtain ⟨z0, k0, _⟩ := DataW.trod_int (t := 3) Tryz.underlying3 s0
  obtain ⟨z1, k1, _⟩ := DataW.trod_int (t := 3) Tryz.underlying3 t0
  obtain ⟨z2, k2, _⟩ := DataW.trod_int (t := 3) Tryz.underlying3 t1
  obtain ⟨z3, k3, _⟩ := DataW.trod_int (t := 3) Tryz.underlying3 t2
  simp at k0 k1 k2 k3
  subst k0 k1 k2 k3
  obtain ⟨YA, yn, yc, rows, rfl, rfl, g2, g3, g4⟩ := read_introws (t := 22) (e := 28) (q := 3) Tryz.underlying22 Tryz.underlying28 Tryz.underlying3 (by kernel_rfl) (by kernel_rfl) s1
  obtain ⟨BA, bn, bc, bs, rfl, rfl, f2, f3, f4⟩ := read_list (α := BoxV) (ec := boxC) boxC_len (by decide) Tryz.underlying27 (by kernel_rfl) (fun cs n y hy => box_one hy) h2
  obtain ⟨PA, pn, pc, plan, rfl, rfl, i2, i3, i4⟩ := read_intlist Tryz.underlying28 Tryz.underlying3 (by kernel_rfl) h3
  obtain ⟨HA, hn, hc, hs, rfl, rfl, j2, j3, j4⟩ := read_list (α := HoldV) (ec := holdC) holdC_len (by decide) Tryz.underlying29 (by kernel_rfl) (fun cs n y hy => by
    obtain ⟨q0, q1, m, _, hl, t0, t1⟩ := trod_struct2 Tryz.underlying110 hy
    rw [show Tryz.prog.cellsOf 110 = 2 from by kernel_rfl] at hl
    rw [show Tryz.prog.cellsOf _ = 1 from by kernel_rfl] at t0 t1
    obtain ⟨c0, c1, rfl⟩ : ∃ a b, cs = [a, b] := by
      match cs, hl with
      | [a, b], _ => exact ⟨a, b, rfl⟩
    obtain ⟨a0, e0, _⟩ := DataW.trod_int (t := 3) Tryz.underlying3 t0
    obtain ⟨a1, e1, _⟩ := DataW.trod_int (t := 3) Tryz.underlying3 t1
    simp at e0 e1
    exact ⟨⟨a0, a1⟩, by rw [e0, e1]; rfl⟩) u0
  obtain ⟨LA, ln, lc, ls, rfl, rfl, l2, l3, l4⟩ := read_intlist Tryz.underlying28 Tryz.underlying3 (by kernel_rfl) u1
  unfold maxLen at g3 f3 i3 j3 l3
  exact ⟨⟨z0, z1, z2, z3, YA, BA, PA, HA, LA, yc, bc, pc, hc, lc, rows, bs, plan, hs, ls⟩, rfl, ⟨rfl, g4, by show rows.length ≤ _; omega, rfl, f4, by show bs.length ≤ _; omega, rfl, i4, by show plan.length ≤ _; omega, rfl, j4, by show hs.length ≤ _; omega, rfl, l4, by show ls.length ≤ _; omega⟩⟩
end Go.Proofs.YtbllbpjlkechdaaGreat
end
section
/- The cells of two terminals, behind a call: for the last region of the terminals' exact laws. Printed by gen_termlaw.py. -/
namespace Go.Proofs.YtbllbpjlkechdaaGreat
open Go Go.ChangeShapes Go.WideShapes Go.ChangeAt Go.RowKit
set_option linter.unusedVariables false
theorem keepT {wo W : World} {a b : Nat} {s t : TypeId} {u0 u1 u2 u3 u4 u5 u6 u7 u8 v0 v1 v2 v3 v4 v5 v6 v7 v8 : Value} (hb : Below wo.heap.size wo W) (la : a < wo.heap.size) (lb : b < wo.heap.size) (A : Blk wo a s [u0, u1, u2, u3, u4, u5, u6, u7, u8]) (B : Blk wo b t [v0, v1, v2, v3, v4, v5, v6, v7, v8]) :
    Below wo.heap.size wo W ∧ W.cell? ⟨a, 0, none⟩ = some (u0) ∧ W.cell? ⟨a, 1, none⟩ = some (u1) ∧ W.cell? ⟨a, 2, none⟩ = some (u2) ∧ W.cell? ⟨a, 3, none⟩ = some (u3) ∧ W.cell? ⟨a, 4, none⟩ = some (u4) ∧ W.cell? ⟨a, 5, none⟩ = some (u5) ∧ W.cell? ⟨a, 6, none⟩ = some (u6) ∧ W.cell? ⟨a, 7, none⟩ = some (u7) ∧ W.cell? ⟨a, 8, none⟩ = some (u8) ∧ W.cell? ⟨b, 0, none⟩ = some (v0) ∧ W.cell? ⟨b, 1, none⟩ = some (v1) ∧ W.cell? ⟨b, 2, none⟩ = some (v2) ∧ W.cell? ⟨b, 3, none⟩ = some (v3) ∧ W.cell? ⟨b, 4, none⟩ = some (v4) ∧ W.cell? ⟨b, 5, none⟩ = some (v5) ∧ W.cell? ⟨b, 6, none⟩ = some (v6) ∧ W.cell? ⟨b, 7, none⟩ = some (v7) ∧ W.cell? ⟨b, 8, none⟩ = some (v8) :=
  ⟨hb, (hb.cell (p := ⟨a, 0, none⟩) la).trans (by simpa using A.cellAt 0 (by simp)), (hb.cell (p := ⟨a, 1, none⟩) la).trans (by simpa using A.cellAt 1 (by simp)), (hb.cell (p := ⟨a, 2, none⟩) la).trans (by simpa using A.cellAt 2 (by simp)), (hb.cell (p := ⟨a, 3, none⟩) la).trans (by simpa using A.cellAt 3 (by simp)), (hb.cell (p := ⟨a, 4, none⟩) la).trans (by simpa using A.cellAt 4 (by simp)), (hb.cell (p := ⟨a, 5, none⟩) la).trans (by simpa using A.cellAt 5 (by simp)), (hb.cell (p := ⟨a, 6, none⟩) la).trans (by simpa using A.cellAt 6 (by simp)), (hb.cell (p := ⟨a, 7, none⟩) la).trans (by simpa using A.cellAt 7 (by simp)), (hb.cell (p := ⟨a, 8, none⟩) la).trans (by simpa using A.cellAt 8 (by simp)), (hb.cell (p := ⟨b, 0, none⟩) lb).trans (by simpa using B.cellAt 0 (by simp)), (hb.cell (p := ⟨b, 1, none⟩) lb).trans (by simpa using B.cellAt 1 (by simp)), (hb.cell (p := ⟨b, 2, none⟩) lb).trans (by simpa using B.cellAt 2 (by simp)), (hb.cell (p := ⟨b, 3, none⟩) lb).trans (by simpa using B.cellAt 3 (by simp)), (hb.cell (p := ⟨b, 4, none⟩) lb).trans (by simpa using B.cellAt 4 (by simp)), (hb.cell (p := ⟨b, 5, none⟩) lb).trans (by simpa using B.cellAt 5 (by simp)), (hb.cell (p := ⟨b, 6, none⟩) lb).trans (by simpa using B.cellAt 6 (by simp)), (hb.cell (p := ⟨b, 7, none⟩) lb).trans (by simpa using B.cellAt 7 (by simp)), (hb.cell (p := ⟨b, 8, none⟩) lb).trans (by simpa using B.cellAt 8 (by simp))⟩
end Go.Proofs.YtbllbpjlkechdaaGreat
end
section
/- Does a plan hold a box that has left: the closure in TermValid, and the search with it. -/
namespace Go.Proofs.YtbllbpjlkechdaaGreat
open Go Go.ChangeShapes Go.WideShapes Go.ChangeAt Go.RowKit
set_option linter.unusedVariables false
theorem trm1_any (tb : Nat) (LA : Option Addr) (m lc : Nat) (ls : List Int) (x : Int) (w : World) (hn : ls.length = m) (hr : RdV w LA (ints ls)) (hx : w.cell? ⟨tb, 8, none⟩ = some (.slice LA m lc)) (hm : m ≤ 9223372036854775807) :
    Calls Tryz.prog 43 #[.int .i64 x, .pointer (some ⟨tb, 0, none⟩)] w fun e w' => e = .returned (.bool (hasI ls x)) ∧ w = w' := by
  have HN := Lib.hid hn
  clear hn
  go_enter Tryz.func43, Tryz.ntmps43
  go_wp2_with fail
  refine (contains_int LA m lc ls x _ HN.out hr hm).mono ?_
  rintro e w' ⟨rfl, rfl⟩
  go_wp2_with fail
  go_ret
  exact ⟨rfl, rfl⟩
theorem any_take_no {zs : List Int} {f : Int → Bool} {k : Nat} (h : k < zs.length) (h0 : (zs.take k).any f = false) (hx : f zs[k] = false) : (zs.take (k + 1)).any f = false := by
  rw [List.take_succ_eq_append_getElem h, List.any_append, h0]
  simp [hx]
theorem any_hit {zs : List Int} {f : Int → Bool} {k : Nat} (h : k < zs.length) (hx : f zs[k] = true) : zs.any f = true := by
  rw [List.any_eq_true]
  exact ⟨zs[k], List.getElem_mem h, hx⟩
set_option maxHeartbeats 1000000 in
theorem index_left (tb : Nat) (A LA : Option Addr) (n c m lc : Nat) (zs ls : List Int) (w : World) (hn : zs.length = n) (hr : RdV w A (ints zs)) (hln : ls.length = m) (hlr : RdV w LA (ints ls)) (hx : w.cell? ⟨tb, 8, none⟩ = some (.slice LA m lc)) (hm : n ≤ 9223372036854775807) (hm2 : m ≤ 9223372036854775807) :
    Calls Tryz.prog 80 #[.slice A n c, .func (.func 43) #[] #[.pointer (some ⟨tb, 0, none⟩)]] w fun e w' => (∃ i : Int, e = .returned (.int .i64 i) ∧ decide (0 ≤ i) = zs.any (hasI ls)) ∧ w = w' := by
  have HN := Lib.hid hn
  clear hn
  go_enter Tryz.func80, Tryz.ntmps80
  go_wp2_with fail
  go_loop [8, 5] (fun i _ => ∃ k : Nat, k ≤ n ∧ i = .int .i64 k ∧ Hid ((zs.take k).any (hasI ls) = false)) (fun i _ => n - (intOf i).toNat)
  case atStart => exact ⟨0, Nat.zero_le _, rfl, Lib.hid (by simp)⟩
  case round =>
    obtain ⟨k, hk, rfl, HJ⟩ := hrel
    by_cases hlt : k < n
    · have hkz : k < zs.length := by rw [HN.out]; exact hlt
      have hkl : k < (ints zs).length := by rw [ints_len]; exact hkz
      obtain ⟨b1, o, rfl, hl, hc⟩ := hr.pos hkl
      have hcell := hc k hkl
      rw [ints_at] at hcell
      have HS := Lib.hid (fun h => any_take_no (f := hasI ls) hkz HJ.out h)
      have HT0 := Lib.hid (fun h => any_hit (f := hasI ls) hkz h)
      generalize zs[k] = y at *
      have hki : (k : Int) < (n : Int) := by omega
      clear hc
      go_wp2_with fail
      refine (trm1_any tb LA m lc ls y _ hln hlr hx hm2).mono ?_
      rintro e w' ⟨rfl, rfl⟩
      cases hxy : hasI ls y with
      | true =>
        have HT := Lib.hid (HT0.out hxy)
        clear hxy
        go_wp2_with fail
        go_ret
        exact ⟨⟨(k : Int), rfl, by rw [HT.out]; exact decide_eq_true (by omega)⟩, rfl⟩
      | false =>
        have HT := Lib.hid (HS.out hxy)
        clear hxy
        go_wp2_with fail
        go_round
        case rel => exact ⟨k + 1, by omega, by go_num, HT⟩
        case measure => simp [intOf]; omega
    · have HE : Hid (zs.any (hasI ls) = false) := Lib.hid (by have := HJ.out; rwa [List.take_of_length_le (by rw [HN.out]; omega)] at this)
      go_wp2_with fail
      go_ret
      exact ⟨⟨-1, rfl, by rw [HE.out]; rfl⟩, rfl⟩
set_option maxHeartbeats 1000000 in
theorem contains_left (tb : Nat) (A LA : Option Addr) (n c m lc : Nat) (zs ls : List Int) (w : World) (hn : zs.length = n) (hr : RdV w A (ints zs)) (hln : ls.length = m) (hlr : RdV w LA (ints ls)) (hx : w.cell? ⟨tb, 8, none⟩ = some (.slice LA m lc)) (hm : n ≤ 9223372036854775807) (hm2 : m ≤ 9223372036854775807) :
    Calls Tryz.prog 42 #[.slice A n c, .func (.func 43) #[] #[.pointer (some ⟨tb, 0, none⟩)]] w fun e w' => e = .returned (.bool (zs.any (hasI ls))) ∧ w = w' := by
  have hi := index_left tb A LA n c m lc zs ls w hn hr hln hlr hx hm hm2
  go_enter Tryz.func42, Tryz.ntmps42
  go_wp2_with fail
  refine hi.mono ?_
  rintro e w' ⟨⟨i, rfl, he⟩, rfl⟩
  have HE := Lib.hid he
  clear he hi
  go_wp2_with fail
  go_ret
  exact ⟨by rw [← HE.out]; rfl, rfl⟩
end Go.Proofs.YtbllbpjlkechdaaGreat
end
