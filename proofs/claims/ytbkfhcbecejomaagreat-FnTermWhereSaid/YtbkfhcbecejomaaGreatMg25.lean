/- Several texts of the proof in one; each says at its head what it proves; no condition. -/
import Derived.Test.YtbkfhcbecejomaaGreatMg24
import Derived.Test.YtbkfhcbecejomaaGreatMg1
import Derived.Test.YtbkfhcbecejomaaGreatMg18
import Derived.Test.YtbkfhcbecejomaaGreatMg6
import Derived.Test.YtbkfhcbecejomaaGreatMg3
import Derived.Test.YtbkfhcbecejomaaGreatMg2
import Derived.Test.YtbkfhcbecejomaaGreatMg12
import Derived.Test.YtbkfhcbecejomaaGreatProg
import Derived.Eval
section
/- The terminals that are drawn for the laws. Printed by gen_drawtm.py. -/
namespace Go.Proofs.YtbkfhcbecejomaaGreat
open Go Go.ChangeShapes Go.WideShapes Go.ChangeAt Go.RowKit
set_option linter.unusedVariables false
set_option linter.unusedSimpArgs false
theorem codeT_below {w w' : World} {A : Option Addr} {n c : Nat} {bs : List Int} (h : Code w A n c bs) (hb : Below w.heap.size w w') : Code w' A n c bs := ⟨h.len, h.cap, h.max, h.rd.below hb, h.byte⟩
/-- a terminal that was drawn -/
def TrmD0 (w : World) : Ending → World → Prop :=
  RVal fun u w' => ∃ (high y0 y1 y2 : Int) (YB : Option Addr) (yn yd : Nat) (BB : Option Addr) (bn bd : Nat) (PB : Option Addr) (pn pd : Nat) (HB : Option Addr) (hn hd : Nat) (LB : Option Addr) (ln ld : Nat) (rows : List (List Int)) (bs : List BoxV) (plan : List Int) (hs : List HoldV) (ls : List Int), u = .agg #[.int .i64 high, .slice YB yn yd, .int .i64 y0, .int .i64 y1, .int .i64 y2, .slice BB bn bd, .slice PB pn pd, .slice HB hn hd, .slice LB ln ld] ∧ TrmRd w' YB BB PB HB LB yn bn bd pn pd hn ln rows bs plan hs ls ∧ TBnd yn bn pn hn ln rows bs plan hs ls ∧ Below w.heap.size w w'
/-- a terminal that was drawn, and an id -/
def TrmD1 (w : World) : Ending → World → Prop :=
  RVal fun u w' => ∃ (high y0 y1 y2 : Int) (YB : Option Addr) (yn yd : Nat) (BB : Option Addr) (bn bd : Nat) (PB : Option Addr) (pn pd : Nat) (HB : Option Addr) (hn hd : Nat) (LB : Option Addr) (ln ld : Nat) (rows : List (List Int)) (bs : List BoxV) (plan : List Int) (hs : List HoldV) (ls : List Int), ∃ id : Int, u = .tuple #[.agg #[.int .i64 high, .slice YB yn yd, .int .i64 y0, .int .i64 y1, .int .i64 y2, .slice BB bn bd, .slice PB pn pd, .slice HB hn hd, .slice LB ln ld], .int .i64 id] ∧ TrmRd w' YB BB PB HB LB yn bn bd pn pd hn ln rows bs plan hs ls ∧ TBnd yn bn pn hn ln rows bs plan hs ls ∧ Below w.heap.size w w'
set_option maxHeartbeats 4000000 in
theorem drawTermValid_any (A : Option Addr) (n c : Nat) (cs : List Int) (w : World) (h : Code w A n c cs) : Calls Tryz.prog 5 #[.slice A n c] w (TrmD0 w) := by
  have hal : Below w.heap.size w (w.alloc (.cells #[.int .i64 0, .slice none 0 0, .int .i64 0, .int .i64 0, .int .i64 0, .slice none 0 0, .slice none 0 0, .slice none 0 0, .slice none 0 0] 34)) := (Below.refl _ _).alloc (Nat.le_refl _) _
  have hR0 : Blk (w.alloc (.cells #[.int .i64 0, .slice none 0 0, .int .i64 0, .int .i64 0, .int .i64 0, .slice none 0 0, .slice none 0 0, .slice none 0 0, .slice none 0 0] 34)) w.heap.size 34 [.int .i64 0, .slice none 0 0, .int .i64 0, .int .i64 0, .int .i64 0, .slice none 0 0, .slice none 0 0, .slice none 0 0, .slice none 0 0] := Blk.new _ _ _
  have h1 := codeT_below h hal
  have HAL := Lib.hid hal
  clear h hal
  go_enter Tryz.func5, Tryz.ntmps5
  go_wp2_with fail
  refine (open_any A n c cs _ h1).mono ?_
  rintro e w1 ⟨v, rfl, g, rfl, hg, hr, hb⟩
  have hg : w.heap.size + 1 ≤ g := by simpa using hg
  have hR1 := hR0.later hb
  have HB1 := Lib.hid (HAL.out.trans (hb.mono (by simp)))
  have hs1 : w.heap.size + 1 ≤ w1.heap.size := by have := hb.size; simpa using this
  clear hR0 h1 hb
  go_wp2_with fail
  refine (l20Terminal_any g 0 2 w1 hr (by omega) (by omega) (by omega)).mono ?_
  rintro e w2 ⟨_, rfl, high, y0, y1, y2, YB, yn, yd, BB, bn, bd, PB, pn, pd, HB, hn, hd, LB, ln, ld, rows, bs, plan, hs, ls, rfl, hte, hbd, _, hg2⟩
  have hR2 := hR1.only hg2 (by omega)
  have HB2 := Lib.hid (HB1.out.grown hg2 (by omega) (fun k e => by injection e with e; omega))
  have HTE := Lib.hid hte
  have HBD := Lib.hid hbd
  clear hte hbd hg2 hR1 hr
  go_wp2_with (first | (refine wpList_store_blk rfl 34 (.tmp 2) (.tmp 5) rfl (w.heap.size) 34 [.int .i64 0, .slice none 0 0, .int .i64 0, .int .i64 0, .int .i64 0, .slice none 0 0, .slice none 0 0, .slice none 0 0, .slice none 0 0] [.int .i64 high, .slice YB yn yd, .int .i64 y0, .int .i64 y1, .int .i64 y2, .slice BB bn bd, .slice PB pn pd, .slice HB hn hd, .slice LB ln ld] ?_ ?_ ?_ ?_ ?_ ?_ ?_; rfl; rfl; exact hR2; rfl; kernel_rfl; simp [Value.oneCell']; intro wz hz ho; have e0 := hz.cellAt 0 (by simp); have e1 := hz.cellAt 1 (by simp); have e2 := hz.cellAt 2 (by simp); have e3 := hz.cellAt 3 (by simp); have e4 := hz.cellAt 4 (by simp); have e5 := hz.cellAt 5 (by simp); have e6 := hz.cellAt 6 (by simp); have e7 := hz.cellAt 7 (by simp); have e8 := hz.cellAt 8 (by simp); simp only [List.getElem_cons_zero, List.getElem_cons_succ] at e0 e1 e2 e3 e4 e5 e6 e7 e8))
  refine bodyPost_ret (v := .agg #[.int .i64 high, .slice YB yn yd, .int .i64 y0, .int .i64 y1, .int .i64 y2, .slice BB bn bd, .slice PB pn pd, .slice HB hn hd, .slice LB ln ld]) (by simp [results, Tryz.results5, go_sem, e0, e1, e2, e3, e4, e5, e6, e7, e8]) rfl ?_
  exact RVal.mk ⟨high, y0, y1, y2, YB, yn, yd, BB, bn, bd, PB, pn, pd, HB, hn, hd, LB, ln, ld, rows, bs, plan, hs, ls, rfl, (HTE.out.far hR2 (by decide) (out_grown ho)).rdB HBD.out, HBD.out, below_out HB2.out ho (Nat.le_refl _)⟩
set_option maxHeartbeats 4000000 in
theorem drawTermWhere_any (A : Option Addr) (n c : Nat) (cs : List Int) (w : World) (h : Code w A n c cs) : Calls Tryz.prog 13 #[.slice A n c] w (TrmD1 w) := by
  have hal : Below w.heap.size w (w.alloc (.cells #[.int .i64 0, .slice none 0 0, .int .i64 0, .int .i64 0, .int .i64 0, .slice none 0 0, .slice none 0 0, .slice none 0 0, .slice none 0 0] 34)) := (Below.refl _ _).alloc (Nat.le_refl _) _
  have hR0 : Blk (w.alloc (.cells #[.int .i64 0, .slice none 0 0, .int .i64 0, .int .i64 0, .int .i64 0, .slice none 0 0, .slice none 0 0, .slice none 0 0, .slice none 0 0] 34)) w.heap.size 34 [.int .i64 0, .slice none 0 0, .int .i64 0, .int .i64 0, .int .i64 0, .slice none 0 0, .slice none 0 0, .slice none 0 0, .slice none 0 0] := Blk.new _ _ _
  have h1 := codeT_below h hal
  have HAL := Lib.hid hal
  clear h hal
  go_enter Tryz.func13, Tryz.ntmps13
  go_wp2_with fail
  refine (open_any A n c cs _ h1).mono ?_
  rintro e w1 ⟨v, rfl, g, rfl, hg, hr, hb⟩
  have hg : w.heap.size + 1 ≤ g := by simpa using hg
  have hR1 := hR0.later hb
  have HB1 := Lib.hid (HAL.out.trans (hb.mono (by simp)))
  have hs1 : w.heap.size + 1 ≤ w1.heap.size := by have := hb.size; simpa using this
  clear hR0 h1 hb
  go_wp2_with fail
  refine (l20Terminal_any g 0 9 w1 hr (by omega) (by omega) (by omega)).mono ?_
  rintro e w2 ⟨_, rfl, high, y0, y1, y2, YB, yn, yd, BB, bn, bd, PB, pn, pd, HB, hn, hd, LB, ln, ld, rows, bs, plan, hs, ls, rfl, hte, hbd, ⟨q2, hq2, hr2⟩, hg2⟩
  have hR2 := hR1.only hg2 (by omega)
  have HB2 := Lib.hid (HB1.out.grown hg2 (by omega) (fun k e => by injection e with e; omega))
  have hs2 := hg2.size
  have HTE := Lib.hid hte
  have HBD := Lib.hid hbd
  clear hte hbd hg2 hR1 hr
  go_wp2_with fail
  refine (pick_any g q2 10 w2 hr2 (by omega) (by omega)).mono ?_
  rintro e w3 ⟨id, rfl, _, hr3, hg3⟩
  obtain ⟨cg, hbg⟩ := hr2.blk
  have hR3 := hR2.only hg3 (by omega)
  have HB3 := Lib.hid (HB2.out.grown hg3 (by omega) (fun k e => by injection e with e; omega))
  have HTE3 := Lib.hid (HTE.out.far hbg (by decide) hg3)
  clear hg3 hR2 hr2 hr3 hbg HTE HB2
  go_wp2_with (first | (refine wpList_store_blk rfl 34 (.tmp 2) (.tmp 8) rfl (w.heap.size) 34 [.int .i64 0, .slice none 0 0, .int .i64 0, .int .i64 0, .int .i64 0, .slice none 0 0, .slice none 0 0, .slice none 0 0, .slice none 0 0] [.int .i64 high, .slice YB yn yd, .int .i64 y0, .int .i64 y1, .int .i64 y2, .slice BB bn bd, .slice PB pn pd, .slice HB hn hd, .slice LB ln ld] ?_ ?_ ?_ ?_ ?_ ?_ ?_; rfl; rfl; exact hR3; rfl; kernel_rfl; simp [Value.oneCell']; intro wz hz ho; have e0 := hz.cellAt 0 (by simp); have e1 := hz.cellAt 1 (by simp); have e2 := hz.cellAt 2 (by simp); have e3 := hz.cellAt 3 (by simp); have e4 := hz.cellAt 4 (by simp); have e5 := hz.cellAt 5 (by simp); have e6 := hz.cellAt 6 (by simp); have e7 := hz.cellAt 7 (by simp); have e8 := hz.cellAt 8 (by simp); simp only [List.getElem_cons_zero, List.getElem_cons_succ] at e0 e1 e2 e3 e4 e5 e6 e7 e8))
  refine bodyPost_ret (v := .tuple #[.agg #[.int .i64 high, .slice YB yn yd, .int .i64 y0, .int .i64 y1, .int .i64 y2, .slice BB bn bd, .slice PB pn pd, .slice HB hn hd, .slice LB ln ld], .int .i64 id]) (by simp [results, Tryz.results13, go_sem, e0, e1, e2, e3, e4, e5, e6, e7, e8]) rfl ?_
  exact RVal.mk ⟨high, y0, y1, y2, YB, yn, yd, BB, bn, bd, PB, pn, pd, HB, hn, hd, LB, ln, ld, rows, bs, plan, hs, ls, id, rfl, (HTE3.out.far hR3 (by decide) (out_grown ho)).rdB HBD.out, HBD.out, below_out HB3.out ho (Nat.le_refl _)⟩
end Go.Proofs.YtbkfhcbecejomaaGreat
end
section
/- Terminals: the program says where a box is. -/
namespace Go.Proofs.YtbkfhcbecejomaaGreat
open Go Go.ChangeShapes Go.WideShapes Go.ChangeAt Go.RowKit
set_option linter.unusedVariables false
def whereT (rows : List (List Int)) (plan ls : List Int) (id : Int) : Int := if hasI rows.flatten id then 1 else if hasI plan id then 2 else if hasI ls id then 3 else 0
set_option maxHeartbeats 2000000 in
theorem implWhere (high : Int) (x : HullV) (YA BA PA HA LA : Option Addr) (yn yc bn bc pn pc hn hc ln lc : Nat) (rows : List (List Int)) (bs : List BoxV) (plan : List Int) (hs : List HoldV) (ls : List Int) (id : Int) (w : World) (T : TrmRd w YA BA PA HA LA yn bn bc pn pc hn ln rows bs plan hs ls) :
    Calls Tryz.prog 46 #[.agg #[.int .i64 high, .slice YA yn yc, .int .i64 x.f0, .int .i64 x.f1, .int .i64 x.f2, .slice BA bn bc, .slice PA pn pc, .slice HA hn hc, .slice LA ln lc], .int .i64 id] w fun e w' => e = .returned (.int .i64 (whereT rows plan ls id)) ∧ Below w.heap.size w w' := by
  obtain ⟨y0, y1, y2⟩ := x
  have TT := Lib.hid T
  have t1 := T.ym
  have t2 := T.bm
  have t3 := T.pm
  have t4 := T.hm
  have t5 := T.lm
  clear T
  have hal : Below w.heap.size w (w.alloc (.cells #[.int .i64 high, .slice YA yn yc, .int .i64 y0, .int .i64 y1, .int .i64 y2, .slice BA bn bc, .slice PA pn pc, .slice HA hn hc, .slice LA ln lc] 34)) := (Below.refl _ _).alloc (Nat.le_refl _) _
  have hP : Blk (w.alloc (.cells #[.int .i64 high, .slice YA yn yc, .int .i64 y0, .int .i64 y1, .int .i64 y2, .slice BA bn bc, .slice PA pn pc, .slice HA hn hc, .slice LA ln lc] 34)) w.heap.size 34 [.int .i64 high, .slice YA yn yc, .int .i64 y0, .int .i64 y1, .int .i64 y2, .slice BA bn bc, .slice PA pn pc, .slice HA hn hc, .slice LA ln lc] := Blk.new _ _ _
  dsimp only at *
  have HW2 : Hid (whereT rows plan ls id = (if hasI rows.flatten id then 1 else if hasI plan id then 2 else if hasI ls id then 3 else 0)) := Lib.hid rfl
  have HFA : Hid (decide (0 ≤ findAux rows 0 id) = hasI rows.flatten id) := Lib.hid (findAux_any rows 0 id)
  have hF := fun W (hW : Below w.heap.size w W) => yardFind high YA yn yc rows id W TT.out.yl (TT.out.below hW).yr (by omega)
  generalize findAux rows 0 id = fa at *
  go_enter Tryz.func46, Tryz.ntmps46
  go_wp2_with fail
  generalize w.alloc (.cells #[.int .i64 high, .slice YA yn yc, .int .i64 y0, .int .i64 y1, .int .i64 y2, .slice BA bn bc, .slice PA pn pc, .slice HA hn hc, .slice LA ln lc] 34) = w1 at *
  refine (hF w1 hal).mono ?_
  rintro e w2 ⟨rfl, q2, os2, rfl⟩
  have b2 := below_grow w1 q2 os2
  generalize Go.Sort.grow (w1.drewN q2) os2 = w2 at *
  have HB := Lib.hid (below_trans hal b2)
  have P4 := hP.later b2
  have T4 := TT.out.below HB.out
  clear b2 hP hal hF
  cases h1 : hasI rows.flatten id with
  | true =>
    have HE : Hid (whereT rows plan ls id = 1) := Lib.hid (by rw [HW2.out, if_pos h1])
    have hg0 : decide (0 ≤ fa) = true := by rw [HFA.out, h1]
    have hg1 : 0 ≤ fa := of_decide_eq_true hg0
    clear h1 P4 T4 HW2
    go_wp2_with fail
    go_ret
    exact ⟨by rw [HE.out]; rfl, HB.out⟩
  | false =>
    have hg0 : decide (0 ≤ fa) = false := by rw [HFA.out, h1]
    have hg1 : ¬ 0 ≤ fa := of_decide_eq_false hg0
    have HW3 : Hid (whereT rows plan ls id = (if hasI plan id then 2 else if hasI ls id then 3 else 0)) := Lib.hid (by rw [HW2.out, if_neg (by simp [h1])])
    clear h1 HW2
    have x0 := (P4).cellAt 0 (by simp)
    have x1 := (P4).cellAt 1 (by simp)
    have x2 := (P4).cellAt 2 (by simp)
    have x3 := (P4).cellAt 3 (by simp)
    have x4 := (P4).cellAt 4 (by simp)
    have x5 := (P4).cellAt 5 (by simp)
    have x6 := (P4).cellAt 6 (by simp)
    have x7 := (P4).cellAt 7 (by simp)
    have x8 := (P4).cellAt 8 (by simp)
    simp only [List.getElem_cons_zero, List.getElem_cons_succ] at x0 x1 x2 x3 x4 x5 x6 x7 x8
    have xl := (P4).lt
    go_wp2_with fail
    refine (contains_int PA pn pc plan id _ T4.pl T4.pr (by omega)).mono ?_
    rintro e w5 ⟨rfl, rfl⟩
    cases h2 : hasI plan id with
    | true =>
      have HE : Hid (whereT rows plan ls id = 2) := Lib.hid (by rw [HW3.out, if_pos h2])
      clear h2 HW3
      go_wp2_with fail
      go_ret
      exact ⟨by rw [HE.out]; rfl, HB.out⟩
    | false =>
      have HW4 : Hid (whereT rows plan ls id = (if hasI ls id then 3 else 0)) := Lib.hid (by rw [HW3.out, if_neg (by simp [h2])])
      clear h2 HW3
      go_wp2_with fail
      refine (contains_int LA ln lc ls id _ T4.ll T4.lr (by omega)).mono ?_
      rintro e w5 ⟨rfl, rfl⟩
      cases h3 : hasI ls id with
      | true =>
        have HE : Hid (whereT rows plan ls id = 3) := Lib.hid (by rw [HW4.out, if_pos h3])
        clear h3 HW4
        go_wp2_with fail
        go_ret
        exact ⟨by rw [HE.out]; rfl, HB.out⟩
      | false =>
        have HE : Hid (whereT rows plan ls id = 0) := Lib.hid (by rw [HW4.out, if_neg (by simp [h3])])
        clear h3 HW4
        go_wp2_with fail
        go_ret
        exact ⟨by rw [HE.out]; rfl, HB.out⟩
set_option maxHeartbeats 2000000 in
theorem implTermWhere (high : Int) (x : HullV) (YA BA PA HA LA : Option Addr) (yn yc bn bc pn pc hn hc ln lc : Nat) (rows : List (List Int)) (bs : List BoxV) (plan : List Int) (hs : List HoldV) (ls : List Int) (id : Int) (w : World) (T : TrmRd w YA BA PA HA LA yn bn bc pn pc hn ln rows bs plan hs ls) :
    Calls Tryz.prog 14 #[.agg #[.int .i64 high, .slice YA yn yc, .int .i64 x.f0, .int .i64 x.f1, .int .i64 x.f2, .slice BA bn bc, .slice PA pn pc, .slice HA hn hc, .slice LA ln lc], .int .i64 id] w fun e w' => e = .returned (.int .i64 (termWhere high rows x bs plan ⟨hs, ls⟩ id)) ∧ Below w.heap.size w w' := by
  obtain ⟨y0, y1, y2⟩ := x
  have TT := Lib.hid T
  have t2 := T.bm
  clear T
  have hal : Below w.heap.size w (w.alloc (.cells #[.int .i64 high, .slice YA yn yc, .int .i64 y0, .int .i64 y1, .int .i64 y2, .slice BA bn bc, .slice PA pn pc, .slice HA hn hc, .slice LA ln lc] 34)) := (Below.refl _ _).alloc (Nat.le_refl _) _
  have hP : Blk (w.alloc (.cells #[.int .i64 high, .slice YA yn yc, .int .i64 y0, .int .i64 y1, .int .i64 y2, .slice BA bn bc, .slice PA pn pc, .slice HA hn hc, .slice LA ln lc] 34)) w.heap.size 34 [.int .i64 high, .slice YA yn yc, .int .i64 y0, .int .i64 y1, .int .i64 y2, .slice BA bn bc, .slice PA pn pc, .slice HA hn hc, .slice LA ln lc] := Blk.new _ _ _
  dsimp only at *
  have hV := fun W (hW : Below w.heap.size w W) => implTermValid high ⟨y0, y1, y2⟩ YA BA PA HA LA yn yc bn bc pn pc hn hc ln lc rows bs plan hs ls W (TT.out.below hW)
  have hG := fun W (hW : Below w.heap.size w W) => implWhere high ⟨y0, y1, y2⟩ YA BA PA HA LA yn yc bn bc pn pc hn hc ln lc rows bs plan hs ls id W (TT.out.below hW)
  dsimp only at hV hG
  go_enter Tryz.func14, Tryz.ntmps14
  go_wp2_with fail
  generalize w.alloc (.cells #[.int .i64 high, .slice YA yn yc, .int .i64 y0, .int .i64 y1, .int .i64 y2, .slice BA bn bc, .slice PA pn pc, .slice HA hn hc, .slice LA ln lc] 34) = w1 at *
  refine (hV w1 hal).mono ?_
  rintro e w2 ⟨rfl, b2⟩
  have HB := Lib.hid (below_trans hal b2)
  have P2 := hP.later b2
  clear hal hP b2 hV
  cases ht : termOk high rows ⟨y0, y1, y2⟩ bs plan ⟨hs, ls⟩ with
  | false =>
    have HE : Hid (termWhere high rows ⟨y0, y1, y2⟩ bs plan ⟨hs, ls⟩ id = -1) := Lib.hid (by simp [termWhere, ht])
    clear ht P2 hG
    go_wp2_with fail
    go_ret
    exact ⟨by rw [HE.out]; rfl, HB.out⟩
  | true =>
    have HW : Hid (termWhere high rows ⟨y0, y1, y2⟩ bs plan ⟨hs, ls⟩ id = if hasF bs id then whereT rows plan ls id else -1) := Lib.hid (by simp [termWhere, ht, whereT])
    clear ht
    have T2 := TT.out.below HB.out
    have HBI := Lib.hid (idx_has bs id)
    have x0 := (P2).cellAt 0 (by simp)
    have x1 := (P2).cellAt 1 (by simp)
    have x2 := (P2).cellAt 2 (by simp)
    have x3 := (P2).cellAt 3 (by simp)
    have x4 := (P2).cellAt 4 (by simp)
    have x5 := (P2).cellAt 5 (by simp)
    have x6 := (P2).cellAt 6 (by simp)
    have x7 := (P2).cellAt 7 (by simp)
    have x8 := (P2).cellAt 8 (by simp)
    simp only [List.getElem_cons_zero, List.getElem_cons_succ] at x0 x1 x2 x3 x4 x5 x6 x7 x8
    have xl := (P2).lt
    go_wp2_with fail
    refine (boxAt_any BA bn bc bs id w2 T2.bl T2.br (by omega)).mono ?_
    rintro e w3 ⟨rfl, b3⟩
    have HB := Lib.hid (below_trans HB.out b3)
    have P3 := P2.later b3
    clear x0 x1 x2 x3 x4 x5 x6 x7 x8 xl P2 T2 b3
    generalize idxI (findF bs id) = fi at *
    cases hf : hasF bs id with
    | false =>
      have HE : Hid (termWhere high rows ⟨y0, y1, y2⟩ bs plan ⟨hs, ls⟩ id = -1) := Lib.hid (by rw [HW.out, hf]; rfl)
      have hfi := HBI.out
      rw [hf] at hfi
      have hlt0 : decide (fi < 0) = true := hfi
      have hlt1 : fi < 0 := of_decide_eq_true hlt0
      clear hf hfi HW hG P3
      go_wp2_with fail
      go_ret
      exact ⟨by rw [HE.out]; rfl, HB.out⟩
    | true =>
      have hfi := HBI.out
      rw [hf] at hfi
      have hlt0 : decide (fi < 0) = false := hfi
      have hlt1 : ¬ fi < 0 := of_decide_eq_false hlt0
      have HE : Hid (termWhere high rows ⟨y0, y1, y2⟩ bs plan ⟨hs, ls⟩ id = whereT rows plan ls id) := Lib.hid (by rw [HW.out, hf]; rfl)
      clear hf hfi HW
      have x0 := (P3).cellAt 0 (by simp)
      have x1 := (P3).cellAt 1 (by simp)
      have x2 := (P3).cellAt 2 (by simp)
      have x3 := (P3).cellAt 3 (by simp)
      have x4 := (P3).cellAt 4 (by simp)
      have x5 := (P3).cellAt 5 (by simp)
      have x6 := (P3).cellAt 6 (by simp)
      have x7 := (P3).cellAt 7 (by simp)
      have x8 := (P3).cellAt 8 (by simp)
      simp only [List.getElem_cons_zero, List.getElem_cons_succ] at x0 x1 x2 x3 x4 x5 x6 x7 x8
      have xl := (P3).lt
      go_wp2_with fail
      refine (hG _ HB.out).mono ?_
      rintro e w4 ⟨rfl, b4⟩
      have HB := Lib.hid (below_trans HB.out b4)
      clear b4 hG x0 x1 x2 x3 x4 x5 x6 x7 x8 xl P3
      go_wp2_with fail
      go_ret
      exact ⟨by rw [HE.out]; rfl, HB.out⟩
end Go.Proofs.YtbkfhcbecejomaaGreat
end
section
/- Valid terminals, what the laws ask, in plain words. -/
namespace Go.Proofs.YtbkfhcbecejomaaGreat
set_option linter.unusedVariables false
set_option linter.unusedSimpArgs false
theorem trm_zero (w : World) : TrmRd w none none none none none 0 0 0 0 0 0 0 [] [] [] [] [] :=
  ⟨rfl, ⟨[], rfl, .inl rfl, fun i h => by simp [intss] at h⟩, by omega, rfl, .inl rfl, by omega, Nat.le_refl _, rfl, .inl rfl, by omega, Nat.le_refl _, by omega, rfl, .inl rfl, by omega, rfl, .inl rfl, by omega⟩
theorem termOk_zero : termOk 0 [] ⟨0, 0, 0⟩ [] [] ⟨[], []⟩ = false := by decide
section
variable {high : Int} {rows : List (List Int)} {h : HullV} {bs : List BoxV} {plan : List Int} {hs : List HoldV} {ls : List Int}
theorem term_parts (e : termOk high rows h bs plan ⟨hs, ls⟩ = true) : yardOk high rows = true ∧ planOk h bs plan = true ∧ nearN h bs plan = 0 ∧ (∀ id ∈ rows.flatten, hasF bs id = true ∧ hasI plan id = false ∧ hasI ls id = false) ∧ ∀ x ∈ plan, hasI ls x = false := by
  simp only [termOk, Bool.and_eq_true, List.all_eq_true, decide_eq_true_eq, Bool.not_eq_true'] at e
  obtain ⟨⟨⟨⟨h1, h2⟩, _⟩, h4⟩, h5, h6⟩ := e
  exact ⟨h1, h2, h4, fun id hid => ⟨(h5 id hid).1.1, (h5 id hid).1.2, (h5 id hid).2⟩, h6⟩
theorem term_ids (e : termOk high rows h bs plan ⟨hs, ls⟩ = true) : ∀ id ∈ idsA high rows, hasI plan id = false ∧ hasI ls id = false := by
  obtain ⟨h1, _, _, h4, _⟩ := term_parts e
  intro id hid
  unfold idsA at hid
  rw [if_pos h1] at hid
  exact (h4 id ((srtI_mem _ id).1 hid)).2
/-- where a box of a valid terminal is -/
theorem where_parts {id : Int} (hx : 0 ≤ termWhere high rows h bs plan ⟨hs, ls⟩ id) : termOk high rows h bs plan ⟨hs, ls⟩ = true ∧ hasF bs id = true ∧ decide (termWhere high rows h bs plan ⟨hs, ls⟩ id = 1) = hasI rows.flatten id ∧ decide (termWhere high rows h bs plan ⟨hs, ls⟩ id = 2) = hasI plan id ∧ decide (termWhere high rows h bs plan ⟨hs, ls⟩ id = 3) = hasI ls id := by
  unfold termWhere at *
  split at hx
  · rename_i hc
    rw [if_pos hc]
    rw [Bool.and_eq_true] at hc
    obtain ⟨_, _, _, h4, h5⟩ := term_parts hc.1
    refine ⟨hc.1, hc.2, ?_⟩
    cases a : hasI rows.flatten id with
    | true =>
      have hm : id ∈ rows.flatten := by simpa [hasI] using a
      obtain ⟨_, b, c⟩ := h4 id hm
      simp [b, c]
    | false =>
      cases b : hasI plan id with
      | true =>
        have hm : id ∈ plan := by simpa [hasI] using b
        have c := h5 id hm
        simp [c]
      | false => cases c : hasI ls id <;> simp
  · omega
theorem where_neg {id : Int} (hx : termWhere high rows h bs plan ⟨hs, ls⟩ id < 0) : termWhere high rows h bs plan ⟨hs, ls⟩ id = -1 := by
  unfold termWhere at *
  split at hx
  · rename_i hc
    rw [if_pos hc]
    split at hx
    · omega
    · split at hx
      · omega
      · split at hx <;> omega
  · rename_i hc
    rw [if_neg hc]
/-- a box that is known has an id from 1 on -/
theorem hasF_pos {id : Int} (e : planOk h bs plan = true) (hf : hasF bs id = true) : 1 ≤ id := by
  obtain ⟨x, hx, e0⟩ := hasF_iff.1 hf
  have := (boxesOk_iff.1 (planOk_parts e).2.1).1 x hx
  simp only [bOk, Bool.and_eq_true, inI_iff] at this
  omega
end
end Go.Proofs.YtbkfhcbecejomaaGreat
end
section
/- laws.hasInt: is a number in a list; it only reads. -/
namespace Go.Proofs.YtbkfhcbecejomaaGreat
open Go Go.ChangeShapes Go.WideShapes Go.ChangeAt Go.RowKit
set_option linter.unusedVariables false
theorem hasInt_same (A : Option Addr) (n c : Nat) (zs : List Int) (x : Int) (w : World) (hn : zs.length = n) (hr : RdV w A (ints zs)) (hm : n ≤ 1048576) :
    Calls Tryz.prog 10 #[.slice A n c, .int .i64 x] w fun e w' => e = .returned (.bool (hasI zs x)) ∧ w = w' := by
  have HN := Lib.hid hn
  clear hn
  go_enter Tryz.func10, Tryz.ntmps10
  go_wp2_with fail
  go_loopw [5] (fun i wr => ∃ k : Nat, k ≤ n ∧ i = .int .i64 k ∧ Hid (x ∉ zs.take k) ∧ wr = w) (fun i _ => n - (intOf i).toNat)
  case atStart => exact ⟨0, Nat.zero_le _, rfl, Lib.hid (by simp), rfl⟩
  case round =>
    obtain ⟨k, hk, rfl, HE, rfl⟩ := hrel
    by_cases hlt : k < n
    · have hkx : k < zs.length := by rw [HN.out]; exact hlt
      obtain ⟨b1, o1, rfl, hl1, hc1⟩ := hr.pos (show k < (ints zs).length by rw [ints_len]; exact hkx)
      have h1 := (hc1 k (by rw [ints_len]; exact hkx))
      rw [ints_at] at h1
      have HST : Hid (zs[k] ≠ x → x ∉ zs.take (k + 1)) := Lib.hid (fun hne hm => by
        rw [List.take_succ_eq_append_getElem hkx] at hm
        rcases List.mem_append.1 hm with h | h
        · exact HE.out h
        · exact hne (List.mem_singleton.1 h).symm)
      have HIN : Hid (zs[k] = x → hasI zs x = true) := Lib.hid (fun e => by rw [← e]; simp [hasI])
      generalize zs[k] = y at *
      have hki : (k : Int) < (n : Int) := by omega
      clear hc1
      by_cases hxy : y = x
      · have hq : (y == x) = true := by simp [hxy]
        have HF := Lib.hid (HIN.out hxy)
        clear HST HIN hxy
        go_wp2_with fail
        go_ret
        exact ⟨by rw [HF.out]; rfl, rfl⟩
      · have hq : (y == x) = false := by simp [hxy]
        have HS := Lib.hid (HST.out hxy)
        clear HST HIN hxy
        go_wp2_with fail
        go_roundw
        case rel => exact ⟨k + 1, by omega, by go_num, HS, trivial⟩
        case measure => simp [intOf]; omega
    · obtain rfl : k = n := by omega
      have HF : Hid (hasI zs x = false) := Lib.hid (by
        have h1 := HE.out
        rw [List.take_of_length_le (by rw [HN.out]; exact Nat.le_refl _)] at h1
        simpa [hasI] using h1)
      go_wp2_with fail
      go_ret
      exact ⟨by rw [HF.out]; rfl, rfl⟩
end Go.Proofs.YtbkfhcbecejomaaGreat
end
section
/- impl.PlanFind and impl.YardFind: is a box on the ship, in the yard. -/
namespace Go.Proofs.YtbkfhcbecejomaaGreat
open Go Go.ChangeShapes Go.WideShapes Go.ChangeAt Go.RowKit
set_option linter.unusedVariables false
theorem yardFindW (high : Int) (A : Option Addr) (n c : Nat) (rows : List (List Int)) (x : Int) (w : World) (hok : yardOk high rows = true) (hn : rows.length = n) (hr : RdRR w A (intss rows)) (hm : n ≤ 1048576) :
    Calls Tryz.prog 16 #[.agg #[.int .i64 high, .slice A n c], .int .i64 x] w fun e w' => e = .returned (.int .i64 (findAux rows 0 x)) ∧ Below w.heap.size w w' := by
  have HN := Lib.hid hn
  have HOK := Lib.hid hok
  have hbl : Below w.heap.size w (w.alloc (.cells #[.int .i64 high, .slice A n c] 25)) := (Below.refl _ _).alloc (Nat.le_refl _) _
  have hP : Blk (w.alloc (.cells #[.int .i64 high, .slice A n c] 25)) w.heap.size 25 [.int .i64 high, .slice A n c] := Blk.new _ _ _
  have HR := Lib.hid (hr.below hbl)
  have HBL := Lib.hid hbl
  clear hn hok hr hbl
  go_enter Tryz.func16, Tryz.ntmps16
  go_wp2_with fail
  refine (implYardValid high A n c rows _ HN.out HR.out (by omega)).mono ?_
  rintro e w1 ⟨rfl, hb1⟩
  rw [HOK.out]
  have hP1 := hP.later hb1
  have x0 := hP1.cellAt 0 (by simp)
  have x1 := hP1.cellAt 1 (by simp)
  simp only [List.getElem_cons_zero, List.getElem_cons_succ] at x0 x1
  have HR1 := Lib.hid (HR.out.below hb1)
  have HB1 := Lib.hid (below_trans HBL.out hb1)
  clear hb1 hP1
  go_wp2_with fail
  refine (yardFind high A n c rows x _ HN.out HR1.out (by omega)).mono ?_
  rintro e w2 ⟨rfl, q, os, rfl⟩
  go_wp2_with fail
  go_ret
  exact ⟨rfl, below_trans HB1.out (below_grow _ _ _)⟩
set_option maxHeartbeats 2000000 in
/-- of a valid plan -/
theorem implPlanFind (x : HullV) (A PA : Option Addr) (n c m pc : Nat) (bs : List BoxV) (plan : List Int) (id : Int) (w : World) (hok : planOk x bs plan = true) (hid : 1 ≤ id) (hn : bs.length = n) (hr : RdV w A (boxs bs)) (hnc : n ≤ c) (hm : n ≤ 1099511627776) (hpn : plan.length = m) (hp : RdV w PA (ints plan)) (hpc : m ≤ pc) (hpm : pc ≤ 9223372036854775807) :
    Calls Tryz.prog 17 #[.agg #[.int .i64 x.f0, .int .i64 x.f1, .int .i64 x.f2], .slice A n c, .slice PA m pc, .int .i64 id] w fun e w' => (∃ i : Int, e = .returned (.int .i64 i) ∧ decide (0 ≤ i) = hasI plan id) ∧ Below w.heap.size w w' := by
  obtain ⟨y0, y1, y2⟩ := x
  have hal : Below w.heap.size w (w.alloc (.cells #[.int .i64 y0, .int .i64 y1, .int .i64 y2] 27)) := (Below.refl _ _).alloc (Nat.le_refl _) _
  have hP : Blk (w.alloc (.cells #[.int .i64 y0, .int .i64 y1, .int .i64 y2] 27)) w.heap.size 27 [.int .i64 y0, .int .i64 y1, .int .i64 y2] := Blk.new _ _ _
  have hV := implPlanValid ⟨y0, y1, y2⟩ A PA n c m pc bs plan _ hn (hr.below hal) hnc hm hpn (hp.below hal) hpc hpm
  rw [hok] at hV
  have HPN := Lib.hid hpn
  have HP := Lib.hid hp
  have HAL := Lib.hid hal
  have p0 := hP.cellAt 0 (by simp)
  have p1 := hP.cellAt 1 (by simp)
  have p2 := hP.cellAt 2 (by simp)
  simp only [List.getElem_cons_zero, List.getElem_cons_succ] at p0 p1 p2
  have hi1 : decide (id < 1) = false := decide_eq_false (by omega)
  have hi2 : ¬ id < 1 := by omega
  dsimp only at *
  clear hok hn hr hpn hp hal hP
  go_enter Tryz.func17, Tryz.ntmps17
  go_wp2_with fail
  refine hV.mono ?_
  rintro e w2 ⟨rfl, h2⟩
  have HB := Lib.hid (below_trans HAL.out h2)
  clear h2 hV p0 p1 p2 HAL
  go_wp2_with fail
  refine (index_int PA m pc plan id w2 HPN.out (HP.out.below HB.out) (by omega)).mono ?_
  rintro e w3 ⟨⟨i, rfl, hi⟩, rfl⟩
  have HI := Lib.hid hi
  clear hi
  go_wp2_with fail
  go_ret
  exact ⟨⟨i, rfl, HI.out⟩, HB.out⟩
end Go.Proofs.YtbkfhcbecejomaaGreat
end
section
/- The fixed answer: alive() is true: the kernel runs it, in whatever world. -/
namespace Go.Proofs.YtbkfhcbecejomaaGreat
open Go.RowKit
noncomputable def aliveEnd : Frame := match runN Tryz.prog 1438 (lone (Frame.enter Tryz.prog 8 #[] .normal) [] default) with
  | .next m => (m.gs.getD 0 default).frame
  | _ => default
theorem alive_run (cs : List Frame) (w : World) : runN Tryz.prog 1438 (lone (Frame.enter Tryz.prog 8 #[] .normal) cs w) = .next (lone aliveEnd cs w) := by kernel_rfl
theorem alive_mode : (aliveEnd.mode, aliveEnd.defers, aliveEnd.kind, aliveEnd.fn) = (.returning, [], .normal, 8) := by kernel_rfl
theorem alive_out (w : World) : (results Tryz.f8 aliveEnd.tmps).run Tryz.prog w = .ok (.bool true) w := by kernel_rfl
theorem alive_any (w : World) : Calls Tryz.prog 8 #[] w fun e w' => e = .returned (.bool true) ∧ w = w' := by
  intro cs
  obtain ⟨h1, h2, h3, h4⟩ : aliveEnd.mode = .returning ∧ aliveEnd.defers = [] ∧ aliveEnd.kind = .normal ∧ aliveEnd.fn = 8 := by
    have h := alive_mode
    simp only [Prod.mk.injEq] at h
    exact h
  exact ⟨.returned (.bool true), w, aliveEnd, ⟨rfl, rfl⟩, ⟨1438, alive_run cs w⟩, h4, h1, h2, h3, Tryz.f8, by rw [h4]; exact Tryz.func8, alive_out w⟩
end Go.Proofs.YtbkfhcbecejomaaGreat
end
