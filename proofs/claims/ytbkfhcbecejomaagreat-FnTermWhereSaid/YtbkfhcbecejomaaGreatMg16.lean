/- Several texts of the proof in one; each says at its head what it proves; no condition. -/
import Derived.Test.YtbkfhcbecejomaaGreatMg14
import Derived.Test.YtbkfhcbecejomaaGreatMg15
import Derived.BigQuiet
import Derived.Shelf.SlSortCmp.QuietGrown
import Derived.Test.YtbkfhcbecejomaaGreatMg3
import Derived.Test.YtbkfhcbecejomaaGreatMg2
import Derived.Test.YtbkfhcbecejomaaGreatMg1
section
/- A box is unloaded, the reference. Printed by gen_td32.py. -/
namespace Go.Proofs.YtbkfhcbecejomaaGreat
open Go Go.ChangeShapes Go.WideShapes Go.ChangeAt Go.RowKit Go.Sort
set_option linter.unusedVariables false
set_option linter.unusedSimpArgs false
set_option maxHeartbeats 8000000 in
set_option maxRecDepth 100000 in
theorem specL32Unload (high : Int) (x : HullV) (YA BA PA HA LA : Option Addr) (yn yc bn bc pn pc hn hc ln lc : Nat) (rows : List (List Int)) (bs : List BoxV) (plan : List Int) (hs : List HoldV) (ls : List Int) (slot : Int) (dst : Int) (w : World) (T : TrmRd w YA BA PA HA LA yn bn bc pn pc hn ln rows bs plan hs ls) (hok : termOk high rows x bs plan ⟨hs, ls⟩ = true) (hlc : ln ≤ lc) :
    Calls Tryz.prog 90 #[.agg #[.int .i64 high, .slice YA yn yc, .int .i64 x.f0, .int .i64 x.f1, .int .i64 x.f2, .slice BA bn bc, .slice PA pn pc, .slice HA hn hc, .slice LA ln lc], .int .i64 slot, .int .i64 dst] w (TrmTwo w yn bn bs) := by
  obtain ⟨y0, y1, y2⟩ := x
  have LOW := Lib.hid (TLow.of hok T.yl T.bl T.pl T.hl T.ll)
  obtain ⟨hyo, hpo, hpl, _, _, _, _, _, hr5, hfl⟩ := term_facts hok
  have hin : ∀ s ∈ rows, s.length ≤ 1048576 := fun s hs => by have := hr5 s hs; omega
  have hp0 : 0 < pn := by rw [← T.pl]; exact hpl
  have HOK := Lib.hid hok
  have HFL := Lib.hid hfl
  have HYO := Lib.hid hyo
  have HPO := Lib.hid hpo
  clear hok hfl hpo hr5 hpl
  have hal : Below w.heap.size w ((w.alloc (.cells #[.int .i64 high, .slice YA yn yc, .int .i64 y0, .int .i64 y1, .int .i64 y2, .slice BA bn bc, .slice PA pn pc, .slice HA hn hc, .slice LA ln lc] 34)).alloc (.cells #[.int .i64 0, .slice none 0 0, .int .i64 0, .int .i64 0, .int .i64 0, .slice none 0 0, .slice none 0 0, .slice none 0 0, .slice none 0 0] 34)) := ((Below.refl _ _).alloc (Nat.le_refl _) _).alloc (by simp) _
  have hP := (Blk.new w 34 [.int .i64 high, .slice YA yn yc, .int .i64 y0, .int .i64 y1, .int .i64 y2, .slice BA bn bc, .slice PA pn pc, .slice HA hn hc, .slice LA ln lc]).alloc (.cells #[.int .i64 0, .slice none 0 0, .int .i64 0, .int .i64 0, .int .i64 0, .slice none 0 0, .slice none 0 0, .slice none 0 0, .slice none 0 0] 34)
  have hR := Blk.new (w.alloc (.cells #[.int .i64 high, .slice YA yn yc, .int .i64 y0, .int .i64 y1, .int .i64 y2, .slice BA bn bc, .slice PA pn pc, .slice HA hn hc, .slice LA ln lc] 34)) 34 [.int .i64 0, .slice none 0 0, .int .i64 0, .int .i64 0, .int .i64 0, .slice none 0 0, .slice none 0 0, .slice none 0 0, .slice none 0 0]
  simp only [World.size_alloc] at hR
  change Blk ((w.alloc (.cells #[.int .i64 high, .slice YA yn yc, .int .i64 y0, .int .i64 y1, .int .i64 y2, .slice BA bn bc, .slice PA pn pc, .slice HA hn hc, .slice LA ln lc] 34)).alloc (.cells #[.int .i64 0, .slice none 0 0, .int .i64 0, .int .i64 0, .int .i64 0, .slice none 0 0, .slice none 0 0, .slice none 0 0, .slice none 0 0] 34)) _ _ _ at hP
  change Blk ((w.alloc (.cells #[.int .i64 high, .slice YA yn yc, .int .i64 y0, .int .i64 y1, .int .i64 y2, .slice BA bn bc, .slice PA pn pc, .slice HA hn hc, .slice LA ln lc] 34)).alloc (.cells #[.int .i64 0, .slice none 0 0, .int .i64 0, .int .i64 0, .int .i64 0, .slice none 0 0, .slice none 0 0, .slice none 0 0, .slice none 0 0] 34)) _ _ _ at hR
  have p0 := hP.cellAt 0 (by simp)
  have p1 := hP.cellAt 1 (by simp)
  have p2 := hP.cellAt 2 (by simp)
  have p3 := hP.cellAt 3 (by simp)
  have p4 := hP.cellAt 4 (by simp)
  have p5 := hP.cellAt 5 (by simp)
  have p6 := hP.cellAt 6 (by simp)
  have p7 := hP.cellAt 7 (by simp)
  have p8 := hP.cellAt 8 (by simp)
  simp only [List.set_cons_zero, List.set_cons_succ, List.getElem_cons_zero, List.getElem_cons_succ] at p0 p1 p2 p3 p4 p5 p6 p7 p8
  go_enter Tryz.func90, Tryz.ntmps90
  go_wp2_with fail
  generalize (w.alloc (.cells #[.int .i64 high, .slice YA yn yc, .int .i64 y0, .int .i64 y1, .int .i64 y2, .slice BA bn bc, .slice PA pn pc, .slice HA hn hc, .slice LA ln lc] 34)).alloc (.cells #[.int .i64 0, .slice none 0 0, .int .i64 0, .int .i64 0, .int .i64 0, .slice none 0 0, .slice none 0 0, .slice none 0 0, .slice none 0 0] 34) = w1 at *
  have T1 := T.below hal
  refine (specL32Copy high y0 y1 y2 YA BA PA HA LA yn yc bn bc pn pc hn hc ln lc rows bs plan hs ls w1 T1 hin hp0).mono ?_
  rintro e w2 ⟨_, rfl, YB, yd, BB, bd, PB, pd, HB, hd, LB, ld, rfl, o2, b2⟩
  clear p0 p1 p2 p3 p4 p5 p6 p7 p8
  have hal3 : Below w2.heap.size w2 (w2.alloc (.cells #[.int .i64 high, .slice YB yn yd, .int .i64 y0, .int .i64 y1, .int .i64 y2, .slice BB bn bd, .slice PB pn pd, .slice HB hn hd, .slice LB ln ld] 34)) := (Below.refl _ _).alloc (Nat.le_refl _) _
  have hO := Blk.new w2 34 [.int .i64 high, .slice YB yn yd, .int .i64 y0, .int .i64 y1, .int .i64 y2, .slice BB bn bd, .slice PB pn pd, .slice HB hn hd, .slice LB ln ld]
  change Blk (w2.alloc (.cells #[.int .i64 high, .slice YB yn yd, .int .i64 y0, .int .i64 y1, .int .i64 y2, .slice BB bn bd, .slice PB pn pd, .slice HB hn hd, .slice LB ln ld] 34)) _ _ _ at hO
  have b3 := below_trans b2 hal3
  have P3 := Lib.hid (hP.later b3)
  have R3 := Lib.hid (hR.later b3)
  have O3 := Lib.hid hO
  have A2 := Lib.hid o2
  have K3 := Lib.hid hal3
  have B3 := Lib.hid (below_trans hal b3)
  have s1 : w.heap.size + 2 ≤ w1.heap.size := by have := hR.lt; omega
  have s2 : w1.heap.size ≤ w2.heap.size := b2.size
  have TT := Lib.hid T
  clear hal hP hR T1 o2 b2 hal3 hO b3 T
  have p0 := P3.out.cellAt 0 (by simp)
  have p1 := P3.out.cellAt 1 (by simp)
  have p2 := P3.out.cellAt 2 (by simp)
  have p3 := P3.out.cellAt 3 (by simp)
  have p4 := P3.out.cellAt 4 (by simp)
  have p5 := P3.out.cellAt 5 (by simp)
  have p6 := P3.out.cellAt 6 (by simp)
  have p7 := P3.out.cellAt 7 (by simp)
  have p8 := P3.out.cellAt 8 (by simp)
  simp only [List.set_cons_zero, List.set_cons_succ, List.getElem_cons_zero, List.getElem_cons_succ] at p0 p1 p2 p3 p4 p5 p6 p7 p8
  go_wp2_with fail
  generalize w2.alloc (.cells #[.int .i64 high, .slice YB yn yd, .int .i64 y0, .int .i64 y1, .int .i64 y2, .slice BB bn bd, .slice PB pn pd, .slice HB hn hd, .slice LB ln ld] 34) = w3 at *
  have lw3 : w2.heap.size < w3.heap.size := O3.out.lt
  refine (specPlanTake ⟨y0, y1, y2⟩ BA PA bn bc pn pc bs plan slot w3 TT.out.bl (TT.out.br.below B3.out) TT.out.bk (by have := TT.out.bm; omega) TT.out.pl (TT.out.pr.below B3.out) TT.out.pk TT.out.px).mono ?_
  rintro e w4 ⟨_, rfl, QB, qn, qd, plan', _, rfl, ⟨id, rfl⟩, hq36, hql, oq, b4⟩
  have P4 := Lib.hid (P3.out.later b4)
  have R4 := Lib.hid (R3.out.later b4)
  have O4 := Lib.hid (O3.out.later b4)
  have K4 := Lib.hid (below_trans K3.out b4)
  have B4 := Lib.hid (below_trans B3.out b4)
  have HQ := Lib.hid oq
  have lw4 : w3.heap.size ≤ w4.heap.size := b4.size
  have HQL := Lib.hid hql
  clear b4 oq hql
  clear p0 p1 p2 p3 p4 p5 p6 p7 p8
  by_cases hi : id < 0
  · skip
    have o0 := O4.out.cellAt 0 (by simp)
    have o1 := O4.out.cellAt 1 (by simp)
    have o2 := O4.out.cellAt 2 (by simp)
    have o3 := O4.out.cellAt 3 (by simp)
    have o4 := O4.out.cellAt 4 (by simp)
    have o5 := O4.out.cellAt 5 (by simp)
    have o6 := O4.out.cellAt 6 (by simp)
    have o7 := O4.out.cellAt 7 (by simp)
    have o8 := O4.out.cellAt 8 (by simp)
    simp only [List.set_cons_zero, List.set_cons_succ, List.getElem_cons_zero, List.getElem_cons_succ] at o0 o1 o2 o3 o4 o5 o6 o7 o8
    go_wp2_with (first | (refine wpList_store_blk rfl 34 (.tmp 6) (.tmp 28) rfl (w.heap.size + 1) 34 [.int .i64 0, .slice none 0 0, .int .i64 0, .int .i64 0, .int .i64 0, .slice none 0 0, .slice none 0 0, .slice none 0 0, .slice none 0 0] [.int .i64 high, .slice YB yn yd, .int .i64 y0, .int .i64 y1, .int .i64 y2, .slice BB bn bd, .slice PB pn pd, .slice HB hn hd, .slice LB ln ld] ?_ ?_ ?_ ?_ ?_ ?_ ?_; rfl; rfl; exact R4.out; rfl; kernel_rfl; simp [Value.oneCell']; intro wz hz ho))
    have z0 := hz.cellAt 0 (by simp)
    have z1 := hz.cellAt 1 (by simp)
    have z2 := hz.cellAt 2 (by simp)
    have z3 := hz.cellAt 3 (by simp)
    have z4 := hz.cellAt 4 (by simp)
    have z5 := hz.cellAt 5 (by simp)
    have z6 := hz.cellAt 6 (by simp)
    have z7 := hz.cellAt 7 (by simp)
    have z8 := hz.cellAt 8 (by simp)
    simp only [List.set_cons_zero, List.set_cons_succ, List.getElem_cons_zero, List.getElem_cons_succ] at z0 z1 z2 z3 z4 z5 z6 z7 z8
    refine bodyPost_ret (v := .tuple #[.agg #[.int .i64 high, .slice YB yn yd, .int .i64 y0, .int .i64 y1, .int .i64 y2, .slice BB bn bd, .slice PB pn pd, .slice HB hn hd, .slice LB ln ld], .bool false]) (by simp [results, Tryz.results90, go_sem, z0, z1, z2, z3, z4, z5, z6, z7, z8]) rfl ?_
    exact RVal.mk ⟨high, y0, y1, y2, _, _, _, _, _, _, _, _, _, _, _, _, _, _, _, _, _, _, rfl, TOwn.base (TOwn.out (A2.out.later K4.out) ho (by omega)) (by omega), LOW.out, below_out B4.out ho (by omega)⟩
  · skip
    have p0 := P4.out.cellAt 0 (by simp)
    have p1 := P4.out.cellAt 1 (by simp)
    have p2 := P4.out.cellAt 2 (by simp)
    have p3 := P4.out.cellAt 3 (by simp)
    have p4 := P4.out.cellAt 4 (by simp)
    have p5 := P4.out.cellAt 5 (by simp)
    have p6 := P4.out.cellAt 6 (by simp)
    have p7 := P4.out.cellAt 7 (by simp)
    have p8 := P4.out.cellAt 8 (by simp)
    simp only [List.set_cons_zero, List.set_cons_succ, List.getElem_cons_zero, List.getElem_cons_succ] at p0 p1 p2 p3 p4 p5 p6 p7 p8
    go_wp2_with fail
    refine (putY high dst id YA yn yc rows w4 TT.out.yl (TT.out.yr.below B4.out) TT.out.ym HYO.out).mono ?_
    rintro e w5 ⟨_, rfl, XA, xc, rows', _, rfl, ⟨b, rfl⟩, hn1, h61, ox, b5⟩
    have hal7 : Below w5.heap.size w5 (w5.alloc (.cells #[.int .i64 high, .slice XA yn xc] 25)) := (Below.refl _ _).alloc (Nat.le_refl _) _
    have Y7 := Blk.new w5 25 [.int .i64 high, .slice XA yn xc]
    change Blk (w5.alloc (.cells #[.int .i64 high, .slice XA yn xc] 25)) _ _ _ at Y7
    clear p0 p1 p2 p3 p4 p5 p6 p7 p8
    have sb5 := b5.size
    have b7 := below_trans b5 hal7
    have P7 := Lib.hid (P4.out.later b7)
    have R7 := Lib.hid (R4.out.later b7)
    have O7 := Lib.hid (O4.out.later b7)
    have K7 := Lib.hid (below_trans K4.out b7)
    have B7 := Lib.hid (below_trans B4.out b7)
    have q0 := Y7.cellAt 0 (by simp)
    have q1 := Y7.cellAt 1 (by simp)
    simp only [List.set_cons_zero, List.set_cons_succ, List.getElem_cons_zero, List.getElem_cons_succ] at q0 q1
    have of0 := (O7.out).frozen 0
    have oc0 := (O7.out).cellAt 0 (by simp)
    simp only [List.set_cons_zero, List.set_cons_succ, List.getElem_cons_zero, List.getElem_cons_succ] at oc0
    have of1 := ((O7.out).set_ 0 (.int .i64 high)).frozen 1
    have oc1 := ((O7.out).set_ 0 (.int .i64 high)).cellAt 1 (by simp)
    simp only [List.set_cons_zero, List.set_cons_succ, List.getElem_cons_zero, List.getElem_cons_succ] at oc1
    have of6 := (((O7.out).set_ 0 (.int .i64 high)).set_ 1 (.slice XA yn xc)).frozen 6
    have oc6 := (((O7.out).set_ 0 (.int .i64 high)).set_ 1 (.slice XA yn xc)).cellAt 6 (by simp)
    simp only [List.set_cons_zero, List.set_cons_succ, List.getElem_cons_zero, List.getElem_cons_succ] at oc6
    have hO8 := (((O7.out).set_ 0 (.int .i64 high)).set_ 1 (.slice XA yn xc)).set_ 6 (.slice QB qn qd)
    have o0 := hO8.cellAt 0 (by simp)
    have o1 := hO8.cellAt 1 (by simp)
    have o2 := hO8.cellAt 2 (by simp)
    have o3 := hO8.cellAt 3 (by simp)
    have o4 := hO8.cellAt 4 (by simp)
    have o5 := hO8.cellAt 5 (by simp)
    have o6 := hO8.cellAt 6 (by simp)
    have o7 := hO8.cellAt 7 (by simp)
    have o8 := hO8.cellAt 8 (by simp)
    simp only [List.set_cons_zero, List.set_cons_succ, List.getElem_cons_zero, List.getElem_cons_succ] at o0 o1 o2 o3 o4 o5 o6 o7 o8
    have ho8 := (out_set (out_set (out_set (Out.refl w2.heap.size (w2.heap.size + 1) (w5.alloc (.cells #[.int .i64 high, .slice XA yn xc] 25))) w2.heap.size 0 (.int .i64 high) (Nat.le_refl _) (Nat.lt_succ_self _)) w2.heap.size 1 (.slice XA yn xc) (Nat.le_refl _) (Nat.lt_succ_self _)) w2.heap.size 6 (.slice QB qn qd) (Nat.le_refl _) (Nat.lt_succ_self _))
    have A8 := Lib.hid (A2.out.swapYP (by omega) (((K7.out.setCell (p := ⟨w2.heap.size, 0, none⟩) (Nat.le_refl _) (.int .i64 high)).setCell (p := ⟨w2.heap.size, 1, none⟩) (Nat.le_refl _) (.slice XA yn xc)).setCell (p := ⟨w2.heap.size, 6, none⟩) (Nat.le_refl _) (.slice QB qn qd)) ((ox.later hal7).out ho8 (.inr (by omega))) (by omega) (((OwnI.of HQ.out).later b7).out ho8 (.inr (by omega))) (by omega) (by omega))
    have B8 := Lib.hid (((B7.out.setCell (p := ⟨w2.heap.size, 0, none⟩) (by show w.heap.size ≤ w2.heap.size; omega) (.int .i64 high)).setCell (p := ⟨w2.heap.size, 1, none⟩) (by show w.heap.size ≤ w2.heap.size; omega) (.slice XA yn xc)).setCell (p := ⟨w2.heap.size, 6, none⟩) (by show w.heap.size ≤ w2.heap.size; omega) (.slice QB qn qd))
    have R8 := Lib.hid (((R7.out.far (p := ⟨w2.heap.size, 0, none⟩) (by show w.heap.size + 1 ≠ w2.heap.size; omega) (.int .i64 high)).far (p := ⟨w2.heap.size, 1, none⟩) (by show w.heap.size + 1 ≠ w2.heap.size; omega) (.slice XA yn xc)).far (p := ⟨w2.heap.size, 6, none⟩) (by show w.heap.size + 1 ≠ w2.heap.size; omega) (.slice QB qn qd))
    have LOWD := Lib.hid (show TLow yn bn qn hn ln rows' bs plan' hs ls from ⟨hn1, h61, LOW.out.ym, LOW.out.bl, LOW.out.bm, HQL.out, by omega, LOW.out.hl, LOW.out.hm, LOW.out.ll, LOW.out.lm⟩)
    clear ho8 hO8 R7 B7 K7
    go_wp2_with (first | (refine wpList_store_blk rfl 34 (.tmp 6) (.tmp 41) rfl (w.heap.size + 1) 34 [.int .i64 0, .slice none 0 0, .int .i64 0, .int .i64 0, .int .i64 0, .slice none 0 0, .slice none 0 0, .slice none 0 0, .slice none 0 0] [.int .i64 high, .slice XA yn xc, .int .i64 y0, .int .i64 y1, .int .i64 y2, .slice BB bn bd, .slice QB qn qd, .slice HB hn hd, .slice LB ln ld] ?_ ?_ ?_ ?_ ?_ ?_ ?_; rfl; rfl; exact R8.out; rfl; kernel_rfl; simp [Value.oneCell']; intro wz hz ho))
    have z0 := hz.cellAt 0 (by simp)
    have z1 := hz.cellAt 1 (by simp)
    have z2 := hz.cellAt 2 (by simp)
    have z3 := hz.cellAt 3 (by simp)
    have z4 := hz.cellAt 4 (by simp)
    have z5 := hz.cellAt 5 (by simp)
    have z6 := hz.cellAt 6 (by simp)
    have z7 := hz.cellAt 7 (by simp)
    have z8 := hz.cellAt 8 (by simp)
    simp only [List.set_cons_zero, List.set_cons_succ, List.getElem_cons_zero, List.getElem_cons_succ] at z0 z1 z2 z3 z4 z5 z6 z7 z8
    refine bodyPost_ret (v := .tuple #[.agg #[.int .i64 high, .slice XA yn xc, .int .i64 y0, .int .i64 y1, .int .i64 y2, .slice BB bn bd, .slice QB qn qd, .slice HB hn hd, .slice LB ln ld], .bool b]) (by simp [results, Tryz.results90, go_sem, z0, z1, z2, z3, z4, z5, z6, z7, z8]) rfl ?_
    exact RVal.mk ⟨high, y0, y1, y2, _, _, _, _, _, _, _, _, _, _, _, _, _, _, _, _, _, _, rfl, TOwn.base (TOwn.out A8.out ho (by omega)) (by omega), LOWD.out, below_out B8.out ho (by omega)⟩
end Go.Proofs.YtbkfhcbecejomaaGreat
end
section
/- A box is loaded, the reference. Printed by gen_td32.py. -/
namespace Go.Proofs.YtbkfhcbecejomaaGreat
open Go Go.ChangeShapes Go.WideShapes Go.ChangeAt Go.RowKit Go.Sort
set_option linter.unusedVariables false
set_option linter.unusedSimpArgs false
set_option maxHeartbeats 8000000 in
set_option maxRecDepth 100000 in
theorem specL32Load (high : Int) (x : HullV) (YA BA PA HA LA : Option Addr) (yn yc bn bc pn pc hn hc ln lc : Nat) (rows : List (List Int)) (bs : List BoxV) (plan : List Int) (hs : List HoldV) (ls : List Int) (frm : Int) (slot : Int) (w : World) (T : TrmRd w YA BA PA HA LA yn bn bc pn pc hn ln rows bs plan hs ls) (hok : termOk high rows x bs plan ⟨hs, ls⟩ = true) (hlc : ln ≤ lc) :
    Calls Tryz.prog 89 #[.agg #[.int .i64 high, .slice YA yn yc, .int .i64 x.f0, .int .i64 x.f1, .int .i64 x.f2, .slice BA bn bc, .slice PA pn pc, .slice HA hn hc, .slice LA ln lc], .int .i64 frm, .int .i64 slot] w (TrmTwo w yn bn bs) := by
  obtain ⟨y0, y1, y2⟩ := x
  have LOW := Lib.hid (TLow.of hok T.yl T.bl T.pl T.hl T.ll)
  obtain ⟨hyo, hpo, hpl, _, _, _, _, _, hr5, hfl⟩ := term_facts hok
  have hin : ∀ s ∈ rows, s.length ≤ 1048576 := fun s hs => by have := hr5 s hs; omega
  have hp0 : 0 < pn := by rw [← T.pl]; exact hpl
  have HOK := Lib.hid hok
  have HFL := Lib.hid hfl
  have HYO := Lib.hid hyo
  have HPO := Lib.hid hpo
  clear hok hfl hpo hr5 hpl
  have hal : Below w.heap.size w ((w.alloc (.cells #[.int .i64 high, .slice YA yn yc, .int .i64 y0, .int .i64 y1, .int .i64 y2, .slice BA bn bc, .slice PA pn pc, .slice HA hn hc, .slice LA ln lc] 34)).alloc (.cells #[.int .i64 0, .slice none 0 0, .int .i64 0, .int .i64 0, .int .i64 0, .slice none 0 0, .slice none 0 0, .slice none 0 0, .slice none 0 0] 34)) := ((Below.refl _ _).alloc (Nat.le_refl _) _).alloc (by simp) _
  have hP := (Blk.new w 34 [.int .i64 high, .slice YA yn yc, .int .i64 y0, .int .i64 y1, .int .i64 y2, .slice BA bn bc, .slice PA pn pc, .slice HA hn hc, .slice LA ln lc]).alloc (.cells #[.int .i64 0, .slice none 0 0, .int .i64 0, .int .i64 0, .int .i64 0, .slice none 0 0, .slice none 0 0, .slice none 0 0, .slice none 0 0] 34)
  have hR := Blk.new (w.alloc (.cells #[.int .i64 high, .slice YA yn yc, .int .i64 y0, .int .i64 y1, .int .i64 y2, .slice BA bn bc, .slice PA pn pc, .slice HA hn hc, .slice LA ln lc] 34)) 34 [.int .i64 0, .slice none 0 0, .int .i64 0, .int .i64 0, .int .i64 0, .slice none 0 0, .slice none 0 0, .slice none 0 0, .slice none 0 0]
  simp only [World.size_alloc] at hR
  change Blk ((w.alloc (.cells #[.int .i64 high, .slice YA yn yc, .int .i64 y0, .int .i64 y1, .int .i64 y2, .slice BA bn bc, .slice PA pn pc, .slice HA hn hc, .slice LA ln lc] 34)).alloc (.cells #[.int .i64 0, .slice none 0 0, .int .i64 0, .int .i64 0, .int .i64 0, .slice none 0 0, .slice none 0 0, .slice none 0 0, .slice none 0 0] 34)) _ _ _ at hP
  change Blk ((w.alloc (.cells #[.int .i64 high, .slice YA yn yc, .int .i64 y0, .int .i64 y1, .int .i64 y2, .slice BA bn bc, .slice PA pn pc, .slice HA hn hc, .slice LA ln lc] 34)).alloc (.cells #[.int .i64 0, .slice none 0 0, .int .i64 0, .int .i64 0, .int .i64 0, .slice none 0 0, .slice none 0 0, .slice none 0 0, .slice none 0 0] 34)) _ _ _ at hR
  have p0 := hP.cellAt 0 (by simp)
  have p1 := hP.cellAt 1 (by simp)
  have p2 := hP.cellAt 2 (by simp)
  have p3 := hP.cellAt 3 (by simp)
  have p4 := hP.cellAt 4 (by simp)
  have p5 := hP.cellAt 5 (by simp)
  have p6 := hP.cellAt 6 (by simp)
  have p7 := hP.cellAt 7 (by simp)
  have p8 := hP.cellAt 8 (by simp)
  simp only [List.set_cons_zero, List.set_cons_succ, List.getElem_cons_zero, List.getElem_cons_succ] at p0 p1 p2 p3 p4 p5 p6 p7 p8
  go_enter Tryz.func89, Tryz.ntmps89
  go_wp2_with fail
  generalize (w.alloc (.cells #[.int .i64 high, .slice YA yn yc, .int .i64 y0, .int .i64 y1, .int .i64 y2, .slice BA bn bc, .slice PA pn pc, .slice HA hn hc, .slice LA ln lc] 34)).alloc (.cells #[.int .i64 0, .slice none 0 0, .int .i64 0, .int .i64 0, .int .i64 0, .slice none 0 0, .slice none 0 0, .slice none 0 0, .slice none 0 0] 34) = w1 at *
  have T1 := T.below hal
  refine (specL32Copy high y0 y1 y2 YA BA PA HA LA yn yc bn bc pn pc hn hc ln lc rows bs plan hs ls w1 T1 hin hp0).mono ?_
  rintro e w2 ⟨_, rfl, YB, yd, BB, bd, PB, pd, HB, hd, LB, ld, rfl, o2, b2⟩
  clear p0 p1 p2 p3 p4 p5 p6 p7 p8
  have hal3 : Below w2.heap.size w2 (w2.alloc (.cells #[.int .i64 high, .slice YB yn yd, .int .i64 y0, .int .i64 y1, .int .i64 y2, .slice BB bn bd, .slice PB pn pd, .slice HB hn hd, .slice LB ln ld] 34)) := (Below.refl _ _).alloc (Nat.le_refl _) _
  have hO := Blk.new w2 34 [.int .i64 high, .slice YB yn yd, .int .i64 y0, .int .i64 y1, .int .i64 y2, .slice BB bn bd, .slice PB pn pd, .slice HB hn hd, .slice LB ln ld]
  change Blk (w2.alloc (.cells #[.int .i64 high, .slice YB yn yd, .int .i64 y0, .int .i64 y1, .int .i64 y2, .slice BB bn bd, .slice PB pn pd, .slice HB hn hd, .slice LB ln ld] 34)) _ _ _ at hO
  have b3 := below_trans b2 hal3
  have P3 := Lib.hid (hP.later b3)
  have R3 := Lib.hid (hR.later b3)
  have O3 := Lib.hid hO
  have A2 := Lib.hid o2
  have K3 := Lib.hid hal3
  have B3 := Lib.hid (below_trans hal b3)
  have s1 : w.heap.size + 2 ≤ w1.heap.size := by have := hR.lt; omega
  have s2 : w1.heap.size ≤ w2.heap.size := b2.size
  have TT := Lib.hid T
  clear hal hP hR T1 o2 b2 hal3 hO b3 T
  have p0 := P3.out.cellAt 0 (by simp)
  have p1 := P3.out.cellAt 1 (by simp)
  have p2 := P3.out.cellAt 2 (by simp)
  have p3 := P3.out.cellAt 3 (by simp)
  have p4 := P3.out.cellAt 4 (by simp)
  have p5 := P3.out.cellAt 5 (by simp)
  have p6 := P3.out.cellAt 6 (by simp)
  have p7 := P3.out.cellAt 7 (by simp)
  have p8 := P3.out.cellAt 8 (by simp)
  simp only [List.set_cons_zero, List.set_cons_succ, List.getElem_cons_zero, List.getElem_cons_succ] at p0 p1 p2 p3 p4 p5 p6 p7 p8
  go_wp2_with fail
  generalize w2.alloc (.cells #[.int .i64 high, .slice YB yn yd, .int .i64 y0, .int .i64 y1, .int .i64 y2, .slice BB bn bd, .slice PB pn pd, .slice HB hn hd, .slice LB ln ld] 34) = w3 at *
  have lw3 : w2.heap.size < w3.heap.size := O3.out.lt
  refine (takeY high frm YA yn yc rows w3 TT.out.yl (TT.out.yr.below B3.out) TT.out.ym HYO.out).mono ?_
  rintro e w4 ⟨_, rfl, XA, xc, rows', _, rfl, ⟨id, rfl, hid, hok1⟩, hn1, h61, ox, b4⟩
  have hal5 : Below w4.heap.size w4 (w4.alloc (.cells #[.int .i64 high, .slice XA yn xc] 25)) := (Below.refl _ _).alloc (Nat.le_refl _) _
  have Y5 := Blk.new w4 25 [.int .i64 high, .slice XA yn xc]
  change Blk (w4.alloc (.cells #[.int .i64 high, .slice XA yn xc] 25)) _ _ _ at Y5
  have b5 := below_trans b4 hal5
  have P5 := Lib.hid (P3.out.later b5)
  have R5 := Lib.hid (R3.out.later b5)
  have O5 := Lib.hid (O3.out.later b5)
  have K5 := Lib.hid (below_trans K3.out b5)
  have B5 := Lib.hid (below_trans B3.out b5)
  have HY5 := Lib.hid Y5
  have HX := Lib.hid ox
  have HA5 := Lib.hid hal5
  have lw4 : w3.heap.size ≤ w4.heap.size := b4.size
  have HID := Lib.hid hid
  have LY := Lib.hid (And.intro hn1 h61)
  clear b4 b5 hal5 Y5 ox hid hok1 hn1 h61
  clear p0 p1 p2 p3 p4 p5 p6 p7 p8
  have lw5 := HY5.out.lt
  go_wp2_with fail
  generalize w4.alloc (.cells #[.int .i64 high, .slice XA yn xc] 25) = w5 at *
  by_cases hi : id < 0
  · skip
    go_quiet (fail)
    have hbq : Below w5.heap.size w5 (w5.drewN nq) := below_drewN (Below.refl _ _) _
    have R6 := Lib.hid (R5.out.later hbq)
    have O6 := Lib.hid (O5.out.later hbq)
    have K6 := Lib.hid (below_trans K5.out hbq)
    have B6 := Lib.hid (below_trans B5.out hbq)
    clear hbq
    have o0 := O6.out.cellAt 0 (by simp)
    have o1 := O6.out.cellAt 1 (by simp)
    have o2 := O6.out.cellAt 2 (by simp)
    have o3 := O6.out.cellAt 3 (by simp)
    have o4 := O6.out.cellAt 4 (by simp)
    have o5 := O6.out.cellAt 5 (by simp)
    have o6 := O6.out.cellAt 6 (by simp)
    have o7 := O6.out.cellAt 7 (by simp)
    have o8 := O6.out.cellAt 8 (by simp)
    simp only [List.set_cons_zero, List.set_cons_succ, List.getElem_cons_zero, List.getElem_cons_succ] at o0 o1 o2 o3 o4 o5 o6 o7 o8
    go_wp2_with (first | (refine wpList_store_blk rfl 34 (.tmp 6) (.tmp 52) rfl (w.heap.size + 1) 34 [.int .i64 0, .slice none 0 0, .int .i64 0, .int .i64 0, .int .i64 0, .slice none 0 0, .slice none 0 0, .slice none 0 0, .slice none 0 0] [.int .i64 high, .slice YB yn yd, .int .i64 y0, .int .i64 y1, .int .i64 y2, .slice BB bn bd, .slice PB pn pd, .slice HB hn hd, .slice LB ln ld] ?_ ?_ ?_ ?_ ?_ ?_ ?_; rfl; rfl; exact R6.out; rfl; kernel_rfl; simp [Value.oneCell']; intro wz hz ho))
    have z0 := hz.cellAt 0 (by simp)
    have z1 := hz.cellAt 1 (by simp)
    have z2 := hz.cellAt 2 (by simp)
    have z3 := hz.cellAt 3 (by simp)
    have z4 := hz.cellAt 4 (by simp)
    have z5 := hz.cellAt 5 (by simp)
    have z6 := hz.cellAt 6 (by simp)
    have z7 := hz.cellAt 7 (by simp)
    have z8 := hz.cellAt 8 (by simp)
    simp only [List.set_cons_zero, List.set_cons_succ, List.getElem_cons_zero, List.getElem_cons_succ] at z0 z1 z2 z3 z4 z5 z6 z7 z8
    refine bodyPost_ret (v := .tuple #[.agg #[.int .i64 high, .slice YB yn yd, .int .i64 y0, .int .i64 y1, .int .i64 y2, .slice BB bn bd, .slice PB pn pd, .slice HB hn hd, .slice LB ln ld], .bool false]) (by simp [results, Tryz.results89, go_sem, z0, z1, z2, z3, z4, z5, z6, z7, z8]) rfl ?_
    exact RVal.mk ⟨high, y0, y1, y2, _, _, _, _, _, _, _, _, _, _, _, _, _, _, _, _, _, _, rfl, TOwn.base (TOwn.out (A2.out.later K6.out) ho (by omega)) (by omega), LOW.out, below_out B6.out ho (by omega)⟩
  · skip
    have p0 := P5.out.cellAt 0 (by simp)
    have p1 := P5.out.cellAt 1 (by simp)
    have p2 := P5.out.cellAt 2 (by simp)
    have p3 := P5.out.cellAt 3 (by simp)
    have p4 := P5.out.cellAt 4 (by simp)
    have p5 := P5.out.cellAt 5 (by simp)
    have p6 := P5.out.cellAt 6 (by simp)
    have p7 := P5.out.cellAt 7 (by simp)
    have p8 := P5.out.cellAt 8 (by simp)
    simp only [List.set_cons_zero, List.set_cons_succ, List.getElem_cons_zero, List.getElem_cons_succ] at p0 p1 p2 p3 p4 p5 p6 p7 p8
    have lp5 := P5.out.lt
    obtain ⟨i, hib, e1, e2⟩ := hasF_find (HFL.out id (HID.out (by omega)))
    have hcl := boxesOk_cls (planOk_parts HPO.out).2.1 hib
    obtain ⟨bb, bo, hBA, hlb, _, _, hbc, _⟩ := (TT.out.br.below B5.out).boxAt hib
    have hi2 : (i : Int) < (bn : Int) := by have := TT.out.bl; omega
    have hM := fun W (hW : Below w5.heap.size w5 W) => specMarksOf HA hn hc hs LA ln lc id W TT.out.hl ((TT.out.hr.below B5.out).below hW) TT.out.hm
    have hF := fun W (hW : Below w5.heap.size w5 W) => l2Find_any BA bn bc bs id W TT.out.bl ((TT.out.br.below B5.out).below hW) (by have := TT.out.bm; omega)
    have hS := fun W (hW : Below w5.heap.size w5 W) => specSafeSlots ⟨y0, y1, y2⟩ BA PA bn bc pn pc bs plan (bs[i]).f2 W TT.out.bl ((TT.out.br.below B5.out).below hW) TT.out.bk (by have := TT.out.bm; omega) TT.out.pl ((TT.out.pr.below B5.out).below hW) TT.out.pk TT.out.px hcl
    have HPU := Lib.hid (fun W (hW : Below w5.heap.size w5 W) => specPlanPut ⟨y0, y1, y2⟩ BA PA bn bc pn pc bs plan slot id W TT.out.bl ((TT.out.br.below B5.out).below hW) TT.out.bk (by have := TT.out.bm; omega) TT.out.pl ((TT.out.pr.below B5.out).below hW) TT.out.pk TT.out.px)
    rw [e1] at hF
    dsimp only [idxI] at hF
    dsimp only at hS
    replace HPU := Lib.hid HPU.out
    subst hBA
    generalize (bs[i]).f2 = cl at *
    have MKH : Hid (marksOf hs id = marksOf hs id) := Lib.hid rfl
    generalize hmkq : marksOf hs id = mk at *
    replace MKH := Lib.hid hmkq
    clear hmkq
    clear e2 hcl e1
    have k0 := keepLd (Below.refl w5.heap.size w5) lp5 hlb p1 p2 p3 p4 p5 p6 p7 p8 hbc
    by_cases hmk : mk = 0
    · skip
      subst hmk
      go_region_held3 (fun W => Below w5.heap.size w5 W ∧ W.cell? ⟨w.heap.size, 2, none⟩ = some (.int .i64 y0) ∧ W.cell? ⟨w.heap.size, 3, none⟩ = some (.int .i64 y1) ∧ W.cell? ⟨w.heap.size, 4, none⟩ = some (.int .i64 y2) ∧ W.cell? ⟨w.heap.size, 5, none⟩ = some (.slice (some ⟨bb, bo, none⟩) bn bc) ∧ W.cell? ⟨w.heap.size, 6, none⟩ = some (.slice PA pn pc) ∧ W.cell? ⟨w.heap.size, 7, none⟩ = some (.slice HA hn hc) ∧ W.cell? ⟨w.heap.size, 8, none⟩ = some (.slice LA ln lc) ∧ W.cell? ⟨bb, bo + i * 5 + 2, none⟩ = some (.int .i64 cl))
        (first | with_reducible assumption | with_reducible exact k0 | (with_reducible refine keepLd ?_ lp5 hlb p1 p2 p3 p4 p5 p6 p7 p8 hbc; focus ((repeat (first | with_reducible exact Below.refl _ _ | with_reducible assumption | with_reducible refine Below.drew ?_ | with_reducible refine below_new2 ?_ _)); done)))
        (first | (go_at_call 105; (with_reducible refine (hM _ (by repeat (first | with_reducible exact Below.refl _ _ | with_reducible assumption | with_reducible refine Below.drew ?_ | with_reducible refine below_new2 ?_ _))).mono ?_); rintro e wa ⟨rfl, ba⟩; have ka : Below w5.heap.size w5 wa := below_trans (by repeat (first | with_reducible exact Below.refl _ _ | with_reducible assumption | with_reducible refine Below.drew ?_ | with_reducible refine below_new2 ?_ _)) ba) | (go_at_call 31; (with_reducible refine (hF _ (by repeat (first | with_reducible exact Below.refl _ _ | with_reducible assumption | with_reducible refine Below.drew ?_ | with_reducible refine below_new2 ?_ _))).mono ?_); rintro e wb ⟨rfl, rfl⟩) | (go_at_call 32; (with_reducible refine (l1Has_any SB sm sd zs slot _ hzl rs (by omega)).mono ?_); rintro e wd ⟨rfl, rfl⟩) | (go_at_call 106; (with_reducible refine (hS _ (by repeat (first | with_reducible exact Below.refl _ _ | with_reducible assumption | with_reducible refine Below.drew ?_ | with_reducible refine below_new2 ?_ _))).mono ?_); rintro e wc ⟨_, rfl, SB, sm, sd, zs, rfl, hs36, hzl, os, bc6⟩; have kc : Below w5.heap.size w5 wc := below_trans (by repeat (first | with_reducible exact Below.refl _ _ | with_reducible assumption | with_reducible refine Below.drew ?_ | with_reducible refine below_new2 ?_ _)) bc6; have rs := own_rd os))
      have hb6 := kc
      clear k0 hM hF hS ka kc bc6 os rs hzl
      generalize hasI zs slot = bz at *
      have R6 := Lib.hid (R5.out.later hb6)
      have O6 := Lib.hid (O5.out.later hb6)
      have K6 := Lib.hid (below_trans K5.out hb6)
      have B6 := Lib.hid (below_trans B5.out hb6)
      have P6 := Lib.hid (P5.out.later hb6)
      have HY6 := Lib.hid (HY5.out.later hb6)
      have HB6 := Lib.hid hb6
      clear hb6
      clear p0 p1 p2 p3 p4 p5 p6 p7 p8
      have sc := HB6.out.size
      cases bz
      · skip
        have o0 := O6.out.cellAt 0 (by simp)
        have o1 := O6.out.cellAt 1 (by simp)
        have o2 := O6.out.cellAt 2 (by simp)
        have o3 := O6.out.cellAt 3 (by simp)
        have o4 := O6.out.cellAt 4 (by simp)
        have o5 := O6.out.cellAt 5 (by simp)
        have o6 := O6.out.cellAt 6 (by simp)
        have o7 := O6.out.cellAt 7 (by simp)
        have o8 := O6.out.cellAt 8 (by simp)
        simp only [List.set_cons_zero, List.set_cons_succ, List.getElem_cons_zero, List.getElem_cons_succ] at o0 o1 o2 o3 o4 o5 o6 o7 o8
        go_wp2_with (first | (refine wpList_store_blk rfl 34 (.tmp 6) (.tmp 52) rfl (w.heap.size + 1) 34 [.int .i64 0, .slice none 0 0, .int .i64 0, .int .i64 0, .int .i64 0, .slice none 0 0, .slice none 0 0, .slice none 0 0, .slice none 0 0] [.int .i64 high, .slice YB yn yd, .int .i64 y0, .int .i64 y1, .int .i64 y2, .slice BB bn bd, .slice PB pn pd, .slice HB hn hd, .slice LB ln ld] ?_ ?_ ?_ ?_ ?_ ?_ ?_; rfl; rfl; exact R6.out; rfl; kernel_rfl; simp [Value.oneCell']; intro wz hz ho))
        have z0 := hz.cellAt 0 (by simp)
        have z1 := hz.cellAt 1 (by simp)
        have z2 := hz.cellAt 2 (by simp)
        have z3 := hz.cellAt 3 (by simp)
        have z4 := hz.cellAt 4 (by simp)
        have z5 := hz.cellAt 5 (by simp)
        have z6 := hz.cellAt 6 (by simp)
        have z7 := hz.cellAt 7 (by simp)
        have z8 := hz.cellAt 8 (by simp)
        simp only [List.set_cons_zero, List.set_cons_succ, List.getElem_cons_zero, List.getElem_cons_succ] at z0 z1 z2 z3 z4 z5 z6 z7 z8
        refine bodyPost_ret (v := .tuple #[.agg #[.int .i64 high, .slice YB yn yd, .int .i64 y0, .int .i64 y1, .int .i64 y2, .slice BB bn bd, .slice PB pn pd, .slice HB hn hd, .slice LB ln ld], .bool false]) (by simp [results, Tryz.results89, go_sem, z0, z1, z2, z3, z4, z5, z6, z7, z8]) rfl ?_
        exact RVal.mk ⟨high, y0, y1, y2, _, _, _, _, _, _, _, _, _, _, _, _, _, _, _, _, _, _, rfl, TOwn.base (TOwn.out (A2.out.later K6.out) ho (by omega)) (by omega), LOW.out, below_out B6.out ho (by omega)⟩
      · skip
        have hpu := HPU.out
        try dsimp only at hpu
        have p0 := P6.out.cellAt 0 (by simp)
        have p1 := P6.out.cellAt 1 (by simp)
        have p2 := P6.out.cellAt 2 (by simp)
        have p3 := P6.out.cellAt 3 (by simp)
        have p4 := P6.out.cellAt 4 (by simp)
        have p5 := P6.out.cellAt 5 (by simp)
        have p6 := P6.out.cellAt 6 (by simp)
        have p7 := P6.out.cellAt 7 (by simp)
        have p8 := P6.out.cellAt 8 (by simp)
        simp only [List.set_cons_zero, List.set_cons_succ, List.getElem_cons_zero, List.getElem_cons_succ] at p0 p1 p2 p3 p4 p5 p6 p7 p8
        go_wp2_with fail
        refine (hpu _ HB6.out).mono ?_
        rintro e w7 ⟨_, rfl, QB, qn, qd, plan', _, rfl, ⟨b, rfl⟩, hq36, hql, oq, b7⟩
        have P7 := Lib.hid (P6.out.later b7)
        have R7 := Lib.hid (R6.out.later b7)
        have O7 := Lib.hid (O6.out.later b7)
        have K7 := Lib.hid (below_trans K6.out b7)
        have B7 := Lib.hid (below_trans B6.out b7)
        have Y7 := HY6.out.later b7
        have bx := below_trans (below_trans HA5.out HB6.out) b7
        clear p0 p1 p2 p3 p4 p5 p6 p7 p8
        clear hpu
        have q0 := Y7.cellAt 0 (by simp)
        have q1 := Y7.cellAt 1 (by simp)
        simp only [List.set_cons_zero, List.set_cons_succ, List.getElem_cons_zero, List.getElem_cons_succ] at q0 q1
        have of0 := (O7.out).frozen 0
        have oc0 := (O7.out).cellAt 0 (by simp)
        simp only [List.set_cons_zero, List.set_cons_succ, List.getElem_cons_zero, List.getElem_cons_succ] at oc0
        have of1 := ((O7.out).set_ 0 (.int .i64 high)).frozen 1
        have oc1 := ((O7.out).set_ 0 (.int .i64 high)).cellAt 1 (by simp)
        simp only [List.set_cons_zero, List.set_cons_succ, List.getElem_cons_zero, List.getElem_cons_succ] at oc1
        have of6 := (((O7.out).set_ 0 (.int .i64 high)).set_ 1 (.slice XA yn xc)).frozen 6
        have oc6 := (((O7.out).set_ 0 (.int .i64 high)).set_ 1 (.slice XA yn xc)).cellAt 6 (by simp)
        simp only [List.set_cons_zero, List.set_cons_succ, List.getElem_cons_zero, List.getElem_cons_succ] at oc6
        have hO8 := (((O7.out).set_ 0 (.int .i64 high)).set_ 1 (.slice XA yn xc)).set_ 6 (.slice QB qn qd)
        have o0 := hO8.cellAt 0 (by simp)
        have o1 := hO8.cellAt 1 (by simp)
        have o2 := hO8.cellAt 2 (by simp)
        have o3 := hO8.cellAt 3 (by simp)
        have o4 := hO8.cellAt 4 (by simp)
        have o5 := hO8.cellAt 5 (by simp)
        have o6 := hO8.cellAt 6 (by simp)
        have o7 := hO8.cellAt 7 (by simp)
        have o8 := hO8.cellAt 8 (by simp)
        simp only [List.set_cons_zero, List.set_cons_succ, List.getElem_cons_zero, List.getElem_cons_succ] at o0 o1 o2 o3 o4 o5 o6 o7 o8
        have ho8 := (out_set (out_set (out_set (Out.refl w2.heap.size (w2.heap.size + 1) w7) w2.heap.size 0 (.int .i64 high) (Nat.le_refl _) (Nat.lt_succ_self _)) w2.heap.size 1 (.slice XA yn xc) (Nat.le_refl _) (Nat.lt_succ_self _)) w2.heap.size 6 (.slice QB qn qd) (Nat.le_refl _) (Nat.lt_succ_self _))
        have A8 := Lib.hid (A2.out.swapYP (by omega) (((K7.out.setCell (p := ⟨w2.heap.size, 0, none⟩) (Nat.le_refl _) (.int .i64 high)).setCell (p := ⟨w2.heap.size, 1, none⟩) (Nat.le_refl _) (.slice XA yn xc)).setCell (p := ⟨w2.heap.size, 6, none⟩) (Nat.le_refl _) (.slice QB qn qd)) ((HX.out.later bx).out ho8 (.inr (by omega))) (by omega) ((OwnI.of oq).out ho8 (.inr (by omega))) (by omega) (by omega))
        have B8 := Lib.hid (((B7.out.setCell (p := ⟨w2.heap.size, 0, none⟩) (by show w.heap.size ≤ w2.heap.size; omega) (.int .i64 high)).setCell (p := ⟨w2.heap.size, 1, none⟩) (by show w.heap.size ≤ w2.heap.size; omega) (.slice XA yn xc)).setCell (p := ⟨w2.heap.size, 6, none⟩) (by show w.heap.size ≤ w2.heap.size; omega) (.slice QB qn qd))
        have R8 := Lib.hid (((R7.out.far (p := ⟨w2.heap.size, 0, none⟩) (by show w.heap.size + 1 ≠ w2.heap.size; omega) (.int .i64 high)).far (p := ⟨w2.heap.size, 1, none⟩) (by show w.heap.size + 1 ≠ w2.heap.size; omega) (.slice XA yn xc)).far (p := ⟨w2.heap.size, 6, none⟩) (by show w.heap.size + 1 ≠ w2.heap.size; omega) (.slice QB qn qd))
        have LOWD := Lib.hid (show TLow yn bn qn hn ln rows' bs plan' hs ls from ⟨LY.out.1, LY.out.2, LOW.out.ym, LOW.out.bl, LOW.out.bm, hql, by omega, LOW.out.hl, LOW.out.hm, LOW.out.ll, LOW.out.lm⟩)
        clear ho8 hO8 R7 B7 K7
        go_wp2_with (first | (refine wpList_store_blk rfl 34 (.tmp 6) (.tmp 69) rfl (w.heap.size + 1) 34 [.int .i64 0, .slice none 0 0, .int .i64 0, .int .i64 0, .int .i64 0, .slice none 0 0, .slice none 0 0, .slice none 0 0, .slice none 0 0] [.int .i64 high, .slice XA yn xc, .int .i64 y0, .int .i64 y1, .int .i64 y2, .slice BB bn bd, .slice QB qn qd, .slice HB hn hd, .slice LB ln ld] ?_ ?_ ?_ ?_ ?_ ?_ ?_; rfl; rfl; exact R8.out; rfl; kernel_rfl; simp [Value.oneCell']; intro wz hz ho))
        have z0 := hz.cellAt 0 (by simp)
        have z1 := hz.cellAt 1 (by simp)
        have z2 := hz.cellAt 2 (by simp)
        have z3 := hz.cellAt 3 (by simp)
        have z4 := hz.cellAt 4 (by simp)
        have z5 := hz.cellAt 5 (by simp)
        have z6 := hz.cellAt 6 (by simp)
        have z7 := hz.cellAt 7 (by simp)
        have z8 := hz.cellAt 8 (by simp)
        simp only [List.set_cons_zero, List.set_cons_succ, List.getElem_cons_zero, List.getElem_cons_succ] at z0 z1 z2 z3 z4 z5 z6 z7 z8
        refine bodyPost_ret (v := .tuple #[.agg #[.int .i64 high, .slice XA yn xc, .int .i64 y0, .int .i64 y1, .int .i64 y2, .slice BB bn bd, .slice QB qn qd, .slice HB hn hd, .slice LB ln ld], .bool b]) (by simp [results, Tryz.results89, go_sem, z0, z1, z2, z3, z4, z5, z6, z7, z8]) rfl ?_
        exact RVal.mk ⟨high, y0, y1, y2, _, _, _, _, _, _, _, _, _, _, _, _, _, _, _, _, _, _, rfl, TOwn.base (TOwn.out A8.out ho (by omega)) (by omega), LOWD.out, below_out B8.out ho (by omega)⟩
    · skip
      have hmb : (mk != 0) = true := by simp [hmk]
      have hMG := fun W (hW : Below w5.heap.size w5 W) => specMarksOf_g HA hn hc hs LA ln lc id W TT.out.hl ((TT.out.hr.below B5.out).below hW) TT.out.hm
      rw [MKH.out] at hMG
      have gx7 := fun n os => cell_grown (a := ⟨w.heap.size, 7, none⟩) lp5 p7 n os
      have gx8 := fun n os => cell_grown (a := ⟨w.heap.size, 8, none⟩) lp5 p8 n os
      clear hM hF hS k0
      have hmo : Tryz.prog.follows .mixedOrders = true := by kernel_rfl
      go_upto_region 3 with fail
      refine wp_region_quiet_grown (by assumption) (by kernel_rfl) ?_
      repeat (go_big_quiet_step ((first | (go_at_call 105; exact Calls.grown_of (hMG _ (below_grow w5 _ _))))))
      refine wpQuiet_nil ?_
      intro _ hw'
      obtain ⟨⟨nq, osq⟩, hw''⟩ := hw'
      subst hw''
      have hbq := below_grow w5 nq osq
      generalize Go.Sort.grow (w5.drewN nq) osq = w6 at *
      clear gx7 gx8 hMG
      have R6 := Lib.hid (R5.out.later hbq)
      have O6 := Lib.hid (O5.out.later hbq)
      have K6 := Lib.hid (below_trans K5.out hbq)
      have B6 := Lib.hid (below_trans B5.out hbq)
      have P6 := Lib.hid (P5.out.later hbq)
      have HY6 := Lib.hid (HY5.out.later hbq)
      have HB6 := Lib.hid hbq
      clear hbq
      clear p0 p1 p2 p3 p4 p5 p6 p7 p8
      have o0 := O6.out.cellAt 0 (by simp)
      have o1 := O6.out.cellAt 1 (by simp)
      have o2 := O6.out.cellAt 2 (by simp)
      have o3 := O6.out.cellAt 3 (by simp)
      have o4 := O6.out.cellAt 4 (by simp)
      have o5 := O6.out.cellAt 5 (by simp)
      have o6 := O6.out.cellAt 6 (by simp)
      have o7 := O6.out.cellAt 7 (by simp)
      have o8 := O6.out.cellAt 8 (by simp)
      simp only [List.set_cons_zero, List.set_cons_succ, List.getElem_cons_zero, List.getElem_cons_succ] at o0 o1 o2 o3 o4 o5 o6 o7 o8
      go_wp2_with (first | (refine wpList_store_blk rfl 34 (.tmp 6) (.tmp 52) rfl (w.heap.size + 1) 34 [.int .i64 0, .slice none 0 0, .int .i64 0, .int .i64 0, .int .i64 0, .slice none 0 0, .slice none 0 0, .slice none 0 0, .slice none 0 0] [.int .i64 high, .slice YB yn yd, .int .i64 y0, .int .i64 y1, .int .i64 y2, .slice BB bn bd, .slice PB pn pd, .slice HB hn hd, .slice LB ln ld] ?_ ?_ ?_ ?_ ?_ ?_ ?_; rfl; rfl; exact R6.out; rfl; kernel_rfl; simp [Value.oneCell']; intro wz hz ho))
      have z0 := hz.cellAt 0 (by simp)
      have z1 := hz.cellAt 1 (by simp)
      have z2 := hz.cellAt 2 (by simp)
      have z3 := hz.cellAt 3 (by simp)
      have z4 := hz.cellAt 4 (by simp)
      have z5 := hz.cellAt 5 (by simp)
      have z6 := hz.cellAt 6 (by simp)
      have z7 := hz.cellAt 7 (by simp)
      have z8 := hz.cellAt 8 (by simp)
      simp only [List.set_cons_zero, List.set_cons_succ, List.getElem_cons_zero, List.getElem_cons_succ] at z0 z1 z2 z3 z4 z5 z6 z7 z8
      refine bodyPost_ret (v := .tuple #[.agg #[.int .i64 high, .slice YB yn yd, .int .i64 y0, .int .i64 y1, .int .i64 y2, .slice BB bn bd, .slice PB pn pd, .slice HB hn hd, .slice LB ln ld], .bool false]) (by simp [results, Tryz.results89, go_sem, z0, z1, z2, z3, z4, z5, z6, z7, z8]) rfl ?_
      exact RVal.mk ⟨high, y0, y1, y2, _, _, _, _, _, _, _, _, _, _, _, _, _, _, _, _, _, _, rfl, TOwn.base (TOwn.out (A2.out.later K6.out) ho (by omega)) (by omega), LOW.out, below_out B6.out ho (by omega)⟩
end Go.Proofs.YtbkfhcbecejomaaGreat
end
section
/- Does a plan hold a box that has left: the closure in TermValid, and the search with it. -/
namespace Go.Proofs.YtbkfhcbecejomaaGreat
open Go Go.ChangeShapes Go.WideShapes Go.ChangeAt Go.RowKit
set_option linter.unusedVariables false
theorem trm1_any (tb : Nat) (LA : Option Addr) (m lc : Nat) (ls : List Int) (x : Int) (w : World) (hn : ls.length = m) (hr : RdV w LA (ints ls)) (hx : w.cell? ⟨tb, 8, none⟩ = some (.slice LA m lc)) (hm : m ≤ 9223372036854775807) :
    Calls Tryz.prog 25 #[.int .i64 x, .pointer (some ⟨tb, 0, none⟩)] w fun e w' => e = .returned (.bool (hasI ls x)) ∧ w = w' := by
  have HN := Lib.hid hn
  clear hn
  go_enter Tryz.func25, Tryz.ntmps25
  go_wp2_with fail
  refine (contains_int LA m lc ls x _ HN.out hr hm).mono ?_
  rintro e w' ⟨rfl, rfl⟩
  go_wp2_with fail
  go_ret
  exact ⟨rfl, rfl⟩
theorem any_take_no {zs : List Int} {f : Int → Bool} {k : Nat} (h : k < zs.length) (h0 : (zs.take k).any f = false) (hx : f zs[k] = false) : (zs.take (k + 1)).any f = false := by
  rw [List.take_succ_eq_append_getElem h, List.any_append, h0]
  simp [hx]
theorem any_hit {zs : List Int} {f : Int → Bool} {k : Nat} (h : k < zs.length) (hx : f zs[k] = true) : zs.any f = true := by
  rw [List.any_eq_true]
  exact ⟨zs[k], List.getElem_mem h, hx⟩
set_option maxHeartbeats 1000000 in
theorem index_left (tb : Nat) (A LA : Option Addr) (n c m lc : Nat) (zs ls : List Int) (w : World) (hn : zs.length = n) (hr : RdV w A (ints zs)) (hln : ls.length = m) (hlr : RdV w LA (ints ls)) (hx : w.cell? ⟨tb, 8, none⟩ = some (.slice LA m lc)) (hm : n ≤ 9223372036854775807) (hm2 : m ≤ 9223372036854775807) :
    Calls Tryz.prog 61 #[.slice A n c, .func (.func 25) #[] #[.pointer (some ⟨tb, 0, none⟩)]] w fun e w' => (∃ i : Int, e = .returned (.int .i64 i) ∧ decide (0 ≤ i) = zs.any (hasI ls)) ∧ w = w' := by
  have HN := Lib.hid hn
  clear hn
  go_enter Tryz.func61, Tryz.ntmps61
  go_wp2_with fail
  go_loop [8, 5] (fun i _ => ∃ k : Nat, k ≤ n ∧ i = .int .i64 k ∧ Hid ((zs.take k).any (hasI ls) = false)) (fun i _ => n - (intOf i).toNat)
  case atStart => exact ⟨0, Nat.zero_le _, rfl, Lib.hid (by simp)⟩
  case round =>
    obtain ⟨k, hk, rfl, HJ⟩ := hrel
    by_cases hlt : k < n
    · have hkz : k < zs.length := by rw [HN.out]; exact hlt
      have hkl : k < (ints zs).length := by rw [ints_len]; exact hkz
      obtain ⟨b1, o, rfl, hl, hc⟩ := hr.pos hkl
      have hcell := hc k hkl
      rw [ints_at] at hcell
      have HS := Lib.hid (fun h => any_take_no (f := hasI ls) hkz HJ.out h)
      have HT0 := Lib.hid (fun h => any_hit (f := hasI ls) hkz h)
      generalize zs[k] = y at *
      have hki : (k : Int) < (n : Int) := by omega
      clear hc
      go_wp2_with fail
      refine (trm1_any tb LA m lc ls y _ hln hlr hx hm2).mono ?_
      rintro e w' ⟨rfl, rfl⟩
      cases hxy : hasI ls y with
      | true =>
        have HT := Lib.hid (HT0.out hxy)
        clear hxy
        go_wp2_with fail
        go_ret
        exact ⟨⟨(k : Int), rfl, by rw [HT.out]; exact decide_eq_true (by omega)⟩, rfl⟩
      | false =>
        have HT := Lib.hid (HS.out hxy)
        clear hxy
        go_wp2_with fail
        go_round
        case rel => exact ⟨k + 1, by omega, by go_num, HT⟩
        case measure => simp [intOf]; omega
    · have HE : Hid (zs.any (hasI ls) = false) := Lib.hid (by have := HJ.out; rwa [List.take_of_length_le (by rw [HN.out]; omega)] at this)
      go_wp2_with fail
      go_ret
      exact ⟨⟨-1, rfl, by rw [HE.out]; rfl⟩, rfl⟩
set_option maxHeartbeats 1000000 in
theorem contains_left (tb : Nat) (A LA : Option Addr) (n c m lc : Nat) (zs ls : List Int) (w : World) (hn : zs.length = n) (hr : RdV w A (ints zs)) (hln : ls.length = m) (hlr : RdV w LA (ints ls)) (hx : w.cell? ⟨tb, 8, none⟩ = some (.slice LA m lc)) (hm : n ≤ 9223372036854775807) (hm2 : m ≤ 9223372036854775807) :
    Calls Tryz.prog 24 #[.slice A n c, .func (.func 25) #[] #[.pointer (some ⟨tb, 0, none⟩)]] w fun e w' => e = .returned (.bool (zs.any (hasI ls))) ∧ w = w' := by
  have hi := index_left tb A LA n c m lc zs ls w hn hr hln hlr hx hm hm2
  go_enter Tryz.func24, Tryz.ntmps24
  go_wp2_with fail
  refine hi.mono ?_
  rintro e w' ⟨⟨i, rfl, he⟩, rfl⟩
  have HE := Lib.hid he
  clear he hi
  go_wp2_with fail
  go_ret
  exact ⟨by rw [← HE.out]; rfl, rfl⟩
end Go.Proofs.YtbkfhcbecejomaaGreat
end
section
/- The slots of a plan that are full, the program. -/
namespace Go.Proofs.YtbkfhcbecejomaaGreat
open Go Go.ChangeShapes Go.WideShapes Go.ChangeAt Go.RowKit
set_option linter.unusedVariables false
theorem int_infoF : Info Tryz.prog 3 (.int .i64 0) 1 8 := Info.mk' (by kernel_rfl) rfl (by decide) (by decide)
theorem fullTo_zero {plan : List Int} {k : Nat} (hk : k < plan.length) (h : plan[k] = 0) : fullTo plan (k + 1) = fullTo plan k := by
  rw [fullTo, if_pos (by simp [List.getD, hk, h])]
theorem fullTo_full {plan : List Int} {k : Nat} (hk : k < plan.length) (h : plan[k] ≠ 0) : fullTo plan (k + 1) = fullTo plan k ++ [(k : Int)] := by
  rw [fullTo, if_neg (by simpa [List.getD, hk] using h)]
def FullOut (w : World) (plan : List Int) : Ending → World → Prop :=
  RVal fun u w' => ∃ B d, u = .slice B (fullTo plan plan.length).length d ∧ w'.ownsRow w.heap.size 3 1 (.slice B (fullTo plan plan.length).length d) (fullTo plan plan.length).length (ints (fullTo plan plan.length)) ∧ Below w.heap.size w w'
set_option maxHeartbeats 2000000 in
theorem implFullSlots (A : Option Addr) (n c : Nat) (plan : List Int) (w : World) (hn : plan.length = n) (hr : RdV w A (ints plan)) (hm : n ≤ 1000) :
    Calls Tryz.prog 37 #[.slice A n c] w (FullOut w plan) := by
  have HN := Lib.hid hn
  clear hn
  go_enter Tryz.func37, Tryz.ntmps37
  go_wp2_with fail
  go_loopw [3, 8, 4, 5] (fun o i _ _ wr => ∃ (k : Nat) (xs : List Int), k ≤ n ∧ i = .int .i64 k ∧ Hid (xs = fullTo plan k) ∧ xs.length ≤ k ∧ wr.ownsRow w.heap.size 3 1 o xs.length (ints xs) ∧ Below w.heap.size w wr) (fun _ i _ _ _ => n - (intOf i).toNat)
  case atStart => exact ⟨0, [], Nat.zero_le _, rfl, Lib.hid rfl, Nat.le_refl _, World.ownsRow_nil _ _ _ _, Below.refl _ _⟩
  case round =>
    obtain ⟨k, xs, hk, rfl, HX, hxl, hown, hb⟩ := hrel
    by_cases hlt : k < n
    · have hkz : k < plan.length := by rw [HN.out]; exact hlt
      obtain ⟨b, o, rfl, hl, hc1⟩ := (hr.below hb).pos (k := k) (by rw [ints_len]; exact hkz)
      have hcell : wr.cell? ⟨b, o + k, none⟩ = some (.int .i64 plan[k]) := by rw [hc1 k (by rw [ints_len]; exact hkz), ints_at]
      have hki : (k : Int) < (n : Int) := by omega
      have hsz := hb.size
      by_cases h0 : plan[k] = 0
      · have HX2 : Hid (xs = fullTo plan (k + 1)) := Lib.hid (by rw [fullTo_zero hkz h0]; exact HX.out)
        rw [h0] at hcell
        clear hc1 h0 HX
        have hown2 := hown
        have hb2 := hb
        go_wp2_with fail
        go_roundw
        case rel => exact ⟨k + 1, xs, by omega, by go_num, HX2, by omega, hown2, hb2⟩
        case measure => simp [intOf]; omega
      · have HX2 : Hid (xs ++ [(k : Int)] = fullTo plan (k + 1)) := Lib.hid (by rw [fullTo_full hkz h0, HX.out])
        generalize plan[k] = y at *
        have g1 : (y != 0) = true := by simp [h0]
        have g2 : (y == 0) = false := by simp [h0]
        clear hc1 HX
        have hownlt : ∀ g, u3.ownBlock = some g → g < wr.heap.size := fun g e => (hown.lt g e).2
        go_wp2_with (at_builtin; refine append_new rfl _ _ 29 rfl 3 _ _ _ Tryz.underlying29 int_infoF _ wr _ _ _ rfl hown [.int .i64 (k : Int)] rfl rfl (by simp [Value.oneCell']) (by omega) hsz ?_; intro v' w6 hown6 hg6 hblk6)
        go_roundw
        case rel =>
          refine ⟨k + 1, xs ++ [(k : Int)], by omega, by go_num, HX2, by simp; omega, ?_, below_append hb hg6 hown rfl⟩
          rw [show ints (xs ++ [(k : Int)]) = ints xs ++ [.int .i64 (k : Int)] from by simp [ints], List.length_append]; exact hown6
        case measure => simp [intOf]; omega
    · obtain rfl : k = n := by omega
      have HE : Hid (xs = fullTo plan plan.length) := Lib.hid (by rw [HX.out, HN.out])
      go_wp2_with fail
      go_ret
      obtain ⟨B, d, rfl, _, _⟩ := own_slice hown
      rw [HE.out] at hown
      exact RVal.mk ⟨B, d, by rw [HE.out]; rfl, hown, hb⟩
end Go.Proofs.YtbkfhcbecejomaaGreat
end
