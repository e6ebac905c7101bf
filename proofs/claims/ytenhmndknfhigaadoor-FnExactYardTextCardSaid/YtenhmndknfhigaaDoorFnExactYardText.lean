/- FnExactYardText returns true, for all arguments; no condition. -/
import Derived.Test.YtenhmndknfhigaaDoorYtI
import Derived.Test.YtenhmndknfhigaaDoorYdX
import Derived.Test.YtenhmndknfhigaaDoorYtK
namespace Go.Proofs.YtenhmndknfhigaaDoor
open Go Go.ChangeShapes Go.WideShapes Go.ChangeAt Go.RowKit
set_option linter.unusedVariables false
set_option maxRecDepth 100000 in
set_option maxHeartbeats 4000000 in
theorem walkFnExactYardText (w : World) (v : Value) (d : YardD) (h : IsYard w v d) (ht : TabW w) :
    Calls Tryd.prog 3 #[v] w fun e w' => e = .returned (.bool true) ∧ Below w.heap.size w w' := by
  obtain ⟨high, A, n, c, rows⟩ := d
  obtain ⟨rfl, hin⟩ := h
  dsimp only at hin
  have hbl : Below w.heap.size w (w.alloc (.cells #[.int .i64 high, .slice A n c] 24)) := (Below.refl _ _).alloc (Nat.le_refl _) _
  have hin0 := hin.below hbl
  have hp0 : Blk (w.alloc (.cells #[.int .i64 high, .slice A n c] 24)) w.heap.size 24 [.int .i64 high, .slice A n c] := Blk.new _ _ _
  have HLEN := Lib.hid hin.len
  have HBL := Lib.hid hbl
  have HTB := Lib.hid (ht.later hbl)
  clear ht
  have hlt0 := hp0.lt
  clear hin hbl
  go_enter Tryd.func3, Tryd.ntmps3
  go_wp2_with fail
  generalize w.alloc (.cells #[.int .i64 high, .slice A n c] 24) = w0 at *
  refine (szYard_any high A n c rows _ hin0).mono ?_
  rintro e w1 ⟨r0, rfl, hr, hb1⟩
  have HR := Lib.hid hr
  have HP0 := Lib.hid hp0
  have HIN0 := Lib.hid hin0
  have B1 := Lib.hid hb1
  clear hr hin0 hp0 hb1
  by_cases h0 : 0 ≤ r0
  · have HS := Lib.hid (HR.out h0)
    have hsm := HR.out h0
    unfold YardSmall at hsm
    have HMEM2 : Hid (∀ s ∈ rows, s.length ≤ 1099511627776) := Lib.hid (fun s hs => by have := tot_mem s hs; omega)
    have cS := fun (w : World) (A : Option Addr) (c : Nat) (h : RdRR w A (intss rows)) => specYardText high A n c rows w HLEN.out h (by omega)
    have cI := fun (w : World) (A : Option Addr) (c : Nat) (h : RdRR w A (intss rows)) (ht : TabW w) => implYardText high A n c rows w HLEN.out h (by omega) ht
    generalize yardT high rows = l at *
    generalize txt l = r at *

    have p1 := HP0.out.later B1.out
    have in1 := HIN0.out.below B1.out
    have s0 := p1.cellAt 0 (by simp)
    have s1 := p1.cellAt 1 (by simp)
    simp only [List.getElem_cons_zero, List.getElem_cons_succ] at s0 s1
    go_wp2_with fail
    refine (toYard_any high A n c rows _ in1 HS.out).mono ?_
    rintro e w2 ⟨_, rfl, SA, sc, rfl, S2, b2⟩
    have B2 := Lib.hid (below_trans B1.out b2)
    clear in1 p1 s0 s1 b2
    go_wp2_with fail
    refine (cS _ SA sc S2.rd).mono ?_
    rintro e w3 ⟨rfl, b3⟩
    clear S2
    have B3 := Lib.hid (below_trans B2.out b3)
    clear b3
    have p4 := HP0.out.later B3.out
    have in4 := HIN0.out.below B3.out
    have s0 := p4.cellAt 0 (by simp)
    have s1 := p4.cellAt 1 (by simp)
    simp only [List.getElem_cons_zero, List.getElem_cons_succ] at s0 s1
    go_wp2_with fail
    refine (toYard_any high A n c rows _ in4 HS.out).mono ?_
    rintro e w5 ⟨_, rfl, XA, xc, rfl, X5, b5⟩
    have hal6 : Below w5.heap.size w5 (w5.alloc (.cells #[.int .i64 high, .slice XA n xc] 27)) := (Below.refl _ _).alloc (Nat.le_refl _) _
    have hN6 : Blk (w5.alloc (.cells #[.int .i64 high, .slice XA n xc] 27)) w5.heap.size 27 [.int .i64 high, .slice XA n xc] := Blk.new _ _ _
    have b6 := below_trans b5 hal6
    have B6 := Lib.hid (below_trans B3.out b6)
    have X6 := Lib.hid (X5.later hal6)
    have Y6 := Lib.hid hN6
    clear in4 p4 s0 s1 b5 X5 hal6 b6
    have y0 := hN6.cellAt 0 (by simp)
    have y1 := hN6.cellAt 1 (by simp)
    simp only [List.getElem_cons_zero, List.getElem_cons_succ] at y0 y1
    clear hN6
    go_wp2_with fail
    generalize w5.alloc (.cells #[.int .i64 high, .slice XA n xc] 27) = w6 at *
    refine (cI _ XA xc X6.out.rd (HTB.out.later B6.out)).mono ?_
    rintro e w9 ⟨rfl, b9⟩
    have B9 := Lib.hid (below_trans B6.out b9)
    have X9 := Lib.hid (X6.out.later b9)
    have Y9 := Lib.hid (Y6.out.later b9)
    clear b9 X6 Y6 y0 y1
    have p9 := HP0.out.later B9.out
    have in9 := HIN0.out.below B9.out
    have s0 := p9.cellAt 0 (by simp)
    have s1 := p9.cellAt 1 (by simp)
    simp only [List.getElem_cons_zero, List.getElem_cons_succ] at s0 s1
    have y0 := Y9.out.cellAt 0 (by simp)
    have y1 := Y9.out.cellAt 1 (by simp)
    simp only [List.getElem_cons_zero, List.getElem_cons_succ] at y0 y1
    have lpy := Y9.out.lt
    have lps := p9.lt
    have IN9 := Lib.hid in9
    clear in9 p9
    go_wp2_with fail
    go_region_held3 (fun W => Below w9.heap.size w9 W ∧ W.cell? ⟨w5.heap.size, 0, none⟩ = some (.int .i64 high) ∧ W.cell? ⟨w5.heap.size, 1, none⟩ = some (.slice XA n xc) ∧ W.cell? ⟨w.heap.size, 0, none⟩ = some (.int .i64 high) ∧ W.cell? ⟨w.heap.size, 1, none⟩ = some (.slice A n c))
      (first | exact keepYK (Below.refl _ _) lpy lps y0 y1 s0 s1 | exact keepYK (Below.drew (Below.refl _ _)) lpy lps y0 y1 s0 s1 | assumption)
      (first
        | (go_at_call 6; (with_reducible refine (toYard_any high A n c rows _ (IN9.out.below (Below.drew (Below.refl _ _))) HS.out).mono ?_); rintro e wa ⟨_, rfl, TA, tc, rfl, Ta, ba0⟩; have ba := below_trans (Below.drew (Below.refl _ _)) ba0; have kx := keepYK ba lpy lps y0 y1 s0 s1)
        | (go_at_call 8; (with_reducible refine (eqYard_any high XA TA n xc tc rows _ HLEN.out (X9.out.rd.below ba) Ta.rd (by omega) HMEM2.out).mono ?_); rintro e wb ⟨rfl, bb0⟩; have bb := below_trans ba bb0; have ky := keepYK bb lpy lps y0 y1 s0 s1))
    have Bb := Lib.hid (below_trans B9.out bb)
    clear kx ky Ta ba0 ba bb0 bb y0 y1 s0 s1 X9 Y9 IN9
    go_wp2_with fail
    go_ret
    exact ⟨rfl, HBL.out.trans (Bb.out.mono HBL.out.size)⟩
  · skip
    go_wp2_with fail
    go_ret
    exact ⟨rfl, HBL.out.trans (B1.out.mono HBL.out.size)⟩
end Go.Proofs.YtenhmndknfhigaaDoor
