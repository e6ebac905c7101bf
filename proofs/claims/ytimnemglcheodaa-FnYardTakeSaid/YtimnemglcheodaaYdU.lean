/- YardTake, both programs: the plain word. -/
import Derived.Test.YtimnemglcheodaaYdT
namespace Go.Proofs.Ytimnemglcheodaa
open Go Go.ChangeShapes Go.WideShapes Go.ChangeAt Go.RowKit
set_option linter.unusedVariables false
theorem yt_zero {w wz : World} {x : Int × List (List Int) × Int} {u1 u2 : Value} (h : x = (0, [], -1)) (hB : Below w.heap.size w wz) :
    YTOut w x (.returned (.tuple #[.agg #[.int .i64 0, .slice none 0 0], .int .i64 (-1)])) ((wz.setCell ⟨w.heap.size + 1, 0, none⟩ u1).setCell ⟨w.heap.size + 1, 1, none⟩ u2) := by
  subst h
  exact RVal.mk ⟨none, 0, rfl, ownRR_none _ _ _ _, (hB.setCell (Nat.le_succ _) _).setCell (Nat.le_succ _) _⟩
theorem yt_out {w wz : World} {x : Int × List (List Int) × Int} {high id : Int} {rows : List (List Int)} {n c lo hi : Nat} {A : Option Addr} {u1 u2 : Value} (h : x = (high, rows, id)) (hn : rows.length = n) (hO : OwnRR wz lo hi 43 3 (.slice A n c) (intss rows)) (hlo : w.heap.size + 2 ≤ lo) (hB : Below w.heap.size w wz) :
    YTOut w x (.returned (.tuple #[.agg #[.int .i64 high, .slice A n c], .int .i64 id])) ((wz.setCell ⟨w.heap.size + 1, 0, none⟩ u1).setCell ⟨w.heap.size + 1, 1, none⟩ u2) := by
  subst h hn
  have htop : hi ≤ wz.heap.size := by obtain ⟨hs, h1, _⟩ := hO; exact h1.top
  exact RVal.mk ⟨A, c, rfl, ((hO.set_far _ _ _ (by omega) htop).set_far _ _ _ (by omega) (Nat.le_refl _)).base (by omega), (hB.setCell (Nat.le_succ _) _).setCell (Nat.le_succ _) _⟩
set_option maxRecDepth 100000 in
set_option maxHeartbeats 4000000 in
theorem implYardTake (high i : Int) (A : Option Addr) (n c : Nat) (rows : List (List Int)) (w : World) (hn : rows.length = n) (hr : RdRR w A (intss rows)) (hm : n ≤ 1048576) (hin : ∀ s ∈ rows, s.length ≤ 1048576) :
    Calls Try.prog 10 #[.agg #[.int .i64 high, .slice A n c], .int .i64 i] w (YTOut w (ytake high rows i)) := by
  have HN := Lib.hid hn
  have HR := Lib.hid hr
  have HIN := Lib.hid hin
  clear hn hin
  have hal : Below w.heap.size w ((w.alloc (.cells #[.int .i64 high, .slice A n c] 26)).alloc (.cells #[.int .i64 0, .slice none 0 0] 26)) := ((Below.refl _ _).alloc (Nat.le_refl _) _).alloc (by simp) _
  have hP : Blk ((w.alloc (.cells #[.int .i64 high, .slice A n c] 26)).alloc (.cells #[.int .i64 0, .slice none 0 0] 26)) w.heap.size 26 [.int .i64 high, .slice A n c] := (Blk.new _ _ _).alloc _
  have hQ : Blk ((w.alloc (.cells #[.int .i64 high, .slice A n c] 26)).alloc (.cells #[.int .i64 0, .slice none 0 0] 26)) (w.heap.size + 1) 26 [.int .i64 0, .slice none 0 0] := by simpa using Blk.new (w.alloc (.cells #[.int .i64 high, .slice A n c] 26)) 26 [.int .i64 0, .slice none 0 0]
  have hs1 : w.heap.size + 2 ≤ ((w.alloc (.cells #[.int .i64 high, .slice A n c] 26)).alloc (.cells #[.int .i64 0, .slice none 0 0] 26)).heap.size := by simp
  go_enter Try.func10, Try.ntmps10
  go_wp2_with fail
  generalize (w.alloc (.cells #[.int .i64 high, .slice A n c] 26)).alloc (.cells #[.int .i64 0, .slice none 0 0] 26) = w1 at *
  refine (implYardValid high A n c rows _ HN.out (hr.below hal) (by omega)).mono ?_
  rintro e w2 ⟨rfl, b2⟩
  have hP2 := hP.later b2
  have hQ2 := hQ.later b2
  have B2 := below_trans hal b2
  have hs2 : w.heap.size + 2 ≤ w2.heap.size := Nat.le_trans hs1 b2.size
  have x0 := hP2.cellAt 0 (by simp)
  have x1 := hP2.cellAt 1 (by simp)
  have y0 := hQ2.cellAt 0 (by simp)
  have y1 := hQ2.cellAt 1 (by simp)
  have f0 := hQ2.frozen 0
  have f1 := hQ2.frozen 1
  simp only [List.getElem_cons_zero, List.getElem_cons_succ] at x0 x1 y0 y1
  clear hal hP hQ hs1 b2
  have l0 := hP2.lt
  have l1 := hQ2.lt
  cases hok : yardOk high rows with
  | false =>
    have H0 := Lib.hid (ytake_bad i hok)
    have HB2 := Lib.hid B2
    have HQ2 := Lib.hid hQ2
    clear hok B2 hQ2
    go_wp2_with fail
    have hR := (HQ2.out.set_ 0 (.int .i64 0)).set_ 1 (.slice none 0 0)
    have z0 := hR.cellAt 0 (by simp)
    have z1 := hR.cellAt 1 (by simp)
    simp only [List.set_cons_zero, List.set_cons_succ, List.getElem_cons_zero, List.getElem_cons_succ] at z0 z1
    refine bodyPost_ret (v := .tuple #[.agg #[.int .i64 0, .slice none 0 0], .int .i64 (-1)]) (by simp [results, Try.results10, go_sem, z0, z1]) rfl ?_
    exact yt_zero H0.out HB2.out
  | true =>
    obtain ⟨g1, g2, g3, g4, g5, g6⟩ := yardOk_parts hok
    have HG5 := Lib.hid g5
    clear g3 g4 g5 g6
    have HOK := Lib.hid hok
    have HB2 := Lib.hid B2
    have HP2 := Lib.hid hP2
    have HQ2 := Lib.hid hQ2
    clear hok B2 hP2 hQ2
    go_wp2_with fail
    refine (implClone high A n c rows _ HN.out (HR.out.below HB2.out) (by omega) HIN.out).mono ?_
    rintro e w3 ⟨_, rfl, A1, c1, rfl, O3, b3⟩
    have hal3 : Below w3.heap.size w3 (w3.alloc (.cells #[.int .i64 high, .slice A1 n c1] 26)) := (Below.refl _ _).alloc (Nat.le_refl _) _
    have b4 := below_trans b3 hal3
    have hX4 : Blk (w3.alloc (.cells #[.int .i64 high, .slice A1 n c1] 26)) w3.heap.size 26 [.int .i64 high, .slice A1 n c1] := Blk.new _ _ _
    have hP4 := HP2.out.later b4
    have hQ4 := HQ2.out.later b4
    have O4 := O3.later hal3
    have hs23 := b3.size
    have B4 := below_trans HB2.out b4
    clear x0 x1 y0 y1 f0 f1 b3 hal3 O3 b4
    have x0 := hP4.cellAt 0 (by simp)
    have x1 := hP4.cellAt 1 (by simp)
    simp only [List.getElem_cons_zero, List.getElem_cons_succ] at x0 x1
    have HP4 := Lib.hid hP4
    have HQ4 := Lib.hid hQ4
    have HX4 := Lib.hid hX4
    have HO4 := Lib.hid O4
    have HB4 := Lib.hid B4
    clear hP4 hQ4 hX4 O4 B4
    go_wp2_with fail
    generalize w3.alloc (.cells #[.int .i64 high, .slice A1 n c1] 26) = w4 at *
    refine (yardHas high A n c i _ (by omega)).mono ?_
    rintro e w5 ⟨rfl, b5⟩
    have P5 := HP4.out.later b5
    have Q5 := HQ4.out.later b5
    have X5 := HX4.out.later b5
    clear x0 x1
    have x0 := P5.cellAt 0 (by simp)
    have x1 := P5.cellAt 1 (by simp)
    have y0 := Q5.cellAt 0 (by simp)
    have y1 := Q5.cellAt 1 (by simp)
    have f0 := Q5.frozen 0
    have f1 := Q5.frozen 1
    have v0 := X5.cellAt 0 (by simp)
    have v1 := X5.cellAt 1 (by simp)
    simp only [List.getElem_cons_zero, List.getElem_cons_succ] at x0 x1 y0 y1 v0 v1
    have HQ5 := Lib.hid Q5
    have HX5 := Lib.hid X5
    have HO5 := Lib.hid (HO4.out.later b5)
    have HB5 := Lib.hid (below_trans HB4.out b5)
    have l2 := Q5.lt
    have l3 := X5.lt
    cases hi : inI i 0 ((n : Int) - 1) with
    | false =>
      have H0 := Lib.hid (ytake_no HOK.out (fun h => by have := inI_no hi; rw [HN.out] at h; exact this h.1))
      clear hi P5 Q5 X5 b5
      go_wp2_with fail
      have hR := (HQ5.out.set_ 0 (.int .i64 high)).set_ 1 (.slice A1 n c1)
      have z0 := hR.cellAt 0 (by simp)
      have z1 := hR.cellAt 1 (by simp)
      simp only [List.set_cons_zero, List.set_cons_succ, List.getElem_cons_zero, List.getElem_cons_succ] at z0 z1
      refine bodyPost_ret (v := .tuple #[.agg #[.int .i64 high, .slice A1 n c1], .int .i64 (-1)]) (by simp [results, Try.results10, go_sem, z0, z1]) rfl ?_
      exact yt_out H0.out HN.out HO5.out hs2 HB5.out
    | true =>
      obtain ⟨k, rfl, hk⟩ := inI_yes hi
      have hkz : k < rows.length := by rw [HN.out]; exact hk
      have hkl : k < (intss rows).length := by rw [intss_len]; exact hkz
      obtain ⟨b, o, rfl, hl0, B, c', hcell0, hle, hmx, hrB0⟩ := HR.out.pos hkl
      have hl : b < w5.heap.size := Nat.lt_of_lt_of_le hl0 HB5.out.size
      have hcell := (HB5.out.cell (p := ⟨b, o + k, none⟩) hl0).trans hcell0
      simp only [intss_at, ints_len] at hcell
      have hki : (k : Int) < (n : Int) := by omega
      by_cases hz : rows[k] = []
      · have H0 := Lib.hid (ytake_no HOK.out (i := (k : Int)) (fun h => by
          have e : rows.getD (k : Int).toNat [] = rows[k] := by rw [Int.toNat_natCast, List.getD_eq_getElem?_getD, List.getElem?_eq_getElem hkz]; rfl
          rw [e] at h
          exact h.2 hz))
        have hz0 : (rows[k]).length = 0 := by rw [hz]; rfl
        rw [hz0] at hcell
        clear hi P5 Q5 X5 b5 hcell0 hle hmx hrB0 hz hz0 hr
        go_wp2_with fail
        have hR := (HQ5.out.set_ 0 (.int .i64 high)).set_ 1 (.slice A1 n c1)
        have z0 := hR.cellAt 0 (by simp)
        have z1 := hR.cellAt 1 (by simp)
        simp only [List.set_cons_zero, List.set_cons_succ, List.getElem_cons_zero, List.getElem_cons_succ] at z0 z1
        refine bodyPost_ret (v := .tuple #[.agg #[.int .i64 high, .slice A1 n c1], .int .i64 (-1)]) (by simp [results, Try.results10, go_sem, z0, z1]) rfl ?_
        exact yt_out H0.out HN.out HO5.out hs2 HB5.out
      · have H0 := Lib.hid (ytake_yes HOK.out hkz hz)
        have hpl := HG5.out rows[k] (List.getElem_mem hkz)
        have hzp : 0 < (rows[k]).length := List.length_pos_iff.2 hz
        have hpop := yardPop high A1 n c1 k w2.heap.size w3.heap.size rows w5 HN.out HO5.out hkz hz (by omega) (by omega)
        have HSL : Hid ((rows.set k rows[k].dropLast).length = n) := Lib.hid (by rw [List.length_set]; exact HN.out)
        have HPOP := Lib.hid hpop
        have hne : ¬ ((rows[k]).length : Int) = 0 := by omega
        generalize rows[k].getLast hz = id at *
        generalize rows.set k rows[k].dropLast = rows2 at *
        generalize (rows[k]).length = p at *
        clear hi P5 Q5 X5 b5 hcell0 hle hmx hrB0 hz hpop hr
        go_wp2_with fail
        refine HPOP.out.mono ?_
        rintro e w6 ⟨rfl, O6, o6⟩
        have hQ6 : Blk w6 (w.heap.size + 1) 26 [.int .i64 0, .slice none 0 0] := (o6.block _ HQ5.out.lt (.inl (by omega))).trans HQ5.out
        have hX6 : Blk w6 w3.heap.size 26 [.int .i64 high, .slice A1 n c1] := (o6.block _ HX5.out.lt (.inr (Nat.le_refl _))).trans HX5.out
        have HB6 := Lib.hid (below_out HB5.out o6 (by omega))
        have HO6 := Lib.hid O6
        clear x0 x1 y0 y1 f0 f1 v0 v1 hcell
        have y0 := hQ6.cellAt 0 (by simp)
        have y1 := hQ6.cellAt 1 (by simp)
        have f0 := hQ6.frozen 0
        have f1 := hQ6.frozen 1
        have v0 := hX6.cellAt 0 (by simp)
        have v1 := hX6.cellAt 1 (by simp)
        simp only [List.getElem_cons_zero, List.getElem_cons_succ] at y0 y1 v0 v1
        have HQ6 := Lib.hid hQ6
        clear hQ6 hX6 O6 o6
        go_wp2_with fail
        have hR := (HQ6.out.set_ 0 (.int .i64 high)).set_ 1 (.slice A1 n c1)
        have z0 := hR.cellAt 0 (by simp)
        have z1 := hR.cellAt 1 (by simp)
        simp only [List.set_cons_zero, List.set_cons_succ, List.getElem_cons_zero, List.getElem_cons_succ] at z0 z1
        refine bodyPost_ret (v := .tuple #[.agg #[.int .i64 high, .slice A1 n c1], .int .i64 (id)]) (by simp [results, Try.results10, go_sem, z0, z1]) rfl ?_
        exact yt_out H0.out HSL.out HO6.out hs2 HB6.out
/-- five cells -/
def Keep5 (W : World) (p b i b2 j q : Nat) (v1 v2 v3 v4 v5 : Value) : Prop := W.cell? ⟨p, 1, none⟩ = some v1 ∧ W.cell? ⟨b, i, none⟩ = some v2 ∧ W.cell? ⟨b2, j, none⟩ = some v3 ∧ W.cell? ⟨q, 0, none⟩ = some v4 ∧ W.cell? ⟨q, 1, none⟩ = some v5
theorem Keep5.drew {W : World} {p b i b2 j q : Nat} {v1 v2 v3 v4 v5 : Value} (h : Keep5 W p b i b2 j q v1 v2 v3 v4 v5) : Keep5 W.drew p b i b2 j q v1 v2 v3 v4 v5 := h
theorem far_cell {W : World} {x y i j : Nat} {u v : Value} (h : W.cell? ⟨x, i, none⟩ = some v) (hne : x ≠ y) : (W.setCell ⟨y, j, none⟩ u).cell? ⟨x, i, none⟩ = some v :=
  (World.cell?_of_block (Below.heap_setCell W ⟨y, j, none⟩ u x hne)).trans h
theorem Keep5.set2 {W : World} {p b i b2 j q r : Nat} {v1 v2 v3 v4 v5 u1 u2 : Value} (h : Keep5 W p b i b2 j q v1 v2 v3 v4 v5) (n1 : p ≠ r) (n2 : b ≠ r) (n3 : b2 ≠ r) (n4 : q ≠ r) : Keep5 ((W.setCell ⟨r, 0, none⟩ u1).setCell ⟨r, 1, none⟩ u2) p b i b2 j q v1 v2 v3 v4 v5 :=
  ⟨far_cell (far_cell h.1 n1) n1, far_cell (far_cell h.2.1 n2) n2, far_cell (far_cell h.2.2.1 n3) n3, far_cell (far_cell h.2.2.2.1 n4) n4, far_cell (far_cell h.2.2.2.2 n4) n4⟩
set_option maxRecDepth 100000 in
set_option maxHeartbeats 4000000 in
theorem specYardTake (high i : Int) (A : Option Addr) (n c : Nat) (rows : List (List Int)) (w : World) (hn : rows.length = n) (hr : RdRR w A (intss rows)) (hm : n ≤ 1048576) (hin : ∀ s ∈ rows, s.length ≤ 1048576) :
    Calls Try.prog 8 #[.agg #[.int .i64 high, .slice A n c], .int .i64 i] w (YTOut w (ytake high rows i)) := by
  have en : IntKind.i64.wrap ((n : Int) - 1) = (n : Int) - 1 := IntWalk.i64_in _ (by omega)
  have HN := Lib.hid hn
  have HR := Lib.hid hr
  have HIN := Lib.hid hin
  clear hn hin
  have hal : Below w.heap.size w ((w.alloc (.cells #[.int .i64 high, .slice A n c] 26)).alloc (.cells #[.int .i64 0, .slice none 0 0] 26)) := ((Below.refl _ _).alloc (Nat.le_refl _) _).alloc (by simp) _
  have hP : Blk ((w.alloc (.cells #[.int .i64 high, .slice A n c] 26)).alloc (.cells #[.int .i64 0, .slice none 0 0] 26)) w.heap.size 26 [.int .i64 high, .slice A n c] := (Blk.new _ _ _).alloc _
  have hQ : Blk ((w.alloc (.cells #[.int .i64 high, .slice A n c] 26)).alloc (.cells #[.int .i64 0, .slice none 0 0] 26)) (w.heap.size + 1) 26 [.int .i64 0, .slice none 0 0] := by simpa using Blk.new (w.alloc (.cells #[.int .i64 high, .slice A n c] 26)) 26 [.int .i64 0, .slice none 0 0]
  have hs1 : w.heap.size + 2 ≤ ((w.alloc (.cells #[.int .i64 high, .slice A n c] 26)).alloc (.cells #[.int .i64 0, .slice none 0 0] 26)).heap.size := by simp
  go_enter Try.func8, Try.ntmps8
  go_wp2_with fail
  generalize (w.alloc (.cells #[.int .i64 high, .slice A n c] 26)).alloc (.cells #[.int .i64 0, .slice none 0 0] 26) = w1 at *
  refine (specYardValid high A n c rows _ HN.out (hr.below hal) (by omega)).mono ?_
  rintro e w2 ⟨rfl, b2⟩
  have hP2 := hP.later b2
  have hQ2 := hQ.later b2
  have B2 := below_trans hal b2
  have hs2 : w.heap.size + 2 ≤ w2.heap.size := Nat.le_trans hs1 b2.size
  have x0 := hP2.cellAt 0 (by simp)
  have x1 := hP2.cellAt 1 (by simp)
  have y0 := hQ2.cellAt 0 (by simp)
  have y1 := hQ2.cellAt 1 (by simp)
  have f0 := hQ2.frozen 0
  have f1 := hQ2.frozen 1
  simp only [List.getElem_cons_zero, List.getElem_cons_succ] at x0 x1 y0 y1
  clear hal hP hQ hs1 b2
  have l0 := hP2.lt
  have l1 := hQ2.lt
  cases hok : yardOk high rows with
  | false =>
    have H0 := Lib.hid (ytake_bad i hok)
    have HB2 := Lib.hid B2
    have HQ2 := Lib.hid hQ2
    clear hok B2 hQ2
    go_wp2_with fail
    have hR := (HQ2.out.set_ 0 (.int .i64 0)).set_ 1 (.slice none 0 0)
    have z0 := hR.cellAt 0 (by simp)
    have z1 := hR.cellAt 1 (by simp)
    simp only [List.set_cons_zero, List.set_cons_succ, List.getElem_cons_zero, List.getElem_cons_succ] at z0 z1
    refine bodyPost_ret (v := .tuple #[.agg #[.int .i64 0, .slice none 0 0], .int .i64 (-1)]) (by simp [results, Try.results8, go_sem, z0, z1]) rfl ?_
    exact yt_zero H0.out HB2.out
  | true =>
    obtain ⟨g1, g2, g3, g4, g5, g6⟩ := yardOk_parts hok
    have HG5 := Lib.hid g5
    clear g3 g4 g5 g6
    have HOK := Lib.hid hok
    have HB2 := Lib.hid B2
    have HP2 := Lib.hid hP2
    have HQ2 := Lib.hid hQ2
    clear hok B2 hP2 hQ2
    go_wp2_with fail
    refine (specCopy high A n c rows _ HN.out (HR.out.below HB2.out) (by omega) HIN.out).mono ?_
    rintro e w3 ⟨_, rfl, A1, c1, rfl, O3, b3⟩
    have hal3 : Below w3.heap.size w3 (w3.alloc (.cells #[.int .i64 high, .slice A1 n c1] 26)) := (Below.refl _ _).alloc (Nat.le_refl _) _
    have b4 := below_trans b3 hal3
    have hX4 : Blk (w3.alloc (.cells #[.int .i64 high, .slice A1 n c1] 26)) w3.heap.size 26 [.int .i64 high, .slice A1 n c1] := Blk.new _ _ _
    have hP4 := HP2.out.later b4
    have hQ4 := HQ2.out.later b4
    have O4 := O3.later hal3
    have hs23 := b3.size
    have B4 := below_trans HB2.out b4
    clear x0 x1 y0 y1 f0 f1 b3 hal3 O3 b4
    have x0 := hP4.cellAt 0 (by simp)
    have x1 := hP4.cellAt 1 (by simp)
    simp only [List.getElem_cons_zero, List.getElem_cons_succ] at x0 x1
    have HP4 := Lib.hid hP4
    have HQ4 := Lib.hid hQ4
    have HX4 := Lib.hid hX4
    have HO4 := Lib.hid O4
    have HB4 := Lib.hid B4
    clear hP4 hQ4 hX4 O4 B4
    go_wp2_with fail
    generalize w3.alloc (.cells #[.int .i64 high, .slice A1 n c1] 26) = w4 at *
    refine (l1In_any i 0 ((n : Int) - 1) _).mono ?_
    rintro e w5 ⟨rfl, rfl⟩
    have P5 := HP4.out
    have Q5 := HQ4.out
    have X5 := HX4.out
    clear x0 x1
    have x0 := P5.cellAt 0 (by simp)
    have x1 := P5.cellAt 1 (by simp)
    have y0 := Q5.cellAt 0 (by simp)
    have y1 := Q5.cellAt 1 (by simp)
    have f0 := Q5.frozen 0
    have f1 := Q5.frozen 1
    have v0 := X5.cellAt 0 (by simp)
    have v1 := X5.cellAt 1 (by simp)
    simp only [List.getElem_cons_zero, List.getElem_cons_succ] at x0 x1 y0 y1 v0 v1
    have HP5 := Lib.hid P5
    have HQ5 := Lib.hid Q5
    have HX5 := Lib.hid X5
    have HO5 := HO4
    have HB5 := HB4
    have l2 := Q5.lt
    have l3 := X5.lt
    cases hi : inI i 0 ((n : Int) - 1) with
    | false =>
      have H0 := Lib.hid (ytake_no HOK.out (fun h => by have := inI_no hi; rw [HN.out] at h; exact this h.1))
      clear hi P5 Q5 X5
      go_wp2_with fail
      have hR := (HQ5.out.set_ 0 (.int .i64 high)).set_ 1 (.slice A1 n c1)
      have z0 := hR.cellAt 0 (by simp)
      have z1 := hR.cellAt 1 (by simp)
      simp only [List.set_cons_zero, List.set_cons_succ, List.getElem_cons_zero, List.getElem_cons_succ] at z0 z1
      refine bodyPost_ret (v := .tuple #[.agg #[.int .i64 high, .slice A1 n c1], .int .i64 (-1)]) (by simp [results, Try.results8, go_sem, z0, z1]) rfl ?_
      exact yt_out H0.out HN.out HO5.out hs2 HB5.out
    | true =>
      obtain ⟨k, rfl, hk⟩ := inI_yes hi
      have hkz : k < rows.length := by rw [HN.out]; exact hk
      have hkl : k < (intss rows).length := by rw [intss_len]; exact hkz
      obtain ⟨b, o, rfl, hl0, B, c', hcell0, hle, hmx, hrB0⟩ := HR.out.pos hkl
      have hl : b < w4.heap.size := Nat.lt_of_lt_of_le hl0 HB5.out.size
      have hcell := (HB5.out.cell (p := ⟨b, o + k, none⟩) hl0).trans hcell0
      simp only [intss_at, ints_len] at hcell hcell0
      rw [intss_at] at hrB0
      have hki : (k : Int) < (n : Int) := by omega
      by_cases hz : rows[k] = []
      · have H0 := Lib.hid (ytake_no HOK.out (i := (k : Int)) (fun h => by
          have e : rows.getD (k : Int).toNat [] = rows[k] := by rw [Int.toNat_natCast, List.getD_eq_getElem?_getD, List.getElem?_eq_getElem hkz]; rfl
          rw [e] at h
          exact h.2 hz))
        have hz0 : (rows[k]).length = 0 := by rw [hz]; rfl
        rw [hz0] at hcell
        clear hi P5 Q5 X5 hcell0 hle hmx hrB0 hz hz0 hr
        go_wp2_with fail
        have hR := (HQ5.out.set_ 0 (.int .i64 high)).set_ 1 (.slice A1 n c1)
        have z0 := hR.cellAt 0 (by simp)
        have z1 := hR.cellAt 1 (by simp)
        simp only [List.set_cons_zero, List.set_cons_succ, List.getElem_cons_zero, List.getElem_cons_succ] at z0 z1
        refine bodyPost_ret (v := .tuple #[.agg #[.int .i64 high, .slice A1 n c1], .int .i64 (-1)]) (by simp [results, Try.results8, go_sem, z0, z1]) rfl ?_
        exact yt_out H0.out HN.out HO5.out hs2 HB5.out
      · have H0 := Lib.hid (ytake_yes HOK.out hkz hz)
        have hpl := HG5.out rows[k] (List.getElem_mem hkz)
        have hzp : 0 < (rows[k]).length := List.length_pos_iff.2 hz
        obtain ⟨b2, o2, rfl, hl2, hc2⟩ := hrB0.pos (k := (rows[k]).length - 1) (by rw [ints_len]; omega)
        have hlast0 := hc2 ((rows[k]).length - 1) (by rw [ints_len]; omega)
        rw [ints_at, ← List.getLast_eq_getElem hz] at hlast0
        have hlast := (HB5.out.cell (p := ⟨b2, o2 + ((rows[k]).length - 1), none⟩) hl2).trans hlast0
        obtain ⟨g, bb, cc, rfl, t1, t2, t3, t4, t4', t5, t6, t7, t8, t9, t10⟩ := HO5.out.pop hkz hz
        have HSL : Hid ((rows.set k rows[k].dropLast).length = n) := Lib.hid (by rw [List.length_set]; exact HN.out)
        have hne : ¬ ((rows[k]).length : Int) = 0 := by omega
        have HOP := Lib.hid t9
        have HOU := Lib.hid t10
        have HC0 := Lib.hid hcell0
        have HL0 := Lib.hid hlast0
        generalize rows[k].getLast hz = id at *
        generalize rows.set k rows[k].dropLast = rows2 at *
        generalize (rows[k]).length = p at *
        obtain ⟨m, rfl⟩ : ∃ m, p = m + 1 := ⟨p - 1, by omega⟩
        rw [Nat.add_sub_cancel] at *
        have em : IntKind.i64.wrap (((m + 1 : Nat) : Int) - 1) = (m : Int) := by rw [IntWalk.i64_in _ (by omega)]; omega
        have q1 : (m : Int) < ((m + 1 : Nat) : Int) := by omega
        have q2 : (0 : Int) ≤ (m : Int) := by omega
        have q3 : (m : Int) ≤ (cc : Int) := by omega
        have q4 : (m : Int) < (m : Int) + 1 := by omega
        clear hi P5 Q5 X5 hcell0 hle hmx hrB0 hz hr t9 t10 t8 hc2 hlast0
        have HLA := Lib.hid hlast
        have HCE := Lib.hid hcell
        go_wp2_with fail
        go_still_tail 11, (by kernel_rfl)
        change wpList _ _ _ _ _ w4.drew
        have t5' : w4.drew.cell? ⟨g, k, none⟩ = some (.slice (some ⟨bb, 0, none⟩) (m + 1) cc) := t5
        have t6' : w4.drew.frozen? ⟨g, k, none⟩ = false := t6
        have O6 : OwnRR (w4.drew.setCell ⟨g, k, none⟩ (.slice (some ⟨bb, 0, none⟩) m cc)) w2.heap.size (w4.drew.setCell ⟨g, k, none⟩ (.slice (some ⟨bb, 0, none⟩) m cc)).heap.size 43 3 (.slice (some ⟨g, 0, none⟩) n c1) (intss rows2) := HOP.out.later (Below.drew (Below.refl _ _))
        have o6 : Out w2.heap.size w3.heap.size w4 (w4.drew.setCell ⟨g, k, none⟩ (.slice (some ⟨bb, 0, none⟩) m cc)) := HOU.out.trans (Below.out (Below.drew (Below.refl _ _)) _ _)
        clear x0 x1 y0 y1 f0 f1 v0 v1 hcell hlast t5 t6
        go_wp2_with fail
        clear t5' t6'
        change OwnRR (w4.setCell ⟨g, k, none⟩ (.slice (some ⟨bb, 0, none⟩) m cc)).drew _ _ _ _ _ _ at O6
        change Out _ _ _ (w4.setCell ⟨g, k, none⟩ (.slice (some ⟨bb, 0, none⟩) m cc)).drew at o6
        generalize (w4.setCell ⟨g, k, none⟩ (.slice (some ⟨bb, 0, none⟩) m cc)).drew = w6 at *
        have hP6 : Blk w6 w.heap.size 26 [.int .i64 high, .slice (some ⟨b, o, none⟩) n c] := (o6.block _ HP5.out.lt (.inl (by omega))).trans HP5.out
        have hQ6 : Blk w6 (w.heap.size + 1) 26 [.int .i64 0, .slice none 0 0] := (o6.block _ HQ5.out.lt (.inl (by omega))).trans HQ5.out
        have hX6 : Blk w6 w3.heap.size 26 [.int .i64 high, .slice (some ⟨g, 0, none⟩) n c1] := (o6.block _ HX5.out.lt (.inr (Nat.le_refl _))).trans HX5.out
        have b6 := below_out HB5.out o6 (by omega)
        have hcell6 := (b6.cell (p := ⟨b, o + k, none⟩) hl0).trans HC0.out
        have hlast6 := (b6.cell (p := ⟨b2, o2 + m, none⟩) hl2).trans HL0.out
        have x0 := hP6.cellAt 0 (by simp)
        have x1 := hP6.cellAt 1 (by simp)
        have y0 := hQ6.cellAt 0 (by simp)
        have y1 := hQ6.cellAt 1 (by simp)
        have f0 := hQ6.frozen 0
        have f1 := hQ6.frozen 1
        have v0 := hX6.cellAt 0 (by simp)
        have v1 := hX6.cellAt 1 (by simp)
        simp only [List.getElem_cons_zero, List.getElem_cons_succ] at x0 x1 y0 y1 v0 v1
        have HQ6 := Lib.hid hQ6
        have HO6 := Lib.hid O6
        have HB6 := Lib.hid b6
        clear hP6 hQ6 hX6 O6 o6 b6 em q3 en t1 t2 t3 t4 t4' t7 hl
        have l6 := HQ6.out.lt
        have n1 : w.heap.size ≠ w.heap.size + 1 := by omega
        have n2 : b ≠ w.heap.size + 1 := by omega
        have n3 : b2 ≠ w.heap.size + 1 := by omega
        have n4 : w3.heap.size ≠ w.heap.size + 1 := by omega
        have K6 : Keep5 w6 w.heap.size b (o + k) b2 (o2 + m) w3.heap.size (.slice (some ⟨b, o, none⟩) n c) (.slice (some ⟨b2, o2, none⟩) (m + 1) c') (.int .i64 id) (.int .i64 high) (.slice (some ⟨g, 0, none⟩) n c1) := ⟨x1, hcell6, hlast6, v0, v1⟩
        have HK6 := Lib.hid K6
        clear K6
        go_region_held3 (fun W => W.cell? ⟨w.heap.size, 1, none⟩ = some (.slice (some ⟨b, o, none⟩) n c) ∧ W.cell? ⟨b, o + k, none⟩ = some (.slice (some ⟨b2, o2, none⟩) (m + 1) c') ∧ W.cell? ⟨b2, o2 + m, none⟩ = some (.int .i64 id) ∧ W.cell? ⟨w3.heap.size, 0, none⟩ = some (.int .i64 high) ∧ W.cell? ⟨w3.heap.size, 1, none⟩ = some (.slice (some ⟨g, 0, none⟩) n c1))
          (first | exact HK6.out.drew | exact (HK6.out.drew).set2 n1 n2 n3 n4) (fail)
        go_wp2_with fail
        have hR0 := HQ6.out.set_ 0 (.int .i64 high)
        have hR := hR0.set_ 1 (.slice (some ⟨g, 0, none⟩) n c1)
        have z0 := hR0.cellAt 0 (by simp)
        have z1 := hR.cellAt 1 (by simp)
        simp only [List.set_cons_zero, List.set_cons_succ, List.getElem_cons_zero, List.getElem_cons_succ] at z0 z1
        refine bodyPost_ret (v := .tuple #[.agg #[.int .i64 high, .slice (some ⟨g, 0, none⟩) n c1], .int .i64 id]) (by simp [results, Try.results8, go_sem, z0, z1]) rfl ?_
        have hfin := yt_out (w := w) (u1 := .int .i64 high) (u2 := .slice (some ⟨g, 0, none⟩) n c1) H0.out HSL.out (HO6.out.later (Below.drew (Below.refl _ _))) hs2 (Below.drew HB6.out)
        exact hfin
end Go.Proofs.Ytimnemglcheodaa
