/- YardTake, both programs: the plain word. -/
import Derived.Test.YtcbeoaedccdppaaYdT
namespace Go.Proofs.Ytcbeoaedccdppaa
open Go Go.ChangeShapes Go.WideShapes Go.ChangeAt Go.RowKit
set_option linter.unusedVariables false
theorem yt_zero {w wz : World} {x : Int × List (List Int) × Int} {u1 u2 : Value} (h : x = (0, [], -1)) (hB : Below w.heap.size w wz) :
    YTOut w x (.returned (.tuple #[.agg #[.int .i64 0, .slice none 0 0], .int .i64 (-1)])) ((wz.setCell ⟨w.heap.size + 1, 0, none⟩ u1).setCell ⟨w.heap.size + 1, 1, none⟩ u2) := by
  subst h
  exact RVal.mk ⟨none, 0, rfl, ownRR_none _ _ _ _, (hB.setCell (Nat.le_succ _) _).setCell (Nat.le_succ _) _⟩
theorem yt_out {w wz : World} {x : Int × List (List Int) × Int} {high id : Int} {rows : List (List Int)} {n c lo hi : Nat} {A : Option Addr} {u1 u2 : Value} (h : x = (high, rows, id)) (hn : rows.length = n) (hO : OwnRR wz lo hi 37 3 (.slice A n c) (intss rows)) (hlo : w.heap.size + 2 ≤ lo) (hB : Below w.heap.size w wz) :
    YTOut w x (.returned (.tuple #[.agg #[.int .i64 high, .slice A n c], .int .i64 id])) ((wz.setCell ⟨w.heap.size + 1, 0, none⟩ u1).setCell ⟨w.heap.size + 1, 1, none⟩ u2) := by
  subst h hn
  have htop : hi ≤ wz.heap.size := by obtain ⟨hs, h1, _⟩ := hO; exact h1.top
  exact RVal.mk ⟨A, c, rfl, ((hO.set_far _ _ _ (by omega) htop).set_far _ _ _ (by omega) (Nat.le_refl _)).base (by omega), (hB.setCell (Nat.le_succ _) _).setCell (Nat.le_succ _) _⟩
set_option maxRecDepth 100000 in
set_option maxHeartbeats 4000000 in
theorem implYardTake (high i : Int) (A : Option Addr) (n c : Nat) (rows : List (List Int)) (w : World) (hn : rows.length = n) (hr : RdRR w A (intss rows)) (hm : n ≤ 1048576) (hin : ∀ s ∈ rows, s.length ≤ 1048576) :
    Calls Try.prog 18 #[.agg #[.int .i64 high, .slice A n c], .int .i64 i] w (YTOut w (ytake high rows i)) := by
  have HN := Lib.hid hn
  have HR := Lib.hid hr
  have HIN := Lib.hid hin
  clear hn hin
  have hal : Below w.heap.size w ((w.alloc (.cells #[.int .i64 high, .slice A n c] 27)).alloc (.cells #[.int .i64 0, .slice none 0 0] 27)) := ((Below.refl _ _).alloc (Nat.le_refl _) _).alloc (by simp) _
  have hP : Blk ((w.alloc (.cells #[.int .i64 high, .slice A n c] 27)).alloc (.cells #[.int .i64 0, .slice none 0 0] 27)) w.heap.size 27 [.int .i64 high, .slice A n c] := (Blk.new _ _ _).alloc _
  have hQ : Blk ((w.alloc (.cells #[.int .i64 high, .slice A n c] 27)).alloc (.cells #[.int .i64 0, .slice none 0 0] 27)) (w.heap.size + 1) 27 [.int .i64 0, .slice none 0 0] := by simpa using Blk.new (w.alloc (.cells #[.int .i64 high, .slice A n c] 27)) 27 [.int .i64 0, .slice none 0 0]
  have hs1 : w.heap.size + 2 ≤ ((w.alloc (.cells #[.int .i64 high, .slice A n c] 27)).alloc (.cells #[.int .i64 0, .slice none 0 0] 27)).heap.size := by simp
  go_enter Try.func18, Try.ntmps18
  go_wp2_with fail
  generalize (w.alloc (.cells #[.int .i64 high, .slice A n c] 27)).alloc (.cells #[.int .i64 0, .slice none 0 0] 27) = w1 at *
  refine (implYardValid high A n c rows _ HN.out (hr.below hal) (by omega)).mono ?_
  rintro e w2 ⟨rfl, b2⟩
  have hP2 := hP.later b2
  have hQ2 := hQ.later b2
  have B2 := below_trans hal b2
  have hs2 : w.heap.size + 2 ≤ w2.heap.size := Nat.le_trans hs1 b2.size
  have x0 := hP2.cellAt 0 (by simp)
  have x1 := hP2.cellAt 1 (by simp)
  have y0 := hQ2.cellAt 0 (by simp)
  have y1 := hQ2.cellAt 1 (by simp)
  have f0 := hQ2.frozen 0
  have f1 := hQ2.frozen 1
  simp only [List.getElem_cons_zero, List.getElem_cons_succ] at x0 x1 y0 y1
  clear hal hP hQ hs1 b2
  have l0 := hP2.lt
  have l1 := hQ2.lt
  cases hok : yardOk high rows with
  | false =>
    have H0 := Lib.hid (ytake_bad i hok)
    have HB2 := Lib.hid B2
    have HQ2 := Lib.hid hQ2
    clear hok B2 hQ2
    go_wp2_with fail
    have hR := (HQ2.out.set_ 0 (.int .i64 0)).set_ 1 (.slice none 0 0)
    have z0 := hR.cellAt 0 (by simp)
    have z1 := hR.cellAt 1 (by simp)
    simp only [List.set_cons_zero, List.set_cons_succ, List.getElem_cons_zero, List.getElem_cons_succ] at z0 z1
    refine bodyPost_ret (v := .tuple #[.agg #[.int .i64 0, .slice none 0 0], .int .i64 (-1)]) (by simp [results, Try.results18, go_sem, z0, z1]) rfl ?_
    exact yt_zero H0.out HB2.out
  | true =>
    obtain ⟨g1, g2, g3, g4, g5, g6⟩ := yardOk_parts hok
    have HG5 := Lib.hid g5
    clear g3 g4 g5 g6
    have HOK := Lib.hid hok
    have HB2 := Lib.hid B2
    have HP2 := Lib.hid hP2
    have HQ2 := Lib.hid hQ2
    clear hok B2 hP2 hQ2
    go_wp2_with fail
    refine (implClone high A n c rows _ HN.out (HR.out.below HB2.out) (by omega) HIN.out).mono ?_
    rintro e w3 ⟨_, rfl, A1, c1, rfl, O3, b3⟩
    have hal3 : Below w3.heap.size w3 (w3.alloc (.cells #[.int .i64 high, .slice A1 n c1] 27)) := (Below.refl _ _).alloc (Nat.le_refl _) _
    have b4 := below_trans b3 hal3
    have hX4 : Blk (w3.alloc (.cells #[.int .i64 high, .slice A1 n c1] 27)) w3.heap.size 27 [.int .i64 high, .slice A1 n c1] := Blk.new _ _ _
    have hP4 := HP2.out.later b4
    have hQ4 := HQ2.out.later b4
    have O4 := O3.later hal3
    have hs23 := b3.size
    have B4 := below_trans HB2.out b4
    clear x0 x1 y0 y1 f0 f1 b3 hal3 O3 b4
    have x0 := hP4.cellAt 0 (by simp)
    have x1 := hP4.cellAt 1 (by simp)
    simp only [List.getElem_cons_zero, List.getElem_cons_succ] at x0 x1
    have HP4 := Lib.hid hP4
    have HQ4 := Lib.hid hQ4
    have HX4 := Lib.hid hX4
    have HO4 := Lib.hid O4
    have HB4 := Lib.hid B4
    clear hP4 hQ4 hX4 O4 B4
    go_wp2_with fail
    generalize w3.alloc (.cells #[.int .i64 high, .slice A1 n c1] 27) = w4 at *
    refine (yardHas high A n c i _ (by omega)).mono ?_
    rintro e w5 ⟨rfl, b5⟩
    have P5 := HP4.out.later b5
    have Q5 := HQ4.out.later b5
    have X5 := HX4.out.later b5
    clear x0 x1
    have x0 := P5.cellAt 0 (by simp)
    have x1 := P5.cellAt 1 (by simp)
    have y0 := Q5.cellAt 0 (by simp)
    have y1 := Q5.cellAt 1 (by simp)
    have f0 := Q5.frozen 0
    have f1 := Q5.frozen 1
    have v0 := X5.cellAt 0 (by simp)
    have v1 := X5.cellAt 1 (by simp)
    simp only [List.getElem_cons_zero, List.getElem_cons_succ] at x0 x1 y0 y1 v0 v1
    have HQ5 := Lib.hid Q5
    have HX5 := Lib.hid X5
    have HO5 := Lib.hid (HO4.out.later b5)
    have HB5 := Lib.hid (below_trans HB4.out b5)
    have l2 := Q5.lt
    have l3 := X5.lt
    cases hi : inI i 0 ((n : Int) - 1) with
    | false =>
      have H0 := Lib.hid (ytake_no HOK.out (fun h => by have := inI_no hi; rw [HN.out] at h; exact this h.1))
      clear hi P5 Q5 X5 b5
      go_wp2_with fail
      have hR := (HQ5.out.set_ 0 (.int .i64 high)).set_ 1 (.slice A1 n c1)
      have z0 := hR.cellAt 0 (by simp)
      have z1 := hR.cellAt 1 (by simp)
      simp only [List.set_cons_zero, List.set_cons_succ, List.getElem_cons_zero, List.getElem_cons_succ] at z0 z1
      refine bodyPost_ret (v := .tuple #[.agg #[.int .i64 high, .slice A1 n c1], .int .i64 (-1)]) (by simp [results, Try.results18, go_sem, z0, z1]) rfl ?_
      exact yt_out H0.out HN.out HO5.out hs2 HB5.out
    | true =>
      obtain ⟨k, rfl, hk⟩ := inI_yes hi
      have hkz : k < rows.length := by rw [HN.out]; exact hk
      have hkl : k < (intss rows).length := by rw [intss_len]; exact hkz
      obtain ⟨b, o, rfl, hl0, B, c', hcell0, hle, hmx, hrB0⟩ := HR.out.pos hkl
      have hl : b < w5.heap.size := Nat.lt_of_lt_of_le hl0 HB5.out.size
      have hcell := (HB5.out.cell (p := ⟨b, o + k, none⟩) hl0).trans hcell0
      simp only [intss_at, ints_len] at hcell
      have hki : (k : Int) < (n : Int) := by omega
      by_cases hz : rows[k] = []
      · have H0 := Lib.hid (ytake_no HOK.out (i := (k : Int)) (fun h => by
          have e : rows.getD (k : Int).toNat [] = rows[k] := by rw [Int.toNat_natCast, List.getD_eq_getElem?_getD, List.getElem?_eq_getElem hkz]; rfl
          rw [e] at h
          exact h.2 hz))
        have hz0 : (rows[k]).length = 0 := by rw [hz]; rfl
        rw [hz0] at hcell
        clear hi P5 Q5 X5 b5 hcell0 hle hmx hrB0 hz hz0 hr
        go_wp2_with fail
        have hR := (HQ5.out.set_ 0 (.int .i64 high)).set_ 1 (.slice A1 n c1)
        have z0 := hR.cellAt 0 (by simp)
        have z1 := hR.cellAt 1 (by simp)
        simp only [List.set_cons_zero, List.set_cons_succ, List.getElem_cons_zero, List.getElem_cons_succ] at z0 z1
        refine bodyPost_ret (v := .tuple #[.agg #[.int .i64 high, .slice A1 n c1], .int .i64 (-1)]) (by simp [results, Try.results18, go_sem, z0, z1]) rfl ?_
        exact yt_out H0.out HN.out HO5.out hs2 HB5.out
      · have H0 := Lib.hid (ytake_yes HOK.out hkz hz)
        have hpl := HG5.out rows[k] (List.getElem_mem hkz)
        have hzp : 0 < (rows[k]).length := List.length_pos_iff.2 hz
        have hpop := yardPop high A1 n c1 k w2.heap.size w3.heap.size rows w5 HN.out HO5.out hkz hz (by omega) (by omega)
        have HSL : Hid ((rows.set k rows[k].dropLast).length = n) := Lib.hid (by rw [List.length_set]; exact HN.out)
        have HPOP := Lib.hid hpop
        have hne : ¬ ((rows[k]).length : Int) = 0 := by omega
        generalize rows[k].getLast hz = id at *
        generalize rows.set k rows[k].dropLast = rows2 at *
        generalize (rows[k]).length = p at *
        clear hi P5 Q5 X5 b5 hcell0 hle hmx hrB0 hz hpop hr
        go_wp2_with fail
        refine HPOP.out.mono ?_
        rintro e w6 ⟨rfl, O6, o6⟩
        have hQ6 : Blk w6 (w.heap.size + 1) 27 [.int .i64 0, .slice none 0 0] := (o6.block _ HQ5.out.lt (.inl (by omega))).trans HQ5.out
        have hX6 : Blk w6 w3.heap.size 27 [.int .i64 high, .slice A1 n c1] := (o6.block _ HX5.out.lt (.inr (Nat.le_refl _))).trans HX5.out
        have HB6 := Lib.hid (below_out HB5.out o6 (by omega))
        have HO6 := Lib.hid O6
        clear x0 x1 y0 y1 f0 f1 v0 v1 hcell
        have y0 := hQ6.cellAt 0 (by simp)
        have y1 := hQ6.cellAt 1 (by simp)
        have f0 := hQ6.frozen 0
        have f1 := hQ6.frozen 1
        have v0 := hX6.cellAt 0 (by simp)
        have v1 := hX6.cellAt 1 (by simp)
        simp only [List.getElem_cons_zero, List.getElem_cons_succ] at y0 y1 v0 v1
        have HQ6 := Lib.hid hQ6
        clear hQ6 hX6 O6 o6
        go_wp2_with fail
        have hR := (HQ6.out.set_ 0 (.int .i64 high)).set_ 1 (.slice A1 n c1)
        have z0 := hR.cellAt 0 (by simp)
        have z1 := hR.cellAt 1 (by simp)
        simp only [List.set_cons_zero, List.set_cons_succ, List.getElem_cons_zero, List.getElem_cons_succ] at z0 z1
        refine bodyPost_ret (v := .tuple #[.agg #[.int .i64 high, .slice A1 n c1], .int .i64 (id)]) (by simp [results, Try.results18, go_sem, z0, z1]) rfl ?_
        exact yt_out H0.out HSL.out HO6.out hs2 HB6.out
/-- five cells -/
def Keep5 (W : World) (p b i b2 j q : Nat) (v1 v2 v3 v4 v5 : Value) : Prop := W.cell? ⟨p, 1, none⟩ = some v1 ∧ W.cell? ⟨b, i, none⟩ = some v2 ∧ W.cell? ⟨b2, j, none⟩ = some v3 ∧ W.cell? ⟨q, 0, none⟩ = some v4 ∧ W.cell? ⟨q, 1, none⟩ = some v5
theorem Keep5.drew {W : World} {p b i b2 j q : Nat} {v1 v2 v3 v4 v5 : Value} (h : Keep5 W p b i b2 j q v1 v2 v3 v4 v5) : Keep5 W.drew p b i b2 j q v1 v2 v3 v4 v5 := h
theorem far_cell {W : World} {x y i j : Nat} {u v : Value} (h : W.cell? ⟨x, i, none⟩ = some v) (hne : x ≠ y) : (W.setCell ⟨y, j, none⟩ u).cell? ⟨x, i, none⟩ = some v :=
  (World.cell?_of_block (Below.heap_setCell W ⟨y, j, none⟩ u x hne)).trans h
theorem Keep5.set2 {W : World} {p b i b2 j q r : Nat} {v1 v2 v3 v4 v5 u1 u2 : Value} (h : Keep5 W p b i b2 j q v1 v2 v3 v4 v5) (n1 : p ≠ r) (n2 : b ≠ r) (n3 : b2 ≠ r) (n4 : q ≠ r) : Keep5 ((W.setCell ⟨r, 0, none⟩ u1).setCell ⟨r, 1, none⟩ u2) p b i b2 j q v1 v2 v3 v4 v5 :=
  ⟨far_cell (far_cell h.1 n1) n1, far_cell (far_cell h.2.1 n2) n2, far_cell (far_cell h.2.2.1 n3) n3, far_cell (far_cell h.2.2.2.1 n4) n4, far_cell (far_cell h.2.2.2.2 n4) n4⟩
end Go.Proofs.Ytcbeoaedccdppaa
