/- YardPut, both programs: the plain word. -/
import Derived.Test.YtcbeoaedccdppaaYdG
import Derived.Deep.CutRange
import Derived.Deep.RegionLaw
namespace Go.Proofs.Ytcbeoaedccdppaa
open Go Go.ChangeShapes Go.WideShapes Go.ChangeAt Go.RowKit
set_option linter.unusedVariables false
/-- the answer, in memory of the call's own -/
def YPOut (w : World) (x : Int × List (List Int) × Bool) : Ending → World → Prop :=
  RVal fun u w' => ∃ A c, u = .tuple #[.agg #[.int .i64 x.1, .slice A x.2.1.length c], .bool x.2.2] ∧ OwnRR w' w.heap.size w'.heap.size 37 3 (.slice A x.2.1.length c) (intss x.2.1) ∧ Below w.heap.size w w'
theorem yp_zero {w wz : World} {x : Int × List (List Int) × Bool} {u1 u2 : Value} (h : x = (0, [], false)) (hB : Below w.heap.size w wz) :
    YPOut w x (.returned (.tuple #[.agg #[.int .i64 0, .slice none 0 0], .bool false])) ((wz.setCell ⟨w.heap.size + 1, 0, none⟩ u1).setCell ⟨w.heap.size + 1, 1, none⟩ u2) := by
  subst h
  exact RVal.mk ⟨none, 0, rfl, ownRR_none _ _ _ _, (hB.setCell (Nat.le_succ _) _).setCell (Nat.le_succ _) _⟩
theorem yp_out {w wz : World} {x : Int × List (List Int) × Bool} {high : Int} {b : Bool} {rows : List (List Int)} {n c lo hi : Nat} {A : Option Addr} {u1 u2 : Value} (h : x = (high, rows, b)) (hn : rows.length = n) (hO : OwnRR wz lo hi 37 3 (.slice A n c) (intss rows)) (hlo : w.heap.size + 2 ≤ lo) (hB : Below w.heap.size w wz) :
    YPOut w x (.returned (.tuple #[.agg #[.int .i64 high, .slice A n c], .bool b])) ((wz.setCell ⟨w.heap.size + 1, 0, none⟩ u1).setCell ⟨w.heap.size + 1, 1, none⟩ u2) := by
  subst h hn
  have htop : hi ≤ wz.heap.size := by obtain ⟨hs, h1, _⟩ := hO; exact h1.top
  exact RVal.mk ⟨A, c, rfl, ((hO.set_far _ _ _ (by omega) htop).set_far _ _ _ (by omega) (Nat.le_refl _)).base (by omega), (hB.setCell (Nat.le_succ _) _).setCell (Nat.le_succ _) _⟩
set_option maxRecDepth 100000 in
set_option maxHeartbeats 4000000 in
theorem specYardPut (high i x : Int) (A : Option Addr) (n c : Nat) (rows : List (List Int)) (w : World) (hn : rows.length = n) (hr : RdRR w A (intss rows)) (hm : n ≤ 1048576) (hin : ∀ s ∈ rows, s.length ≤ 1048576) :
    Calls Try.prog 16 #[.agg #[.int .i64 high, .slice A n c], .int .i64 i, .int .i64 x] w (YPOut w (yput high rows i x)) := by
  have en : IntKind.i64.wrap ((n : Int) - 1) = (n : Int) - 1 := IntWalk.i64_in _ (by omega)
  have HN := Lib.hid hn
  have HR := Lib.hid hr
  have HIN := Lib.hid hin
  clear hn hin
  have hal : Below w.heap.size w ((w.alloc (.cells #[.int .i64 high, .slice A n c] 27)).alloc (.cells #[.int .i64 0, .slice none 0 0] 27)) := ((Below.refl _ _).alloc (Nat.le_refl _) _).alloc (by simp) _
  have hP : Blk ((w.alloc (.cells #[.int .i64 high, .slice A n c] 27)).alloc (.cells #[.int .i64 0, .slice none 0 0] 27)) w.heap.size 27 [.int .i64 high, .slice A n c] := (Blk.new _ _ _).alloc _
  have hQ : Blk ((w.alloc (.cells #[.int .i64 high, .slice A n c] 27)).alloc (.cells #[.int .i64 0, .slice none 0 0] 27)) (w.heap.size + 1) 27 [.int .i64 0, .slice none 0 0] := by simpa using Blk.new (w.alloc (.cells #[.int .i64 high, .slice A n c] 27)) 27 [.int .i64 0, .slice none 0 0]
  have hs1 : w.heap.size + 2 ≤ ((w.alloc (.cells #[.int .i64 high, .slice A n c] 27)).alloc (.cells #[.int .i64 0, .slice none 0 0] 27)).heap.size := by simp
  go_enter Try.func16, Try.ntmps16
  go_wp2_with fail
  generalize (w.alloc (.cells #[.int .i64 high, .slice A n c] 27)).alloc (.cells #[.int .i64 0, .slice none 0 0] 27) = w1 at *
  refine (specYardValid high A n c rows _ HN.out (hr.below hal) (by omega)).mono ?_
  rintro e w2 ⟨rfl, b2⟩
  have hP2 := hP.later b2
  have hQ2 := hQ.later b2
  have B2 := below_trans hal b2
  have hs2 : w.heap.size + 2 ≤ w2.heap.size := Nat.le_trans hs1 b2.size
  have x0 := hP2.cellAt 0 (by simp)
  have x1 := hP2.cellAt 1 (by simp)
  have y0 := hQ2.cellAt 0 (by simp)
  have y1 := hQ2.cellAt 1 (by simp)
  have f0 := hQ2.frozen 0
  have f1 := hQ2.frozen 1
  simp only [List.getElem_cons_zero, List.getElem_cons_succ] at x0 x1 y0 y1
  clear hal hP hQ hs1 b2
  have l0 := hP2.lt
  have l1 := hQ2.lt
  cases hok : yardOk high rows with
  | false =>
    have H0 := Lib.hid (yput_bad i x hok)
    have HB2 := Lib.hid B2
    have HQ2 := Lib.hid hQ2
    clear hok B2 hQ2
    go_wp2_with fail
    have hR := (HQ2.out.set_ 0 (.int .i64 0)).set_ 1 (.slice none 0 0)
    have z0 := hR.cellAt 0 (by simp)
    have z1 := hR.cellAt 1 (by simp)
    simp only [List.set_cons_zero, List.set_cons_succ, List.getElem_cons_zero, List.getElem_cons_succ] at z0 z1
    refine bodyPost_ret (v := .tuple #[.agg #[.int .i64 0, .slice none 0 0], .bool false]) (by simp [results, Try.results16, go_sem, z0, z1]) rfl ?_
    exact yp_zero H0.out HB2.out
  | true =>
    obtain ⟨g1, g2, g3, g4, g5, g6⟩ := yardOk_parts hok
    have HG5 := Lib.hid g5
    clear g3 g4 g5 g6
    have HOK := Lib.hid hok
    have HB2 := Lib.hid B2
    have HP2 := Lib.hid hP2
    have HQ2 := Lib.hid hQ2
    clear hok B2 hP2 hQ2
    go_wp2_with fail
    refine (specCopy high A n c rows _ HN.out (HR.out.below HB2.out) (by omega) HIN.out).mono ?_
    rintro e w3 ⟨_, rfl, A1, c1, rfl, O3, b3⟩
    have hal3 : Below w3.heap.size w3 (w3.alloc (.cells #[.int .i64 high, .slice A1 n c1] 27)) := (Below.refl _ _).alloc (Nat.le_refl _) _
    have b4 := below_trans b3 hal3
    have hX4 : Blk (w3.alloc (.cells #[.int .i64 high, .slice A1 n c1] 27)) w3.heap.size 27 [.int .i64 high, .slice A1 n c1] := Blk.new _ _ _
    have hP4 := HP2.out.later b4
    have hQ4 := HQ2.out.later b4
    have O4 := O3.later hal3
    have hs23 := b3.size
    have B4 := below_trans HB2.out b4
    clear x0 x1 y0 y1 f0 f1 b3 hal3 O3 b4
    have x0 := hP4.cellAt 0 (by simp)
    have x1 := hP4.cellAt 1 (by simp)
    simp only [List.getElem_cons_zero, List.getElem_cons_succ] at x0 x1
    have HP4 := Lib.hid hP4
    have HQ4 := Lib.hid hQ4
    have HX4 := Lib.hid hX4
    have HO4 := Lib.hid O4
    have HB4 := Lib.hid B4
    clear hP4 hQ4 hX4 O4 B4
    go_wp2_with fail
    generalize w3.alloc (.cells #[.int .i64 high, .slice A1 n c1] 27) = w4 at *
    refine (l1In_any i 0 ((n : Int) - 1) _).mono ?_
    rintro e w5 ⟨rfl, rfl⟩
    have P5 := HP4.out
    have Q5 := HQ4.out
    have X5 := HX4.out
    clear x0 x1
    have x0 := P5.cellAt 0 (by simp)
    have x1 := P5.cellAt 1 (by simp)
    have y0 := Q5.cellAt 0 (by simp)
    have y1 := Q5.cellAt 1 (by simp)
    have f0 := Q5.frozen 0
    have f1 := Q5.frozen 1
    have v0 := X5.cellAt 0 (by simp)
    have v1 := X5.cellAt 1 (by simp)
    simp only [List.getElem_cons_zero, List.getElem_cons_succ] at x0 x1 y0 y1 v0 v1
    have l2 := Q5.lt
    have l3 := X5.lt
    cases hi : inI i 0 ((n : Int) - 1) with
    | false =>
      have H0 := Lib.hid (yput_out x HOK.out (fun h => by have := inI_no hi; rw [HN.out] at h; exact this h))
      clear hi P5 Q5 X5
      go_wp2_with fail
      have hR := (HQ4.out.set_ 0 (.int .i64 high)).set_ 1 (.slice A1 n c1)
      have z0 := hR.cellAt 0 (by simp)
      have z1 := hR.cellAt 1 (by simp)
      simp only [List.set_cons_zero, List.set_cons_succ, List.getElem_cons_zero, List.getElem_cons_succ] at z0 z1
      refine bodyPost_ret (v := .tuple #[.agg #[.int .i64 high, .slice A1 n c1], .bool false]) (by simp [results, Try.results16, go_sem, z0, z1]) rfl ?_
      exact yp_out H0.out HN.out HO4.out hs2 HB4.out
    | true =>
      obtain ⟨k, rfl, hk⟩ := inI_yes hi
      have hkz : k < rows.length := by rw [HN.out]; exact hk
      have hki : (k : Int) < (n : Int) := by omega
      have hki0 : (0 : Int) ≤ (k : Int) := by omega
      have hpl := HG5.out rows[k] (List.getElem_mem hkz)
      have H1 := Lib.hid (fun h => yput_yes (x := x) HOK.out hkz h)
      have H2 := Lib.hid (fun h => yput_no (x := x) HOK.out hkz h)
      have HL5 : Hid (∀ s ∈ rows.set k (rows[k] ++ [x]), s.length ≤ 1048576) := Lib.hid (fun s hs => by
        rcases List.mem_or_eq_of_mem_set hs with hs | rfl
        · exact HIN.out s hs
        · rw [List.length_append, List.length_singleton]; omega)
      clear hi P5 Q5 X5 x0 x1 y0 y1 f0 f1 v0 v1
      obtain ⟨g, B7, c7', rfl, t1, t2, t3, t4, t5, t6, hpush⟩ := HO4.out.push hkz x
      have HPUSH := Lib.hid hpush
      have HPL := Lib.hid hpl
      have hpl5 : (rows[k]).length ≤ 8589934592 := by omega
      have HSL : Hid ((rows.set k (rows[k] ++ [x])).length = n) := Lib.hid (by rw [List.length_set]; exact HN.out)
      generalize rows.set k (rows[k] ++ [x]) = rows2 at *
      generalize hzs : rows[k] = zs at *
      generalize zs.length = p at *
      have x1 := HX4.out.cellAt 1 (by simp)
      have d1 := (HX4.out.alloc (.cells #[.int .i64 x] 3)).cellAt 1 (by simp)
      simp only [List.getElem_cons_zero, List.getElem_cons_succ] at x1 d1
      have d2 : (w4.alloc (.cells #[.int .i64 x] 3)).cell? ⟨g, k, none⟩ = some (.slice B7 p c7') := (((Below.refl _ _).alloc (Nat.le_refl _) _ : Below w4.heap.size w4 (w4.alloc (.cells #[.int .i64 x] 3))).cell (p := ⟨g, k, none⟩) (show g < w4.heap.size by omega)).trans t3
      have hsz7 : w2.heap.size ≤ w4.drew.heap.size := by show w2.heap.size ≤ w4.heap.size; omega
      have T5 := Lib.hid t5
      have hlo7 := HX4.out.lt
      clear hpush hzs t5
      go_upto_region 6 with fail
      go_cut [] from 23 to 34 (fun wx => OwnRR wx w2.heap.size wx.heap.size 37 3 (.slice (some ⟨g, 0, none⟩) n c1) (intss rows2) ∧ Out w2.heap.size w3.heap.size w4 wx)
      case first =>
        go_region_law (first
          | (refine step_append_new rfl (.tmp 30) (.tmp 32) 37 rfl 3 _ _ _ Try.underlying37 int_infoY w2.heap.size w4.drew (.slice B7 p c7') p (ints zs) rfl T5.out [.int .i64 x] (by first | rfl | (simp; with_unfolding_all rfl)) rfl (by simp [Value.oneCell']) hpl5 hsz7 ?_
             intro v7 w7 hown7 hg7 hb7
             obtain ⟨m1, m2, m3, m4, m5⟩ := HPUSH.out w7 v7 hown7 hg7 hb7
             obtain ⟨A7, c7, rfl, _, _⟩ := own_slice hown7
             have P7 : Blk w7 w3.heap.size 27 [.int .i64 high, .slice (some ⟨g, 0, none⟩) n c1] := (m3.block _ hlo7 (.inr (Nat.le_refl _))).trans HX4.out
             have d7 := P7.cellAt 1 (by simp)
             simp only [List.getElem_cons_zero, List.getElem_cons_succ] at d7
             have M4 := Lib.hid m4
             have M5 := Lib.hid m5
             clear m3 m4 m5 hown7 hg7 hb7 P7))
        all_goals
          go_wp2_with fail
          go_meet
          exact ⟨M4.out, M5.out⟩
      case rest =>
        obtain ⟨O7, o7⟩ := hcut
        clear d1 d2 t3 t4 T5 HPUSH x1
        have P7 := (o7.block _ HP4.out.lt (.inl (by omega))).trans HP4.out
        have Q7 := (o7.block _ HQ4.out.lt (.inl (by omega))).trans HQ4.out
        have X7 := (o7.block _ HX4.out.lt (.inr (Nat.le_refl _))).trans HX4.out
        change Blk _ _ _ _ at P7 Q7 X7
        have b7 := below_out HB4.out o7 (by omega)
        have v0 := X7.cellAt 0 (by simp)
        have v1 := X7.cellAt 1 (by simp)
        simp only [List.getElem_cons_zero, List.getElem_cons_succ] at v0 v1
        have HP7 := Lib.hid P7
        have HQ7 := Lib.hid Q7
        have HX7 := Lib.hid X7
        have HO7 := Lib.hid O7
        have HB7 := Lib.hid b7
        have hs7 := o7.size
        clear P7 Q7 X7 O7 b7 o7
        go_wp2_with fail
        refine (specYardValid high (some ⟨g, 0, none⟩) n c1 rows2 _ HSL.out HO7.out.rd (by omega)).mono ?_
        rintro e w8 ⟨rfl, b8⟩
        have P8 := HP7.out.later b8
        have Q8 := HQ7.out.later b8
        have X8 := HX7.out.later b8
        clear v0 v1
        have x0 := P8.cellAt 0 (by simp)
        have x1 := P8.cellAt 1 (by simp)
        have y0 := Q8.cellAt 0 (by simp)
        have y1 := Q8.cellAt 1 (by simp)
        have f0 := Q8.frozen 0
        have f1 := Q8.frozen 1
        have v0 := X8.cellAt 0 (by simp)
        have v1 := X8.cellAt 1 (by simp)
        simp only [List.getElem_cons_zero, List.getElem_cons_succ] at x0 x1 y0 y1 v0 v1
        have HQ8 := Lib.hid Q8
        have HO8 := Lib.hid (HO7.out.later b8)
        have HB8 := Lib.hid (below_trans HB7.out b8)
        have l8 := b8.size
        cases hok2 : yardOk high rows2 with
        | true =>
          have H0 := Lib.hid (H1.out hok2)
          clear hok2 P8 Q8 X8 b8
          go_wp2_with fail
          have hR := (HQ8.out.set_ 0 (.int .i64 high)).set_ 1 (.slice (some ⟨g, 0, none⟩) n c1)
          have z0 := hR.cellAt 0 (by simp)
          have z1 := hR.cellAt 1 (by simp)
          simp only [List.set_cons_zero, List.set_cons_succ, List.getElem_cons_zero, List.getElem_cons_succ] at z0 z1
          refine bodyPost_ret (v := .tuple #[.agg #[.int .i64 high, .slice (some ⟨g, 0, none⟩) n c1], .bool true]) (by simp [results, Try.results16, go_sem, z0, z1]) rfl ?_
          exact yp_out H0.out HSL.out HO8.out hs2 HB8.out
        | false =>
          have H0 := Lib.hid (H2.out hok2)
          clear hok2 P8 Q8 X8 b8
          go_wp2_with fail
          refine (specCopy high A n c rows _ HN.out (HR.out.below HB8.out) (by omega) HIN.out).mono ?_
          rintro e w9 ⟨_, rfl, A9, c9, rfl, O9, b9⟩
          have Q9 := HQ8.out.later b9
          have y0 := Q9.cellAt 0 (by simp)
          have y1 := Q9.cellAt 1 (by simp)
          have f0 := Q9.frozen 0
          have f1 := Q9.frozen 1
          simp only [List.getElem_cons_zero, List.getElem_cons_succ] at y0 y1
          have HQ9 := Lib.hid Q9
          have HO9 := Lib.hid O9
          have HB9 := Lib.hid (below_trans HB8.out b9)
          have hlo9 : w.heap.size + 2 ≤ w8.heap.size := by omega
          clear Q9 O9 b9 x0 x1 v0 v1
          go_wp2_with fail
          have hR := (HQ9.out.set_ 0 (.int .i64 high)).set_ 1 (.slice A9 n c9)
          have z0 := hR.cellAt 0 (by simp)
          have z1 := hR.cellAt 1 (by simp)
          simp only [List.set_cons_zero, List.set_cons_succ, List.getElem_cons_zero, List.getElem_cons_succ] at z0 z1
          refine bodyPost_ret (v := .tuple #[.agg #[.int .i64 high, .slice A9 n c9], .bool false]) (by simp [results, Try.results16, go_sem, z0, z1]) rfl ?_
          exact yp_out H0.out HN.out HO9.out hlo9 HB9.out
end Go.Proofs.Ytcbeoaedccdppaa
