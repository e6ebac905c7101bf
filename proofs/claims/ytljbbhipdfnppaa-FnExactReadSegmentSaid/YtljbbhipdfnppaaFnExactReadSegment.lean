/- FnExactReadSegment returns true, for all arguments; no condition. -/
import Derived.Test.YtljbbhipdfnppaaSegW
import Derived.Test.YtljbbhipdfnppaaSegX
namespace Go.Proofs.Ytljbbhipdfnppaa
open Go Go.ChangeShapes Go.WideShapes Go.ChangeAt Go.RowKit
set_option linter.unusedVariables false
set_option maxRecDepth 100000 in
set_option maxHeartbeats 4000000 in
theorem walkFnExactReadSegment (w : World) (s : ByteArray) (hmax : s.size ≤ maxLen) :
    Calls Try.prog 5 #[.string s] w fun e w' => e = .returned (.bool true) ∧ Below w.heap.size w w' := by
  unfold maxLen at hmax
  by_cases hn : s.size ≤ 1048576
  · obtain ⟨f1, f2, f3, f4⟩ := rd_facts s.data.toList
    rw [list_len] at f4
    have hxl : (tx (rdE (rdSeg s.data.toList))).length ≤ 5 := by rw [tx, List.length_map]; exact f1
    have cS := fun w => segRd (specReadSegment s w (by omega)) rfl rfl rfl rfl
    have cI := fun w => segRd (implRd s w (by omega)) rfl rfl rfl rfl
    generalize bA (rdT s.data.toList (rdSeg s.data.toList)) = tg at *
    generalize tx (rdE (rdSeg s.data.toList)) = ess at *
    generalize rdN (rdSeg s.data.toList) = N at *
    generalize hm : ess.length = m at *
    have HM := Lib.hid hm
    have HIN : Hid (∀ zs ∈ ess, zs.length ≤ 1099511627776) := Lib.hid (fun zs hz => by have := f2 zs hz; omega)
    generalize htot : totR ess = tot at *
    have HT := Lib.hid htot
    have hNN : ((N : Int) != (N : Int)) = false := by simp
    have htt : (1 + (tot : Int) != 1 + (tot : Int)) = false := by simp
    have ht0 : ¬ (1 + (tot : Int) < 0) := by omega
    clear hm htot f1 f2
    go_enter Try.func5, Try.ntmps5
    go_wp2_with fail
    refine (cS _).mono ?_
    rintro e w1 ⟨_, rfl, A1, c1, rfl, O1, b1⟩
    have HS3 := Lib.hid b1.size
    have hal2 : Below w1.heap.size w1 (w1.alloc (.cells #[.string tg, .slice A1 m c1] 25)) := (Below.refl _ _).alloc (Nat.le_refl _) _
    have hN2 : Blk (w1.alloc (.cells #[.string tg, .slice A1 m c1] 25)) w1.heap.size 25 [.string tg, .slice A1 m c1] := Blk.new _ _ _
    have B2 := Lib.hid (below_trans b1 hal2)
    have O2 := Lib.hid (O1.later hal2)
    have Q2 := Lib.hid hN2
    clear b1 O1 hal2 hN2
    go_wp2_with fail
    generalize w1.alloc (.cells #[.string tg, .slice A1 m c1] 25) = w2 at *
    generalize w1.heap.size = q3 at *
    refine (cI _).mono ?_
    rintro e w3 ⟨_, rfl, A2, c2, rfl, O3, b3⟩
    have hal4 : Below w3.heap.size w3 (w3.alloc (.cells #[.string tg, .slice A2 m c2] 25)) := (Below.refl _ _).alloc (Nat.le_refl _) _
    have hN4 : Blk (w3.alloc (.cells #[.string tg, .slice A2 m c2] 25)) w3.heap.size 25 [.string tg, .slice A2 m c2] := Blk.new _ _ _
    have b4 := below_trans b3 hal4
    have B4 := Lib.hid (below_trans B2.out b4)
    have P4 := Lib.hid (O2.out.later b4)
    have R4 := Lib.hid (O3.later hal4)
    have Q4 := Q2.out.later b4
    have HS4 := Lib.hid (show q3 < w2.heap.size from Q2.out.lt)
    have HS5 := Lib.hid (show w2.heap.size ≤ w3.heap.size from b3.size)
    have x0 := Q4.cellAt 0 (by simp)
    have x1 := Q4.cellAt 1 (by simp)
    have y0 := hN4.cellAt 0 (by simp)
    have y1 := hN4.cellAt 1 (by simp)
    simp only [List.getElem_cons_zero, List.getElem_cons_succ] at x0 x1 y0 y1
    have HQ4 := Lib.hid Q4
    have HY4 := Lib.hid hN4
    clear b3 b4 O3 hal4 hN4 Q4 B2 O2 Q2
    go_wp2_with fail
    generalize w3.alloc (.cells #[.string tg, .slice A2 m c2] 25) = w4 at *
    generalize w3.heap.size = q5 at *
    generalize w2.heap.size = lo at *
    refine (eqSegment_any tg A2 A1 m c2 c1 ess _ HM.out R4.out.rd P4.out.rd (by omega) HIN.out).mono ?_
    rintro e w5 ⟨rfl, b5⟩
    have B5 := Lib.hid (below_trans B4.out b5)
    have P5 := Lib.hid (P4.out.later b5)
    have R5 := Lib.hid (R4.out.later b5)
    have HQ5 := Lib.hid (HQ4.out.later b5)
    have hY5 := HY4.out.later b5
    have HY5 := Lib.hid hY5
    clear x0 x1 y0 y1
    have y0 := hY5.cellAt 0 (by simp)
    have y1 := hY5.cellAt 1 (by simp)
    simp only [List.getElem_cons_zero, List.getElem_cons_succ] at y0 y1
    clear b5 B4 P4 R4 HQ4 HY4 hY5
    have hmk := markSegment_any tg A2 m c2 lo q5 1 ess w5 HM.out R5.out (Nat.le_refl _) (by rw [HT.out]; omega) (by omega)
    rw [HT.out, show ((1 : Nat) : Int) = 1 from rfl] at hmk
    have HMK := Lib.hid hmk
    clear hmk
    go_wp2_with fail
    refine HMK.out.mono ?_
    rintro e w6 ⟨rfl, R6, o6⟩
    have hs4 := HS4.out
    have hs3 := HS3.out
    have hs5 := HS5.out
    have B6 := Lib.hid (below_out B5.out o6 (by omega))
    have P6 := Lib.hid (P5.out.out o6 (.inl (Nat.le_of_lt hs4)))
    have R6 := Lib.hid R6
    have hQ6 : Blk w6 q3 25 [.string tg, .slice A1 m c1] := (o6.block q3 HQ5.out.lt (.inl hs4)).trans HQ5.out
    have hY6 : Blk w6 q5 25 [.string tg, .slice A2 m c2] := (o6.block q5 HY5.out.lt (.inr (Nat.le_refl _))).trans HY5.out
    have HQ6 := Lib.hid hQ6
    have HY6 := Lib.hid hY6
    clear y0 y1
    have y0 := hY6.cellAt 0 (by simp)
    have y1 := hY6.cellAt 1 (by simp)
    simp only [List.getElem_cons_zero, List.getElem_cons_succ] at y0 y1
    have hhd := heldSegment_any tg A2 m c2 1 ess w6 HM.out R6.out.rd (Nat.le_refl _) (by rw [HT.out]; omega) (by omega)
    rw [HT.out, show ((1 : Nat) : Int) = 1 from rfl] at hhd
    have HHD := Lib.hid hhd
    clear hhd o6 B5 P5 R5 HQ5 HY5 hQ6 hY6 hs3 hs4 hs5
    go_wp2_with fail
    refine HHD.out.mono ?_
    rintro e w7 ⟨rfl, b7⟩
    have B7 := Lib.hid (below_trans B6.out b7)
    have P7 := Lib.hid (P6.out.later b7)
    have R7 := Lib.hid (R6.out.later b7)
    have HQ7 := Lib.hid (HQ6.out.later b7)
    have HY7 := Lib.hid (HY6.out.later b7)
    clear b7 B6 P6 R6 HQ6 HY6 y0 y1
    go_wp2_with fail
    refine (cI _).mono ?_
    rintro e w8 ⟨_, rfl, A3, c3, rfl, O8, b8⟩
    have hal9 : Below w8.heap.size w8 (w8.alloc (.cells #[.string tg, .slice A3 m c3] 25)) := (Below.refl _ _).alloc (Nat.le_refl _) _
    have hN9 : Blk (w8.alloc (.cells #[.string tg, .slice A3 m c3] 25)) w8.heap.size 25 [.string tg, .slice A3 m c3] := Blk.new _ _ _
    have b9 := below_trans b8 hal9
    have B9 := Lib.hid (below_trans B7.out b9)
    have P9 := Lib.hid (P7.out.later b9)
    have R9 := Lib.hid (R7.out.later b9)
    have U9 := Lib.hid (O8.later hal9)
    have hQ9 := HQ7.out.later b9
    have hY9 := HY7.out.later b9
    have x0 := hQ9.cellAt 0 (by simp)
    have x1 := hQ9.cellAt 1 (by simp)
    have u0 := hN9.cellAt 0 (by simp)
    have u1 := hN9.cellAt 1 (by simp)
    simp only [List.getElem_cons_zero, List.getElem_cons_succ] at x0 x1 u0 u1
    have HY9 := Lib.hid hY9
    clear b8 b9 O8 hal9 hN9 hQ9 hY9 B7 P7 R7 HQ7 HY7
    go_wp2_with fail
    generalize w8.alloc (.cells #[.string tg, .slice A3 m c3] 25) = w9 at *
    refine (eqSegment_any tg A3 A1 m c3 c1 ess _ HM.out U9.out.rd P9.out.rd (by omega) HIN.out).mono ?_
    rintro e wa ⟨rfl, ba⟩
    have Ba := Lib.hid (below_trans B9.out ba)
    have Ra := Lib.hid (R9.out.later ba)
    have hYa := HY9.out.later ba
    clear x0 x1 u0 u1 ba B9 P9 R9 U9 HY9
    have y0 := hYa.cellAt 0 (by simp)
    have y1 := hYa.cellAt 1 (by simp)
    simp only [List.getElem_cons_zero, List.getElem_cons_succ] at y0 y1
    have hhd := heldSegment_any tg A2 m c2 1 ess wa HM.out Ra.out.rd (Nat.le_refl _) (by rw [HT.out]; omega) (by omega)
    rw [HT.out, show ((1 : Nat) : Int) = 1 from rfl] at hhd
    have HHE := Lib.hid hhd
    clear hhd hYa
    go_wp2_with fail
    refine HHE.out.mono ?_
    rintro e wb ⟨rfl, bb⟩
    have Bb := Lib.hid (below_trans Ba.out bb)
    clear bb y0 y1
    go_wp2_with fail
    go_ret
    exact ⟨rfl, Bb.out⟩
  · go_enter Try.func5, Try.ntmps5
    go_wp2_with fail
    go_ret
    exact ⟨rfl, Below.refl _ _⟩
end Go.Proofs.Ytljbbhipdfnppaa
