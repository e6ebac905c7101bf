/- Several texts of the proof in one; each says at its head what it proves; no condition. -/
import Derived.Test.YtbllbpjlkechdaaGreatMg6
import Derived.Test.YtbllbpjlkechdaaGreatMg9
import Derived.Test.YtbllbpjlkechdaaGreatMg11
import Derived.Test.YtbllbpjlkechdaaGreatMg7
import Derived.Test.YtbllbpjlkechdaaGreatMg1
import Derived.Test.YtbllbpjlkechdaaGreatMg4
import Derived.StillTailTactics
import Derived.Shelf.SlSortCmp.QuietGrown
section
/- Terminals: the program says whether one is valid. -/
namespace Go.Proofs.YtbllbpjlkechdaaGreat
open Go Go.ChangeShapes Go.WideShapes Go.ChangeAt Go.RowKit
set_option linter.unusedVariables false
set_option maxHeartbeats 4000000 in
set_option maxRecDepth 100000 in
theorem implTermValid (high : Int) (x : HullV) (YA BA PA HA LA : Option Addr) (yn yc bn bc pn pc hn hc ln lc : Nat) (rows : List (List Int)) (bs : List BoxV) (plan : List Int) (hs : List HoldV) (ls : List Int) (w : World) (T : TrmRd w YA BA PA HA LA yn bn bc pn pc hn ln rows bs plan hs ls) :
    Calls Tryz.prog 11 #[.agg #[.int .i64 high, .slice YA yn yc, .int .i64 x.f0, .int .i64 x.f1, .int .i64 x.f2, .slice BA bn bc, .slice PA pn pc, .slice HA hn hc, .slice LA ln lc]] w fun e w' => e = .returned (.bool (termOk high rows x bs plan ⟨hs, ls⟩)) ∧ Below w.heap.size w w' := by
  obtain ⟨y0, y1, y2⟩ := x
  have TT := Lib.hid T
  have t1 := T.ym
  have t2 := T.bm
  have t3 := T.pm
  have t4 := T.hm
  have t5 := T.lm
  clear T
  have hal : Below w.heap.size w (w.alloc (.cells #[.int .i64 high, .slice YA yn yc, .int .i64 y0, .int .i64 y1, .int .i64 y2, .slice BA bn bc, .slice PA pn pc, .slice HA hn hc, .slice LA ln lc] 43)) := (Below.refl _ _).alloc (Nat.le_refl _) _
  have hP : Blk (w.alloc (.cells #[.int .i64 high, .slice YA yn yc, .int .i64 y0, .int .i64 y1, .int .i64 y2, .slice BA bn bc, .slice PA pn pc, .slice HA hn hc, .slice LA ln lc] 43)) w.heap.size 43 [.int .i64 high, .slice YA yn yc, .int .i64 y0, .int .i64 y1, .int .i64 y2, .slice BA bn bc, .slice PA pn pc, .slice HA hn hc, .slice LA ln lc] := Blk.new _ _ _
  dsimp only at *
  go_enter Tryz.func11, Tryz.ntmps11
  go_wp2_with fail
  generalize w.alloc (.cells #[.int .i64 high, .slice YA yn yc, .int .i64 y0, .int .i64 y1, .int .i64 y2, .slice BA bn bc, .slice PA pn pc, .slice HA hn hc, .slice LA ln lc] 43) = w1 at *
  have T1 := TT.out.below hal
  refine (implYardValid high YA yn yc rows w1 T1.yl T1.yr (by omega)).mono ?_
  rintro e w2 ⟨rfl, b2⟩
  have HB := Lib.hid (below_trans hal b2)
  have P2 := hP.later b2
  clear hal hP b2 T1
  cases hy : yardOk high rows with
  | false =>
    have HE : Hid (termOk high rows ⟨y0, y1, y2⟩ bs plan ⟨hs, ls⟩ = false) := Lib.hid (termOk_yard hy)
    clear hy P2
    go_wp2_with fail
    go_ret
    exact ⟨by rw [HE.out]; rfl, HB.out⟩
  | true =>
    have HY := Lib.hid hy
    clear hy
    have x0 := (P2).cellAt 0 (by simp)
    have x1 := (P2).cellAt 1 (by simp)
    have x2 := (P2).cellAt 2 (by simp)
    have x3 := (P2).cellAt 3 (by simp)
    have x4 := (P2).cellAt 4 (by simp)
    have x5 := (P2).cellAt 5 (by simp)
    have x6 := (P2).cellAt 6 (by simp)
    have x7 := (P2).cellAt 7 (by simp)
    have x8 := (P2).cellAt 8 (by simp)
    simp only [List.getElem_cons_zero, List.getElem_cons_succ] at x0 x1 x2 x3 x4 x5 x6 x7 x8
    have xl := (P2).lt
    go_wp2_with fail
    have T2 := TT.out.below HB.out
    refine (implPlanValid ⟨y0, y1, y2⟩ BA PA bn bc pn pc bs plan w2 T2.bl T2.br T2.bk (by omega) T2.pl T2.pr T2.pk T2.px).mono ?_
    rintro e w3 ⟨rfl, b3⟩
    have HB3 := Lib.hid (below_trans HB.out b3)
    have P3 := P2.later b3
    clear b3 HB P2 T2 x0 x1 x2 x3 x4 x5 x6 x7 x8 xl
    cases hp : planOk ⟨y0, y1, y2⟩ bs plan with
    | false =>
      have HE : Hid (termOk high rows ⟨y0, y1, y2⟩ bs plan ⟨hs, ls⟩ = false) := Lib.hid (termOk_plan hp)
      have HB := HB3
      clear hp P3
      go_wp2_with fail
      go_ret
      exact ⟨by rw [HE.out]; rfl, HB.out⟩
    | true =>
      have HPL := Lib.hid hp
      clear hp
      have x0 := (P3).cellAt 0 (by simp)
      have x1 := (P3).cellAt 1 (by simp)
      have x2 := (P3).cellAt 2 (by simp)
      have x3 := (P3).cellAt 3 (by simp)
      have x4 := (P3).cellAt 4 (by simp)
      have x5 := (P3).cellAt 5 (by simp)
      have x6 := (P3).cellAt 6 (by simp)
      have x7 := (P3).cellAt 7 (by simp)
      have x8 := (P3).cellAt 8 (by simp)
      simp only [List.getElem_cons_zero, List.getElem_cons_succ] at x0 x1 x2 x3 x4 x5 x6 x7 x8
      have xl := (P3).lt
      go_wp2_with fail
      have T3 := TT.out.below HB3.out
      refine (implPapersValid HA LA hn hc ln lc hs ls w3 T3.hl T3.ll T3.hr T3.lr (by omega) (by omega)).mono ?_
      rintro e w4 ⟨rfl, b4⟩
      have HB4 := Lib.hid (below_trans HB3.out b4)
      have P4 := P3.later b4
      clear b4 HB3 P3 T3 x0 x1 x2 x3 x4 x5 x6 x7 x8 xl
      cases hpp : papOk hs ls with
      | false =>
        have HE : Hid (termOk high rows ⟨y0, y1, y2⟩ bs plan ⟨hs, ls⟩ = false) := Lib.hid (termOk_pap hpp)
        have HB := HB4
        clear hpp P4
        go_wp2_with fail
        go_ret
        exact ⟨by rw [HE.out]; rfl, HB.out⟩
      | true =>
        have HPP := Lib.hid hpp
        clear hpp
        have x0 := (P4).cellAt 0 (by simp)
        have x1 := (P4).cellAt 1 (by simp)
        have x2 := (P4).cellAt 2 (by simp)
        have x3 := (P4).cellAt 3 (by simp)
        have x4 := (P4).cellAt 4 (by simp)
        have x5 := (P4).cellAt 5 (by simp)
        have x6 := (P4).cellAt 6 (by simp)
        have x7 := (P4).cellAt 7 (by simp)
        have x8 := (P4).cellAt 8 (by simp)
        simp only [List.getElem_cons_zero, List.getElem_cons_succ] at x0 x1 x2 x3 x4 x5 x6 x7 x8
        have xl := (P4).lt
        go_wp2_with fail
        have T4 := TT.out.below HB4.out
        refine (implTooNear ⟨y0, y1, y2⟩ BA PA bn bc pn pc bs plan w4 T4.bl T4.br T4.bk (by omega) T4.pl T4.pr T4.pk T4.px).mono ?_
        rintro e w5 ⟨_, rfl, NB, nd, rfl, b5⟩
        have HB5 := Lib.hid (below_trans HB4.out b5)
        have P5 := P4.later b5
        clear b5 HB4 P4 T4 x0 x1 x2 x3 x4 x5 x6 x7 x8 xl
        have HNE := Lib.hid (termOk_near (high := high) (rows := rows) (h := ⟨y0, y1, y2⟩) (bs := bs) (plan := plan) (p := ⟨hs, ls⟩))
        have HRE := Lib.hid (fun e4 => termOk_rest (high := high) (rows := rows) (h := ⟨y0, y1, y2⟩) (bs := bs) (plan := plan) (hs := hs) (ls := ls) HY.out HPL.out HPP.out e4)
        generalize nearN ⟨y0, y1, y2⟩ bs plan = nn at *
        by_cases hnn : 0 < nn
        · have HE := Lib.hid (HNE.out hnn)
          have HB := HB5
          have hni : 0 < (nn : Int) := by omega
          clear HNE HRE P5
          go_wp2_with fail
          go_ret
          exact ⟨by rw [HE.out]; rfl, HB.out⟩
        · obtain rfl : nn = 0 := by omega
          have HR := Lib.hid (HRE.out rfl)
          clear HNE HRE hnn
          have x0 := (P5).cellAt 0 (by simp)
          have x1 := (P5).cellAt 1 (by simp)
          have x2 := (P5).cellAt 2 (by simp)
          have x3 := (P5).cellAt 3 (by simp)
          have x4 := (P5).cellAt 4 (by simp)
          have x5 := (P5).cellAt 5 (by simp)
          have x6 := (P5).cellAt 6 (by simp)
          have x7 := (P5).cellAt 7 (by simp)
          have x8 := (P5).cellAt 8 (by simp)
          simp only [List.getElem_cons_zero, List.getElem_cons_succ] at x0 x1 x2 x3 x4 x5 x6 x7 x8
          have xl := (P5).lt
          go_wp2_with fail
          have T5 := TT.out.below HB5.out
          refine (implYardIds high YA yn yc rows w5 T5.yl T5.yr T5.ym).mono ?_
          rintro e w6 ⟨_, rfl, IB, idd, rfl, OI, b6⟩
          have RI := Lib.hid (own_rd OI)
          have HB6 := Lib.hid (below_trans HB5.out b6)
          have P6 := Lib.hid (P5.later b6)
          have HAL := Lib.hid (fun f => idsA_all HY.out f)
          have hil := (ids_len high rows).2
          clear b6 HB5 P5 T5 x0 x1 x2 x3 x4 x5 x6 x7 x8 xl OI
          generalize idsA high rows = ids at *
          generalize hL : ids.length = L at *
          have HL := Lib.hid hL
          clear hL
          have T6 := Lib.hid (TT.out.below HB6.out)
          go_wp2_with fail
          go_loopw [40, 4] (fun i _ wr => ∃ k : Nat, k ≤ L ∧ i = .int .i64 k ∧ Hid ((ids.take k).all (idGood bs plan ls) = true) ∧ Hid (Below w6.heap.size w6 wr)) (fun i _ _ => L - (intOf i).toNat)
          case atStart => exact ⟨0, Nat.zero_le _, rfl, Lib.hid (by simp), Lib.hid (Below.refl _ _)⟩
          case round =>
            obtain ⟨k, hk, rfl, HJ, HBW⟩ := hrel
            have P7 := P6.out.later HBW.out
            have T7 := T6.out.below HBW.out
            have HB7 := Lib.hid (below_trans HB6.out HBW.out)
            by_cases hlt : k < L
            · have hki : (k : Int) < (L : Int) := by omega
              have hkz : k < ids.length := by rw [HL.out]; exact hlt
              obtain ⟨ib, io, rfl, hib, hic⟩ := ints_cell (RI.out.below HBW.out) hkz
              have hcell := hic k hkz
              have HGO : Hid (idGood bs plan ls ids[k] = true → (ids.take (k + 1)).all (idGood bs plan ls) = true) := Lib.hid (fun h => all_step hkz HJ.out h)
              have HBA : Hid (idGood bs plan ls ids[k] = false → termOk high rows ⟨y0, y1, y2⟩ bs plan ⟨hs, ls⟩ = false) := Lib.hid (fun h => by rw [HR.out, ← HAL.out, all_bad hkz h]; rfl)
              generalize ids[k] = v at *
              have HBI := Lib.hid (idx_has bs v)
              clear hic
              have x0 := (P7).cellAt 0 (by simp)
              have x1 := (P7).cellAt 1 (by simp)
              have x2 := (P7).cellAt 2 (by simp)
              have x3 := (P7).cellAt 3 (by simp)
              have x4 := (P7).cellAt 4 (by simp)
              have x5 := (P7).cellAt 5 (by simp)
              have x6 := (P7).cellAt 6 (by simp)
              have x7 := (P7).cellAt 7 (by simp)
              have x8 := (P7).cellAt 8 (by simp)
              simp only [List.getElem_cons_zero, List.getElem_cons_succ] at x0 x1 x2 x3 x4 x5 x6 x7 x8
              have xl := (P7).lt
              go_wp2_with fail
              refine (boxAt_any BA bn bc bs v _ T7.bl T7.br (by omega)).mono ?_
              rintro e w8 ⟨rfl, b8⟩
              have HBW8 := Lib.hid (below_trans HBW.out b8)
              have HB := Lib.hid (below_trans HB7.out b8)
              have P8 := P7.later b8
              have T8 := T7.below b8
              clear b8 P7 T7 x0 x1 x2 x3 x4 x5 x6 x7 x8 xl HB7
              generalize idxI (findF bs v) = fi at *
              cases hf : hasF bs v with
              | false =>
                have HE := Lib.hid (HBA.out (by simp [idGood, hf]))
                have hfi := HBI.out
                rw [hf] at hfi
                have hlt0 : decide (fi < 0) = true := hfi
                have hlt1 : fi < 0 := of_decide_eq_true hlt0
                clear hf hfi P8 T8
                go_wp2_with fail
                go_ret
                exact ⟨by rw [HE.out]; rfl, HB.out⟩
              | true =>
                have hfi := HBI.out
                rw [hf] at hfi
                have hlt0 : decide (fi < 0) = false := hfi
                have hlt1 : ¬ fi < 0 := of_decide_eq_false hlt0
                have HF := Lib.hid hf
                clear hf hfi
                have x0 := (P8).cellAt 0 (by simp)
                have x1 := (P8).cellAt 1 (by simp)
                have x2 := (P8).cellAt 2 (by simp)
                have x3 := (P8).cellAt 3 (by simp)
                have x4 := (P8).cellAt 4 (by simp)
                have x5 := (P8).cellAt 5 (by simp)
                have x6 := (P8).cellAt 6 (by simp)
                have x7 := (P8).cellAt 7 (by simp)
                have x8 := (P8).cellAt 8 (by simp)
                simp only [List.getElem_cons_zero, List.getElem_cons_succ] at x0 x1 x2 x3 x4 x5 x6 x7 x8
                have xl := (P8).lt
                go_wp2_with fail
                refine (contains_int PA pn pc plan v _ T8.pl T8.pr (by omega)).mono ?_
                rintro e w9 ⟨rfl, rfl⟩
                cases hi : hasI plan v with
                | true =>
                  have HE := Lib.hid (HBA.out (by simp [idGood, hi]))
                  clear hi
                  go_wp2_with fail
                  go_ret
                  exact ⟨by rw [HE.out]; rfl, HB.out⟩
                | false =>
                  have HI := Lib.hid hi
                  clear hi
                  go_wp2_with fail
                  refine (contains_int LA ln lc ls v _ T8.ll T8.lr (by omega)).mono ?_
                  rintro e w9 ⟨rfl, rfl⟩
                  cases hi2 : hasI ls v with
                  | true =>
                    have HE := Lib.hid (HBA.out (by simp [idGood, hi2]))
                    clear hi2
                    go_wp2_with fail
                    go_ret
                    exact ⟨by rw [HE.out]; rfl, HB.out⟩
                  | false =>
                    have HG := Lib.hid (HGO.out (by simp [idGood, hi2, HF.out, HI.out]))
                    clear hi2
                    go_wp2_with fail
                    go_roundw
                    case rel => exact ⟨k + 1, by omega, by go_num, HG, HBW8⟩
                    case measure => simp [intOf]; omega
            · obtain rfl : k = L := by omega
              have HE : Hid (termOk high rows ⟨y0, y1, y2⟩ bs plan ⟨hs, ls⟩ = !plan.any (hasI ls)) := Lib.hid (by
                have := HJ.out
                rw [List.take_of_length_le (by rw [HL.out]; exact Nat.le_refl _)] at this
                rw [HR.out, ← HAL.out, this]
                rfl)
              have x0 := (P7).cellAt 0 (by simp)
              have x1 := (P7).cellAt 1 (by simp)
              have x2 := (P7).cellAt 2 (by simp)
              have x3 := (P7).cellAt 3 (by simp)
              have x4 := (P7).cellAt 4 (by simp)
              have x5 := (P7).cellAt 5 (by simp)
              have x6 := (P7).cellAt 6 (by simp)
              have x7 := (P7).cellAt 7 (by simp)
              have x8 := (P7).cellAt 8 (by simp)
              simp only [List.getElem_cons_zero, List.getElem_cons_succ] at x0 x1 x2 x3 x4 x5 x6 x7 x8
              have xl := (P7).lt
              go_wp2_with fail
              refine (contains_left w.heap.size PA LA pn pc ln lc plan ls _ T7.pl T7.pr T7.ll T7.lr x8 (by omega) (by omega)).mono ?_
              rintro e w9 ⟨rfl, rfl⟩
              go_wp2_with fail
              go_ret
              exact ⟨by rw [HE.out]; rfl, HB7.out⟩
end Go.Proofs.YtbllbpjlkechdaaGreat
end
section
/- Terminals: the reference says whether one is valid. -/
namespace Go.Proofs.YtbllbpjlkechdaaGreat
open Go Go.ChangeShapes Go.WideShapes Go.ChangeAt Go.RowKit
set_option linter.unusedVariables false
set_option maxHeartbeats 4000000 in
set_option maxRecDepth 100000 in
theorem specTermValid (high : Int) (x : HullV) (YA BA PA HA LA : Option Addr) (yn yc bn bc pn pc hn hc ln lc : Nat) (rows : List (List Int)) (bs : List BoxV) (plan : List Int) (hs : List HoldV) (ls : List Int) (w : World) (T : TrmRd w YA BA PA HA LA yn bn bc pn pc hn ln rows bs plan hs ls) :
    Calls Tryz.prog 10 #[.agg #[.int .i64 high, .slice YA yn yc, .int .i64 x.f0, .int .i64 x.f1, .int .i64 x.f2, .slice BA bn bc, .slice PA pn pc, .slice HA hn hc, .slice LA ln lc]] w fun e w' => e = .returned (.bool (termOk high rows x bs plan ⟨hs, ls⟩)) ∧ Below w.heap.size w w' := by
  obtain ⟨y0, y1, y2⟩ := x
  have TT := Lib.hid T
  have t1 := T.ym
  have t2 := T.bm
  have t3 := T.pm
  have t4 := T.hm
  have t5 := T.lm
  clear T
  have hal : Below w.heap.size w (w.alloc (.cells #[.int .i64 high, .slice YA yn yc, .int .i64 y0, .int .i64 y1, .int .i64 y2, .slice BA bn bc, .slice PA pn pc, .slice HA hn hc, .slice LA ln lc] 43)) := (Below.refl _ _).alloc (Nat.le_refl _) _
  have hP : Blk (w.alloc (.cells #[.int .i64 high, .slice YA yn yc, .int .i64 y0, .int .i64 y1, .int .i64 y2, .slice BA bn bc, .slice PA pn pc, .slice HA hn hc, .slice LA ln lc] 43)) w.heap.size 43 [.int .i64 high, .slice YA yn yc, .int .i64 y0, .int .i64 y1, .int .i64 y2, .slice BA bn bc, .slice PA pn pc, .slice HA hn hc, .slice LA ln lc] := Blk.new _ _ _
  dsimp only at *
  go_enter Tryz.func10, Tryz.ntmps10
  go_wp2_with fail
  generalize w.alloc (.cells #[.int .i64 high, .slice YA yn yc, .int .i64 y0, .int .i64 y1, .int .i64 y2, .slice BA bn bc, .slice PA pn pc, .slice HA hn hc, .slice LA ln lc] 43) = w1 at *
  have T1 := TT.out.below hal
  refine (specYardValid high YA yn yc rows w1 T1.yl T1.yr (by omega)).mono ?_
  rintro e w2 ⟨rfl, b2⟩
  have HB := Lib.hid (below_trans hal b2)
  have P2 := hP.later b2
  clear hal hP b2 T1
  cases hy : yardOk high rows with
  | false =>
    have HE : Hid (termOk high rows ⟨y0, y1, y2⟩ bs plan ⟨hs, ls⟩ = false) := Lib.hid (termOk_yard hy)
    clear hy P2
    go_wp2_with fail
    go_ret
    exact ⟨by rw [HE.out]; rfl, HB.out⟩
  | true =>
    have HY := Lib.hid hy
    clear hy
    have x0 := (P2).cellAt 0 (by simp)
    have x1 := (P2).cellAt 1 (by simp)
    have x2 := (P2).cellAt 2 (by simp)
    have x3 := (P2).cellAt 3 (by simp)
    have x4 := (P2).cellAt 4 (by simp)
    have x5 := (P2).cellAt 5 (by simp)
    have x6 := (P2).cellAt 6 (by simp)
    have x7 := (P2).cellAt 7 (by simp)
    have x8 := (P2).cellAt 8 (by simp)
    simp only [List.getElem_cons_zero, List.getElem_cons_succ] at x0 x1 x2 x3 x4 x5 x6 x7 x8
    have xl := (P2).lt
    go_wp2_with fail
    have T2 := TT.out.below HB.out
    refine (specPlanValid ⟨y0, y1, y2⟩ BA PA bn bc pn pc bs plan w2 T2.bl T2.br T2.bk (by omega) T2.pl T2.pr T2.pk T2.px).mono ?_
    rintro e w3 ⟨rfl, b3⟩
    have HB3 := Lib.hid (below_trans HB.out b3)
    have P3 := P2.later b3
    clear b3 HB P2 T2 x0 x1 x2 x3 x4 x5 x6 x7 x8 xl
    cases hp : planOk ⟨y0, y1, y2⟩ bs plan with
    | false =>
      have HE : Hid (termOk high rows ⟨y0, y1, y2⟩ bs plan ⟨hs, ls⟩ = false) := Lib.hid (termOk_plan hp)
      have HB := HB3
      clear hp P3
      go_wp2_with fail
      go_ret
      exact ⟨by rw [HE.out]; rfl, HB.out⟩
    | true =>
      have HPL := Lib.hid hp
      clear hp
      have x0 := (P3).cellAt 0 (by simp)
      have x1 := (P3).cellAt 1 (by simp)
      have x2 := (P3).cellAt 2 (by simp)
      have x3 := (P3).cellAt 3 (by simp)
      have x4 := (P3).cellAt 4 (by simp)
      have x5 := (P3).cellAt 5 (by simp)
      have x6 := (P3).cellAt 6 (by simp)
      have x7 := (P3).cellAt 7 (by simp)
      have x8 := (P3).cellAt 8 (by simp)
      simp only [List.getElem_cons_zero, List.getElem_cons_succ] at x0 x1 x2 x3 x4 x5 x6 x7 x8
      have xl := (P3).lt
      go_wp2_with fail
      have T3 := TT.out.below HB3.out
      refine (specPapersValid HA LA hn hc ln lc hs ls w3 T3.hl T3.ll T3.hr T3.lr (by omega) (by omega)).mono ?_
      rintro e w4 ⟨rfl, b4⟩
      have HB4 := Lib.hid (below_trans HB3.out b4)
      have P4 := P3.later b4
      clear b4 HB3 P3 T3 x0 x1 x2 x3 x4 x5 x6 x7 x8 xl
      cases hpp : papOk hs ls with
      | false =>
        have HE : Hid (termOk high rows ⟨y0, y1, y2⟩ bs plan ⟨hs, ls⟩ = false) := Lib.hid (termOk_pap hpp)
        have HB := HB4
        clear hpp P4
        go_wp2_with fail
        go_ret
        exact ⟨by rw [HE.out]; rfl, HB.out⟩
      | true =>
        have HPP := Lib.hid hpp
        clear hpp
        have x0 := (P4).cellAt 0 (by simp)
        have x1 := (P4).cellAt 1 (by simp)
        have x2 := (P4).cellAt 2 (by simp)
        have x3 := (P4).cellAt 3 (by simp)
        have x4 := (P4).cellAt 4 (by simp)
        have x5 := (P4).cellAt 5 (by simp)
        have x6 := (P4).cellAt 6 (by simp)
        have x7 := (P4).cellAt 7 (by simp)
        have x8 := (P4).cellAt 8 (by simp)
        simp only [List.getElem_cons_zero, List.getElem_cons_succ] at x0 x1 x2 x3 x4 x5 x6 x7 x8
        have xl := (P4).lt
        go_wp2_with fail
        have T4 := TT.out.below HB4.out
        refine (specTooNear ⟨y0, y1, y2⟩ BA PA bn bc pn pc bs plan w4 T4.bl T4.br T4.bk (by omega) T4.pl T4.pr T4.pk T4.px).mono ?_
        rintro e w5 ⟨_, rfl, NB, nd, rfl, b5⟩
        have HB5 := Lib.hid (below_trans HB4.out b5)
        have P5 := P4.later b5
        clear b5 HB4 P4 T4 x0 x1 x2 x3 x4 x5 x6 x7 x8 xl
        have HNE := Lib.hid (termOk_near (high := high) (rows := rows) (h := ⟨y0, y1, y2⟩) (bs := bs) (plan := plan) (p := ⟨hs, ls⟩))
        have HRE := Lib.hid (fun e4 => termOk_rest (high := high) (rows := rows) (h := ⟨y0, y1, y2⟩) (bs := bs) (plan := plan) (hs := hs) (ls := ls) HY.out HPL.out HPP.out e4)
        generalize nearN ⟨y0, y1, y2⟩ bs plan = nn at *
        by_cases hnn : 0 < nn
        · have HE := Lib.hid (HNE.out hnn)
          have HB := HB5
          have hni : 0 < (nn : Int) := by omega
          clear HNE HRE P5
          go_wp2_with fail
          go_ret
          exact ⟨by rw [HE.out]; rfl, HB.out⟩
        · obtain rfl : nn = 0 := by omega
          have HR := Lib.hid (HRE.out rfl)
          clear HNE HRE hnn
          have x0 := (P5).cellAt 0 (by simp)
          have x1 := (P5).cellAt 1 (by simp)
          have x2 := (P5).cellAt 2 (by simp)
          have x3 := (P5).cellAt 3 (by simp)
          have x4 := (P5).cellAt 4 (by simp)
          have x5 := (P5).cellAt 5 (by simp)
          have x6 := (P5).cellAt 6 (by simp)
          have x7 := (P5).cellAt 7 (by simp)
          have x8 := (P5).cellAt 8 (by simp)
          simp only [List.getElem_cons_zero, List.getElem_cons_succ] at x0 x1 x2 x3 x4 x5 x6 x7 x8
          have xl := (P5).lt
          go_wp2_with fail
          have T5 := TT.out.below HB5.out
          refine (specYardIds high YA yn yc rows w5 T5.yl T5.yr T5.ym).mono ?_
          rintro e w6 ⟨_, rfl, IB, idd, rfl, OI, b6⟩
          have RI := Lib.hid (own_rd OI)
          have HB6 := Lib.hid (below_trans HB5.out b6)
          have P6 := Lib.hid (P5.later b6)
          have HAL := Lib.hid (fun f => idsB_all HY.out f)
          have hil : (idsB high rows).length ≤ 25 := by have := ids_len high rows; omega
          clear b6 HB5 P5 T5 x0 x1 x2 x3 x4 x5 x6 x7 x8 xl OI
          generalize idsB high rows = ids at *
          generalize hL : ids.length = L at *
          have HL := Lib.hid hL
          clear hL
          have T6 := Lib.hid (TT.out.below HB6.out)
          go_wp2_with fail
          go_loopw [4] (fun i wr => ∃ k : Nat, k ≤ L ∧ i = .int .i64 k ∧ Hid ((ids.take k).all (idGood bs plan ls) = true) ∧ Hid (Below w6.heap.size w6 wr)) (fun i _ => L - (intOf i).toNat)
          case atStart => exact ⟨0, Nat.zero_le _, rfl, Lib.hid (by simp), Lib.hid (Below.refl _ _)⟩
          case round =>
            obtain ⟨k, hk, rfl, HJ, HBW⟩ := hrel
            have P7 := P6.out.later HBW.out
            have T7 := T6.out.below HBW.out
            have HB7 := Lib.hid (below_trans HB6.out HBW.out)
            by_cases hlt : k < L
            · have hki : (k : Int) < (L : Int) := by omega
              have hkz : k < ids.length := by rw [HL.out]; exact hlt
              obtain ⟨ib, io, rfl, hib, hic⟩ := ints_cell (RI.out.below HBW.out) hkz
              have hcell := hic k hkz
              have HGO : Hid (idGood bs plan ls ids[k] = true → (ids.take (k + 1)).all (idGood bs plan ls) = true) := Lib.hid (fun h => all_step hkz HJ.out h)
              have HBA : Hid (idGood bs plan ls ids[k] = false → termOk high rows ⟨y0, y1, y2⟩ bs plan ⟨hs, ls⟩ = false) := Lib.hid (fun h => by rw [HR.out, ← HAL.out, all_bad hkz h]; rfl)
              generalize ids[k] = v at *
              have HBI := Lib.hid (idx_has bs v)
              have hcF : ∀ q0 : Nat, Calls Tryz.prog 16 #[.slice BA bn bc, .int .i64 v] (wr.drewN q0) fun r w' => r = .returned (.int .i64 (idxI (findF bs v))) ∧ w' = wr.drewN q0 := fun q0 => (l2Find_any BA bn bc bs v (wr.drewN q0) T7.bl T7.br (by omega)).mono (fun _ _ h => ⟨h.1, h.2.symm⟩)
              have hcP : ∀ q0 : Nat, Calls Tryz.prog 18 #[.slice PA pn pc, .int .i64 v] (wr.drewN q0) fun r w' => r = .returned (.bool (hasI plan v)) ∧ w' = wr.drewN q0 := fun q0 => (l1Has_any PA pn pc plan v (wr.drewN q0) T7.pl T7.pr (by omega)).mono (fun _ _ h => ⟨h.1, h.2.symm⟩)
              have hcL : ∀ q0 : Nat, Calls Tryz.prog 18 #[.slice LA ln lc, .int .i64 v] (wr.drewN q0) fun r w' => r = .returned (.bool (hasI ls v)) ∧ w' = wr.drewN q0 := fun q0 => (l1Has_any LA ln lc ls v (wr.drewN q0) T7.ll T7.lr (by omega)).mono (fun _ _ h => ⟨h.1, h.2.symm⟩)
              clear hic T7
              have x0 := (P7).cellAt 0 (by simp)
              have x1 := (P7).cellAt 1 (by simp)
              have x2 := (P7).cellAt 2 (by simp)
              have x3 := (P7).cellAt 3 (by simp)
              have x4 := (P7).cellAt 4 (by simp)
              have x5 := (P7).cellAt 5 (by simp)
              have x6 := (P7).cellAt 6 (by simp)
              have x7 := (P7).cellAt 7 (by simp)
              have x8 := (P7).cellAt 8 (by simp)
              simp only [List.getElem_cons_zero, List.getElem_cons_succ] at x0 x1 x2 x3 x4 x5 x6 x7 x8
              have xl := (P7).lt
              have HBW7 := HBW
              clear P7
              generalize idxI (findF bs v) = fi at *
              cases hf : hasF bs v with
              | false =>
                have HE := Lib.hid (HBA.out (by simp [idGood, hf]))
                have hfi := HBI.out
                rw [hf] at hfi
                have hlt0 : decide (fi < 0) = true := hfi
                have hlt1 : fi < 0 := of_decide_eq_true hlt0
                clear hf hfi
                go_wp2_with fail
                go_quiet ((first | (go_at_call 16; with_reducible exact Calls.quiet_of_same (hcF _)) | (go_at_call 18; with_reducible exact Calls.quiet_of_same (hcP _)) | (go_at_call 18; with_reducible exact Calls.quiet_of_same (hcL _))))
                clear hcF hcP hcL
                go_wp2_with fail
                go_ret
                exact ⟨by rw [HE.out]; rfl, below_drewN HB7.out _⟩
              | true =>
                have hfi := HBI.out
                rw [hf] at hfi
                have hlt0 : decide (fi < 0) = false := hfi
                have hlt1 : ¬ fi < 0 := of_decide_eq_false hlt0
                have HF := Lib.hid hf
                clear hf hfi
                cases hi : hasI plan v with
                | true =>
                  have HE := Lib.hid (HBA.out (by simp [idGood, hi]))
                  rw [hi] at hcP
                  clear hi
                  go_wp2_with fail
                  go_quiet ((first | (go_at_call 16; with_reducible exact Calls.quiet_of_same (hcF _)) | (go_at_call 18; with_reducible exact Calls.quiet_of_same (hcP _)) | (go_at_call 18; with_reducible exact Calls.quiet_of_same (hcL _))))
                  clear hcF hcP hcL
                  go_wp2_with fail
                  go_ret
                  exact ⟨by rw [HE.out]; rfl, below_drewN HB7.out _⟩
                | false =>
                  have HI := Lib.hid hi
                  rw [hi] at hcP
                  clear hi
                  cases hi2 : hasI ls v with
                  | true =>
                    have HE := Lib.hid (HBA.out (by simp [idGood, hi2]))
                    rw [hi2] at hcL
                    clear hi2
                    go_wp2_with fail
                    go_quiet ((first | (go_at_call 16; with_reducible exact Calls.quiet_of_same (hcF _)) | (go_at_call 18; with_reducible exact Calls.quiet_of_same (hcP _)) | (go_at_call 18; with_reducible exact Calls.quiet_of_same (hcL _))))
                    clear hcF hcP hcL
                    go_wp2_with fail
                    go_ret
                    exact ⟨by rw [HE.out]; rfl, below_drewN HB7.out _⟩
                  | false =>
                    have HG := Lib.hid (HGO.out (by simp [idGood, hi2, HF.out, HI.out]))
                    rw [hi2] at hcL
                    clear hi2
                    go_wp2_with fail
                    go_quiet ((first | (go_at_call 16; with_reducible exact Calls.quiet_of_same (hcF _)) | (go_at_call 18; with_reducible exact Calls.quiet_of_same (hcP _)) | (go_at_call 18; with_reducible exact Calls.quiet_of_same (hcL _))))
                    clear hcF hcP hcL
                    go_wp2_with fail
                    go_roundw
                    case rel => exact ⟨k + 1, by omega, by go_num, HG, Lib.hid (below_drewN HBW7.out _)⟩
                    case measure => simp [intOf]; omega
            · obtain rfl : k = L := by omega
              have HE0 : Hid (termOk high rows ⟨y0, y1, y2⟩ bs plan ⟨hs, ls⟩ = !plan.any (hasI ls)) := Lib.hid (by
                have := HJ.out
                rw [List.take_of_length_le (by rw [HL.out]; exact Nat.le_refl _)] at this
                rw [HR.out, ← HAL.out, this]
                rfl)
              have H00 : Hid (hasI ls 0 = false) := Lib.hid (papOk_zero (p := ⟨hs, ls⟩) HPP.out)
              have HPNL := Lib.hid T7.pl
              clear HR HAL HJ HL
              have x0 := (P7).cellAt 0 (by simp)
              have x1 := (P7).cellAt 1 (by simp)
              have x2 := (P7).cellAt 2 (by simp)
              have x3 := (P7).cellAt 3 (by simp)
              have x4 := (P7).cellAt 4 (by simp)
              have x5 := (P7).cellAt 5 (by simp)
              have x6 := (P7).cellAt 6 (by simp)
              have x7 := (P7).cellAt 7 (by simp)
              have x8 := (P7).cellAt 8 (by simp)
              simp only [List.getElem_cons_zero, List.getElem_cons_succ] at x0 x1 x2 x3 x4 x5 x6 x7 x8
              have xl := (P7).lt
              go_wp2_with fail
              clear x0 x1 x2 x3 x4 x5 x6 x7 x8
              go_loopw [5] (fun i wr2 => ∃ j : Nat, j ≤ pn ∧ i = .int .i64 j ∧ Hid ((plan.take j).any (hasI ls) = false) ∧ Hid (Below wr.heap.size wr wr2)) (fun i _ => pn - (intOf i).toNat)
              case atStart => exact ⟨0, Nat.zero_le _, rfl, Lib.hid (by simp), Lib.hid (Below.refl _ _)⟩
              case round =>
                clear P7 T7
                obtain ⟨j, hj, rfl, HJ2, HBX⟩ := hrel
                have P9 := P6.out.later (below_trans HBW.out HBX.out)
                have T9 := T6.out.below (below_trans HBW.out HBX.out)
                have HB9 := Lib.hid (below_trans HB7.out HBX.out)
                by_cases hltj : j < pn
                · have hji : (j : Int) < (pn : Int) := by omega
                  have hjz : j < plan.length := by rw [HPNL.out]; exact hltj
                  obtain ⟨pb, po, rfl, hpb, hpcl⟩ := ints_cell T9.pr hjz
                  have hcell := hpcl j hjz
                  have HGO : Hid (hasI ls plan[j] = false → (plan.take (j + 1)).any (hasI ls) = false) := Lib.hid (fun h => any_take_no hjz HJ2.out h)
                  have HBA : Hid (hasI ls plan[j] = true → plan.any (hasI ls) = true) := Lib.hid (fun h => any_hit hjz h)
                  clear hpcl
                  generalize plan[j] = v at *
                  have hcL : ∀ q0 : Nat, Calls Tryz.prog 18 #[.slice LA ln lc, .int .i64 v] (wr.drewN q0) fun r w' => r = .returned (.bool (hasI ls v)) ∧ w' = wr.drewN q0 := fun q0 => (l1Has_any LA ln lc ls v (wr.drewN q0) T9.ll T9.lr (by omega)).mono (fun _ _ h => ⟨h.1, h.2.symm⟩)
                  have x0 := (P9).cellAt 0 (by simp)
                  have x1 := (P9).cellAt 1 (by simp)
                  have x2 := (P9).cellAt 2 (by simp)
                  have x3 := (P9).cellAt 3 (by simp)
                  have x4 := (P9).cellAt 4 (by simp)
                  have x5 := (P9).cellAt 5 (by simp)
                  have x6 := (P9).cellAt 6 (by simp)
                  have x7 := (P9).cellAt 7 (by simp)
                  have x8 := (P9).cellAt 8 (by simp)
                  simp only [List.getElem_cons_zero, List.getElem_cons_succ] at x0 x1 x2 x3 x4 x5 x6 x7 x8
                  have xl := (P9).lt
                  clear P9 T9
                  by_cases h0 : v = 0
                  · have HG := Lib.hid (HGO.out (by rw [h0]; exact H00.out))
                    subst h0
                    go_wp2_with fail
                    go_quiet ((go_at_call 18; with_reducible exact Calls.quiet_of_same (hcL _)))
                    clear hcL
                    go_wp2_with fail
                    go_roundw
                    case rel => exact ⟨j + 1, by omega, by go_num, HG, Lib.hid (below_drewN HBX.out _)⟩
                    case measure => simp [intOf]; omega
                  · have g0 : (v != 0) = true := by simp [h0]
                    have g1 : (v == 0) = false := by simp [h0]
                    cases hi2 : hasI ls v with
                    | true =>
                      have HE : Hid (termOk high rows ⟨y0, y1, y2⟩ bs plan ⟨hs, ls⟩ = false) := Lib.hid (by rw [HE0.out, HBA.out hi2]; rfl)
                      rw [hi2] at hcL
                      clear hi2
                      go_wp2_with fail
                      go_quiet ((go_at_call 18; with_reducible exact Calls.quiet_of_same (hcL _)))
                      clear hcL
                      go_wp2_with fail
                      go_ret
                      exact ⟨by rw [HE.out]; rfl, below_drewN HB9.out _⟩
                    | false =>
                      have HG := Lib.hid (HGO.out hi2)
                      rw [hi2] at hcL
                      clear hi2
                      go_wp2_with fail
                      go_quiet ((go_at_call 18; with_reducible exact Calls.quiet_of_same (hcL _)))
                      clear hcL
                      go_wp2_with fail
                      go_roundw
                      case rel => exact ⟨j + 1, by omega, by go_num, HG, Lib.hid (below_drewN HBX.out _)⟩
                      case measure => simp [intOf]; omega
                · obtain rfl : j = pn := by omega
                  have HE : Hid (termOk high rows ⟨y0, y1, y2⟩ bs plan ⟨hs, ls⟩ = true) := Lib.hid (by
                    have := HJ2.out
                    rw [List.take_of_length_le (by rw [HPNL.out]; exact Nat.le_refl _)] at this
                    rw [HE0.out, this]
                    rfl)
                  have x0 := (P9).cellAt 0 (by simp)
                  have x1 := (P9).cellAt 1 (by simp)
                  have x2 := (P9).cellAt 2 (by simp)
                  have x3 := (P9).cellAt 3 (by simp)
                  have x4 := (P9).cellAt 4 (by simp)
                  have x5 := (P9).cellAt 5 (by simp)
                  have x6 := (P9).cellAt 6 (by simp)
                  have x7 := (P9).cellAt 7 (by simp)
                  have x8 := (P9).cellAt 8 (by simp)
                  simp only [List.getElem_cons_zero, List.getElem_cons_succ] at x0 x1 x2 x3 x4 x5 x6 x7 x8
                  have xl := (P9).lt
                  go_wp2_with fail
                  go_ret
                  exact ⟨by rw [HE.out]; rfl, HB9.out⟩
end Go.Proofs.YtbllbpjlkechdaaGreat
end
section
/- Putting a box onto a stack: the plain words. -/
namespace Go.Proofs.YtbllbpjlkechdaaGreat
theorem hasI_iff {p : List Int} {x : Int} : hasI p x = true ↔ x ∈ p := by simp [hasI]
theorem hasI_no {p : List Int} {x : Int} : hasI p x = false ↔ x ∉ p := by simp [hasI]
theorem idI_iff {x : Int} : idI x = true ↔ 1 ≤ x ∧ x ≤ 999 := by simp [idI]
theorem sOk_iff {p s : List Int} : sOk p s = true ↔ (∀ x ∈ s, idI x = true) ∧ s.Nodup ∧ ∀ x ∈ s, x ∉ p := by
  induction s generalizing p with
  | nil => simp [sOk]
  | cons a s ih =>
    simp only [sOk, Bool.and_eq_true, Bool.not_eq_true', ih, hasI_no, List.mem_append, List.mem_cons, List.not_mem_nil, or_false, List.nodup_cons]
    constructor
    · rintro ⟨⟨h1, h2⟩, h3, h4, h5⟩
      refine ⟨?_, ⟨fun ha => (h5 a ha) (.inr rfl), h4⟩, ?_⟩
      · rintro x (rfl | hx)
        · exact h1
        · exact h3 x hx
      · rintro x (rfl | hx)
        · exact h2
        · exact fun hp => h5 x hx (.inl hp)
    · rintro ⟨h1, ⟨h2, h3⟩, h4⟩
      refine ⟨⟨h1 a (.inl rfl), h4 a (.inl rfl)⟩, fun x hx => h1 x (.inr hx), h3, fun x hx => ?_⟩
      rintro (hp | rfl)
      · exact h4 x (.inr hx) hp
      · exact h2 hx
theorem dOk_iff {p s : List Int} : dOk p s = true ↔ s.Nodup ∧ ∀ x ∈ s, x ∉ p := by
  induction s generalizing p with
  | nil => simp [dOk]
  | cons a s ih =>
    simp only [dOk, Bool.and_eq_true, Bool.not_eq_true', ih, hasI_no, List.mem_append, List.mem_cons, List.not_mem_nil, or_false, List.nodup_cons]
    constructor
    · rintro ⟨h2, h4, h5⟩
      refine ⟨⟨fun ha => (h5 a ha) (.inr rfl), h4⟩, ?_⟩
      rintro x (rfl | hx)
      · exact h2
      · exact fun hp => h5 x hx (.inl hp)
    · rintro ⟨⟨h2, h3⟩, h4⟩
      refine ⟨h4 a (.inl rfl), h3, fun x hx => ?_⟩
      rintro (hp | rfl)
      · exact h4 x (.inr hx) hp
      · exact h2 hx
/-- one stack -/
def Stk (high : Int) (s : List Int) : Prop := (1 ≤ high ∧ high ≤ 5) ∧ (s.length : Int) ≤ high ∧ ∀ x ∈ s, idI x = true
theorem stackOk_iff {s : List Int} {high : Int} : stackOk s high = true ↔ Stk high s ∧ s.Nodup := by
  simp only [stackOk, Bool.and_eq_true, decide_eq_true_eq, sOk_iff, Stk]
  constructor
  · rintro ⟨⟨h1, h2, _⟩, h3, h4⟩
    exact ⟨⟨h3, h4, h1⟩, h2⟩
  · rintro ⟨⟨h3, h4, h1⟩, h2⟩
    exact ⟨⟨h1, h2, by simp⟩, h3, h4⟩
theorem yOk_iff {high : Int} {p : List Int} {l : List (List Int)} : yOk high p l = true ↔ (∀ s ∈ l, Stk high s) ∧ l.flatten.Nodup ∧ ∀ x ∈ l.flatten, x ∉ p := by
  induction l generalizing p with
  | nil => simp [yOk]
  | cons a l ih =>
    simp only [yOk, Bool.and_eq_true, ih, stackOk_iff, dOk_iff, List.flatten_cons, List.nodup_append, List.mem_append, List.mem_cons]
    constructor
    · rintro ⟨⟨h1, h2⟩, ⟨_, h3⟩, h4, h5, h6⟩
      refine ⟨?_, ⟨h2, h5, fun x hx y hy e => h6 y hy (.inr (e ▸ hx))⟩, ?_⟩
      · rintro s (rfl | hs)
        · exact h1
        · exact h4 s hs
      · rintro x (hx | hx)
        · exact h3 x hx
        · exact fun hp => h6 x hx (.inl hp)
    · rintro ⟨h1, ⟨h2, h3, h4⟩, h5⟩
      refine ⟨⟨h1 a (.inl rfl), h2⟩, ⟨h2, fun x hx => h5 x (.inl hx)⟩, fun s hs => h1 s (.inr hs), h3, fun x hx => ?_⟩
      rintro (hp | ha)
      · exact h5 x (.inr hx) hp
      · exact h4 x ha x hx rfl
/-- is a box anywhere -/
def anyI (l : List (List Int)) (x : Int) : Bool := hasI l.flatten x
/-- pushing keeps a yard valid exactly if the box is new and there is room -/
theorem yardOk_push {high : Int} {rows : List (List Int)} {k : Nat} {x : Int} (h : yardOk high rows = true) (hk : k < rows.length) :
    yardOk high (rows.set k (rows[k] ++ [x])) = (idI x && (!(anyI rows x) && decide ((rows[k].length : Int) ≠ high))) := by
  simp only [yardOk, Bool.and_eq_true, decide_eq_true_eq, yOk_iff] at h
  obtain ⟨⟨h1, h2⟩, hs, hn, _⟩ := h
  have e1 : rows = rows.take k ++ rows[k] :: rows.drop (k + 1) := by rw [← List.drop_eq_getElem_cons hk, List.take_append_drop]
  have e2 : rows.set k (rows[k] ++ [x]) = rows.take k ++ (rows[k] ++ [x]) :: rows.drop (k + 1) := by
    rw [List.set_eq_take_append_cons_drop, if_pos hk]
  have hp : (rows.set k (rows[k] ++ [x])).flatten.Perm (x :: rows.flatten) := by
    rw [e2]
    conv => rhs; rw [e1]
    simp only [List.flatten_append, List.flatten_cons, List.append_assoc]
    have := List.perm_middle (a := x) (l₁ := (rows.take k).flatten ++ rows[k]) (l₂ := (rows.drop (k + 1)).flatten)
    simpa [List.append_assoc] using this
  have hmem : rows[k] ∈ rows := List.getElem_mem hk
  apply Bool.eq_iff_iff.2
  simp only [yardOk, Bool.and_eq_true, decide_eq_true_eq, yOk_iff, List.length_set, Bool.not_eq_true', hp.nodup_iff, List.nodup_cons, anyI, hasI_no]
  constructor
  · rintro ⟨_, a1, ⟨a2, _⟩, _⟩
    have hm : rows[k] ++ [x] ∈ rows.set k (rows[k] ++ [x]) := List.mem_iff_getElem.2 ⟨k, by simpa using hk, by simp⟩
    obtain ⟨_, b1, b2⟩ := a1 _ hm
    refine ⟨b2 x (by simp), a2, ?_⟩
    rw [List.length_append, List.length_singleton] at b1
    omega
  · rintro ⟨a1, a2, a3⟩
    refine ⟨⟨h1, h2⟩, fun s hsm => ?_, ⟨a2, hn⟩, by simp⟩
    rcases List.mem_or_eq_of_mem_set hsm with hsm | rfl
    · exact hs s hsm
    · obtain ⟨b0, b1, b2⟩ := hs _ hmem
      refine ⟨b0, ?_, fun y hy => ?_⟩
      · rw [List.length_append, List.length_singleton]; omega
      · rcases List.mem_append.1 hy with hy | hy
        · exact b2 y hy
        · rw [List.mem_singleton.1 hy]; exact a1
/-- which yard a putting gives, and whether the box was put -/
def yput (high : Int) (rows : List (List Int)) (i x : Int) : Int × List (List Int) × Bool :=
  if yardOk high rows = false then (0, [], false)
  else if (0 ≤ i ∧ i < rows.length) ∧ yardOk high (rows.set i.toNat ((rows.getD i.toNat []) ++ [x])) = true then (high, rows.set i.toNat ((rows.getD i.toNat []) ++ [x]), true)
  else (high, rows, false)
theorem getD_at {rows : List (List Int)} {k : Nat} (hk : k < rows.length) : rows.getD k [] = rows[k] := by rw [List.getD_eq_getElem?_getD, List.getElem?_eq_getElem hk]; rfl
theorem yput_bad {high : Int} {rows : List (List Int)} (i x : Int) (h : yardOk high rows = false) : yput high rows i x = (0, [], false) := by rw [yput, if_pos h]
theorem yput_out {high : Int} {rows : List (List Int)} {i : Int} (x : Int) (h : yardOk high rows = true) (h2 : ¬ (0 ≤ i ∧ i < rows.length)) : yput high rows i x = (high, rows, false) := by
  rw [yput, if_neg (by simp [h]), if_neg (fun h => h2 h.1)]
theorem yput_no {high : Int} {rows : List (List Int)} {k : Nat} {x : Int} (h : yardOk high rows = true) (hk : k < rows.length) (h2 : yardOk high (rows.set k (rows[k] ++ [x])) = false) : yput high rows (k : Int) x = (high, rows, false) := by
  rw [yput, if_neg (by simp [h]), Int.toNat_natCast, getD_at hk, if_neg (by simp [h2])]
theorem yput_yes {high : Int} {rows : List (List Int)} {k : Nat} {x : Int} (h : yardOk high rows = true) (hk : k < rows.length) (h2 : yardOk high (rows.set k (rows[k] ++ [x])) = true) : yput high rows (k : Int) x = (high, rows.set k (rows[k] ++ [x]), true) := by
  rw [yput, if_neg (by simp [h]), Int.toNat_natCast, getD_at hk, if_pos ⟨by omega, h2⟩]
end Go.Proofs.YtbllbpjlkechdaaGreat
end
section
/- Yards: the reference's copying. -/
namespace Go.Proofs.YtbllbpjlkechdaaGreat
open Go Go.ChangeShapes Go.WideShapes Go.ChangeAt Go.RowKit
set_option linter.unusedVariables false
end Go.Proofs.YtbllbpjlkechdaaGreat
end
section
/- Yards: what a taking gives, in plain words; the parts of the taking. -/
namespace Go.Proofs.YtbllbpjlkechdaaGreat
open Go Go.ChangeShapes Go.WideShapes Go.ChangeAt Go.RowKit
set_option linter.unusedVariables false
/-- a row of its own, made shorter -/
theorem own_take {w : World} {base : Nat} {e : TypeId} {A : Option Addr} {n c m : Nat} {xs : List Value} (h : w.ownsRow base e 1 (.slice A n c) n xs) (hm : m ≤ n) : w.ownsRow base e 1 (.slice A m c) m (xs.take m) := by
  have hl := h.1
  rcases h.2 with ⟨hv, hn⟩ | ⟨g, cap, cur, hv, hb, hg, h1, h2, h3, h4⟩
  · subst hn
    obtain rfl : m = 0 := by omega
    rw [List.take_zero]
    injection hv with e1 e2 e3
    subst e1 e3
    exact World.ownsRow_nil _ _ _ _
  · injection hv with e1 e2 e3
    subst e1 e3
    refine ⟨by rw [List.length_take]; omega, .inr ⟨g, c, cur, rfl, hb, hg, by omega, h2, h3, ?_⟩⟩
    rw [← h4, List.take_take, Nat.mul_one, Nat.mul_one, Nat.min_eq_left hm]
/-- which yard and which box a taking gives -/
def ytake (high : Int) (rows : List (List Int)) (i : Int) : Int × List (List Int) × Int :=
  if yardOk high rows = false then (0, [], -1)
  else if h : (0 ≤ i ∧ i < rows.length) ∧ (rows.getD i.toNat []) ≠ [] then (high, rows.set i.toNat (rows.getD i.toNat []).dropLast, (rows.getD i.toNat []).getLast h.2)
  else (high, rows, -1)
/-- the answer, in memory of the call's own -/
def YTOut (w : World) (x : Int × List (List Int) × Int) : Ending → World → Prop :=
  RVal fun u w' => ∃ A c, u = .tuple #[.agg #[.int .i64 x.1, .slice A x.2.1.length c], .int .i64 x.2.2] ∧ OwnRR w' w.heap.size w'.heap.size 28 3 (.slice A x.2.1.length c) (intss x.2.1) ∧ Below w.heap.size w w'
theorem ytake_bad {high : Int} {rows : List (List Int)} (i : Int) (h : yardOk high rows = false) : ytake high rows i = (0, [], -1) := by rw [ytake, if_pos h]
theorem ytake_no {high : Int} {rows : List (List Int)} {i : Int} (h : yardOk high rows = true) (h2 : ¬ ((0 ≤ i ∧ i < rows.length) ∧ (rows.getD i.toNat []) ≠ [])) : ytake high rows i = (high, rows, -1) := by rw [ytake, if_neg (by simp [h]), dif_neg h2]
theorem ytake_yes {high : Int} {rows : List (List Int)} {k : Nat} (h : yardOk high rows = true) (hk : k < rows.length) (hz : rows[k] ≠ []) : ytake high rows (k : Int) = (high, rows.set k rows[k].dropLast, rows[k].getLast hz) := by
  have e : rows.getD k [] = rows[k] := by rw [List.getD_eq_getElem?_getD, List.getElem?_eq_getElem hk]; rfl
  rw [ytake, if_neg (by simp [h]), dif_pos (by rw [Int.toNat_natCast, e]; exact ⟨by omega, hz⟩)]
  simp only [Int.toNat_natCast, e]
theorem inI_no {i : Int} {n : Nat} (h : inI i 0 ((n : Int) - 1) = false) : ¬ (0 ≤ i ∧ i < n) := by simp [inI] at h; omega
theorem inI_yes {i : Int} {n : Nat} (h : inI i 0 ((n : Int) - 1) = true) : ∃ k : Nat, i = (k : Int) ∧ k < n := by
  simp [inI] at h
  exact ⟨i.toNat, by omega, by omega⟩
theorem ints_take (zs : List Int) (m : Nat) : (ints zs).take m = ints (zs.take m) := by simp [ints]
/-- the highest box of a row of its own is taken away -/
theorem OwnRR.pop {w : World} {lo hi : Nat} {A : Option Addr} {n c : Nat} {rows : List (List Int)} (h : OwnRR w lo hi 28 3 (.slice A n c) (intss rows)) {k : Nat} (hk : k < rows.length) (hz : rows[k] ≠ []) :
    ∃ g b c', A = some ⟨g, 0, none⟩ ∧ lo ≤ g ∧ g < hi ∧ g < w.heap.size ∧ b < w.heap.size ∧ lo ≤ b ∧ w.cell? ⟨g, k, none⟩ = some (.slice (some ⟨b, 0, none⟩) (rows[k]).length c') ∧ w.frozen? ⟨g, k, none⟩ = false ∧ (rows[k]).length ≤ c' ∧ w.cell? ⟨b, (rows[k]).length - 1, none⟩ = some (.int .i64 (rows[k].getLast hz)) ∧
      OwnRR (w.setCell ⟨g, k, none⟩ (.slice (some ⟨b, 0, none⟩) ((rows[k]).length - 1) c')) lo (w.setCell ⟨g, k, none⟩ (.slice (some ⟨b, 0, none⟩) ((rows[k]).length - 1) c')).heap.size 28 3 (.slice A n c) (intss (rows.set k rows[k].dropLast)) ∧ Out lo hi w (w.setCell ⟨g, k, none⟩ (.slice (some ⟨b, 0, none⟩) ((rows[k]).length - 1) c')) := by
  have hkl : k < (intss rows).length := by rw [intss_len]; exact hk
  have htop : hi ≤ w.heap.size := by obtain ⟨hs, h1, _⟩ := h; exact h1.top
  obtain ⟨g, cc, B, c', hv, h1, h2, h3, h4, h5, h6, h7⟩ := h.put hkl
  rw [intss_at, ints_len] at h5
  simp only [intss_at, ints_len] at h3 h6 h7
  injection hv with e1 e2 e3
  have hpos : 0 < (rows[k]).length := List.length_pos_iff.2 hz
  rcases own_form h5.row with ⟨e, h0, _⟩ | ⟨b, c2, e, hb1, hb2, hb3⟩
  · omega
  injection e with eB _ ec
  subst eB ec
  have hrow := own_take h5.row (m := (rows[k]).length - 1) (by omega)
  rw [ints_take, ← List.dropLast_eq_take] at hrow
  have hcell := h5.row.cellAt ((rows[k]).length - 1) (by omega)
  rw [List.getElem?_eq_getElem (by rw [ints_len]; omega), ints_at, ← List.getLast_eq_getElem hz] at hcell
  obtain ⟨p1, p2⟩ := h7 w (.slice (some ⟨b, 0, none⟩) ((rows[k]).length - 1) c') (ints rows[k].dropLast) (World.grownBy.refl _ _) (by rw [ints_len, List.length_dropLast]; exact hrow) (.inl rfl)
  have es : (intss rows).set k (ints rows[k].dropLast) = intss (rows.set k rows[k].dropLast) := by simp [intss, List.map_set]
  rw [es] at p1
  exact ⟨g, b, c', e1, h1, h2, by omega, hb2, hb1, h3, h4, hb3, hcell, p1, p2⟩
end Go.Proofs.YtbllbpjlkechdaaGreat
end
section
/- YardTake, both programs: the plain word. -/
namespace Go.Proofs.YtbllbpjlkechdaaGreat
open Go Go.ChangeShapes Go.WideShapes Go.ChangeAt Go.RowKit
set_option linter.unusedVariables false
theorem yt_zero {w wz : World} {x : Int × List (List Int) × Int} {u1 u2 : Value} (h : x = (0, [], -1)) (hB : Below w.heap.size w wz) :
    YTOut w x (.returned (.tuple #[.agg #[.int .i64 0, .slice none 0 0], .int .i64 (-1)])) ((wz.setCell ⟨w.heap.size + 1, 0, none⟩ u1).setCell ⟨w.heap.size + 1, 1, none⟩ u2) := by
  subst h
  exact RVal.mk ⟨none, 0, rfl, ownRR_none _ _ _ _, (hB.setCell (Nat.le_succ _) _).setCell (Nat.le_succ _) _⟩
theorem yt_out {w wz : World} {x : Int × List (List Int) × Int} {high id : Int} {rows : List (List Int)} {n c lo hi : Nat} {A : Option Addr} {u1 u2 : Value} (h : x = (high, rows, id)) (hn : rows.length = n) (hO : OwnRR wz lo hi 28 3 (.slice A n c) (intss rows)) (hlo : w.heap.size + 2 ≤ lo) (hB : Below w.heap.size w wz) :
    YTOut w x (.returned (.tuple #[.agg #[.int .i64 high, .slice A n c], .int .i64 id])) ((wz.setCell ⟨w.heap.size + 1, 0, none⟩ u1).setCell ⟨w.heap.size + 1, 1, none⟩ u2) := by
  subst h hn
  have htop : hi ≤ wz.heap.size := by obtain ⟨hs, h1, _⟩ := hO; exact h1.top
  exact RVal.mk ⟨A, c, rfl, ((hO.set_far _ _ _ (by omega) htop).set_far _ _ _ (by omega) (Nat.le_refl _)).base (by omega), (hB.setCell (Nat.le_succ _) _).setCell (Nat.le_succ _) _⟩
/-- five cells -/
def Keep5 (W : World) (p b i b2 j q : Nat) (v1 v2 v3 v4 v5 : Value) : Prop := W.cell? ⟨p, 1, none⟩ = some v1 ∧ W.cell? ⟨b, i, none⟩ = some v2 ∧ W.cell? ⟨b2, j, none⟩ = some v3 ∧ W.cell? ⟨q, 0, none⟩ = some v4 ∧ W.cell? ⟨q, 1, none⟩ = some v5
theorem Keep5.drew {W : World} {p b i b2 j q : Nat} {v1 v2 v3 v4 v5 : Value} (h : Keep5 W p b i b2 j q v1 v2 v3 v4 v5) : Keep5 W.drew p b i b2 j q v1 v2 v3 v4 v5 := h
theorem far_cell {W : World} {x y i j : Nat} {u v : Value} (h : W.cell? ⟨x, i, none⟩ = some v) (hne : x ≠ y) : (W.setCell ⟨y, j, none⟩ u).cell? ⟨x, i, none⟩ = some v :=
  (World.cell?_of_block (Below.heap_setCell W ⟨y, j, none⟩ u x hne)).trans h
theorem Keep5.set2 {W : World} {p b i b2 j q r : Nat} {v1 v2 v3 v4 v5 u1 u2 : Value} (h : Keep5 W p b i b2 j q v1 v2 v3 v4 v5) (n1 : p ≠ r) (n2 : b ≠ r) (n3 : b2 ≠ r) (n4 : q ≠ r) : Keep5 ((W.setCell ⟨r, 0, none⟩ u1).setCell ⟨r, 1, none⟩ u2) p b i b2 j q v1 v2 v3 v4 v5 :=
  ⟨far_cell (far_cell h.1 n1) n1, far_cell (far_cell h.2.1 n2) n2, far_cell (far_cell h.2.2.1 n3) n3, far_cell (far_cell h.2.2.2.1 n4) n4, far_cell (far_cell h.2.2.2.2 n4) n4⟩
end Go.Proofs.YtbllbpjlkechdaaGreat
end
section
/- Yard.find; an element is appended to an inner row of its own. -/
namespace Go.Proofs.YtbllbpjlkechdaaGreat
open Go Go.ChangeShapes Go.WideShapes Go.ChangeAt Go.RowKit
set_option linter.unusedVariables false
/-- the rows so far do not hold it -/
theorem any_step {rows : List (List Int)} {k : Nat} {x : Int} (h : k < rows.length) (h0 : anyI (rows.take k) x = false) (hx : hasI rows[k] x = false) : anyI (rows.take (k + 1)) x = false := by
  rw [List.take_succ_eq_append_getElem h]
  simp only [anyI, hasI_no, List.flatten_append, List.mem_append, List.flatten_cons, List.flatten_nil, List.append_nil] at *
  rintro (h | h)
  · exact h0 h
  · exact hx h
theorem any_yes {rows : List (List Int)} {k : Nat} {x : Int} (h : k < rows.length) (hx : hasI rows[k] x = true) : anyI rows x = true := by
  simp only [anyI, hasI_iff, List.mem_flatten] at *
  exact ⟨_, List.getElem_mem h, hx⟩
/-- the first row from number k on that holds it, or -1 -/
def findAux : List (List Int) → Nat → Int → Int
  | [], _, _ => -1
  | s :: r, k, x => if hasI s x = true then (k : Int) else findAux r (k + 1) x
theorem findAux_any (rows : List (List Int)) (k : Nat) (x : Int) : decide (0 ≤ findAux rows k x) = anyI rows x := by
  induction rows generalizing k with
  | nil => simp [findAux, anyI, hasI]
  | cons s r ih =>
    by_cases h : hasI s x = true
    · have : anyI (s :: r) x = true := any_yes (rows := s :: r) (k := 0) (by simp) h
      rw [findAux, if_pos h, this]
      simp
    · have h' : hasI s x = false := by simpa using h
      rw [findAux, if_neg h, ih]
      apply Bool.eq_iff_iff.2
      simp only [anyI, hasI_iff, List.flatten_cons, List.mem_append]
      have := hasI_no.1 h'
      constructor
      · exact .inr
      · rintro (h | h)
        · exact absurd h this
        · exact h
theorem findAux_step {rows : List (List Int)} {k : Nat} {x : Int} (h : k < rows.length) : findAux (rows.drop k) k x = if hasI rows[k] x = true then (k : Int) else findAux (rows.drop (k + 1)) (k + 1) x := by
  rw [List.drop_eq_getElem_cons h, findAux]
theorem find1_any (B : Option Addr) (p c b : Nat) (zs : List Int) (x : Int) (w : World) (hn : zs.length = p) (hr : RdV w B (ints zs)) (hx : w.cell? ⟨b, 0, none⟩ = some (.int .i64 x)) (hm : p ≤ 9223372036854775807) :
    Calls Tryz.prog 83 #[.slice B p c, .pointer (some ⟨b, 0, none⟩)] w fun e w' => e = .returned (.bool (hasI zs x)) ∧ w = w' := by
  have HN := Lib.hid hn
  clear hn
  go_enter Tryz.func83, Tryz.ntmps83
  go_wp2_with fail
  refine (contains_int B p c zs x _ HN.out hr hm).mono ?_
  rintro e w' ⟨rfl, rfl⟩
  go_wp2_with fail
  go_ret
  exact ⟨rfl, rfl⟩
set_option maxHeartbeats 1000000 in
theorem index_row (A : Option Addr) (n c b : Nat) (rows : List (List Int)) (x : Int) (w : World) (hn : rows.length = n) (hr : RdRR w A (intss rows)) (hx : w.cell? ⟨b, 0, none⟩ = some (.int .i64 x)) (hm : n ≤ 9223372036854775807) :
    Calls Tryz.prog 82 #[.slice A n c, .func (.func 83) #[] #[.pointer (some ⟨b, 0, none⟩)]] w fun e w' => e = .returned (.int .i64 (findAux rows 0 x)) ∧ w = w' := by
  have HN := Lib.hid hn
  clear hn
  go_enter Tryz.func82, Tryz.ntmps82
  go_wp2_with fail
  go_loop [8, 5] (fun i _ => ∃ k : Nat, k ≤ n ∧ i = .int .i64 k ∧ Hid (findAux rows 0 x = findAux (rows.drop k) k x)) (fun i _ => n - (intOf i).toNat)
  case atStart => exact ⟨0, Nat.zero_le _, rfl, Lib.hid (by simp)⟩
  case round =>
    obtain ⟨k, hk, rfl, HJ⟩ := hrel
    by_cases hlt : k < n
    · have hkz : k < rows.length := by rw [HN.out]; exact hlt
      have hkl : k < (intss rows).length := by rw [intss_len]; exact hkz
      obtain ⟨b1, o, rfl, hl, B, c', hcell, hle, hmx, hrB⟩ := hr.pos hkl
      rw [intss_at] at hrB
      simp only [intss_at, ints_len] at hcell
      have HS := Lib.hid (HJ.out.trans (findAux_step (x := x) hkz))
      unfold maxLen at hmx
      simp only [intss_at, ints_len] at hle
      generalize rows[k] = zs at *
      generalize hz : zs.length = p at *
      have HZ := Lib.hid hz
      clear hz
      go_wp2_with fail
      refine (find1_any B p c' b zs x _ HZ.out hrB hx (by omega)).mono ?_
      rintro e w' ⟨rfl, rfl⟩
      cases hxy : hasI zs x with
      | true =>
        have HT := Lib.hid (HS.out.trans (if_pos hxy))
        clear hxy
        go_wp2_with fail
        go_ret
        exact ⟨by rw [HT.out]; rfl, rfl⟩
      | false =>
        have HT := Lib.hid (HS.out.trans (if_neg (by simp [hxy])))
        clear hxy
        go_wp2_with fail
        go_round
        case rel => exact ⟨k + 1, by omega, by go_num, HT⟩
        case measure => simp [intOf]; omega
    · have HE : Hid (findAux rows 0 x = -1) := Lib.hid (by rw [HJ.out, List.drop_of_length_le (by rw [HN.out]; omega), findAux])
      go_wp2_with fail
      go_ret
      exact ⟨by rw [HE.out]; rfl, rfl⟩
open Go.Sort in
theorem yardFind (high : Int) (A : Option Addr) (n c : Nat) (rows : List (List Int)) (x : Int) (w : World) (hn : rows.length = n) (hr : RdRR w A (intss rows)) (hm : n ≤ 9223372036854775807) :
    Calls Tryz.prog 51 #[.agg #[.int .i64 high, .slice A n c], .int .i64 x] w fun e w' => e = .returned (.int .i64 (findAux rows 0 x)) ∧ ∃ q os', w' = grow (w.drewN q) os' := by
  have HN := Lib.hid hn
  have hbl : Below w.heap.size w ((w.alloc (.cells #[.int .i64 high, .slice A n c] 36)).alloc (.cells #[.int .i64 x] 3)) := ((Below.refl _ _).alloc (Nat.le_refl _) _).alloc (by simp) _
  have hX : Blk ((w.alloc (.cells #[.int .i64 high, .slice A n c] 36)).alloc (.cells #[.int .i64 x] 3)) (w.heap.size + 1) 3 [.int .i64 x] := by simpa using Blk.new (w.alloc (.cells #[.int .i64 high, .slice A n c] 36)) 3 [.int .i64 x]
  have c0 := hX.cellAt 0 (by simp)
  simp only [List.getElem_cons_zero] at c0
  have HR := Lib.hid (hr.below hbl)
  have HG : Hid (∃ q os', (w.alloc (.cells #[.int .i64 high, .slice A n c] 36)).alloc (.cells #[.int .i64 x] 3) = grow (w.drewN q) os') := Lib.hid ⟨0, #[_] ++ #[_], by rw [alloc_eq_grow, alloc_eq_grow, grow_grow]; rfl⟩
  clear hn hX
  go_enter Tryz.func51, Tryz.ntmps51
  go_wp2_with fail
  refine (index_row A n c (w.heap.size + 1) rows x _ HN.out HR.out c0 hm).mono ?_
  rintro e w' ⟨rfl, rfl⟩
  go_wp2_with fail
  go_ret
  exact ⟨rfl, HG.out⟩
open Go.Sort in
theorem below_grow (w : World) (n : Nat) (os : Array Obj) : Below w.heap.size w (grow (w.drewN n) os) :=
  ⟨rfl, rfl, rfl, by rw [size_grow]; exact Nat.le_add_right _ _, fun k hk => heap_grow_old (w.drewN n) os hk⟩
/-- an inner row of its own gets one element more -/
theorem OwnRR.push {w : World} {lo hi : Nat} {A : Option Addr} {n c : Nat} {rows : List (List Int)} (h : OwnRR w lo hi 28 3 (.slice A n c) (intss rows)) {k : Nat} (hk : k < rows.length) (x : Int) :
    ∃ g B c', A = some ⟨g, 0, none⟩ ∧ lo ≤ g ∧ g < hi ∧ w.cell? ⟨g, k, none⟩ = some (.slice B (rows[k]).length c') ∧ w.frozen? ⟨g, k, none⟩ = false ∧ w.ownsRow lo 3 1 (.slice B (rows[k]).length c') (rows[k]).length (ints rows[k]) ∧ hi ≤ w.heap.size ∧
      ∀ (w7 : World) (v7 : Value), w7.ownsRow lo 3 1 v7 ((rows[k]).length + 1) (ints rows[k] ++ [.int .i64 x]) → w.drew.grownBy w7 (Value.ownBlock (.slice B (rows[k]).length c')) → (v7.ownBlock = Value.ownBlock (.slice B (rows[k]).length c') ∨ v7.ownBlock = some (w.drew.heap.size + 1)) →
        w7.cell? ⟨g, k, none⟩ = some (.slice B (rows[k]).length c') ∧ w7.frozen? ⟨g, k, none⟩ = false ∧ Out lo hi w w7 ∧
        OwnRR (w7.setCell ⟨g, k, none⟩ v7) lo (w7.setCell ⟨g, k, none⟩ v7).heap.size 28 3 (.slice A n c) (intss (rows.set k (rows[k] ++ [x]))) ∧ Out lo hi w (w7.setCell ⟨g, k, none⟩ v7) := by
  have hkl : k < (intss rows).length := by rw [intss_len]; exact hk
  have htop : hi ≤ w.heap.size := by obtain ⟨hs, h1, _⟩ := h; exact h1.top
  obtain ⟨g, cc, B, c', hv, h1, h2, h3, h4, h5, h6, h7⟩ := h.put hkl
  rw [intss_at, ints_len] at h5
  simp only [intss_at, ints_len] at h3 h6 h7
  injection hv with e1 e2 e3
  refine ⟨g, B, c', e1, h1, h2, h3, h4, h5.row, htop, fun w7 v7 hown hg hb => ?_⟩
  have hg' : w.grownBy w7 (Value.ownBlock (.slice B (rows[k]).length c')) := ⟨hg.os, hg.tape, hg.output, hg.size, hg.block⟩
  have hblk : w7.heap[g]? = w.heap[g]? := hg'.block g (by omega) (fun e => h6 g e.symm rfl)
  obtain ⟨p1, p2⟩ := h7 w7 v7 (ints (rows[k] ++ [x])) hg' (by rw [ints_len, List.length_append, List.length_singleton, ints_app]; exact hown) (hb.imp id fun e => ⟨_, e, by show hi ≤ w.heap.size + 1; omega⟩)
  have es : (intss rows).set k (ints (rows[k] ++ [x])) = intss (rows.set k (rows[k] ++ [x])) := by simp [intss, List.map_set]
  rw [es] at p1
  exact ⟨(World.cell?_of_block hblk).trans h3, (World.frozen?_of_block hblk).trans h4, out_of_grown hg' (fun b e => ⟨(h5.row.lt b e).1, h5.lt b e⟩), p1, p2⟩
end Go.Proofs.YtbllbpjlkechdaaGreat
end
