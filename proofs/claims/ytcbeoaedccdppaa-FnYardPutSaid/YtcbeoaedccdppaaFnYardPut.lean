/- FnYardPut returns true, for every code; no condition. -/
import Derived.Test.YtcbeoaedccdppaaDrawYardP
import Derived.Test.YtcbeoaedccdppaaSameYz
import Derived.Test.YtcbeoaedccdppaaYdB
import Derived.Test.YtcbeoaedccdppaaYdY
import Derived.Test.YtcbeoaedccdppaaAlive
namespace Go.Proofs.Ytcbeoaedccdppaa
open Go Go.ChangeShapes Go.WideShapes Go.ChangeAt Go.RowKit
set_option linter.unusedVariables false
set_option linter.unusedSimpArgs false
/-- the cells of three yards, wherever nothing has turned that lay before -/
theorem sixY_below {w : World} {q r s : Nat} {t : TypeId} {a b c d e f : Value} (hq : Blk w q t [a, b]) (hr : Blk w r t [c, d]) (hs : Blk w s t [e, f]) : ∀ W, Below w.heap.size w W → Below w.heap.size w W ∧ W.cell? ⟨q, 0, none⟩ = some a ∧ W.cell? ⟨q, 1, none⟩ = some b ∧ W.cell? ⟨r, 0, none⟩ = some c ∧ W.cell? ⟨r, 1, none⟩ = some d ∧ W.cell? ⟨s, 0, none⟩ = some e ∧ W.cell? ⟨s, 1, none⟩ = some f := fun W hW =>
  ⟨hW, (hq.later hW).cellAt 0 (by simp), (hq.later hW).cellAt 1 (by simp), (hr.later hW).cellAt 0 (by simp), (hr.later hW).cellAt 1 (by simp), (hs.later hW).cellAt 0 (by simp), (hs.later hW).cellAt 1 (by simp)⟩
set_option maxRecDepth 100000 in
set_option maxHeartbeats 4000000 in
theorem walkFnYardPut (w : World) (A : Option Addr) (n c : Nat) (bs : List Int) (h : Code w A n c bs) :
    Calls Try.prog 5 #[.slice A n c] w fun e w' => e = .returned (.bool true) ∧ Below w.heap.size w w' := by
  have hmx := h.max
  by_cases hn : n ≤ 1048576
  · go_enter Try.func5, Try.ntmps5
    go_wp2_with fail
    refine (drawYardPut_any A n c bs _ h).mono ?_
    rintro e w1 ⟨_, rfl, high, A1, c1, rows, i, x, rfl, hR, hL, b1⟩
    obtain ⟨hl7, hl6⟩ := hL
    have HM : Hid (∀ s ∈ rows, s.length ≤ 1048576) := Lib.hid (fun s hs => by have := hl6 s hs; omega)
    generalize hm : rows.length = m at *
    have HLEN := Lib.hid hm
    clear hm hl6 h
    have hal2 : Below w1.heap.size w1 (w1.alloc (.cells #[.int .i64 high, .slice A1 m c1] 27)) := (Below.refl _ _).alloc (Nat.le_refl _) _
    have hN2 : Blk (w1.alloc (.cells #[.int .i64 high, .slice A1 m c1] 27)) w1.heap.size 27 [.int .i64 high, .slice A1 m c1] := Blk.new _ _ _
    have B2 := Lib.hid (below_trans b1 hal2)
    have R2 := Lib.hid (hR.below hal2)
    have Y2 := Lib.hid hN2
    clear b1 hal2 hR hN2
    have y0 := Y2.out.cellAt 0 (by simp)
    have y1 := Y2.out.cellAt 1 (by simp)
    simp only [List.getElem_cons_zero, List.getElem_cons_succ] at y0 y1
    go_wp2_with fail
    generalize w1.alloc (.cells #[.int .i64 high, .slice A1 m c1] 27) = w2 at *
    have cI := fun (w : World) (h : RdRR w A1 (intss rows)) => implYardPut high i x A1 m c1 rows w HLEN.out h (by omega) HM.out
    have cS := fun (w : World) (h : RdRR w A1 (intss rows)) => specYardPut high i x A1 m c1 rows w HLEN.out h (by omega) HM.out
    have hways := yput_ways high rows i x
    have hsm := yput_small high rows i x
    generalize yput high rows i x = X at *
    obtain ⟨h', rows', r⟩ := X
    dsimp only at hsm
    have HM1 := Lib.hid (rfl : rows'.length = rows'.length)
    replace cI := fun w h => yp_use (cI w h) HM1.out
    replace cS := fun w h => yp_use (cS w h) HM1.out
    clear HM1
    generalize hm' : rows'.length = m' at *
    have HLEN2 := Lib.hid hm'
    have HW := Lib.hid hways
    have HSM := Lib.hid hsm
    have hm7 : m' ≤ 7 := by rw [HLEN.out] at hsm; omega
    have hrr : (r != r) = false := by simp
    clear hways hsm hm'
    refine (cI _ R2.out).mono ?_
    rintro e w3 ⟨_, rfl, GA, gc, rfl, G3, b3⟩
    have hal4 : Below w3.heap.size w3 (w3.alloc (.cells #[.int .i64 h', .slice GA m' gc] 27)) := (Below.refl _ _).alloc (Nat.le_refl _) _
    have hN4 : Blk (w3.alloc (.cells #[.int .i64 h', .slice GA m' gc] 27)) w3.heap.size 27 [.int .i64 h', .slice GA m' gc] := Blk.new _ _ _
    have b4 := below_trans b3 hal4
    have B4 := Lib.hid (below_trans B2.out b4)
    have R4 := Lib.hid (R2.out.below b4)
    have Y4 := Lib.hid (Y2.out.later b4)
    have G4 := Lib.hid (G3.later hal4)
    have Z4 := Lib.hid hN4
    clear b3 G3 hal4 b4 hN4 y0 y1 R2 Y2 B2
    have y0 := Y4.out.cellAt 0 (by simp)
    have y1 := Y4.out.cellAt 1 (by simp)
    simp only [List.getElem_cons_zero, List.getElem_cons_succ] at y0 y1
    go_wp2_with fail
    generalize w3.alloc (.cells #[.int .i64 h', .slice GA m' gc] 27) = w4 at *
    refine (cS _ R4.out).mono ?_
    rintro e w5 ⟨_, rfl, SA, sc, rfl, S5, b5⟩
    have hal6 : Below w5.heap.size w5 (w5.alloc (.cells #[.int .i64 h', .slice SA m' sc] 27)) := (Below.refl _ _).alloc (Nat.le_refl _) _
    have hN6 : Blk (w5.alloc (.cells #[.int .i64 h', .slice SA m' sc] 27)) w5.heap.size 27 [.int .i64 h', .slice SA m' sc] := Blk.new _ _ _
    have b6 := below_trans b5 hal6
    have B6 := Lib.hid (below_trans B4.out b6)
    have R6 := Lib.hid (R4.out.below b6)
    have Y6 := Lib.hid (Y4.out.later b6)
    have G6 := Lib.hid (G4.out.later b6)
    have Z6 := Lib.hid (Z4.out.later b6)
    have S6 := Lib.hid (S5.later hal6)
    clear b5 S5 hal6 b6 y0 y1 R4 Y4 G4 Z4 B4
    have z0 := Z6.out.cellAt 0 (by simp)
    have z1 := Z6.out.cellAt 1 (by simp)
    simp only [List.getElem_cons_zero, List.getElem_cons_succ] at z0 z1
    go_wp2_with fail
    generalize w5.alloc (.cells #[.int .i64 h', .slice SA m' sc] 27) = w6 at *
    have HM2 : Hid (∀ s ∈ rows', s.length ≤ 1048576) := Lib.hid (by
      rcases HW.out with e | e | ⟨k, rows2, _, e, _, e5, _⟩
      · simp only [Prod.mk.injEq] at e
        rw [e.2.1]; intro s hs; simp at hs
      · simp only [Prod.mk.injEq] at e
        rw [e.2.1]; exact HM.out
      · simp only [Prod.mk.injEq] at e
        rw [e.2.1]; intro s hs
        have := (yardOk_parts e5).2.2.2.2.1 s hs
        omega)
    refine (sameYard_any h' GA SA m' gc sc rows' _ HLEN2.out G6.out.rd S6.out.rd (by omega) HM2.out).mono ?_
    rintro e w7 ⟨rfl, b7⟩
    have B7 := Lib.hid (below_trans B6.out b7)
    have R7 := Lib.hid (R6.out.below b7)
    have Y7 := Lib.hid (Y6.out.later b7)
    have G7 := Lib.hid (G6.out.later b7)
    have Z7 := Lib.hid (Z6.out.later b7)
    clear b7 z0 z1 R6 Y6 G6 Z6 B6 S6
    have z0 := Z7.out.cellAt 0 (by simp)
    have z1 := Z7.out.cellAt 1 (by simp)
    simp only [List.getElem_cons_zero, List.getElem_cons_succ] at z0 z1
    have y0 := Y7.out.cellAt 0 (by simp)
    have y1 := Y7.out.cellAt 1 (by simp)
    simp only [List.getElem_cons_zero, List.getElem_cons_succ] at y0 y1
    rcases HW.out with e | e | ⟨k, rows2, rfl, e, hok1, hok2, htake, htot, hlen2⟩
    · simp only [Prod.mk.injEq] at e
      obtain ⟨rfl, rfl, rfl⟩ := e
      have hm0 : m' = 0 := by have := HLEN2.out; simpa using this.symm
      subst hm0
      go_wp2_with fail
      refine (sameYard_zero high GA A1 gc m c1 _ (by omega)).mono ?_
      rintro e w8 ⟨bb, rfl, b8⟩
      have B8 := Lib.hid (below_trans B7.out b8)
      have Z8 := Lib.hid (Z7.out.later b8)
      clear b8 z0 z1 y0 y1
      have z0 := Z8.out.cellAt 0 (by simp)
      have z1 := Z8.out.cellAt 1 (by simp)
      simp only [List.getElem_cons_zero, List.getElem_cons_succ] at z0 z1
      cases bb
      · go_wp2_with fail
        refine (alive_any _).mono ?_
        rintro e w9 ⟨rfl, rfl⟩
        go_wp2_with fail
        go_ret
        exact ⟨rfl, B8.out⟩
      · go_wp2_with fail
        refine (alive_any _).mono ?_
        rintro e w9 ⟨rfl, rfl⟩
        go_wp2_with fail
        go_ret
        exact ⟨rfl, B8.out⟩
    · simp only [Prod.mk.injEq] at e
      obtain ⟨rfl, rfl, rfl⟩ := e
      obtain rfl : m' = m := by rw [← HLEN2.out]; exact HLEN.out
      go_wp2_with fail
      refine (sameYard_any h' GA A1 m' gc c1 rows' _ HLEN2.out G7.out.rd R7.out (by omega) HM2.out).mono ?_
      rintro e w8 ⟨rfl, b8⟩
      have B8 := Lib.hid (below_trans B7.out b8)
      clear b8 z0 z1 y0 y1
      go_wp2_with fail
      refine (alive_any _).mono ?_
      rintro e w9 ⟨rfl, rfl⟩
      go_wp2_with fail
      go_ret
      exact ⟨rfl, B8.out⟩
    · simp only [Prod.mk.injEq] at e
      obtain ⟨rfl, rfl, rfl⟩ := e
      obtain rfl : m' = m := by rw [← HLEN2.out, hlen2]; exact HLEN.out
      have hP := fun w h => yt_use (htake ▸ implYardTake h' (k : Int) GA m' gc rows' w HLEN2.out h (by omega) HM2.out) HLEN.out
      have HOK1 := Lib.hid hok1
      have HOK2 := Lib.hid hok2
      have HTOT := Lib.hid htot
      clear htake hok1 hok2 htot
      go_wp2_with fail
      refine (hP _ G7.out.rd).mono ?_
      rintro e w8 ⟨_, rfl, PA, pc, rfl, P8, b8⟩
      have hal9 : Below w8.heap.size w8 (w8.alloc (.cells #[.int .i64 h', .slice PA m' pc] 27)) := (Below.refl _ _).alloc (Nat.le_refl _) _
      have hN9 : Blk (w8.alloc (.cells #[.int .i64 h', .slice PA m' pc] 27)) w8.heap.size 27 [.int .i64 h', .slice PA m' pc] := Blk.new _ _ _
      have b9 := below_trans b8 hal9
      have B9 := Lib.hid (below_trans B7.out b9)
      have R9 : Hid (∀ W, Below _ _ W → RdRR W A1 (intss rows)) := Lib.hid fun W hW => (R7.out.below b9).below hW
      have G9 : Hid (∀ W, Below _ _ W → RdRR W GA (intss rows')) := Lib.hid fun W hW => ((G7.out.later b9).later hW).rd
      have P9 : Hid (∀ W, Below _ _ W → RdRR W PA (intss rows)) := Lib.hid fun W hW => ((P8.later hal9).later hW).rd
      have C9 := Lib.hid (sixY_below (Z7.out.later b9) (Y7.out.later b9) hN9)
      clear b8 P8 hal9 b9 hN9 z0 z1 y0 y1 hP R7 G7 Y7 Z7
      go_wp2_with fail
      generalize w8.alloc (.cells #[.int .i64 h', .slice PA m' pc] 27) = w9 at *
      have HX : Hid ((idsA h' rows').length = (idsA h' rows).length + 1) := Lib.hid (by
        simp only [idsA, HOK1.out, HOK2.out, if_pos, srtI_len]
        have h1 := HTOT.out
        simpa [totI] using h1)
      have hx25 := (ids_len h' rows').2
      have cA := fun W hW => implYardIds h' GA m' gc rows' W HLEN2.out (G9.out W hW) (by omega)
      have cB := fun W hW => implYardIds h' A1 m' c1 rows W HLEN.out (R9.out W hW) (by omega)
      have HXX := HX
      generalize idsA h' rows' = zs at *
      generalize idsA h' rows = ys at *
      unfold IdsOut at cA cB
      generalize zs.length = a at *
      generalize hb : ys.length = b at *
      have hab : a = b + 1 := HX.out
      subst hab
      have hib : IntKind.i64.wrap ((b : Int) + 1) = (b : Int) + 1 := IntWalk.i64_in _ (by omega)
      have hxx : (x == x) = true := by simp
      have hbb : ((b : Int) + 1 == (b : Int) + 1) = true := by simp
      clear hb HX HXX
      go_region_held3 (fun W => Below w9.heap.size w9 W ∧ W.cell? ⟨w3.heap.size, 0, none⟩ = some (.int .i64 h') ∧ W.cell? ⟨w3.heap.size, 1, none⟩ = some (.slice GA m' gc) ∧ W.cell? ⟨w1.heap.size, 0, none⟩ = some (.int .i64 h') ∧ W.cell? ⟨w1.heap.size, 1, none⟩ = some (.slice A1 m' c1) ∧ W.cell? ⟨w8.heap.size, 0, none⟩ = some (.int .i64 h') ∧ W.cell? ⟨w8.heap.size, 1, none⟩ = some (.slice PA m' pc))
        (first | exact C9.out _ (Below.drew (Below.refl _ _)) | exact C9.out _ (Below.refl _ _) | exact C9.out _ ka | exact C9.out _ kb | exact C9.out _ kc | exact C9.out _ kd)
        (first
          | (go_at_call 12; (with_reducible refine (implYardValid h' GA m' gc rows' _ HLEN2.out (G9.out _ (by first | assumption | exact Below.drew (Below.refl _ _))) (by omega)).mono ?_); rintro e wa ⟨rfl, ba⟩; rw [HOK2.out]; have ka : Below w9.heap.size w9 wa := below_trans (Below.drew (Below.refl _ _)) ba)
          | (go_at_call 17; (with_reducible refine (sameYard_any h' PA A1 m' pc c1 rows _ HLEN.out (P9.out _ (by assumption)) (R9.out _ (by assumption)) (by omega) HM.out).mono ?_); rintro e wb ⟨rfl, bb⟩; have kb : Below w9.heap.size w9 wb := below_trans ka bb)
          | (go_at_call 19; (with_reducible refine (cA _ (by assumption)).mono ?_); rintro e wc ⟨_, rfl, CA, cc, rfl, oc, bc⟩; have kc : Below w9.heap.size w9 wc := below_trans (by assumption) bc; clear oc)
          | (go_at_call 19; (with_reducible refine (cB _ (by assumption)).mono ?_); rintro e wd ⟨_, rfl, DA, dc, rfl, od, bd⟩; have kd : Below w9.heap.size w9 wd := below_trans (by assumption) bd; clear od))
      all_goals
        go_wp2_with fail
        go_ret
        exact ⟨rfl, below_trans B9.out (by assumption)⟩
  · go_enter Try.func5, Try.ntmps5
    go_wp2_with fail
    go_ret
    exact ⟨rfl, Below.refl _ _⟩
end Go.Proofs.Ytcbeoaedccdppaa
