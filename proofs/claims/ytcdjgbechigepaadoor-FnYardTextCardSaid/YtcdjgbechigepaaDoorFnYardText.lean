/- FnYardText returns true, for every code; no condition beyond the laid tables. -/
import Derived.Test.YtcdjgbechigepaaDoorDrawYardX
import Derived.Test.YtcdjgbechigepaaDoorSamY
import Derived.Test.YtcdjgbechigepaaDoorRdK
import Derived.Test.YtcdjgbechigepaaDoorAlive
namespace Go.Proofs.YtcdjgbechigepaaDoor
open Go Go.ChangeShapes Go.WideShapes Go.ChangeAt Go.RowKit
set_option linter.unusedVariables false
set_option linter.unusedSimpArgs false
theorem yardT_pos {high : Int} {rows : List (List Int)} (h : yardOk high rows = true) : yardT high rows ≠ [] := by
  obtain ⟨_, _, h3⟩ := yard_each h
  have h0 : rows ≠ [] := by
    intro e
    subst e
    simp [yardOk] at h
  have := join_pos (sep := [32]) (xs := rows.map rowT) (by simpa using h0) (fun y hy => by
    obtain ⟨s, hs, rfl⟩ := List.mem_map.1 hy
    unfold rowT
    split
    · simp
    · rename_i hn
      exact join_pos (by simpa using hn) (fun z hz => by
        obtain ⟨x, hx, rfl⟩ := List.mem_map.1 hz
        exact (itoa_len (h3 s hs x hx)).1))
  rw [yardT, if_pos h]
  intro e
  rw [e] at this
  simp at this
set_option maxRecDepth 100000 in
set_option maxHeartbeats 4000000 in
theorem walkFnYardText (w : World) (A : Option Addr) (n c : Nat) (bs : List Int) (h : Code w A n c bs) (ht : TabW w) (he : ErrsW w) :
    Calls Tryd.prog 5 #[.slice A n c] w fun e w' => e = .returned (.bool true) ∧ Below w.heap.size w w' := by
  have hmx := h.max
  have HTB := Lib.hid ht
  have HER := Lib.hid he
  clear ht he
  by_cases hn : n ≤ 1048576
  · go_enter Tryd.func5, Tryd.ntmps5
    go_wp2_with fail
    refine (drawYardText_any A n c bs _ h).mono ?_
    rintro e w1 ⟨_, rfl, high, A1, c1, rows, rfl, hR, hL, b1⟩
    obtain ⟨hl7, hl6⟩ := hL
    have HM : Hid (∀ s ∈ rows, s.length ≤ 1048576) := Lib.hid (fun s hs => by have := hl6 s hs; omega)
    have hlt := yardT_len high rows
    have hrd := fun h => rdYard_text (high := high) (rows := rows) h
    have hpos := fun h => yardT_pos (high := high) (rows := rows) h
    have h0 : yardOk high rows = false → yardT high rows = [] := fun h => by rw [yardT, if_neg (by simp [h])]
    have HRD := Lib.hid hrd
    have HPOS := Lib.hid hpos
    have H0 := Lib.hid h0
    generalize hm : rows.length = m at *
    have HLEN := Lib.hid hm
    clear hm hl6 h hrd hpos h0
    have hal2 : Below w1.heap.size w1 (w1.alloc (.cells #[.int .i64 high, .slice A1 m c1] 24)) := (Below.refl _ _).alloc (Nat.le_refl _) _
    have hN2 : Blk (w1.alloc (.cells #[.int .i64 high, .slice A1 m c1] 24)) w1.heap.size 24 [.int .i64 high, .slice A1 m c1] := Blk.new _ _ _
    have B2 := Lib.hid (below_trans b1 hal2)
    have R2 := Lib.hid (hR.below hal2)
    have Y2 := Lib.hid hN2
    clear b1 hal2 hR hN2
    have y0 := Y2.out.cellAt 0 (by simp)
    have y1 := Y2.out.cellAt 1 (by simp)
    simp only [List.getElem_cons_zero, List.getElem_cons_succ] at y0 y1
    go_wp2_with fail
    generalize w1.alloc (.cells #[.int .i64 high, .slice A1 m c1] 24) = w2 at *
    have cI := fun (W : World) (h : RdRR W A1 (intss rows)) (ht : TabW W) => implYardText high A1 m c1 rows W HLEN.out h (by omega) ht
    have cS := fun (W : World) (h : RdRR W A1 (intss rows)) => specYardText high A1 m c1 rows W HLEN.out h (by omega)
    have cV := fun (W : World) (h : RdRR W A1 (intss rows)) => implYardValid high A1 m c1 rows W HLEN.out h (by omega)
    have cR := fun (W : World) (ht : TabW W) (he : ErrsW W) => implReadYard high (yardT high rows) (by omega) W ht he
    generalize yardT high rows = t at *
    have htt : (t != t) = false := by simp
    refine (cI _ R2.out (HTB.out.later B2.out)).mono ?_
    rintro e w3 ⟨rfl, b3⟩
    have B3 := Lib.hid (below_trans B2.out b3)
    have R3 := Lib.hid (R2.out.below b3)
    have Y3 := Lib.hid (Y2.out.later b3)
    clear b3 R2 Y2 B2 y0 y1 cI
    have y0 := Y3.out.cellAt 0 (by simp)
    have y1 := Y3.out.cellAt 1 (by simp)
    simp only [List.getElem_cons_zero, List.getElem_cons_succ] at y0 y1
    go_wp2_with fail
    refine (cS _ R3.out).mono ?_
    rintro e w4 ⟨rfl, b4⟩
    have B4 := Lib.hid (below_trans B3.out b4)
    have R4 := Lib.hid (R3.out.below b4)
    have Y4 := Lib.hid (Y3.out.later b4)
    clear b4 R3 Y3 B3 y0 y1 cS
    have y0 := Y4.out.cellAt 0 (by simp)
    have y1 := Y4.out.cellAt 1 (by simp)
    simp only [List.getElem_cons_zero, List.getElem_cons_succ] at y0 y1
    cases hok : yardOk high rows with
    | false =>
      have ht0 : (t == []) = true := by rw [H0.out hok]; rfl
      simp only [hok] at cV
      clear hok HRD HPOS H0 cR
      go_wp2_with fail
      refine (cV _ R4.out).mono ?_
      rintro e w5 ⟨rfl, b5⟩
      have B5 := Lib.hid (below_trans B4.out b5)
      clear b5 y0 y1
      go_wp2_with fail
      refine (alive_any _).mono ?_
      rintro e w9 ⟨rfl, rfl⟩
      go_wp2_with fail
      go_ret
      exact ⟨rfl, B5.out⟩
    | true =>
      have ht0 : (t == []) = false := beq_eq_false_iff_ne.2 (HPOS.out hok)
      rw [HRD.out hok] at cR
      replace cR := fun W ht he => rd_use (cR W ht he) HLEN.out
      clear hok HRD HPOS H0 cV
      go_wp2_with fail
      refine (cR _ (HTB.out.later B4.out) (HER.out.later B4.out (Nat.le_refl _))).mono ?_
      rintro e w5 ⟨_, rfl, GA, gc, rfl, G5, b5⟩
      have hal6 : Below w5.heap.size w5 (w5.alloc (.cells #[.int .i64 high, .slice GA m gc] 24)) := (Below.refl _ _).alloc (Nat.le_refl _) _
      have hN6 : Blk (w5.alloc (.cells #[.int .i64 high, .slice GA m gc] 24)) w5.heap.size 24 [.int .i64 high, .slice GA m gc] := Blk.new _ _ _
      have b6 := below_trans b5 hal6
      have B6 := Lib.hid (below_trans B4.out b6)
      have R6 := Lib.hid (R4.out.below b6)
      have Y6 := Lib.hid (Y4.out.later b6)
      have G6 := Lib.hid (G5.later hal6)
      have Z6 := Lib.hid hN6
      clear b5 G5 hal6 b6 hN6 y0 y1 R4 Y4 B4
      have y0 := Y6.out.cellAt 0 (by simp)
      have y1 := Y6.out.cellAt 1 (by simp)
      simp only [List.getElem_cons_zero, List.getElem_cons_succ] at y0 y1
      have z0 := Z6.out.cellAt 0 (by simp)
      have z1 := Z6.out.cellAt 1 (by simp)
      simp only [List.getElem_cons_zero, List.getElem_cons_succ] at z0 z1
      go_wp2_with fail
      generalize w5.alloc (.cells #[.int .i64 high, .slice GA m gc] 24) = w6 at *
      refine (sameYard_any high GA A1 m gc c1 rows _ HLEN.out G6.out.rd R6.out (by omega) HM.out).mono ?_
      rintro e w7 ⟨rfl, b7⟩
      have B7 := Lib.hid (below_trans B6.out b7)
      clear b7 z0 z1 y0 y1
      go_wp2_with fail
      go_ret
      exact ⟨rfl, B7.out⟩
  · go_enter Tryd.func5, Tryd.ntmps5
    go_wp2_with fail
    go_ret
    exact ⟨rfl, Below.refl _ _⟩
end Go.Proofs.YtcdjgbechigepaaDoor
