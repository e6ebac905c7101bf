/- FnYardTake returns true, for every code; no condition. -/
import Derived.Test.YtimnemglcheodaaDrawYardT
import Derived.Test.YtimnemglcheodaaSameYard
import Derived.Test.YtimnemglcheodaaYdR
import Derived.Test.YtimnemglcheodaaYdPL
import Derived.Test.YtimnemglcheodaaAlive
namespace Go.Proofs.Ytimnemglcheodaa
open Go Go.ChangeShapes Go.WideShapes Go.ChangeAt Go.RowKit
set_option linter.unusedVariables false
set_option linter.unusedSimpArgs false
/-- what a taking gives, three ways -/
theorem ytake_ways (high : Int) (rows : List (List Int)) (i : Int) : ytake high rows i = (0, [], -1) ∨ ytake high rows i = (high, rows, -1) ∨
    ∃ (k : Nat) (rows2 : List (List Int)) (id : Int), i = (k : Int) ∧ ytake high rows i = (high, rows2, id) ∧ 1 ≤ id ∧ id ≤ 999 ∧ yardOk high rows2 = true ∧ yput high rows2 (k : Int) id = (high, rows, true) ∧ findAux rows2 0 id = -1 ∧ rows2.length = rows.length ∧ (∀ s ∈ rows2, s.length ≤ 5) := by
  cases hok : yardOk high rows with
  | false => exact .inl (ytake_bad i hok)
  | true =>
    by_cases h : (0 ≤ i ∧ i < rows.length) ∧ (rows.getD i.toNat []) ≠ []
    · obtain ⟨⟨h0, h1⟩, h2⟩ := h
      obtain ⟨k, rfl⟩ := Int.eq_ofNat_of_zero_le h0
      have hk : k < rows.length := by omega
      have hz : rows[k] ≠ [] := by
        have e : rows.getD (k : Int).toNat [] = rows[k] := by rw [Int.toNat_natCast]; exact getD_at hk
        rwa [e] at h2
      obtain ⟨a1, a2, a3, a4⟩ := yardOk_back hok hk hz
      have hp := yardOk_pop hok hk
      exact .inr (.inr ⟨k, _, _, rfl, ytake_yes hok hk hz, a1, a2, hp, a3, a4, by rw [List.length_set], (yardOk_parts hp).2.2.2.2.1⟩)
    · exact .inr (.inl (ytake_no hok h))
theorem sameYard_zero (high : Int) (A B : Option Addr) (c n d : Nat) (w : World) (hm : n ≤ 1048576) :
    Calls Try.prog 17 #[.agg #[.int .i64 0, .slice A 0 c], .agg #[.int .i64 high, .slice B n d]] w (RBool fun _ w' => Below w.heap.size w w') := by
  have hbl : Below w.heap.size w ((w.alloc (.cells #[.int .i64 0, .slice A 0 c] 26)).alloc (.cells #[.int .i64 high, .slice B n d] 26)) := ((Below.refl _ _).alloc (Nat.le_refl _) _).alloc (by simp) _
  have HBL := Lib.hid hbl
  clear hbl
  by_cases hh : high = 0
  · subst hh
    by_cases hn : n = 0
    · subst hn
      go_enter Try.func17, Try.ntmps17
      go_wp2_with fail
      refine (sameLists_any A B [] 0 c d rfl _ RdRR.nil_ RdRR.nil_ (by omega) (by simp)).mono ?_
      rintro e w1 ⟨rfl, hb1⟩
      go_wp2_with fail
      go_ret
      exact RBool.mk (below_trans HBL.out hb1)
    · have hne : ((0 : Int) != (n : Int)) = true := by simp; omega
      have hS : ∀ w0, Calls Try.prog 39 #[.slice A 0 c, .slice B n d] w0 fun e w' => e = .returned (.bool false) ∧ w0 = w' := fun w0 => by
        go_enter Try.func39, Try.ntmps39
        go_wp2_with fail
        go_ret
        exact ⟨rfl, rfl⟩
      go_enter Try.func17, Try.ntmps17
      go_wp2_with fail
      refine (hS _).mono ?_
      rintro e w1 ⟨rfl, rfl⟩
      go_wp2_with fail
      go_ret
      exact RBool.mk HBL.out
  · have hf : ((0 : Int) == high) = false := by simpa using fun h => hh h.symm
    clear hh
    go_enter Try.func17, Try.ntmps17
    go_wp2_with fail
    go_ret
    exact RBool.mk HBL.out
set_option maxRecDepth 100000 in
set_option maxHeartbeats 4000000 in
theorem walkFnYardTake (w : World) (A : Option Addr) (n c : Nat) (bs : List Int) (h : Code w A n c bs) :
    Calls Try.prog 5 #[.slice A n c] w fun e w' => e = .returned (.bool true) ∧ Below w.heap.size w w' := by
  have hmx := h.max
  by_cases hn : n ≤ 1048576
  · go_enter Try.func5, Try.ntmps5
    go_wp2_with fail
    refine (drawYardTake_any A n c bs _ h).mono ?_
    rintro e w1 ⟨_, rfl, high, A1, c1, rows, i, rfl, hR, hL, b1⟩
    obtain ⟨hl7, hl6⟩ := hL
    have HM : Hid (∀ s ∈ rows, s.length ≤ 1048576) := Lib.hid (fun s hs => by have := hl6 s hs; omega)
    generalize hm : rows.length = m at *
    have HLEN := Lib.hid hm
    clear hm hl6 h
    have hal2 : Below w1.heap.size w1 (w1.alloc (.cells #[.int .i64 high, .slice A1 m c1] 26)) := (Below.refl _ _).alloc (Nat.le_refl _) _
    have hN2 : Blk (w1.alloc (.cells #[.int .i64 high, .slice A1 m c1] 26)) w1.heap.size 26 [.int .i64 high, .slice A1 m c1] := Blk.new _ _ _
    have B2 := Lib.hid (below_trans b1 hal2)
    have R2 := Lib.hid (hR.below hal2)
    have Y2 := Lib.hid hN2
    clear b1 hal2 hR hN2
    have y0 := Y2.out.cellAt 0 (by simp)
    have y1 := Y2.out.cellAt 1 (by simp)
    simp only [List.getElem_cons_zero, List.getElem_cons_succ] at y0 y1
    go_wp2_with fail
    generalize w1.alloc (.cells #[.int .i64 high, .slice A1 m c1] 26) = w2 at *
    have cI := fun (w : World) (h : RdRR w A1 (intss rows)) => implYardTake high i A1 m c1 rows w HLEN.out h (by omega) HM.out
    have cS := fun (w : World) (h : RdRR w A1 (intss rows)) => specYardTake high i A1 m c1 rows w HLEN.out h (by omega) HM.out
    have hways := ytake_ways high rows i
    have hsm := ytake_small high rows i
    generalize ytake high rows i = X at *
    obtain ⟨h', rows', r⟩ := X
    dsimp only at hsm
    have HM1 := Lib.hid (rfl : rows'.length = rows'.length)
    replace cI := fun w h => yt_use (cI w h) HM1.out
    replace cS := fun w h => yt_use (cS w h) HM1.out
    clear HM1
    generalize hm' : rows'.length = m' at *
    have HLEN2 := Lib.hid hm'
    have HW := Lib.hid hways
    have HSM := Lib.hid hsm
    have hm7 : m' ≤ 7 := by rw [HLEN.out] at hsm; omega
    have hrr : (r != r) = false := by simp
    clear hways hsm hm'
    refine (cI _ R2.out).mono ?_
    rintro e w3 ⟨_, rfl, GA, gc, rfl, G3, b3⟩
    have hal4 : Below w3.heap.size w3 (w3.alloc (.cells #[.int .i64 h', .slice GA m' gc] 26)) := (Below.refl _ _).alloc (Nat.le_refl _) _
    have hN4 : Blk (w3.alloc (.cells #[.int .i64 h', .slice GA m' gc] 26)) w3.heap.size 26 [.int .i64 h', .slice GA m' gc] := Blk.new _ _ _
    have b4 := below_trans b3 hal4
    have B4 := Lib.hid (below_trans B2.out b4)
    have R4 := Lib.hid (R2.out.below b4)
    have Y4 := Lib.hid (Y2.out.later b4)
    have G4 := Lib.hid (G3.later hal4)
    have Z4 := Lib.hid hN4
    clear b3 G3 hal4 b4 hN4 y0 y1 R2 Y2 B2
    have y0 := Y4.out.cellAt 0 (by simp)
    have y1 := Y4.out.cellAt 1 (by simp)
    simp only [List.getElem_cons_zero, List.getElem_cons_succ] at y0 y1
    go_wp2_with fail
    generalize w3.alloc (.cells #[.int .i64 h', .slice GA m' gc] 26) = w4 at *
    refine (cS _ R4.out).mono ?_
    rintro e w5 ⟨_, rfl, SA, sc, rfl, S5, b5⟩
    have hal6 : Below w5.heap.size w5 (w5.alloc (.cells #[.int .i64 h', .slice SA m' sc] 26)) := (Below.refl _ _).alloc (Nat.le_refl _) _
    have hN6 : Blk (w5.alloc (.cells #[.int .i64 h', .slice SA m' sc] 26)) w5.heap.size 26 [.int .i64 h', .slice SA m' sc] := Blk.new _ _ _
    have b6 := below_trans b5 hal6
    have B6 := Lib.hid (below_trans B4.out b6)
    have R6 := Lib.hid (R4.out.below b6)
    have Y6 := Lib.hid (Y4.out.later b6)
    have G6 := Lib.hid (G4.out.later b6)
    have Z6 := Lib.hid (Z4.out.later b6)
    have S6 := Lib.hid (S5.later hal6)
    clear b5 S5 hal6 b6 y0 y1 R4 Y4 G4 Z4 B4
    have z0 := Z6.out.cellAt 0 (by simp)
    have z1 := Z6.out.cellAt 1 (by simp)
    simp only [List.getElem_cons_zero, List.getElem_cons_succ] at z0 z1
    go_wp2_with fail
    generalize w5.alloc (.cells #[.int .i64 h', .slice SA m' sc] 26) = w6 at *
    have HM2 : Hid (∀ s ∈ rows', s.length ≤ 1048576) := Lib.hid (by
      rcases HW.out with e | e | ⟨k, rows2, id, _, e, _, _, _, _, _, _, h5⟩
      · simp only [Prod.mk.injEq] at e
        rw [e.2.1]; intro s hs; simp at hs
      · simp only [Prod.mk.injEq] at e
        rw [e.2.1]; exact HM.out
      · simp only [Prod.mk.injEq] at e
        rw [e.2.1]; intro s hs; have := h5 s hs; omega)
    refine (sameYard_any h' GA SA m' gc sc rows' _ HLEN2.out G6.out.rd S6.out.rd (by omega) HM2.out).mono ?_
    rintro e w7 ⟨rfl, b7⟩
    have B7 := Lib.hid (below_trans B6.out b7)
    have R7 := Lib.hid (R6.out.below b7)
    have Y7 := Lib.hid (Y6.out.later b7)
    have G7 := Lib.hid (G6.out.later b7)
    have Z7 := Lib.hid (Z6.out.later b7)
    clear b7 z0 z1 R6 Y6 G6 Z6 B6 S6
    have z0 := Z7.out.cellAt 0 (by simp)
    have z1 := Z7.out.cellAt 1 (by simp)
    simp only [List.getElem_cons_zero, List.getElem_cons_succ] at z0 z1
    have y0 := Y7.out.cellAt 0 (by simp)
    have y1 := Y7.out.cellAt 1 (by simp)
    simp only [List.getElem_cons_zero, List.getElem_cons_succ] at y0 y1
    rcases HW.out with e | e | ⟨k, rows2, id, rfl, e, i1, i2, hok2, hput, hfind, hlen2, h5⟩
    · simp only [Prod.mk.injEq] at e
      obtain ⟨rfl, rfl, rfl⟩ := e
      have hm0 : m' = 0 := by have := HLEN2.out; simpa using this.symm
      subst hm0
      go_wp2_with fail
      refine (sameYard_zero high GA A1 gc m c1 _ (by omega)).mono ?_
      rintro e w8 ⟨bb, rfl, b8⟩
      have B8 := Lib.hid (below_trans B7.out b8)
      have Z8 := Lib.hid (Z7.out.later b8)
      clear b8 z0 z1 y0 y1
      have z0 := Z8.out.cellAt 0 (by simp)
      have z1 := Z8.out.cellAt 1 (by simp)
      simp only [List.getElem_cons_zero, List.getElem_cons_succ] at z0 z1
      cases bb
      · go_wp2_with fail
        refine (alive_any _).mono ?_
        rintro e w9 ⟨rfl, rfl⟩
        go_wp2_with fail
        go_ret
        exact ⟨rfl, B8.out⟩
      · go_wp2_with fail
        refine (alive_any _).mono ?_
        rintro e w9 ⟨rfl, rfl⟩
        go_wp2_with fail
        go_ret
        exact ⟨rfl, B8.out⟩
    · simp only [Prod.mk.injEq] at e
      obtain ⟨rfl, rfl, rfl⟩ := e
      obtain rfl : m' = m := by rw [← HLEN2.out]; exact HLEN.out
      go_wp2_with fail
      refine (sameYard_any h' GA A1 m' gc c1 rows' _ HLEN2.out G7.out.rd R7.out (by omega) HM2.out).mono ?_
      rintro e w8 ⟨rfl, b8⟩
      have B8 := Lib.hid (below_trans B7.out b8)
      clear b8 z0 z1 y0 y1
      go_wp2_with fail
      refine (alive_any _).mono ?_
      rintro e w9 ⟨rfl, rfl⟩
      go_wp2_with fail
      go_ret
      exact ⟨rfl, B8.out⟩
    · simp only [Prod.mk.injEq] at e
      obtain ⟨rfl, rfl, rfl⟩ := e
      obtain rfl : m' = m := by rw [← HLEN2.out, hlen2]; exact HLEN.out
      have hP := fun w h => yp_use (hput ▸ implYardPut h' (k : Int) r GA m' gc rows' w HLEN2.out h (by omega) HM2.out) HLEN.out
      have HOK2 := Lib.hid hok2
      have HF := Lib.hid hfind
      have hid1 : ¬ r < 0 := by omega
      clear hput hok2 hfind
      go_wp2_with fail
      refine (hP _ G7.out.rd).mono ?_
      rintro e w8 ⟨_, rfl, PA, pc, rfl, P8, b8⟩
      have hal9 : Below w8.heap.size w8 (w8.alloc (.cells #[.int .i64 h', .slice PA m' pc] 26)) := (Below.refl _ _).alloc (Nat.le_refl _) _
      have hN9 : Blk (w8.alloc (.cells #[.int .i64 h', .slice PA m' pc] 26)) w8.heap.size 26 [.int .i64 h', .slice PA m' pc] := Blk.new _ _ _
      have b9 := below_trans b8 hal9
      have B9 := Lib.hid (below_trans B7.out b9)
      have R9 := Lib.hid (R7.out.below b9)
      have Y9 := Lib.hid (Y7.out.later b9)
      have G9 := Lib.hid (G7.out.later b9)
      have Z9 := Lib.hid (Z7.out.later b9)
      have P9 := Lib.hid (P8.later hal9)
      have V9 := Lib.hid hN9
      clear b8 P8 hal9 b9 hN9 z0 z1 y0 y1
      have z0 := Z9.out.cellAt 0 (by simp)
      have z1 := Z9.out.cellAt 1 (by simp)
      simp only [List.getElem_cons_zero, List.getElem_cons_succ] at z0 z1
      go_wp2_with fail
      generalize w8.alloc (.cells #[.int .i64 h', .slice PA m' pc] 26) = w9 at *
      refine (implYardValid h' GA m' gc rows' _ HLEN2.out G9.out.rd (by omega)).mono ?_
      rintro e wa ⟨rfl, ba⟩
      rw [HOK2.out]
      have Ba := Lib.hid (below_trans B9.out ba)
      have Ra := Lib.hid (R9.out.below ba)
      have Ya := Lib.hid (Y9.out.later ba)
      have Ga := Lib.hid (G9.out.later ba)
      have Za := Lib.hid (Z9.out.later ba)
      have Pa := Lib.hid (P9.out.later ba)
      have Va := Lib.hid (V9.out.later ba)
      clear ba z0 z1
      have y0 := Ya.out.cellAt 0 (by simp)
      have y1 := Ya.out.cellAt 1 (by simp)
      simp only [List.getElem_cons_zero, List.getElem_cons_succ] at y0 y1
      have v0 := Va.out.cellAt 0 (by simp)
      have v1 := Va.out.cellAt 1 (by simp)
      simp only [List.getElem_cons_zero, List.getElem_cons_succ] at v0 v1
      go_wp2_with fail
      refine (sameYard_any h' PA A1 m' pc c1 rows _ HLEN.out Pa.out.rd Ra.out (by omega) HM.out).mono ?_
      rintro e wb ⟨rfl, bb⟩
      have Bb := Lib.hid (below_trans Ba.out bb)
      have Gb := Lib.hid (Ga.out.later bb)
      have Zb := Lib.hid (Za.out.later bb)
      clear bb y0 y1 v0 v1
      have z0 := Zb.out.cellAt 0 (by simp)
      have z1 := Zb.out.cellAt 1 (by simp)
      simp only [List.getElem_cons_zero, List.getElem_cons_succ] at z0 z1
      go_wp2_with fail
      refine (yardFindV h' GA m' gc rows' r _ HOK2.out HLEN2.out Gb.out.rd (by omega)).mono ?_
      rintro e wc ⟨rfl, bc⟩
      rw [HF.out]
      have Bc := Lib.hid (below_trans Bb.out bc)
      clear bc z0 z1
      go_wp2_with fail
      go_ret
      exact ⟨rfl, Bc.out⟩
  · go_enter Try.func5, Try.ntmps5
    go_wp2_with fail
    go_ret
    exact ⟨rfl, Below.refl _ _⟩
end Go.Proofs.Ytimnemglcheodaa
