/- ApplyDiffs of the program: the plain word. -/
import Derived.Test.YtbhnlooellgfaaaBxK
import Derived.Test.YtbhnlooellgfaaaBxG
import Derived.Test.YtbhnlooellgfaaaBxF
import Derived.Test.YtbhnlooellgfaaaBxW
namespace Go.Proofs.Ytbhnlooellgfaaa
open Go Go.ChangeShapes Go.WideShapes Go.ChangeAt Go.RowKit
set_option linter.unusedVariables false
set_option linter.unusedSimpArgs false
set_option maxRecDepth 100000 in
set_option maxHeartbeats 16000000 in
theorem implApplyDiffs (A B : Option Addr) (n c m d : Nat) (told : List BoxV) (ds : List DiffV) (w : World) (hn : told.length = n) (hmm : ds.length = m) (hr : RdV w A (boxs told)) (hr2 : RdV w B (diffs ds)) (hnc : n ≤ c) (hm : n ≤ 1048576) (hm2 : m ≤ 1048576) :
    Calls Try.prog 29 #[.slice A n c, .slice B m d] w (ApOut w w.heap.size (applyB told ds)) := by
  have HN := Lib.hid hn
  have HM := Lib.hid hmm
  have hV := implBoxesValid A n c told w hn hr hnc (by omega)
  cases hok : boxesOk told with
  | false =>
    have HS : Hid (applyB told ds = ([], false)) := Lib.hid (by unfold applyB; rw [hok]; rfl)
    rw [hok] at hV
    clear hok hn hmm
    go_enter Try.func29, Try.ntmps29
    go_wp2_with (go_at_call 33; refine hV.mono ?_; rintro e w2 ⟨rfl, hb2⟩)
    go_ret2
    exact ApOut.no_nil HS.out hb2
  | true =>
    have HOK := Lib.hid hok
    rw [hok] at hV
    have hn10 : n ≤ 10 := by rw [← hn]; exact (boxesOk_iff.1 hok).2.2
    have hC := fun (W : World) (hW : Below w.heap.size w W) => sortedBoxes_any A n c told W hn (hr.below hW) hok
    have HCO := Lib.hid (collB_ok hok)
    have HCL := Lib.hid ((collB_len hok).trans hn)
    clear hok hn hmm
    go_enter Try.func29, Try.ntmps29
    go_wp2_with fail
    refine hV.mono ?_
    rintro e w2 ⟨rfl, hb2⟩
    have hC2 := hC w2 hb2
    clear hV hC
    go_wp2_with (go_at_call 36; refine hC2.mono ?_; rintro e w6 ⟨_, rfl, A0, n6, a0, rfl, hl6, hown6, hb6⟩)
    obtain rfl : n6 = n := hl6.symm.trans HCL.out
    have hB0 := below_trans hb2 hb6
    have hown6 := own_base hown6 hb2.size
    have HJ0 : Hid (boxesOk (collB told) = true ∧ (collB told).length = n6 ∧ applyGo (collB told) ds = applyGo (collB told) (ds.drop 0)) := Lib.hid ⟨HCO.out, hl6, by rw [List.drop_zero]⟩
    clear hC2 hb2 hb6 hl6
    go_loopw [17, 6, 8, 9] (fun i v _ _ wr => ∃ (k p : Nat) (A2 : Option Addr) (c2 : Nat) (L : List BoxV), k ≤ m ∧ i = .int .i64 k ∧ v = .slice A2 p c2 ∧ Hid (boxesOk L = true ∧ L.length = p ∧ applyGo (collB told) ds = applyGo L (ds.drop k)) ∧ p ≤ 10 ∧ wr.ownsRow w.heap.size 40 5 (.slice A2 p c2) p (boxs L) ∧ Below w.heap.size w wr) (fun i _ _ _ _ => m - (intOf i).toNat)
    case atStart => exact ⟨0, _, A0, a0, (collB told), Nat.zero_le _, rfl, rfl, HJ0, hn10, hown6, hB0⟩
    case round =>
      clear hown6 hB0 HJ0
      obtain ⟨k, p, A2, c2, L, hk, rfl, rfl, HJ, hp10, hO, hb⟩ := hrel
      by_cases hlt : k < m
      · have hkz : k < ds.length := by rw [HM.out]; exact hlt
        obtain ⟨b, o, rfl, hl, c0, c1, c2', c3, c4, c5⟩ := (hr2.below hb).diffAt hkz
        have HYES : Hid (∀ L', newOf L ds[k] = some L' → boxesOk L' = true → applyGo (collB told) ds = applyGo L' (ds.drop (k + 1))) := Lib.hid (fun L' h1 h2 => apply_yes hkz HJ.out.2.2 h1 h2)
        have HNO : Hid (∀ L', newOf L ds[k] = some L' → boxesOk L' = false → applyB told ds = ([], false)) := Lib.hid (fun L' h1 h2 => (applyB_none2 HOK.out) (go_no hkz HJ.out.2.2 h1 h2))
        have HBAD : Hid (newOf L ds[k] = none → applyB told ds = ([], false)) := Lib.hid (fun h1 => (applyB_none2 HOK.out) (go_bad hkz HJ.out.2.2 h1))
        have hki : (k : Int) < (m : Int) := by omega
        have hlp := HJ.out.2.1
        have HLP := Lib.hid hlp
        generalize ds[k] = dd at *
        obtain ⟨kd, y0, y1, y2, y3, y4⟩ := dd
        dsimp only at c0 c1 c2' c3 c4 c5 HYES HNO HBAD
        have hal : Below wr.heap.size wr (wr.alloc (.cells #[.int .i64 kd, .int .i64 y0, .int .i64 y1, .int .i64 y2, .int .i64 y3, .bool y4] 56)) := (Below.refl _ _).alloc (Nat.le_refl _) _
        have hX := Blk.new wr 56 [.int .i64 kd, .int .i64 y0, .int .i64 y1, .int .i64 y2, .int .i64 y3, .bool y4]
        have HO4 := Lib.hid (own_later hO hal)
        have HB4 := Lib.hid (below_trans hb hal)
        obtain ⟨_, _, ecap, hcap, _⟩ := own_slice hO
        injection ecap with ec1 _ ec3
        subst ec1 ec3
        have hF := boxAt_any A2 p c2 L y0 _ hlp (own_rd HO4.out) (by omega)
        clear hal hO hb hlp
        go_wp2_with fail
        refine hF.mono ?_
        rintro e w5 ⟨rfl, hb5⟩
        clear hF
        have HB_w5 := Lib.hid (below_trans HB4.out hb5)
        have HO_w5 := Lib.hid (own_later HO4.out hb5)
        have hX5 := hX.later hb5
        clear hX HB4 HO4 hb5
        have x0 := hX5.cellAt 0 (by simp)
        have x1 := hX5.cellAt 1 (by simp)
        have x2 := hX5.cellAt 2 (by simp)
        have x3 := hX5.cellAt 3 (by simp)
        have x4 := hX5.cellAt 4 (by simp)
        have x5 := hX5.cellAt 5 (by simp)
        simp only [List.getElem_cons_zero, List.getElem_cons_succ] at x0 x1 x2 x3 x4 x5
        have hxg : wr.heap.size < w5.heap.size := hX5.lt
        generalize wr.heap.size = xb at *
        clear hX5 c0 c1 c2' c3 c4 c5
        have hs_w5 := HB_w5.out.size
        generalize hiv : idxI (findF L y0) = iv at *
        cases hf : findF L y0 with
        | none =>
          rw [hf] at hiv
          obtain rfl : iv = -1 := hiv.symm
          have HF := Lib.hid hf
          clear hf hiv
          by_cases k1 : kd = 1
          · subst k1
            have HNEW : Hid (newOf L ⟨1, y0, y1, y2, y3, y4⟩ = some (L ++ [⟨y0, y1, y2, y3, y4⟩])) := Lib.hid (newOf_add HF.out rfl)
            have HL7 : Hid ((L ++ [(⟨y0, y1, y2, y3, y4⟩ : BoxV)]).length = p + 1) := Lib.hid (by rw [List.length_append, HLP.out]; rfl)
            go_wp2_with fail
            go_quiet (fail)
            have HO_w6 := Lib.hid (own_drewN HO_w5.out nq)
            have HB_w6 := Lib.hid (below_drewN HB_w5.out nq)
            have hs_w6 : w.heap.size ≤ (w5.drewN nq).heap.size := hs_w5
            have z0 : (w5.drewN nq).cell? ⟨xb, 0, none⟩ = some (.int .i64 1) := x0
            have z1 : (w5.drewN nq).cell? ⟨xb, 1, none⟩ = some (.int .i64 y0) := x1
            have z2 : (w5.drewN nq).cell? ⟨xb, 2, none⟩ = some (.int .i64 y1) := x2
            have z3 : (w5.drewN nq).cell? ⟨xb, 3, none⟩ = some (.int .i64 y2) := x3
            have z4 : (w5.drewN nq).cell? ⟨xb, 4, none⟩ = some (.int .i64 y3) := x4
            have z5 : (w5.drewN nq).cell? ⟨xb, 5, none⟩ = some (.bool y4) := x5
            clear x0 x1 x2 x3 x4 x5 HO_w5 HB_w5 hs_w5
            generalize w5.drewN nq = w6 at *
            have x0 := z0
            have x1 := z1
            have x2 := z2
            have x3 := z3
            have x4 := z4
            have x5 := z5
            clear z0 z1 z2 z3 z4 z5

            go_wp2_with (at_builtin; refine append_new rfl (.tmp 56) (.tmp 59) 24 rfl 40 _ _ _ Try.underlying24 box_infoD w.heap.size w6 (.slice A2 p c2) p (boxs L) rfl HO_w6.out [.int .i64 y0, .int .i64 y1, .int .i64 y2, .int .i64 y3, .bool y4] (by first | rfl | (simp; with_unfolding_all rfl)) rfl (by simp [Value.oneCell']) (by omega) hs_w6 ?_; intro v' w7 hown7 hg7 hblk7)
            obtain ⟨A7, c7, rfl, hcap7, _⟩ := own_slice hown7
            have HB7 := Lib.hid (below_append HB_w6.out hg7 HO_w6.out rfl)
            have O7 : Hid (w7.ownsRow w.heap.size 40 5 (.slice A7 (p + 1) c7) (p + 1) (boxs (L ++ [⟨y0, y1, y2, y3, y4⟩]))) := Lib.hid (by rw [boxs_append, boxs_one]; exact hown7)
            clear hown7 hg7 hblk7

            have hV := implBoxesValid _ (p + 1) _ (L ++ [⟨y0, y1, y2, y3, y4⟩]) _ HL7.out (own_rd O7.out) hcap7 (by omega)
            cases hv : boxesOk (L ++ [⟨y0, y1, y2, y3, y4⟩]) with
            | false =>
              rw [hv] at hV
              have HE := Lib.hid (HNO.out _ HNEW.out hv)
              clear hv
              go_wp2_with (go_at_call 33; refine hV.mono ?_; rintro e w8 ⟨rfl, hb8⟩)
              go_ret2
              exact ApOut.no_nil HE.out (below_trans HB7.out hb8)
            | true =>
              rw [hv] at hV
              have HV := Lib.hid hv
              have HQ : Hid ((p + 1) ≤ 10) := Lib.hid (by have := (boxesOk_iff.1 hv).2.2; have := HL7.out; omega)
              clear hv
              go_wp2_with (go_at_call 33; refine hV.mono ?_; rintro e w8 ⟨rfl, hb8⟩)
              go_roundw
              case rel => exact ⟨k + 1, (p + 1), _, _, (L ++ [⟨y0, y1, y2, y3, y4⟩]), by omega, by go_num, rfl, Lib.hid ⟨HV.out, HL7.out, HYES.out _ HNEW.out HV.out⟩, HQ.out, own_later O7.out hb8, below_trans HB7.out hb8⟩
              case measure => simp [intOf]; omega
          · have HE := Lib.hid (HBAD.out (newOf_no HF.out k1))
            have b1 : (kd == 1) = false := by simpa using k1
            clear HYES HNO HBAD
            by_cases k0 : kd = 0
            · subst k0
              clear b1 k1
              go_wp2_with fail
              go_quiet (fail)
              have HO_w6 := Lib.hid (own_drewN HO_w5.out nq)
              have HB_w6 := Lib.hid (below_drewN HB_w5.out nq)
              have hs_w6 : w.heap.size ≤ (w5.drewN nq).heap.size := hs_w5
              have z0 : (w5.drewN nq).cell? ⟨xb, 0, none⟩ = some (.int .i64 0) := x0
              have z1 : (w5.drewN nq).cell? ⟨xb, 1, none⟩ = some (.int .i64 y0) := x1
              have z2 : (w5.drewN nq).cell? ⟨xb, 2, none⟩ = some (.int .i64 y1) := x2
              have z3 : (w5.drewN nq).cell? ⟨xb, 3, none⟩ = some (.int .i64 y2) := x3
              have z4 : (w5.drewN nq).cell? ⟨xb, 4, none⟩ = some (.int .i64 y3) := x4
              have z5 : (w5.drewN nq).cell? ⟨xb, 5, none⟩ = some (.bool y4) := x5
              clear x0 x1 x2 x3 x4 x5 HO_w5 HB_w5 hs_w5
              generalize w5.drewN nq = w6 at *
              have x0 := z0
              have x1 := z1
              have x2 := z2
              have x3 := z3
              have x4 := z4
              have x5 := z5
              clear z0 z1 z2 z3 z4 z5

              go_wp2_with fail
              go_quiet (fail)
              have HO_w7 := Lib.hid (own_drewN HO_w6.out nq)
              have HB_w7 := Lib.hid (below_drewN HB_w6.out nq)
              have hs_w7 : w.heap.size ≤ (w6.drewN nq).heap.size := hs_w6
              have z0 : (w6.drewN nq).cell? ⟨xb, 0, none⟩ = some (.int .i64 0) := x0
              have z1 : (w6.drewN nq).cell? ⟨xb, 1, none⟩ = some (.int .i64 y0) := x1
              have z2 : (w6.drewN nq).cell? ⟨xb, 2, none⟩ = some (.int .i64 y1) := x2
              have z3 : (w6.drewN nq).cell? ⟨xb, 3, none⟩ = some (.int .i64 y2) := x3
              have z4 : (w6.drewN nq).cell? ⟨xb, 4, none⟩ = some (.int .i64 y3) := x4
              have z5 : (w6.drewN nq).cell? ⟨xb, 5, none⟩ = some (.bool y4) := x5
              clear x0 x1 x2 x3 x4 x5 HO_w6 HB_w6 hs_w6
              generalize w6.drewN nq = w7 at *
              have x0 := z0
              have x1 := z1
              have x2 := z2
              have x3 := z3
              have x4 := z4
              have x5 := z5
              clear z0 z1 z2 z3 z4 z5

              go_wp2_with fail
              go_ret2
              exact ApOut.no_nil HE.out HB_w7.out
            · by_cases k2 : kd = 2
              · subst k2
                clear b1 k1 k0
                go_wp2_with fail
                go_quiet (fail)
                have HO_w6 := Lib.hid (own_drewN HO_w5.out nq)
                have HB_w6 := Lib.hid (below_drewN HB_w5.out nq)
                have hs_w6 : w.heap.size ≤ (w5.drewN nq).heap.size := hs_w5
                have z0 : (w5.drewN nq).cell? ⟨xb, 0, none⟩ = some (.int .i64 2) := x0
                have z1 : (w5.drewN nq).cell? ⟨xb, 1, none⟩ = some (.int .i64 y0) := x1
                have z2 : (w5.drewN nq).cell? ⟨xb, 2, none⟩ = some (.int .i64 y1) := x2
                have z3 : (w5.drewN nq).cell? ⟨xb, 3, none⟩ = some (.int .i64 y2) := x3
                have z4 : (w5.drewN nq).cell? ⟨xb, 4, none⟩ = some (.int .i64 y3) := x4
                have z5 : (w5.drewN nq).cell? ⟨xb, 5, none⟩ = some (.bool y4) := x5
                clear x0 x1 x2 x3 x4 x5 HO_w5 HB_w5 hs_w5
                generalize w5.drewN nq = w6 at *
                have x0 := z0
                have x1 := z1
                have x2 := z2
                have x3 := z3
                have x4 := z4
                have x5 := z5
                clear z0 z1 z2 z3 z4 z5

                go_wp2_with fail
                go_quiet (fail)
                have HO_w7 := Lib.hid (own_drewN HO_w6.out nq)
                have HB_w7 := Lib.hid (below_drewN HB_w6.out nq)
                have hs_w7 : w.heap.size ≤ (w6.drewN nq).heap.size := hs_w6
                have z0 : (w6.drewN nq).cell? ⟨xb, 0, none⟩ = some (.int .i64 2) := x0
                have z1 : (w6.drewN nq).cell? ⟨xb, 1, none⟩ = some (.int .i64 y0) := x1
                have z2 : (w6.drewN nq).cell? ⟨xb, 2, none⟩ = some (.int .i64 y1) := x2
                have z3 : (w6.drewN nq).cell? ⟨xb, 3, none⟩ = some (.int .i64 y2) := x3
                have z4 : (w6.drewN nq).cell? ⟨xb, 4, none⟩ = some (.int .i64 y3) := x4
                have z5 : (w6.drewN nq).cell? ⟨xb, 5, none⟩ = some (.bool y4) := x5
                clear x0 x1 x2 x3 x4 x5 HO_w6 HB_w6 hs_w6
                generalize w6.drewN nq = w7 at *
                have x0 := z0
                have x1 := z1
                have x2 := z2
                have x3 := z3
                have x4 := z4
                have x5 := z5
                clear z0 z1 z2 z3 z4 z5

                go_wp2_with fail
                go_ret2
                exact ApOut.no_nil HE.out HB_w7.out
              · have b0 : (kd == 0) = false := by simpa using k0
                have b2 : (kd == 2) = false := by simpa using k2
                clear k0 k1 k2
                go_wp2_with fail
                go_quiet (fail)
                have HO_w6 := Lib.hid (own_drewN HO_w5.out nq)
                have HB_w6 := Lib.hid (below_drewN HB_w5.out nq)
                have hs_w6 : w.heap.size ≤ (w5.drewN nq).heap.size := hs_w5
                have z0 : (w5.drewN nq).cell? ⟨xb, 0, none⟩ = some (.int .i64 kd) := x0
                have z1 : (w5.drewN nq).cell? ⟨xb, 1, none⟩ = some (.int .i64 y0) := x1
                have z2 : (w5.drewN nq).cell? ⟨xb, 2, none⟩ = some (.int .i64 y1) := x2
                have z3 : (w5.drewN nq).cell? ⟨xb, 3, none⟩ = some (.int .i64 y2) := x3
                have z4 : (w5.drewN nq).cell? ⟨xb, 4, none⟩ = some (.int .i64 y3) := x4
                have z5 : (w5.drewN nq).cell? ⟨xb, 5, none⟩ = some (.bool y4) := x5
                clear x0 x1 x2 x3 x4 x5 HO_w5 HB_w5 hs_w5
                generalize w5.drewN nq = w6 at *
                have x0 := z0
                have x1 := z1
                have x2 := z2
                have x3 := z3
                have x4 := z4
                have x5 := z5
                clear z0 z1 z2 z3 z4 z5

                go_wp2_with fail
                go_quiet (fail)
                have HO_w7 := Lib.hid (own_drewN HO_w6.out nq)
                have HB_w7 := Lib.hid (below_drewN HB_w6.out nq)
                have hs_w7 : w.heap.size ≤ (w6.drewN nq).heap.size := hs_w6
                have z0 : (w6.drewN nq).cell? ⟨xb, 0, none⟩ = some (.int .i64 kd) := x0
                have z1 : (w6.drewN nq).cell? ⟨xb, 1, none⟩ = some (.int .i64 y0) := x1
                have z2 : (w6.drewN nq).cell? ⟨xb, 2, none⟩ = some (.int .i64 y1) := x2
                have z3 : (w6.drewN nq).cell? ⟨xb, 3, none⟩ = some (.int .i64 y2) := x3
                have z4 : (w6.drewN nq).cell? ⟨xb, 4, none⟩ = some (.int .i64 y3) := x4
                have z5 : (w6.drewN nq).cell? ⟨xb, 5, none⟩ = some (.bool y4) := x5
                clear x0 x1 x2 x3 x4 x5 HO_w6 HB_w6 hs_w6
                generalize w6.drewN nq = w7 at *
                have x0 := z0
                have x1 := z1
                have x2 := z2
                have x3 := z3
                have x4 := z4
                have x5 := z5
                clear z0 z1 z2 z3 z4 z5

                go_wp2_with fail
                go_ret2
                exact ApOut.no_nil HE.out HB_w7.out
        | some i =>
          obtain ⟨hi, hie, hif⟩ := findF_some hf
          rw [hf] at hiv
          obtain rfl : iv = (i : Int) := hiv.symm
          clear hiv
          have HF := Lib.hid hf
          have hip : i < p := by rw [← HLP.out]; exact hi
          have hii : (i : Int) < (p : Int) := by omega
          have hi0 : (0 : Int) ≤ (i : Int) := by omega
          have hin : ¬ (i : Int) < 0 := by omega
          rcases own_form HO_w5.out with ⟨_, hn0, _⟩ | ⟨g, c', hv, _, hgl, _⟩
          · omega
          injection hv with hA _ hc9
          subst hA hc9
          obtain ⟨_, _, r0, r1, r2, r3, r4, _, _, _, _, _⟩ := own_storeBox HO_w5.out HLP.out hip ⟨0, 0, 0, 0, false⟩
          have HDEL : Hid (kd = 0 → L[i] = ⟨y0, y1, y2, y3, y4⟩ → newOf L ⟨kd, y0, y1, y2, y3, y4⟩ = some (L.take i ++ L.drop (i + 1))) := Lib.hid (fun h1 h2 => newOf_del (d := ⟨kd, y0, y1, y2, y3, y4⟩) HF.out hi h1 h2)
          have HSET : Hid (kd = 2 → L[i] ≠ ⟨y0, y1, y2, y3, y4⟩ → newOf L ⟨kd, y0, y1, y2, y3, y4⟩ = some (L.set i ⟨y0, y1, y2, y3, y4⟩)) := Lib.hid (fun h1 h2 => newOf_set (d := ⟨kd, y0, y1, y2, y3, y4⟩) HF.out hi h1 h2)
          have HNONE : Hid (¬ (kd = 0 ∧ L[i] = ⟨y0, y1, y2, y3, y4⟩) → ¬ (kd = 2 ∧ L[i] ≠ ⟨y0, y1, y2, y3, y4⟩) → applyB told ds = ([], false)) := Lib.hid (fun h1 h2 => HBAD.out (newOf_bad (d := ⟨kd, y0, y1, y2, y3, y4⟩) HF.out hi h1 h2))
          have hqe := fun (b : Bool) (h : decide (L[i] = ⟨y0, y1, y2, y3, y4⟩) = b) => eql_box L[i] ⟨y0, y1, y2, y3, y4⟩ b h
          have hqn := fun (b : Bool) (h : decide (L[i] = ⟨y0, y1, y2, y3, y4⟩) = b) => neq_box L[i] ⟨y0, y1, y2, y3, y4⟩ b h
          clear hf hie hif HBAD
          generalize hvv : L[i] = vv at *
          clear hvv
          by_cases k0 : kd = 0
          · subst k0
            by_cases hxy : vv = ⟨y0, y1, y2, y3, y4⟩
            · have HNEW := Lib.hid (HDEL.out rfl hxy)
              have hq := hqe true (decide_eq_true hxy)
              have HL7 : Hid ((L.take i ++ L.drop (i + 1)).length = p - 1) := Lib.hid (by rw [List.length_append, List.length_take, List.length_drop, HLP.out]; omega)
              clear hqe hqn HDEL HSET HNONE hxy
              obtain ⟨v0, v1, v2, v3, v4⟩ := vv
              dsimp only at r0 r1 r2 r3 r4 hq
              go_wp2_with fail
              go_quiet (fail)
              have HO_w6 := Lib.hid (own_drewN HO_w5.out nq)
              have HB_w6 := Lib.hid (below_drewN HB_w5.out nq)
              have hs_w6 : w.heap.size ≤ (w5.drewN nq).heap.size := hs_w5
              have z0 : (w5.drewN nq).cell? ⟨xb, 0, none⟩ = some (.int .i64 0) := x0
              have z1 : (w5.drewN nq).cell? ⟨xb, 1, none⟩ = some (.int .i64 y0) := x1
              have z2 : (w5.drewN nq).cell? ⟨xb, 2, none⟩ = some (.int .i64 y1) := x2
              have z3 : (w5.drewN nq).cell? ⟨xb, 3, none⟩ = some (.int .i64 y2) := x3
              have z4 : (w5.drewN nq).cell? ⟨xb, 4, none⟩ = some (.int .i64 y3) := x4
              have z5 : (w5.drewN nq).cell? ⟨xb, 5, none⟩ = some (.bool y4) := x5
              have u0 : (w5.drewN nq).cell? ⟨g, i * 5, none⟩ = some (.int .i64 v0) := r0
              have u1 : (w5.drewN nq).cell? ⟨g, i * 5 + 1, none⟩ = some (.int .i64 v1) := r1
              have u2 : (w5.drewN nq).cell? ⟨g, i * 5 + 2, none⟩ = some (.int .i64 v2) := r2
              have u3 : (w5.drewN nq).cell? ⟨g, i * 5 + 3, none⟩ = some (.int .i64 v3) := r3
              have u4 : (w5.drewN nq).cell? ⟨g, i * 5 + 4, none⟩ = some (.bool v4) := r4
              clear r0 r1 r2 r3 r4
              clear x0 x1 x2 x3 x4 x5 HO_w5 HB_w5 hs_w5
              generalize w5.drewN nq = w6 at *
              have x0 := z0
              have x1 := z1
              have x2 := z2
              have x3 := z3
              have x4 := z4
              have x5 := z5
              clear z0 z1 z2 z3 z4 z5
              have r0 := u0
              have r1 := u1
              have r2 := u2
              have r3 := u3
              have r4 := u4
              clear u0 u1 u2 u3 u4

              have cD := Lib.hid (deleteB_any g p c2 i L w.heap.size w6 HLP.out HO_w6.out hip (by omega))
              clear hq r0 r1 r2 r3 r4 x0 x1 x2 x3 x4 x5
              have hw1 : IntKind.i64.wrap ((i : Int) + 1) = (i : Int) + 1 := by rw [IntKind.wrap_i64]; omega
              go_wp2_with fail
              refine cD.out.mono ?_
              rintro e w7 ⟨rfl, ho7, hg7⟩
              have O7 : Hid (w7.ownsRow w.heap.size 40 5 (.slice (some ⟨g, 0, none⟩) (p - 1) c2) (p - 1) (boxs (L.take i ++ L.drop (i + 1)))) := Lib.hid ho7
              have HB7 := Lib.hid (below_append HB_w6.out hg7 HO_w6.out rfl)
              have hcap7 : p - 1 ≤ c2 := by omega
              clear ho7 hg7 cD hw1

              have hV := implBoxesValid _ (p - 1) _ (L.take i ++ L.drop (i + 1)) _ HL7.out (own_rd O7.out) hcap7 (by omega)
              cases hv : boxesOk (L.take i ++ L.drop (i + 1)) with
              | false =>
                rw [hv] at hV
                have HE := Lib.hid (HNO.out _ HNEW.out hv)
                clear hv
                go_wp2_with (go_at_call 33; refine hV.mono ?_; rintro e w8 ⟨rfl, hb8⟩)
                go_ret2
                exact ApOut.no_nil HE.out (below_trans HB7.out hb8)
              | true =>
                rw [hv] at hV
                have HV := Lib.hid hv
                have HQ : Hid ((p - 1) ≤ 10) := Lib.hid (by have := (boxesOk_iff.1 hv).2.2; have := HL7.out; omega)
                clear hv
                go_wp2_with (go_at_call 33; refine hV.mono ?_; rintro e w8 ⟨rfl, hb8⟩)
                go_roundw
                case rel => exact ⟨k + 1, (p - 1), _, _, (L.take i ++ L.drop (i + 1)), by omega, by go_num, rfl, Lib.hid ⟨HV.out, HL7.out, HYES.out _ HNEW.out HV.out⟩, HQ.out, own_later O7.out hb8, below_trans HB7.out hb8⟩
                case measure => simp [intOf]; omega
            · have HE := Lib.hid (HNONE.out (fun h => hxy h.2) (by omega))
              have hq := hqe false (decide_eq_false hxy)
              clear hqe hqn HDEL HSET HNONE hxy HYES HNO
              obtain ⟨v0, v1, v2, v3, v4⟩ := vv
              dsimp only at r0 r1 r2 r3 r4 hq
              go_wp2_with fail
              go_quiet (fail)
              have HO_w6 := Lib.hid (own_drewN HO_w5.out nq)
              have HB_w6 := Lib.hid (below_drewN HB_w5.out nq)
              have hs_w6 : w.heap.size ≤ (w5.drewN nq).heap.size := hs_w5
              have z0 : (w5.drewN nq).cell? ⟨xb, 0, none⟩ = some (.int .i64 0) := x0
              have z1 : (w5.drewN nq).cell? ⟨xb, 1, none⟩ = some (.int .i64 y0) := x1
              have z2 : (w5.drewN nq).cell? ⟨xb, 2, none⟩ = some (.int .i64 y1) := x2
              have z3 : (w5.drewN nq).cell? ⟨xb, 3, none⟩ = some (.int .i64 y2) := x3
              have z4 : (w5.drewN nq).cell? ⟨xb, 4, none⟩ = some (.int .i64 y3) := x4
              have z5 : (w5.drewN nq).cell? ⟨xb, 5, none⟩ = some (.bool y4) := x5
              have u0 : (w5.drewN nq).cell? ⟨g, i * 5, none⟩ = some (.int .i64 v0) := r0
              have u1 : (w5.drewN nq).cell? ⟨g, i * 5 + 1, none⟩ = some (.int .i64 v1) := r1
              have u2 : (w5.drewN nq).cell? ⟨g, i * 5 + 2, none⟩ = some (.int .i64 v2) := r2
              have u3 : (w5.drewN nq).cell? ⟨g, i * 5 + 3, none⟩ = some (.int .i64 v3) := r3
              have u4 : (w5.drewN nq).cell? ⟨g, i * 5 + 4, none⟩ = some (.bool v4) := r4
              clear r0 r1 r2 r3 r4
              clear x0 x1 x2 x3 x4 x5 HO_w5 HB_w5 hs_w5
              generalize w5.drewN nq = w6 at *
              have x0 := z0
              have x1 := z1
              have x2 := z2
              have x3 := z3
              have x4 := z4
              have x5 := z5
              clear z0 z1 z2 z3 z4 z5
              have r0 := u0
              have r1 := u1
              have r2 := u2
              have r3 := u3
              have r4 := u4
              clear u0 u1 u2 u3 u4

              go_wp2_with fail
              go_quiet (fail)
              have HO_w7 := Lib.hid (own_drewN HO_w6.out nq)
              have HB_w7 := Lib.hid (below_drewN HB_w6.out nq)
              have hs_w7 : w.heap.size ≤ (w6.drewN nq).heap.size := hs_w6
              have z0 : (w6.drewN nq).cell? ⟨xb, 0, none⟩ = some (.int .i64 0) := x0
              have z1 : (w6.drewN nq).cell? ⟨xb, 1, none⟩ = some (.int .i64 y0) := x1
              have z2 : (w6.drewN nq).cell? ⟨xb, 2, none⟩ = some (.int .i64 y1) := x2
              have z3 : (w6.drewN nq).cell? ⟨xb, 3, none⟩ = some (.int .i64 y2) := x3
              have z4 : (w6.drewN nq).cell? ⟨xb, 4, none⟩ = some (.int .i64 y3) := x4
              have z5 : (w6.drewN nq).cell? ⟨xb, 5, none⟩ = some (.bool y4) := x5
              have u0 : (w6.drewN nq).cell? ⟨g, i * 5, none⟩ = some (.int .i64 v0) := r0
              have u1 : (w6.drewN nq).cell? ⟨g, i * 5 + 1, none⟩ = some (.int .i64 v1) := r1
              have u2 : (w6.drewN nq).cell? ⟨g, i * 5 + 2, none⟩ = some (.int .i64 v2) := r2
              have u3 : (w6.drewN nq).cell? ⟨g, i * 5 + 3, none⟩ = some (.int .i64 v3) := r3
              have u4 : (w6.drewN nq).cell? ⟨g, i * 5 + 4, none⟩ = some (.bool v4) := r4
              clear r0 r1 r2 r3 r4
              clear x0 x1 x2 x3 x4 x5 HO_w6 HB_w6 hs_w6
              generalize w6.drewN nq = w7 at *
              have x0 := z0
              have x1 := z1
              have x2 := z2
              have x3 := z3
              have x4 := z4
              have x5 := z5
              clear z0 z1 z2 z3 z4 z5
              have r0 := u0
              have r1 := u1
              have r2 := u2
              have r3 := u3
              have r4 := u4
              clear u0 u1 u2 u3 u4

              go_wp2_with fail
              go_ret2
              exact ApOut.no_nil HE.out HB_w7.out
          · by_cases k2 : kd = 2
            · subst k2
              by_cases hxy : vv = ⟨y0, y1, y2, y3, y4⟩
              · have HE := Lib.hid (HNONE.out (by omega) (fun h => h.2 hxy))
                have hq := hqn true (decide_eq_true hxy)
                clear hqe hqn HDEL HSET HNONE hxy HYES HNO
                obtain ⟨v0, v1, v2, v3, v4⟩ := vv
                dsimp only at r0 r1 r2 r3 r4 hq
                go_wp2_with fail
                go_quiet (fail)
                have HO_w6 := Lib.hid (own_drewN HO_w5.out nq)
                have HB_w6 := Lib.hid (below_drewN HB_w5.out nq)
                have hs_w6 : w.heap.size ≤ (w5.drewN nq).heap.size := hs_w5
                have z0 : (w5.drewN nq).cell? ⟨xb, 0, none⟩ = some (.int .i64 2) := x0
                have z1 : (w5.drewN nq).cell? ⟨xb, 1, none⟩ = some (.int .i64 y0) := x1
                have z2 : (w5.drewN nq).cell? ⟨xb, 2, none⟩ = some (.int .i64 y1) := x2
                have z3 : (w5.drewN nq).cell? ⟨xb, 3, none⟩ = some (.int .i64 y2) := x3
                have z4 : (w5.drewN nq).cell? ⟨xb, 4, none⟩ = some (.int .i64 y3) := x4
                have z5 : (w5.drewN nq).cell? ⟨xb, 5, none⟩ = some (.bool y4) := x5
                have u0 : (w5.drewN nq).cell? ⟨g, i * 5, none⟩ = some (.int .i64 v0) := r0
                have u1 : (w5.drewN nq).cell? ⟨g, i * 5 + 1, none⟩ = some (.int .i64 v1) := r1
                have u2 : (w5.drewN nq).cell? ⟨g, i * 5 + 2, none⟩ = some (.int .i64 v2) := r2
                have u3 : (w5.drewN nq).cell? ⟨g, i * 5 + 3, none⟩ = some (.int .i64 v3) := r3
                have u4 : (w5.drewN nq).cell? ⟨g, i * 5 + 4, none⟩ = some (.bool v4) := r4
                clear r0 r1 r2 r3 r4
                clear x0 x1 x2 x3 x4 x5 HO_w5 HB_w5 hs_w5
                generalize w5.drewN nq = w6 at *
                have x0 := z0
                have x1 := z1
                have x2 := z2
                have x3 := z3
                have x4 := z4
                have x5 := z5
                clear z0 z1 z2 z3 z4 z5
                have r0 := u0
                have r1 := u1
                have r2 := u2
                have r3 := u3
                have r4 := u4
                clear u0 u1 u2 u3 u4

                go_wp2_with fail
                go_quiet (fail)
                have HO_w7 := Lib.hid (own_drewN HO_w6.out nq)
                have HB_w7 := Lib.hid (below_drewN HB_w6.out nq)
                have hs_w7 : w.heap.size ≤ (w6.drewN nq).heap.size := hs_w6
                have z0 : (w6.drewN nq).cell? ⟨xb, 0, none⟩ = some (.int .i64 2) := x0
                have z1 : (w6.drewN nq).cell? ⟨xb, 1, none⟩ = some (.int .i64 y0) := x1
                have z2 : (w6.drewN nq).cell? ⟨xb, 2, none⟩ = some (.int .i64 y1) := x2
                have z3 : (w6.drewN nq).cell? ⟨xb, 3, none⟩ = some (.int .i64 y2) := x3
                have z4 : (w6.drewN nq).cell? ⟨xb, 4, none⟩ = some (.int .i64 y3) := x4
                have z5 : (w6.drewN nq).cell? ⟨xb, 5, none⟩ = some (.bool y4) := x5
                have u0 : (w6.drewN nq).cell? ⟨g, i * 5, none⟩ = some (.int .i64 v0) := r0
                have u1 : (w6.drewN nq).cell? ⟨g, i * 5 + 1, none⟩ = some (.int .i64 v1) := r1
                have u2 : (w6.drewN nq).cell? ⟨g, i * 5 + 2, none⟩ = some (.int .i64 v2) := r2
                have u3 : (w6.drewN nq).cell? ⟨g, i * 5 + 3, none⟩ = some (.int .i64 v3) := r3
                have u4 : (w6.drewN nq).cell? ⟨g, i * 5 + 4, none⟩ = some (.bool v4) := r4
                clear r0 r1 r2 r3 r4
                clear x0 x1 x2 x3 x4 x5 HO_w6 HB_w6 hs_w6
                generalize w6.drewN nq = w7 at *
                have x0 := z0
                have x1 := z1
                have x2 := z2
                have x3 := z3
                have x4 := z4
                have x5 := z5
                clear z0 z1 z2 z3 z4 z5
                have r0 := u0
                have r1 := u1
                have r2 := u2
                have r3 := u3
                have r4 := u4
                clear u0 u1 u2 u3 u4

                go_wp2_with fail
                go_ret2
                exact ApOut.no_nil HE.out HB_w7.out
              · have HNEW := Lib.hid (HSET.out rfl hxy)
                have hq := hqn false (decide_eq_false hxy)
                have HL7 : Hid ((L.set i ⟨y0, y1, y2, y3, y4⟩).length = p) := Lib.hid (by rw [List.length_set]; exact HLP.out)
                clear hqe hqn HDEL HSET HNONE hxy
                obtain ⟨v0, v1, v2, v3, v4⟩ := vv
                dsimp only at r0 r1 r2 r3 r4 hq
                go_wp2_with fail
                go_quiet (fail)
                have HO_w6 := Lib.hid (own_drewN HO_w5.out nq)
                have HB_w6 := Lib.hid (below_drewN HB_w5.out nq)
                have hs_w6 : w.heap.size ≤ (w5.drewN nq).heap.size := hs_w5
                have z0 : (w5.drewN nq).cell? ⟨xb, 0, none⟩ = some (.int .i64 2) := x0
                have z1 : (w5.drewN nq).cell? ⟨xb, 1, none⟩ = some (.int .i64 y0) := x1
                have z2 : (w5.drewN nq).cell? ⟨xb, 2, none⟩ = some (.int .i64 y1) := x2
                have z3 : (w5.drewN nq).cell? ⟨xb, 3, none⟩ = some (.int .i64 y2) := x3
                have z4 : (w5.drewN nq).cell? ⟨xb, 4, none⟩ = some (.int .i64 y3) := x4
                have z5 : (w5.drewN nq).cell? ⟨xb, 5, none⟩ = some (.bool y4) := x5
                have u0 : (w5.drewN nq).cell? ⟨g, i * 5, none⟩ = some (.int .i64 v0) := r0
                have u1 : (w5.drewN nq).cell? ⟨g, i * 5 + 1, none⟩ = some (.int .i64 v1) := r1
                have u2 : (w5.drewN nq).cell? ⟨g, i * 5 + 2, none⟩ = some (.int .i64 v2) := r2
                have u3 : (w5.drewN nq).cell? ⟨g, i * 5 + 3, none⟩ = some (.int .i64 v3) := r3
                have u4 : (w5.drewN nq).cell? ⟨g, i * 5 + 4, none⟩ = some (.bool v4) := r4
                clear r0 r1 r2 r3 r4
                clear x0 x1 x2 x3 x4 x5 HO_w5 HB_w5 hs_w5
                generalize w5.drewN nq = w6 at *
                have x0 := z0
                have x1 := z1
                have x2 := z2
                have x3 := z3
                have x4 := z4
                have x5 := z5
                clear z0 z1 z2 z3 z4 z5
                have r0 := u0
                have r1 := u1
                have r2 := u2
                have r3 := u3
                have r4 := u4
                clear u0 u1 u2 u3 u4

                go_wp2_with fail
                go_quiet (fail)
                have HO_w7 := Lib.hid (own_drewN HO_w6.out nq)
                have HB_w7 := Lib.hid (below_drewN HB_w6.out nq)
                have hs_w7 : w.heap.size ≤ (w6.drewN nq).heap.size := hs_w6
                have z0 : (w6.drewN nq).cell? ⟨xb, 0, none⟩ = some (.int .i64 2) := x0
                have z1 : (w6.drewN nq).cell? ⟨xb, 1, none⟩ = some (.int .i64 y0) := x1
                have z2 : (w6.drewN nq).cell? ⟨xb, 2, none⟩ = some (.int .i64 y1) := x2
                have z3 : (w6.drewN nq).cell? ⟨xb, 3, none⟩ = some (.int .i64 y2) := x3
                have z4 : (w6.drewN nq).cell? ⟨xb, 4, none⟩ = some (.int .i64 y3) := x4
                have z5 : (w6.drewN nq).cell? ⟨xb, 5, none⟩ = some (.bool y4) := x5
                have u0 : (w6.drewN nq).cell? ⟨g, i * 5, none⟩ = some (.int .i64 v0) := r0
                have u1 : (w6.drewN nq).cell? ⟨g, i * 5 + 1, none⟩ = some (.int .i64 v1) := r1
                have u2 : (w6.drewN nq).cell? ⟨g, i * 5 + 2, none⟩ = some (.int .i64 v2) := r2
                have u3 : (w6.drewN nq).cell? ⟨g, i * 5 + 3, none⟩ = some (.int .i64 v3) := r3
                have u4 : (w6.drewN nq).cell? ⟨g, i * 5 + 4, none⟩ = some (.bool v4) := r4
                clear r0 r1 r2 r3 r4
                clear x0 x1 x2 x3 x4 x5 HO_w6 HB_w6 hs_w6
                generalize w6.drewN nq = w7 at *
                have x0 := z0
                have x1 := z1
                have x2 := z2
                have x3 := z3
                have x4 := z4
                have x5 := z5
                clear z0 z1 z2 z3 z4 z5
                have r0 := u0
                have r1 := u1
                have r2 := u2
                have r3 := u3
                have r4 := u4
                clear u0 u1 u2 u3 u4

                obtain ⟨ho9, hg9, _, _, _, _, _, f0, f1, f2, f3, f4⟩ := own_storeBox HO_w7.out HLP.out hip ⟨y0, y1, y2, y3, y4⟩
                dsimp only at ho9 hg9
                have O7 := Lib.hid ho9
                have HB7 := Lib.hid (below_append HB_w7.out hg9 HO_w7.out rfl)
                have hcap7 := hcap
                clear ho9 hg9 hq
                go_wp2_with fail
                have hV := implBoxesValid _ p _ (L.set i ⟨y0, y1, y2, y3, y4⟩) _ HL7.out (own_rd O7.out) hcap7 (by omega)

                cases hv : boxesOk (L.set i ⟨y0, y1, y2, y3, y4⟩) with
                | false =>
                  rw [hv] at hV
                  have HE := Lib.hid (HNO.out _ HNEW.out hv)
                  clear hv
                  go_wp2_with (go_at_call 33; refine hV.mono ?_; rintro e w8 ⟨rfl, hb8⟩)
                  go_ret2
                  exact ApOut.no_nil HE.out (below_trans HB7.out hb8)
                | true =>
                  rw [hv] at hV
                  have HV := Lib.hid hv
                  have HQ : Hid (p ≤ 10) := Lib.hid (by have := (boxesOk_iff.1 hv).2.2; have := HL7.out; omega)
                  clear hv
                  go_wp2_with (go_at_call 33; refine hV.mono ?_; rintro e w8 ⟨rfl, hb8⟩)
                  go_roundw
                  case rel => exact ⟨k + 1, p, _, _, (L.set i ⟨y0, y1, y2, y3, y4⟩), by omega, by go_num, rfl, Lib.hid ⟨HV.out, HL7.out, HYES.out _ HNEW.out HV.out⟩, HQ.out, own_later O7.out hb8, below_trans HB7.out hb8⟩
                  case measure => simp [intOf]; omega
            · have HE := Lib.hid (HNONE.out (fun h => k0 h.1) (fun h => k2 h.1))
              have b0 : (kd == 0) = false := by simpa using k0
              have b2 : (kd == 2) = false := by simpa using k2
              clear hqe hqn HDEL HSET HNONE HYES HNO k0 k2
              obtain ⟨v0, v1, v2, v3, v4⟩ := vv
              dsimp only at r0 r1 r2 r3 r4
              by_cases k1 : kd = 1
              · subst k1
                clear b0 b2
                go_wp2_with fail
                go_quiet (fail)
                have HO_w6 := Lib.hid (own_drewN HO_w5.out nq)
                have HB_w6 := Lib.hid (below_drewN HB_w5.out nq)
                have hs_w6 : w.heap.size ≤ (w5.drewN nq).heap.size := hs_w5
                have z0 : (w5.drewN nq).cell? ⟨xb, 0, none⟩ = some (.int .i64 1) := x0
                have z1 : (w5.drewN nq).cell? ⟨xb, 1, none⟩ = some (.int .i64 y0) := x1
                have z2 : (w5.drewN nq).cell? ⟨xb, 2, none⟩ = some (.int .i64 y1) := x2
                have z3 : (w5.drewN nq).cell? ⟨xb, 3, none⟩ = some (.int .i64 y2) := x3
                have z4 : (w5.drewN nq).cell? ⟨xb, 4, none⟩ = some (.int .i64 y3) := x4
                have z5 : (w5.drewN nq).cell? ⟨xb, 5, none⟩ = some (.bool y4) := x5
                have u0 : (w5.drewN nq).cell? ⟨g, i * 5, none⟩ = some (.int .i64 v0) := r0
                have u1 : (w5.drewN nq).cell? ⟨g, i * 5 + 1, none⟩ = some (.int .i64 v1) := r1
                have u2 : (w5.drewN nq).cell? ⟨g, i * 5 + 2, none⟩ = some (.int .i64 v2) := r2
                have u3 : (w5.drewN nq).cell? ⟨g, i * 5 + 3, none⟩ = some (.int .i64 v3) := r3
                have u4 : (w5.drewN nq).cell? ⟨g, i * 5 + 4, none⟩ = some (.bool v4) := r4
                clear r0 r1 r2 r3 r4
                clear x0 x1 x2 x3 x4 x5 HO_w5 HB_w5 hs_w5
                generalize w5.drewN nq = w6 at *
                have x0 := z0
                have x1 := z1
                have x2 := z2
                have x3 := z3
                have x4 := z4
                have x5 := z5
                clear z0 z1 z2 z3 z4 z5
                have r0 := u0
                have r1 := u1
                have r2 := u2
                have r3 := u3
                have r4 := u4
                clear u0 u1 u2 u3 u4

                go_wp2_with fail
                go_quiet (fail)
                have HO_w7 := Lib.hid (own_drewN HO_w6.out nq)
                have HB_w7 := Lib.hid (below_drewN HB_w6.out nq)
                have hs_w7 : w.heap.size ≤ (w6.drewN nq).heap.size := hs_w6
                have z0 : (w6.drewN nq).cell? ⟨xb, 0, none⟩ = some (.int .i64 1) := x0
                have z1 : (w6.drewN nq).cell? ⟨xb, 1, none⟩ = some (.int .i64 y0) := x1
                have z2 : (w6.drewN nq).cell? ⟨xb, 2, none⟩ = some (.int .i64 y1) := x2
                have z3 : (w6.drewN nq).cell? ⟨xb, 3, none⟩ = some (.int .i64 y2) := x3
                have z4 : (w6.drewN nq).cell? ⟨xb, 4, none⟩ = some (.int .i64 y3) := x4
                have z5 : (w6.drewN nq).cell? ⟨xb, 5, none⟩ = some (.bool y4) := x5
                have u0 : (w6.drewN nq).cell? ⟨g, i * 5, none⟩ = some (.int .i64 v0) := r0
                have u1 : (w6.drewN nq).cell? ⟨g, i * 5 + 1, none⟩ = some (.int .i64 v1) := r1
                have u2 : (w6.drewN nq).cell? ⟨g, i * 5 + 2, none⟩ = some (.int .i64 v2) := r2
                have u3 : (w6.drewN nq).cell? ⟨g, i * 5 + 3, none⟩ = some (.int .i64 v3) := r3
                have u4 : (w6.drewN nq).cell? ⟨g, i * 5 + 4, none⟩ = some (.bool v4) := r4
                clear r0 r1 r2 r3 r4
                clear x0 x1 x2 x3 x4 x5 HO_w6 HB_w6 hs_w6
                generalize w6.drewN nq = w7 at *
                have x0 := z0
                have x1 := z1
                have x2 := z2
                have x3 := z3
                have x4 := z4
                have x5 := z5
                clear z0 z1 z2 z3 z4 z5
                have r0 := u0
                have r1 := u1
                have r2 := u2
                have r3 := u3
                have r4 := u4
                clear u0 u1 u2 u3 u4

                go_wp2_with fail
                go_ret2
                exact ApOut.no_nil HE.out HB_w7.out
              · have b1 : (kd == 1) = false := by simpa using k1
                clear k1
                go_wp2_with fail
                go_quiet (fail)
                have HO_w6 := Lib.hid (own_drewN HO_w5.out nq)
                have HB_w6 := Lib.hid (below_drewN HB_w5.out nq)
                have hs_w6 : w.heap.size ≤ (w5.drewN nq).heap.size := hs_w5
                have z0 : (w5.drewN nq).cell? ⟨xb, 0, none⟩ = some (.int .i64 kd) := x0
                have z1 : (w5.drewN nq).cell? ⟨xb, 1, none⟩ = some (.int .i64 y0) := x1
                have z2 : (w5.drewN nq).cell? ⟨xb, 2, none⟩ = some (.int .i64 y1) := x2
                have z3 : (w5.drewN nq).cell? ⟨xb, 3, none⟩ = some (.int .i64 y2) := x3
                have z4 : (w5.drewN nq).cell? ⟨xb, 4, none⟩ = some (.int .i64 y3) := x4
                have z5 : (w5.drewN nq).cell? ⟨xb, 5, none⟩ = some (.bool y4) := x5
                have u0 : (w5.drewN nq).cell? ⟨g, i * 5, none⟩ = some (.int .i64 v0) := r0
                have u1 : (w5.drewN nq).cell? ⟨g, i * 5 + 1, none⟩ = some (.int .i64 v1) := r1
                have u2 : (w5.drewN nq).cell? ⟨g, i * 5 + 2, none⟩ = some (.int .i64 v2) := r2
                have u3 : (w5.drewN nq).cell? ⟨g, i * 5 + 3, none⟩ = some (.int .i64 v3) := r3
                have u4 : (w5.drewN nq).cell? ⟨g, i * 5 + 4, none⟩ = some (.bool v4) := r4
                clear r0 r1 r2 r3 r4
                clear x0 x1 x2 x3 x4 x5 HO_w5 HB_w5 hs_w5
                generalize w5.drewN nq = w6 at *
                have x0 := z0
                have x1 := z1
                have x2 := z2
                have x3 := z3
                have x4 := z4
                have x5 := z5
                clear z0 z1 z2 z3 z4 z5
                have r0 := u0
                have r1 := u1
                have r2 := u2
                have r3 := u3
                have r4 := u4
                clear u0 u1 u2 u3 u4

                go_wp2_with fail
                go_quiet (fail)
                have HO_w7 := Lib.hid (own_drewN HO_w6.out nq)
                have HB_w7 := Lib.hid (below_drewN HB_w6.out nq)
                have hs_w7 : w.heap.size ≤ (w6.drewN nq).heap.size := hs_w6
                have z0 : (w6.drewN nq).cell? ⟨xb, 0, none⟩ = some (.int .i64 kd) := x0
                have z1 : (w6.drewN nq).cell? ⟨xb, 1, none⟩ = some (.int .i64 y0) := x1
                have z2 : (w6.drewN nq).cell? ⟨xb, 2, none⟩ = some (.int .i64 y1) := x2
                have z3 : (w6.drewN nq).cell? ⟨xb, 3, none⟩ = some (.int .i64 y2) := x3
                have z4 : (w6.drewN nq).cell? ⟨xb, 4, none⟩ = some (.int .i64 y3) := x4
                have z5 : (w6.drewN nq).cell? ⟨xb, 5, none⟩ = some (.bool y4) := x5
                have u0 : (w6.drewN nq).cell? ⟨g, i * 5, none⟩ = some (.int .i64 v0) := r0
                have u1 : (w6.drewN nq).cell? ⟨g, i * 5 + 1, none⟩ = some (.int .i64 v1) := r1
                have u2 : (w6.drewN nq).cell? ⟨g, i * 5 + 2, none⟩ = some (.int .i64 v2) := r2
                have u3 : (w6.drewN nq).cell? ⟨g, i * 5 + 3, none⟩ = some (.int .i64 v3) := r3
                have u4 : (w6.drewN nq).cell? ⟨g, i * 5 + 4, none⟩ = some (.bool v4) := r4
                clear r0 r1 r2 r3 r4
                clear x0 x1 x2 x3 x4 x5 HO_w6 HB_w6 hs_w6
                generalize w6.drewN nq = w7 at *
                have x0 := z0
                have x1 := z1
                have x2 := z2
                have x3 := z3
                have x4 := z4
                have x5 := z5
                clear z0 z1 z2 z3 z4 z5
                have r0 := u0
                have r1 := u1
                have r2 := u2
                have r3 := u3
                have r4 := u4
                clear u0 u1 u2 u3 u4

                go_wp2_with fail
                go_ret2
                exact ApOut.no_nil HE.out HB_w7.out
      · obtain rfl : k = m := by omega
        obtain ⟨hLok, hLl, hLJ⟩ := HJ.out
        rw [applyGo_end (by rw [HM.out]; exact Nat.le_refl _)] at hLJ
        have HE := Lib.hid (applyB_some2 HOK.out hLJ)
        have hS := sortedBoxes_any A2 p c2 L wr hLl (own_rd hO) hLok
        have HB := Lib.hid hb
        have hbs := hb.size
        clear hLJ hO
        go_wp2_with (go_at_call 36; refine hS.mono ?_; rintro e w8 ⟨_, rfl, A8, n8, c8, rfl, hl8, ho8, hb8⟩)
        go_ret2
        exact ApOut.mk HE.out hl8 (own_base ho8 hbs) (below_trans HB.out hb8)
end Go.Proofs.Ytbhnlooellgfaaa
