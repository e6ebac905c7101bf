/- DiffsOf of the program: the same differences. -/
import Derived.Test.YtbhnlooellgfaaaBxE
namespace Go.Proofs.Ytbhnlooellgfaaa
open Go Go.ChangeShapes Go.WideShapes Go.ChangeAt Go.RowKit
set_option linter.unusedVariables false
set_option linter.unusedSimpArgs false
set_option maxRecDepth 100000 in
set_option maxHeartbeats 8000000 in
theorem implDiffsOf (A B : Option Addr) (n c m d : Nat) (told seen : List BoxV) (w : World) (hn : told.length = n) (hmm : seen.length = m) (hr : RdV w A (boxs told)) (hr2 : RdV w B (boxs seen)) (hnc : n ≤ c) (hmd : m ≤ d) (hm : n ≤ 1099511627776) (hm2 : m ≤ 1099511627776) :
    Calls Try.prog 17 #[.slice A n c, .slice B m d] w (DifOut w w.heap.size (diffsB told seen)) := by
  have HN := Lib.hid hn
  have HM := Lib.hid hmm
  have hV := implBoxesValid A n c told w hn hr hnc hm
  have hV2 := fun (W : World) (hW : Below w.heap.size w W) => implBoxesValid B m d seen W hmm (hr2.below hW) hmd hm2
  cases hok : boxesOk told with
  | false =>
    have HS : Hid (diffsB told seen = []) := Lib.hid (by unfold diffsB; rw [hok]; rfl)
    rw [hok] at hV
    clear hok hV2 hn hmm
    go_enter Try.func17, Try.ntmps17
    go_wp2_with (go_at_call 33; refine hV.mono ?_; rintro e w2 ⟨rfl, hb2⟩)
    go_ret
    exact DifOut.mk (by rw [HS.out]; rfl) (by rw [HS.out]; exact World.ownsRow_nil _ _ _ _) hb2
  | true =>
    rw [hok] at hV
    cases hok2 : boxesOk seen with
    | false =>
      have HS : Hid (diffsB told seen = []) := Lib.hid (by unfold diffsB; rw [hok2]; simp)
      rw [hok2] at hV2
      clear hok hok2 hn hmm
      go_enter Try.func17, Try.ntmps17
      go_wp2_with fail
      refine hV.mono ?_
      rintro e w2 ⟨rfl, hb2⟩
      have hV3 := hV2 w2 hb2
      clear hV2 hV
      go_wp2_with (go_at_call 33; refine hV3.mono ?_; rintro e w3 ⟨rfl, hb3⟩)
      go_ret
      exact DifOut.mk (by rw [HS.out]; rfl) (by rw [HS.out]; exact World.ownsRow_nil _ _ _ _) (below_trans hb2 hb3)
    | true =>
      have HS : Hid (diffsB told seen = collD told seen) := Lib.hid (by unfold diffsB; rw [hok, hok2]; rfl)
      have hn10 : n ≤ 10 := by rw [← hn]; exact (boxesOk_iff.1 hok).2.2
      have hm10 : m ≤ 10 := by rw [← hmm]; exact (boxesOk_iff.1 hok2).2.2
      have HCL : Hid ((collD told seen).length = (rawD told seen).length) := Lib.hid (perm_of_mem (lt_nodup (key := fun d : DiffV => d.b.f0) (collD_asc told seen)) (ne_nodup (key := fun d : DiffV => d.b.f0) (rawD_ne hok hok2)) (fun x => (rawD_mem hok hok2).symm)).length_eq
      have hSF := fun (A : Option Addr) (q cap : Nat) (w' : World) h1 h2 h3 => sortFuncDif_any A q cap w.heap.size told seen w' h1 h2 hok hok2 h3
      rw [hok2] at hV2
      clear hok hok2 hn hmm
      go_enter Try.func17, Try.ntmps17
      go_wp2_with fail
      refine hV.mono ?_
      rintro e w2 ⟨rfl, hb2⟩
      have hV3 := hV2 w2 hb2
      clear hV2 hV
      go_wp2_with (go_at_call 33; refine hV3.mono ?_; rintro e w3 ⟨rfl, hb3⟩)
      clear hV3
      have hB3 := below_trans hb2 hb3
      clear hb2 hb3
      go_loopw [21, 5, 7, 8] (fun i v _ _ wr => ∃ (k p : Nat) (A2 : Option Addr) (c2 : Nat), k ≤ n ∧ i = .int .i64 k ∧ v = .slice A2 p c2 ∧ p ≤ k ∧ Hid (((told.take k).filterMap (goneOr seen)).length = p) ∧ wr.ownsRow w.heap.size 56 6 (.slice A2 p c2) p (diffs ((told.take k).filterMap (goneOr seen))) ∧ Below w.heap.size w wr) (fun i _ _ _ _ => n - (intOf i).toNat)
      case atStart => exact ⟨0, 0, none, 0, Nat.zero_le _, rfl, rfl, Nat.le_refl _, Lib.hid rfl, World.ownsRow_nil _ _ _ _, hB3⟩
      case round =>
        clear hB3
        obtain ⟨k, p, A2, c2, hk, rfl, rfl, hpk, HP, hO, hb⟩ := hrel
        by_cases hlt : k < n
        · have hkz : k < told.length := by rw [HN.out]; exact hlt
          obtain ⟨b, o, rfl, hl, c0, c1, c2', c3, c4⟩ := (hr.below hb).boxAt hkz
          have HFM : Hid ((told.take (k + 1)).filterMap (goneOr seen) = (told.take k).filterMap (goneOr seen) ++ (goneOr seen told[k]).toList) := Lib.hid (by rw [List.take_succ_eq_append_getElem hkz, List.filterMap_append]; cases h : goneOr seen told[k] <;> simp [h])
          have hki : (k : Int) < (n : Int) := by omega
          have hA := fun (W : World) (hW : Below wr.heap.size wr W) => boxAt_any B m d seen (told[k]).f0 W HM.out (hr2.below (below_trans hb hW)) (by omega)
          have hal : Below wr.heap.size wr (wr.alloc (.cells (boxC told[k]).toArray 40)) := (Below.refl _ _).alloc (Nat.le_refl _) _
          have hX := Blk.new wr 40 (boxC told[k])
          have HO4 := Lib.hid (own_later hO hal)
          have HB4 := Lib.hid (below_trans hb hal)
          have hA4 := hA _ hal
          cases hf : findF seen (told[k]).f0 with
          | none =>
            have HL : Hid ((told.take (k + 1)).filterMap (goneOr seen) = (told.take k).filterMap (goneOr seen) ++ [⟨0, told[k]⟩]) := Lib.hid (by rw [HFM.out]; unfold goneOr; rw [findF_find.1 hf]; rfl)
            rw [hf] at hA4
            change Calls _ _ _ _ (fun e w' => e = .returned (.int .i64 (-1)) ∧ _) at hA4
            clear hf hA HFM hal
            generalize told[k] = y at *
            generalize (told.take k).filterMap (goneOr seen) = L at *
            obtain ⟨y0, y1, y2, y3, y4⟩ := y
            simp only [boxC] at c0 c1 c2' c3 c4 hX HO4 HB4 hA4
            go_wp2_with fail
            refine hA4.mono ?_
            rintro e w5 ⟨rfl, hb5⟩
            have hX5 := hX.later hb5
            have x0 := hX5.cellAt 0 (by simp)
            have x1 := hX5.cellAt 1 (by simp)
            have x2 := hX5.cellAt 2 (by simp)
            have x3 := hX5.cellAt 3 (by simp)
            have x4 := hX5.cellAt 4 (by simp)
            simp only [List.getElem_cons_zero, List.getElem_cons_succ] at x0 x1 x2 x3 x4
            have HO5 := Lib.hid (own_later HO4.out hb5)
            have HB5 := Lib.hid (below_trans HB4.out hb5)
            have hbs := HB5.out.size
            clear hA4 hX hX5 hb5 HO4 HB4 c0 c1 c2' c3 c4 hO hb
            go_wp2_with (at_builtin; refine append_new rfl (.tmp 32) (.tmp 35) 30 rfl 56 _ _ _ Try.underlying30 diff_infoD w.heap.size w5 (.slice A2 p c2) p (diffs L) rfl HO5.out [.int .i64 0, .int .i64 y0, .int .i64 y1, .int .i64 y2, .int .i64 y3, .bool y4] (by first | rfl | (simp; with_unfolding_all rfl)) rfl (by simp [Value.oneCell']) (by omega) hbs ?_; intro v' w6 hown6 hg6 hblk6)
            obtain ⟨A6, c6, rfl, _, _⟩ := own_slice hown6
            have HB6 := Lib.hid (below_append HB5.out hg6 HO5.out rfl)
            have HL6 : Hid ((L ++ [(⟨0, ⟨y0, y1, y2, y3, y4⟩⟩ : DiffV)]).length = p + 1) := Lib.hid (by rw [List.length_append, HP.out]; rfl)
            have HO6 := Lib.hid hown6
            clear hown6 hg6 hblk6
            go_roundw
            case rel => exact ⟨k + 1, p + 1, A6, c6, by omega, by go_num, rfl, by omega, Lib.hid (by rw [HL.out]; exact HL6.out), by rw [HL.out, diffs_append, diffs_one]; exact HO6.out, HB6.out⟩
            case measure => simp [intOf]; omega
          | some j =>
            obtain ⟨hj, hje, hjf⟩ := findF_some hf
            rw [hf] at hA4
            change Calls _ _ _ _ (fun e w' => e = .returned (.int .i64 (j : Int)) ∧ _) at hA4
            have hjn : j < m := by rw [← HM.out]; exact hj
            obtain ⟨b2, o2, rfl, hl2, d0, d1, d2, d3, d4⟩ := (hr2.below HB4.out).boxAt hj
            have hji : (j : Int) < (m : Int) := by omega
            have HD : Hid ((told.take (k + 1)).filterMap (goneOr seen) = (told.take k).filterMap (goneOr seen) ++ (if seen[j] = told[k] then none else some (⟨2, seen[j]⟩ : DiffV)).toList) := Lib.hid (by rw [HFM.out]; unfold goneOr; rw [hjf])
            have hnq := fun (b : Bool) (h : decide (seen[j] = told[k]) = b) => neq_box seen[j] told[k] b h
            clear hf hA HFM hal hje hjf
            generalize told[k] = y at *
            generalize seen[j] = z at *
            generalize (told.take k).filterMap (goneOr seen) = L at *
            have hdec : decide (z = y) = true ∨ decide (z = y) = false := by cases decide (z = y) <;> simp
            by_cases hzy : z = y
            · have HL : Hid ((told.take (k + 1)).filterMap (goneOr seen) = L) := Lib.hid (by rw [HD.out, if_pos hzy]; simp)
              have hq := hnq true (decide_eq_true hzy)
              clear hnq hzy hdec
              obtain ⟨y0, y1, y2, y3, y4⟩ := y
              obtain ⟨z0, z1, z2, z3, z4⟩ := z
              simp only [boxC] at c0 c1 c2' c3 c4 hX HO4 HB4 hA4
              dsimp only at d0 d1 d2 d3 d4 hq
              go_wp2_with fail
              refine hA4.mono ?_
              rintro e w5 ⟨rfl, hb5⟩
              have hX5 := hX.later hb5
              have x0 := hX5.cellAt 0 (by simp)
              have x1 := hX5.cellAt 1 (by simp)
              have x2 := hX5.cellAt 2 (by simp)
              have x3 := hX5.cellAt 3 (by simp)
              have x4 := hX5.cellAt 4 (by simp)
              simp only [List.getElem_cons_zero, List.getElem_cons_succ] at x0 x1 x2 x3 x4
              have HO5 := Lib.hid (own_later HO4.out hb5)
              have HB5 := Lib.hid (below_trans HB4.out hb5)
              have hbs := HB5.out.size
              have e0 := (hb5.cell (p := ⟨b2, o2 + j * 5, none⟩) hl2).trans d0
              have e1 := (hb5.cell (p := ⟨b2, o2 + j * 5 + 1, none⟩) hl2).trans d1
              have e2 := (hb5.cell (p := ⟨b2, o2 + j * 5 + 2, none⟩) hl2).trans d2
              have e3 := (hb5.cell (p := ⟨b2, o2 + j * 5 + 3, none⟩) hl2).trans d3
              have e4 := (hb5.cell (p := ⟨b2, o2 + j * 5 + 4, none⟩) hl2).trans d4
              clear hA4 hX hX5 hb5 HO4 HB4 c0 c1 c2' c3 c4 d0 d1 d2 d3 d4 hO hb
              go_wp2_with fail
              go_quiet (fail)
              go_wp2_with fail
              go_roundw
              case rel => exact ⟨k + 1, p, A2, c2, by omega, by go_num, rfl, by omega, Lib.hid (by rw [HL.out]; exact HP.out), by rw [HL.out]; exact own_drewN HO5.out _, below_drewN HB5.out _⟩
              case measure => simp [intOf]; omega
            · have HL : Hid ((told.take (k + 1)).filterMap (goneOr seen) = L ++ [⟨2, z⟩]) := Lib.hid (by rw [HD.out, if_neg hzy]; rfl)
              have hq := hnq false (decide_eq_false hzy)
              clear hnq hzy hdec
              obtain ⟨y0, y1, y2, y3, y4⟩ := y
              obtain ⟨z0, z1, z2, z3, z4⟩ := z
              simp only [boxC] at c0 c1 c2' c3 c4 hX HO4 HB4 hA4
              dsimp only at d0 d1 d2 d3 d4 hq
              go_wp2_with fail
              refine hA4.mono ?_
              rintro e w5 ⟨rfl, hb5⟩
              have hX5 := hX.later hb5
              have x0 := hX5.cellAt 0 (by simp)
              have x1 := hX5.cellAt 1 (by simp)
              have x2 := hX5.cellAt 2 (by simp)
              have x3 := hX5.cellAt 3 (by simp)
              have x4 := hX5.cellAt 4 (by simp)
              simp only [List.getElem_cons_zero, List.getElem_cons_succ] at x0 x1 x2 x3 x4
              have HO5 := Lib.hid (own_later HO4.out hb5)
              have HB5 := Lib.hid (below_trans HB4.out hb5)
              have hbs := HB5.out.size
              have e0 := (hb5.cell (p := ⟨b2, o2 + j * 5, none⟩) hl2).trans d0
              have e1 := (hb5.cell (p := ⟨b2, o2 + j * 5 + 1, none⟩) hl2).trans d1
              have e2 := (hb5.cell (p := ⟨b2, o2 + j * 5 + 2, none⟩) hl2).trans d2
              have e3 := (hb5.cell (p := ⟨b2, o2 + j * 5 + 3, none⟩) hl2).trans d3
              have e4 := (hb5.cell (p := ⟨b2, o2 + j * 5 + 4, none⟩) hl2).trans d4
              clear hA4 hX hX5 hb5 HO4 HB4 c0 c1 c2' c3 c4 d0 d1 d2 d3 d4 hO hb
              go_wp2_with fail
              go_quiet (fail)
              have HO7 := Lib.hid (own_drewN HO5.out nq)
              have HB7 := Lib.hid (below_drewN HB5.out nq)
              have hbs : w.heap.size ≤ (w5.drewN nq).heap.size := hbs
              have g0 : (w5.drewN nq).cell? ⟨b2, o2 + j * 5, none⟩ = some (.int .i64 z0) := e0
              have g1 : (w5.drewN nq).cell? ⟨b2, o2 + j * 5 + 1, none⟩ = some (.int .i64 z1) := e1
              have g2 : (w5.drewN nq).cell? ⟨b2, o2 + j * 5 + 2, none⟩ = some (.int .i64 z2) := e2
              have g3 : (w5.drewN nq).cell? ⟨b2, o2 + j * 5 + 3, none⟩ = some (.int .i64 z3) := e3
              have g4 : (w5.drewN nq).cell? ⟨b2, o2 + j * 5 + 4, none⟩ = some (.bool z4) := e4
              clear hq e0 e1 e2 e3 e4 x0 x1 x2 x3 x4 HO5 HB5
              generalize w5.drewN nq = w7 at *
              go_wp2_with (at_builtin; refine append_new rfl (.tmp 44) (.tmp 50) 30 rfl 56 _ _ _ Try.underlying30 diff_infoD w.heap.size w7 (.slice A2 p c2) p (diffs L) rfl HO7.out [.int .i64 2, .int .i64 z0, .int .i64 z1, .int .i64 z2, .int .i64 z3, .bool z4] (by first | rfl | (simp; with_unfolding_all rfl)) rfl (by simp [Value.oneCell']) (by omega) hbs ?_; intro v' w6 hown6 hg6 hblk6)
              obtain ⟨A6, c6, rfl, _, _⟩ := own_slice hown6
              have HB6 := Lib.hid (below_append HB7.out hg6 HO7.out rfl)
              have HL6 : Hid ((L ++ [(⟨2, ⟨z0, z1, z2, z3, z4⟩⟩ : DiffV)]).length = p + 1) := Lib.hid (by rw [List.length_append, HP.out]; rfl)
              have HO6 := Lib.hid hown6
              clear hown6 hg6 hblk6
              go_roundw
              case rel => exact ⟨k + 1, p + 1, A6, c6, by omega, by go_num, rfl, by omega, Lib.hid (by rw [HL.out]; exact HL6.out), by rw [HL.out, diffs_append, diffs_one]; exact HO6.out, HB6.out⟩
              case measure => simp [intOf]; omega
        · obtain rfl : k = n := by omega
          have htk : told.take k = told := List.take_of_length_le (by rw [HN.out]; exact Nat.le_refl _)
          rw [htk] at HP hO
          have hp0 : p ≤ 10 := by omega
          clear htk
          go_wp2_with fail
          generalize hG : told.filterMap (goneOr seen) = G at *
          have HG := Lib.hid hG
          have hpG : G.length = p := HP.out
          clear hG hpk HP
          go_loopw [55, 5, 10] (fun i v _ wr => ∃ (j q : Nat) (A2 : Option Addr) (c2 : Nat), j ≤ m ∧ i = .int .i64 j ∧ v = .slice A2 q c2 ∧ q ≤ 10 + j ∧ Hid ((G ++ (seen.take j).filterMap (newOr told)).length = q) ∧ wr.ownsRow w.heap.size 56 6 (.slice A2 q c2) q (diffs (G ++ (seen.take j).filterMap (newOr told))) ∧ Below w.heap.size w wr) (fun i _ _ _ => m - (intOf i).toNat)
          case atStart => exact ⟨0, p, A2, c2, Nat.zero_le _, rfl, rfl, by omega, Lib.hid (by simpa using hpG), by simpa using hO, hb⟩
          case round =>
            clear hO hb
            obtain ⟨k, p, A2, c2, hk, rfl, rfl, hpk, HP, hO, hb⟩ := hrel
            by_cases hlt : k < m
            · have hkz : k < seen.length := by rw [HM.out]; exact hlt
              obtain ⟨b, o, rfl, hl, c0, c1, c2', c3, c4⟩ := (hr2.below hb).boxAt hkz
              have HFM : Hid ((seen.take (k + 1)).filterMap (newOr told) = (seen.take k).filterMap (newOr told) ++ (newOr told seen[k]).toList) := Lib.hid (by rw [List.take_succ_eq_append_getElem hkz, List.filterMap_append]; cases h : newOr told seen[k] <;> simp [h])
              have hki : (k : Int) < (m : Int) := by omega
              have hA := fun (W : World) (hW : Below wr.heap.size wr W) => boxAt_any A _ c told (seen[k]).f0 W HN.out (hr.below (below_trans hb hW)) (by omega)
              have hal : Below wr.heap.size wr (wr.alloc (.cells (boxC seen[k]).toArray 40)) := (Below.refl _ _).alloc (Nat.le_refl _) _
              have hX := Blk.new wr 40 (boxC seen[k])
              have HO4 := Lib.hid (own_later hO hal)
              have HB4 := Lib.hid (below_trans hb hal)
              have hA4 := hA _ hal
              have hHS := findF_has (zs := told) (id := (seen[k]).f0)
              cases hh : hasF told (seen[k]).f0 with
              | true =>
                have HL : Hid (G ++ (seen.take (k + 1)).filterMap (newOr told) = G ++ (seen.take k).filterMap (newOr told)) := Lib.hid (by rw [HFM.out]; unfold newOr; rw [hh]; simp)
                rw [hh] at hHS
                generalize idxI (findF told (seen[k]).f0) = iv at *
                have hiv : 0 ≤ iv := by simpa using hHS
                clear hh hHS hA HFM hal
                generalize seen[k] = y at *
                generalize G ++ (seen.take k).filterMap (newOr told) = L at *
                obtain ⟨y0, y1, y2, y3, y4⟩ := y
                simp only [boxC] at c0 c1 c2' c3 c4 hX HO4 HB4 hA4
                go_wp2_with fail
                refine hA4.mono ?_
                rintro e w5 ⟨rfl, hb5⟩
                have HO5 := Lib.hid (own_later HO4.out hb5)
                have HB5 := Lib.hid (below_trans HB4.out hb5)
                clear hA4 hX hb5 HO4 HB4 c0 c1 c2' c3 c4 hO hb
                go_wp2_with fail
                go_roundw
                case rel => exact ⟨k + 1, p, A2, c2, by omega, by go_num, rfl, by omega, Lib.hid (by rw [HL.out]; exact HP.out), by rw [HL.out]; exact HO5.out, HB5.out⟩
                case measure => simp [intOf]; omega
              | false =>
                have HL : Hid (G ++ (seen.take (k + 1)).filterMap (newOr told) = (G ++ (seen.take k).filterMap (newOr told)) ++ [⟨1, seen[k]⟩]) := Lib.hid (by rw [HFM.out]; unfold newOr; rw [hh]; simp)
                rw [hh] at hHS
                generalize idxI (findF told (seen[k]).f0) = iv at *
                have hiv : iv < 0 := by simpa using hHS
                clear hh hHS hA HFM hal
                generalize seen[k] = y at *
                generalize G ++ (seen.take k).filterMap (newOr told) = L at *
                obtain ⟨y0, y1, y2, y3, y4⟩ := y
                simp only [boxC] at c0 c1 c2' c3 c4 hX HO4 HB4 hA4
                go_wp2_with fail
                refine hA4.mono ?_
                rintro e w5 ⟨rfl, hb5⟩
                have hX5 := hX.later hb5
                have x0 := hX5.cellAt 0 (by simp)
                have x1 := hX5.cellAt 1 (by simp)
                have x2 := hX5.cellAt 2 (by simp)
                have x3 := hX5.cellAt 3 (by simp)
                have x4 := hX5.cellAt 4 (by simp)
                simp only [List.getElem_cons_zero, List.getElem_cons_succ] at x0 x1 x2 x3 x4
                have HO5 := Lib.hid (own_later HO4.out hb5)
                have HB5 := Lib.hid (below_trans HB4.out hb5)
                have hbs := HB5.out.size
                clear hA4 hX hX5 hb5 HO4 HB4 c0 c1 c2' c3 c4 hO hb
                go_wp2_with (at_builtin; refine append_new rfl (.tmp 64) (.tmp 67) 30 rfl 56 _ _ _ Try.underlying30 diff_infoD w.heap.size w5 (.slice A2 p c2) p (diffs L) rfl HO5.out [.int .i64 1, .int .i64 y0, .int .i64 y1, .int .i64 y2, .int .i64 y3, .bool y4] (by first | rfl | (simp; with_unfolding_all rfl)) rfl (by simp [Value.oneCell']) (by omega) hbs ?_; intro v' w6 hown6 hg6 hblk6)
                obtain ⟨A6, c6, rfl, _, _⟩ := own_slice hown6
                have HB6 := Lib.hid (below_append HB5.out hg6 HO5.out rfl)
                have HL6 : Hid ((L ++ [(⟨1, ⟨y0, y1, y2, y3, y4⟩⟩ : DiffV)]).length = p + 1) := Lib.hid (by rw [List.length_append, HP.out]; rfl)
                have HO6 := Lib.hid hown6
                clear hown6 hg6 hblk6
                go_roundw
                case rel => exact ⟨k + 1, p + 1, A6, c6, by omega, by go_num, rfl, by omega, Lib.hid (by rw [HL.out]; exact HL6.out), by rw [HL.out, diffs_append, diffs_one]; exact HO6.out, HB6.out⟩
                case measure => simp [intOf]; omega
            · obtain rfl : k = m := by omega
              have htk : G ++ (seen.take k).filterMap (newOr told) = rawD told seen := by rw [List.take_of_length_le (by rw [HM.out]; exact Nat.le_refl _), ← HG.out]; rfl
              rw [htk] at HP hO
              have hS3 := hSF A2 p c2 wr HP.out hO (by omega)
              clear hSF htk
              go_wp2_with (go_at_call 39; refine hS3.mono ?_; rintro e w3 ⟨rfl, ho3, hg3⟩)
              go_ret
              exact DifOut.mk (by rw [HS.out, HCL.out]; exact HP.out) (by rw [HS.out]; exact ho3) (below_append hb hg3 hO rfl)
end Go.Proofs.Ytbhnlooellgfaaa
