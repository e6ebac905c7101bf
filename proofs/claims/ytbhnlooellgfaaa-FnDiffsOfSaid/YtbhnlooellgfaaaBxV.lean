/- Valid boxes, FindBox: both programs return the plain word. -/
import Derived.Test.YtbhnlooellgfaaaBxI
import Derived.Test.YtbhnlooellgfaaaBoxM
import Derived.Test.YtbhnlooellgfaaaQuietB
namespace Go.Proofs.Ytbhnlooellgfaaa
open Go Go.ChangeShapes Go.WideShapes Go.ChangeAt Go.RowKit
set_option linter.unusedVariables false
theorem RdV.boxTake {w : World} {A : Option Addr} {zs : List BoxV} (h : RdV w A (boxs zs)) (k : Nat) : RdV w A (boxs (zs.take k)) := by
  rcases h with h | ⟨b, o, rfl, hl, hc⟩
  · left
    have : zs = [] := by
      have := boxs_len zs
      rw [h] at this
      simp at this
      exact List.eq_nil_of_length_eq_zero (by omega)
    rw [this]; simp [boxs, cellsOf]
  · refine .inr ⟨b, o, rfl, hl, fun j hj => ?_⟩
    have he : boxs zs = boxs (zs.take k) ++ boxs (zs.drop k) := by rw [← boxs_append, List.take_append_drop]
    have hj2 : j < (boxs zs).length := by rw [he, List.length_append]; omega
    rw [hc j hj2]
    congr 1
    have : (boxs zs)[j]? = (boxs (zs.take k))[j]? := by rw [he, List.getElem?_append_left hj]
    rw [List.getElem?_eq_getElem hj2, List.getElem?_eq_getElem hj] at this
    injection this
set_option maxHeartbeats 2000000 in
theorem specBoxesValid (A : Option Addr) (n c : Nat) (zs : List BoxV) (w : World) (hn : zs.length = n) (hr : RdV w A (boxs zs)) (hm : n ≤ 1099511627776) :
    Calls Try.prog 23 #[.slice A n c] w fun e w' => e = .returned (.bool (boxesOk zs)) ∧ Below w.heap.size w w' := by
  have HN := Lib.hid hn
  clear hn
  go_enter Try.func23, Try.ntmps23
  go_wp2_with fail
  go_loopw [3] (fun i wr => ∃ k : Nat, k ≤ n ∧ i = .int .i64 k ∧ Hid (okGo [] zs = okGo (zs.take k) (zs.drop k)) ∧ Below w.heap.size w wr) (fun i _ => n - (intOf i).toNat)
  case atStart => exact ⟨0, Nat.zero_le _, rfl, Lib.hid (by simp), Below.refl _ _⟩
  case round =>
    obtain ⟨k, hk, rfl, HJ, hb⟩ := hrel
    by_cases hlt : k < n
    · have hkz : k < zs.length := by rw [HN.out]; exact hlt
      obtain ⟨b, o, rfl, hl, c0, c1, c2, c3, c4⟩ := (hr.below hb).boxAt hkz
      have hst := okGo_at hkz
      rw [← HJ.out] at hst
      have HST := Lib.hid hst
      have HLT := Lib.hid (findF_lt hkz)
      have hV := specBoxValid (zs[k]) wr
      have hF := fun (W : World) (hW : Below wr.heap.size wr W) => l2Find_any (some ⟨b, o, none⟩) n c zs (zs[k]).f0 W HN.out (hr.below (below_trans hb hW)) (by omega)
      have hki : (k : Int) < (n : Int) := by omega
      generalize zs[k] = y at *
      obtain ⟨y0, y1, y2, y3, y4⟩ := y
      dsimp only at c0 c1 c2 c3 c4 HLT hV hF HST
      clear hst
      have d0 : ∀ W : World, Below wr.heap.size wr W → W.cell? ⟨b, o + k * 5, none⟩ = some (.int .i64 y0) := fun W hW => (hW.cell (p := ⟨b, o + k * 5, none⟩) hl).trans c0
      cases hbv : bOk ⟨y0, y1, y2, y3, y4⟩ with
      | false =>
        have HF2 : Hid (boxesOk zs = false) := Lib.hid (by unfold boxesOk; rw [HST.out, hbv]; rfl)
        rw [hbv] at hV
        clear hbv
        go_wp2_with (go_at_call 44; refine hV.mono ?_; rintro e w2 ⟨rfl, hb2⟩)
        go_ret
        exact ⟨by rw [HF2.out]; rfl, below_trans hb hb2⟩
      | true =>
        rw [hbv] at hV
        generalize hid : idxI (findF zs y0) = iv at *
        have HID := Lib.hid hid
        clear hid
        by_cases hlk : iv < (k : Int)
        · have HF2 : Hid (boxesOk zs = false) := Lib.hid (by unfold boxesOk; rw [HST.out, ← HLT.out, decide_eq_true hlk]; simp)
          clear hbv
          go_wp2_with fail
          refine hV.mono ?_
          rintro e w2 ⟨rfl, hb2⟩
          have e0 := d0 w2 hb2
          have hF3 := hF w2 hb2
          clear hF hV
          go_wp2_with (go_at_call 34; refine hF3.mono ?_; rintro e w3 ⟨rfl, rfl⟩)
          go_ret
          exact ⟨by rw [HF2.out]; rfl, below_trans hb hb2⟩
        · have HG : Hid (okGo [] zs = okGo (zs.take (k + 1)) (zs.drop (k + 1))) := Lib.hid (by rw [HST.out, ← HLT.out, decide_eq_false hlk, hbv]; rfl)
          clear hbv
          go_wp2_with fail
          refine hV.mono ?_
          rintro e w2 ⟨rfl, hb2⟩
          have e0 := d0 w2 hb2
          have hF3 := hF w2 hb2
          clear hF hV
          go_wp2_with (go_at_call 34; refine hF3.mono ?_; rintro e w3 ⟨rfl, rfl⟩)
          go_roundw
          case rel => exact ⟨k + 1, by omega, by go_num, HG, below_trans hb hb2⟩
          case measure => simp [intOf]; omega
    · obtain rfl : k = n := by omega
      have HE : Hid (boxesOk zs = decide ((k : Int) ≤ 10)) := Lib.hid (by
        unfold boxesOk
        rw [HJ.out, List.drop_of_length_le (by rw [HN.out]; exact Nat.le_refl _), HN.out]
        by_cases h : k ≤ 10
        · rw [decide_eq_true h, decide_eq_true (by omega : (k : Int) ≤ 10)]; rfl
        · rw [decide_eq_false h, decide_eq_false (by omega : ¬ (k : Int) ≤ 10)]; rfl)
      go_wp2_with fail
      go_ret
      exact ⟨by rw [HE.out]; rfl, hb⟩
set_option maxHeartbeats 4000000 in
theorem implBoxesValid (A : Option Addr) (n c : Nat) (zs : List BoxV) (w : World) (hn : zs.length = n) (hr : RdV w A (boxs zs)) (hnc : n ≤ c) (hm : n ≤ 1099511627776) :
    Calls Try.prog 33 #[.slice A n c] w fun e w' => e = .returned (.bool (boxesOk zs)) ∧ Below w.heap.size w w' := by
  have HN := Lib.hid hn
  clear hn
  go_enter Try.func33, Try.ntmps33
  go_wp2_with fail
  go_loopw [7, 3, 4] (fun i _ _ wr => ∃ k : Nat, k ≤ n ∧ i = .int .i64 k ∧ Hid (okGo [] zs = okGo (zs.take k) (zs.drop k)) ∧ Below w.heap.size w wr) (fun i _ _ _ => n - (intOf i).toNat)
  case atStart => exact ⟨0, Nat.zero_le _, rfl, Lib.hid (by simp), Below.refl _ _⟩
  case round =>
    obtain ⟨k, hk, rfl, HJ, hb⟩ := hrel
    by_cases hlt : k < n
    · have hkz : k < zs.length := by rw [HN.out]; exact hlt
      obtain ⟨b, o, rfl, hl, c0, c1, c2, c3, c4⟩ := (hr.below hb).boxAt hkz
      have hst := okGo_at hkz
      rw [← HJ.out] at hst
      have HST := Lib.hid hst
      have HTL : (zs.take k).length = k := by rw [List.length_take]; omega
      have hV := fun W => implBoxValid (zs[k]) W
      have hF := fun (W : World) (hW : Below wr.heap.size wr W) => boxAt_any (some ⟨b, o, none⟩) k c (zs.take k) (zs[k]).f0 W HTL ((hr.below (below_trans hb hW)).boxTake k) (by omega)
      have hHS := findF_has (zs := zs.take k) (id := (zs[k]).f0)
      have hki : (k : Int) < (n : Int) := by omega
      have hkc : (k : Int) ≤ (c : Int) := by omega
      generalize zs[k] = y at *
      obtain ⟨y0, y1, y2, y3, y4⟩ := y
      dsimp only at c0 c1 c2 c3 c4 hV hF HST hHS
      clear hst HTL
      have hal : Below wr.heap.size wr (wr.alloc (.cells #[.int .i64 y0, .int .i64 y1, .int .i64 y2, .int .i64 y3, .bool y4] 40)) := (Below.refl _ _).alloc (Nat.le_refl _) _
      have H2 : Blk (wr.alloc (.cells #[.int .i64 y0, .int .i64 y1, .int .i64 y2, .int .i64 y3, .bool y4] 40)) wr.heap.size 40 [.int .i64 y0, .int .i64 y1, .int .i64 y2, .int .i64 y3, .bool y4] := Blk.new _ _ _
      have HB2 := Lib.hid (below_trans hb hal)
      have hF := fun (W : World) (hW : Below _ _ W) => hF W (below_trans hal hW)
      clear hb hal
      go_wp2_with fail
      generalize wr.alloc (.cells #[.int .i64 y0, .int .i64 y1, .int .i64 y2, .int .i64 y3, .bool y4] 40) = w4 at *
      have d0 : ∀ p : BelW w4, p.W.cell? ⟨wr.heap.size, 0, none⟩ = some (.int .i64 y0) := fun p => (H2.belw p).cellAt 0 (by simp)
      have d1 : ∀ p : BelW w4, p.W.cell? ⟨wr.heap.size, 1, none⟩ = some (.int .i64 y1) := fun p => (H2.belw p).cellAt 1 (by simp)
      have d2 : ∀ p : BelW w4, p.W.cell? ⟨wr.heap.size, 2, none⟩ = some (.int .i64 y2) := fun p => (H2.belw p).cellAt 2 (by simp)
      have d3 : ∀ p : BelW w4, p.W.cell? ⟨wr.heap.size, 3, none⟩ = some (.int .i64 y3) := fun p => (H2.belw p).cellAt 3 (by simp)
      have d4 : ∀ p : BelW w4, p.W.cell? ⟨wr.heap.size, 4, none⟩ = some (.bool y4) := fun p => (H2.belw p).cellAt 4 (by simp)
      clear c0 c1 c2 c3 c4 H2
      cases hbv : bOk ⟨y0, y1, y2, y3, y4⟩ with
      | false =>
        have HF2 : Hid (boxesOk zs = false) := Lib.hid (by unfold boxesOk; rw [HST.out, hbv]; rfl)
        rw [hbv] at hV
        clear hbv hHS
        refine wp_region_below (by kernel_rfl) (by kernel_rfl) ?_
        repeat (go_big_quiet_step ((first | (go_at_call 50; exact calls_below (hV _)) | (go_at_call 38; exact calls_below (hF _ (BelW.ok _))))))
        refine wpQuiet_nil ?_
        intro _ hw'
        obtain ⟨⟨wq, hbq⟩, hw''⟩ := hw'
        subst hw''
        have HBQ := Lib.hid (below_trans HB2.out hbq)
        clear hbq hV hF
        go_wp2_with fail
        go_ret
        exact ⟨by rw [HF2.out]; rfl, HBQ.out⟩
      | true =>
        rw [hbv] at hV
        generalize idxI (findF (zs.take k) y0) = iv at *
        cases hh : hasF (zs.take k) y0 with
        | true =>
          have HF2 : Hid (boxesOk zs = false) := Lib.hid (by unfold boxesOk; rw [HST.out, hh]; simp)
          rw [hh] at hHS
          clear hbv hh
          refine wp_region_below (by kernel_rfl) (by kernel_rfl) ?_
          repeat (go_big_quiet_step ((first | (go_at_call 50; exact calls_below (hV _)) | (go_at_call 38; exact calls_below (hF _ (BelW.ok _))))))
          refine wpQuiet_nil ?_
          intro _ hw'
          obtain ⟨⟨wq, hbq⟩, hw''⟩ := hw'
          subst hw''
          have HBQ := Lib.hid (below_trans HB2.out hbq)
          clear hbq hV hF
          go_wp2_with fail
          go_ret
          exact ⟨by rw [HF2.out]; rfl, HBQ.out⟩
        | false =>
          have HG : Hid (okGo [] zs = okGo (zs.take (k + 1)) (zs.drop (k + 1))) := Lib.hid (by rw [HST.out, hh, hbv]; rfl)
          rw [hh] at hHS
          clear hbv hh
          refine wp_region_below (by kernel_rfl) (by kernel_rfl) ?_
          repeat (go_big_quiet_step ((first | (go_at_call 50; exact calls_below (hV _)) | (go_at_call 38; exact calls_below (hF _ (BelW.ok _))))))
          refine wpQuiet_nil ?_
          intro _ hw'
          obtain ⟨⟨wq, hbq⟩, hw''⟩ := hw'
          subst hw''
          have HBQ := Lib.hid (below_trans HB2.out hbq)
          clear hbq hV hF
          go_wp2_with fail
          go_roundw
          case rel => exact ⟨k + 1, by omega, by go_num, HG, HBQ.out⟩
          case measure => simp [intOf]; omega
    · obtain rfl : k = n := by omega
      have HE : Hid (boxesOk zs = decide ((k : Int) ≤ 10)) := Lib.hid (by
        unfold boxesOk
        rw [HJ.out, List.drop_of_length_le (by rw [HN.out]; exact Nat.le_refl _), HN.out]
        by_cases h : k ≤ 10
        · rw [decide_eq_true h, decide_eq_true (by omega : (k : Int) ≤ 10)]; rfl
        · rw [decide_eq_false h, decide_eq_false (by omega : ¬ (k : Int) ≤ 10)]; rfl)
      go_wp2_with fail
      go_ret
      exact ⟨by rw [HE.out]; rfl, hb⟩
theorem findBox_any (A : Option Addr) (n c : Nat) (zs : List BoxV) (id : Int) (w : World) (hn : zs.length = n) (hr : RdV w A (boxs zs)) (hnc : n ≤ c) (hm : n ≤ 1099511627776) :
    Calls Try.prog 25 #[.slice A n c, .int .i64 id] w fun e w' => e = .returned (.int .i64 (if boxesOk zs then idxI (findF zs id) else -1)) ∧ Below w.heap.size w w' := by
  have hV := implBoxesValid A n c zs w hn hr hnc hm
  have hF := fun (W : World) (hW : Below w.heap.size w W) => boxAt_any A n c zs id W hn (hr.below hW) (by omega)
  cases hb : boxesOk zs with
  | false =>
    rw [hb] at hV
    clear hb
    go_enter Try.func25, Try.ntmps25
    go_wp2_with (go_at_call 33; refine hV.mono ?_; rintro e w2 ⟨rfl, hb2⟩)
    go_ret
    exact ⟨rfl, hb2⟩
  | true =>
    rw [hb] at hV
    clear hb
    go_enter Try.func25, Try.ntmps25
    go_wp2_with fail
    refine hV.mono ?_
    rintro e w2 ⟨rfl, hb2⟩
    have hF2 := hF w2 hb2
    clear hF
    go_wp2_with (go_at_call 38; refine hF2.mono ?_; rintro e w3 ⟨rfl, hb3⟩)
    go_ret
    exact ⟨rfl, below_trans hb2 hb3⟩
end Go.Proofs.Ytbhnlooellgfaaa
