/- DiffsOf of the reference: the differences by ascending ids. -/
import Derived.Test.YtbhnlooellgfaaaBxT
import Derived.Test.YtbhnlooellgfaaaDifM
import Derived.Laws.StructEq
namespace Go.Proofs.Ytbhnlooellgfaaa
open Go Go.ChangeShapes Go.WideShapes Go.ChangeAt Go.RowKit
set_option linter.unusedVariables false
set_option linter.unusedSimpArgs false
theorem diff_infoD : Info Try.prog 56 (.agg #[.int .i64 0, .int .i64 0, .int .i64 0, .int .i64 0, .int .i64 0, .bool false]) 6 48 := Info.mk' diff_info rfl (by decide) (by decide)
theorem boxEq_runD (d : Nat) (x y : BoxV) (w : World) : (Op.equalIn (d + 1 + 1) 40 (.agg #[.int .i64 x.f0, .int .i64 x.f1, .int .i64 x.f2, .int .i64 x.f3, .bool x.f4]) (.agg #[.int .i64 y.f0, .int .i64 y.f1, .int .i64 y.f2, .int .i64 y.f3, .bool y.f4])).run Try.prog w = .ok (decide (x = y)) w := by
  have hu : Try.prog.underlying 40 = some (.struct (Try.prog.fieldsOf 40)) := by kernel_rfl
  have hp : Try.prog.stoodInHeld 40 = false := by kernel_rfl
  rw [run_equalIn_struct _ _ _ _ _ hu hp]
  obtain ⟨x0, x1, x2, x3, x4⟩ := x
  obtain ⟨y0, y1, y2, y3, y4⟩ := y
  simp only [BoxV.mk.injEq]
  by_cases h0 : x0 = y0
  · by_cases h1 : x1 = y1
    · by_cases h2 : x2 = y2
      · by_cases h3 : x3 = y3
        · by_cases h4 : x4 = y4
          · simp [go_sem, Try.underlying40, Try.underlying3, Try.underlying4, h0, h1, h2, h3, h4]
          · simp [go_sem, Try.underlying40, Try.underlying3, Try.underlying4, h0, h1, h2, h3, h4]
        · simp [go_sem, Try.underlying40, Try.underlying3, h0, h1, h2, h3]
      · simp [go_sem, Try.underlying40, Try.underlying3, h0, h1, h2]
    · simp [go_sem, Try.underlying40, Try.underlying3, h0, h1]
  · simp [go_sem, Try.underlying40, Try.underlying3, h0]
theorem neq_box (x y : BoxV) (b : Bool) (h : decide (x = y) = b) (w : World) : (binOp .neq 40 (.agg #[.int .i64 x.f0, .int .i64 x.f1, .int .i64 x.f2, .int .i64 x.f3, .bool x.f4]) (.agg #[.int .i64 y.f0, .int .i64 y.f1, .int .i64 y.f2, .int .i64 y.f3, .bool y.f4])).run Try.prog w = .ok (.bool (!b)) w := by
  rw [run_neq_struct, boxEq_runD 9998, h]; rfl
theorem eql_box (x y : BoxV) (b : Bool) (h : decide (x = y) = b) (w : World) : (binOp .eql 40 (.agg #[.int .i64 x.f0, .int .i64 x.f1, .int .i64 x.f2, .int .i64 x.f3, .bool x.f4]) (.agg #[.int .i64 y.f0, .int .i64 y.f1, .int .i64 y.f2, .int .i64 y.f3, .bool y.f4])).run Try.prog w = .ok (.bool b) w := by
  rw [run_eql_struct, boxEq_runD 9998, h]; rfl
/-- a slice of differences of the call's own -/
def DifOut (w : World) (base : Nat) (L : List DiffV) : Ending → World → Prop :=
  RVal fun u w' => ∃ A n c, u = .slice A n c ∧ L.length = n ∧ w'.ownsRow base 56 6 (.slice A n c) n (diffs L) ∧ Below w.heap.size w w'
theorem DifOut.mk {w w' : World} {base : Nat} {L : List DiffV} {A : Option Addr} {n c : Nat} (hl : L.length = n) (ho : w'.ownsRow base 56 6 (.slice A n c) n (diffs L)) (hb : Below w.heap.size w w') : DifOut w base L (.returned (.slice A n c)) w' := RVal.mk ⟨A, n, c, rfl, hl, ho, hb⟩
set_option maxRecDepth 100000 in
set_option maxHeartbeats 8000000 in
theorem specDiffsOf (A B : Option Addr) (n c m d : Nat) (told seen : List BoxV) (w : World) (hn : told.length = n) (hmm : seen.length = m) (hr : RdV w A (boxs told)) (hr2 : RdV w B (boxs seen)) (hm : n ≤ 1099511627776) (hm2 : m ≤ 1099511627776) :
    Calls Try.prog 16 #[.slice A n c, .slice B m d] w (DifOut w w.heap.size (diffsB told seen)) := by
  have HN := Lib.hid hn
  have HM := Lib.hid hmm
  have hal : Below w.heap.size w (w.alloc (.cells #[] 56)) := (Below.refl _ _).alloc (Nat.le_refl _) _
  have hown : (w.alloc (.cells #[] 56)).ownsRow w.heap.size 56 6 (.slice (some ⟨w.heap.size, 0, none⟩) 0 0) 0 [] := own_of_blk (cs := []) (Blk.new _ _ _) (Nat.le_refl _) rfl (by decide)
  have hV := specBoxesValid A n c told _ hn (hr.below hal) hm
  have hV2 := fun (W : World) (hW : Below w.heap.size w W) => specBoxesValid B m d seen W hmm (hr2.below hW) hm2
  clear hn hmm
  cases hok : boxesOk told with
  | false =>
    have HS : Hid (diffsB told seen = []) := Lib.hid (by unfold diffsB; rw [hok]; rfl)
    rw [hok] at hV
    clear hok hV2
    go_enter Try.func16, Try.ntmps16
    go_wp2_with (go_at_call 23; refine hV.mono ?_; rintro e w2 ⟨rfl, hb2⟩)
    go_ret
    exact DifOut.mk (by rw [HS.out]; rfl) (by rw [HS.out]; exact own_later hown hb2) (below_trans hal hb2)
  | true =>
    rw [hok] at hV
    cases hok2 : boxesOk seen with
    | false =>
      have HS : Hid (diffsB told seen = []) := Lib.hid (by unfold diffsB; rw [hok2]; simp)
      rw [hok2] at hV2
      clear hok hok2
      go_enter Try.func16, Try.ntmps16
      go_wp2_with fail
      refine hV.mono ?_
      rintro e w2 ⟨rfl, hb2⟩
      have hV3 := hV2 w2 (below_trans hal hb2)
      clear hV2
      go_wp2_with (go_at_call 23; refine hV3.mono ?_; rintro e w3 ⟨rfl, hb3⟩)
      go_ret
      exact DifOut.mk (by rw [HS.out]; rfl) (by rw [HS.out]; exact own_later (own_later hown hb2) hb3) (below_trans (below_trans hal hb2) hb3)
    | true =>
      have HS : Hid (diffsB told seen = collD told seen) := Lib.hid (by unfold diffsB; rw [hok, hok2]; rfl)
      rw [hok2] at hV2
      clear hok hok2
      go_enter Try.func16, Try.ntmps16
      go_wp2_with fail
      refine hV.mono ?_
      rintro e w2 ⟨rfl, hb2⟩
      have hV3 := hV2 w2 (below_trans hal hb2)
      clear hV2 hV
      go_wp2_with (go_at_call 23; refine hV3.mono ?_; rintro e w3 ⟨rfl, hb3⟩)
      clear hV3
      have hO3 := own_later (own_later hown hb2) hb3
      have hB3 := below_trans (below_trans hal hb2) hb3
      clear hb2 hb3 hown hal
      go_loopw [5, 6, 7, 8] (fun v i _ _ wr => ∃ (k p : Nat) (A2 : Option Addr) (c2 : Nat), k ≤ 999 ∧ i = .int .i64 ((k : Int) + 1) ∧ v = .slice A2 p c2 ∧ p ≤ k ∧ Hid ((coll (diffAt told seen) k).length = p) ∧ wr.ownsRow w.heap.size 56 6 (.slice A2 p c2) p (diffs (coll (diffAt told seen) k)) ∧ Below w.heap.size w wr) (fun _ i _ _ _ => 1000 - (intOf i).toNat)
      case atStart => exact ⟨0, 0, _, _, by omega, rfl, rfl, Nat.le_refl _, Lib.hid rfl, hO3, hB3⟩
      case round =>
        clear hO3 hB3
        obtain ⟨k, p, A2, c2, hk, rfl, rfl, hpk, HP, hO, hb⟩ := hrel
        by_cases hlt : k < 999
        · have HCS := Lib.hid (coll_succ (diffAt told seen) k)
          have hF := l2Find_any A n c told ((k : Int) + 1) wr HN.out (hr.below hb) (by omega)
          have hF2 := l2Find_any B m d seen ((k : Int) + 1) wr HM.out (hr2.below hb) (by omega)
          have hki : (k : Int) + 1 ≤ 999 := by omega
          have hbs := hb.size
          have HO := Lib.hid hO
          have HB := Lib.hid hb
          generalize coll (diffAt told seen) k = L at *
          cases hf : findF told ((k : Int) + 1) with
          | none =>
            have hf1 := findF_find.1 hf
            rw [hf] at hF
            change Calls _ _ _ _ (fun e w' => e = .returned (.int .i64 (-1)) ∧ _) at hF
            cases hg : findF seen ((k : Int) + 1) with
            | none =>
              have HL : Hid (coll (diffAt told seen) (k + 1) = L) := Lib.hid (by rw [HCS.out]; unfold diffAt; rw [hf1, findF_find.1 hg]; simp)
              rw [hg] at hF2
              change Calls _ _ _ _ (fun e w' => e = .returned (.int .i64 (-1)) ∧ _) at hF2
              clear hf hg hf1 hO hb
              go_wp2_with fail
              refine hF.mono ?_
              rintro e w3 ⟨rfl, rfl⟩
              clear hF
              go_wp2_with (go_at_call 34; refine hF2.mono ?_; rintro e w3 ⟨rfl, rfl⟩)
              go_quiet (fail)
              go_wp2_with fail
              go_roundw
              case rel => exact ⟨k + 1, p, A2, c2, by omega, by go_num, rfl, by omega, Lib.hid (by rw [HL.out]; exact HP.out), by rw [HL.out]; exact own_drewN HO.out _, below_drewN HB.out _⟩
              case measure => simp [intOf]; omega
            | some j =>
              obtain ⟨hj, hje, hjf⟩ := findF_some hg
              have HL : Hid (coll (diffAt told seen) (k + 1) = L ++ [⟨1, seen[j]⟩]) := Lib.hid (by rw [HCS.out]; unfold diffAt; rw [hf1, hjf]; rfl)
              rw [hg] at hF2
              change Calls _ _ _ _ (fun e w' => e = .returned (.int .i64 (j : Int)) ∧ _) at hF2
              have hjn : j < m := by rw [← HM.out]; exact hj
              obtain ⟨b, o, rfl, hl, d0, d1, d2, d3, d4⟩ := (hr2.below hb).boxAt hj
              clear hf hg hf1 hje hjf hO hb
              generalize seen[j] = y at *
              obtain ⟨y0, y1, y2, y3, y4⟩ := y
              dsimp only at d0 d1 d2 d3 d4
              have hji : (j : Int) < (m : Int) := by omega
              obtain ⟨w3, hw3⟩ : ∃ w3, w3 = wr := ⟨_, rfl⟩
              have HO3 := Lib.hid (by rw [hw3]; exact HO.out : w3.ownsRow w.heap.size 56 6 (.slice A2 p c2) p (diffs L))
              have HB3 := Lib.hid (by rw [hw3]; exact HB.out : Below w.heap.size w w3)
              subst hw3
              go_wp2_with fail
              refine hF.mono ?_
              rintro e w3 ⟨rfl, rfl⟩
              clear hF
              go_wp2_with (first | (go_at_call 34; refine hF2.mono ?_; rintro e w3 ⟨rfl, rfl⟩) | (at_builtin; refine append_new rfl (.tmp 51) (.tmp 57) 30 rfl 56 _ _ _ Try.underlying30 diff_infoD w.heap.size w3 (.slice A2 p c2) p (diffs L) rfl HO3.out [.int .i64 1, .int .i64 y0, .int .i64 y1, .int .i64 y2, .int .i64 y3, .bool y4] (by first | rfl | (simp; with_unfolding_all rfl)) rfl (by simp [Value.oneCell']) (by omega) hbs ?_; intro v' w4 hown4 hg4 hblk4))
              obtain ⟨A6, c6, rfl, _, _⟩ := own_slice hown4
              have HB6 := Lib.hid (below_append HB3.out hg4 HO3.out rfl)
              have HL6 : Hid ((L ++ [(⟨1, ⟨y0, y1, y2, y3, y4⟩⟩ : DiffV)]).length = p + 1) := Lib.hid (by rw [List.length_append, HP.out]; rfl)
              have HO6 := Lib.hid hown4
              clear hown4 hg4 hblk4
              go_roundw
              case rel => exact ⟨k + 1, p + 1, A6, c6, by omega, by go_num, rfl, by omega, Lib.hid (by rw [HL.out]; exact HL6.out), by rw [HL.out, diffs_append, diffs_one]; exact HO6.out, HB6.out⟩
              case measure => simp [intOf]; omega
          | some i =>
            obtain ⟨hi, hie, hif⟩ := findF_some hf
            rw [hf] at hF
            change Calls _ _ _ _ (fun e w' => e = .returned (.int .i64 (i : Int)) ∧ _) at hF
            have hin : i < n := by rw [← HN.out]; exact hi
            obtain ⟨b, o, rfl, hl, c0, c1, c2', c3, c4⟩ := (hr.below hb).boxAt hi
            have hii : (i : Int) < (n : Int) := by omega
            cases hg : findF seen ((k : Int) + 1) with
            | none =>
              have HL : Hid (coll (diffAt told seen) (k + 1) = L ++ [⟨0, told[i]⟩]) := Lib.hid (by rw [HCS.out]; unfold diffAt; rw [hif, findF_find.1 hg]; rfl)
              rw [hg] at hF2
              change Calls _ _ _ _ (fun e w' => e = .returned (.int .i64 (-1)) ∧ _) at hF2
              clear hf hg hie hif hO hb
              generalize told[i] = y at *
              obtain ⟨y0, y1, y2, y3, y4⟩ := y
              dsimp only at c0 c1 c2' c3 c4
              obtain ⟨w3, hw3⟩ : ∃ w3, w3 = wr := ⟨_, rfl⟩
              have HO3 := Lib.hid (by rw [hw3]; exact HO.out : w3.ownsRow w.heap.size 56 6 (.slice A2 p c2) p (diffs L))
              have HB3 := Lib.hid (by rw [hw3]; exact HB.out : Below w.heap.size w w3)
              subst hw3
              go_wp2_with fail
              refine hF.mono ?_
              rintro e w3 ⟨rfl, rfl⟩
              clear hF
              go_wp2_with (first | (go_at_call 34; refine hF2.mono ?_; rintro e w3 ⟨rfl, rfl⟩) | (at_builtin; refine append_new rfl (.tmp 36) (.tmp 42) 30 rfl 56 _ _ _ Try.underlying30 diff_infoD w.heap.size w3 (.slice A2 p c2) p (diffs L) rfl HO3.out [.int .i64 0, .int .i64 y0, .int .i64 y1, .int .i64 y2, .int .i64 y3, .bool y4] (by first | rfl | (simp; with_unfolding_all rfl)) rfl (by simp [Value.oneCell']) (by omega) hbs ?_; intro v' w4 hown4 hg4 hblk4))
              obtain ⟨A6, c6, rfl, _, _⟩ := own_slice hown4
              have HB6 := Lib.hid (below_append HB3.out hg4 HO3.out rfl)
              have HL6 : Hid ((L ++ [(⟨0, ⟨y0, y1, y2, y3, y4⟩⟩ : DiffV)]).length = p + 1) := Lib.hid (by rw [List.length_append, HP.out]; rfl)
              have HO6 := Lib.hid hown4
              clear hown4 hg4 hblk4
              go_roundw
              case rel => exact ⟨k + 1, p + 1, A6, c6, by omega, by go_num, rfl, by omega, Lib.hid (by rw [HL.out]; exact HL6.out), by rw [HL.out, diffs_append, diffs_one]; exact HO6.out, HB6.out⟩
              case measure => simp [intOf]; omega
            | some j =>
              obtain ⟨hj, hje, hjf⟩ := findF_some hg
              rw [hg] at hF2
              change Calls _ _ _ _ (fun e w' => e = .returned (.int .i64 (j : Int)) ∧ _) at hF2
              have hjn : j < m := by rw [← HM.out]; exact hj
              obtain ⟨b2, o2, rfl, hl2, d0, d1, d2, d3, d4⟩ := (hr2.below hb).boxAt hj
              have hji : (j : Int) < (m : Int) := by omega
              have HD : Hid (coll (diffAt told seen) (k + 1) = L ++ (if told[i] = seen[j] then none else some (⟨2, seen[j]⟩ : DiffV)).toList) := Lib.hid (by rw [HCS.out]; unfold diffAt; rw [hif, hjf])
              have hnq := fun (b : Bool) (h : decide (told[i] = seen[j]) = b) => neq_box told[i] seen[j] b h
              clear hf hg hie hif hje hjf hO hb
              generalize told[i] = x at *
              generalize seen[j] = y at *
              by_cases hxy : x = y
              · have HL : Hid (coll (diffAt told seen) (k + 1) = L) := Lib.hid (by rw [HD.out, if_pos hxy]; simp)
                have hq := hnq true (decide_eq_true hxy)
                clear hnq hxy
                obtain ⟨x0, x1, x2, x3, x4⟩ := x
                obtain ⟨y0, y1, y2, y3, y4⟩ := y
                dsimp only at c0 c1 c2' c3 c4 d0 d1 d2 d3 d4 hq
                go_wp2_with fail
                refine hF.mono ?_
                rintro e w3 ⟨rfl, rfl⟩
                clear hF
                go_wp2_with (go_at_call 34; refine hF2.mono ?_; rintro e w3 ⟨rfl, rfl⟩)
                go_quiet (fail)
                go_wp2_with fail
                go_roundw
                case rel => exact ⟨k + 1, p, A2, c2, by omega, by go_num, rfl, by omega, Lib.hid (by rw [HL.out]; exact HP.out), by rw [HL.out]; exact own_drewN HO.out _, below_drewN HB.out _⟩
                case measure => simp [intOf]; omega
              · have HL : Hid (coll (diffAt told seen) (k + 1) = L ++ [⟨2, y⟩]) := Lib.hid (by rw [HD.out, if_neg hxy]; rfl)
                have hq := hnq false (decide_eq_false hxy)
                clear hnq hxy
                obtain ⟨x0, x1, x2, x3, x4⟩ := x
                obtain ⟨y0, y1, y2, y3, y4⟩ := y
                dsimp only at c0 c1 c2' c3 c4 d0 d1 d2 d3 d4 hq
                go_wp2_with fail
                refine hF.mono ?_
                rintro e w3 ⟨rfl, rfl⟩
                clear hF
                go_wp2_with (go_at_call 34; refine hF2.mono ?_; rintro e w3 ⟨rfl, rfl⟩)
                go_quiet (fail)
                have HO3 := Lib.hid (own_drewN HO.out nq)
                have HB3 := Lib.hid (below_drewN HB.out nq)
                have hbs : w.heap.size ≤ (wr.drewN nq).heap.size := hbs
                have e0 : (wr.drewN nq).cell? ⟨b2, o2 + j * 5, none⟩ = some (.int .i64 y0) := d0
                have e1 : (wr.drewN nq).cell? ⟨b2, o2 + j * 5 + 1, none⟩ = some (.int .i64 y1) := d1
                have e2 : (wr.drewN nq).cell? ⟨b2, o2 + j * 5 + 2, none⟩ = some (.int .i64 y2) := d2
                have e3 : (wr.drewN nq).cell? ⟨b2, o2 + j * 5 + 3, none⟩ = some (.int .i64 y3) := d3
                have e4 : (wr.drewN nq).cell? ⟨b2, o2 + j * 5 + 4, none⟩ = some (.bool y4) := d4
                clear hq c0 c1 c2' c3 c4 d0 d1 d2 d3 d4
                generalize wr.drewN nq = w3 at *
                go_wp2_with (at_builtin; refine append_new rfl (.tmp 77) (.tmp 83) 30 rfl 56 _ _ _ Try.underlying30 diff_infoD w.heap.size w3 (.slice A2 p c2) p (diffs L) rfl HO3.out [.int .i64 2, .int .i64 y0, .int .i64 y1, .int .i64 y2, .int .i64 y3, .bool y4] (by first | rfl | (simp; with_unfolding_all rfl)) rfl (by simp [Value.oneCell']) (by omega) hbs ?_; intro v' w4 hown4 hg4 hblk4)
                obtain ⟨A6, c6, rfl, _, _⟩ := own_slice hown4
                have HB6 := Lib.hid (below_append HB3.out hg4 HO3.out rfl)
                have HL6 : Hid ((L ++ [(⟨2, ⟨y0, y1, y2, y3, y4⟩⟩ : DiffV)]).length = p + 1) := Lib.hid (by rw [List.length_append, HP.out]; rfl)
                have HO6 := Lib.hid hown4
                clear hown4 hg4 hblk4
                go_roundw
                case rel => exact ⟨k + 1, p + 1, A6, c6, by omega, by go_num, rfl, by omega, Lib.hid (by rw [HL.out]; exact HL6.out), by rw [HL.out, diffs_append, diffs_one]; exact HO6.out, HB6.out⟩
                case measure => simp [intOf]; omega
        · obtain rfl : k = 999 := by omega
          have HE : Hid (coll (diffAt told seen) 999 = diffsB told seen) := Lib.hid HS.out.symm
          rw [HE.out] at HP hO
          go_wp2_with fail
          go_ret
          exact DifOut.mk HP.out hO hb
end Go.Proofs.Ytbhnlooellgfaaa
