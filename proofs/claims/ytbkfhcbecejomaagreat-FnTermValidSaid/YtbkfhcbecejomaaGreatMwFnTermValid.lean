/- FnTermValid returns true, for every code; no condition. -/
import Derived.Test.YtbkfhcbecejomaaGreatMg25
import Derived.Test.YtbkfhcbecejomaaGreatMg17
import Derived.Test.YtbkfhcbecejomaaGreatMg12
import Derived.Test.YtbkfhcbecejomaaGreatMg18
import Derived.Test.YtbkfhcbecejomaaGreatMg5
import Derived.Deep.QuietTactic
import Derived.BigQuiet
namespace Go.Proofs.YtbkfhcbecejomaaGreat
open Go Go.ChangeShapes Go.WideShapes Go.ChangeAt Go.RowKit
set_option linter.unusedVariables false
set_option linter.unusedSimpArgs false
set_option maxRecDepth 100000 in
set_option maxHeartbeats 8000000 in
theorem walkFnTermValid (w : World) (A : Option Addr) (n c : Nat) (cs : List Int) (h : Code w A n c cs) :
    Calls Tryz.prog 3 #[.slice A n c] w fun e w' => e = .returned (.bool true) ∧ Below w.heap.size w w' := by
  have hmx := h.max
  by_cases hn : n ≤ 1048576
  · go_enter Tryz.func3, Tryz.ntmps3
    go_wp2_with fail
    refine (drawTermValid_any A n c cs _ h).mono ?_
    rintro e w1 ⟨_, rfl, high, y0, y1, y2, YB, yn, yd, BB, bn, bd, PB, pn, pd, HB, hn, hd, LB, ln, ld, rows, bs, plan, hs, ls, rfl, hT, hbd, b1⟩
    have hal : Below w1.heap.size w1 (w1.alloc (.cells #[.int .i64 high, .slice YB yn yd, .int .i64 y0, .int .i64 y1, .int .i64 y2, .slice BB bn bd, .slice PB pn pd, .slice HB hn hd, .slice LB ln ld] 34)) := (Below.refl _ _).alloc (Nat.le_refl _) _
    have hP : Blk (w1.alloc (.cells #[.int .i64 high, .slice YB yn yd, .int .i64 y0, .int .i64 y1, .int .i64 y2, .slice BB bn bd, .slice PB pn pd, .slice HB hn hd, .slice LB ln ld] 34)) w1.heap.size 34 [.int .i64 high, .slice YB yn yd, .int .i64 y0, .int .i64 y1, .int .i64 y2, .slice BB bn bd, .slice PB pn pd, .slice HB hn hd, .slice LB ln ld] := Blk.new _ _ _
    have T2 := Lib.hid (hT.below hal)
    have B2 := Lib.hid (below_trans b1 hal)
    have P2 := Lib.hid hP
    have BD := Lib.hid hbd
    clear hT b1 hal hP h hbd
    have x0 := (P2.out).cellAt 0 (by simp)
    have x1 := (P2.out).cellAt 1 (by simp)
    have x2 := (P2.out).cellAt 2 (by simp)
    have x3 := (P2.out).cellAt 3 (by simp)
    have x4 := (P2.out).cellAt 4 (by simp)
    have x5 := (P2.out).cellAt 5 (by simp)
    have x6 := (P2.out).cellAt 6 (by simp)
    have x7 := (P2.out).cellAt 7 (by simp)
    have x8 := (P2.out).cellAt 8 (by simp)
    simp only [List.getElem_cons_zero, List.getElem_cons_succ] at x0 x1 x2 x3 x4 x5 x6 x7 x8
    go_wp2_with fail
    generalize w1.alloc (.cells #[.int .i64 high, .slice YB yn yd, .int .i64 y0, .int .i64 y1, .int .i64 y2, .slice BB bn bd, .slice PB pn pd, .slice HB hn hd, .slice LB ln ld] 34) = w2 at *
    generalize w1.heap.size = tb at *
    have hI := implTermValid high ⟨y0, y1, y2⟩ YB BB PB HB LB yn yd bn bd pn pd hn hd ln ld rows bs plan hs ls w2 T2.out
    dsimp only at hI
    refine hI.mono ?_
    rintro e w3 ⟨rfl, b3⟩
    have T3 := Lib.hid (T2.out.below b3)
    have P3 := Lib.hid (P2.out.later b3)
    have B3 := Lib.hid (below_trans B2.out b3)
    clear T2 P2 B2 b3 hI x0 x1 x2 x3 x4 x5 x6 x7 x8
    have x0 := (P3.out).cellAt 0 (by simp)
    have x1 := (P3.out).cellAt 1 (by simp)
    have x2 := (P3.out).cellAt 2 (by simp)
    have x3 := (P3.out).cellAt 3 (by simp)
    have x4 := (P3.out).cellAt 4 (by simp)
    have x5 := (P3.out).cellAt 5 (by simp)
    have x6 := (P3.out).cellAt 6 (by simp)
    have x7 := (P3.out).cellAt 7 (by simp)
    have x8 := (P3.out).cellAt 8 (by simp)
    simp only [List.getElem_cons_zero, List.getElem_cons_succ] at x0 x1 x2 x3 x4 x5 x6 x7 x8
    go_wp2_with fail
    have hI := specTermValid high ⟨y0, y1, y2⟩ YB BB PB HB LB yn yd bn bd pn pd hn hd ln ld rows bs plan hs ls w3 T3.out
    dsimp only at hI
    refine hI.mono ?_
    rintro e w4 ⟨rfl, b4⟩
    have T4 := Lib.hid (T3.out.below b4)
    have P4 := Lib.hid (P3.out.later b4)
    have B4 := Lib.hid (below_trans B3.out b4)
    clear T3 P3 B3 b4 hI x0 x1 x2 x3 x4 x5 x6 x7 x8
    cases ht : termOk high rows ⟨y0, y1, y2⟩ bs plan ⟨hs, ls⟩ with
    | false =>
      clear ht T4 P4 BD
      go_wp2_with fail
      have hI := implTermValid 0 ⟨0, 0, 0⟩ none none none none none 0 0 0 0 0 0 0 0 0 0 [] [] [] [] [] w4 (trm_zero w4)
      rw [termOk_zero] at hI
      dsimp only at hI
      refine hI.mono ?_
      rintro e w5 ⟨rfl, b5⟩
      have B5 := Lib.hid (below_trans B4.out b5)
      clear B4 b5 hI
      go_wp2_with fail
      refine (alive_any w5).mono ?_
      rintro e w6 ⟨rfl, rfl⟩
      go_wp2_with fail
      go_ret
      exact ⟨rfl, B5.out⟩
    | true =>
      have HID := Lib.hid (term_ids ht)
      obtain ⟨_, hpo, hne, _, hld⟩ := term_parts ht
      have HPO := Lib.hid hpo
      have HNE := Lib.hid hne
      have HLD := Lib.hid hld
      clear ht hpo hne hld
      have x0 := (P4.out).cellAt 0 (by simp)
      have x1 := (P4.out).cellAt 1 (by simp)
      have x2 := (P4.out).cellAt 2 (by simp)
      have x3 := (P4.out).cellAt 3 (by simp)
      have x4 := (P4.out).cellAt 4 (by simp)
      have x5 := (P4.out).cellAt 5 (by simp)
      have x6 := (P4.out).cellAt 6 (by simp)
      have x7 := (P4.out).cellAt 7 (by simp)
      have x8 := (P4.out).cellAt 8 (by simp)
      simp only [List.getElem_cons_zero, List.getElem_cons_succ] at x0 x1 x2 x3 x4 x5 x6 x7 x8
      have t1 := BD.out.ym
      have t2 := BD.out.pm
      have t3 := BD.out.lm
      have t4 := BD.out.bm
      go_wp2_with fail
      refine (implYardIds high YB yn yd rows w4 T4.out.yl T4.out.yr (by omega)).mono ?_
      rintro e w5 ⟨_, rfl, IB, id, rfl, hown, b5⟩
      have T5 := Lib.hid (T4.out.below b5)
      have P5 := Lib.hid (P4.out.later b5)
      have B5 := Lib.hid (below_trans B4.out b5)
      have HO := Lib.hid hown
      generalize idsA high rows = ids at *
      have him : ids.length ≤ 9223372036854775807 := by have := (slice_cap hown).1; have := (slice_cap hown).2; unfold maxLen at this; omega
      clear T4 P4 B4 b5 hown x0 x1 x2 x3 x4 x5 x6 x7 x8
      go_wp2_with fail
      go_loopw [6] (fun s6 wr => ∃ k : Nat, s6 = .int .i64 k ∧ k ≤ ids.length ∧ Below w5.heap.size w5 wr) (fun s6 _ => ids.length - (intOf s6).toNat)
      case atStart => exact ⟨0, rfl, Nat.zero_le _, Below.refl _ _⟩
      case round =>
        obtain ⟨k, rfl, hk, hbl⟩ := hrel
        by_cases hlt : k < ids.length
        · have hki : (k : Int) < (ids.length : Int) := by omega
          have T6 := T5.out.below hbl
          have P6 := P5.out.later hbl
          obtain ⟨ib, io, rfl, hl1, hc1⟩ := ints_cellP ((own_rd HO.out).below hbl) hlt
          have hc := hc1 k hlt
          obtain ⟨hf1, hf2⟩ := HID.out _ (List.getElem_mem hlt)
          have h1 : ∀ q0 : Nat, Calls Tryz.prog 10 #[.slice PB pn pd, .int .i64 ids[k]] (wr.drewN q0) fun r w' => r = .returned (.bool (hasI plan ids[k])) ∧ w' = wr.drewN q0 := fun q0 => (hasInt_same PB pn pd plan ids[k] (wr.drewN q0) T6.pl T6.pr (by omega)).mono (fun _ _ h => ⟨h.1, h.2.symm⟩)
          have h2 : ∀ q0 : Nat, Calls Tryz.prog 10 #[.slice LB ln ld, .int .i64 ids[k]] (wr.drewN q0) fun r w' => r = .returned (.bool (hasI ls ids[k])) ∧ w' = wr.drewN q0 := fun q0 => (hasInt_same LB ln ld ls ids[k] (wr.drewN q0) T6.ll T6.lr (by omega)).mono (fun _ _ h => ⟨h.1, h.2.symm⟩)
          rw [hf1] at h1
          rw [hf2] at h2
          generalize ids[k] = z at *
          have HBL := Lib.hid hbl
          clear hc1 hf1 hf2 T6 hbl
          have x0 := (P6).cellAt 0 (by simp)
          have x1 := (P6).cellAt 1 (by simp)
          have x2 := (P6).cellAt 2 (by simp)
          have x3 := (P6).cellAt 3 (by simp)
          have x4 := (P6).cellAt 4 (by simp)
          have x5 := (P6).cellAt 5 (by simp)
          have x6 := (P6).cellAt 6 (by simp)
          have x7 := (P6).cellAt 7 (by simp)
          have x8 := (P6).cellAt 8 (by simp)
          simp only [List.getElem_cons_zero, List.getElem_cons_succ] at x0 x1 x2 x3 x4 x5 x6 x7 x8
          clear P6
          go_wp2_with fail
          go_quiet ((go_at_call 10; first | (with_reducible exact Calls.quiet_of_same (h1 _)) | (with_reducible exact Calls.quiet_of_same (h2 _))))
          go_wp2_with fail
          go_roundw
          case rel => exact ⟨k + 1, by go_num, by omega, below_drewN HBL.out _⟩
          case measure => simp [intOf]; omega
        · obtain rfl : k = ids.length := by omega
          have T6 := Lib.hid (T5.out.below hbl)
          have P6 := Lib.hid (P5.out.later hbl)
          have B6 := Lib.hid (below_trans B5.out hbl)
          clear T5 P5 B5 hbl HID HO
          go_wp2_with fail
          clear hk hlt
          obtain ⟨wo, rfl⟩ : ∃ wo : World, wo = wr := ⟨_, rfl⟩
          go_loopw [7] (fun s7 wi => ∃ k : Nat, s7 = .int .i64 k ∧ k ≤ pn ∧ Below wo.heap.size wo wi) (fun s7 _ => pn - (intOf s7).toNat)
          case atStart => exact ⟨0, rfl, Nat.zero_le _, Below.refl _ _⟩
          case round =>
            obtain ⟨k, rfl, hk, hbl⟩ := hrel
            have T7 := T6.out.below hbl
            have P7 := P6.out.later hbl
            have x0 := (P7).cellAt 0 (by simp)
            have x1 := (P7).cellAt 1 (by simp)
            have x2 := (P7).cellAt 2 (by simp)
            have x3 := (P7).cellAt 3 (by simp)
            have x4 := (P7).cellAt 4 (by simp)
            have x5 := (P7).cellAt 5 (by simp)
            have x6 := (P7).cellAt 6 (by simp)
            have x7 := (P7).cellAt 7 (by simp)
            have x8 := (P7).cellAt 8 (by simp)
            simp only [List.getElem_cons_zero, List.getElem_cons_succ] at x0 x1 x2 x3 x4 x5 x6 x7 x8
            by_cases hlt : k < pn
            · have hki : (k : Int) < (pn : Int) := by omega
              have hkp : k < plan.length := by rw [T7.pl]; exact hlt
              obtain ⟨ib, io, rfl, hl1, hc1⟩ := ints_cellP T7.pr hkp
              have hc := hc1 k hkp
              have hf := HLD.out _ (List.getElem_mem hkp)
              have h1 : ∀ q0 : Nat, Calls Tryz.prog 10 #[.slice LB ln ld, .int .i64 plan[k]] (wr.drewN q0) fun r w' => r = .returned (.bool (hasI ls plan[k])) ∧ w' = wr.drewN q0 := fun q0 => (hasInt_same LB ln ld ls plan[k] (wr.drewN q0) T7.ll T7.lr (by omega)).mono (fun _ _ h => ⟨h.1, h.2.symm⟩)
              rw [hf] at h1
              generalize plan[k] = z at *
              have HBL := Lib.hid hbl
              clear hc1 hf T7 hbl P7 hkp
              by_cases hz : 0 < z
              · have hz1 : decide (0 < z) = true := decide_eq_true hz
                have hz2 : decide (z > 0) = true := decide_eq_true hz
                go_wp2_with fail
                go_quiet ((go_at_call 10; (with_reducible exact Calls.quiet_of_same (h1 _))))
                go_wp2_with fail
                go_roundw
                case rel => exact ⟨k + 1, by go_num, by omega, below_drewN HBL.out _⟩
                case measure => simp [intOf]; omega
              · have hz1 : decide (0 < z) = false := decide_eq_false hz
                have hz2 : decide (z > 0) = false := decide_eq_false hz
                go_wp2_with fail
                go_quiet ((go_at_call 10; (with_reducible exact Calls.quiet_of_same (h1 _))))
                go_wp2_with fail
                go_roundw
                case rel => exact ⟨k + 1, by go_num, by omega, below_drewN HBL.out _⟩
                case measure => simp [intOf]; omega
            · obtain rfl : pn = k := by omega
              have T8 := Lib.hid T7
              have P8 := Lib.hid P7
              have B8 := Lib.hid (below_trans B6.out hbl)
              clear T7 P7 hbl T6 P6 B6
              go_wp2_with fail
              have hI := implTooNear ⟨y0, y1, y2⟩ BB PB bn bd pn pd bs plan wr T8.out.bl T8.out.br T8.out.bk (by omega) T8.out.pl T8.out.pr T8.out.pk T8.out.px
              rw [HNE.out] at hI
              dsimp only at hI
              refine hI.mono ?_
              rintro e w9 ⟨_, rfl, NB, nd, rfl, b9⟩
              have T9 := Lib.hid (T8.out.below b9)
              have P9 := P8.out.later b9
              have B9 := Lib.hid (below_trans B8.out b9)
              clear T8 P8 B8 b9 hI x0 x1 x2 x3 x4 x5 x6 x7 x8
              have x0 := (P9).cellAt 0 (by simp)
              have x1 := (P9).cellAt 1 (by simp)
              have x2 := (P9).cellAt 2 (by simp)
              have x3 := (P9).cellAt 3 (by simp)
              have x4 := (P9).cellAt 4 (by simp)
              have x5 := (P9).cellAt 5 (by simp)
              have x6 := (P9).cellAt 6 (by simp)
              have x7 := (P9).cellAt 7 (by simp)
              have x8 := (P9).cellAt 8 (by simp)
              simp only [List.getElem_cons_zero, List.getElem_cons_succ] at x0 x1 x2 x3 x4 x5 x6 x7 x8
              clear P9
              go_wp2_with fail
              have hI := implPlanValid ⟨y0, y1, y2⟩ BB PB bn bd pn pd bs plan w9 T9.out.bl T9.out.br T9.out.bk (by omega) T9.out.pl T9.out.pr T9.out.pk T9.out.px
              rw [HPO.out] at hI
              dsimp only at hI
              refine hI.mono ?_
              rintro e wf ⟨rfl, bf⟩
              have BF := Lib.hid (below_trans B9.out bf)
              clear bf hI
              go_wp2_with fail
              go_ret
              exact ⟨rfl, BF.out⟩
  · go_enter Tryz.func3, Tryz.ntmps3
    go_wp2_with fail
    go_ret
    exact ⟨rfl, Below.refl _ _⟩
end Go.Proofs.YtbkfhcbecejomaaGreat
