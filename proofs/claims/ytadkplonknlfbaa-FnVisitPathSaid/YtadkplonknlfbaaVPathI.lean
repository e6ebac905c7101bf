/- The program's VisitPath returns the fewest events, in numbers of its own. -/
import Derived.Test.YtadkplonknlfbaaVPathW
import Derived.Test.YtadkplonknlfbaaVisit
namespace Go.Proofs.Ytadkplonknlfbaa
open Go Go.ChangeShapes Go.WideShapes Go.ChangeAt Go.RowKit
/-- a row of events of the call's own and whether there is a way; old memory as it was -/
def PathOut (s t : Int) (w : World) : Ending → World → Prop :=
  RTwo fun u v w' => w'.ownsRow w.heap.size 3 1 u ((vpath s t).getD []).length (ints ((vpath s t).getD [])) ∧ v = .bool (vpath s t).isSome ∧ Below w.heap.size w w'
theorem pathOut_none {s t : Int} {w w' : World} (h : vpath s t = none) (v : Value) (hv : w'.ownsRow w.heap.size 3 1 v 0 []) (hb : Below w.heap.size w w') : PathOut s t w (.returned (.tuple #[v, .bool false])) w' :=
  RTwo.mk ⟨by rw [h]; exact hv, by rw [h]; rfl, hb⟩
theorem pathOut_at {s t : Int} {w w' : World} {g mb : Nat} {a : Option Value} (h : PathAt w' w.heap.size g mb a (vpath s t)) (hb : Below w.heap.size w w') : PathOut s t w (.returned (.tuple #[a.getD (.slice none 0 0), .bool a.isSome])) w' := by
  have hs := h.isSome
  cases hv : vpath s t with
  | none =>
    rw [hv] at h hs
    cases a with
    | none => exact pathOut_none hv _ (World.ownsRow_nil _ _ _ _) hb
    | some v => exact h.elim
  | some p =>
    rw [hv] at h
    obtain ⟨v, rfl, hr, _⟩ := h.some
    exact RTwo.mk ⟨by rw [hv]; exact hr, by rw [hv]; rfl, hb⟩
set_option maxRecDepth 100000 in
set_option maxHeartbeats 4000000 in
theorem implVisitPath (s t : Int) (w : World) : Calls Try.prog 6 #[.int .i64 s, .int .i64 t] w (PathOut s t w) := by
  by_cases hs : 0 ≤ s ∧ s ≤ 4
  · by_cases ht : 0 ≤ t ∧ t ≤ 4
    · have hd1 : (decide (0 ≤ s) && decide (s ≤ 4)) = true := by simp; omega
      have hd2 : (decide (0 ≤ t) && decide (t ≤ 4)) = true := by simp; omega
      have HV : Hid (vpath s t = (bRun s 5).2.lookup t) := Lib.hid (by unfold vpath; rw [if_pos ⟨hs, ht⟩])
      have HS := Lib.hid hs
      have hwt := intWf (a := t) (by omega)
      have hws := intWf (a := s) (by omega)
      have hmm := @run_makeMap Try.prog
      go_enter Try.func6, Try.ntmps6
      go_wp2_with (first | (go_at_call 17; refine (isVisit_any _ _).mono ?_; rintro e w' ⟨rfl, rfl⟩) | (refine mapI_set _ rfl (.tmp 22) (.tmp 23) _ 39 (.inr rfl) 3 22 Try.underlying3 Try.underlying39 w.heap.size 0 (fun _ => none) rfl (mapI_made Try.prog 3 w) (by decide) s (.slice none 0 0) rfl rfl hws ?_; intro w1 hM1 hg1))
      go_loopw [7] (fun q w1 => ∃ (t : Nat) (g d cap : Nat), t ≤ 5 ∧ q = .slice (some ⟨g, d, none⟩) (bRun s t).1.length cap ∧ BfsW w w1 g d cap w.heap.size (bRun s t)) (fun q w1 => bMeas w.heap.size q w1)
      case atStart => exact ⟨0, _, 0, 1, by omega, rfl, bfs_start s w w1 hM1 hg1⟩
      case round =>
        obtain ⟨tt, g, d, cap, htt, rfl, HB⟩ := hrel
        cases hq : (bRun s tt).1 with
        | nil =>
          obtain ⟨_, _, hBl, f, hM, hP⟩ := HB
          have hdone := bfs_done HS.out htt hq
          rw [hdone] at hP
          have hPt := hP t
          rw [← HV.out] at hPt
          have HP := Lib.hid hPt
          have HBl := Lib.hid hBl
          clear hP hPt hdone
          go_wp2_with (at_lookup; refine mapI_look_ok _ rfl _ _ 39 rfl 3 22 Try.underlying3 Try.underlying39 (.slice none 0 0) (zeroInts _) w.heap.size _ f rfl hM t rfl hwt ?_)
          go_ret2
          exact pathOut_at HP.out HBl.out
        | cons x tl =>
          have HF : Hid (∀ k, k ≤ 5 → _) := Lib.hid (fun k hk => bfs_fact HS.out htt hk hq)
          have hf0 := HF.out 0 (by omega)
          have hlen : ((bRun s tt).1.length) = tl.length + 1 := by rw [hq]; rfl
          have HL := Lib.hid hlen
          have HQ := Lib.hid hq
          have hm0 := bMeas_eq HB (some ⟨g, d, none⟩) (tl.length + 1) cap
          have HB0 : Hid (BfsW w wr g d cap w.heap.size (bEvs x (bRun s tt) 0)) := Lib.hid HB
          clear hlen HB hq
          generalize hst : bRun s tt = st at *
          have HST := Lib.hid hst
          clear hst
          obtain ⟨h5, ⟨tl0, htl0, htl5⟩, _, _, hx0, hx4⟩ := hf0
          have hlb : st.1.length ≤ 6 := by rw [HL.out]; have := congrArg List.length htl0; simp [bEvs] at this; rw [HL.out] at this; omega
          clear htl0
          go_wp2_with fail
          go_loopw [7, 8] (fun q e w1 => ∃ (k g d cap : Nat), k ≤ 5 ∧ e = .int .i64 k ∧ q = .slice (some ⟨g, d, none⟩) (bEvs x st k).1.length cap ∧ BfsW w w1 g d cap w.heap.size (bEvs x st k)) (fun _ e _ => 5 - (intOf e).toNat)
          case atStart => exact ⟨0, g, d, cap, by omega, rfl, by rw [← HQ.out]; rfl, HB0.out⟩
          case round =>
            obtain ⟨k, g, d, cap, hk, rfl, rfl, HB⟩ := hrel
            have hf := HF.out k hk
            obtain ⟨_, ⟨tlk, htlk, htlk5⟩, ⟨hm1, hm5⟩, ⟨p, hp, hp5⟩, _, _⟩ := hf
            have HBW := Lib.hid HB
            obtain ⟨hQ, hgm, hBl, f, hM, hP⟩ := HB
            have hblen := congrArg List.length htlk
            rw [List.length_cons] at hblen
            have HBL := Lib.hid hblen
            by_cases hk5 : k < 5
            · have hE : bEvs x st (k + 1) = bEv x (bEvs x st k) k := rfl
              have HE := Lib.hid hE
              clear hE
              have hsrc : wr.cell? ⟨g, d, none⟩ = some (.int .i64 x) := by
                have := hQ.2.2.2.1 0 (by rw [ints_len, hblen]; omega)
                rw [Nat.add_zero] at this
                rw [this, ints_at]
                simp [htlk]
              have hylo := vstep_lo x k
              have hwy := intWf (a := vstep x k) (by omega)
              have hwx := intWf (a := x) (by omega)
              have HTL := Lib.hid htlk
              generalize bEvs x st k = b at *
              have HEb : Hid (bEv x b k = if vstep x k < 0 ∨ (b.2.lookup (vstep x k)).isSome = true then b else (b.1 ++ [vstep x k], b.2 ++ [(vstep x k, (b.2.lookup x).getD [] ++ [(k : Int)])])) := Lib.hid rfl
              have hbl : b.1.length ≤ 6 := by omega
              clear htlk hm0 HB0 HF HBW
              have HPa := Lib.hid hP
              have hPy := hP (vstep x k)
              have hPx := hP x
              rw [hp] at hPx
              obtain ⟨vx, hfx, hox, _, _⟩ := hPx.some
              have hsy := hPy.isSome
              clear hP hPy hPx
              have HQU := Lib.hid hQ
              have hglt := hQ.1
              have hmlt := hM.lt
              clear hQ
              by_cases hy0 : vstep x k < 0
              · have hbe : bEv x b k = b := by rw [HEb.out, if_pos (.inl hy0)]
                have HBE := Lib.hid hbe
                clear hbe
                go_wp2_with (first | (go_at_call 18; refine (implVisitStep _ _ _).mono ?_; rintro e w' ⟨rfl, rfl⟩) | (at_lookup; refine mapI_look_ok _ rfl _ _ 39 rfl 3 22 Try.underlying3 Try.underlying39 (.slice none 0 0) (zeroInts _) w.heap.size _ f rfl hM (vstep x k) rfl hwy ?_))
                refine ⟨?_, ?measure⟩
                repeat apply Exists.intro
                refine ⟨?rel, rfl⟩
                case rel => exact ⟨k + 1, g, d, cap, by omega, by go_num, by rw [HE.out, HBE.out, HBL.out], by rw [HE.out, HBE.out]; exact ⟨HQU.out, hgm, hBl, f, hM, HPa.out⟩⟩
                case measure => simp [intOf]; omega
              · have hfin : (f (vstep x k)).isSome = (b.2.lookup (vstep x k)).isSome := hsy
                have HSY := Lib.hid hsy
                clear hsy hfin
                cases hfy : (f (vstep x k)).isSome
                · have hnew : (b.2.lookup (vstep x k)).isSome = false := by rw [← HSY.out, hfy]
                  have hbe : bEv x b k = (b.1 ++ [vstep x k], b.2 ++ [(vstep x k, p ++ [(k : Int)])]) := by
                    rw [HEb.out, if_neg (by rw [hnew]; simp; omega), hp]
                    rfl
                  have HBE := Lib.hid hbe
                  have HN := Lib.hid hnew
                  clear hbe hnew
                  go_wp2_with (first | (go_at_call 18; refine (implVisitStep _ _ _).mono ?_; rintro e w' ⟨rfl, rfl⟩) | (at_lookup; refine mapI_look_ok _ rfl _ _ 39 rfl 3 22 Try.underlying3 Try.underlying39 (.slice none 0 0) (zeroInts _) w.heap.size _ f rfl hM (vstep x k) rfl hwy ?_) | (at_lookup; refine mapI_look _ rfl _ _ 39 rfl 3 22 Try.underlying3 Try.underlying39 (.slice none 0 0) (zeroInts _) w.heap.size _ f rfl hM x rfl hwx ?_; simp only [hfx, Option.getD_some]))
                  refine (clone_own _ _ vx p _ hox (by omega)).mono ?_
                  rintro e w1 ⟨v1, rfl, ho1, hb1⟩
                  have hbs1 := hb1.size
                  have HB1 := Lib.hid hb1
                  have hm6 : b.2.length < maxLen := by unfold maxLen; omega
                  clear hb1
                  go_wp2_with (first | (at_builtin; refine append_new rfl (.tmp 59) (.tmp 61) 22 rfl 3 _ _ _ Try.underlying22 int_infoD _ w1 _ _ _ rfl ho1 [.int .i64 k] rfl rfl (by simp [Value.oneCell']) (by omega) hbs1 ?_; intro v2 w2 ho2 hg2 hblk2; have hb2 := below_append HB1.out hg2 ho1 rfl; have hM2 := hM.kept (grown_of_below hb2) (by simp)) | (refine mapI_set _ rfl (.tmp 52) (.tmp 53) (.tmp 62) 39 (.inl rfl) 3 22 Try.underlying3 Try.underlying39 w.heap.size _ f rfl hM2 hm6 (vstep x k) v2 rfl rfl hwy ?_; intro w3 hM3 hg3; have hq3 := (HQU.out.kept (grown_of_below hb2) (by simp)).kept hg3 (by simp; omega)) | (at_builtin; refine que_append rfl (.tmp 63) (.tmp 65) 22 rfl 3 _ _ Try.underlying22 int_infoD w3 g d cap (ints b.1) (.int .i64 (vstep x k)) (by rw [ints_len, HBL.out]; rfl) hq3 rfl rfl (by rw [ints_len]; omega) ?_; intro g' d' cap' w4 hq4 hg4 hgg))
                  refine ⟨?_, ?measure⟩
                  repeat apply Exists.intro
                  refine ⟨?rel, rfl⟩
                  case rel => exact ⟨k + 1, g', d', cap', by omega, by go_num, by rw [HE.out, HBE.out]; simp [ints_len, HBL.out], by rw [HE.out, HBE.out]; exact bfs_add hgm hBl hglt hmlt HPa.out HN.out hb2 ho2 (by rw [if_neg (by rw [hfy]; simp)]) hM3 hg3 hq4 hg4 hgg⟩
                  case measure => simp [intOf]; omega
                · have hbe : bEv x b k = b := by rw [HEb.out, if_pos (.inr (by rw [← HSY.out, hfy]))]
                  have HBE := Lib.hid hbe
                  clear hbe
                  go_wp2_with (first | (go_at_call 18; refine (implVisitStep _ _ _).mono ?_; rintro e w' ⟨rfl, rfl⟩) | (at_lookup; refine mapI_look_ok _ rfl _ _ 39 rfl 3 22 Try.underlying3 Try.underlying39 (.slice none 0 0) (zeroInts _) w.heap.size _ f rfl hM (vstep x k) rfl hwy ?_))
                  refine ⟨?_, ?measure⟩
                  repeat apply Exists.intro
                  refine ⟨?rel, rfl⟩
                  case rel => exact ⟨k + 1, g, d, cap, by omega, by go_num, by rw [HE.out, HBE.out, HBL.out], by rw [HE.out, HBE.out]; exact ⟨HQU.out, hgm, hBl, f, hM, HPa.out⟩⟩
                  case measure => simp [intOf]; omega
            · obtain rfl : k = 5 := by omega
              have hE : bRun s (tt + 1) = ((bEvs x st 5).1.tail, (bEvs x st 5).2) := by
                show bPop (bRun s tt) = _
                rw [HST.out]
                unfold bPop
                rw [HQ.out]
              have HE := Lib.hid hE
              have hlen := bEvs_len x st 5
              clear hE HF hp
              rw [hblen, HL.out] at hlen
              have hm1' := hm1
              have HTL := Lib.hid htlk
              have HQU := Lib.hid hQ
              have HP := Lib.hid hP
              clear hQ hP htlk
              have hl : (bRun s (tt + 1)).1 = tlk := by
                rw [HE.out]
                show (bEvs x st 5).1.tail = tlk
                rw [HTL.out]
                rfl
              have hMe := Lib.hid hM
              have HLT := Lib.hid hl
              have hxl : (x :: tl).length = tl.length + 1 := rfl
              have HXL := Lib.hid hxl
              clear hM hl hxl
              by_cases hc1 : cap = 1
              · subst hc1
                go_wp2
                have hq1 := HQU.out.2.1
                rw [ints_len] at hq1
                obtain rfl : tlk = [] := List.eq_nil_of_length_eq_zero (by omega)
                refine ⟨⟨tt + 1, g, d, 0, by omega, by rw [HLT.out], ?_, hgm, hBl, f, by rw [HE.out]; exact hMe.out, by rw [HE.out]; exact HP.out⟩, ?_⟩
                · rw [HLT.out]
                  exact ⟨HQU.out.1, by simp [ints], by simp [maxLen], fun j hj => by simp [ints] at hj, fun j _ hj => by omega⟩
                · rw [bMeas_eq HBW.out, HXL.out, hm0]
                  omega
              · go_wp2
                refine ⟨⟨tt + 1, g, d + 1, cap - 1, by omega, by rw [HLT.out], ?_, hgm, hBl, f, by rw [HE.out]; exact hMe.out, by rw [HE.out]; exact HP.out⟩, ?_⟩
                · rw [HLT.out]
                  have := HQU.out
                  rw [HTL.out] at this
                  exact Que.tail (x := .int .i64 x) this
                · rw [bMeas_eq HBW.out, HXL.out, hm0]
                  omega
    · have hd1 : (decide (0 ≤ s) && decide (s ≤ 4)) = true := by simp; omega
      have hd2 : (decide (0 ≤ t) && decide (t ≤ 4)) = false := by simp; omega
      have hv : vpath s t = none := by unfold vpath; rw [if_neg (fun h => ht h.2)]
      go_enter Try.func6, Try.ntmps6
      go_wp2_with (first | (go_at_call 17; refine (isVisit_any _ _).mono ?_; rintro e w' ⟨rfl, rfl⟩))
      go_ret2
      exact pathOut_none hv _ (World.ownsRow_nil _ _ _ _) (Below.refl _ _)
  · have hd1 : (decide (0 ≤ s) && decide (s ≤ 4)) = false := by simp; omega
    have hv : vpath s t = none := by unfold vpath; rw [if_neg (fun h => hs h.1)]
    go_enter Try.func6, Try.ntmps6
    go_wp2_with (first | (go_at_call 17; refine (isVisit_any _ _).mono ?_; rintro e w' ⟨rfl, rfl⟩))
    go_ret2
    exact pathOut_none hv _ (World.ownsRow_nil _ _ _ _) (Below.refl _ _)
end Go.Proofs.Ytadkplonknlfbaa
