/- FnSortBoxes returns true, for every code; no condition. -/
import Derived.Test.YtbhnlooellgfaaaSameBx
import Derived.Test.YtbhnlooellgfaaaDrawSB
import Derived.Test.YtbhnlooellgfaaaBxW
import Derived.Test.YtbhnlooellgfaaaAlive
namespace Go.Proofs.Ytbhnlooellgfaaa
open Go Go.ChangeShapes Go.WideShapes Go.ChangeAt Go.RowKit
set_option linter.unusedVariables false
set_option linter.unusedSimpArgs false
theorem sort_found {zs : List BoxV} (h : boxesOk zs = true) {k : Nat} (hk : k < (collB zs).length) : ∃ (i : Nat) (hi : i < zs.length), findF zs ((collB zs)[k]).f0 = some i ∧ zs[i] = (collB zs)[k] := by
  have hm := (collB_mem h).1 (List.getElem_mem hk)
  have hf := (find_mem (boxesOk_iff.1 h).2.1).2 ⟨hm, rfl⟩
  cases hi : findF zs ((collB zs)[k]).f0 with
  | none => rw [findF_find.1 hi] at hf; cases hf
  | some i =>
    obtain ⟨h1, _, h3⟩ := findF_some hi
    rw [h3] at hf
    injection hf with hf
    exact ⟨i, h1, rfl, hf⟩
theorem sort_asc {zs : List BoxV} {k : Nat} (hk : k < (collB zs).length) (h0 : 0 < k) : ((collB zs)[k - 1]).f0 < ((collB zs)[k]).f0 := List.pairwise_iff_getElem.1 (collB_asc zs) (k - 1) k (by omega) hk (by omega)
set_option maxRecDepth 100000 in
set_option maxHeartbeats 8000000 in
theorem walkFnSortBoxes (w : World) (A : Option Addr) (n c : Nat) (bs : List Int) (h : Code w A n c bs) :
    Calls Try.prog 5 #[.slice A n c] w fun e w' => e = .returned (.bool true) ∧ Below w.heap.size w w' := by
  by_cases hn : (n : Int) ≤ 1048576
  · go_enter Try.func5, Try.ntmps5
    go_wp2_with fail
    refine (drawSortBoxes_any A n c bs w h).mono ?_
    rintro e w1 ⟨_, rfl, A1, p, c1, zs, rfl, hr, hlz, hpc, hp, hb1⟩
    have HL := Lib.hid hlz
    clear h
    go_wp2_with fail
    refine (implSortBoxes A1 p c1 zs _ hlz hr hpc (by omega)).mono ?_
    rintro e w2 ⟨_, rfl, A2, m, c2, rfl, hml, ho2, hb2⟩
    have HM := Lib.hid hml
    have HB2 := Lib.hid (below_trans hb1 hb2)
    have hr2 := hr.below hb2
    have hm10 : m ≤ 10 := by rw [← hml]; exact sortB_len zs
    clear hb1 hb2 hr hml
    go_wp2_with fail
    refine (specSortBoxes A1 p c1 zs _ hlz hr2 (by omega)).mono ?_
    rintro e w3 ⟨_, rfl, A3, m3, c3, rfl, hml3, ho3, hb3⟩
    obtain rfl : m = m3 := HM.out.symm.trans hml3
    have HB3 := Lib.hid (below_trans HB2.out hb3)
    have hr3 := hr2.below hb3
    have ho23 := own_later ho2 hb3
    clear hb3 hr2 ho2 HB2 hml3
    go_wp2_with fail
    refine (sameBoxes_same A2 A3 (sortB zs) m c2 c3 HM.out _ (own_rd ho23) (own_rd ho3) (by omega)).mono ?_
    rintro e w4 ⟨rfl, hb4⟩
    have HB4 := Lib.hid (below_trans HB3.out hb4)
    have hr4 := hr3.below hb4
    have ho4 := own_later ho23 hb4
    clear hb4 hr3 ho23 ho3 HB3
    go_wp2_with fail
    refine (specBoxesValid A1 p c1 zs _ hlz hr4 (by omega)).mono ?_
    rintro e w5 ⟨rfl, hb5⟩
    have HB5 := Lib.hid (below_trans HB4.out hb5)
    have HR := Lib.hid (hr4.below hb5)
    have ho5 := own_later ho4 hb5
    have HX := Lib.hid (own_rd ho5)
    obtain ⟨_, _, ecap, hmc, _⟩ := own_slice ho5
    injection ecap with ec1 _ ec3
    subst ec1 ec3
    clear hb5 hr4 ho4 HB4 ho5
    cases hok : boxesOk zs with
    | false =>
      have hm0 : m = 0 := by rw [← HM.out]; unfold sortB; rw [hok]; rfl
      subst hm0
      clear hok
      go_wp2_with (go_at_call 24; refine (alive_any _).mono ?_; rintro e w6 ⟨rfl, rfl⟩)
      go_ret
      exact ⟨rfl, HB5.out⟩
    | true =>
      have HOK := Lib.hid hok
      have HSO : Hid (sortB zs = collB zs) := Lib.hid (by unfold sortB; rw [hok]; rfl)
      have HMP : Hid (m = p) := Lib.hid (by rw [← HM.out, HSO.out, collB_len hok]; exact hlz)
      rw [HSO.out] at HX HM
      clear hok
      go_wp2_with fail
      go_loopw [5, 6] (fun i _ wr => ∃ k : Nat, k ≤ m ∧ i = .int .i64 k ∧ Below w5.heap.size w5 wr) (fun i _ _ => m - (intOf i).toNat)
      case atStart => exact ⟨0, Nat.zero_le _, rfl, Below.refl _ _⟩
      case round =>
        obtain ⟨k, hk, rfl, hb⟩ := hrel
        by_cases hlt : k < m
        · have hkx : k < (collB zs).length := by rw [HM.out]; exact hlt
          obtain ⟨i, hi, hfi, hze⟩ := sort_found HOK.out hkx
          have hip : (i : Int) < (p : Int) := by rw [HL.out] at hi; omega
          have hki : (k : Int) < (m : Int) := by omega
          obtain ⟨b2, o2, rfl, hl2, d0, d1, d2, d3, d4⟩ := (HX.out.below hb).boxAt hkx
          have hF := findBox_any A1 p c1 zs ((collB zs)[k]).f0 wr HL.out (HR.out.below hb) hpc (by omega)
          rw [HOK.out, hfi] at hF
          change Calls _ _ _ _ (fun e w' => e = .returned (.int .i64 (i : Int)) ∧ _) at hF
          have HPV : Hid (∀ (hk0 : 0 < k), ∃ z : BoxV, z.f0 < ((collB zs)[k]).f0 ∧ ∀ W, Below wr.heap.size wr W → W.cell? ⟨b2, o2 + (k - 1) * 5, none⟩ = some (.int .i64 z.f0)) := Lib.hid (fun hk0 => by
            obtain ⟨b', o', e', hl', q0, _⟩ := (HX.out.below hb).boxAt (show k - 1 < (collB zs).length by omega)
            injection e' with e'
            injection e' with e1 e2
            subst e1 e2
            exact ⟨_, sort_asc hkx hk0, fun W hW => (hW.cell (p := ⟨b2, o2 + (k - 1) * 5, none⟩) hl').trans q0⟩)
          have hnq := neq_box (zs[i]) ((collB zs)[k]) true (decide_eq_true hze)
          obtain ⟨b1, o1, rfl, hl1, a0, a1, a2, a3, a4⟩ := (HR.out.below hb).boxAt hi
          rw [hze] at a0 a1 a2 a3 a4 hnq
          clear hfi hze
          generalize (collB zs)[k] = y at *
          obtain ⟨y0, y1, y2, y3, y4⟩ := y
          dsimp only at d0 d1 d2 d3 d4 a0 a1 a2 a3 a4 hnq hF HPV
          go_wp2_with fail
          refine hF.mono ?_
          rintro e w6 ⟨rfl, hb6⟩
          have HB6 := Lib.hid (below_trans hb hb6)
          have p0 := fun (q : BelW w6) => ((below_trans hb6 q.ok).cell (p := ⟨b2, o2 + k * 5, none⟩) hl2).trans d0
          have p1 := fun (q : BelW w6) => ((below_trans hb6 q.ok).cell (p := ⟨b2, o2 + k * 5 + 1, none⟩) hl2).trans d1
          have p2 := fun (q : BelW w6) => ((below_trans hb6 q.ok).cell (p := ⟨b2, o2 + k * 5 + 2, none⟩) hl2).trans d2
          have p3 := fun (q : BelW w6) => ((below_trans hb6 q.ok).cell (p := ⟨b2, o2 + k * 5 + 3, none⟩) hl2).trans d3
          have p4 := fun (q : BelW w6) => ((below_trans hb6 q.ok).cell (p := ⟨b2, o2 + k * 5 + 4, none⟩) hl2).trans d4
          have r0 := fun (q : BelW w6) => ((below_trans hb6 q.ok).cell (p := ⟨b1, o1 + i * 5, none⟩) hl1).trans a0
          have r1 := fun (q : BelW w6) => ((below_trans hb6 q.ok).cell (p := ⟨b1, o1 + i * 5 + 1, none⟩) hl1).trans a1
          have r2 := fun (q : BelW w6) => ((below_trans hb6 q.ok).cell (p := ⟨b1, o1 + i * 5 + 2, none⟩) hl1).trans a2
          have r3 := fun (q : BelW w6) => ((below_trans hb6 q.ok).cell (p := ⟨b1, o1 + i * 5 + 3, none⟩) hl1).trans a3
          have r4 := fun (q : BelW w6) => ((below_trans hb6 q.ok).cell (p := ⟨b1, o1 + i * 5 + 4, none⟩) hl1).trans a4
          have hd8 : decide ((i : Int) < 0) = false := decide_eq_false (by omega)
          have hd9 : decide (p ≤ i) = false := decide_eq_false (by omega)
          by_cases hk0 : 0 < k
          · obtain ⟨z, hz, hzc⟩ := HPV.out hk0
            have v0 := fun (q : BelW w6) => hzc q.W (below_trans hb6 q.ok)
            obtain ⟨z0, z1, z2, z3, z4⟩ := z
            dsimp only at hz v0
            have hd0 : decide (0 < k) = true := decide_eq_true (by omega)
            have hd1 : decide (y0 ≤ z0) = false := decide_eq_false (by omega)
            have ek : IntKind.i64.wrap ((k : Int) - 1) = ((k - 1 : Nat) : Int) := by rw [IntWalk.i64_in _ (by omega)]; omega
            have ek1 : (0 : Int) ≤ ((k - 1 : Nat) : Int) := by omega
            have ek2 : ((k - 1 : Nat) : Int) < (m : Int) := by omega
            clear hF hb hb6 d0 d1 d2 d3 d4 a0 a1 a2 a3 a4 hzc
            go_wp2_with fail
            refine wp_region_below (by kernel_rfl) (by kernel_rfl) ?_
            repeat (go_big_quiet_step (fail))
            refine wpQuiet_nil ?_
            intro _ hw'
            obtain ⟨⟨wq, hbq⟩, hw''⟩ := hw'
            subst hw''
            go_wp2_with fail
            go_roundw
            case rel => exact ⟨k + 1, by omega, by go_num, below_trans HB6.out hbq⟩
            case measure => simp [intOf]; omega
          · have hd0 : decide (0 < k) = false := decide_eq_false (by omega)
            clear hF hb hb6 d0 d1 d2 d3 d4 a0 a1 a2 a3 a4
            go_wp2_with fail
            refine wp_region_below (by kernel_rfl) (by kernel_rfl) ?_
            repeat (go_big_quiet_step (fail))
            refine wpQuiet_nil ?_
            intro _ hw'
            obtain ⟨⟨wq, hbq⟩, hw''⟩ := hw'
            subst hw''
            go_wp2_with fail
            go_roundw
            case rel => exact ⟨k + 1, by omega, by go_num, below_trans HB6.out hbq⟩
            case measure => simp [intOf]; omega
        · obtain rfl : k = m := by omega
          have HBL := Lib.hid (below_trans HB5.out hb)
          have hS := implSortBoxes A2 k c2 (collB zs) wr HM.out (HX.out.below hb) hmc (by omega)
          have HSS : Hid (sortB (collB zs) = collB zs) := Lib.hid (by unfold sortB; rw [if_pos (collB_ok HOK.out), collB_idem HOK.out])
          rw [HSS.out] at hS
          have HXW := Lib.hid (HX.out.below hb)
          have hkp : ((k : Int) == (p : Int)) = true := by simp [HMP.out]
          clear hb
          go_wp2_with fail
          refine hS.mono ?_
          rintro e w6 ⟨_, rfl, A6, m6, c6, rfl, hml6, ho6, hb6⟩
          obtain rfl : k = m6 := HM.out.symm.trans hml6
          have hc := sameBoxes_same A6 A2 (collB zs) k c6 c2 HM.out w6 (own_rd ho6) (HXW.out.below hb6) (by omega)
          have HB7 := Lib.hid (below_trans HBL.out hb6)
          clear hS hb6 ho6
          go_wp2_with (go_at_call 22; refine hc.mono ?_; rintro e w7 ⟨rfl, hb7⟩)
          go_ret
          exact ⟨rfl, below_trans HB7.out hb7⟩
  · go_enter Try.func5, Try.ntmps5
    go_wp2_with fail
    go_ret
    exact ⟨rfl, Below.refl _ _⟩
end Go.Proofs.Ytbhnlooellgfaaa
