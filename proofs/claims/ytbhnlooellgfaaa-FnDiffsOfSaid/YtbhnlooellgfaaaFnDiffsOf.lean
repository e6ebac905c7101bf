/- FnDiffsOf returns true, for every code; no condition. -/
import Derived.Test.YtbhnlooellgfaaaSameDf
import Derived.Test.YtbhnlooellgfaaaDrawSB
import Derived.Test.YtbhnlooellgfaaaBxR
import Derived.Test.YtbhnlooellgfaaaBxF
import Derived.Test.YtbhnlooellgfaaaBxW
import Derived.Test.YtbhnlooellgfaaaBxL
import Derived.Test.YtbhnlooellgfaaaAlive
namespace Go.Proofs.Ytbhnlooellgfaaa
open Go Go.ChangeShapes Go.WideShapes Go.ChangeAt Go.RowKit
set_option linter.unusedVariables false
set_option linter.unusedSimpArgs false
set_option maxRecDepth 100000 in
set_option maxHeartbeats 8000000 in
theorem walkFnDiffsOf (w : World) (A : Option Addr) (n c : Nat) (bs : List Int) (h : Code w A n c bs) :
    Calls Try.prog 7 #[.slice A n c] w fun e w' => e = .returned (.bool true) ∧ Below w.heap.size w w' := by
  by_cases hn : (n : Int) ≤ 1048576
  · go_enter Try.func7, Try.ntmps7
    go_wp2_with fail
    refine (drawDiffsOf_any A n c bs w h).mono ?_
    rintro e w1 ⟨_, rfl, A1, p, c1, zs, B, m, d, ss, rfl, hr, hlz, hpc, hp, hr2, hld, hmd, hm, hb1⟩
    have HL := Lib.hid hlz
    have HLD := Lib.hid hld
    clear h
    go_wp2_with fail
    refine (implDiffsOf A1 B p c1 m d zs ss _ hlz hld hr hr2 hpc hmd (by omega) (by omega)).mono ?_
    rintro e w2 ⟨_, rfl, X, x, xc, rfl, hxl, hxo, hb2⟩
    have hr' := hr.below hb2
    have hr2' := hr2.below hb2
    have HB2 := Lib.hid (below_trans hb1 hb2)
    clear hr hr2 hb1 hb2
    go_wp2_with fail
    refine (specDiffsOf A1 B p c1 m d zs ss _ hlz hld hr' hr2' (by omega) (by omega)).mono ?_
    rintro e w3 ⟨_, rfl, Y, y, yc, rfl, hyl, hyo, hb3⟩
    obtain rfl : x = y := hxl.symm.trans hyl
    have hxo3 := own_later hxo hb3
    have HB3 := Lib.hid (below_trans HB2.out hb3)
    have HR := Lib.hid (hr'.below hb3)
    have HR2 := Lib.hid (hr2'.below hb3)
    have hx20 : x ≤ 20 := by rw [← hxl]; exact diffsB_len zs ss
    have HXL := Lib.hid hxl
    have HX3 := Lib.hid (own_rd hxo3)
    have HY3 := Lib.hid (own_rd hyo)
    clear hxl hyl hxo hb3 hxo3 hyo hr' hr2' HB2
    go_wp2_with fail
    refine (sameDiffs_same X Y (diffsB zs ss) x xc yc HXL.out _ HX3.out HY3.out (by omega)).mono ?_
    rintro e w4 ⟨rfl, hb4⟩
    have HB4 := Lib.hid (below_trans HB3.out hb4)
    have HX4 := Lib.hid (HX3.out.below hb4)
    have HR4 := Lib.hid (HR.out.below hb4)
    have HR24 := Lib.hid (HR2.out.below hb4)
    clear hb4 HB3 HX3 HY3 HR HR2
    have hV := specBoxesValid A1 p c1 zs w4 HL.out HR4.out (by omega)
    cases hok : boxesOk zs with
    | false =>
      have hx0 : x = 0 := by rw [← HXL.out]; unfold diffsB; rw [hok]; rfl
      subst hx0
      rw [hok] at hV
      clear hok
      go_wp2_with fail
      refine hV.mono ?_
      rintro e w5 ⟨rfl, hb5⟩
      have HB5 := Lib.hid (below_trans HB4.out hb5)
      clear hV hb5
      go_wp2_with (go_at_call 24; refine (alive_any _).mono ?_; rintro e w6 ⟨rfl, rfl⟩)
      go_ret
      exact ⟨rfl, HB5.out⟩
    | true =>
      rw [hok] at hV
      have HOK := Lib.hid hok
      clear hok
      go_wp2_with fail
      refine hV.mono ?_
      rintro e w5 ⟨rfl, hb5⟩
      have HB5 := Lib.hid (below_trans HB4.out hb5)
      have HX5 := Lib.hid (HX4.out.below hb5)
      have HR5 := Lib.hid (HR4.out.below hb5)
      have HR25 := Lib.hid (HR24.out.below hb5)
      clear hV hb5 HX4 HR4 HR24 HB4
      have hV := specBoxesValid B m d ss w5 HLD.out HR25.out (by omega)
      cases hok2 : boxesOk ss with
      | false =>
        have hx0 : x = 0 := by rw [← HXL.out]; unfold diffsB; rw [hok2]; simp
        subst hx0
        rw [hok2] at hV
        clear hok2
        go_wp2_with fail
        refine hV.mono ?_
        rintro e w6 ⟨rfl, hb6⟩
        have HB6 := Lib.hid (below_trans HB5.out hb6)
        clear hV hb6
        go_wp2_with (go_at_call 24; refine (alive_any _).mono ?_; rintro e w7 ⟨rfl, rfl⟩)
        go_ret
        exact ⟨rfl, HB6.out⟩
      | true =>
        rw [hok2] at hV
        have HOK2 := Lib.hid hok2
        have HLEAD := Lib.hid (diffs_lead HOK.out HOK2.out)
        have HNONE := Lib.hid (diffs_none HOK.out HOK2.out)
        clear hok2
        go_wp2_with fail
        refine hV.mono ?_
        rintro e w6 ⟨rfl, hb6⟩
        have HB6 := Lib.hid (below_trans HB5.out hb6)
        have HX6 := Lib.hid (HX5.out.below hb6)
        have HR6 := Lib.hid (HR5.out.below hb6)
        have HR26 := Lib.hid (HR25.out.below hb6)
        clear hV hb6 HX5 HR5 HR25 HB5
        go_wp2_with fail
        go_loopw [6, 7] (fun u i wr => ∃ (k v : Nat), k ≤ p ∧ i = .int .i64 k ∧ u = .int .i64 v ∧ v ≤ 20 + k ∧ Hid (v = ss.length + ((zs.take k).filter (fun b => !hasF ss b.f0)).length) ∧ Below w6.heap.size w6 wr) (fun _ i _ => p - (intOf i).toNat)
        case atStart => exact ⟨0, m, Nat.zero_le _, rfl, rfl, by omega, Lib.hid (by rw [HLD.out]; simp), Below.refl _ _⟩
        case round =>
          obtain ⟨k, v, hk, rfl, rfl, hv20, HV, hb⟩ := hrel
          by_cases hlt : k < p
          · have hkz : k < zs.length := by rw [HL.out]; exact hlt
            have hki : (k : Int) < (p : Int) := by omega
            obtain ⟨b, o, rfl, hl, a0, a1, a2, a3, a4⟩ := (HR6.out.below hb).boxAt hkz
            have hF := findBox_any B m d ss (zs[k]).f0 wr HLD.out (HR26.out.below hb) hmd (by omega)
            rw [HOK2.out, if_pos rfl] at hF
            have hHS := findF_has (zs := ss) (id := (zs[k]).f0)
            have HT : Hid ((zs.take (k + 1)).filter (fun b => !hasF ss b.f0) = (zs.take k).filter (fun b => !hasF ss b.f0) ++ (if hasF ss (zs[k]).f0 then [] else [zs[k]])) := Lib.hid (by rw [List.take_succ_eq_append_getElem hkz, List.filter_append]; cases hh : hasF ss (zs[k]).f0 <;> simp [hh])
            generalize zs[k] = y at *
            generalize idxI (findF ss y.f0) = iv at *
            clear a1 a2 a3 a4
            cases hh : hasF ss y.f0 with
            | true =>
              rw [hh] at hHS
              have hiv : 0 ≤ iv := by simpa using hHS
              have HV2 : Hid (v = ss.length + ((zs.take (k + 1)).filter (fun b => !hasF ss b.f0)).length) := Lib.hid (by rw [HT.out, hh]; simpa using HV.out)
              clear hh hHS
              go_wp2_with (go_at_call 25; refine hF.mono ?_; rintro e w7 ⟨rfl, hb7⟩)
              go_roundw
              case rel => exact ⟨k + 1, v, by omega, by go_num, rfl, by omega, HV2, below_trans hb hb7⟩
              case measure => simp [intOf]; omega
            | false =>
              rw [hh] at hHS
              have hiv : iv < 0 := by simpa using hHS
              have HV2 : Hid (v + 1 = ss.length + ((zs.take (k + 1)).filter (fun b => !hasF ss b.f0)).length) := Lib.hid (by rw [HT.out, hh, HV.out]; simp; omega)
              clear hh hHS
              go_wp2_with (go_at_call 25; refine hF.mono ?_; rintro e w7 ⟨rfl, hb7⟩)
              go_roundw
              case rel => exact ⟨k + 1, v + 1, by omega, by go_num, by go_num, by omega, HV2, below_trans hb hb7⟩
              case measure => simp [intOf]; omega
          · obtain rfl : k = p := by omega
            have HU : Hid (v = unionN zs ss) := Lib.hid (by rw [HV.out, List.take_of_length_le (by rw [HL.out]; exact Nat.le_refl _)]; rfl)
            have HB7 := Lib.hid (below_trans HB6.out hb)
            have HX7 := Lib.hid (HX6.out.below hb)
            have HR7 := Lib.hid (HR6.out.below hb)
            have HR27 := Lib.hid (HR26.out.below hb)
            clear hb HX6 HR6 HR26 HB6 HV
            go_wp2_with fail
            refine (implApplyDiffs A1 X k c1 x xc zs (diffsB zs ss) _ HL.out HXL.out HR7.out HX7.out hpc (by omega) (by omega)).mono ?_
            rintro e w8 ⟨_, rfl, Z, z, zc, rfl, hzl, hzo, hb8⟩
            have HB8 := Lib.hid (below_trans HB7.out hb8)
            have HR8 := Lib.hid (HR7.out.below hb8)
            have HR28 := Lib.hid (HR27.out.below hb8)
            have hz10 : z ≤ 10 := by rw [← hzl]; exact applyB_len zs _
            clear hb8 HX7 HR7 HR27 HB7
            have TAILC : ∀ (W : World), Below w8.heap.size w8 W → Calls Try.prog 12 #[.slice A1 k c1] W (BoxOut W W.heap.size (sortB zs)) := fun W hW => implSortBoxes A1 k c1 zs W HL.out (HR8.out.below hW) hpc (by omega)
            have TAILD : ∀ (W : World), Below w8.heap.size w8 W → Calls Try.prog 12 #[.slice B m d] W (BoxOut W W.heap.size (sortB ss)) := fun W hW => implSortBoxes B m d ss W HLD.out (HR28.out.below hW) hmd (by omega)
            have HTC := Lib.hid TAILC
            have HTD := Lib.hid TAILD
            have HE : Hid (((x : Int) == 0) = decide (sortB zs = sortB ss)) := Lib.hid (by
              have h1 := HNONE.out
              have h2 := HXL.out
              by_cases he : sortB zs = sortB ss
              · have := h1.2 he
                rw [this] at h2
                simp only [List.length_nil] at h2
                rw [← h2, decide_eq_true he]; rfl
              · have : x ≠ 0 := fun e => he (h1.1 (List.eq_nil_of_length_eq_zero (by rw [h2, e])))
                rw [decide_eq_false he]
                simpa using this)
            clear TAILC TAILD
            generalize hbx : ((x : Int) == 0) = bx at *
            rcases HLEAD.out with ⟨hap, hu⟩ | hap
            · rw [hap] at hzl hzo ⊢
              have hv10 : decide ((v : Int) ≤ 10) = false := decide_eq_false (by rw [HU.out]; omega)
              have hv11 : (10 : Int) < (v : Int) := by rw [HU.out]; omega
              clear hap hu hzl hzo
              have hC := HTC.out w8 (Below.refl _ _)
              go_wp2_with fail
              refine hC.mono ?_
              rintro e wa ⟨_, rfl, P, pl, pc, rfl, hpl, hpo, hba⟩
              have HBA := Lib.hid (below_trans (Below.refl _ _) hba)
              have HP := Lib.hid (own_rd hpo)
              have HPL := Lib.hid hpl
              have hpl10 : pl ≤ 10 := by rw [← hpl]; exact sortB_len zs
              clear hC hpo hba hpl
              have hD := HTD.out wa HBA.out
              go_wp2_with fail
              refine hD.mono ?_
              rintro e wb ⟨_, rfl, Q, ql, qc, rfl, hql, hqo, hbb⟩
              have HBB := Lib.hid (below_trans HBA.out hbb)
              have hql10 : ql ≤ 10 := by rw [← hql]; exact sortB_len ss
              have hc := sameBoxes_dec P Q (sortB zs) (sortB ss) pl ql pc qc HPL.out hql wb (HP.out.below hbb) (own_rd hqo) (by omega) (by omega)
              rw [← HE.out] at hc
              have hqe : (bx == bx) = true := by simp
              clear hD hqo hbb hql HBA
              go_wp2_with (go_at_call 22; refine hc.mono ?_; rintro e wc2 ⟨rfl, hbc⟩)
              go_ret
              exact ⟨rfl, below_trans HB8.out (below_trans HBB.out hbc)⟩
            · rw [hap] at hzl hzo ⊢
              have HZ := Lib.hid (own_rd hzo)
              have HZL := Lib.hid hzl
              clear hap hzl hzo
              dsimp only at HZ HZL ⊢
              have hS := HTD.out w8 (Below.refl _ _)
              have HSS : Hid (sortB ss = collB ss) := Lib.hid (by unfold sortB; rw [if_pos HOK2.out])
              go_wp2_with fail
              refine hS.mono ?_
              rintro e w9 ⟨_, rfl, S, s, sc, rfl, hsl, hso, hb9⟩
              obtain rfl : z = s := by rw [HSS.out] at hsl; exact HZL.out.symm.trans hsl
              rw [HSS.out] at hso
              have hc := sameBoxes_same Z S (collB ss) z zc sc HZL.out w9 (HZ.out.below hb9) (own_rd hso) (by omega)
              have HB9 := Lib.hid hb9
              clear hS hso hb9 hsl
              go_wp2_with fail
              refine hc.mono ?_
              rintro e w10 ⟨rfl, hb10⟩
              have HB10 := Lib.hid (below_trans HB9.out hb10)
              clear hc hb10
              have hC := HTC.out w10 (HB10.out)
              go_wp2_with fail
              refine hC.mono ?_
              rintro e wa ⟨_, rfl, P, pl, pc, rfl, hpl, hpo, hba⟩
              have HBA := Lib.hid (below_trans (HB10.out) hba)
              have HP := Lib.hid (own_rd hpo)
              have HPL := Lib.hid hpl
              have hpl10 : pl ≤ 10 := by rw [← hpl]; exact sortB_len zs
              clear hC hpo hba hpl
              have hD := HTD.out wa HBA.out
              go_wp2_with fail
              refine hD.mono ?_
              rintro e wb ⟨_, rfl, Q, ql, qc, rfl, hql, hqo, hbb⟩
              have HBB := Lib.hid (below_trans HBA.out hbb)
              have hql10 : ql ≤ 10 := by rw [← hql]; exact sortB_len ss
              have hc := sameBoxes_dec P Q (sortB zs) (sortB ss) pl ql pc qc HPL.out hql wb (HP.out.below hbb) (own_rd hqo) (by omega) (by omega)
              rw [← HE.out] at hc
              have hqe : (bx == bx) = true := by simp
              clear hD hqo hbb hql HBA
              go_wp2_with (go_at_call 22; refine hc.mono ?_; rintro e wc2 ⟨rfl, hbc⟩)
              go_ret
              exact ⟨rfl, below_trans HB8.out (below_trans HBB.out hbc)⟩
  · go_enter Try.func7, Try.ntmps7
    go_wp2_with fail
    go_ret
    exact ⟨rfl, Below.refl _ _⟩
end Go.Proofs.Ytbhnlooellgfaaa
