/- Several texts of the proof in one; each says at its head what it proves; no condition. -/
import Derived.Test.YtbkfhcbecejomaaGreatMg12
import Derived.Test.YtbkfhcbecejomaaGreatMg1
import Derived.Test.YtbkfhcbecejomaaGreatMg2
import Derived.Test.YtbkfhcbecejomaaGreatMg11
section
/- Plans: the reference says whether one is valid. -/
namespace Go.Proofs.YtbkfhcbecejomaaGreat
open Go Go.ChangeShapes Go.WideShapes Go.ChangeAt Go.RowKit
set_option linter.unusedVariables false
set_option maxHeartbeats 4000000 in
theorem specPlanValid (x : HullV) (A PA : Option Addr) (n c m pc : Nat) (bs : List BoxV) (plan : List Int) (w : World) (hn : bs.length = n) (hr : RdV w A (boxs bs)) (hnc : n ≤ c) (hm : n ≤ 1099511627776) (hpn : plan.length = m) (hp : RdV w PA (ints plan)) (hpc : m ≤ pc) (hpm : pc ≤ 9223372036854775807) :
    Calls Tryz.prog 27 #[.agg #[.int .i64 x.f0, .int .i64 x.f1, .int .i64 x.f2], .slice A n c, .slice PA m pc] w fun e w' => e = .returned (.bool (planOk x bs plan)) ∧ Below w.heap.size w w' := by
  obtain ⟨y0, y1, y2⟩ := x
  have K0 := hulNew w y0 y1 y2
  have HN := Lib.hid hn
  have HPN := Lib.hid hpn
  clear hn hpn
  have hV := fun W => specHullValid ⟨y0, y1, y2⟩ W
  dsimp only at *
  go_enter Tryz.func27, Tryz.ntmps27
  go_wp2_with fail
  refine (hV _).mono ?_
  rintro e w3 ⟨rfl, h3⟩
  have k3 := hulKeep K0 h3
  clear h3 hV K0
  cases hh : hullOk ⟨y0, y1, y2⟩ with
  | false =>
    have HE : Hid (planOk ⟨y0, y1, y2⟩ bs plan = false) := Lib.hid (planOk_hull hh)
    obtain ⟨v1, v2, v3, v4, v5⟩ := k3
    have Z := Lib.hid v1
    clear v1 hh
    go_wp2_with fail
    go_ret
    exact ⟨by rw [HE.out]; rfl, Z.out⟩
  | true =>
    have hle := slots_le hh
    have hT := (hullOk_iff.1 hh).2.2
    have hsl := fun W => specSlotMany ⟨y0, y1, y2⟩ W hh
    have hti := fun (j : Nat) W (hj : (j : Int) < slotsH ⟨y0, y1, y2⟩) => specSlotBelow ⟨y0, y1, y2⟩ j W hh (by omega) hj
    have HH := Lib.hid hh
    clear hh
    dsimp only at *
    have hr3 := hr.below k3.1
    go_wp2_with fail
    refine (specBoxesValid A n c bs _ HN.out hr3 hm).mono ?_
    rintro e w4 ⟨rfl, h4⟩
    have k4 := hulKeep k3 h4
    clear h4 k3 hr3
    cases hbo : boxesOk bs with
    | false =>
      have HE : Hid (planOk ⟨y0, y1, y2⟩ bs plan = false) := Lib.hid (planOk_boxes hbo)
      obtain ⟨v1, v2, v3, v4, v5⟩ := k4
      have Z := Lib.hid v1
      clear v1 hbo
      go_wp2_with fail
      go_ret
      exact ⟨by rw [HE.out]; rfl, Z.out⟩
    | true =>
      have HBO := Lib.hid hbo
      clear hbo
      have HSL : Hid (slotsH ⟨y0, y1, y2⟩ = slotsH ⟨y0, y1, y2⟩) := Lib.hid rfl
      generalize hsv : slotsH ⟨y0, y1, y2⟩ = sv at *
      have HSV := Lib.hid hsv
      clear hsv HSL
      obtain ⟨v1, v2, v3, v4, v5⟩ := id k4
      have K4 := Lib.hid k4
      clear v1 k4
      go_wp2_with fail
      refine (hsl _).mono ?_
      rintro e w5 ⟨rfl, h5⟩
      have K5 := Lib.hid (hulKeep K4.out h5)
      clear h5 hsl K4 v2 v3 v4 v5
      by_cases hlen : (m : Int) = sv
      · have hm36 : m ≤ 36 := by omega
        subst hlen
        have H0 : Hid (∀ j, j < 0 → slotOk ⟨y0, y1, y2⟩ bs plan j = true) := Lib.hid (fun j hj => absurd hj (Nat.not_lt_zero j))
        go_wp2_with fail
        go_loopw [7] (fun i wr => ∃ (k : Nat), k ≤ m ∧ i = .int .i64 k ∧ Hid (∀ j, j < k → slotOk ⟨y0, y1, y2⟩ bs plan j = true) ∧ Hid (HulAt w wr y0 y1 y2)) (fun i _ => m - (intOf i).toNat)
        case atStart => exact ⟨0, Nat.zero_le _, rfl, H0, K5⟩
        case round =>
          clear H0 K5
          obtain ⟨k, hk, rfl, HS, HK⟩ := hrel
          by_cases hlt : k < m
          · have hkz : k < plan.length := by rw [HPN.out]; exact hlt
            have hki : (k : Int) < (m : Int) := by omega
            have hbl := HK.out.1
            obtain ⟨pb, po, rfl, hl1, hc1⟩ := (hp.below hbl).pos (k := k) (by rw [ints_len]; exact hkz)
            have hcell : wr.cell? ⟨pb, po + k, none⟩ = some (.int .i64 plan[k]) := by rw [hc1 k (by rw [ints_len]; exact hkz), ints_at]
            by_cases h0 : plan[k] = 0
            · have HS2 : Hid (∀ j, j < k + 1 → slotOk ⟨y0, y1, y2⟩ bs plan j = true) := Lib.hid (slots_up HS.out (slotOk_zero hkz h0))
              rw [h0] at hcell
              clear hc1 h0 HS hbl
              go_wp2_with fail
              go_roundw
              case rel => exact ⟨k + 1, by omega, by go_num, HS2, HK⟩
              case measure => simp [intOf]; omega
            · have HCU := Lib.hid (slotOk_cut (h := ⟨y0, y1, y2⟩) (bs := bs) hkz h0)
              have HTK := Lib.hid (RdV.takeI (zs := plan) hl1 hc1 k)
              have HBX := Lib.hid (hr.below hbl)
              have HP : Hid (0 < k → ∃ u, plan.getD (k - 1) 0 = u ∧ wr.cell? ⟨pb, po + (k - 1), none⟩ = some (.int .i64 u)) := Lib.hid (fun hk0 => by
                have hk1 : k - 1 < plan.length := by omega
                refine ⟨plan[k - 1], by simp [List.getD, hk1], ?_⟩
                rw [hc1 (k - 1) (by rw [ints_len]; exact hk1), ints_at])
              have HTL : Hid ((plan.take k).length = k) := Lib.hid (by rw [List.length_take]; omega)
              have g0 : (plan[k] == 0) = false := by simp [h0]
              have HKZ := Lib.hid hkz
              generalize plan[k] = v at *
              have HBI := Lib.hid (idx_has bs v)
              obtain ⟨v1, v2, v3, v4, v5⟩ := HK.out
              clear hc1 hbl hkz v1
              have hSB := fun W => hti k W hki
              clear hti
              go_wp2_with fail
              refine (hSB _).mono ?_
              rintro e w6 ⟨rfl, h6⟩
              have K6 := Lib.hid (hulKeep HK.out h6)
              have HTK6 := HTK.out.below h6
              have HBX6 := HBX.out.below h6
              have hcell6 := (h6.cell (p := ⟨pb, po + k, none⟩) hl1).trans hcell
              clear HTK HBX hcell v2 v3 v4 v5
              have hl6 : pb < w6.heap.size := Nat.lt_of_lt_of_le hl1 h6.size
              have HP6 : Hid (0 < k → ∃ u, plan.getD (k - 1) 0 = u ∧ w6.cell? ⟨pb, po + (k - 1), none⟩ = some (.int .i64 u)) := Lib.hid (fun h => by obtain ⟨u, e1, e2⟩ := HP.out h; exact ⟨u, e1, (h6.cell (p := ⟨pb, po + (k - 1), none⟩) hl1).trans e2⟩)
              clear HP h6 hSB
              have hkc : (k : Int) ≤ (pc : Int) := by omega
              have hcF : ∀ q0 : Nat, Calls Tryz.prog 31 #[.slice A n c, .int .i64 v] (w6.drewN q0) fun r w' => r = .returned (.int .i64 (idxI (findF bs v))) ∧ w' = w6.drewN q0 := fun q0 => (l2Find_any A n c bs v (w6.drewN q0) HN.out HBX6 (by omega)).mono (fun _ _ h => ⟨h.1, h.2.symm⟩)
              have hcH : ∀ q0 : Nat, Calls Tryz.prog 32 #[.slice (some ⟨pb, po, none⟩) k pc, .int .i64 v] (w6.drewN q0) fun r w' => r = .returned (.bool (hasI (plan.take k) v)) ∧ w' = w6.drewN q0 := fun q0 => (l1Has_any _ k pc (plan.take k) v (w6.drewN q0) HTL.out HTK6 (by omega)).mono (fun _ _ h => ⟨h.1, h.2.symm⟩)
              clear HTK6 HBX6
              generalize idxI (findF bs v) = fi at *
              have HQ0 : Hid ((k : Int) % y2 = (k : Int) % y2) := Lib.hid rfl
              cases hf : hasF bs v with
              | false =>
                have HE : Hid (planOk ⟨y0, y1, y2⟩ bs plan = false) := Lib.hid (planOk_bad HKZ.out (by rw [HCU.out, hf]; rfl))
                have hfi := HBI.out
                rw [hf] at hfi
                have hlt0 : decide (fi < 0) = true := hfi
                have hlt1 : fi < 0 := of_decide_eq_true hlt0
                generalize (if (k : Int) % y2 = 0 then (-1 : Int) else (k : Int) - 1) = bl at *
                clear hf hfi HP6 HQ0
                go_wp2_with fail
                go_quiet ((first | (go_at_call 31; exact Calls.quiet_of_same (hcF _)) | (go_at_call 32; exact Calls.quiet_of_same (hcH _))))
                clear hcF hcH
                go_wp2_with fail
                go_ret
                exact ⟨by rw [HE.out]; rfl, below_drewN K6.out.1 _⟩
              | true =>
                have hfi := HBI.out
                rw [hf] at hfi
                have hlt0 : decide (fi < 0) = false := hfi
                have hlt1 : ¬ fi < 0 := of_decide_eq_false hlt0
                have HF := Lib.hid hf
                clear hf hfi
                cases hi : hasI (plan.take k) v with
                | true =>
                  have HE : Hid (planOk ⟨y0, y1, y2⟩ bs plan = false) := Lib.hid (planOk_bad HKZ.out (by rw [HCU.out, hi]; simp))
                  rw [hi] at hcH
                  generalize (if (k : Int) % y2 = 0 then (-1 : Int) else (k : Int) - 1) = bl at *
                  clear hi HP6 HQ0
                  go_wp2_with fail
                  go_quiet ((first | (go_at_call 31; exact Calls.quiet_of_same (hcF _)) | (go_at_call 32; exact Calls.quiet_of_same (hcH _))))
                  clear hcF hcH
                  go_wp2_with fail
                  go_ret
                  exact ⟨by rw [HE.out]; rfl, below_drewN K6.out.1 _⟩
                | false =>
                  have HI := Lib.hid hi
                  rw [hi] at hcH
                  clear hi
                  by_cases ht : (k : Int) % y2 = 0
                  · have HS2 : Hid (∀ j, j < k + 1 → slotOk ⟨y0, y1, y2⟩ bs plan j = true) := Lib.hid (slots_up HS.out (by rw [HCU.out, HF.out, HI.out, decide_eq_false (by omega)]; rfl))
                    rw [if_pos ht]
                    clear HP6 ht HQ0
                    go_wp2_with fail
                    go_quiet ((first | (go_at_call 31; exact Calls.quiet_of_same (hcF _)) | (go_at_call 32; exact Calls.quiet_of_same (hcH _))))
                    clear hcF hcH
                    go_wp2_with fail
                    go_roundw
                    case rel => exact ⟨k + 1, by omega, by go_num, HS2, Lib.hid (hulKeep K6.out (below_drewN (Below.refl _ _) _))⟩
                    case measure => simp [intOf]; omega
                  · rw [if_neg ht]
                    have hk0 : 0 < k := by
                      rcases Nat.eq_zero_or_pos k with e | e
                      · subst e; simp at ht
                      · exact e
                    obtain ⟨u, hu, hcu⟩ := HP6.out hk0
                    have hpos : 0 < (k : Int) % y2 := by
                      have := Int.emod_nonneg (k : Int) (show y2 ≠ 0 by omega)
                      omega
                    have HQ : Hid (slotOk ⟨y0, y1, y2⟩ bs plan k = !decide (u = 0)) := Lib.hid (by rw [HCU.out, HF.out, HI.out, decide_eq_true hpos, hu]; simp)
                    obtain ⟨j, rfl⟩ : ∃ j, k = j + 1 := ⟨k - 1, by omega⟩
                    have ea : ((j + 1 : Nat) : Int) - 1 = (j : Int) := by omega
                    rw [ea]
                    have hji : (j : Int) < (m : Int) := by omega
                    simp only [Nat.add_sub_cancel] at hcu
                    clear hu HP6 ht hpos HQ0
                    by_cases hu0 : u = 0
                    · have HE : Hid (planOk ⟨y0, y1, y2⟩ bs plan = false) := Lib.hid (planOk_bad HKZ.out (by rw [HQ.out, hu0]; rfl))
                      subst hu0
                      go_wp2_with fail
                      go_quiet ((first | (go_at_call 31; exact Calls.quiet_of_same (hcF _)) | (go_at_call 32; exact Calls.quiet_of_same (hcH _))))
                      clear hcF hcH
                      go_wp2_with fail
                      go_ret
                      exact ⟨by rw [HE.out]; rfl, below_drewN K6.out.1 _⟩
                    · have HS2 : Hid (∀ i, i < j + 1 + 1 → slotOk ⟨y0, y1, y2⟩ bs plan i = true) := Lib.hid (slots_up HS.out (by rw [HQ.out]; simp [hu0]))
                      have gu : (u == 0) = false := by simp [hu0]
                      go_wp2_with fail
                      go_quiet ((first | (go_at_call 31; exact Calls.quiet_of_same (hcF _)) | (go_at_call 32; exact Calls.quiet_of_same (hcH _))))
                      clear hcF hcH
                      go_wp2_with fail
                      go_roundw
                      case rel => exact ⟨j + 1 + 1, by omega, by go_num, HS2, Lib.hid (hulKeep K6.out (below_drewN (Below.refl _ _) _))⟩
                      case measure => simp [intOf]; omega
          · obtain rfl : k = m := by omega
            have HE : Hid (planOk ⟨y0, y1, y2⟩ bs plan = true) := Lib.hid (planOk_good HH.out HBO.out (by rw [HPN.out, HSV.out]) (fun j hj => HS.out j (by have := HPN.out; omega)))
            go_wp2_with fail
            go_ret
            exact ⟨by rw [HE.out]; rfl, HK.out.1⟩
      · have HE : Hid (planOk ⟨y0, y1, y2⟩ bs plan = false) := Lib.hid (planOk_len (by rw [HPN.out, HSV.out]; exact hlen))
        have g1 : ((m : Int) != sv) = true := by simp [hlen]
        go_wp2_with fail
        go_ret
        exact ⟨by rw [HE.out]; rfl, K5.out.1⟩
end Go.Proofs.YtbkfhcbecejomaaGreat
end
section
/- Plans, the reference: an empty one, the next slots. What they return is in memory of their own. -/
namespace Go.Proofs.YtbkfhcbecejomaaGreat
open Go Go.ChangeShapes Go.WideShapes Go.ChangeAt Go.RowKit
set_option linter.unusedVariables false
theorem ints_cellP {w : World} {A : Option Addr} {zs : List Int} (h : RdV w A (ints zs)) {k : Nat} (hk : k < zs.length) : ∃ b o, A = some ⟨b, o, none⟩ ∧ b < w.heap.size ∧ ∀ i (hi : i < zs.length), w.cell? ⟨b, o + i, none⟩ = some (.int .i64 zs[i]) := by
  obtain ⟨b, o, e, hl, hc⟩ := h.pos (k := k) (by rw [ints_len]; exact hk)
  exact ⟨b, o, e, hl, fun i hi => by rw [hc i (by rw [ints_len]; exact hi), ints_at]⟩
theorem int_infoP : Info Tryz.prog 3 (.int .i64 0) 1 8 := Info.mk' int_info rfl (by decide) (by decide)
/-- a list of numbers in memory of the call's own -/
def LstOut (w : World) (N : Nat) : Ending → World → Prop :=
  RVal fun u w' => ∃ B m d zs, u = .slice B m d ∧ m ≤ N ∧ zs.length = m ∧ w'.ownsRow w.heap.size 3 1 (.slice B m d) m (ints zs) ∧ Below w.heap.size w w'
theorem lstOut_mk {w w' : World} {N m base : Nat} {zs : List Int} {v : Value} (h : w'.ownsRow base 3 1 v m (ints zs)) (hb : w.heap.size ≤ base) (hz : zs.length = m) (hm : m ≤ N) (hB : Below w.heap.size w w') : LstOut w N (.returned v) w' := by
  obtain ⟨B, d, rfl, _, _⟩ := own_slice h
  exact RVal.mk ⟨B, m, d, zs, rfl, hm, hz, own_base h hb, hB⟩
set_option maxHeartbeats 1000000 in
theorem specPlanEmpty (x : HullV) (w : World) : Calls Tryz.prog 52 #[.agg #[.int .i64 x.f0, .int .i64 x.f1, .int .i64 x.f2]] w (LstOut w 36) := by
  obtain ⟨y0, y1, y2⟩ := x
  have K0 := hulNew w y0 y1 y2
  have hV := fun W => specHullValid ⟨y0, y1, y2⟩ W
  dsimp only at *
  go_enter Tryz.func52, Tryz.ntmps52
  go_wp2_with fail
  refine (hV _).mono ?_
  rintro e w3 ⟨rfl, h3⟩
  have k3 := hulKeep K0 h3
  clear h3 hV K0
  cases hh : hullOk ⟨y0, y1, y2⟩ with
  | false =>
    obtain ⟨v1, v2, v3, v4, v5⟩ := k3
    have Z := Lib.hid v1
    have hO : (w3.alloc (.cells #[] 3)).ownsRow w3.heap.size 3 1 (.slice (some ⟨w3.heap.size, 0, none⟩) 0 0) 0 (ints []) := own_of_blk (cs := []) (Blk.new w3 3 []) (Nat.le_refl _) rfl (by decide)
    have HO := Lib.hid hO
    clear v1 hh hO
    go_wp2_with fail
    go_ret
    exact lstOut_mk HO.out Z.out.size rfl (by omega) (below_trans Z.out ((Below.refl _ _).alloc (Nat.le_refl _) _))
  | true =>
    have hle := slots_le hh
    have hS := fun W => specSlotMany ⟨y0, y1, y2⟩ W hh
    generalize slotsH ⟨y0, y1, y2⟩ = sl at *
    obtain ⟨m, rfl⟩ : ∃ m : Nat, sl = (m : Int) := ⟨sl.toNat, by omega⟩
    have hm : m ≤ 36 := by omega
    have hmk := run_make_row' (P := Tryz.prog) 29 3 (.int .i64 0) 8 Tryz.underlying29 int_info rfl .i64 .i64 m (by omega) (by omega)
    rw [made_one] at hmk
    obtain ⟨v1, v2, v3, v4, v5⟩ := id k3
    have K3 := Lib.hid k3
    clear v1 hh k3
    dsimp only at hS
    go_wp2_with fail
    refine (hS _).mono ?_
    rintro e w4 ⟨rfl, b4⟩
    have HB := Lib.hid (below_trans K3.out.1 b4)
    have hO : (w4.alloc (.cells (List.replicate m (Value.int .i64 0)).toArray 3)).ownsRow w4.heap.size 3 1 (.slice (some ⟨w4.heap.size, 0, none⟩) m m) m (ints (List.replicate m 0)) := own_of_blk (by rw [ints, List.map_replicate]; exact Blk.new w4 3 (List.replicate m (Value.int .i64 0))) (Nat.le_refl _) (by rw [ints, List.length_map, List.length_replicate, Nat.mul_one]) (by unfold maxLen; omega)
    have HO := Lib.hid hO
    clear b4 hS v2 v3 v4 v5 hO
    go_wp2_with fail
    go_ret
    exact lstOut_mk HO.out HB.out.size (by simp) hm (below_trans HB.out ((Below.refl _ _).alloc (Nat.le_refl _) _))
set_option maxHeartbeats 4000000 in
set_option maxRecDepth 100000 in
theorem specPlanNext (x : HullV) (A PA : Option Addr) (n c m pc : Nat) (bs : List BoxV) (plan : List Int) (w : World) (hn : bs.length = n) (hr : RdV w A (boxs bs)) (hnc : n ≤ c) (hm : n ≤ 1099511627776) (hpn : plan.length = m) (hp : RdV w PA (ints plan)) (hpc : m ≤ pc) (hpm : pc ≤ 9223372036854775807) :
    Calls Tryz.prog 93 #[.agg #[.int .i64 x.f0, .int .i64 x.f1, .int .i64 x.f2], .slice A n c, .slice PA m pc] w (RVal fun u w' => ∃ B k d zs, u = .slice B k d ∧ k ≤ 36 ∧ zs.length = k ∧ w'.ownsRow w.heap.size 3 1 (.slice B k d) k (ints zs) ∧ Below w.heap.size w w' ∧ (0 < k → planOk x bs plan = true) ∧ ∀ z ∈ zs, 0 ≤ z ∧ z < (m : Int)) := by
  obtain ⟨y0, y1, y2⟩ := x
  have HN := Lib.hid hn
  have HPN := Lib.hid hpn
  clear hn hpn
  have hal : Below w.heap.size w ((w.alloc (.cells #[.int .i64 y0, .int .i64 y1, .int .i64 y2] 27)).alloc (.cells #[] 3)) := ((Below.refl _ _).alloc (Nat.le_refl _) _).alloc (by simp) _
  have hP : Blk ((w.alloc (.cells #[.int .i64 y0, .int .i64 y1, .int .i64 y2] 27)).alloc (.cells #[] 3)) w.heap.size 27 [.int .i64 y0, .int .i64 y1, .int .i64 y2] := (Blk.new _ _ _).alloc _
  have hO : ((w.alloc (.cells #[.int .i64 y0, .int .i64 y1, .int .i64 y2] 27)).alloc (.cells #[] 3)).ownsRow (w.heap.size + 1) 3 1 (.slice (some ⟨w.heap.size + 1, 0, none⟩) 0 0) 0 [] := by
    have := Blk.new (w.alloc (.cells #[.int .i64 y0, .int .i64 y1, .int .i64 y2] 27)) 3 []
    simp only [World.size_alloc] at this
    exact own_of_blk this (Nat.le_refl _) rfl (by decide)
  have hV := fun W (hW : Below w.heap.size w W) => specPlanValid ⟨y0, y1, y2⟩ A PA n c m pc bs plan W HN.out (hr.below hW) hnc hm HPN.out (hp.below hW) hpc hpm
  dsimp only at *
  go_enter Tryz.func93, Tryz.ntmps93
  go_wp2_with fail
  generalize (w.alloc (.cells #[.int .i64 y0, .int .i64 y1, .int .i64 y2] 27)).alloc (.cells #[] 3) = w1 at *
  have x0 := hP.cellAt 0 (by simp)
  have x1 := hP.cellAt 1 (by simp)
  have x2 := hP.cellAt 2 (by simp)
  simp only [List.getElem_cons_zero, List.getElem_cons_succ] at x0 x1 x2
  have lx := hP.lt
  go_wp2_with fail
  refine (hV w1 hal).mono ?_
  rintro e w2 ⟨rfl, b2⟩
  have HB2 := Lib.hid (below_trans hal b2)
  have P2 := hP.later b2
  have O2 := own_later hO b2
  clear hal hP b2 hO x0 x1 x2 hV
  cases hok : planOk ⟨y0, y1, y2⟩ bs plan with
  | false =>
    have O2 := Lib.hid O2
    clear hok
    go_wp2_with fail
    go_ret
    exact RVal.mk ⟨_, 0, 0, [], rfl, by omega, rfl, own_base O2.out (by omega), HB2.out, fun h => by omega, by simp⟩
  | true =>
    have HOK := Lib.hid hok
    obtain ⟨hh, hbo, hlen, _⟩ := planOk_parts hok
    have hle := slots_le hh
    rw [HPN.out] at hlen
    have hm36 : m ≤ 36 := by omega
    have hti := fun (j : Nat) W (hj : (j : Int) < slotsH ⟨y0, y1, y2⟩) => specSlotBelow ⟨y0, y1, y2⟩ j W hh (by omega) hj
    have hT := (hullOk_iff.1 hh).2.2
    dsimp only at hti hT
    rw [← hlen] at hti
    clear hok hh hbo hle hlen
    go_wp2_with fail
    go_loopw [7, 8, 9] (fun o i _ wr => ∃ (k p : Nat) (zs : List Int), k ≤ m ∧ i = .int .i64 k ∧ p ≤ k ∧ zs.length = p ∧ Hid (∀ z ∈ zs, 0 ≤ z ∧ z < (k : Int)) ∧ wr.ownsRow (w.heap.size + 1) 3 1 o p (ints zs) ∧ Hid (Blk wr w.heap.size 27 [.int .i64 y0, .int .i64 y1, .int .i64 y2]) ∧ Hid (Below w.heap.size w wr)) (fun _ i _ _ => m - (intOf i).toNat)
    case atStart => exact ⟨0, 0, [], Nat.zero_le _, rfl, by omega, rfl, Lib.hid (by simp), O2, Lib.hid P2, HB2⟩
    case round =>
      clear O2 P2
      obtain ⟨k, p, zs, hk, rfl, hpk, hzl, HZ, hO, HP, HB⟩ := hrel
      by_cases hlt : k < m
      · have hki : (k : Int) < (m : Int) := by omega
        have hkz : k < plan.length := by rw [HPN.out]; exact hlt
        have hS := fun W => hti k W hki
        have x0 := HP.out.cellAt 0 (by simp)
        have x1 := HP.out.cellAt 1 (by simp)
        have x2 := HP.out.cellAt 2 (by simp)
        simp only [List.getElem_cons_zero, List.getElem_cons_succ] at x0 x1 x2
        have lx := HP.out.lt
        have HO := Lib.hid hO
        have HZ2 : Hid (∀ z ∈ zs, 0 ≤ z ∧ z < ((k + 1 : Nat) : Int)) := Lib.hid (fun z hz => by have := HZ.out z hz; omega)
        have HZ3 : Hid (∀ z ∈ zs ++ [(k : Int)], 0 ≤ z ∧ z < ((k + 1 : Nat) : Int)) := Lib.hid (fun z hz => by
          rcases List.mem_append.1 hz with h | h
          · have := HZ.out z h; omega
          · simp at h; omega)
        clear hO hti
        go_wp2_with fail
        refine (hS _).mono ?_
        rintro e w4 ⟨rfl, b4⟩
        have HB4 := Lib.hid (below_trans HB.out b4)
        have HP4 := Lib.hid (HP.out.later b4)
        have HO4 := Lib.hid (own_later HO.out b4)
        clear b4 hS x0 x1 x2 lx
        obtain ⟨pb, po, rfl, hpb, hpcl⟩ := ints_cellP (hp.below HB4.out) hkz
        have hcell := hpcl k hkz
        have hsz : w.heap.size + 1 ≤ w4.heap.size := HP4.out.lt
        obtain ⟨OB, od, rfl, _, _⟩ := own_slice HO4.out
        by_cases h0 : plan[k] = 0
        · rw [h0] at hcell
          by_cases ht : (k : Int) % y2 = 0
          · rw [if_pos ht]
            clear ht hpcl
            go_wp2_with (at_builtin; refine append_new rfl (.tmp 42) (.tmp 44) 29 rfl 3 _ _ _ Tryz.underlying29 int_infoP (w.heap.size + 1) w4 (.slice OB p od) p (ints zs) rfl HO4.out [.int .i64 (k : Int)] rfl rfl (by simp [Value.oneCell']) (by omega) hsz ?_; intro v' w6 hown6 hg6 hblk6)
            go_roundw
            case rel =>
              refine ⟨k + 1, p + 1, zs ++ [(k : Int)], by omega, by go_num, by omega, by simp; omega, HZ3, ?_, Lib.hid ?_, Lib.hid ?_⟩
              · rw [show ints (zs ++ [(k : Int)]) = ints zs ++ [.int .i64 (k : Int)] from by simp [ints]]; exact hown6
              · exact (hg6.block _ HP4.out.lt (fun e => by have := (HO4.out.lt _ e.symm).1; omega)).trans HP4.out
              · exact below_append HB4.out hg6 (own_base HO4.out (Nat.le_succ _)) rfl
            case measure => simp [intOf]; omega
          · rw [if_neg ht]
            have hk0 : 0 < k := by
              rcases Nat.eq_zero_or_pos k with e | e
              · subst e; simp at ht
              · exact e
            have hk1 : k - 1 < plan.length := by omega
            have hcell1 := hpcl (k - 1) hk1
            generalize plan[k - 1] = u at *
            obtain ⟨j, rfl⟩ : ∃ j, k = j + 1 := ⟨k - 1, by omega⟩
            have ea : ((j + 1 : Nat) : Int) - 1 = (j : Int) := by omega
            rw [ea]
            simp only [Nat.add_sub_cancel] at hcell1
            have hji : (j : Int) < (m : Int) := by omega
            clear ht hpcl
            by_cases hu : 0 < u
            · go_wp2_with (at_builtin; refine append_new rfl (.tmp 42) (.tmp 44) 29 rfl 3 _ _ _ Tryz.underlying29 int_infoP (w.heap.size + 1) w4 (.slice OB p od) p (ints zs) rfl HO4.out [.int .i64 ((j + 1 : Nat) : Int)] (by first | rfl | (simp; with_unfolding_all rfl)) rfl (by simp [Value.oneCell']) (by omega) hsz ?_; intro v' w6 hown6 hg6 hblk6)
              go_roundw
              case rel =>
                refine ⟨j + 1 + 1, p + 1, zs ++ [((j + 1 : Nat) : Int)], by omega, by go_num, by omega, by simp; omega, HZ3, ?_, Lib.hid ?_, Lib.hid ?_⟩
                · rw [show ints (zs ++ [((j + 1 : Nat) : Int)]) = ints zs ++ [.int .i64 ((j + 1 : Nat) : Int)] from by simp [ints]]; exact hown6
                · exact (hg6.block _ HP4.out.lt (fun e => by have := (HO4.out.lt _ e.symm).1; omega)).trans HP4.out
                · exact below_append HB4.out hg6 (own_base HO4.out (Nat.le_succ _)) rfl
              case measure => simp [intOf]; omega
            · have gu : decide (0 < u) = false := decide_eq_false hu
              go_wp2_with fail
              go_roundw
              case rel => exact ⟨j + 1 + 1, p, zs, by omega, by go_num, by omega, hzl, HZ2, HO4.out, HP4, HB4⟩
              case measure => simp [intOf]; omega
        · generalize plan[k] = v at *
          have g0 : (v == 0) = false := by simp [h0]
          generalize (if (k : Int) % y2 = 0 then (-1 : Int) else (k : Int) - 1) = bl at *
          clear hpcl
          go_wp2_with fail
          go_roundw
          case rel => exact ⟨k + 1, p, zs, by omega, by go_num, by omega, hzl, HZ2, HO4.out, HP4, HB4⟩
          case measure => simp [intOf]; omega
      · obtain rfl : k = m := by omega
        have HO := Lib.hid hO
        obtain ⟨OB, od, rfl, _, _⟩ := own_slice HO.out
        clear hO
        go_wp2_with fail
        go_ret
        exact RVal.mk ⟨OB, p, od, zs, rfl, by omega, hzl, own_base HO.out (by omega), HB.out, fun _ => HOK.out, HZ.out⟩
end Go.Proofs.YtbkfhcbecejomaaGreat
end
section
/- Plans, the reference: a box put, a box taken. What they return is in memory of their own. -/
namespace Go.Proofs.YtbkfhcbecejomaaGreat
open Go Go.ChangeShapes Go.WideShapes Go.ChangeAt Go.RowKit
set_option linter.unusedVariables false
theorem ints_set (zs : List Int) (k : Nat) (y : Int) : (ints zs).set k (.int .i64 y) = ints (zs.set k y) := by simp [ints, List.map_set]
/-- a list of numbers in memory of the call's own, and a second result -/
def LstTwo (w : World) (N : Nat) (Q : Value → Prop) : Ending → World → Prop :=
  RVal fun u w' => ∃ B m d zs v, u = .tuple #[.slice B m d, v] ∧ Q v ∧ m ≤ N ∧ zs.length = m ∧ w'.ownsRow w.heap.size 3 1 (.slice B m d) m (ints zs) ∧ Below w.heap.size w w'
theorem lstTwo_mk {w w' : World} {N m d base : Nat} {B : Option Addr} {zs : List Int} {v : Value} {Q : Value → Prop} (h : w'.ownsRow base 3 1 (.slice B m d) m (ints zs)) (hb : w.heap.size ≤ base) (hq : Q v) (hz : zs.length = m) (hm : m ≤ N) (hB : Below w.heap.size w w') : LstTwo w N Q (.returned (.tuple #[.slice B m d, v])) w' :=
  RVal.mk ⟨B, m, d, zs, v, rfl, hq, hm, hz, own_base h hb, hB⟩
def IsB (v : Value) : Prop := ∃ b : Bool, v = .bool b
def IsI (v : Value) : Prop := ∃ i : Int, v = .int .i64 i
set_option maxHeartbeats 4000000 in
set_option maxRecDepth 100000 in
theorem specPlanPut (x : HullV) (A PA : Option Addr) (n c m pc : Nat) (bs : List BoxV) (plan : List Int) (slot id : Int) (w : World) (hn : bs.length = n) (hr : RdV w A (boxs bs)) (hnc : n ≤ c) (hm : n ≤ 1099511627776) (hpn : plan.length = m) (hp : RdV w PA (ints plan)) (hpc : m ≤ pc) (hpm : pc ≤ 9223372036854775807) :
    Calls Tryz.prog 107 #[.agg #[.int .i64 x.f0, .int .i64 x.f1, .int .i64 x.f2], .slice A n c, .slice PA m pc, .int .i64 slot, .int .i64 id] w (LstTwo w 36 IsB) := by
  obtain ⟨y0, y1, y2⟩ := x
  have HN := Lib.hid hn
  have HPN := Lib.hid hpn
  clear hn hpn
  have hal : Below w.heap.size w (w.alloc (.cells #[.int .i64 y0, .int .i64 y1, .int .i64 y2] 27)) := (Below.refl _ _).alloc (Nat.le_refl _) _
  have hP : Blk (w.alloc (.cells #[.int .i64 y0, .int .i64 y1, .int .i64 y2] 27)) w.heap.size 27 [.int .i64 y0, .int .i64 y1, .int .i64 y2] := Blk.new _ _ _
  have hV := fun W (hW : Below w.heap.size w W) => specPlanValid ⟨y0, y1, y2⟩ A PA n c m pc bs plan W HN.out (hr.below hW) hnc hm HPN.out (hp.below hW) hpc hpm
  dsimp only at *
  go_enter Tryz.func107, Tryz.ntmps107
  go_wp2_with fail
  generalize w.alloc (.cells #[.int .i64 y0, .int .i64 y1, .int .i64 y2] 27) = w1 at *
  refine (hV w1 hal).mono ?_
  rintro e w2 ⟨rfl, b2⟩
  have HB2 := Lib.hid (below_trans hal b2)
  have HP2 := Lib.hid (hP.later b2)
  clear hal hP b2 hV
  have hO0 : (w2.alloc (.cells #[] 3)).ownsRow (w.heap.size + 1) 3 1 (.slice (some ⟨w2.heap.size, 0, none⟩) 0 0) 0 [] := own_of_blk (cs := []) (Blk.new w2 3 []) HP2.out.lt rfl (by decide)
  have HBA := Lib.hid (below_trans HB2.out ((Below.refl w2.heap.size w2).alloc (Nat.le_refl _) (.cells #[] 3)))
  have HPA := Lib.hid (HP2.out.alloc (.cells #[] 3))
  have lw2 := HP2.out.lt
  cases hok : planOk ⟨y0, y1, y2⟩ bs plan with
  | false =>
    have HO := Lib.hid hO0
    clear hok hO0
    go_wp2_with fail
    refine bodyPost_ret (v := .tuple #[.slice (some ⟨w2.heap.size, 0, none⟩) 0 0, .bool false]) (by simp [results, Tryz.results107, go_sem]) rfl ?_
    exact lstTwo_mk (zs := []) HO.out (by omega) ⟨false, rfl⟩ rfl (by omega) HBA.out
  | true =>
    obtain ⟨hh, hbo, hlen, _⟩ := planOk_parts hok
    have hle := slots_le hh
    rw [HPN.out] at hlen
    have hm36 : m ≤ 36 := by omega
    clear hok hh hbo hle hlen
    have hrd := hp.below HBA.out
    go_wp2_with (at_builtin; refine append_src rfl (.tmp 19) (.tmp 20) 29 rfl 3 _ _ _ Tryz.underlying29 int_infoP (w.heap.size + 1) _ _ 0 [] rfl hO0 PA m pc (ints plan) rfl (by rw [ints_len, HPN.out, Nat.mul_one]) hrd (ints_one plan) (by omega) (by simp; omega) ?_; intro v' w6 hown6 hg6 hblk6)
    have HB6 := Lib.hid (below_append (w0 := w) HBA.out hg6 (own_base hO0 (by omega)) rfl)
    have HP6 : Hid (Blk w6 w.heap.size 27 [.int .i64 y0, .int .i64 y1, .int .i64 y2]) := Lib.hid ((hg6.block _ HPA.out.lt (fun e => by injection e with e; have h9 := HP2.out.lt; rw [e] at h9; exact absurd h9 (Nat.lt_irrefl _))).trans HPA.out)
    rw [Nat.zero_add, List.nil_append] at hown6
    have HO6 := Lib.hid hown6
    obtain ⟨OB, od, rfl, hod1, hod2⟩ := own_slice hown6
    clear hown6 hg6 hblk6 hO0 hrd HBA HPA
    have hI := fun W => l1In_any slot 0 ((m : Int) - 1) W
    refine (hI _).mono ?_
    rintro e w7 ⟨rfl, rfl⟩
    cases hi : inI slot 0 ((m : Int) - 1) with
    | false =>
      clear hi hI
      go_wp2_with fail
      refine bodyPost_ret (v := .tuple #[.slice OB m od, .bool false]) (by simp [results, Tryz.results107, go_sem]) rfl ?_
      exact lstTwo_mk HO6.out (by omega) ⟨false, rfl⟩ HPN.out hm36 HB6.out
    | true =>
      rw [inI_iff] at hi
      obtain ⟨k, rfl⟩ : ∃ k : Nat, slot = (k : Int) := ⟨slot.toNat, by omega⟩
      have hkm : k < m := by omega
      have hki : (k : Int) < (m : Int) := by omega
      have hkz : k < plan.length := by rw [HPN.out]; exact hkm
      obtain ⟨pb, po, rfl, hpb, hpcl⟩ := ints_cellP (hp.below HB6.out) hkz
      have hcell := hpcl k hkz
      clear hi hI hpcl
      by_cases h0 : plan[k] = 0
      · rw [h0] at hcell
        by_cases hid0 : id = 0
        · subst hid0
          go_wp2_with fail
          refine bodyPost_ret (v := .tuple #[.slice OB m od, .bool false]) (by simp [results, Tryz.results107, go_sem]) rfl ?_
          exact lstTwo_mk HO6.out (by omega) ⟨false, rfl⟩ HPN.out hm36 HB6.out
        · have gi : (id == 0) = false := by simp [hid0]
          rcases own_form HO6.out with ⟨_, hz, _⟩ | ⟨g, d, hv, hg1, hg2, _⟩
          · omega
          · injection hv with hv1 _ hv3
            subst hv1 hv3
            have hc6 := HO6.out.cellAt k (by omega)
            rw [List.getElem?_eq_getElem (by rw [ints_len]; exact hkz)] at hc6
            have hf6 := HO6.out.frozenAt k
            have hst := (HO6.out.stored k (.int .i64 id)).1
            rw [ints_set] at hst
            have HST := Lib.hid hst
            have HPS := Lib.hid (HP6.out.far (p := ⟨g, k, none⟩) (by show w.heap.size ≠ g; omega) (.int .i64 id))
            have HBS := Lib.hid (HB6.out.setCell (p := ⟨g, k, none⟩) (by show w.heap.size ≤ g; omega) (.int .i64 id))
            generalize (ints plan)[k]'(by rw [ints_len]; exact hkz) = oldv at hc6
            have y0' := HPS.out.cellAt 0 (by simp)
            have y1' := HPS.out.cellAt 1 (by simp)
            have y2' := HPS.out.cellAt 2 (by simp)
            simp only [List.getElem_cons_zero, List.getElem_cons_succ] at y0' y1' y2'
            have yl := HPS.out.lt
            clear hst
            go_wp2_with fail
            generalize w6.setCell ⟨g, k, none⟩ (.int .i64 id) = w8 at *
            have hdm := HST.out.2
            refine (specPlanValid ⟨y0, y1, y2⟩ A (some ⟨g, 0, none⟩) n c m od bs (plan.set k id) w8 HN.out (hr.below HBS.out) hnc hm (by rw [List.length_set]; exact HPN.out) (own_rd HST.out) hod1 (by unfold maxLen at hod2; omega)).mono ?_
            rintro e w9 ⟨rfl, b9⟩
            have HB9 := Lib.hid (below_trans HBS.out b9)
            have HO9 := Lib.hid (own_later HST.out b9)
            have lw9 : w.heap.size + 1 ≤ w9.heap.size := by have := HPS.out.lt; have := b9.size; omega
            clear b9 y0' y1' y2' yl
            cases planOk ⟨y0, y1, y2⟩ bs (plan.set k id) with
            | false =>
              have hO0 : (w9.alloc (.cells #[] 3)).ownsRow (w.heap.size + 1) 3 1 (.slice (some ⟨w9.heap.size, 0, none⟩) 0 0) 0 [] := own_of_blk (cs := []) (Blk.new w9 3 []) lw9 rfl (by decide)
              have HBA := Lib.hid (below_trans HB9.out ((Below.refl w9.heap.size w9).alloc (Nat.le_refl _) (.cells #[] 3)))
              have hrd := hp.below HBA.out
              go_wp2_with (at_builtin; refine append_src rfl (.tmp 49) (.tmp 50) 29 rfl 3 _ _ _ Tryz.underlying29 int_infoP (w.heap.size + 1) _ _ 0 [] rfl hO0 (some ⟨pb, po, none⟩) m pc (ints plan) rfl (by rw [ints_len, HPN.out, Nat.mul_one]) hrd (ints_one plan) (by omega) (by simp; omega) ?_; intro v' w10 hown10 hg10 hblk10)
              have HB10 := Lib.hid (below_append (w0 := w) HBA.out hg10 (own_base hO0 (by omega)) rfl)
              rw [Nat.zero_add, List.nil_append] at hown10
              obtain ⟨OB2, od2, rfl, _, _⟩ := own_slice hown10
              have HO10 := Lib.hid hown10
              clear hown10 hg10 hblk10 hO0 hrd
              refine bodyPost_ret (v := .tuple #[.slice OB2 m od2, .bool false]) (by simp [results, Tryz.results107, go_sem]) rfl ?_
              exact lstTwo_mk HO10.out (by omega) ⟨false, rfl⟩ HPN.out hm36 HB10.out
            | true =>
              go_wp2_with fail
              refine bodyPost_ret (v := .tuple #[.slice (some ⟨g, 0, none⟩) m od, .bool true]) (by simp [results, Tryz.results107, go_sem]) rfl ?_
              exact lstTwo_mk HO9.out (by omega) ⟨true, rfl⟩ (by rw [List.length_set]; exact HPN.out) hm36 HB9.out
      · generalize plan[k] = v at *
        have gv : (v != 0) = true := by simp [h0]
        go_wp2_with fail
        refine bodyPost_ret (v := .tuple #[.slice OB m od, .bool false]) (by simp [results, Tryz.results107, go_sem]) rfl ?_
        exact lstTwo_mk HO6.out (by omega) ⟨false, rfl⟩ HPN.out hm36 HB6.out
set_option maxHeartbeats 4000000 in
set_option maxRecDepth 100000 in
theorem specPlanTake (x : HullV) (A PA : Option Addr) (n c m pc : Nat) (bs : List BoxV) (plan : List Int) (slot : Int) (w : World) (hn : bs.length = n) (hr : RdV w A (boxs bs)) (hnc : n ≤ c) (hm : n ≤ 1099511627776) (hpn : plan.length = m) (hp : RdV w PA (ints plan)) (hpc : m ≤ pc) (hpm : pc ≤ 9223372036854775807) :
    Calls Tryz.prog 108 #[.agg #[.int .i64 x.f0, .int .i64 x.f1, .int .i64 x.f2], .slice A n c, .slice PA m pc, .int .i64 slot] w (LstTwo w 36 IsI) := by
  obtain ⟨y0, y1, y2⟩ := x
  have HN := Lib.hid hn
  have HPN := Lib.hid hpn
  clear hn hpn
  have hal : Below w.heap.size w (w.alloc (.cells #[.int .i64 y0, .int .i64 y1, .int .i64 y2] 27)) := (Below.refl _ _).alloc (Nat.le_refl _) _
  have hP : Blk (w.alloc (.cells #[.int .i64 y0, .int .i64 y1, .int .i64 y2] 27)) w.heap.size 27 [.int .i64 y0, .int .i64 y1, .int .i64 y2] := Blk.new _ _ _
  have hV := fun W (hW : Below w.heap.size w W) => specPlanValid ⟨y0, y1, y2⟩ A PA n c m pc bs plan W HN.out (hr.below hW) hnc hm HPN.out (hp.below hW) hpc hpm
  dsimp only at *
  go_enter Tryz.func108, Tryz.ntmps108
  go_wp2_with fail
  generalize w.alloc (.cells #[.int .i64 y0, .int .i64 y1, .int .i64 y2] 27) = w1 at *
  refine (hV w1 hal).mono ?_
  rintro e w2 ⟨rfl, b2⟩
  have HB2 := Lib.hid (below_trans hal b2)
  have HP2 := Lib.hid (hP.later b2)
  clear hal hP b2 hV
  have hO0 : (w2.alloc (.cells #[] 3)).ownsRow (w.heap.size + 1) 3 1 (.slice (some ⟨w2.heap.size, 0, none⟩) 0 0) 0 [] := own_of_blk (cs := []) (Blk.new w2 3 []) HP2.out.lt rfl (by decide)
  have HBA := Lib.hid (below_trans HB2.out ((Below.refl w2.heap.size w2).alloc (Nat.le_refl _) (.cells #[] 3)))
  have HPA := Lib.hid (HP2.out.alloc (.cells #[] 3))
  have lw2 := HP2.out.lt
  cases hok : planOk ⟨y0, y1, y2⟩ bs plan with
  | false =>
    have HO := Lib.hid hO0
    clear hok hO0
    go_wp2_with fail
    refine bodyPost_ret (v := .tuple #[.slice (some ⟨w2.heap.size, 0, none⟩) 0 0, .int .i64 (-1)]) (by simp [results, Tryz.results108, go_sem]) rfl ?_
    exact lstTwo_mk (zs := []) HO.out (by omega) ⟨-1, rfl⟩ rfl (by omega) HBA.out
  | true =>
    obtain ⟨hh, hbo, hlen, _⟩ := planOk_parts hok
    have hle := slots_le hh
    rw [HPN.out] at hlen
    have hm36 : m ≤ 36 := by omega
    clear hok hh hbo hle hlen
    have hrd := hp.below HBA.out
    go_wp2_with (at_builtin; refine append_src rfl (.tmp 17) (.tmp 18) 29 rfl 3 _ _ _ Tryz.underlying29 int_infoP (w.heap.size + 1) _ _ 0 [] rfl hO0 PA m pc (ints plan) rfl (by rw [ints_len, HPN.out, Nat.mul_one]) hrd (ints_one plan) (by omega) (by simp; omega) ?_; intro v' w6 hown6 hg6 hblk6)
    have HB6 := Lib.hid (below_append (w0 := w) HBA.out hg6 (own_base hO0 (by omega)) rfl)
    have HP6 : Hid (Blk w6 w.heap.size 27 [.int .i64 y0, .int .i64 y1, .int .i64 y2]) := Lib.hid ((hg6.block _ HPA.out.lt (fun e => by injection e with e; have h9 := HP2.out.lt; rw [e] at h9; exact absurd h9 (Nat.lt_irrefl _))).trans HPA.out)
    rw [Nat.zero_add, List.nil_append] at hown6
    have HO6 := Lib.hid hown6
    obtain ⟨OB, od, rfl, hod1, hod2⟩ := own_slice hown6
    clear hown6 hg6 hblk6 hO0 hrd HBA HPA
    have hI := fun W => l1In_any slot 0 ((m : Int) - 1) W
    refine (hI _).mono ?_
    rintro e w7 ⟨rfl, rfl⟩
    cases hi : inI slot 0 ((m : Int) - 1) with
    | false =>
      clear hi hI
      go_wp2_with fail
      refine bodyPost_ret (v := .tuple #[.slice OB m od, .int .i64 (-1)]) (by simp [results, Tryz.results108, go_sem]) rfl ?_
      exact lstTwo_mk HO6.out (by omega) ⟨-1, rfl⟩ HPN.out hm36 HB6.out
    | true =>
      rw [inI_iff] at hi
      obtain ⟨k, rfl⟩ : ∃ k : Nat, slot = (k : Int) := ⟨slot.toNat, by omega⟩
      have hkm : k < m := by omega
      have hki : (k : Int) < (m : Int) := by omega
      have hkz : k < plan.length := by rw [HPN.out]; exact hkm
      obtain ⟨pb, po, rfl, hpb, hpcl⟩ := ints_cellP (hp.below HB6.out) hkz
      have hcell := hpcl k hkz
      clear hi hI hpcl
      by_cases h0 : plan[k] = 0
      · rw [h0] at hcell
        go_wp2_with fail
        refine bodyPost_ret (v := .tuple #[.slice OB m od, .int .i64 (-1)]) (by simp [results, Tryz.results108, go_sem]) rfl ?_
        exact lstTwo_mk HO6.out (by omega) ⟨-1, rfl⟩ HPN.out hm36 HB6.out
      · obtain ⟨v, hvk⟩ : ∃ v, plan[k] = v := ⟨_, rfl⟩
        rw [hvk] at hcell h0
        have gv : (v == 0) = false := by simp [h0]
        rcases own_form HO6.out with ⟨_, hz, _⟩ | ⟨g, d, hv, hg1, hg2, _⟩
        · omega
        · injection hv with hv1 _ hv3
          subst hv1 hv3
          have hc6 := HO6.out.cellAt k (by omega)
          rw [List.getElem?_eq_getElem (by rw [ints_len]; exact hkz)] at hc6
          have hf6 := HO6.out.frozenAt k
          have hst := (HO6.out.stored k (.int .i64 0)).1
          rw [ints_set] at hst
          have HST := Lib.hid hst
          have HPS := Lib.hid (HP6.out.far (p := ⟨g, k, none⟩) (by show w.heap.size ≠ g; omega) (.int .i64 0))
          have HBS := Lib.hid (HB6.out.setCell (p := ⟨g, k, none⟩) (by show w.heap.size ≤ g; omega) (.int .i64 0))
          generalize (ints plan)[k]'(by rw [ints_len]; exact hkz) = oldv at hc6
          have y0' := HPS.out.cellAt 0 (by simp)
          have y1' := HPS.out.cellAt 1 (by simp)
          have y2' := HPS.out.cellAt 2 (by simp)
          simp only [List.getElem_cons_zero, List.getElem_cons_succ] at y0' y1' y2'
          have yl := HPS.out.lt
          clear hst
          go_wp2_with fail
          generalize w6.setCell ⟨g, k, none⟩ (.int .i64 0) = w8 at *
          have hdm := HST.out.2
          refine (specPlanValid ⟨y0, y1, y2⟩ A (some ⟨g, 0, none⟩) n c m od bs (plan.set k 0) w8 HN.out (hr.below HBS.out) hnc hm (by rw [List.length_set]; exact HPN.out) (own_rd HST.out) hod1 (by unfold maxLen at hod2; omega)).mono ?_
          rintro e w9 ⟨rfl, b9⟩
          have HB9 := Lib.hid (below_trans HBS.out b9)
          have HO9 := Lib.hid (own_later HST.out b9)
          have lw9 : w.heap.size + 1 ≤ w9.heap.size := by have := HPS.out.lt; have := b9.size; omega
          clear b9 y0' y1' y2' yl
          cases planOk ⟨y0, y1, y2⟩ bs (plan.set k 0) with
          | false =>
            have hO0 : (w9.alloc (.cells #[] 3)).ownsRow (w.heap.size + 1) 3 1 (.slice (some ⟨w9.heap.size, 0, none⟩) 0 0) 0 [] := own_of_blk (cs := []) (Blk.new w9 3 []) lw9 rfl (by decide)
            have HBA := Lib.hid (below_trans HB9.out ((Below.refl w9.heap.size w9).alloc (Nat.le_refl _) (.cells #[] 3)))
            have hrd := hp.below HBA.out
            go_wp2_with (at_builtin; refine append_src rfl (.tmp 42) (.tmp 43) 29 rfl 3 _ _ _ Tryz.underlying29 int_infoP (w.heap.size + 1) _ _ 0 [] rfl hO0 (some ⟨pb, po, none⟩) m pc (ints plan) rfl (by rw [ints_len, HPN.out, Nat.mul_one]) hrd (ints_one plan) (by omega) (by simp; omega) ?_; intro v' w10 hown10 hg10 hblk10)
            have HB10 := Lib.hid (below_append (w0 := w) HBA.out hg10 (own_base hO0 (by omega)) rfl)
            rw [Nat.zero_add, List.nil_append] at hown10
            obtain ⟨OB2, od2, rfl, _, _⟩ := own_slice hown10
            have HO10 := Lib.hid hown10
            clear hown10 hg10 hblk10 hO0 hrd
            refine bodyPost_ret (v := .tuple #[.slice OB2 m od2, .int .i64 (-1)]) (by simp [results, Tryz.results108, go_sem]) rfl ?_
            exact lstTwo_mk HO10.out (by omega) ⟨-1, rfl⟩ HPN.out hm36 HB10.out
          | true =>
            have hcell9 := ints_cellP (hp.below HB9.out) hkz
            obtain ⟨pb2, po2, e9, hpb9, hpcl9⟩ := hcell9
            injection e9 with e9
            injection e9 with e91 e92
            subst e91 e92
            have hcell9 := hpcl9 k hkz
            rw [hvk] at hcell9
            clear hpcl9
            go_wp2_with fail
            go_quiet (fail)
            go_wp2_with fail
            refine bodyPost_ret (v := .tuple #[.slice (some ⟨g, 0, none⟩) m od, .int .i64 v]) (by simp [results, Tryz.results108, go_sem]) rfl ?_
            exact lstTwo_mk (own_drewN HO9.out _) (by omega) ⟨v, rfl⟩ (by rw [List.length_set]; exact HPN.out) hm36 (below_drewN HB9.out _)
end Go.Proofs.YtbkfhcbecejomaaGreat
end
section
/- What was taken can be put back: plain. -/
namespace Go.Proofs.YtbkfhcbecejomaaGreat
theorem yardOk_pop {high : Int} {rows : List (List Int)} {k : Nat} (h : yardOk high rows = true) (hk : k < rows.length) : yardOk high (rows.set k rows[k].dropLast) = true := by
  simp only [yardOk, Bool.and_eq_true, decide_eq_true_eq, yOk_iff] at h
  obtain ⟨⟨h1, h2⟩, hs, hn, _⟩ := h
  have e1 : rows = rows.take k ++ rows[k] :: rows.drop (k + 1) := by rw [← List.drop_eq_getElem_cons hk, List.take_append_drop]
  have e2 : rows.set k rows[k].dropLast = rows.take k ++ rows[k].dropLast :: rows.drop (k + 1) := by
    rw [List.set_eq_take_append_cons_drop, if_pos hk]
  have hsub : (rows.set k rows[k].dropLast).flatten.Sublist rows.flatten := by
    rw [e2]
    conv => rhs; rw [e1]
    simp only [List.flatten_append, List.flatten_cons]
    exact (List.Sublist.refl _).append ((List.dropLast_sublist _).append (List.Sublist.refl _))
  simp only [yardOk, Bool.and_eq_true, decide_eq_true_eq, yOk_iff, List.length_set]
  refine ⟨⟨h1, h2⟩, fun s hsm => ?_, hn.sublist hsub, by simp⟩
  rcases List.mem_or_eq_of_mem_set hsm with hsm | rfl
  · exact hs s hsm
  · obtain ⟨b0, b1, b2⟩ := hs _ (List.getElem_mem hk)
    refine ⟨b0, ?_, fun y hy => b2 y ((List.dropLast_sublist _).subset hy)⟩
    rw [List.length_dropLast]; omega
theorem yardOk_back {high : Int} {rows : List (List Int)} {k : Nat} (h : yardOk high rows = true) (hk : k < rows.length) (hz : rows[k] ≠ []) :
    1 ≤ rows[k].getLast hz ∧ rows[k].getLast hz ≤ 999 ∧ yput high (rows.set k rows[k].dropLast) (k : Int) (rows[k].getLast hz) = (high, rows, true) ∧ findAux (rows.set k rows[k].dropLast) 0 (rows[k].getLast hz) = -1 := by
  have h2 := yardOk_pop h hk
  have hk2 : k < (rows.set k rows[k].dropLast).length := by rw [List.length_set]; exact hk
  have e1 : (rows.set k rows[k].dropLast)[k]'hk2 = rows[k].dropLast := by simp
  have e2 : (rows.set k rows[k].dropLast).set k ((rows.set k rows[k].dropLast)[k]'hk2 ++ [rows[k].getLast hz]) = rows := by
    rw [e1, List.dropLast_concat_getLast, List.set_set, List.set_getElem_self]
  have hp := yardOk_push (x := rows[k].getLast hz) h2 hk2
  rw [e2, h] at hp
  have hp' := hp.symm
  simp only [Bool.and_eq_true, Bool.not_eq_true', idI_iff] at hp'
  obtain ⟨⟨a1, a2⟩, a3, _⟩ := hp'
  refine ⟨a1, a2, ?_, ?_⟩
  · have := yput_yes (x := rows[k].getLast hz) h2 hk2 (by rw [e2]; exact h)
    rw [e2] at this
    exact this
  · have hd := findAux_any (rows.set k rows[k].dropLast) 0 (rows[k].getLast hz)
    rw [a3] at hd
    have gen : ∀ (l : List (List Int)) (j : Nat) (x : Int), findAux l j x = -1 ∨ 0 ≤ findAux l j x := by
      intro l
      induction l with
      | nil => intro j x; exact .inl rfl
      | cons s r ih =>
        intro j x
        rw [findAux]
        split
        · exact .inr (by omega)
        · exact ih _ _
    rcases gen (rows.set k rows[k].dropLast) 0 (rows[k].getLast hz) with h | h
    · exact h
    · simp at hd; omega
end Go.Proofs.YtbkfhcbecejomaaGreat
end
