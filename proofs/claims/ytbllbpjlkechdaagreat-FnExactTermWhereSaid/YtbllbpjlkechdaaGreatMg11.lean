/- Several texts of the proof in one; each says at its head what it proves; no condition. -/
import Derived.Test.YtbllbpjlkechdaaGreatMg10
import Derived.Test.YtbllbpjlkechdaaGreatMg3
import Derived.Test.YtbllbpjlkechdaaGreatMg1
import Derived.Test.YtbllbpjlkechdaaGreatMg2
section
/- Plans: the reference says whether one is valid. -/
namespace Go.Proofs.YtbllbpjlkechdaaGreat
open Go Go.ChangeShapes Go.WideShapes Go.ChangeAt Go.RowKit
set_option linter.unusedVariables false
set_option maxHeartbeats 4000000 in
theorem specPlanValid (x : HullV) (A PA : Option Addr) (n c m pc : Nat) (bs : List BoxV) (plan : List Int) (w : World) (hn : bs.length = n) (hr : RdV w A (boxs bs)) (hnc : n ≤ c) (hm : n ≤ 1099511627776) (hpn : plan.length = m) (hp : RdV w PA (ints plan)) (hpc : m ≤ pc) (hpm : pc ≤ 9223372036854775807) :
    Calls Tryz.prog 32 #[.agg #[.int .i64 x.f0, .int .i64 x.f1, .int .i64 x.f2], .slice A n c, .slice PA m pc] w fun e w' => e = .returned (.bool (planOk x bs plan)) ∧ Below w.heap.size w w' := by
  obtain ⟨y0, y1, y2⟩ := x
  have K0 := hulNew w y0 y1 y2
  have HN := Lib.hid hn
  have HPN := Lib.hid hpn
  clear hn hpn
  have hV := fun W => specHullValid ⟨y0, y1, y2⟩ W
  dsimp only at *
  go_enter Tryz.func32, Tryz.ntmps32
  go_wp2_with fail
  refine (hV _).mono ?_
  rintro e w3 ⟨rfl, h3⟩
  have k3 := hulKeep K0 h3
  clear h3 hV K0
  cases hh : hullOk ⟨y0, y1, y2⟩ with
  | false =>
    have HE : Hid (planOk ⟨y0, y1, y2⟩ bs plan = false) := Lib.hid (planOk_hull hh)
    obtain ⟨v1, v2, v3, v4, v5⟩ := k3
    have Z := Lib.hid v1
    clear v1 hh
    go_wp2_with fail
    go_ret
    exact ⟨by rw [HE.out]; rfl, Z.out⟩
  | true =>
    have hle := slots_le hh
    have hT := (hullOk_iff.1 hh).2.2
    have hsl := fun W => specSlotMany ⟨y0, y1, y2⟩ W hh
    have hti := fun (j : Nat) W (hj : (j : Int) < slotsH ⟨y0, y1, y2⟩) => specSlotBelow ⟨y0, y1, y2⟩ j W hh (by omega) hj
    have HH := Lib.hid hh
    clear hh
    dsimp only at *
    have hr3 := hr.below k3.1
    go_wp2_with fail
    refine (specBoxesValid A n c bs _ HN.out hr3 hm).mono ?_
    rintro e w4 ⟨rfl, h4⟩
    have k4 := hulKeep k3 h4
    clear h4 k3 hr3
    cases hbo : boxesOk bs with
    | false =>
      have HE : Hid (planOk ⟨y0, y1, y2⟩ bs plan = false) := Lib.hid (planOk_boxes hbo)
      obtain ⟨v1, v2, v3, v4, v5⟩ := k4
      have Z := Lib.hid v1
      clear v1 hbo
      go_wp2_with fail
      go_ret
      exact ⟨by rw [HE.out]; rfl, Z.out⟩
    | true =>
      have HBO := Lib.hid hbo
      clear hbo
      have HSL : Hid (slotsH ⟨y0, y1, y2⟩ = slotsH ⟨y0, y1, y2⟩) := Lib.hid rfl
      generalize hsv : slotsH ⟨y0, y1, y2⟩ = sv at *
      have HSV := Lib.hid hsv
      clear hsv HSL
      obtain ⟨v1, v2, v3, v4, v5⟩ := id k4
      have K4 := Lib.hid k4
      clear v1 k4
      go_wp2_with fail
      refine (hsl _).mono ?_
      rintro e w5 ⟨rfl, h5⟩
      have K5 := Lib.hid (hulKeep K4.out h5)
      clear h5 hsl K4 v2 v3 v4 v5
      by_cases hlen : (m : Int) = sv
      · have hm36 : m ≤ 36 := by omega
        subst hlen
        have H0 : Hid (∀ j, j < 0 → slotOk ⟨y0, y1, y2⟩ bs plan j = true) := Lib.hid (fun j hj => absurd hj (Nat.not_lt_zero j))
        go_wp2_with fail
        go_loopw [7] (fun i wr => ∃ (k : Nat), k ≤ m ∧ i = .int .i64 k ∧ Hid (∀ j, j < k → slotOk ⟨y0, y1, y2⟩ bs plan j = true) ∧ Hid (HulAt w wr y0 y1 y2)) (fun i _ => m - (intOf i).toNat)
        case atStart => exact ⟨0, Nat.zero_le _, rfl, H0, K5⟩
        case round =>
          clear H0 K5
          obtain ⟨k, hk, rfl, HS, HK⟩ := hrel
          by_cases hlt : k < m
          · have hkz : k < plan.length := by rw [HPN.out]; exact hlt
            have hki : (k : Int) < (m : Int) := by omega
            have hbl := HK.out.1
            obtain ⟨pb, po, rfl, hl1, hc1⟩ := (hp.below hbl).pos (k := k) (by rw [ints_len]; exact hkz)
            have hcell : wr.cell? ⟨pb, po + k, none⟩ = some (.int .i64 plan[k]) := by rw [hc1 k (by rw [ints_len]; exact hkz), ints_at]
            by_cases h0 : plan[k] = 0
            · have HS2 : Hid (∀ j, j < k + 1 → slotOk ⟨y0, y1, y2⟩ bs plan j = true) := Lib.hid (slots_up HS.out (slotOk_zero hkz h0))
              rw [h0] at hcell
              clear hc1 h0 HS hbl
              go_wp2_with fail
              go_roundw
              case rel => exact ⟨k + 1, by omega, by go_num, HS2, HK⟩
              case measure => simp [intOf]; omega
            · have HCU := Lib.hid (slotOk_cut (h := ⟨y0, y1, y2⟩) (bs := bs) hkz h0)
              have HTK := Lib.hid (RdV.takeI (zs := plan) hl1 hc1 k)
              have HBX := Lib.hid (hr.below hbl)
              have HP : Hid (0 < k → ∃ u, plan.getD (k - 1) 0 = u ∧ wr.cell? ⟨pb, po + (k - 1), none⟩ = some (.int .i64 u)) := Lib.hid (fun hk0 => by
                have hk1 : k - 1 < plan.length := by omega
                refine ⟨plan[k - 1], by simp [List.getD, hk1], ?_⟩
                rw [hc1 (k - 1) (by rw [ints_len]; exact hk1), ints_at])
              have HTL : Hid ((plan.take k).length = k) := Lib.hid (by rw [List.length_take]; omega)
              have g0 : (plan[k] == 0) = false := by simp [h0]
              have HKZ := Lib.hid hkz
              generalize plan[k] = v at *
              have HBI := Lib.hid (idx_has bs v)
              obtain ⟨v1, v2, v3, v4, v5⟩ := HK.out
              clear hc1 hbl hkz v1
              have hSB := fun W => hti k W hki
              clear hti
              go_wp2_with fail
              refine (hSB _).mono ?_
              rintro e w6 ⟨rfl, h6⟩
              have K6 := Lib.hid (hulKeep HK.out h6)
              have HTK6 := HTK.out.below h6
              have HBX6 := HBX.out.below h6
              have hcell6 := (h6.cell (p := ⟨pb, po + k, none⟩) hl1).trans hcell
              clear HTK HBX hcell v2 v3 v4 v5
              have hl6 : pb < w6.heap.size := Nat.lt_of_lt_of_le hl1 h6.size
              have HP6 : Hid (0 < k → ∃ u, plan.getD (k - 1) 0 = u ∧ w6.cell? ⟨pb, po + (k - 1), none⟩ = some (.int .i64 u)) := Lib.hid (fun h => by obtain ⟨u, e1, e2⟩ := HP.out h; exact ⟨u, e1, (h6.cell (p := ⟨pb, po + (k - 1), none⟩) hl1).trans e2⟩)
              clear HP h6 hSB
              have hkc : (k : Int) ≤ (pc : Int) := by omega
              have hcF : ∀ q0 : Nat, Calls Tryz.prog 16 #[.slice A n c, .int .i64 v] (w6.drewN q0) fun r w' => r = .returned (.int .i64 (idxI (findF bs v))) ∧ w' = w6.drewN q0 := fun q0 => (l2Find_any A n c bs v (w6.drewN q0) HN.out HBX6 (by omega)).mono (fun _ _ h => ⟨h.1, h.2.symm⟩)
              have hcH : ∀ q0 : Nat, Calls Tryz.prog 18 #[.slice (some ⟨pb, po, none⟩) k pc, .int .i64 v] (w6.drewN q0) fun r w' => r = .returned (.bool (hasI (plan.take k) v)) ∧ w' = w6.drewN q0 := fun q0 => (l1Has_any _ k pc (plan.take k) v (w6.drewN q0) HTL.out HTK6 (by omega)).mono (fun _ _ h => ⟨h.1, h.2.symm⟩)
              clear HTK6 HBX6
              generalize idxI (findF bs v) = fi at *
              have HQ0 : Hid ((k : Int) % y2 = (k : Int) % y2) := Lib.hid rfl
              cases hf : hasF bs v with
              | false =>
                have HE : Hid (planOk ⟨y0, y1, y2⟩ bs plan = false) := Lib.hid (planOk_bad HKZ.out (by rw [HCU.out, hf]; rfl))
                have hfi := HBI.out
                rw [hf] at hfi
                have hlt0 : decide (fi < 0) = true := hfi
                have hlt1 : fi < 0 := of_decide_eq_true hlt0
                generalize (if (k : Int) % y2 = 0 then (-1 : Int) else (k : Int) - 1) = bl at *
                clear hf hfi HP6 HQ0
                go_wp2_with fail
                go_quiet ((first | (go_at_call 16; exact Calls.quiet_of_same (hcF _)) | (go_at_call 18; exact Calls.quiet_of_same (hcH _))))
                clear hcF hcH
                go_wp2_with fail
                go_ret
                exact ⟨by rw [HE.out]; rfl, below_drewN K6.out.1 _⟩
              | true =>
                have hfi := HBI.out
                rw [hf] at hfi
                have hlt0 : decide (fi < 0) = false := hfi
                have hlt1 : ¬ fi < 0 := of_decide_eq_false hlt0
                have HF := Lib.hid hf
                clear hf hfi
                cases hi : hasI (plan.take k) v with
                | true =>
                  have HE : Hid (planOk ⟨y0, y1, y2⟩ bs plan = false) := Lib.hid (planOk_bad HKZ.out (by rw [HCU.out, hi]; simp))
                  rw [hi] at hcH
                  generalize (if (k : Int) % y2 = 0 then (-1 : Int) else (k : Int) - 1) = bl at *
                  clear hi HP6 HQ0
                  go_wp2_with fail
                  go_quiet ((first | (go_at_call 16; exact Calls.quiet_of_same (hcF _)) | (go_at_call 18; exact Calls.quiet_of_same (hcH _))))
                  clear hcF hcH
                  go_wp2_with fail
                  go_ret
                  exact ⟨by rw [HE.out]; rfl, below_drewN K6.out.1 _⟩
                | false =>
                  have HI := Lib.hid hi
                  rw [hi] at hcH
                  clear hi
                  by_cases ht : (k : Int) % y2 = 0
                  · have HS2 : Hid (∀ j, j < k + 1 → slotOk ⟨y0, y1, y2⟩ bs plan j = true) := Lib.hid (slots_up HS.out (by rw [HCU.out, HF.out, HI.out, decide_eq_false (by omega)]; rfl))
                    rw [if_pos ht]
                    clear HP6 ht HQ0
                    go_wp2_with fail
                    go_quiet ((first | (go_at_call 16; exact Calls.quiet_of_same (hcF _)) | (go_at_call 18; exact Calls.quiet_of_same (hcH _))))
                    clear hcF hcH
                    go_wp2_with fail
                    go_roundw
                    case rel => exact ⟨k + 1, by omega, by go_num, HS2, Lib.hid (hulKeep K6.out (below_drewN (Below.refl _ _) _))⟩
                    case measure => simp [intOf]; omega
                  · rw [if_neg ht]
                    have hk0 : 0 < k := by
                      rcases Nat.eq_zero_or_pos k with e | e
                      · subst e; simp at ht
                      · exact e
                    obtain ⟨u, hu, hcu⟩ := HP6.out hk0
                    have hpos : 0 < (k : Int) % y2 := by
                      have := Int.emod_nonneg (k : Int) (show y2 ≠ 0 by omega)
                      omega
                    have HQ : Hid (slotOk ⟨y0, y1, y2⟩ bs plan k = !decide (u = 0)) := Lib.hid (by rw [HCU.out, HF.out, HI.out, decide_eq_true hpos, hu]; simp)
                    obtain ⟨j, rfl⟩ : ∃ j, k = j + 1 := ⟨k - 1, by omega⟩
                    have ea : ((j + 1 : Nat) : Int) - 1 = (j : Int) := by omega
                    rw [ea]
                    have hji : (j : Int) < (m : Int) := by omega
                    simp only [Nat.add_sub_cancel] at hcu
                    clear hu HP6 ht hpos HQ0
                    by_cases hu0 : u = 0
                    · have HE : Hid (planOk ⟨y0, y1, y2⟩ bs plan = false) := Lib.hid (planOk_bad HKZ.out (by rw [HQ.out, hu0]; rfl))
                      subst hu0
                      go_wp2_with fail
                      go_quiet ((first | (go_at_call 16; exact Calls.quiet_of_same (hcF _)) | (go_at_call 18; exact Calls.quiet_of_same (hcH _))))
                      clear hcF hcH
                      go_wp2_with fail
                      go_ret
                      exact ⟨by rw [HE.out]; rfl, below_drewN K6.out.1 _⟩
                    · have HS2 : Hid (∀ i, i < j + 1 + 1 → slotOk ⟨y0, y1, y2⟩ bs plan i = true) := Lib.hid (slots_up HS.out (by rw [HQ.out]; simp [hu0]))
                      have gu : (u == 0) = false := by simp [hu0]
                      go_wp2_with fail
                      go_quiet ((first | (go_at_call 16; exact Calls.quiet_of_same (hcF _)) | (go_at_call 18; exact Calls.quiet_of_same (hcH _))))
                      clear hcF hcH
                      go_wp2_with fail
                      go_roundw
                      case rel => exact ⟨j + 1 + 1, by omega, by go_num, HS2, Lib.hid (hulKeep K6.out (below_drewN (Below.refl _ _) _))⟩
                      case measure => simp [intOf]; omega
          · obtain rfl : k = m := by omega
            have HE : Hid (planOk ⟨y0, y1, y2⟩ bs plan = true) := Lib.hid (planOk_good HH.out HBO.out (by rw [HPN.out, HSV.out]) (fun j hj => HS.out j (by have := HPN.out; omega)))
            go_wp2_with fail
            go_ret
            exact ⟨by rw [HE.out]; rfl, HK.out.1⟩
      · have HE : Hid (planOk ⟨y0, y1, y2⟩ bs plan = false) := Lib.hid (planOk_len (by rw [HPN.out, HSV.out]; exact hlen))
        have g1 : ((m : Int) != sv) = true := by simp [hlen]
        go_wp2_with fail
        go_ret
        exact ⟨by rw [HE.out]; rfl, K5.out.1⟩
end Go.Proofs.YtbllbpjlkechdaaGreat
end
section
/- Ships: how far two slots are apart, the reference. -/
namespace Go.Proofs.YtbllbpjlkechdaaGreat
open Go Go.ChangeShapes Go.WideShapes Go.ChangeAt Go.RowKit
set_option linter.unusedVariables false
set_option maxHeartbeats 2000000 in
theorem specApartOf (x : HullV) (a b : Int) (w : World) (hh : hullOk x = true) (ha : 0 ≤ a ∧ a < slotsH x) (hb : 0 ≤ b ∧ b < slotsH x) : Calls Tryz.prog 61 #[.agg #[.int .i64 x.f0, .int .i64 x.f1, .int .i64 x.f2], .int .i64 a, .int .i64 b] w fun e w' => e = .returned (.int .i64 (apartH x a b)) ∧ Below w.heap.size w w' := by
  obtain ⟨y0, y1, y2⟩ := x
  have hle := slots_le hh
  have hA := fun W => specPlaceOf ⟨y0, y1, y2⟩ a W hh ha.1 ha.2
  have hB := fun W => specPlaceOf ⟨y0, y1, y2⟩ b W hh hb.1 hb.2
  obtain ⟨⟨a1, a2⟩, ⟨b1, b2⟩, c1, c2⟩ := hullOk_iff.1 hh
  have HR : Hid (apartH ⟨y0, y1, y2⟩ a b = if (a / y2 / y1 = b / y2 / y1 ∧ a / y2 % y1 = b / y2 % y1) then 0 else if a / y2 / y1 = b / y2 / y1 then 1 else if a / y2 / y1 - b / y2 / y1 = 1 ∨ a / y2 / y1 - b / y2 / y1 = -1 then 2 else 3) := Lib.hid (by
    unfold apartH
    dsimp only
    simp only [stack_iff])
  dsimp only at *
  have pa := Int.ediv_nonneg ha.1 (show 0 ≤ y2 by omega)
  have pb := Int.ediv_nonneg hb.1 (show 0 ≤ y2 by omega)
  have pc := Int.ediv_nonneg pa (show 0 ≤ y1 by omega)
  have pd := Int.ediv_nonneg pb (show 0 ≤ y1 by omega)
  have qa := Int.ediv_le_self y2 ha.1
  have qb := Int.ediv_le_self y2 hb.1
  have qc := Int.ediv_le_self y1 pa
  have qd := Int.ediv_le_self y1 pb
  have ua : a / y2 / y1 ≤ 36 := by omega
  have ub : b / y2 / y1 ≤ 36 := by omega
  generalize a / y2 / y1 = ba at *
  generalize b / y2 / y1 = bb at *
  generalize a / y2 % y1 = ra at *
  generalize b / y2 % y1 = rb at *
  generalize a % y2 = ta at *
  generalize b % y2 = tb at *
  clear qa qb qc qd pa pb hle ha hb
  have K0 := hulNew w y0 y1 y2
  go_enter Tryz.func61, Tryz.ntmps61
  go_wp2_with fail
  refine (hA _).mono ?_
  rintro e w3 ⟨rfl, h3⟩
  have k3 := hulKeep K0 h3
  obtain ⟨v1, v2, v3, v4, v5⟩ := k3
  have K3 := Lib.hid v1
  clear v1 h3 hA K0
  go_wp2_with fail
  refine (hB _).mono ?_
  rintro e w4 ⟨rfl, h4⟩
  have Z1 := Lib.hid (below_trans K3.out h4)
  clear h4 hB v3 v4 v5
  have wr : IntKind.i64.wrap (ba - bb) = ba - bb := by
    rw [IntKind.wrap_i64]
    omega
  have wr2 : IntKind.i64.wrap (bb - ba) = bb - ba := by
    rw [IntKind.wrap_i64]
    omega
  have g6 : decide (ba < 0) = false := decide_eq_false (by omega)
  have g7 : decide (bb < 0) = false := decide_eq_false (by omega)
  by_cases e2 : ba = bb
  · subst e2
    by_cases e1 : ra = rb
    · subst e1
      have H1 : Hid (apartH ⟨y0, y1, y2⟩ a b = 0) := Lib.hid (by rw [HR.out, if_pos ⟨rfl, rfl⟩])
      clear HR
      go_wp2_with fail
      go_ret
      exact ⟨by rw [H1.out]; rfl, Z1.out⟩
    · have H1 : Hid (apartH ⟨y0, y1, y2⟩ a b = 1) := Lib.hid (by rw [HR.out, if_neg (fun h => e1 h.2), if_pos rfl])
      have g1 : (ra == rb) = false := by simp [e1]
      have g2 : decide (ra = rb) = false := decide_eq_false e1
      clear HR
      go_wp2_with fail
      go_ret
      exact ⟨by rw [H1.out]; rfl, Z1.out⟩
  · have g3 : (ba == bb) = false := by simp [e2]
    have g4 : decide (ba = bb) = false := decide_eq_false e2
    by_cases e3 : ba - bb = 1
    · have H1 : Hid (apartH ⟨y0, y1, y2⟩ a b = 2) := Lib.hid (by rw [HR.out, if_neg (fun h => e2 h.1), if_neg e2, if_pos (.inl e3)])
      clear HR
      rw [e3] at wr
      have e5 : ¬ (bb - ba = 1) := by omega
      go_wp2_with fail
      go_ret
      exact ⟨by rw [H1.out]; rfl, Z1.out⟩
    · by_cases e4 : bb - ba = 1
      · have H1 : Hid (apartH ⟨y0, y1, y2⟩ a b = 2) := Lib.hid (by rw [HR.out, if_neg (fun h => e2 h.1), if_neg e2, if_pos (.inr (by omega))])
        clear HR
        go_wp2_with fail
        go_ret
        exact ⟨by rw [H1.out]; rfl, Z1.out⟩
      · have H1 : Hid (apartH ⟨y0, y1, y2⟩ a b = 3) := Lib.hid (by rw [HR.out, if_neg (fun h => e2 h.1), if_neg e2, if_neg (by omega)])
        clear HR
        have g1 : (ba - bb == 1) = false := by simp [e3]
        have g2 : (bb - ba == 1) = false := by simp [e4]
        go_wp2_with fail
        go_ret
        exact ⟨by rw [H1.out]; rfl, Z1.out⟩
end Go.Proofs.YtbllbpjlkechdaaGreat
end
section
/- The class of a box that is known, the program. -/
namespace Go.Proofs.YtbllbpjlkechdaaGreat
open Go Go.ChangeShapes Go.WideShapes Go.ChangeAt Go.RowKit
set_option linter.unusedVariables false
theorem hasF_find {zs : List BoxV} {id : Int} (h : hasF zs id = true) : ∃ (i : Nat) (hi : i < zs.length), findF zs id = some i ∧ clsB zs id = zs[i].f2 := by
  cases hq : findF zs id with
  | none =>
    rw [findF_none] at hq
    obtain ⟨x, hx, e⟩ := hasF_iff.1 h
    exact absurd e (hq x hx)
  | some i =>
    obtain ⟨hi, _, h2⟩ := findF_some hq
    exact ⟨i, hi, rfl, by rw [clsB, h2]⟩
set_option maxHeartbeats 1000000 in
theorem implClassAt (A : Option Addr) (n c : Nat) (zs : List BoxV) (id : Int) (w : World) (hn : zs.length = n) (hr : RdV w A (boxs zs)) (hm : n ≤ 9223372036854775806) (hf : hasF zs id = true) :
    Calls Tryz.prog 75 #[.slice A n c, .int .i64 id] w fun e w' => e = .returned (.int .i64 (clsB zs id)) ∧ Below w.heap.size w w' := by
  obtain ⟨i, hi, e1, e2⟩ := hasF_find hf
  have hb := fun W => boxAt_any A n c zs id W hn
  rw [e2]
  clear e2
  go_enter Tryz.func75, Tryz.ntmps75
  go_wp2_with fail
  refine (boxAt_any A n c zs id _ hn hr hm).mono ?_
  rintro e w3 ⟨rfl, b3⟩
  obtain ⟨b, o, rfl, hl, _, _, hc, _⟩ := (hr.below b3).boxAt hi
  rw [e1]
  clear hb
  generalize hv : zs[i].f2 = v at *
  have HV := Lib.hid hv
  clear hv
  have hi2 : (i : Int) < (n : Int) := by omega
  have B3 := Lib.hid b3
  clear b3 e1 hf
  dsimp only [idxI]
  go_wp2_with fail
  go_ret
  exact ⟨by rw [HV.out]; rfl, B3.out⟩
set_option maxHeartbeats 1000000 in
theorem specL11Class (A PA : Option Addr) (n c pn pc k : Nat) (zs : List BoxV) (plan : List Int) (w : World) (hn : zs.length = n) (hr : RdV w A (boxs zs)) (hm : n ≤ 9223372036854775806) (hp : RdV w PA (ints plan)) (hpn : plan.length = pn) (hk : k < plan.length) (hf : plan.getD k 0 ≠ 0 → hasF zs (plan.getD k 0) = true) :
    Calls Tryz.prog 63 #[.slice A n c, .slice PA pn pc, .int .i64 k] w fun e w' => e = .returned (.int .i64 (clsP zs plan k)) ∧ Below w.heap.size w w' := by
  obtain ⟨pb, po, rfl, hl1, hc1⟩ := hp.pos (k := k) (by rw [ints_len]; exact hk)
  have hcell : w.cell? ⟨pb, po + k, none⟩ = some (.int .i64 plan[k]) := by rw [hc1 k (by rw [ints_len]; exact hk), ints_at]
  have hki : (k : Int) < (pn : Int) := by omega
  have hg : plan.getD k 0 = plan[k] := by simp [List.getD, hk]
  rw [hg] at hf
  have HV : Hid (clsP zs plan k = if plan[k] = 0 then 0 else clsB zs plan[k]) := Lib.hid (by unfold clsP; rw [hg])
  clear hc1 hg
  generalize plan[k] = id at *
  by_cases h0 : id = 0
  · have HZ : Hid (clsP zs plan k = 0) := Lib.hid (by rw [HV.out, if_pos h0])
    clear HV hf
    subst h0
    go_enter Tryz.func63, Tryz.ntmps63
    go_wp2_with fail
    go_ret
    exact ⟨by rw [HZ.out]; rfl, Below.refl _ _⟩
  · obtain ⟨i, hi, e1, e2⟩ := hasF_find (hf h0)
    have HW : Hid (clsP zs plan k = zs[i].f2) := Lib.hid (by rw [HV.out, if_neg h0, e2])
    obtain ⟨b, o, rfl, hl, _, _, hc, _⟩ := hr.boxAt hi
    clear HV e2 hf
    generalize hv : zs[i].f2 = v at *
    clear hv
    have hi2 : (i : Int) < (n : Int) := by omega
    go_enter Tryz.func63, Tryz.ntmps63
    go_wp2_with fail
    refine (l2Find_any (some ⟨b, o, none⟩) n c zs id _ hn hr hm).mono ?_
    rintro e w3 ⟨rfl, rfl⟩
    rw [e1]
    dsimp only [idxI]
    go_wp2_with fail
    go_ret
    exact ⟨by rw [HW.out]; rfl, Below.refl _ _⟩
end Go.Proofs.YtbllbpjlkechdaaGreat
end
section
/- Pairs of slots that are too near, the reference: how many it returns. -/
namespace Go.Proofs.YtbllbpjlkechdaaGreat
open Go Go.ChangeShapes Go.WideShapes Go.ChangeAt Go.RowKit
set_option linter.unusedVariables false
theorem pair_infoN : Info Tryz.prog 99 (.agg #[.int .i64 0, .int .i64 0]) 2 16 := Info.mk' (by kernel_rfl) rfl (by decide) (by decide)
theorem clsB_range {bs : List BoxV} (hb : boxesOk bs = true) {id : Int} (h : hasF bs id = true) : 0 ≤ clsB bs id ∧ clsB bs id ≤ 3 := by
  obtain ⟨i, hi, _, e⟩ := hasF_find h
  have := (boxesOk_iff.1 hb).1 bs[i] (List.getElem_mem hi)
  simp only [bOk, Bool.and_eq_true, inI_iff] at this
  rw [e]
  exact this.1.2
theorem clsP_range {h : HullV} {bs : List BoxV} {plan : List Int} (hp : planOk h bs plan = true) {k : Nat} (hk : k < plan.length) : 0 ≤ clsP bs plan k ∧ clsP bs plan k ≤ 3 := by
  unfold clsP
  by_cases h0 : plan.getD k 0 = 0
  · rw [if_pos h0]; omega
  · rw [if_neg h0]; exact clsB_range (planOk_parts hp).2.1 (planOk_has hp hk h0)
theorem nearRow_yes {h : HullV} {bs : List BoxV} {plan : List Int} {a b : Nat} (hab : a < b) (hn : apartH h a b < needC (clsP bs plan a) (clsP bs plan b)) : nearRow h bs plan a (b + 1) = nearRow h bs plan a b + 1 := by
  rw [nearRow, if_pos ⟨hab, by rw [nearB]; exact decide_eq_true hn⟩]
theorem nearRow_no {h : HullV} {bs : List BoxV} {plan : List Int} {a b : Nat} (hn : ¬ apartH h a b < needC (clsP bs plan a) (clsP bs plan b)) : nearRow h bs plan a (b + 1) = nearRow h bs plan a b := by
  rw [nearRow, if_neg (fun h' => hn (of_decide_eq_true h'.2)), Nat.add_zero]
theorem nearRow_skip {h : HullV} {bs : List BoxV} {plan : List Int} {a b : Nat} (hn : plan.getD b 0 = 0) : nearRow h bs plan a (b + 1) = nearRow h bs plan a b := by
  rw [nearRow, nearB_empty (.inr hn)]; simp
def NearOut (w : World) (k : Nat) : Ending → World → Prop :=
  RVal fun u w' => ∃ B d, u = .slice B k d ∧ Below w.heap.size w w'
theorem nearOut_mk {w w' : World} {base : Nat} {k n : Nat} {v : Value} {xs : List Value} (h : w'.ownsRow base 99 2 v n xs) (e : n = k) (hb : Below w.heap.size w w') : NearOut w k (.returned v) w' := by
  obtain ⟨B, d, rfl, _, _⟩ := own_slice h
  exact RVal.mk ⟨B, d, by rw [e], hb⟩
set_option maxHeartbeats 4000000 in
set_option maxRecDepth 100000 in
theorem specTooNear (x : HullV) (A PA : Option Addr) (n c m pc : Nat) (bs : List BoxV) (plan : List Int) (w : World) (hn : bs.length = n) (hr : RdV w A (boxs bs)) (hnc : n ≤ c) (hm : n ≤ 1099511627776) (hpn : plan.length = m) (hp : RdV w PA (ints plan)) (hpc : m ≤ pc) (hpm : pc ≤ 9223372036854775807) :
    Calls Tryz.prog 34 #[.agg #[.int .i64 x.f0, .int .i64 x.f1, .int .i64 x.f2], .slice A n c, .slice PA m pc] w (NearOut w (nearN x bs plan)) := by
  obtain ⟨y0, y1, y2⟩ := x
  have HN := Lib.hid hn
  have HPN := Lib.hid hpn
  clear hn hpn
  have hal : Below w.heap.size w ((w.alloc (.cells #[.int .i64 y0, .int .i64 y1, .int .i64 y2] 37)).alloc (.cells #[] 99)) := ((Below.refl _ _).alloc (Nat.le_refl _) _).alloc (by simp) _
  have hP : Blk ((w.alloc (.cells #[.int .i64 y0, .int .i64 y1, .int .i64 y2] 37)).alloc (.cells #[] 99)) w.heap.size 37 [.int .i64 y0, .int .i64 y1, .int .i64 y2] := (Blk.new _ _ _).alloc _
  have hO : ((w.alloc (.cells #[.int .i64 y0, .int .i64 y1, .int .i64 y2] 37)).alloc (.cells #[] 99)).ownsRow (w.heap.size + 1) 99 2 (.slice (some ⟨w.heap.size + 1, 0, none⟩) 0 0) 0 [] := by
    have := Blk.new (w.alloc (.cells #[.int .i64 y0, .int .i64 y1, .int .i64 y2] 37)) 99 []
    simp only [World.size_alloc] at this
    exact own_of_blk this (Nat.le_refl _) rfl (by decide)
  have hV := fun W (hW : Below w.heap.size w W) => specPlanValid ⟨y0, y1, y2⟩ A PA n c m pc bs plan W HN.out (hr.below hW) hnc hm HPN.out (hp.below hW) hpc hpm
  dsimp only at *
  go_enter Tryz.func34, Tryz.ntmps34
  go_wp2_with fail
  generalize (w.alloc (.cells #[.int .i64 y0, .int .i64 y1, .int .i64 y2] 37)).alloc (.cells #[] 99) = w1 at *
  have x0 := hP.cellAt 0 (by simp)
  have x1 := hP.cellAt 1 (by simp)
  have x2 := hP.cellAt 2 (by simp)
  simp only [List.getElem_cons_zero, List.getElem_cons_succ] at x0 x1 x2
  have lx := hP.lt
  go_wp2_with fail
  refine (hV w1 hal).mono ?_
  rintro e w2 ⟨rfl, b2⟩
  have HB2 := Lib.hid (below_trans hal b2)
  have P2 := hP.later b2
  have O2 := own_later hO b2
  clear hal hP b2 hO x0 x1 x2 hV
  cases hok : planOk ⟨y0, y1, y2⟩ bs plan with
  | false =>
    have HI : Hid (nearN ⟨y0, y1, y2⟩ bs plan = 0) := Lib.hid (by simp [nearN, hok])
    have O2 := Lib.hid O2
    clear hok
    go_wp2_with fail
    go_ret
    exact nearOut_mk O2.out HI.out.symm HB2.out
  | true =>
    have HI : Hid (nearN ⟨y0, y1, y2⟩ bs plan = nearUp ⟨y0, y1, y2⟩ bs plan m) := Lib.hid (by simp [nearN, hok, HPN.out])
    have HOK := Lib.hid hok
    obtain ⟨hh, hbo, hlen, _⟩ := planOk_parts hok
    have hle := slots_le hh
    rw [HPN.out] at hlen
    have hm36 : m ≤ 36 := by omega
    have HH := Lib.hid hh
    have HLEN := Lib.hid hlen
    clear hok hh hbo hle hlen
    go_wp2_with fail
    go_loopw [7, 8, 9] (fun o i _ wr => ∃ (k p : Nat) (xs : List Value), k ≤ m ∧ i = .int .i64 k ∧ Hid (p = nearUp ⟨y0, y1, y2⟩ bs plan k) ∧ p ≤ 36 * k ∧ wr.ownsRow (w.heap.size + 1) 99 2 o p xs ∧ Blk wr w.heap.size 37 [.int .i64 y0, .int .i64 y1, .int .i64 y2] ∧ Below w.heap.size w wr) (fun _ i _ _ => m - (intOf i).toNat)
    case atStart => exact ⟨0, 0, [], Nat.zero_le _, rfl, Lib.hid rfl, by omega, O2, P2, HB2.out⟩
    case round =>
      clear O2 P2
      obtain ⟨k, p, xs, hk, rfl, HP, hp36, hO, P1, hb⟩ := hrel
      by_cases hlt : k < m
      · have hki : (k : Int) < (m : Int) := by omega
        have HP0 : Hid (p = nearUp ⟨y0, y1, y2⟩ bs plan k + nearRow ⟨y0, y1, y2⟩ bs plan k (k + 1)) := Lib.hid (by rw [nearRow_low _ _ _ _ _ (Nat.le_refl _), Nat.add_zero]; exact HP.out)
        have O2 := hO
        have P2 := P1
        have hb2 := hb
        clear hO P1 hb HP
        go_wp2_with fail
        go_loopw [7, 9] (fun o j wr2 => ∃ (b p2 : Nat) (xs2 : List Value), k + 1 ≤ b ∧ b ≤ m ∧ j = .int .i64 b ∧ Hid (p2 = nearUp ⟨y0, y1, y2⟩ bs plan k + nearRow ⟨y0, y1, y2⟩ bs plan k b) ∧ p2 ≤ 36 * k + b ∧ wr2.ownsRow (w.heap.size + 1) 99 2 o p2 xs2 ∧ Blk wr2 w.heap.size 37 [.int .i64 y0, .int .i64 y1, .int .i64 y2] ∧ Below w.heap.size w wr2) (fun _ j _ => m - (intOf j).toNat)
        case atStart => exact ⟨k + 1, p, xs, Nat.le_refl _, by omega, by go_num, HP0, by omega, O2, P2, hb2⟩
        case round =>
          clear O2 P2 hb2 HP0
          obtain ⟨b, p2, xs2, hb1, hbm, rfl, HP2, hp2, hO2, P2, hb2⟩ := hrel
          by_cases hltb : b < m
          · have hbi : (b : Int) < (m : Int) := by omega
            have hkl : k < plan.length := by rw [HPN.out]; exact hlt
            have hbl : b < plan.length := by rw [HPN.out]; exact hltb
            have hA := fun W => specApartOf ⟨y0, y1, y2⟩ k b W HH.out ⟨by omega, by rw [← HLEN.out]; exact hki⟩ ⟨by omega, by rw [← HLEN.out]; exact hbi⟩
            have hC1 := fun W (hW : Below w.heap.size w W) => specL11Class A PA n c m pc k bs plan W HN.out (hr.below hW) (by omega) (hp.below hW) HPN.out hkl (planOk_has HOK.out hkl)
            have hC2 := fun W (hW : Below w.heap.size w W) => specL11Class A PA n c m pc b bs plan W HN.out (hr.below hW) (by omega) (hp.below hW) HPN.out hbl (planOk_has HOK.out hbl)
            have r1 := clsP_range HOK.out hkl
            have r2 := clsP_range HOK.out hbl
            have HY : Hid (apartH ⟨y0, y1, y2⟩ k b < needC (clsP bs plan k) (clsP bs plan b) → nearRow ⟨y0, y1, y2⟩ bs plan k (b + 1) = nearRow ⟨y0, y1, y2⟩ bs plan k b + 1) := Lib.hid (fun h => nearRow_yes (by omega) h)
            have HNO : Hid (needC (clsP bs plan k) (clsP bs plan b) ≤ apartH ⟨y0, y1, y2⟩ k b → nearRow ⟨y0, y1, y2⟩ bs plan k (b + 1) = nearRow ⟨y0, y1, y2⟩ bs plan k b) := Lib.hid (fun h => nearRow_no (by omega))
            dsimp only at hA
            generalize apartH ⟨y0, y1, y2⟩ k b = ap at *
            generalize clsP bs plan k = ck at *
            generalize clsP bs plan b = cb at *
            have hN := fun W => specApartNeed ck cb W r1 r2
            generalize needC ck cb = nd at *
            have x0 := P2.cellAt 0 (by simp)
            have x1 := P2.cellAt 1 (by simp)
            have x2 := P2.cellAt 2 (by simp)
            simp only [List.getElem_cons_zero, List.getElem_cons_succ] at x0 x1 x2
            have lx := P2.lt
            have HO2 := Lib.hid hO2
            have HP3 := Lib.hid P2
            have HB3 := Lib.hid hb2
            clear hO2 P2 hb2 hkl hbl r1 r2
            go_wp2_with fail
            refine (hA _).mono ?_
            rintro e w3 ⟨rfl, h3⟩
            have HB4 := Lib.hid (below_trans HB3.out h3)
            have HP4 := Lib.hid (HP3.out.later h3)
            have HO4 := Lib.hid (own_later HO2.out h3)
            clear h3 hA x0 x1 x2 lx HB3 HP3 HO2
            go_wp2_with fail
            refine (hC1 _ HB4.out).mono ?_
            rintro e w4 ⟨rfl, h4⟩
            have HB5 := Lib.hid (below_trans HB4.out h4)
            have HP5 := Lib.hid (HP4.out.later h4)
            have HO5 := Lib.hid (own_later HO4.out h4)
            clear h4 hC1 HB4 HP4 HO4
            go_wp2_with fail
            refine (hC2 _ HB5.out).mono ?_
            rintro e w5 ⟨rfl, h5⟩
            have HB6 := Lib.hid (below_trans HB5.out h5)
            have HP6 := Lib.hid (HP5.out.later h5)
            have HO6 := Lib.hid (own_later HO5.out h5)
            clear h5 hC2 HB5 HP5 HO5
            go_wp2_with fail
            refine (hN _).mono ?_
            rintro e w6 ⟨rfl, rfl⟩
            clear hN
            by_cases hlt2 : ap < nd
            · have HP7 : Hid (p2 + 1 = nearUp ⟨y0, y1, y2⟩ bs plan k + nearRow ⟨y0, y1, y2⟩ bs plan k (b + 1)) := Lib.hid (by rw [HY.out hlt2, HP2.out]; omega)
              clear HY HNO HP2
              have hsz : w.heap.size + 1 ≤ w5.heap.size := HP6.out.lt
              obtain ⟨OB, od, rfl, _, _⟩ := own_slice HO6.out
              go_wp2_with (at_builtin; refine append_new rfl (.tmp 45) (.tmp 49) 70 rfl 99 _ _ _ Tryz.underlying70 pair_infoN (w.heap.size + 1) w5 (.slice OB p2 od) p2 xs2 rfl HO6.out [.int .i64 (k : Int), .int .i64 (b : Int)] (by first | rfl | (simp; with_unfolding_all rfl)) rfl (by simp [Value.oneCell']) (by omega) hsz ?_; intro v' w6 hown6 hg6 hblk6)
              go_roundw
              case rel =>
                refine ⟨b + 1, p2 + 1, _, by omega, by omega, by go_num, HP7, by omega, hown6, ?_, ?_⟩
                · exact (hg6.block _ HP6.out.lt (fun e => by have := (HO6.out.lt _ e.symm).1; omega)).trans HP6.out
                · exact below_append HB6.out hg6 (own_base HO6.out (Nat.le_succ _)) rfl
              case measure => simp [intOf]; omega
            · have HP7 : Hid (p2 = nearUp ⟨y0, y1, y2⟩ bs plan k + nearRow ⟨y0, y1, y2⟩ bs plan k (b + 1)) := Lib.hid (by rw [HNO.out (by omega)]; exact HP2.out)
              clear HY HNO HP2
              go_wp2_with fail
              go_roundw
              case rel => exact ⟨b + 1, p2, _, by omega, by omega, by go_num, HP7, by omega, HO6.out, HP6.out, HB6.out⟩
              case measure => simp [intOf]; omega
          · obtain rfl : b = m := by omega
            have HP7 : Hid (p2 = nearUp ⟨y0, y1, y2⟩ bs plan (k + 1)) := Lib.hid (by rw [nearUp, HPN.out]; exact HP2.out)
            clear HP2
            go_wp2_with fail
            go_roundw
            case rel => exact ⟨k + 1, p2, xs2, by omega, by go_num, HP7, by omega, hO2, P2, hb2⟩
            case measure => simp [intOf]; omega
      · obtain rfl : k = m := by omega
        have HO := Lib.hid hO
        clear hO
        go_wp2_with fail
        go_ret
        exact nearOut_mk HO.out (HP.out.trans HI.out.symm) hb
end Go.Proofs.YtbllbpjlkechdaaGreat
end
section
/- The slots of a plan that are full, the program. -/
namespace Go.Proofs.YtbllbpjlkechdaaGreat
open Go Go.ChangeShapes Go.WideShapes Go.ChangeAt Go.RowKit
set_option linter.unusedVariables false
theorem int_infoF : Info Tryz.prog 3 (.int .i64 0) 1 8 := Info.mk' (by kernel_rfl) rfl (by decide) (by decide)
theorem fullTo_zero {plan : List Int} {k : Nat} (hk : k < plan.length) (h : plan[k] = 0) : fullTo plan (k + 1) = fullTo plan k := by
  rw [fullTo, if_pos (by simp [List.getD, hk, h])]
theorem fullTo_full {plan : List Int} {k : Nat} (hk : k < plan.length) (h : plan[k] ≠ 0) : fullTo plan (k + 1) = fullTo plan k ++ [(k : Int)] := by
  rw [fullTo, if_neg (by simpa [List.getD, hk] using h)]
def FullOut (w : World) (plan : List Int) : Ending → World → Prop :=
  RVal fun u w' => ∃ B d, u = .slice B (fullTo plan plan.length).length d ∧ w'.ownsRow w.heap.size 3 1 (.slice B (fullTo plan plan.length).length d) (fullTo plan plan.length).length (ints (fullTo plan plan.length)) ∧ Below w.heap.size w w'
set_option maxHeartbeats 2000000 in
theorem implFullSlots (A : Option Addr) (n c : Nat) (plan : List Int) (w : World) (hn : plan.length = n) (hr : RdV w A (ints plan)) (hm : n ≤ 1000) :
    Calls Tryz.prog 72 #[.slice A n c] w (FullOut w plan) := by
  have HN := Lib.hid hn
  clear hn
  go_enter Tryz.func72, Tryz.ntmps72
  go_wp2_with fail
  go_loopw [3, 8, 4, 5] (fun o i _ _ wr => ∃ (k : Nat) (xs : List Int), k ≤ n ∧ i = .int .i64 k ∧ Hid (xs = fullTo plan k) ∧ xs.length ≤ k ∧ wr.ownsRow w.heap.size 3 1 o xs.length (ints xs) ∧ Below w.heap.size w wr) (fun _ i _ _ _ => n - (intOf i).toNat)
  case atStart => exact ⟨0, [], Nat.zero_le _, rfl, Lib.hid rfl, Nat.le_refl _, World.ownsRow_nil _ _ _ _, Below.refl _ _⟩
  case round =>
    obtain ⟨k, xs, hk, rfl, HX, hxl, hown, hb⟩ := hrel
    by_cases hlt : k < n
    · have hkz : k < plan.length := by rw [HN.out]; exact hlt
      obtain ⟨b, o, rfl, hl, hc1⟩ := (hr.below hb).pos (k := k) (by rw [ints_len]; exact hkz)
      have hcell : wr.cell? ⟨b, o + k, none⟩ = some (.int .i64 plan[k]) := by rw [hc1 k (by rw [ints_len]; exact hkz), ints_at]
      have hki : (k : Int) < (n : Int) := by omega
      have hsz := hb.size
      by_cases h0 : plan[k] = 0
      · have HX2 : Hid (xs = fullTo plan (k + 1)) := Lib.hid (by rw [fullTo_zero hkz h0]; exact HX.out)
        rw [h0] at hcell
        clear hc1 h0 HX
        have hown2 := hown
        have hb2 := hb
        go_wp2_with fail
        go_roundw
        case rel => exact ⟨k + 1, xs, by omega, by go_num, HX2, by omega, hown2, hb2⟩
        case measure => simp [intOf]; omega
      · have HX2 : Hid (xs ++ [(k : Int)] = fullTo plan (k + 1)) := Lib.hid (by rw [fullTo_full hkz h0, HX.out])
        generalize plan[k] = y at *
        have g1 : (y != 0) = true := by simp [h0]
        have g2 : (y == 0) = false := by simp [h0]
        clear hc1 HX
        have hownlt : ∀ g, u3.ownBlock = some g → g < wr.heap.size := fun g e => (hown.lt g e).2
        go_wp2_with (at_builtin; refine append_new rfl _ _ 28 rfl 3 _ _ _ Tryz.underlying28 int_infoF _ wr _ _ _ rfl hown [.int .i64 (k : Int)] rfl rfl (by simp [Value.oneCell']) (by omega) hsz ?_; intro v' w6 hown6 hg6 hblk6)
        go_roundw
        case rel =>
          refine ⟨k + 1, xs ++ [(k : Int)], by omega, by go_num, HX2, by simp; omega, ?_, below_append hb hg6 hown rfl⟩
          rw [show ints (xs ++ [(k : Int)]) = ints xs ++ [.int .i64 (k : Int)] from by simp [ints], List.length_append]; exact hown6
        case measure => simp [intOf]; omega
    · obtain rfl : k = n := by omega
      have HE : Hid (xs = fullTo plan plan.length) := Lib.hid (by rw [HX.out, HN.out])
      go_wp2_with fail
      go_ret
      obtain ⟨B, d, rfl, _, _⟩ := own_slice hown
      rw [HE.out] at hown
      exact RVal.mk ⟨B, d, by rw [HE.out]; rfl, hown, hb⟩
end Go.Proofs.YtbllbpjlkechdaaGreat
end
section
/- Pairs of slots that are too near, the program: how many it returns. -/
namespace Go.Proofs.YtbllbpjlkechdaaGreat
open Go Go.ChangeShapes Go.WideShapes Go.ChangeAt Go.RowKit
set_option linter.unusedVariables false
theorem nearL_step {h : HullV} {bs : List BoxV} {plan : List Int} {zs : List Int} {i j : Nat} (hi : i < zs.length) (e : zs[i] = (j : Int)) : nearL h bs plan (zs.take (i + 1)) = nearL h bs plan (zs.take i) + nearRow h bs plan j plan.length := by
  rw [List.take_succ_eq_append_getElem hi, nearL_app, e]
  simp [nearL]
theorem nearKeep {wo W W' : World} {hb pb o1 o2 : Nat} {y0 y1 y2 vj vb : Int} (lh : hb < wo.heap.size) (lp : pb < wo.heap.size)
    (h : Below wo.heap.size wo W ∧ W.cell? ⟨hb, 0, none⟩ = some (.int .i64 y0) ∧ W.cell? ⟨hb, 1, none⟩ = some (.int .i64 y1) ∧ W.cell? ⟨hb, 2, none⟩ = some (.int .i64 y2) ∧ W.cell? ⟨pb, o1, none⟩ = some (.int .i64 vj) ∧ W.cell? ⟨pb, o2, none⟩ = some (.int .i64 vb)) (k : Below W.heap.size W W') :
    Below wo.heap.size wo W' ∧ W'.cell? ⟨hb, 0, none⟩ = some (.int .i64 y0) ∧ W'.cell? ⟨hb, 1, none⟩ = some (.int .i64 y1) ∧ W'.cell? ⟨hb, 2, none⟩ = some (.int .i64 y2) ∧ W'.cell? ⟨pb, o1, none⟩ = some (.int .i64 vj) ∧ W'.cell? ⟨pb, o2, none⟩ = some (.int .i64 vb) := by
  obtain ⟨h1, h2, h3, h4, h5, h6⟩ := h
  have lh' := Nat.lt_of_lt_of_le lh h1.size
  have lp' := Nat.lt_of_lt_of_le lp h1.size
  exact ⟨below_trans h1 k, (k.cell (p := ⟨hb, 0, none⟩) lh').trans h2, (k.cell (p := ⟨hb, 1, none⟩) lh').trans h3, (k.cell (p := ⟨hb, 2, none⟩) lh').trans h4, (k.cell (p := ⟨pb, o1, none⟩) lp').trans h5, (k.cell (p := ⟨pb, o2, none⟩) lp').trans h6⟩
theorem clsP_full {bs : List BoxV} {plan : List Int} {k : Nat} (h : plan.getD k 0 ≠ 0) : clsP bs plan k = clsB bs (plan.getD k 0) := by unfold clsP; rw [if_neg h]
theorem planD_at {plan : List Int} {k : Nat} (h : k < plan.length) : plan.getD k 0 = plan[k] := by simp [List.getD, h]
theorem ints_cell {w : World} {A : Option Addr} {zs : List Int} (h : RdV w A (ints zs)) {k : Nat} (hk : k < zs.length) : ∃ b o, A = some ⟨b, o, none⟩ ∧ b < w.heap.size ∧ ∀ i (hi : i < zs.length), w.cell? ⟨b, o + i, none⟩ = some (.int .i64 zs[i]) := by
  obtain ⟨b, o, e, hl, hc⟩ := h.pos (k := k) (by rw [ints_len]; exact hk)
  exact ⟨b, o, e, hl, fun i hi => by rw [hc i (by rw [ints_len]; exact hi), ints_at]⟩
set_option maxHeartbeats 8000000 in
set_option maxRecDepth 100000 in
theorem implTooNear (x : HullV) (A PA : Option Addr) (n c m pc : Nat) (bs : List BoxV) (plan : List Int) (w : World) (hn : bs.length = n) (hr : RdV w A (boxs bs)) (hnc : n ≤ c) (hm : n ≤ 1099511627776) (hpn : plan.length = m) (hp : RdV w PA (ints plan)) (hpc : m ≤ pc) (hpm : pc ≤ 9223372036854775807) :
    Calls Tryz.prog 39 #[.agg #[.int .i64 x.f0, .int .i64 x.f1, .int .i64 x.f2], .slice A n c, .slice PA m pc] w (NearOut w (nearN x bs plan)) := by
  obtain ⟨y0, y1, y2⟩ := x
  have HN := Lib.hid hn
  have HPN := Lib.hid hpn
  clear hn hpn
  have hal : Below w.heap.size w (w.alloc (.cells #[.int .i64 y0, .int .i64 y1, .int .i64 y2] 37)) := (Below.refl _ _).alloc (Nat.le_refl _) _
  have hP : Blk (w.alloc (.cells #[.int .i64 y0, .int .i64 y1, .int .i64 y2] 37)) w.heap.size 37 [.int .i64 y0, .int .i64 y1, .int .i64 y2] := Blk.new _ _ _
  have hV := fun W (hW : Below w.heap.size w W) => implPlanValid ⟨y0, y1, y2⟩ A PA n c m pc bs plan W HN.out (hr.below hW) hnc hm HPN.out (hp.below hW) hpc hpm
  dsimp only at *
  go_enter Tryz.func39, Tryz.ntmps39
  go_wp2_with fail
  generalize w.alloc (.cells #[.int .i64 y0, .int .i64 y1, .int .i64 y2] 37) = w1 at *
  refine (hV w1 hal).mono ?_
  rintro e w2 ⟨rfl, b2⟩
  have HB2 := Lib.hid (below_trans hal b2)
  have P2 := hP.later b2
  clear hal hP b2 hV
  cases hok : planOk ⟨y0, y1, y2⟩ bs plan with
  | false =>
    have HI : Hid (nearN ⟨y0, y1, y2⟩ bs plan = 0) := Lib.hid (by simp [nearN, hok])
    clear hok P2
    go_wp2_with fail
    go_ret
    exact nearOut_mk (World.ownsRow_nil _ 0 _ _) HI.out.symm HB2.out
  | true =>
    have HI : Hid (nearN ⟨y0, y1, y2⟩ bs plan = nearL ⟨y0, y1, y2⟩ bs plan (fullTo plan plan.length)) := Lib.hid (by rw [nearL_full]; simp [nearN, hok])
    have HOK := Lib.hid hok
    obtain ⟨hh, hbo, hlen, _⟩ := planOk_parts hok
    have hle := slots_le hh
    rw [HPN.out] at hlen
    have hm36 : m ≤ 36 := by omega
    have HH := Lib.hid hh
    have HBO := Lib.hid hbo
    have hF := implFullSlots PA m pc plan w2 HPN.out (hp.below HB2.out) (by omega)
    have HFL : Hid ((fullTo plan plan.length).length ≤ 36) := Lib.hid (Nat.le_trans (fullTo_len _ _) (by rw [HPN.out]; exact hm36))
    have HFM : Hid (∀ z, z ∈ fullTo plan plan.length → ∃ j : Nat, z = (j : Int) ∧ j < plan.length ∧ plan.getD j 0 ≠ 0) := Lib.hid (fullTo_mem plan plan.length)
    clear hok hh hbo hle hlen
    have HFE : Hid (fullTo plan plan.length = fullTo plan plan.length) := Lib.hid rfl
    go_wp2_with fail
    refine hF.mono ?_
    rintro e w3 ⟨_, rfl, FB, fd, rfl, OF, b3⟩
    generalize fullTo plan plan.length = fs at *
    have RF := Lib.hid (own_rd OF)
    have P3 := Lib.hid (P2.later b3)
    have HB3 := Lib.hid (below_trans HB2.out b3)
    have hsz3 : w.heap.size < w3.heap.size := P3.out.lt
    have HR3 := Lib.hid (hr.below HB3.out)
    have HPR3 := Lib.hid (hp.below HB3.out)
    clear OF P2 b3 hF
    go_wp2_with fail
    generalize hfl : fs.length = fl at *
    have HFLN := Lib.hid hfl
    clear hfl
    go_loopw [7, 19, 9, 10] (fun o i _ _ wr => ∃ (k p : Nat) (xs : List Value), k ≤ fl ∧ i = .int .i64 k ∧ Hid (p = nearL ⟨y0, y1, y2⟩ bs plan (fs.take k)) ∧ p ≤ 36 * k ∧ wr.ownsRow w3.heap.size 99 2 o p xs ∧ Below w3.heap.size w3 wr) (fun _ i _ _ _ => fl - (intOf i).toNat)
    case atStart => exact ⟨0, 0, [], Nat.zero_le _, rfl, Lib.hid rfl, by omega, World.ownsRow_nil _ _ _ _, Below.refl _ _⟩
    case round =>
      obtain ⟨k, p, xs, hk, rfl, HP, hp36, hO, hb⟩ := hrel
      have hfl36 : fl ≤ 36 := HFL.out
      by_cases hlt : k < fl
      · have hki : (k : Int) < (fl : Int) := by omega
        have hkf : k < fs.length := by rw [HFLN.out]; exact hlt
        obtain ⟨fb, fo, rfl, hfb, hfc⟩ := ints_cell (RF.out.below hb) hkf
        have hcell := hfc k hkf
        obtain ⟨j, ej, hj, hpj⟩ := HFM.out fs[k] (List.getElem_mem hkf)
        have HST : Hid (nearL ⟨y0, y1, y2⟩ bs plan (fs.take (k + 1)) = nearL ⟨y0, y1, y2⟩ bs plan (fs.take k) + nearRow ⟨y0, y1, y2⟩ bs plan j m) := Lib.hid (by rw [nearL_step hkf ej, HPN.out])
        rw [ej] at hcell
        rw [HPN.out] at hj
        have hji : (j : Int) < (m : Int) := by omega
        have HP0 : Hid (p = nearL ⟨y0, y1, y2⟩ bs plan (fs.take k) + nearRow ⟨y0, y1, y2⟩ bs plan j (j + 1)) := Lib.hid (by rw [nearRow_low _ _ _ _ _ (Nat.le_refl _), Nat.add_zero]; exact HP.out)
        have O2 := hO
        have hb2 := hb
        have HPJ := Lib.hid hpj
        clear hO hb HP ej hfc hpj
        go_wp2_with fail
        go_loopw [7, 10] (fun o bb wr2 => ∃ (b p2 : Nat) (xs2 : List Value), j + 1 ≤ b ∧ b ≤ m ∧ bb = .int .i64 b ∧ Hid (p2 = nearL ⟨y0, y1, y2⟩ bs plan (fs.take k) + nearRow ⟨y0, y1, y2⟩ bs plan j b) ∧ p2 ≤ 36 * k + b ∧ wr2.ownsRow w3.heap.size 99 2 o p2 xs2 ∧ Below w3.heap.size w3 wr2) (fun _ bb _ => m - (intOf bb).toNat)
        case atStart => exact ⟨j + 1, p, xs, Nat.le_refl _, by omega, by go_num, HP0, by omega, O2, hb2⟩
        case round =>
          clear O2 hb2 HP0 hcell hfb
          obtain ⟨b, p2, xs2, hb1, hbm, rfl, HP2, hp2, hO2, hb2⟩ := hrel
          obtain ⟨wo, rfl⟩ : ∃ wo : World, wo = wr := ⟨_, rfl⟩
          by_cases hltb : b < m
          · have hbi : (b : Int) < (m : Int) := by omega
            have hjl : j < plan.length := by rw [HPN.out]; exact hj
            have hbl : b < plan.length := by rw [HPN.out]; exact hltb
            obtain ⟨pb, po, rfl, hpb, hpcl⟩ := ints_cell (HPR3.out.below hb2) hjl
            have cj := hpcl j hjl
            have cb := hpcl b hbl
            have hvj := planD_at hjl
            have hvb := planD_at hbl
            have hpj := HPJ.out
            have HV1 := Lib.hid (fun h0 => planOk_has HOK.out (k := b) hbl h0)
            have HV2 := Lib.hid (planOk_has HOK.out (k := j) hjl hpj)
            have HC1 := Lib.hid (clsP_full (bs := bs) hpj)
            have HC2 := Lib.hid (fun h0 => clsP_full (bs := bs) (plan := plan) (k := b) h0)
            have HSK := Lib.hid (fun h0 => nearRow_skip (h := ⟨y0, y1, y2⟩) (bs := bs) (a := j) (plan := plan) (b := b) h0)
            rw [hvj] at hpj HV2 HC1
            rw [hvb] at HV1 HC2 HSK
            generalize plan[j] = vj at *
            generalize plan[b] = vb at *
            clear hpcl hvj hvb
            by_cases h0 : vb = 0
            · have HP7 : Hid (p2 = nearL ⟨y0, y1, y2⟩ bs plan (fs.take k) + nearRow ⟨y0, y1, y2⟩ bs plan j (b + 1)) := Lib.hid (by rw [HSK.out h0]; exact HP2.out)
              subst h0
              clear HP2 HSK HV1 HV2 HC1 HC2 cj
              go_wp2_with fail
              go_quiet (fail)
              go_wp2_with fail
              go_roundw
              case rel => exact ⟨b + 1, p2, xs2, by omega, by omega, by go_num, HP7, by omega, own_drewN hO2 _, below_drewN hb2 _⟩
              case measure => simp [intOf]; omega
            · have hf1 := HV1.out h0
              have HCB := HC2.out h0
              have r1 := clsB_range HBO.out HV2.out
              have r2 := clsB_range HBO.out hf1
              have hA := fun W => implApart ⟨y0, y1, y2⟩ j b W HH.out ⟨by omega, by omega⟩ ⟨by omega, by omega⟩
              have hC1 := fun W (hW : (Below wo.heap.size wo W ∧ W.cell? ⟨w.heap.size, 0, none⟩ = some (.int .i64 y0) ∧ W.cell? ⟨w.heap.size, 1, none⟩ = some (.int .i64 y1) ∧ W.cell? ⟨w.heap.size, 2, none⟩ = some (.int .i64 y2) ∧ W.cell? ⟨pb, po + j, none⟩ = some (.int .i64 vj) ∧ W.cell? ⟨pb, po + b, none⟩ = some (.int .i64 vb))) => implClassAt A n c bs vj W HN.out ((HR3.out.below hb2).below hW.1) (by omega) HV2.out
              have hC2 := fun W (hW : (Below wo.heap.size wo W ∧ W.cell? ⟨w.heap.size, 0, none⟩ = some (.int .i64 y0) ∧ W.cell? ⟨w.heap.size, 1, none⟩ = some (.int .i64 y1) ∧ W.cell? ⟨w.heap.size, 2, none⟩ = some (.int .i64 y2) ∧ W.cell? ⟨pb, po + j, none⟩ = some (.int .i64 vj) ∧ W.cell? ⟨pb, po + b, none⟩ = some (.int .i64 vb))) => implClassAt A n c bs vb W HN.out ((HR3.out.below hb2).below hW.1) (by omega) hf1
              have HY : Hid (apartH ⟨y0, y1, y2⟩ j b < needC (clsP bs plan j) (clsP bs plan b) → nearRow ⟨y0, y1, y2⟩ bs plan j (b + 1) = nearRow ⟨y0, y1, y2⟩ bs plan j b + 1) := Lib.hid (fun h => nearRow_yes (by omega) h)
              have HNO : Hid (needC (clsP bs plan j) (clsP bs plan b) ≤ apartH ⟨y0, y1, y2⟩ j b → nearRow ⟨y0, y1, y2⟩ bs plan j (b + 1) = nearRow ⟨y0, y1, y2⟩ bs plan j b) := Lib.hid (fun h => nearRow_no (by omega))
              rw [HC1.out, HCB] at HY HNO
              clear HCB
              dsimp only at hA
              generalize apartH ⟨y0, y1, y2⟩ j b = ap at *
              generalize clsB bs vj = ck at *
              generalize clsB bs vb = cb2 at *
              have hN := fun W => implApartNeed ck cb2 W r1 r2
              generalize needC ck cb2 = nd at *
              have P3' := P3.out.later hb2
              have x0 := P3'.cellAt 0 (by simp)
              have x1 := P3'.cellAt 1 (by simp)
              have x2 := P3'.cellAt 2 (by simp)
              simp only [List.getElem_cons_zero, List.getElem_cons_succ] at x0 x1 x2
              have lx := P3'.lt
              have HO2 := Lib.hid hO2
              have HB4 := Lib.hid hb2
              have g0 : (vb != 0) = true := by simp [h0]
              have k0 : (Below wo.heap.size wo wo ∧ wo.cell? ⟨w.heap.size, 0, none⟩ = some (.int .i64 y0) ∧ wo.cell? ⟨w.heap.size, 1, none⟩ = some (.int .i64 y1) ∧ wo.cell? ⟨w.heap.size, 2, none⟩ = some (.int .i64 y2) ∧ wo.cell? ⟨pb, po + j, none⟩ = some (.int .i64 vj) ∧ wo.cell? ⟨pb, po + b, none⟩ = some (.int .i64 vb)) := ⟨Below.refl _ _, x0, x1, x2, cj, cb⟩
              clear hO2 hb2 hjl hbl r1 r2 P3' HSK HV1 HV2 HC1 HC2 hf1
              go_wp2_with fail
              go_region_held3 (fun W => (Below wo.heap.size wo W ∧ W.cell? ⟨w.heap.size, 0, none⟩ = some (.int .i64 y0) ∧ W.cell? ⟨w.heap.size, 1, none⟩ = some (.int .i64 y1) ∧ W.cell? ⟨w.heap.size, 2, none⟩ = some (.int .i64 y2) ∧ W.cell? ⟨pb, po + j, none⟩ = some (.int .i64 vj) ∧ W.cell? ⟨pb, po + b, none⟩ = some (.int .i64 vb)))
                (first | assumption | exact k0 | exact kA | exact kB | exact kC | exact kN | exact nearKeep lx hpb (by assumption) (Below.drew (Below.refl _ _)))
                (first
                  | (go_at_call 73; (with_reducible refine (hA _).mono ?_); rintro e w5 ⟨rfl, h5⟩; have kA := nearKeep lx hpb (by assumption) h5; clear h5)
                  | (go_at_call 75; (with_reducible refine (hC1 _ (by assumption)).mono ?_); rintro e w6 ⟨rfl, h6⟩; have kB := nearKeep lx hpb (by assumption) h6; clear h6)
                  | (go_at_call 75; (with_reducible refine (hC2 _ (by assumption)).mono ?_); rintro e w7 ⟨rfl, h7⟩; have kC := nearKeep lx hpb (by assumption) h7; clear h7)
                  | (go_at_call 74; (with_reducible refine (hN _).mono ?_); rintro e w8 ⟨rfl, q8, rfl⟩; have kN := nearKeep lx hpb (by assumption) (below_drewN (Below.refl _ _) q8)))
              have HZ := Lib.hid kN.1
              generalize w7.drewN q8 = w9 at *
              have HB5 := Lib.hid (below_trans HB4.out HZ.out)
              have HO5 := Lib.hid (own_later HO2.out HZ.out)
              clear kN kA kB kC k0 hA hC1 hC2 hN x0 x1 x2 cj cb HZ HB4 HO2
              have hsz : w3.heap.size ≤ w9.heap.size := HB5.out.size
              obtain ⟨OB, od, rfl, _, _⟩ := own_slice HO5.out
              by_cases hlt2 : ap < nd
              · have HP7 : Hid (p2 + 1 = nearL ⟨y0, y1, y2⟩ bs plan (fs.take k) + nearRow ⟨y0, y1, y2⟩ bs plan j (b + 1)) := Lib.hid (by rw [HY.out hlt2, HP2.out]; omega)
                clear HY HNO HP2
                go_wp2_with (at_builtin; refine append_new rfl (.tmp 56) (.tmp 60) 70 rfl 99 _ _ _ Tryz.underlying70 pair_infoN w3.heap.size w9 (.slice OB p2 od) p2 xs2 rfl HO5.out [.int .i64 (j : Int), .int .i64 (b : Int)] (by first | rfl | (simp; with_unfolding_all rfl)) rfl (by simp [Value.oneCell']) (by omega) hsz ?_; intro v' w6 hown6 hg6 hblk6)
                go_roundw
                case rel => exact ⟨b + 1, p2 + 1, _, by omega, by omega, by go_num, HP7, by omega, hown6, below_append HB5.out hg6 HO5.out rfl⟩
                case measure => simp [intOf]; omega
              · have HP7 : Hid (p2 = nearL ⟨y0, y1, y2⟩ bs plan (fs.take k) + nearRow ⟨y0, y1, y2⟩ bs plan j (b + 1)) := Lib.hid (by rw [HNO.out (by omega)]; exact HP2.out)
                clear HY HNO HP2
                go_wp2_with fail
                go_roundw
                case rel => exact ⟨b + 1, p2, xs2, by omega, by omega, by go_num, HP7, by omega, HO5.out, HB5.out⟩
                case measure => simp [intOf]; omega
          · obtain rfl : b = m := by omega
            have HP7 : Hid (p2 = nearL ⟨y0, y1, y2⟩ bs plan (fs.take (k + 1))) := Lib.hid (by rw [HST.out]; exact HP2.out)
            clear HP2
            go_wp2_with fail
            go_roundw
            case rel => exact ⟨k + 1, p2, xs2, by omega, by go_num, HP7, by omega, hO2, hb2⟩
            case measure => simp [intOf]; omega
      · obtain rfl : k = fl := by omega
        have HE : Hid (p = nearN ⟨y0, y1, y2⟩ bs plan) := Lib.hid (by rw [HP.out, HI.out, List.take_of_length_le (by rw [HFLN.out]; exact Nat.le_refl _)])
        have HO := Lib.hid hO
        clear hO
        go_wp2_with fail
        go_ret
        exact nearOut_mk HO.out HE.out (HB3.out.trans (hb.mono HB3.out.size))
end Go.Proofs.YtbllbpjlkechdaaGreat
end
