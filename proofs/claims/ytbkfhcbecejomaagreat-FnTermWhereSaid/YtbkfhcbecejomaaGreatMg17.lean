/- Several texts of the proof in one; each says at its head what it proves; no condition. -/
import Derived.Test.YtbkfhcbecejomaaGreatMg15
import Derived.Test.YtbkfhcbecejomaaGreatMg16
import Derived.Test.YtbkfhcbecejomaaGreatMg6
import Derived.Test.YtbkfhcbecejomaaGreatMg7
section
/- Pairs of slots that are too near, the program: how many it returns. -/
namespace Go.Proofs.YtbkfhcbecejomaaGreat
open Go Go.ChangeShapes Go.WideShapes Go.ChangeAt Go.RowKit
set_option linter.unusedVariables false
theorem nearL_step {h : HullV} {bs : List BoxV} {plan : List Int} {zs : List Int} {i j : Nat} (hi : i < zs.length) (e : zs[i] = (j : Int)) : nearL h bs plan (zs.take (i + 1)) = nearL h bs plan (zs.take i) + nearRow h bs plan j plan.length := by
  rw [List.take_succ_eq_append_getElem hi, nearL_app, e]
  simp [nearL]
theorem nearKeep {wo W W' : World} {hb pb o1 o2 : Nat} {y0 y1 y2 vj vb : Int} (lh : hb < wo.heap.size) (lp : pb < wo.heap.size)
    (h : Below wo.heap.size wo W ∧ W.cell? ⟨hb, 0, none⟩ = some (.int .i64 y0) ∧ W.cell? ⟨hb, 1, none⟩ = some (.int .i64 y1) ∧ W.cell? ⟨hb, 2, none⟩ = some (.int .i64 y2) ∧ W.cell? ⟨pb, o1, none⟩ = some (.int .i64 vj) ∧ W.cell? ⟨pb, o2, none⟩ = some (.int .i64 vb)) (k : Below W.heap.size W W') :
    Below wo.heap.size wo W' ∧ W'.cell? ⟨hb, 0, none⟩ = some (.int .i64 y0) ∧ W'.cell? ⟨hb, 1, none⟩ = some (.int .i64 y1) ∧ W'.cell? ⟨hb, 2, none⟩ = some (.int .i64 y2) ∧ W'.cell? ⟨pb, o1, none⟩ = some (.int .i64 vj) ∧ W'.cell? ⟨pb, o2, none⟩ = some (.int .i64 vb) := by
  obtain ⟨h1, h2, h3, h4, h5, h6⟩ := h
  have lh' := Nat.lt_of_lt_of_le lh h1.size
  have lp' := Nat.lt_of_lt_of_le lp h1.size
  exact ⟨below_trans h1 k, (k.cell (p := ⟨hb, 0, none⟩) lh').trans h2, (k.cell (p := ⟨hb, 1, none⟩) lh').trans h3, (k.cell (p := ⟨hb, 2, none⟩) lh').trans h4, (k.cell (p := ⟨pb, o1, none⟩) lp').trans h5, (k.cell (p := ⟨pb, o2, none⟩) lp').trans h6⟩
theorem clsP_full {bs : List BoxV} {plan : List Int} {k : Nat} (h : plan.getD k 0 ≠ 0) : clsP bs plan k = clsB bs (plan.getD k 0) := by unfold clsP; rw [if_neg h]
theorem planD_at {plan : List Int} {k : Nat} (h : k < plan.length) : plan.getD k 0 = plan[k] := by simp [List.getD, h]
theorem ints_cell {w : World} {A : Option Addr} {zs : List Int} (h : RdV w A (ints zs)) {k : Nat} (hk : k < zs.length) : ∃ b o, A = some ⟨b, o, none⟩ ∧ b < w.heap.size ∧ ∀ i (hi : i < zs.length), w.cell? ⟨b, o + i, none⟩ = some (.int .i64 zs[i]) := by
  obtain ⟨b, o, e, hl, hc⟩ := h.pos (k := k) (by rw [ints_len]; exact hk)
  exact ⟨b, o, e, hl, fun i hi => by rw [hc i (by rw [ints_len]; exact hi), ints_at]⟩
set_option maxHeartbeats 8000000 in
set_option maxRecDepth 100000 in
theorem implTooNear (x : HullV) (A PA : Option Addr) (n c m pc : Nat) (bs : List BoxV) (plan : List Int) (w : World) (hn : bs.length = n) (hr : RdV w A (boxs bs)) (hnc : n ≤ c) (hm : n ≤ 1099511627776) (hpn : plan.length = m) (hp : RdV w PA (ints plan)) (hpc : m ≤ pc) (hpm : pc ≤ 9223372036854775807) :
    Calls Tryz.prog 11 #[.agg #[.int .i64 x.f0, .int .i64 x.f1, .int .i64 x.f2], .slice A n c, .slice PA m pc] w (NearOut w (nearN x bs plan)) := by
  obtain ⟨y0, y1, y2⟩ := x
  have HN := Lib.hid hn
  have HPN := Lib.hid hpn
  clear hn hpn
  have hal : Below w.heap.size w (w.alloc (.cells #[.int .i64 y0, .int .i64 y1, .int .i64 y2] 27)) := (Below.refl _ _).alloc (Nat.le_refl _) _
  have hP : Blk (w.alloc (.cells #[.int .i64 y0, .int .i64 y1, .int .i64 y2] 27)) w.heap.size 27 [.int .i64 y0, .int .i64 y1, .int .i64 y2] := Blk.new _ _ _
  have hV := fun W (hW : Below w.heap.size w W) => implPlanValid ⟨y0, y1, y2⟩ A PA n c m pc bs plan W HN.out (hr.below hW) hnc hm HPN.out (hp.below hW) hpc hpm
  dsimp only at *
  go_enter Tryz.func11, Tryz.ntmps11
  go_wp2_with fail
  generalize w.alloc (.cells #[.int .i64 y0, .int .i64 y1, .int .i64 y2] 27) = w1 at *
  refine (hV w1 hal).mono ?_
  rintro e w2 ⟨rfl, b2⟩
  have HB2 := Lib.hid (below_trans hal b2)
  have P2 := hP.later b2
  clear hal hP b2 hV
  cases hok : planOk ⟨y0, y1, y2⟩ bs plan with
  | false =>
    have HI : Hid (nearN ⟨y0, y1, y2⟩ bs plan = 0) := Lib.hid (by simp [nearN, hok])
    clear hok P2
    go_wp2_with fail
    go_ret
    exact nearOut_mk (World.ownsRow_nil _ 0 _ _) HI.out.symm HB2.out
  | true =>
    have HI : Hid (nearN ⟨y0, y1, y2⟩ bs plan = nearL ⟨y0, y1, y2⟩ bs plan (fullTo plan plan.length)) := Lib.hid (by rw [nearL_full]; simp [nearN, hok])
    have HOK := Lib.hid hok
    obtain ⟨hh, hbo, hlen, _⟩ := planOk_parts hok
    have hle := slots_le hh
    rw [HPN.out] at hlen
    have hm36 : m ≤ 36 := by omega
    have HH := Lib.hid hh
    have HBO := Lib.hid hbo
    have hF := implFullSlots PA m pc plan w2 HPN.out (hp.below HB2.out) (by omega)
    have HFL : Hid ((fullTo plan plan.length).length ≤ 36) := Lib.hid (Nat.le_trans (fullTo_len _ _) (by rw [HPN.out]; exact hm36))
    have HFM : Hid (∀ z, z ∈ fullTo plan plan.length → ∃ j : Nat, z = (j : Int) ∧ j < plan.length ∧ plan.getD j 0 ≠ 0) := Lib.hid (fullTo_mem plan plan.length)
    clear hok hh hbo hle hlen
    have HFE : Hid (fullTo plan plan.length = fullTo plan plan.length) := Lib.hid rfl
    go_wp2_with fail
    refine hF.mono ?_
    rintro e w3 ⟨_, rfl, FB, fd, rfl, OF, b3⟩
    generalize fullTo plan plan.length = fs at *
    have RF := Lib.hid (own_rd OF)
    have P3 := Lib.hid (P2.later b3)
    have HB3 := Lib.hid (below_trans HB2.out b3)
    have hsz3 : w.heap.size < w3.heap.size := P3.out.lt
    have HR3 := Lib.hid (hr.below HB3.out)
    have HPR3 := Lib.hid (hp.below HB3.out)
    clear OF P2 b3 hF
    go_wp2_with fail
    generalize hfl : fs.length = fl at *
    have HFLN := Lib.hid hfl
    clear hfl
    go_loopw [7, 19, 9, 10] (fun o i _ _ wr => ∃ (k p : Nat) (xs : List Value), k ≤ fl ∧ i = .int .i64 k ∧ Hid (p = nearL ⟨y0, y1, y2⟩ bs plan (fs.take k)) ∧ p ≤ 36 * k ∧ wr.ownsRow w3.heap.size 67 2 o p xs ∧ Below w3.heap.size w3 wr) (fun _ i _ _ _ => fl - (intOf i).toNat)
    case atStart => exact ⟨0, 0, [], Nat.zero_le _, rfl, Lib.hid rfl, by omega, World.ownsRow_nil _ _ _ _, Below.refl _ _⟩
    case round =>
      obtain ⟨k, p, xs, hk, rfl, HP, hp36, hO, hb⟩ := hrel
      have hfl36 : fl ≤ 36 := HFL.out
      by_cases hlt : k < fl
      · have hki : (k : Int) < (fl : Int) := by omega
        have hkf : k < fs.length := by rw [HFLN.out]; exact hlt
        obtain ⟨fb, fo, rfl, hfb, hfc⟩ := ints_cell (RF.out.below hb) hkf
        have hcell := hfc k hkf
        obtain ⟨j, ej, hj, hpj⟩ := HFM.out fs[k] (List.getElem_mem hkf)
        have HST : Hid (nearL ⟨y0, y1, y2⟩ bs plan (fs.take (k + 1)) = nearL ⟨y0, y1, y2⟩ bs plan (fs.take k) + nearRow ⟨y0, y1, y2⟩ bs plan j m) := Lib.hid (by rw [nearL_step hkf ej, HPN.out])
        rw [ej] at hcell
        rw [HPN.out] at hj
        have hji : (j : Int) < (m : Int) := by omega
        have HP0 : Hid (p = nearL ⟨y0, y1, y2⟩ bs plan (fs.take k) + nearRow ⟨y0, y1, y2⟩ bs plan j (j + 1)) := Lib.hid (by rw [nearRow_low _ _ _ _ _ (Nat.le_refl _), Nat.add_zero]; exact HP.out)
        have O2 := hO
        have hb2 := hb
        have HPJ := Lib.hid hpj
        clear hO hb HP ej hfc hpj
        go_wp2_with fail
        go_loopw [7, 10] (fun o bb wr2 => ∃ (b p2 : Nat) (xs2 : List Value), j + 1 ≤ b ∧ b ≤ m ∧ bb = .int .i64 b ∧ Hid (p2 = nearL ⟨y0, y1, y2⟩ bs plan (fs.take k) + nearRow ⟨y0, y1, y2⟩ bs plan j b) ∧ p2 ≤ 36 * k + b ∧ wr2.ownsRow w3.heap.size 67 2 o p2 xs2 ∧ Below w3.heap.size w3 wr2) (fun _ bb _ => m - (intOf bb).toNat)
        case atStart => exact ⟨j + 1, p, xs, Nat.le_refl _, by omega, by go_num, HP0, by omega, O2, hb2⟩
        case round =>
          clear O2 hb2 HP0 hcell hfb
          obtain ⟨b, p2, xs2, hb1, hbm, rfl, HP2, hp2, hO2, hb2⟩ := hrel
          obtain ⟨wo, rfl⟩ : ∃ wo : World, wo = wr := ⟨_, rfl⟩
          by_cases hltb : b < m
          · have hbi : (b : Int) < (m : Int) := by omega
            have hjl : j < plan.length := by rw [HPN.out]; exact hj
            have hbl : b < plan.length := by rw [HPN.out]; exact hltb
            obtain ⟨pb, po, rfl, hpb, hpcl⟩ := ints_cell (HPR3.out.below hb2) hjl
            have cj := hpcl j hjl
            have cb := hpcl b hbl
            have hvj := planD_at hjl
            have hvb := planD_at hbl
            have hpj := HPJ.out
            have HV1 := Lib.hid (fun h0 => planOk_has HOK.out (k := b) hbl h0)
            have HV2 := Lib.hid (planOk_has HOK.out (k := j) hjl hpj)
            have HC1 := Lib.hid (clsP_full (bs := bs) hpj)
            have HC2 := Lib.hid (fun h0 => clsP_full (bs := bs) (plan := plan) (k := b) h0)
            have HSK := Lib.hid (fun h0 => nearRow_skip (h := ⟨y0, y1, y2⟩) (bs := bs) (a := j) (plan := plan) (b := b) h0)
            rw [hvj] at hpj HV2 HC1
            rw [hvb] at HV1 HC2 HSK
            generalize plan[j] = vj at *
            generalize plan[b] = vb at *
            clear hpcl hvj hvb
            by_cases h0 : vb = 0
            · have HP7 : Hid (p2 = nearL ⟨y0, y1, y2⟩ bs plan (fs.take k) + nearRow ⟨y0, y1, y2⟩ bs plan j (b + 1)) := Lib.hid (by rw [HSK.out h0]; exact HP2.out)
              subst h0
              clear HP2 HSK HV1 HV2 HC1 HC2 cj
              go_wp2_with fail
              go_quiet (fail)
              go_wp2_with fail
              go_roundw
              case rel => exact ⟨b + 1, p2, xs2, by omega, by omega, by go_num, HP7, by omega, own_drewN hO2 _, below_drewN hb2 _⟩
              case measure => simp [intOf]; omega
            · have hf1 := HV1.out h0
              have HCB := HC2.out h0
              have r1 := clsB_range HBO.out HV2.out
              have r2 := clsB_range HBO.out hf1
              have hA := fun W => implApart ⟨y0, y1, y2⟩ j b W HH.out ⟨by omega, by omega⟩ ⟨by omega, by omega⟩
              have hC1 := fun W (hW : (Below wo.heap.size wo W ∧ W.cell? ⟨w.heap.size, 0, none⟩ = some (.int .i64 y0) ∧ W.cell? ⟨w.heap.size, 1, none⟩ = some (.int .i64 y1) ∧ W.cell? ⟨w.heap.size, 2, none⟩ = some (.int .i64 y2) ∧ W.cell? ⟨pb, po + j, none⟩ = some (.int .i64 vj) ∧ W.cell? ⟨pb, po + b, none⟩ = some (.int .i64 vb))) => implClassAt A n c bs vj W HN.out ((HR3.out.below hb2).below hW.1) (by omega) HV2.out
              have hC2 := fun W (hW : (Below wo.heap.size wo W ∧ W.cell? ⟨w.heap.size, 0, none⟩ = some (.int .i64 y0) ∧ W.cell? ⟨w.heap.size, 1, none⟩ = some (.int .i64 y1) ∧ W.cell? ⟨w.heap.size, 2, none⟩ = some (.int .i64 y2) ∧ W.cell? ⟨pb, po + j, none⟩ = some (.int .i64 vj) ∧ W.cell? ⟨pb, po + b, none⟩ = some (.int .i64 vb))) => implClassAt A n c bs vb W HN.out ((HR3.out.below hb2).below hW.1) (by omega) hf1
              have HY : Hid (apartH ⟨y0, y1, y2⟩ j b < needC (clsP bs plan j) (clsP bs plan b) → nearRow ⟨y0, y1, y2⟩ bs plan j (b + 1) = nearRow ⟨y0, y1, y2⟩ bs plan j b + 1) := Lib.hid (fun h => nearRow_yes (by omega) h)
              have HNO : Hid (needC (clsP bs plan j) (clsP bs plan b) ≤ apartH ⟨y0, y1, y2⟩ j b → nearRow ⟨y0, y1, y2⟩ bs plan j (b + 1) = nearRow ⟨y0, y1, y2⟩ bs plan j b) := Lib.hid (fun h => nearRow_no (by omega))
              rw [HC1.out, HCB] at HY HNO
              clear HCB
              dsimp only at hA
              generalize apartH ⟨y0, y1, y2⟩ j b = ap at *
              generalize clsB bs vj = ck at *
              generalize clsB bs vb = cb2 at *
              have hN := fun W => implApartNeed ck cb2 W r1 r2
              generalize needC ck cb2 = nd at *
              have P3' := P3.out.later hb2
              have x0 := P3'.cellAt 0 (by simp)
              have x1 := P3'.cellAt 1 (by simp)
              have x2 := P3'.cellAt 2 (by simp)
              simp only [List.getElem_cons_zero, List.getElem_cons_succ] at x0 x1 x2
              have lx := P3'.lt
              have HO2 := Lib.hid hO2
              have HB4 := Lib.hid hb2
              have g0 : (vb != 0) = true := by simp [h0]
              have k0 : (Below wo.heap.size wo wo ∧ wo.cell? ⟨w.heap.size, 0, none⟩ = some (.int .i64 y0) ∧ wo.cell? ⟨w.heap.size, 1, none⟩ = some (.int .i64 y1) ∧ wo.cell? ⟨w.heap.size, 2, none⟩ = some (.int .i64 y2) ∧ wo.cell? ⟨pb, po + j, none⟩ = some (.int .i64 vj) ∧ wo.cell? ⟨pb, po + b, none⟩ = some (.int .i64 vb)) := ⟨Below.refl _ _, x0, x1, x2, cj, cb⟩
              clear hO2 hb2 hjl hbl r1 r2 P3' HSK HV1 HV2 HC1 HC2 hf1
              go_wp2_with fail
              go_region_held3 (fun W => (Below wo.heap.size wo W ∧ W.cell? ⟨w.heap.size, 0, none⟩ = some (.int .i64 y0) ∧ W.cell? ⟨w.heap.size, 1, none⟩ = some (.int .i64 y1) ∧ W.cell? ⟨w.heap.size, 2, none⟩ = some (.int .i64 y2) ∧ W.cell? ⟨pb, po + j, none⟩ = some (.int .i64 vj) ∧ W.cell? ⟨pb, po + b, none⟩ = some (.int .i64 vb)))
                (first | assumption | exact k0 | exact kA | exact kB | exact kC | exact kN | exact nearKeep lx hpb (by assumption) (Below.drew (Below.refl _ _)))
                (first
                  | (go_at_call 38; (with_reducible refine (hA _).mono ?_); rintro e w5 ⟨rfl, h5⟩; have kA := nearKeep lx hpb (by assumption) h5; clear h5)
                  | (go_at_call 40; (with_reducible refine (hC1 _ (by assumption)).mono ?_); rintro e w6 ⟨rfl, h6⟩; have kB := nearKeep lx hpb (by assumption) h6; clear h6)
                  | (go_at_call 40; (with_reducible refine (hC2 _ (by assumption)).mono ?_); rintro e w7 ⟨rfl, h7⟩; have kC := nearKeep lx hpb (by assumption) h7; clear h7)
                  | (go_at_call 39; (with_reducible refine (hN _).mono ?_); rintro e w8 ⟨rfl, q8, rfl⟩; have kN := nearKeep lx hpb (by assumption) (below_drewN (Below.refl _ _) q8)))
              have HZ := Lib.hid kN.1
              generalize w7.drewN q8 = w9 at *
              have HB5 := Lib.hid (below_trans HB4.out HZ.out)
              have HO5 := Lib.hid (own_later HO2.out HZ.out)
              clear kN kA kB kC k0 hA hC1 hC2 hN x0 x1 x2 cj cb HZ HB4 HO2
              have hsz : w3.heap.size ≤ w9.heap.size := HB5.out.size
              obtain ⟨OB, od, rfl, _, _⟩ := own_slice HO5.out
              by_cases hlt2 : ap < nd
              · have HP7 : Hid (p2 + 1 = nearL ⟨y0, y1, y2⟩ bs plan (fs.take k) + nearRow ⟨y0, y1, y2⟩ bs plan j (b + 1)) := Lib.hid (by rw [HY.out hlt2, HP2.out]; omega)
                clear HY HNO HP2
                go_wp2_with (at_builtin; refine append_new rfl (.tmp 56) (.tmp 60) 40 rfl 67 _ _ _ Tryz.underlying40 pair_infoN w3.heap.size w9 (.slice OB p2 od) p2 xs2 rfl HO5.out [.int .i64 (j : Int), .int .i64 (b : Int)] (by first | rfl | (simp; with_unfolding_all rfl)) rfl (by simp [Value.oneCell']) (by omega) hsz ?_; intro v' w6 hown6 hg6 hblk6)
                go_roundw
                case rel => exact ⟨b + 1, p2 + 1, _, by omega, by omega, by go_num, HP7, by omega, hown6, below_append HB5.out hg6 HO5.out rfl⟩
                case measure => simp [intOf]; omega
              · have HP7 : Hid (p2 = nearL ⟨y0, y1, y2⟩ bs plan (fs.take k) + nearRow ⟨y0, y1, y2⟩ bs plan j (b + 1)) := Lib.hid (by rw [HNO.out (by omega)]; exact HP2.out)
                clear HY HNO HP2
                go_wp2_with fail
                go_roundw
                case rel => exact ⟨b + 1, p2, xs2, by omega, by omega, by go_num, HP7, by omega, HO5.out, HB5.out⟩
                case measure => simp [intOf]; omega
          · obtain rfl : b = m := by omega
            have HP7 : Hid (p2 = nearL ⟨y0, y1, y2⟩ bs plan (fs.take (k + 1))) := Lib.hid (by rw [HST.out]; exact HP2.out)
            clear HP2
            go_wp2_with fail
            go_roundw
            case rel => exact ⟨k + 1, p2, xs2, by omega, by go_num, HP7, by omega, hO2, hb2⟩
            case measure => simp [intOf]; omega
      · obtain rfl : k = fl := by omega
        have HE : Hid (p = nearN ⟨y0, y1, y2⟩ bs plan) := Lib.hid (by rw [HP.out, HI.out, List.take_of_length_le (by rw [HFLN.out]; exact Nat.le_refl _)])
        have HO := Lib.hid hO
        clear hO
        go_wp2_with fail
        go_ret
        exact nearOut_mk HO.out HE.out (HB3.out.trans (hb.mono HB3.out.size))
end Go.Proofs.YtbkfhcbecejomaaGreat
end
section
/- Terminals: the program says whether one is valid. -/
namespace Go.Proofs.YtbkfhcbecejomaaGreat
open Go Go.ChangeShapes Go.WideShapes Go.ChangeAt Go.RowKit
set_option linter.unusedVariables false
set_option maxHeartbeats 4000000 in
set_option maxRecDepth 100000 in
theorem implTermValid (high : Int) (x : HullV) (YA BA PA HA LA : Option Addr) (yn yc bn bc pn pc hn hc ln lc : Nat) (rows : List (List Int)) (bs : List BoxV) (plan : List Int) (hs : List HoldV) (ls : List Int) (w : World) (T : TrmRd w YA BA PA HA LA yn bn bc pn pc hn ln rows bs plan hs ls) :
    Calls Tryz.prog 6 #[.agg #[.int .i64 high, .slice YA yn yc, .int .i64 x.f0, .int .i64 x.f1, .int .i64 x.f2, .slice BA bn bc, .slice PA pn pc, .slice HA hn hc, .slice LA ln lc]] w fun e w' => e = .returned (.bool (termOk high rows x bs plan ⟨hs, ls⟩)) ∧ Below w.heap.size w w' := by
  obtain ⟨y0, y1, y2⟩ := x
  have TT := Lib.hid T
  have t1 := T.ym
  have t2 := T.bm
  have t3 := T.pm
  have t4 := T.hm
  have t5 := T.lm
  clear T
  have hal : Below w.heap.size w (w.alloc (.cells #[.int .i64 high, .slice YA yn yc, .int .i64 y0, .int .i64 y1, .int .i64 y2, .slice BA bn bc, .slice PA pn pc, .slice HA hn hc, .slice LA ln lc] 34)) := (Below.refl _ _).alloc (Nat.le_refl _) _
  have hP : Blk (w.alloc (.cells #[.int .i64 high, .slice YA yn yc, .int .i64 y0, .int .i64 y1, .int .i64 y2, .slice BA bn bc, .slice PA pn pc, .slice HA hn hc, .slice LA ln lc] 34)) w.heap.size 34 [.int .i64 high, .slice YA yn yc, .int .i64 y0, .int .i64 y1, .int .i64 y2, .slice BA bn bc, .slice PA pn pc, .slice HA hn hc, .slice LA ln lc] := Blk.new _ _ _
  dsimp only at *
  go_enter Tryz.func6, Tryz.ntmps6
  go_wp2_with fail
  generalize w.alloc (.cells #[.int .i64 high, .slice YA yn yc, .int .i64 y0, .int .i64 y1, .int .i64 y2, .slice BA bn bc, .slice PA pn pc, .slice HA hn hc, .slice LA ln lc] 34) = w1 at *
  have T1 := TT.out.below hal
  refine (implYardValid high YA yn yc rows w1 T1.yl T1.yr (by omega)).mono ?_
  rintro e w2 ⟨rfl, b2⟩
  have HB := Lib.hid (below_trans hal b2)
  have P2 := hP.later b2
  clear hal hP b2 T1
  cases hy : yardOk high rows with
  | false =>
    have HE : Hid (termOk high rows ⟨y0, y1, y2⟩ bs plan ⟨hs, ls⟩ = false) := Lib.hid (termOk_yard hy)
    clear hy P2
    go_wp2_with fail
    go_ret
    exact ⟨by rw [HE.out]; rfl, HB.out⟩
  | true =>
    have HY := Lib.hid hy
    clear hy
    have x0 := (P2).cellAt 0 (by simp)
    have x1 := (P2).cellAt 1 (by simp)
    have x2 := (P2).cellAt 2 (by simp)
    have x3 := (P2).cellAt 3 (by simp)
    have x4 := (P2).cellAt 4 (by simp)
    have x5 := (P2).cellAt 5 (by simp)
    have x6 := (P2).cellAt 6 (by simp)
    have x7 := (P2).cellAt 7 (by simp)
    have x8 := (P2).cellAt 8 (by simp)
    simp only [List.getElem_cons_zero, List.getElem_cons_succ] at x0 x1 x2 x3 x4 x5 x6 x7 x8
    have xl := (P2).lt
    go_wp2_with fail
    have T2 := TT.out.below HB.out
    refine (implPlanValid ⟨y0, y1, y2⟩ BA PA bn bc pn pc bs plan w2 T2.bl T2.br T2.bk (by omega) T2.pl T2.pr T2.pk T2.px).mono ?_
    rintro e w3 ⟨rfl, b3⟩
    have HB3 := Lib.hid (below_trans HB.out b3)
    have P3 := P2.later b3
    clear b3 HB P2 T2 x0 x1 x2 x3 x4 x5 x6 x7 x8 xl
    cases hp : planOk ⟨y0, y1, y2⟩ bs plan with
    | false =>
      have HE : Hid (termOk high rows ⟨y0, y1, y2⟩ bs plan ⟨hs, ls⟩ = false) := Lib.hid (termOk_plan hp)
      have HB := HB3
      clear hp P3
      go_wp2_with fail
      go_ret
      exact ⟨by rw [HE.out]; rfl, HB.out⟩
    | true =>
      have HPL := Lib.hid hp
      clear hp
      have x0 := (P3).cellAt 0 (by simp)
      have x1 := (P3).cellAt 1 (by simp)
      have x2 := (P3).cellAt 2 (by simp)
      have x3 := (P3).cellAt 3 (by simp)
      have x4 := (P3).cellAt 4 (by simp)
      have x5 := (P3).cellAt 5 (by simp)
      have x6 := (P3).cellAt 6 (by simp)
      have x7 := (P3).cellAt 7 (by simp)
      have x8 := (P3).cellAt 8 (by simp)
      simp only [List.getElem_cons_zero, List.getElem_cons_succ] at x0 x1 x2 x3 x4 x5 x6 x7 x8
      have xl := (P3).lt
      go_wp2_with fail
      have T3 := TT.out.below HB3.out
      refine (implPapersValid HA LA hn hc ln lc hs ls w3 T3.hl T3.ll T3.hr T3.lr (by omega) (by omega)).mono ?_
      rintro e w4 ⟨rfl, b4⟩
      have HB4 := Lib.hid (below_trans HB3.out b4)
      have P4 := P3.later b4
      clear b4 HB3 P3 T3 x0 x1 x2 x3 x4 x5 x6 x7 x8 xl
      cases hpp : papOk hs ls with
      | false =>
        have HE : Hid (termOk high rows ⟨y0, y1, y2⟩ bs plan ⟨hs, ls⟩ = false) := Lib.hid (termOk_pap hpp)
        have HB := HB4
        clear hpp P4
        go_wp2_with fail
        go_ret
        exact ⟨by rw [HE.out]; rfl, HB.out⟩
      | true =>
        have HPP := Lib.hid hpp
        clear hpp
        have x0 := (P4).cellAt 0 (by simp)
        have x1 := (P4).cellAt 1 (by simp)
        have x2 := (P4).cellAt 2 (by simp)
        have x3 := (P4).cellAt 3 (by simp)
        have x4 := (P4).cellAt 4 (by simp)
        have x5 := (P4).cellAt 5 (by simp)
        have x6 := (P4).cellAt 6 (by simp)
        have x7 := (P4).cellAt 7 (by simp)
        have x8 := (P4).cellAt 8 (by simp)
        simp only [List.getElem_cons_zero, List.getElem_cons_succ] at x0 x1 x2 x3 x4 x5 x6 x7 x8
        have xl := (P4).lt
        go_wp2_with fail
        have T4 := TT.out.below HB4.out
        refine (implTooNear ⟨y0, y1, y2⟩ BA PA bn bc pn pc bs plan w4 T4.bl T4.br T4.bk (by omega) T4.pl T4.pr T4.pk T4.px).mono ?_
        rintro e w5 ⟨_, rfl, NB, nd, rfl, b5⟩
        have HB5 := Lib.hid (below_trans HB4.out b5)
        have P5 := P4.later b5
        clear b5 HB4 P4 T4 x0 x1 x2 x3 x4 x5 x6 x7 x8 xl
        have HNE := Lib.hid (termOk_near (high := high) (rows := rows) (h := ⟨y0, y1, y2⟩) (bs := bs) (plan := plan) (p := ⟨hs, ls⟩))
        have HRE := Lib.hid (fun e4 => termOk_rest (high := high) (rows := rows) (h := ⟨y0, y1, y2⟩) (bs := bs) (plan := plan) (hs := hs) (ls := ls) HY.out HPL.out HPP.out e4)
        generalize nearN ⟨y0, y1, y2⟩ bs plan = nn at *
        by_cases hnn : 0 < nn
        · have HE := Lib.hid (HNE.out hnn)
          have HB := HB5
          have hni : 0 < (nn : Int) := by omega
          clear HNE HRE P5
          go_wp2_with fail
          go_ret
          exact ⟨by rw [HE.out]; rfl, HB.out⟩
        · obtain rfl : nn = 0 := by omega
          have HR := Lib.hid (HRE.out rfl)
          clear HNE HRE hnn
          have x0 := (P5).cellAt 0 (by simp)
          have x1 := (P5).cellAt 1 (by simp)
          have x2 := (P5).cellAt 2 (by simp)
          have x3 := (P5).cellAt 3 (by simp)
          have x4 := (P5).cellAt 4 (by simp)
          have x5 := (P5).cellAt 5 (by simp)
          have x6 := (P5).cellAt 6 (by simp)
          have x7 := (P5).cellAt 7 (by simp)
          have x8 := (P5).cellAt 8 (by simp)
          simp only [List.getElem_cons_zero, List.getElem_cons_succ] at x0 x1 x2 x3 x4 x5 x6 x7 x8
          have xl := (P5).lt
          go_wp2_with fail
          have T5 := TT.out.below HB5.out
          refine (implYardIds high YA yn yc rows w5 T5.yl T5.yr T5.ym).mono ?_
          rintro e w6 ⟨_, rfl, IB, idd, rfl, OI, b6⟩
          have RI := Lib.hid (own_rd OI)
          have HB6 := Lib.hid (below_trans HB5.out b6)
          have P6 := Lib.hid (P5.later b6)
          have HAL := Lib.hid (fun f => idsA_all HY.out f)
          have hil := (ids_len high rows).2
          clear b6 HB5 P5 T5 x0 x1 x2 x3 x4 x5 x6 x7 x8 xl OI
          generalize idsA high rows = ids at *
          generalize hL : ids.length = L at *
          have HL := Lib.hid hL
          clear hL
          have T6 := Lib.hid (TT.out.below HB6.out)
          go_wp2_with fail
          go_loopw [40, 4] (fun i _ wr => ∃ k : Nat, k ≤ L ∧ i = .int .i64 k ∧ Hid ((ids.take k).all (idGood bs plan ls) = true) ∧ Hid (Below w6.heap.size w6 wr)) (fun i _ _ => L - (intOf i).toNat)
          case atStart => exact ⟨0, Nat.zero_le _, rfl, Lib.hid (by simp), Lib.hid (Below.refl _ _)⟩
          case round =>
            obtain ⟨k, hk, rfl, HJ, HBW⟩ := hrel
            have P7 := P6.out.later HBW.out
            have T7 := T6.out.below HBW.out
            have HB7 := Lib.hid (below_trans HB6.out HBW.out)
            by_cases hlt : k < L
            · have hki : (k : Int) < (L : Int) := by omega
              have hkz : k < ids.length := by rw [HL.out]; exact hlt
              obtain ⟨ib, io, rfl, hib, hic⟩ := ints_cell (RI.out.below HBW.out) hkz
              have hcell := hic k hkz
              have HGO : Hid (idGood bs plan ls ids[k] = true → (ids.take (k + 1)).all (idGood bs plan ls) = true) := Lib.hid (fun h => all_step hkz HJ.out h)
              have HBA : Hid (idGood bs plan ls ids[k] = false → termOk high rows ⟨y0, y1, y2⟩ bs plan ⟨hs, ls⟩ = false) := Lib.hid (fun h => by rw [HR.out, ← HAL.out, all_bad hkz h]; rfl)
              generalize ids[k] = v at *
              have HBI := Lib.hid (idx_has bs v)
              clear hic
              have x0 := (P7).cellAt 0 (by simp)
              have x1 := (P7).cellAt 1 (by simp)
              have x2 := (P7).cellAt 2 (by simp)
              have x3 := (P7).cellAt 3 (by simp)
              have x4 := (P7).cellAt 4 (by simp)
              have x5 := (P7).cellAt 5 (by simp)
              have x6 := (P7).cellAt 6 (by simp)
              have x7 := (P7).cellAt 7 (by simp)
              have x8 := (P7).cellAt 8 (by simp)
              simp only [List.getElem_cons_zero, List.getElem_cons_succ] at x0 x1 x2 x3 x4 x5 x6 x7 x8
              have xl := (P7).lt
              go_wp2_with fail
              refine (boxAt_any BA bn bc bs v _ T7.bl T7.br (by omega)).mono ?_
              rintro e w8 ⟨rfl, b8⟩
              have HBW8 := Lib.hid (below_trans HBW.out b8)
              have HB := Lib.hid (below_trans HB7.out b8)
              have P8 := P7.later b8
              have T8 := T7.below b8
              clear b8 P7 T7 x0 x1 x2 x3 x4 x5 x6 x7 x8 xl HB7
              generalize idxI (findF bs v) = fi at *
              cases hf : hasF bs v with
              | false =>
                have HE := Lib.hid (HBA.out (by simp [idGood, hf]))
                have hfi := HBI.out
                rw [hf] at hfi
                have hlt0 : decide (fi < 0) = true := hfi
                have hlt1 : fi < 0 := of_decide_eq_true hlt0
                clear hf hfi P8 T8
                go_wp2_with fail
                go_ret
                exact ⟨by rw [HE.out]; rfl, HB.out⟩
              | true =>
                have hfi := HBI.out
                rw [hf] at hfi
                have hlt0 : decide (fi < 0) = false := hfi
                have hlt1 : ¬ fi < 0 := of_decide_eq_false hlt0
                have HF := Lib.hid hf
                clear hf hfi
                have x0 := (P8).cellAt 0 (by simp)
                have x1 := (P8).cellAt 1 (by simp)
                have x2 := (P8).cellAt 2 (by simp)
                have x3 := (P8).cellAt 3 (by simp)
                have x4 := (P8).cellAt 4 (by simp)
                have x5 := (P8).cellAt 5 (by simp)
                have x6 := (P8).cellAt 6 (by simp)
                have x7 := (P8).cellAt 7 (by simp)
                have x8 := (P8).cellAt 8 (by simp)
                simp only [List.getElem_cons_zero, List.getElem_cons_succ] at x0 x1 x2 x3 x4 x5 x6 x7 x8
                have xl := (P8).lt
                go_wp2_with fail
                refine (contains_int PA pn pc plan v _ T8.pl T8.pr (by omega)).mono ?_
                rintro e w9 ⟨rfl, rfl⟩
                cases hi : hasI plan v with
                | true =>
                  have HE := Lib.hid (HBA.out (by simp [idGood, hi]))
                  clear hi
                  go_wp2_with fail
                  go_ret
                  exact ⟨by rw [HE.out]; rfl, HB.out⟩
                | false =>
                  have HI := Lib.hid hi
                  clear hi
                  go_wp2_with fail
                  refine (contains_int LA ln lc ls v _ T8.ll T8.lr (by omega)).mono ?_
                  rintro e w9 ⟨rfl, rfl⟩
                  cases hi2 : hasI ls v with
                  | true =>
                    have HE := Lib.hid (HBA.out (by simp [idGood, hi2]))
                    clear hi2
                    go_wp2_with fail
                    go_ret
                    exact ⟨by rw [HE.out]; rfl, HB.out⟩
                  | false =>
                    have HG := Lib.hid (HGO.out (by simp [idGood, hi2, HF.out, HI.out]))
                    clear hi2
                    go_wp2_with fail
                    go_roundw
                    case rel => exact ⟨k + 1, by omega, by go_num, HG, HBW8⟩
                    case measure => simp [intOf]; omega
            · obtain rfl : k = L := by omega
              have HE : Hid (termOk high rows ⟨y0, y1, y2⟩ bs plan ⟨hs, ls⟩ = !plan.any (hasI ls)) := Lib.hid (by
                have := HJ.out
                rw [List.take_of_length_le (by rw [HL.out]; exact Nat.le_refl _)] at this
                rw [HR.out, ← HAL.out, this]
                rfl)
              have x0 := (P7).cellAt 0 (by simp)
              have x1 := (P7).cellAt 1 (by simp)
              have x2 := (P7).cellAt 2 (by simp)
              have x3 := (P7).cellAt 3 (by simp)
              have x4 := (P7).cellAt 4 (by simp)
              have x5 := (P7).cellAt 5 (by simp)
              have x6 := (P7).cellAt 6 (by simp)
              have x7 := (P7).cellAt 7 (by simp)
              have x8 := (P7).cellAt 8 (by simp)
              simp only [List.getElem_cons_zero, List.getElem_cons_succ] at x0 x1 x2 x3 x4 x5 x6 x7 x8
              have xl := (P7).lt
              go_wp2_with fail
              refine (contains_left w.heap.size PA LA pn pc ln lc plan ls _ T7.pl T7.pr T7.ll T7.lr x8 (by omega) (by omega)).mono ?_
              rintro e w9 ⟨rfl, rfl⟩
              go_wp2_with fail
              go_ret
              exact ⟨by rw [HE.out]; rfl, HB7.out⟩
end Go.Proofs.YtbkfhcbecejomaaGreat
end
section
/- Terminals: the reference says whether one is valid. -/
namespace Go.Proofs.YtbkfhcbecejomaaGreat
open Go Go.ChangeShapes Go.WideShapes Go.ChangeAt Go.RowKit
set_option linter.unusedVariables false
set_option maxHeartbeats 4000000 in
set_option maxRecDepth 100000 in
theorem specTermValid (high : Int) (x : HullV) (YA BA PA HA LA : Option Addr) (yn yc bn bc pn pc hn hc ln lc : Nat) (rows : List (List Int)) (bs : List BoxV) (plan : List Int) (hs : List HoldV) (ls : List Int) (w : World) (T : TrmRd w YA BA PA HA LA yn bn bc pn pc hn ln rows bs plan hs ls) :
    Calls Tryz.prog 7 #[.agg #[.int .i64 high, .slice YA yn yc, .int .i64 x.f0, .int .i64 x.f1, .int .i64 x.f2, .slice BA bn bc, .slice PA pn pc, .slice HA hn hc, .slice LA ln lc]] w fun e w' => e = .returned (.bool (termOk high rows x bs plan ⟨hs, ls⟩)) ∧ Below w.heap.size w w' := by
  obtain ⟨y0, y1, y2⟩ := x
  have TT := Lib.hid T
  have t1 := T.ym
  have t2 := T.bm
  have t3 := T.pm
  have t4 := T.hm
  have t5 := T.lm
  clear T
  have hal : Below w.heap.size w (w.alloc (.cells #[.int .i64 high, .slice YA yn yc, .int .i64 y0, .int .i64 y1, .int .i64 y2, .slice BA bn bc, .slice PA pn pc, .slice HA hn hc, .slice LA ln lc] 34)) := (Below.refl _ _).alloc (Nat.le_refl _) _
  have hP : Blk (w.alloc (.cells #[.int .i64 high, .slice YA yn yc, .int .i64 y0, .int .i64 y1, .int .i64 y2, .slice BA bn bc, .slice PA pn pc, .slice HA hn hc, .slice LA ln lc] 34)) w.heap.size 34 [.int .i64 high, .slice YA yn yc, .int .i64 y0, .int .i64 y1, .int .i64 y2, .slice BA bn bc, .slice PA pn pc, .slice HA hn hc, .slice LA ln lc] := Blk.new _ _ _
  dsimp only at *
  go_enter Tryz.func7, Tryz.ntmps7
  go_wp2_with fail
  generalize w.alloc (.cells #[.int .i64 high, .slice YA yn yc, .int .i64 y0, .int .i64 y1, .int .i64 y2, .slice BA bn bc, .slice PA pn pc, .slice HA hn hc, .slice LA ln lc] 34) = w1 at *
  have T1 := TT.out.below hal
  refine (specYardValid high YA yn yc rows w1 T1.yl T1.yr (by omega)).mono ?_
  rintro e w2 ⟨rfl, b2⟩
  have HB := Lib.hid (below_trans hal b2)
  have P2 := hP.later b2
  clear hal hP b2 T1
  cases hy : yardOk high rows with
  | false =>
    have HE : Hid (termOk high rows ⟨y0, y1, y2⟩ bs plan ⟨hs, ls⟩ = false) := Lib.hid (termOk_yard hy)
    clear hy P2
    go_wp2_with fail
    go_ret
    exact ⟨by rw [HE.out]; rfl, HB.out⟩
  | true =>
    have HY := Lib.hid hy
    clear hy
    have x0 := (P2).cellAt 0 (by simp)
    have x1 := (P2).cellAt 1 (by simp)
    have x2 := (P2).cellAt 2 (by simp)
    have x3 := (P2).cellAt 3 (by simp)
    have x4 := (P2).cellAt 4 (by simp)
    have x5 := (P2).cellAt 5 (by simp)
    have x6 := (P2).cellAt 6 (by simp)
    have x7 := (P2).cellAt 7 (by simp)
    have x8 := (P2).cellAt 8 (by simp)
    simp only [List.getElem_cons_zero, List.getElem_cons_succ] at x0 x1 x2 x3 x4 x5 x6 x7 x8
    have xl := (P2).lt
    go_wp2_with fail
    have T2 := TT.out.below HB.out
    refine (specPlanValid ⟨y0, y1, y2⟩ BA PA bn bc pn pc bs plan w2 T2.bl T2.br T2.bk (by omega) T2.pl T2.pr T2.pk T2.px).mono ?_
    rintro e w3 ⟨rfl, b3⟩
    have HB3 := Lib.hid (below_trans HB.out b3)
    have P3 := P2.later b3
    clear b3 HB P2 T2 x0 x1 x2 x3 x4 x5 x6 x7 x8 xl
    cases hp : planOk ⟨y0, y1, y2⟩ bs plan with
    | false =>
      have HE : Hid (termOk high rows ⟨y0, y1, y2⟩ bs plan ⟨hs, ls⟩ = false) := Lib.hid (termOk_plan hp)
      have HB := HB3
      clear hp P3
      go_wp2_with fail
      go_ret
      exact ⟨by rw [HE.out]; rfl, HB.out⟩
    | true =>
      have HPL := Lib.hid hp
      clear hp
      have x0 := (P3).cellAt 0 (by simp)
      have x1 := (P3).cellAt 1 (by simp)
      have x2 := (P3).cellAt 2 (by simp)
      have x3 := (P3).cellAt 3 (by simp)
      have x4 := (P3).cellAt 4 (by simp)
      have x5 := (P3).cellAt 5 (by simp)
      have x6 := (P3).cellAt 6 (by simp)
      have x7 := (P3).cellAt 7 (by simp)
      have x8 := (P3).cellAt 8 (by simp)
      simp only [List.getElem_cons_zero, List.getElem_cons_succ] at x0 x1 x2 x3 x4 x5 x6 x7 x8
      have xl := (P3).lt
      go_wp2_with fail
      have T3 := TT.out.below HB3.out
      refine (specPapersValid HA LA hn hc ln lc hs ls w3 T3.hl T3.ll T3.hr T3.lr (by omega) (by omega)).mono ?_
      rintro e w4 ⟨rfl, b4⟩
      have HB4 := Lib.hid (below_trans HB3.out b4)
      have P4 := P3.later b4
      clear b4 HB3 P3 T3 x0 x1 x2 x3 x4 x5 x6 x7 x8 xl
      cases hpp : papOk hs ls with
      | false =>
        have HE : Hid (termOk high rows ⟨y0, y1, y2⟩ bs plan ⟨hs, ls⟩ = false) := Lib.hid (termOk_pap hpp)
        have HB := HB4
        clear hpp P4
        go_wp2_with fail
        go_ret
        exact ⟨by rw [HE.out]; rfl, HB.out⟩
      | true =>
        have HPP := Lib.hid hpp
        clear hpp
        have x0 := (P4).cellAt 0 (by simp)
        have x1 := (P4).cellAt 1 (by simp)
        have x2 := (P4).cellAt 2 (by simp)
        have x3 := (P4).cellAt 3 (by simp)
        have x4 := (P4).cellAt 4 (by simp)
        have x5 := (P4).cellAt 5 (by simp)
        have x6 := (P4).cellAt 6 (by simp)
        have x7 := (P4).cellAt 7 (by simp)
        have x8 := (P4).cellAt 8 (by simp)
        simp only [List.getElem_cons_zero, List.getElem_cons_succ] at x0 x1 x2 x3 x4 x5 x6 x7 x8
        have xl := (P4).lt
        go_wp2_with fail
        have T4 := TT.out.below HB4.out
        refine (specTooNear ⟨y0, y1, y2⟩ BA PA bn bc pn pc bs plan w4 T4.bl T4.br T4.bk (by omega) T4.pl T4.pr T4.pk T4.px).mono ?_
        rintro e w5 ⟨_, rfl, NB, nd, rfl, b5⟩
        have HB5 := Lib.hid (below_trans HB4.out b5)
        have P5 := P4.later b5
        clear b5 HB4 P4 T4 x0 x1 x2 x3 x4 x5 x6 x7 x8 xl
        have HNE := Lib.hid (termOk_near (high := high) (rows := rows) (h := ⟨y0, y1, y2⟩) (bs := bs) (plan := plan) (p := ⟨hs, ls⟩))
        have HRE := Lib.hid (fun e4 => termOk_rest (high := high) (rows := rows) (h := ⟨y0, y1, y2⟩) (bs := bs) (plan := plan) (hs := hs) (ls := ls) HY.out HPL.out HPP.out e4)
        generalize nearN ⟨y0, y1, y2⟩ bs plan = nn at *
        by_cases hnn : 0 < nn
        · have HE := Lib.hid (HNE.out hnn)
          have HB := HB5
          have hni : 0 < (nn : Int) := by omega
          clear HNE HRE P5
          go_wp2_with fail
          go_ret
          exact ⟨by rw [HE.out]; rfl, HB.out⟩
        · obtain rfl : nn = 0 := by omega
          have HR := Lib.hid (HRE.out rfl)
          clear HNE HRE hnn
          have x0 := (P5).cellAt 0 (by simp)
          have x1 := (P5).cellAt 1 (by simp)
          have x2 := (P5).cellAt 2 (by simp)
          have x3 := (P5).cellAt 3 (by simp)
          have x4 := (P5).cellAt 4 (by simp)
          have x5 := (P5).cellAt 5 (by simp)
          have x6 := (P5).cellAt 6 (by simp)
          have x7 := (P5).cellAt 7 (by simp)
          have x8 := (P5).cellAt 8 (by simp)
          simp only [List.getElem_cons_zero, List.getElem_cons_succ] at x0 x1 x2 x3 x4 x5 x6 x7 x8
          have xl := (P5).lt
          go_wp2_with fail
          have T5 := TT.out.below HB5.out
          refine (specYardIds high YA yn yc rows w5 T5.yl T5.yr T5.ym).mono ?_
          rintro e w6 ⟨_, rfl, IB, idd, rfl, OI, b6⟩
          have RI := Lib.hid (own_rd OI)
          have HB6 := Lib.hid (below_trans HB5.out b6)
          have P6 := Lib.hid (P5.later b6)
          have HAL := Lib.hid (fun f => idsB_all HY.out f)
          have hil : (idsB high rows).length ≤ 25 := by have := ids_len high rows; omega
          clear b6 HB5 P5 T5 x0 x1 x2 x3 x4 x5 x6 x7 x8 xl OI
          generalize idsB high rows = ids at *
          generalize hL : ids.length = L at *
          have HL := Lib.hid hL
          clear hL
          have T6 := Lib.hid (TT.out.below HB6.out)
          go_wp2_with fail
          go_loopw [4] (fun i wr => ∃ k : Nat, k ≤ L ∧ i = .int .i64 k ∧ Hid ((ids.take k).all (idGood bs plan ls) = true) ∧ Hid (Below w6.heap.size w6 wr)) (fun i _ => L - (intOf i).toNat)
          case atStart => exact ⟨0, Nat.zero_le _, rfl, Lib.hid (by simp), Lib.hid (Below.refl _ _)⟩
          case round =>
            obtain ⟨k, hk, rfl, HJ, HBW⟩ := hrel
            have P7 := P6.out.later HBW.out
            have T7 := T6.out.below HBW.out
            have HB7 := Lib.hid (below_trans HB6.out HBW.out)
            by_cases hlt : k < L
            · have hki : (k : Int) < (L : Int) := by omega
              have hkz : k < ids.length := by rw [HL.out]; exact hlt
              obtain ⟨ib, io, rfl, hib, hic⟩ := ints_cell (RI.out.below HBW.out) hkz
              have hcell := hic k hkz
              have HGO : Hid (idGood bs plan ls ids[k] = true → (ids.take (k + 1)).all (idGood bs plan ls) = true) := Lib.hid (fun h => all_step hkz HJ.out h)
              have HBA : Hid (idGood bs plan ls ids[k] = false → termOk high rows ⟨y0, y1, y2⟩ bs plan ⟨hs, ls⟩ = false) := Lib.hid (fun h => by rw [HR.out, ← HAL.out, all_bad hkz h]; rfl)
              generalize ids[k] = v at *
              have HBI := Lib.hid (idx_has bs v)
              have hcF : ∀ q0 : Nat, Calls Tryz.prog 31 #[.slice BA bn bc, .int .i64 v] (wr.drewN q0) fun r w' => r = .returned (.int .i64 (idxI (findF bs v))) ∧ w' = wr.drewN q0 := fun q0 => (l2Find_any BA bn bc bs v (wr.drewN q0) T7.bl T7.br (by omega)).mono (fun _ _ h => ⟨h.1, h.2.symm⟩)
              have hcP : ∀ q0 : Nat, Calls Tryz.prog 32 #[.slice PA pn pc, .int .i64 v] (wr.drewN q0) fun r w' => r = .returned (.bool (hasI plan v)) ∧ w' = wr.drewN q0 := fun q0 => (l1Has_any PA pn pc plan v (wr.drewN q0) T7.pl T7.pr (by omega)).mono (fun _ _ h => ⟨h.1, h.2.symm⟩)
              have hcL : ∀ q0 : Nat, Calls Tryz.prog 32 #[.slice LA ln lc, .int .i64 v] (wr.drewN q0) fun r w' => r = .returned (.bool (hasI ls v)) ∧ w' = wr.drewN q0 := fun q0 => (l1Has_any LA ln lc ls v (wr.drewN q0) T7.ll T7.lr (by omega)).mono (fun _ _ h => ⟨h.1, h.2.symm⟩)
              clear hic T7
              have x0 := (P7).cellAt 0 (by simp)
              have x1 := (P7).cellAt 1 (by simp)
              have x2 := (P7).cellAt 2 (by simp)
              have x3 := (P7).cellAt 3 (by simp)
              have x4 := (P7).cellAt 4 (by simp)
              have x5 := (P7).cellAt 5 (by simp)
              have x6 := (P7).cellAt 6 (by simp)
              have x7 := (P7).cellAt 7 (by simp)
              have x8 := (P7).cellAt 8 (by simp)
              simp only [List.getElem_cons_zero, List.getElem_cons_succ] at x0 x1 x2 x3 x4 x5 x6 x7 x8
              have xl := (P7).lt
              have HBW7 := HBW
              clear P7
              generalize idxI (findF bs v) = fi at *
              cases hf : hasF bs v with
              | false =>
                have HE := Lib.hid (HBA.out (by simp [idGood, hf]))
                have hfi := HBI.out
                rw [hf] at hfi
                have hlt0 : decide (fi < 0) = true := hfi
                have hlt1 : fi < 0 := of_decide_eq_true hlt0
                clear hf hfi
                go_wp2_with fail
                go_quiet ((first | (go_at_call 31; with_reducible exact Calls.quiet_of_same (hcF _)) | (go_at_call 32; with_reducible exact Calls.quiet_of_same (hcP _)) | (go_at_call 32; with_reducible exact Calls.quiet_of_same (hcL _))))
                clear hcF hcP hcL
                go_wp2_with fail
                go_ret
                exact ⟨by rw [HE.out]; rfl, below_drewN HB7.out _⟩
              | true =>
                have hfi := HBI.out
                rw [hf] at hfi
                have hlt0 : decide (fi < 0) = false := hfi
                have hlt1 : ¬ fi < 0 := of_decide_eq_false hlt0
                have HF := Lib.hid hf
                clear hf hfi
                cases hi : hasI plan v with
                | true =>
                  have HE := Lib.hid (HBA.out (by simp [idGood, hi]))
                  rw [hi] at hcP
                  clear hi
                  go_wp2_with fail
                  go_quiet ((first | (go_at_call 31; with_reducible exact Calls.quiet_of_same (hcF _)) | (go_at_call 32; with_reducible exact Calls.quiet_of_same (hcP _)) | (go_at_call 32; with_reducible exact Calls.quiet_of_same (hcL _))))
                  clear hcF hcP hcL
                  go_wp2_with fail
                  go_ret
                  exact ⟨by rw [HE.out]; rfl, below_drewN HB7.out _⟩
                | false =>
                  have HI := Lib.hid hi
                  rw [hi] at hcP
                  clear hi
                  cases hi2 : hasI ls v with
                  | true =>
                    have HE := Lib.hid (HBA.out (by simp [idGood, hi2]))
                    rw [hi2] at hcL
                    clear hi2
                    go_wp2_with fail
                    go_quiet ((first | (go_at_call 31; with_reducible exact Calls.quiet_of_same (hcF _)) | (go_at_call 32; with_reducible exact Calls.quiet_of_same (hcP _)) | (go_at_call 32; with_reducible exact Calls.quiet_of_same (hcL _))))
                    clear hcF hcP hcL
                    go_wp2_with fail
                    go_ret
                    exact ⟨by rw [HE.out]; rfl, below_drewN HB7.out _⟩
                  | false =>
                    have HG := Lib.hid (HGO.out (by simp [idGood, hi2, HF.out, HI.out]))
                    rw [hi2] at hcL
                    clear hi2
                    go_wp2_with fail
                    go_quiet ((first | (go_at_call 31; with_reducible exact Calls.quiet_of_same (hcF _)) | (go_at_call 32; with_reducible exact Calls.quiet_of_same (hcP _)) | (go_at_call 32; with_reducible exact Calls.quiet_of_same (hcL _))))
                    clear hcF hcP hcL
                    go_wp2_with fail
                    go_roundw
                    case rel => exact ⟨k + 1, by omega, by go_num, HG, Lib.hid (below_drewN HBW7.out _)⟩
                    case measure => simp [intOf]; omega
            · obtain rfl : k = L := by omega
              have HE0 : Hid (termOk high rows ⟨y0, y1, y2⟩ bs plan ⟨hs, ls⟩ = !plan.any (hasI ls)) := Lib.hid (by
                have := HJ.out
                rw [List.take_of_length_le (by rw [HL.out]; exact Nat.le_refl _)] at this
                rw [HR.out, ← HAL.out, this]
                rfl)
              have H00 : Hid (hasI ls 0 = false) := Lib.hid (papOk_zero (p := ⟨hs, ls⟩) HPP.out)
              have HPNL := Lib.hid T7.pl
              clear HR HAL HJ HL
              have x0 := (P7).cellAt 0 (by simp)
              have x1 := (P7).cellAt 1 (by simp)
              have x2 := (P7).cellAt 2 (by simp)
              have x3 := (P7).cellAt 3 (by simp)
              have x4 := (P7).cellAt 4 (by simp)
              have x5 := (P7).cellAt 5 (by simp)
              have x6 := (P7).cellAt 6 (by simp)
              have x7 := (P7).cellAt 7 (by simp)
              have x8 := (P7).cellAt 8 (by simp)
              simp only [List.getElem_cons_zero, List.getElem_cons_succ] at x0 x1 x2 x3 x4 x5 x6 x7 x8
              have xl := (P7).lt
              go_wp2_with fail
              clear x0 x1 x2 x3 x4 x5 x6 x7 x8
              go_loopw [5] (fun i wr2 => ∃ j : Nat, j ≤ pn ∧ i = .int .i64 j ∧ Hid ((plan.take j).any (hasI ls) = false) ∧ Hid (Below wr.heap.size wr wr2)) (fun i _ => pn - (intOf i).toNat)
              case atStart => exact ⟨0, Nat.zero_le _, rfl, Lib.hid (by simp), Lib.hid (Below.refl _ _)⟩
              case round =>
                clear P7 T7
                obtain ⟨j, hj, rfl, HJ2, HBX⟩ := hrel
                have P9 := P6.out.later (below_trans HBW.out HBX.out)
                have T9 := T6.out.below (below_trans HBW.out HBX.out)
                have HB9 := Lib.hid (below_trans HB7.out HBX.out)
                by_cases hltj : j < pn
                · have hji : (j : Int) < (pn : Int) := by omega
                  have hjz : j < plan.length := by rw [HPNL.out]; exact hltj
                  obtain ⟨pb, po, rfl, hpb, hpcl⟩ := ints_cell T9.pr hjz
                  have hcell := hpcl j hjz
                  have HGO : Hid (hasI ls plan[j] = false → (plan.take (j + 1)).any (hasI ls) = false) := Lib.hid (fun h => any_take_no hjz HJ2.out h)
                  have HBA : Hid (hasI ls plan[j] = true → plan.any (hasI ls) = true) := Lib.hid (fun h => any_hit hjz h)
                  clear hpcl
                  generalize plan[j] = v at *
                  have hcL : ∀ q0 : Nat, Calls Tryz.prog 32 #[.slice LA ln lc, .int .i64 v] (wr.drewN q0) fun r w' => r = .returned (.bool (hasI ls v)) ∧ w' = wr.drewN q0 := fun q0 => (l1Has_any LA ln lc ls v (wr.drewN q0) T9.ll T9.lr (by omega)).mono (fun _ _ h => ⟨h.1, h.2.symm⟩)
                  have x0 := (P9).cellAt 0 (by simp)
                  have x1 := (P9).cellAt 1 (by simp)
                  have x2 := (P9).cellAt 2 (by simp)
                  have x3 := (P9).cellAt 3 (by simp)
                  have x4 := (P9).cellAt 4 (by simp)
                  have x5 := (P9).cellAt 5 (by simp)
                  have x6 := (P9).cellAt 6 (by simp)
                  have x7 := (P9).cellAt 7 (by simp)
                  have x8 := (P9).cellAt 8 (by simp)
                  simp only [List.getElem_cons_zero, List.getElem_cons_succ] at x0 x1 x2 x3 x4 x5 x6 x7 x8
                  have xl := (P9).lt
                  clear P9 T9
                  by_cases h0 : v = 0
                  · have HG := Lib.hid (HGO.out (by rw [h0]; exact H00.out))
                    subst h0
                    go_wp2_with fail
                    go_quiet ((go_at_call 32; with_reducible exact Calls.quiet_of_same (hcL _)))
                    clear hcL
                    go_wp2_with fail
                    go_roundw
                    case rel => exact ⟨j + 1, by omega, by go_num, HG, Lib.hid (below_drewN HBX.out _)⟩
                    case measure => simp [intOf]; omega
                  · have g0 : (v != 0) = true := by simp [h0]
                    have g1 : (v == 0) = false := by simp [h0]
                    cases hi2 : hasI ls v with
                    | true =>
                      have HE : Hid (termOk high rows ⟨y0, y1, y2⟩ bs plan ⟨hs, ls⟩ = false) := Lib.hid (by rw [HE0.out, HBA.out hi2]; rfl)
                      rw [hi2] at hcL
                      clear hi2
                      go_wp2_with fail
                      go_quiet ((go_at_call 32; with_reducible exact Calls.quiet_of_same (hcL _)))
                      clear hcL
                      go_wp2_with fail
                      go_ret
                      exact ⟨by rw [HE.out]; rfl, below_drewN HB9.out _⟩
                    | false =>
                      have HG := Lib.hid (HGO.out hi2)
                      rw [hi2] at hcL
                      clear hi2
                      go_wp2_with fail
                      go_quiet ((go_at_call 32; with_reducible exact Calls.quiet_of_same (hcL _)))
                      clear hcL
                      go_wp2_with fail
                      go_roundw
                      case rel => exact ⟨j + 1, by omega, by go_num, HG, Lib.hid (below_drewN HBX.out _)⟩
                      case measure => simp [intOf]; omega
                · obtain rfl : j = pn := by omega
                  have HE : Hid (termOk high rows ⟨y0, y1, y2⟩ bs plan ⟨hs, ls⟩ = true) := Lib.hid (by
                    have := HJ2.out
                    rw [List.take_of_length_le (by rw [HPNL.out]; exact Nat.le_refl _)] at this
                    rw [HE0.out, this]
                    rfl)
                  have x0 := (P9).cellAt 0 (by simp)
                  have x1 := (P9).cellAt 1 (by simp)
                  have x2 := (P9).cellAt 2 (by simp)
                  have x3 := (P9).cellAt 3 (by simp)
                  have x4 := (P9).cellAt 4 (by simp)
                  have x5 := (P9).cellAt 5 (by simp)
                  have x6 := (P9).cellAt 6 (by simp)
                  have x7 := (P9).cellAt 7 (by simp)
                  have x8 := (P9).cellAt 8 (by simp)
                  simp only [List.getElem_cons_zero, List.getElem_cons_succ] at x0 x1 x2 x3 x4 x5 x6 x7 x8
                  have xl := (P9).lt
                  go_wp2_with fail
                  go_ret
                  exact ⟨by rw [HE.out]; rfl, HB9.out⟩
end Go.Proofs.YtbkfhcbecejomaaGreat
end
