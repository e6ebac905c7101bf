/- Several texts of the proof in one; each says at its head what it proves; no condition. -/
import Derived.Test.YtbkfhcbecejomaaGreatMg13
import Derived.Test.YtbkfhcbecejomaaGreatMg14
import Derived.Test.YtbkfhcbecejomaaGreatMg1
import Derived.Test.YtbkfhcbecejomaaGreatMg6
import Derived.Test.YtbkfhcbecejomaaGreatMg11
import Derived.BigQuiet
import Derived.Shelf.SlSortCmp.QuietGrown
section
/- Pairs of slots that are too near, the reference: how many it returns. -/
namespace Go.Proofs.YtbkfhcbecejomaaGreat
open Go Go.ChangeShapes Go.WideShapes Go.ChangeAt Go.RowKit
set_option linter.unusedVariables false
theorem pair_infoN : Info Tryz.prog 67 (.agg #[.int .i64 0, .int .i64 0]) 2 16 := Info.mk' (by kernel_rfl) rfl (by decide) (by decide)
theorem clsB_range {bs : List BoxV} (hb : boxesOk bs = true) {id : Int} (h : hasF bs id = true) : 0 ≤ clsB bs id ∧ clsB bs id ≤ 3 := by
  obtain ⟨i, hi, _, e⟩ := hasF_find h
  have := (boxesOk_iff.1 hb).1 bs[i] (List.getElem_mem hi)
  simp only [bOk, Bool.and_eq_true, inI_iff] at this
  rw [e]
  exact this.1.2
theorem clsP_range {h : HullV} {bs : List BoxV} {plan : List Int} (hp : planOk h bs plan = true) {k : Nat} (hk : k < plan.length) : 0 ≤ clsP bs plan k ∧ clsP bs plan k ≤ 3 := by
  unfold clsP
  by_cases h0 : plan.getD k 0 = 0
  · rw [if_pos h0]; omega
  · rw [if_neg h0]; exact clsB_range (planOk_parts hp).2.1 (planOk_has hp hk h0)
theorem nearRow_yes {h : HullV} {bs : List BoxV} {plan : List Int} {a b : Nat} (hab : a < b) (hn : apartH h a b < needC (clsP bs plan a) (clsP bs plan b)) : nearRow h bs plan a (b + 1) = nearRow h bs plan a b + 1 := by
  rw [nearRow, if_pos ⟨hab, by rw [nearB]; exact decide_eq_true hn⟩]
theorem nearRow_no {h : HullV} {bs : List BoxV} {plan : List Int} {a b : Nat} (hn : ¬ apartH h a b < needC (clsP bs plan a) (clsP bs plan b)) : nearRow h bs plan a (b + 1) = nearRow h bs plan a b := by
  rw [nearRow, if_neg (fun h' => hn (of_decide_eq_true h'.2)), Nat.add_zero]
theorem nearRow_skip {h : HullV} {bs : List BoxV} {plan : List Int} {a b : Nat} (hn : plan.getD b 0 = 0) : nearRow h bs plan a (b + 1) = nearRow h bs plan a b := by
  rw [nearRow, nearB_empty (.inr hn)]; simp
def NearOut (w : World) (k : Nat) : Ending → World → Prop :=
  RVal fun u w' => ∃ B d, u = .slice B k d ∧ Below w.heap.size w w'
theorem nearOut_mk {w w' : World} {base : Nat} {k n : Nat} {v : Value} {xs : List Value} (h : w'.ownsRow base 67 2 v n xs) (e : n = k) (hb : Below w.heap.size w w') : NearOut w k (.returned v) w' := by
  obtain ⟨B, d, rfl, _, _⟩ := own_slice h
  exact RVal.mk ⟨B, d, by rw [e], hb⟩
set_option maxHeartbeats 4000000 in
set_option maxRecDepth 100000 in
theorem specTooNear (x : HullV) (A PA : Option Addr) (n c m pc : Nat) (bs : List BoxV) (plan : List Int) (w : World) (hn : bs.length = n) (hr : RdV w A (boxs bs)) (hnc : n ≤ c) (hm : n ≤ 1099511627776) (hpn : plan.length = m) (hp : RdV w PA (ints plan)) (hpc : m ≤ pc) (hpm : pc ≤ 9223372036854775807) :
    Calls Tryz.prog 29 #[.agg #[.int .i64 x.f0, .int .i64 x.f1, .int .i64 x.f2], .slice A n c, .slice PA m pc] w (NearOut w (nearN x bs plan)) := by
  obtain ⟨y0, y1, y2⟩ := x
  have HN := Lib.hid hn
  have HPN := Lib.hid hpn
  clear hn hpn
  have hal : Below w.heap.size w ((w.alloc (.cells #[.int .i64 y0, .int .i64 y1, .int .i64 y2] 27)).alloc (.cells #[] 67)) := ((Below.refl _ _).alloc (Nat.le_refl _) _).alloc (by simp) _
  have hP : Blk ((w.alloc (.cells #[.int .i64 y0, .int .i64 y1, .int .i64 y2] 27)).alloc (.cells #[] 67)) w.heap.size 27 [.int .i64 y0, .int .i64 y1, .int .i64 y2] := (Blk.new _ _ _).alloc _
  have hO : ((w.alloc (.cells #[.int .i64 y0, .int .i64 y1, .int .i64 y2] 27)).alloc (.cells #[] 67)).ownsRow (w.heap.size + 1) 67 2 (.slice (some ⟨w.heap.size + 1, 0, none⟩) 0 0) 0 [] := by
    have := Blk.new (w.alloc (.cells #[.int .i64 y0, .int .i64 y1, .int .i64 y2] 27)) 67 []
    simp only [World.size_alloc] at this
    exact own_of_blk this (Nat.le_refl _) rfl (by decide)
  have hV := fun W (hW : Below w.heap.size w W) => specPlanValid ⟨y0, y1, y2⟩ A PA n c m pc bs plan W HN.out (hr.below hW) hnc hm HPN.out (hp.below hW) hpc hpm
  dsimp only at *
  go_enter Tryz.func29, Tryz.ntmps29
  go_wp2_with fail
  generalize (w.alloc (.cells #[.int .i64 y0, .int .i64 y1, .int .i64 y2] 27)).alloc (.cells #[] 67) = w1 at *
  have x0 := hP.cellAt 0 (by simp)
  have x1 := hP.cellAt 1 (by simp)
  have x2 := hP.cellAt 2 (by simp)
  simp only [List.getElem_cons_zero, List.getElem_cons_succ] at x0 x1 x2
  have lx := hP.lt
  go_wp2_with fail
  refine (hV w1 hal).mono ?_
  rintro e w2 ⟨rfl, b2⟩
  have HB2 := Lib.hid (below_trans hal b2)
  have P2 := hP.later b2
  have O2 := own_later hO b2
  clear hal hP b2 hO x0 x1 x2 hV
  cases hok : planOk ⟨y0, y1, y2⟩ bs plan with
  | false =>
    have HI : Hid (nearN ⟨y0, y1, y2⟩ bs plan = 0) := Lib.hid (by simp [nearN, hok])
    have O2 := Lib.hid O2
    clear hok
    go_wp2_with fail
    go_ret
    exact nearOut_mk O2.out HI.out.symm HB2.out
  | true =>
    have HI : Hid (nearN ⟨y0, y1, y2⟩ bs plan = nearUp ⟨y0, y1, y2⟩ bs plan m) := Lib.hid (by simp [nearN, hok, HPN.out])
    have HOK := Lib.hid hok
    obtain ⟨hh, hbo, hlen, _⟩ := planOk_parts hok
    have hle := slots_le hh
    rw [HPN.out] at hlen
    have hm36 : m ≤ 36 := by omega
    have HH := Lib.hid hh
    have HLEN := Lib.hid hlen
    clear hok hh hbo hle hlen
    go_wp2_with fail
    go_loopw [7, 8, 9] (fun o i _ wr => ∃ (k p : Nat) (xs : List Value), k ≤ m ∧ i = .int .i64 k ∧ Hid (p = nearUp ⟨y0, y1, y2⟩ bs plan k) ∧ p ≤ 36 * k ∧ wr.ownsRow (w.heap.size + 1) 67 2 o p xs ∧ Blk wr w.heap.size 27 [.int .i64 y0, .int .i64 y1, .int .i64 y2] ∧ Below w.heap.size w wr) (fun _ i _ _ => m - (intOf i).toNat)
    case atStart => exact ⟨0, 0, [], Nat.zero_le _, rfl, Lib.hid rfl, by omega, O2, P2, HB2.out⟩
    case round =>
      clear O2 P2
      obtain ⟨k, p, xs, hk, rfl, HP, hp36, hO, P1, hb⟩ := hrel
      by_cases hlt : k < m
      · have hki : (k : Int) < (m : Int) := by omega
        have HP0 : Hid (p = nearUp ⟨y0, y1, y2⟩ bs plan k + nearRow ⟨y0, y1, y2⟩ bs plan k (k + 1)) := Lib.hid (by rw [nearRow_low _ _ _ _ _ (Nat.le_refl _), Nat.add_zero]; exact HP.out)
        have O2 := hO
        have P2 := P1
        have hb2 := hb
        clear hO P1 hb HP
        go_wp2_with fail
        go_loopw [7, 9] (fun o j wr2 => ∃ (b p2 : Nat) (xs2 : List Value), k + 1 ≤ b ∧ b ≤ m ∧ j = .int .i64 b ∧ Hid (p2 = nearUp ⟨y0, y1, y2⟩ bs plan k + nearRow ⟨y0, y1, y2⟩ bs plan k b) ∧ p2 ≤ 36 * k + b ∧ wr2.ownsRow (w.heap.size + 1) 67 2 o p2 xs2 ∧ Blk wr2 w.heap.size 27 [.int .i64 y0, .int .i64 y1, .int .i64 y2] ∧ Below w.heap.size w wr2) (fun _ j _ => m - (intOf j).toNat)
        case atStart => exact ⟨k + 1, p, xs, Nat.le_refl _, by omega, by go_num, HP0, by omega, O2, P2, hb2⟩
        case round =>
          clear O2 P2 hb2 HP0
          obtain ⟨b, p2, xs2, hb1, hbm, rfl, HP2, hp2, hO2, P2, hb2⟩ := hrel
          by_cases hltb : b < m
          · have hbi : (b : Int) < (m : Int) := by omega
            have hkl : k < plan.length := by rw [HPN.out]; exact hlt
            have hbl : b < plan.length := by rw [HPN.out]; exact hltb
            have hA := fun W => specApartOf ⟨y0, y1, y2⟩ k b W HH.out ⟨by omega, by rw [← HLEN.out]; exact hki⟩ ⟨by omega, by rw [← HLEN.out]; exact hbi⟩
            have hC1 := fun W (hW : Below w.heap.size w W) => specL11Class A PA n c m pc k bs plan W HN.out (hr.below hW) (by omega) (hp.below hW) HPN.out hkl (planOk_has HOK.out hkl)
            have hC2 := fun W (hW : Below w.heap.size w W) => specL11Class A PA n c m pc b bs plan W HN.out (hr.below hW) (by omega) (hp.below hW) HPN.out hbl (planOk_has HOK.out hbl)
            have r1 := clsP_range HOK.out hkl
            have r2 := clsP_range HOK.out hbl
            have HY : Hid (apartH ⟨y0, y1, y2⟩ k b < needC (clsP bs plan k) (clsP bs plan b) → nearRow ⟨y0, y1, y2⟩ bs plan k (b + 1) = nearRow ⟨y0, y1, y2⟩ bs plan k b + 1) := Lib.hid (fun h => nearRow_yes (by omega) h)
            have HNO : Hid (needC (clsP bs plan k) (clsP bs plan b) ≤ apartH ⟨y0, y1, y2⟩ k b → nearRow ⟨y0, y1, y2⟩ bs plan k (b + 1) = nearRow ⟨y0, y1, y2⟩ bs plan k b) := Lib.hid (fun h => nearRow_no (by omega))
            dsimp only at hA
            generalize apartH ⟨y0, y1, y2⟩ k b = ap at *
            generalize clsP bs plan k = ck at *
            generalize clsP bs plan b = cb at *
            have hN := fun W => specApartNeed ck cb W r1 r2
            generalize needC ck cb = nd at *
            have x0 := P2.cellAt 0 (by simp)
            have x1 := P2.cellAt 1 (by simp)
            have x2 := P2.cellAt 2 (by simp)
            simp only [List.getElem_cons_zero, List.getElem_cons_succ] at x0 x1 x2
            have lx := P2.lt
            have HO2 := Lib.hid hO2
            have HP3 := Lib.hid P2
            have HB3 := Lib.hid hb2
            clear hO2 P2 hb2 hkl hbl r1 r2
            go_wp2_with fail
            refine (hA _).mono ?_
            rintro e w3 ⟨rfl, h3⟩
            have HB4 := Lib.hid (below_trans HB3.out h3)
            have HP4 := Lib.hid (HP3.out.later h3)
            have HO4 := Lib.hid (own_later HO2.out h3)
            clear h3 hA x0 x1 x2 lx HB3 HP3 HO2
            go_wp2_with fail
            refine (hC1 _ HB4.out).mono ?_
            rintro e w4 ⟨rfl, h4⟩
            have HB5 := Lib.hid (below_trans HB4.out h4)
            have HP5 := Lib.hid (HP4.out.later h4)
            have HO5 := Lib.hid (own_later HO4.out h4)
            clear h4 hC1 HB4 HP4 HO4
            go_wp2_with fail
            refine (hC2 _ HB5.out).mono ?_
            rintro e w5 ⟨rfl, h5⟩
            have HB6 := Lib.hid (below_trans HB5.out h5)
            have HP6 := Lib.hid (HP5.out.later h5)
            have HO6 := Lib.hid (own_later HO5.out h5)
            clear h5 hC2 HB5 HP5 HO5
            go_wp2_with fail
            refine (hN _).mono ?_
            rintro e w6 ⟨rfl, rfl⟩
            clear hN
            by_cases hlt2 : ap < nd
            · have HP7 : Hid (p2 + 1 = nearUp ⟨y0, y1, y2⟩ bs plan k + nearRow ⟨y0, y1, y2⟩ bs plan k (b + 1)) := Lib.hid (by rw [HY.out hlt2, HP2.out]; omega)
              clear HY HNO HP2
              have hsz : w.heap.size + 1 ≤ w5.heap.size := HP6.out.lt
              obtain ⟨OB, od, rfl, _, _⟩ := own_slice HO6.out
              go_wp2_with (at_builtin; refine append_new rfl (.tmp 45) (.tmp 49) 40 rfl 67 _ _ _ Tryz.underlying40 pair_infoN (w.heap.size + 1) w5 (.slice OB p2 od) p2 xs2 rfl HO6.out [.int .i64 (k : Int), .int .i64 (b : Int)] (by first | rfl | (simp; with_unfolding_all rfl)) rfl (by simp [Value.oneCell']) (by omega) hsz ?_; intro v' w6 hown6 hg6 hblk6)
              go_roundw
              case rel =>
                refine ⟨b + 1, p2 + 1, _, by omega, by omega, by go_num, HP7, by omega, hown6, ?_, ?_⟩
                · exact (hg6.block _ HP6.out.lt (fun e => by have := (HO6.out.lt _ e.symm).1; omega)).trans HP6.out
                · exact below_append HB6.out hg6 (own_base HO6.out (Nat.le_succ _)) rfl
              case measure => simp [intOf]; omega
            · have HP7 : Hid (p2 = nearUp ⟨y0, y1, y2⟩ bs plan k + nearRow ⟨y0, y1, y2⟩ bs plan k (b + 1)) := Lib.hid (by rw [HNO.out (by omega)]; exact HP2.out)
              clear HY HNO HP2
              go_wp2_with fail
              go_roundw
              case rel => exact ⟨b + 1, p2, _, by omega, by omega, by go_num, HP7, by omega, HO6.out, HP6.out, HB6.out⟩
              case measure => simp [intOf]; omega
          · obtain rfl : b = m := by omega
            have HP7 : Hid (p2 = nearUp ⟨y0, y1, y2⟩ bs plan (k + 1)) := Lib.hid (by rw [nearUp, HPN.out]; exact HP2.out)
            clear HP2
            go_wp2_with fail
            go_roundw
            case rel => exact ⟨k + 1, p2, xs2, by omega, by go_num, HP7, by omega, hO2, P2, hb2⟩
            case measure => simp [intOf]; omega
      · obtain rfl : k = m := by omega
        have HO := Lib.hid hO
        clear hO
        go_wp2_with fail
        go_ret
        exact nearOut_mk HO.out (HP.out.trans HI.out.symm) hb
end Go.Proofs.YtbkfhcbecejomaaGreat
end
section
/- The slots into which a box can be put safely, the reference: some list in memory of its own. -/
namespace Go.Proofs.YtbkfhcbecejomaaGreat
open Go Go.ChangeShapes Go.WideShapes Go.ChangeAt Go.RowKit
set_option linter.unusedVariables false
theorem safeKeep {wo W W' : World} {hb pb nb o1 o2 : Nat} {y0 y1 y2 vj vb : Int} (lh : hb < wo.heap.size) (lp : pb < wo.heap.size) (ln : nb < wo.heap.size)
    (h : Below wo.heap.size wo W ∧ W.cell? ⟨hb, 0, none⟩ = some (.int .i64 y0) ∧ W.cell? ⟨hb, 1, none⟩ = some (.int .i64 y1) ∧ W.cell? ⟨hb, 2, none⟩ = some (.int .i64 y2) ∧ W.cell? ⟨pb, o1, none⟩ = some (.int .i64 vj) ∧ W.cell? ⟨nb, o2, none⟩ = some (.int .i64 vb)) (k : Below W.heap.size W W') :
    Below wo.heap.size wo W' ∧ W'.cell? ⟨hb, 0, none⟩ = some (.int .i64 y0) ∧ W'.cell? ⟨hb, 1, none⟩ = some (.int .i64 y1) ∧ W'.cell? ⟨hb, 2, none⟩ = some (.int .i64 y2) ∧ W'.cell? ⟨pb, o1, none⟩ = some (.int .i64 vj) ∧ W'.cell? ⟨nb, o2, none⟩ = some (.int .i64 vb) := by
  obtain ⟨h1, h2, h3, h4, h5, h6⟩ := h
  have lh' := Nat.lt_of_lt_of_le lh h1.size
  have lp' := Nat.lt_of_lt_of_le lp h1.size
  have ln' := Nat.lt_of_lt_of_le ln h1.size
  exact ⟨below_trans h1 k, (k.cell (p := ⟨hb, 0, none⟩) lh').trans h2, (k.cell (p := ⟨hb, 1, none⟩) lh').trans h3, (k.cell (p := ⟨hb, 2, none⟩) lh').trans h4, (k.cell (p := ⟨pb, o1, none⟩) lp').trans h5, (k.cell (p := ⟨nb, o2, none⟩) ln').trans h6⟩
set_option maxHeartbeats 8000000 in
set_option maxRecDepth 100000 in
theorem specSafeSlots (x : HullV) (A PA : Option Addr) (n c m pc : Nat) (bs : List BoxV) (plan : List Int) (cl : Int) (w : World) (hn : bs.length = n) (hr : RdV w A (boxs bs)) (hnc : n ≤ c) (hm : n ≤ 1099511627776) (hpn : plan.length = m) (hp : RdV w PA (ints plan)) (hpc : m ≤ pc) (hpm : pc ≤ 9223372036854775807) (hc0 : 0 ≤ cl ∧ cl ≤ 3) :
    Calls Tryz.prog 106 #[.agg #[.int .i64 x.f0, .int .i64 x.f1, .int .i64 x.f2], .slice A n c, .slice PA m pc, .int .i64 cl] w (LstOut w 36) := by
  obtain ⟨y0, y1, y2⟩ := x
  have HN := Lib.hid hn
  have HPN := Lib.hid hpn
  clear hn hpn
  have hal : Below w.heap.size w ((w.alloc (.cells #[.int .i64 y0, .int .i64 y1, .int .i64 y2] 27)).alloc (.cells #[] 3)) := ((Below.refl _ _).alloc (Nat.le_refl _) _).alloc (by simp) _
  have hP : Blk ((w.alloc (.cells #[.int .i64 y0, .int .i64 y1, .int .i64 y2] 27)).alloc (.cells #[] 3)) w.heap.size 27 [.int .i64 y0, .int .i64 y1, .int .i64 y2] := (Blk.new _ _ _).alloc _
  have hO : ((w.alloc (.cells #[.int .i64 y0, .int .i64 y1, .int .i64 y2] 27)).alloc (.cells #[] 3)).ownsRow (w.heap.size + 1) 3 1 (.slice (some ⟨w.heap.size + 1, 0, none⟩) 0 0) 0 [] := by
    have := Blk.new (w.alloc (.cells #[.int .i64 y0, .int .i64 y1, .int .i64 y2] 27)) 3 []
    simp only [World.size_alloc] at this
    exact own_of_blk this (Nat.le_refl _) rfl (by decide)
  have hV := fun W (hW : Below w.heap.size w W) => specPlanNext ⟨y0, y1, y2⟩ A PA n c m pc bs plan W HN.out (hr.below hW) hnc hm HPN.out (hp.below hW) hpc hpm
  have hs1 : w.heap.size + 1 + 1 ≤ ((w.alloc (.cells #[.int .i64 y0, .int .i64 y1, .int .i64 y2] 27)).alloc (.cells #[] 3)).heap.size := by simp
  have hcl := fun W => l1In_true cl 0 3 W hc0.1 hc0.2
  dsimp only at *
  go_enter Tryz.func106, Tryz.ntmps106
  go_wp2_with fail
  generalize (w.alloc (.cells #[.int .i64 y0, .int .i64 y1, .int .i64 y2] 27)).alloc (.cells #[] 3) = w1 at *
  have x0 := hP.cellAt 0 (by simp)
  have x1 := hP.cellAt 1 (by simp)
  have x2 := hP.cellAt 2 (by simp)
  simp only [List.getElem_cons_zero, List.getElem_cons_succ] at x0 x1 x2
  have lx := hP.lt
  go_wp2_with fail
  refine (hV w1 hal).mono ?_
  rintro e w2 ⟨_, rfl, NB, K, nd, zs, rfl, hK, hzl, hno, b2, hpl, hzr⟩
  have HB2 := Lib.hid (below_trans hal b2)
  have HP2 := Lib.hid (hP.later b2)
  have HO2 := Lib.hid (own_later hO b2)
  have HNE0 : Hid (∀ g, Value.ownBlock (.slice NB K nd) = some g → Value.ownBlock (.slice (some ⟨w.heap.size + 1, 0, none⟩) 0 0) ≠ some g) := Lib.hid (fun g e e2 => by
    have h1 := (hno.lt g e).1
    injection e2 with e2
    have h2 : w.heap.size + 1 = g := e2
    omega)
  have HNO := Lib.hid (own_base hno (show w.heap.size ≤ w1.heap.size by omega))
  have HPL := Lib.hid hpl
  have HZR := Lib.hid hzr
  have HZL := Lib.hid hzl
  clear hal hP b2 hO x0 x1 x2 lx hV hno hpl hzr hzl
  go_wp2_with fail
  go_loopw [9, 11, 12, 13] (fun o i _ _ wr => ∃ (k p : Nat) (os : List Int), k ≤ K ∧ i = .int .i64 k ∧ p ≤ k ∧ os.length = p ∧ wr.ownsRow (w.heap.size + 1) 3 1 o p (ints os) ∧ Hid (∀ g, Value.ownBlock (.slice NB K nd) = some g → o.ownBlock ≠ some g) ∧ Hid (wr.ownsRow w.heap.size 3 1 (.slice NB K nd) K (ints zs)) ∧ Hid (Blk wr w.heap.size 27 [.int .i64 y0, .int .i64 y1, .int .i64 y2]) ∧ Hid (Below w.heap.size w wr)) (fun _ i _ _ _ => K - (intOf i).toNat)
  case atStart => exact ⟨0, 0, [], Nat.zero_le _, rfl, by omega, rfl, HO2.out, HNE0, HNO, HP2, HB2⟩
  case round =>
    clear HO2 HNE0 HNO HP2 HB2
    obtain ⟨i, p, os, hi, rfl, hpi, hol, hown, HNE, HNO, HP, HB⟩ := hrel
    by_cases hlt : i < K
    · have hii : (i : Int) < (K : Int) := by omega
      have hiz : i < zs.length := by rw [HZL.out]; exact hlt
      have HOK := Lib.hid (HPL.out (by omega))
      obtain ⟨hh, hbo, hlen, _⟩ := planOk_parts HOK.out
      have hle := slots_le hh
      rw [HPN.out] at hlen
      have hm36 : m ≤ 36 := by omega
      have HH := Lib.hid hh
      have HLEN := Lib.hid hlen
      rcases own_form HNO.out with ⟨_, hz0, _⟩ | ⟨nb, nd', hv, hnb0, hnb, _⟩
      · omega
      injection hv with hv1 _ hv3
      subst hv1 hv3
      have HO := Lib.hid hown
      have hsl := HZR.out zs[i] (List.getElem_mem hiz)
      have hcN := HNO.out.cellAt i (by omega)
      rw [List.getElem?_eq_getElem (by rw [ints_len]; exact hiz), ints_at] at hcN
      generalize zs[i] = sl at *
      clear hh hbo hle hlen hown
      go_wp2_with fail
      refine (hcl _).mono ?_
      rintro e w3 ⟨rfl, rfl⟩
      go_wp2_with fail
      obtain ⟨wq, rfl⟩ : ∃ wq : World, wq = wr := ⟨_, rfl⟩
      go_loopw [12, 13] (fun ok jj wr2 => ∃ (j : Nat) (b : Bool), j ≤ m ∧ jj = .int .i64 j ∧ ok = .bool b ∧ Hid (Below wq.heap.size wq wr2)) (fun _ jj _ => m - (intOf jj).toNat)
      case atStart => exact ⟨0, true, Nat.zero_le _, rfl, rfl, Lib.hid (Below.refl _ _)⟩
      case round =>
        obtain ⟨j, b, hj, rfl, rfl, HW⟩ := hrel
        have HB3 := Lib.hid (below_trans HB.out HW.out)
        have HP3 := Lib.hid (HP.out.later HW.out)
        have HO3 := Lib.hid (own_later HO.out HW.out)
        have HNO3 := Lib.hid (own_later HNO.out HW.out)
        by_cases hltj : j < m
        · have hji : (j : Int) < (m : Int) := by omega
          have hjz : j < plan.length := by rw [HPN.out]; exact hltj
          obtain ⟨pb, po, rfl, hpb, hpcl⟩ := ints_cellP (hp.below HB3.out) hjz
          have cj := hpcl j hjz
          obtain ⟨vj, hvj⟩ : ∃ v, plan[j] = v := ⟨_, rfl⟩
          rw [hvj] at cj
          have HVJ := Lib.hid hvj
          have hcN3 := (HW.out.cell (p := ⟨nb, i, none⟩) hnb).trans hcN
          clear hpcl hvj
          cases b with
          | false =>
            go_wp2_with fail
            go_quiet (fail)
            go_wp2_with fail
            go_roundw
            case rel => exact ⟨j + 1, false, by omega, by go_num, rfl, Lib.hid (below_drewN HW.out _)⟩
            case measure => simp [intOf]; omega
          | true =>
            by_cases h0 : vj = 0
            · subst h0
              go_wp2_with fail
              go_quiet (fail)
              go_wp2_with fail
              go_roundw
              case rel => exact ⟨j + 1, true, by omega, by go_num, rfl, Lib.hid (below_drewN HW.out _)⟩
              case measure => simp [intOf]; omega
            · have gv : (vj == 0) = false := by simp [h0]
              have hA := fun W => specApartOf ⟨y0, y1, y2⟩ sl j W HH.out ⟨hsl.1, by rw [← HLEN.out]; exact hsl.2⟩ ⟨by omega, by rw [← HLEN.out]; exact hji⟩
              have hC := fun W (hW : (Below wr.heap.size wr W ∧ W.cell? ⟨w.heap.size, 0, none⟩ = some (.int .i64 y0) ∧ W.cell? ⟨w.heap.size, 1, none⟩ = some (.int .i64 y1) ∧ W.cell? ⟨w.heap.size, 2, none⟩ = some (.int .i64 y2) ∧ W.cell? ⟨pb, po + j, none⟩ = some (.int .i64 vj) ∧ W.cell? ⟨nb, i, none⟩ = some (.int .i64 sl))) => specL11Class A (some ⟨pb, po, none⟩) n c m pc j bs plan W HN.out ((hr.below HB3.out).below hW.1) (by omega) ((hp.below HB3.out).below hW.1) HPN.out hjz (planOk_has HOK.out hjz)
              have r1 := clsP_range HOK.out hjz
              dsimp only at hA
              generalize apartH ⟨y0, y1, y2⟩ sl j = ap at *
              generalize clsP bs plan j = cj2 at *
              have hNd := fun W => specApartNeed cl cj2 W hc0 r1
              generalize needC cl cj2 = need at *
              have x0 := HP3.out.cellAt 0 (by simp)
              have x1 := HP3.out.cellAt 1 (by simp)
              have x2 := HP3.out.cellAt 2 (by simp)
              simp only [List.getElem_cons_zero, List.getElem_cons_succ] at x0 x1 x2
              have lx := HP3.out.lt
              have lnb : nb < wr.heap.size := Nat.lt_of_lt_of_le hnb HW.out.size
              have k0 : (Below wr.heap.size wr wr ∧ wr.cell? ⟨w.heap.size, 0, none⟩ = some (.int .i64 y0) ∧ wr.cell? ⟨w.heap.size, 1, none⟩ = some (.int .i64 y1) ∧ wr.cell? ⟨w.heap.size, 2, none⟩ = some (.int .i64 y2) ∧ wr.cell? ⟨pb, po + j, none⟩ = some (.int .i64 vj) ∧ wr.cell? ⟨nb, i, none⟩ = some (.int .i64 sl)) := ⟨Below.refl _ _, x0, x1, x2, cj, hcN3⟩
              clear r1
              go_wp2_with fail
              go_region_held3 (fun W => (Below wr.heap.size wr W ∧ W.cell? ⟨w.heap.size, 0, none⟩ = some (.int .i64 y0) ∧ W.cell? ⟨w.heap.size, 1, none⟩ = some (.int .i64 y1) ∧ W.cell? ⟨w.heap.size, 2, none⟩ = some (.int .i64 y2) ∧ W.cell? ⟨pb, po + j, none⟩ = some (.int .i64 vj) ∧ W.cell? ⟨nb, i, none⟩ = some (.int .i64 sl)))
                (first | assumption | exact k0 | exact kA | exact kC | exact kN | exact safeKeep lx hpb lnb (by assumption) (Below.drew (Below.refl _ _)))
                (first
                  | (go_at_call 68; (with_reducible refine (hA _).mono ?_); rintro e w5 ⟨rfl, h5⟩; have kA := safeKeep lx hpb lnb (by assumption) h5; clear h5)
                  | (go_at_call 70; (with_reducible refine (hC _ (by assumption)).mono ?_); rintro e w7 ⟨rfl, h7⟩; have kC := safeKeep lx hpb lnb (by assumption) h7; clear h7)
                  | (go_at_call 69; (with_reducible refine (hNd _).mono ?_); rintro e w8 ⟨rfl, rfl⟩; have kN := safeKeep lx hpb lnb (by assumption) (Below.refl _ _)))
              have HKN := Lib.hid kN.1
              clear k0 kA kC kN hA hC hNd x0 x1 x2
              go_wp2_with fail
              go_roundw
              case rel => exact ⟨j + 1, _, by omega, by go_num, rfl, Lib.hid (below_trans HW.out HKN.out)⟩
              case measure => simp [intOf]; omega
        · obtain rfl : j = m := by omega
          have hsz : w.heap.size + 1 ≤ wr.heap.size := HP3.out.lt
          have hcN3 := (HW.out.cell (p := ⟨nb, i, none⟩) hnb).trans hcN
          have lnb : nb < wr.heap.size := Nat.lt_of_lt_of_le hnb HW.out.size
          obtain ⟨OB, od, rfl, _, _⟩ := own_slice HO3.out
          cases b with
          | false =>
            go_wp2_with fail
            go_roundw
            case rel => exact ⟨i + 1, p, os, by omega, by go_num, by omega, hol, HO3.out, HNE, HNO3, HP3, HB3⟩
            case measure => simp [intOf]; omega
          | true =>
            go_wp2_with (at_builtin; refine append_new rfl (.tmp 60) (.tmp 65) 29 rfl 3 _ _ _ Tryz.underlying29 int_infoP (w.heap.size + 1) wr (.slice OB p od) p (ints os) rfl HO3.out [.int .i64 sl] rfl rfl (by simp [Value.oneCell']) (by omega) hsz ?_; intro v' w6 hown6 hg6 hblk6)
            go_roundw
            case rel =>
              refine ⟨i + 1, p + 1, os ++ [sl], by omega, by go_num, by omega, by simp; omega, ?_, Lib.hid ?_, Lib.hid ?_, Lib.hid ?_, Lib.hid ?_⟩
              · rw [show ints (os ++ [sl]) = ints os ++ [.int .i64 sl] from by simp [ints]]; exact hown6
              · intro g e e2
                rcases hblk6 with h | h
                · rw [h] at e2; exact HNE.out g e e2
                · rw [h] at e2
                  injection e2 with e2
                  have e3 : nb = g := by injection e
                  omega
              · exact HNO3.out.kept hg6 (.inr (fun e => HNE.out nb rfl e.symm))
              · exact (hg6.block _ HP3.out.lt (fun e => by have := (HO3.out.lt _ e.symm).1; omega)).trans HP3.out
              · exact below_append HB3.out hg6 (own_base HO3.out (Nat.le_succ _)) rfl
            case measure => simp [intOf]; omega
    · obtain rfl : i = K := by omega
      have HO := Lib.hid hown
      obtain ⟨OB, od, rfl, _, _⟩ := own_slice HO.out
      clear hown
      go_wp2_with fail
      go_ret
      exact lstOut_mk HO.out (by omega) hol (by omega) HB.out
end Go.Proofs.YtbkfhcbecejomaaGreat
end
section
/- Marks of papers, the reference: it only boxes its argument. -/
namespace Go.Proofs.YtbkfhcbecejomaaGreat
open Go Go.ChangeShapes Go.WideShapes Go.ChangeAt Go.RowKit Go.Sort
set_option linter.unusedVariables false
set_option maxHeartbeats 1000000 in
theorem specMarksOf_g (HA : Option Addr) (n c : Nat) (hs : List HoldV) (LA : Option Addr) (ln lc : Nat) (x : Int) (w : World) (hn : hs.length = n) (hr : RdV w HA (holds hs)) (hm : n ≤ 1048576) :
    Calls Tryz.prog 105 #[.agg #[.slice HA n c, .slice LA ln lc], .int .i64 x] w fun e w' => e = .returned (.int .i64 (marksOf hs x)) ∧ ∃ q os', w' = grow (w.drewN q) os' := by
  have HN := Lib.hid hn
  clear hn
  have hbl : Below w.heap.size w (w.alloc (.cells #[.slice HA n c, .slice LA ln lc] 32)) := (Below.refl _ _).alloc (Nat.le_refl _) _
  have HG : Hid (∃ q os', w.alloc (.cells #[.slice HA n c, .slice LA ln lc] 32) = grow (w.drewN q) os') := Lib.hid ⟨0, #[_], by rw [alloc_eq_grow]; rfl⟩
  have hP : Blk (w.alloc (.cells #[.slice HA n c, .slice LA ln lc] 32)) w.heap.size 32 [.slice HA n c, .slice LA ln lc] := Blk.new _ _ _
  have q0 := hP.cellAt 0 (by simp)
  have hPlt := hP.lt
  simp only [List.getElem_cons_zero] at q0
  go_enter Tryz.func105, Tryz.ntmps105
  go_wp2_with fail
  generalize w.alloc (.cells #[.slice HA n c, .slice LA ln lc] 32) = w1 at *
  go_loop [5] (fun i => ∃ k : Nat, k ≤ n ∧ i = .int .i64 k ∧ Hid (marksOf hs x = marksOf (hs.drop k) x)) (fun i => n - (intOf i).toNat)
  case atStart => exact ⟨0, Nat.zero_le _, rfl, Lib.hid rfl⟩
  case round =>
    obtain ⟨k, hk, rfl, HJ⟩ := hrel
    by_cases hlt : k < n
    · have hke : k < hs.length := by rw [HN.out]; exact hlt
      obtain ⟨b, o, rfl, hl, hc0, hc1⟩ := hr.holdAt hke
      have h0 : w1.cell? ⟨b, o + k * 2, none⟩ = some (.int .i64 (hs[k]).f0) := (hbl.cell (p := ⟨b, o + k * 2, none⟩) hl).trans hc0
      have h1 : w1.cell? ⟨b, o + k * 2 + 1, none⟩ = some (.int .i64 (hs[k]).f1) := (hbl.cell (p := ⟨b, o + k * 2 + 1, none⟩) hl).trans hc1
      have HH := Lib.hid (fun hx => marks_hit (x := x) hke HJ.out hx)
      have HM := Lib.hid (fun hx => marks_miss (x := x) hke HJ.out hx)
      generalize hs[k] = y at *
      obtain ⟨y0, y1⟩ := y
      dsimp only at h0 h1 HH HM
      have hki : (k : Int) < (n : Int) := by omega
      clear hc0 hc1
      by_cases hx : y0 = x
      · have HT := Lib.hid (HH.out hx)
        have hd : (y0 == x) = true := by simp [hx]
        clear hx
        go_wp2_with fail
        go_ret
        exact ⟨by rw [HT.out]; rfl, HG.out⟩
      · have HT := Lib.hid (HM.out hx)
        have hd : (y0 == x) = false := by simp [hx]
        clear hx
        go_wp2_with fail
        go_round
        case rel => exact ⟨k + 1, by omega, by go_num, HT⟩
        case measure => simp [intOf]; omega
    · obtain rfl : k = n := by omega
      have HE : Hid (marksOf hs x = 0) := Lib.hid (by rw [HJ.out, List.drop_of_length_le (by rw [HN.out]; exact Nat.le_refl _)]; rfl)
      go_wp2_with fail
      go_ret
      exact ⟨by rw [HE.out]; rfl, HG.out⟩
end Go.Proofs.YtbkfhcbecejomaaGreat
end
section
/- Deeds on papers, the reference. Printed by gen_td32.py. -/
namespace Go.Proofs.YtbkfhcbecejomaaGreat
open Go Go.ChangeShapes Go.WideShapes Go.ChangeAt Go.RowKit Go.Sort
set_option linter.unusedVariables false
set_option linter.unusedSimpArgs false
set_option maxHeartbeats 8000000 in
set_option maxRecDepth 100000 in
theorem specL32Paper (high : Int) (x : HullV) (YA BA PA HA LA : Option Addr) (yn yc bn bc pn pc hn hc ln lc : Nat) (rows : List (List Int)) (bs : List BoxV) (plan : List Int) (hs : List HoldV) (ls : List Int) (kind : Int) (id : Int) (mark : Int) (w : World) (T : TrmRd w YA BA PA HA LA yn bn bc pn pc hn ln rows bs plan hs ls) (hok : termOk high rows x bs plan ⟨hs, ls⟩ = true) (hlc : ln ≤ lc) :
    Calls Tryz.prog 92 #[.agg #[.int .i64 high, .slice YA yn yc, .int .i64 x.f0, .int .i64 x.f1, .int .i64 x.f2, .slice BA bn bc, .slice PA pn pc, .slice HA hn hc, .slice LA ln lc], .int .i64 kind, .int .i64 id, .int .i64 mark] w (TrmTwo w yn bn bs) := by
  obtain ⟨y0, y1, y2⟩ := x
  have LOW := Lib.hid (TLow.of hok T.yl T.bl T.pl T.hl T.ll)
  obtain ⟨hyo, hpo, hpl, _, _, _, _, _, hr5, hfl⟩ := term_facts hok
  have hin : ∀ s ∈ rows, s.length ≤ 1048576 := fun s hs => by have := hr5 s hs; omega
  have hp0 : 0 < pn := by rw [← T.pl]; exact hpl
  have HOK := Lib.hid hok
  have HFL := Lib.hid hfl
  have HYO := Lib.hid hyo
  have HPO := Lib.hid hpo
  clear hok hfl hpo hr5 hpl
  have hal : Below w.heap.size w ((w.alloc (.cells #[.int .i64 high, .slice YA yn yc, .int .i64 y0, .int .i64 y1, .int .i64 y2, .slice BA bn bc, .slice PA pn pc, .slice HA hn hc, .slice LA ln lc] 34)).alloc (.cells #[.int .i64 0, .slice none 0 0, .int .i64 0, .int .i64 0, .int .i64 0, .slice none 0 0, .slice none 0 0, .slice none 0 0, .slice none 0 0] 34)) := ((Below.refl _ _).alloc (Nat.le_refl _) _).alloc (by simp) _
  have hP := (Blk.new w 34 [.int .i64 high, .slice YA yn yc, .int .i64 y0, .int .i64 y1, .int .i64 y2, .slice BA bn bc, .slice PA pn pc, .slice HA hn hc, .slice LA ln lc]).alloc (.cells #[.int .i64 0, .slice none 0 0, .int .i64 0, .int .i64 0, .int .i64 0, .slice none 0 0, .slice none 0 0, .slice none 0 0, .slice none 0 0] 34)
  have hR := Blk.new (w.alloc (.cells #[.int .i64 high, .slice YA yn yc, .int .i64 y0, .int .i64 y1, .int .i64 y2, .slice BA bn bc, .slice PA pn pc, .slice HA hn hc, .slice LA ln lc] 34)) 34 [.int .i64 0, .slice none 0 0, .int .i64 0, .int .i64 0, .int .i64 0, .slice none 0 0, .slice none 0 0, .slice none 0 0, .slice none 0 0]
  simp only [World.size_alloc] at hR
  change Blk ((w.alloc (.cells #[.int .i64 high, .slice YA yn yc, .int .i64 y0, .int .i64 y1, .int .i64 y2, .slice BA bn bc, .slice PA pn pc, .slice HA hn hc, .slice LA ln lc] 34)).alloc (.cells #[.int .i64 0, .slice none 0 0, .int .i64 0, .int .i64 0, .int .i64 0, .slice none 0 0, .slice none 0 0, .slice none 0 0, .slice none 0 0] 34)) _ _ _ at hP
  change Blk ((w.alloc (.cells #[.int .i64 high, .slice YA yn yc, .int .i64 y0, .int .i64 y1, .int .i64 y2, .slice BA bn bc, .slice PA pn pc, .slice HA hn hc, .slice LA ln lc] 34)).alloc (.cells #[.int .i64 0, .slice none 0 0, .int .i64 0, .int .i64 0, .int .i64 0, .slice none 0 0, .slice none 0 0, .slice none 0 0, .slice none 0 0] 34)) _ _ _ at hR
  have p0 := hP.cellAt 0 (by simp)
  have p1 := hP.cellAt 1 (by simp)
  have p2 := hP.cellAt 2 (by simp)
  have p3 := hP.cellAt 3 (by simp)
  have p4 := hP.cellAt 4 (by simp)
  have p5 := hP.cellAt 5 (by simp)
  have p6 := hP.cellAt 6 (by simp)
  have p7 := hP.cellAt 7 (by simp)
  have p8 := hP.cellAt 8 (by simp)
  simp only [List.set_cons_zero, List.set_cons_succ, List.getElem_cons_zero, List.getElem_cons_succ] at p0 p1 p2 p3 p4 p5 p6 p7 p8
  go_enter Tryz.func92, Tryz.ntmps92
  go_wp2_with fail
  generalize (w.alloc (.cells #[.int .i64 high, .slice YA yn yc, .int .i64 y0, .int .i64 y1, .int .i64 y2, .slice BA bn bc, .slice PA pn pc, .slice HA hn hc, .slice LA ln lc] 34)).alloc (.cells #[.int .i64 0, .slice none 0 0, .int .i64 0, .int .i64 0, .int .i64 0, .slice none 0 0, .slice none 0 0, .slice none 0 0, .slice none 0 0] 34) = w1 at *
  have T1 := T.below hal
  refine (specL32Copy high y0 y1 y2 YA BA PA HA LA yn yc bn bc pn pc hn hc ln lc rows bs plan hs ls w1 T1 hin hp0).mono ?_
  rintro e w2 ⟨_, rfl, YB, yd, BB, bd, PB, pd, HB, hd, LB, ld, rfl, o2, b2⟩
  clear p0 p1 p2 p3 p4 p5 p6 p7 p8
  have hal3 : Below w2.heap.size w2 (w2.alloc (.cells #[.int .i64 high, .slice YB yn yd, .int .i64 y0, .int .i64 y1, .int .i64 y2, .slice BB bn bd, .slice PB pn pd, .slice HB hn hd, .slice LB ln ld] 34)) := (Below.refl _ _).alloc (Nat.le_refl _) _
  have hO := Blk.new w2 34 [.int .i64 high, .slice YB yn yd, .int .i64 y0, .int .i64 y1, .int .i64 y2, .slice BB bn bd, .slice PB pn pd, .slice HB hn hd, .slice LB ln ld]
  change Blk (w2.alloc (.cells #[.int .i64 high, .slice YB yn yd, .int .i64 y0, .int .i64 y1, .int .i64 y2, .slice BB bn bd, .slice PB pn pd, .slice HB hn hd, .slice LB ln ld] 34)) _ _ _ at hO
  have b3 := below_trans b2 hal3
  have P3 := Lib.hid (hP.later b3)
  have R3 := Lib.hid (hR.later b3)
  have O3 := Lib.hid hO
  have A2 := Lib.hid o2
  have K3 := Lib.hid hal3
  have B3 := Lib.hid (below_trans hal b3)
  have s1 : w.heap.size + 2 ≤ w1.heap.size := by have := hR.lt; omega
  have s2 : w1.heap.size ≤ w2.heap.size := b2.size
  have TT := Lib.hid T
  clear hal hP hR T1 o2 b2 hal3 hO b3 T
  have p0 := P3.out.cellAt 0 (by simp)
  have p1 := P3.out.cellAt 1 (by simp)
  have p2 := P3.out.cellAt 2 (by simp)
  have p3 := P3.out.cellAt 3 (by simp)
  have p4 := P3.out.cellAt 4 (by simp)
  have p5 := P3.out.cellAt 5 (by simp)
  have p6 := P3.out.cellAt 6 (by simp)
  have p7 := P3.out.cellAt 7 (by simp)
  have p8 := P3.out.cellAt 8 (by simp)
  simp only [List.set_cons_zero, List.set_cons_succ, List.getElem_cons_zero, List.getElem_cons_succ] at p0 p1 p2 p3 p4 p5 p6 p7 p8
  go_wp2_with fail
  generalize w2.alloc (.cells #[.int .i64 high, .slice YB yn yd, .int .i64 y0, .int .i64 y1, .int .i64 y2, .slice BB bn bd, .slice PB pn pd, .slice HB hn hd, .slice LB ln ld] 34) = w3 at *
  refine (l2Find_any BA bn bc bs id w3 TT.out.bl (TT.out.br.below B3.out) (by have := TT.out.bm; omega)).mono ?_
  rintro e w3' ⟨rfl, rfl⟩
  generalize idxI (findF bs id) = fx at *
  by_cases hf : fx < 0
  · clear p0 p1 p2 p3 p4 p5 p6 p7 p8
    have o0 := O3.out.cellAt 0 (by simp)
    have o1 := O3.out.cellAt 1 (by simp)
    have o2 := O3.out.cellAt 2 (by simp)
    have o3 := O3.out.cellAt 3 (by simp)
    have o4 := O3.out.cellAt 4 (by simp)
    have o5 := O3.out.cellAt 5 (by simp)
    have o6 := O3.out.cellAt 6 (by simp)
    have o7 := O3.out.cellAt 7 (by simp)
    have o8 := O3.out.cellAt 8 (by simp)
    simp only [List.set_cons_zero, List.set_cons_succ, List.getElem_cons_zero, List.getElem_cons_succ] at o0 o1 o2 o3 o4 o5 o6 o7 o8
    go_wp2_with (first | (refine wpList_store_blk rfl 34 (.tmp 8) (.tmp 20) rfl (w.heap.size + 1) 34 [.int .i64 0, .slice none 0 0, .int .i64 0, .int .i64 0, .int .i64 0, .slice none 0 0, .slice none 0 0, .slice none 0 0, .slice none 0 0] [.int .i64 high, .slice YB yn yd, .int .i64 y0, .int .i64 y1, .int .i64 y2, .slice BB bn bd, .slice PB pn pd, .slice HB hn hd, .slice LB ln ld] ?_ ?_ ?_ ?_ ?_ ?_ ?_; rfl; rfl; exact R3.out; rfl; kernel_rfl; simp [Value.oneCell']; intro wz hz ho))
    have z0 := hz.cellAt 0 (by simp)
    have z1 := hz.cellAt 1 (by simp)
    have z2 := hz.cellAt 2 (by simp)
    have z3 := hz.cellAt 3 (by simp)
    have z4 := hz.cellAt 4 (by simp)
    have z5 := hz.cellAt 5 (by simp)
    have z6 := hz.cellAt 6 (by simp)
    have z7 := hz.cellAt 7 (by simp)
    have z8 := hz.cellAt 8 (by simp)
    simp only [List.set_cons_zero, List.set_cons_succ, List.getElem_cons_zero, List.getElem_cons_succ] at z0 z1 z2 z3 z4 z5 z6 z7 z8
    refine bodyPost_ret (v := .tuple #[.agg #[.int .i64 high, .slice YB yn yd, .int .i64 y0, .int .i64 y1, .int .i64 y2, .slice BB bn bd, .slice PB pn pd, .slice HB hn hd, .slice LB ln ld], .bool false]) (by simp [results, Tryz.results92, go_sem, z0, z1, z2, z3, z4, z5, z6, z7, z8]) rfl ?_
    exact RVal.mk ⟨high, y0, y1, y2, _, _, _, _, _, _, _, _, _, _, _, _, _, _, _, _, _, _, rfl, TOwn.base (TOwn.out (A2.out.later K3.out) ho (by omega)) (by omega), LOW.out, below_out B3.out ho (by omega)⟩
  · skip
    go_wp2_with fail
    refine (specPaperDo HA LA hn hc ln lc hs ls kind id mark w3 TT.out.hl TT.out.ll (TT.out.hr.below B3.out) (TT.out.lr.below B3.out) hlc TT.out.hm TT.out.lm).mono ?_
    have hlow := paperDo_low ⟨hs, ls⟩ kind id mark
    generalize paperDo ⟨hs, ls⟩ kind id mark = X at *
    obtain ⟨⟨hs', ls'⟩, b⟩ := X
    dsimp only at hlow
    rintro e w6 ⟨_, rfl, HC, he, LC, le, rfl, oh, ol, b6⟩
    dsimp only at oh ol ⊢
    generalize hm' : hs'.length = hm at *
    generalize lm' : ls'.length = lm at *
    have hal7 : Below w6.heap.size w6 (w6.alloc (.cells #[.slice HC hm he, .slice LC lm le] 32)) := (Below.refl _ _).alloc (Nat.le_refl _) _
    have D7 := Blk.new w6 32 [.slice HC hm he, .slice LC lm le]
    change Blk (w6.alloc (.cells #[.slice HC hm he, .slice LC lm le] 32)) _ _ _ at D7
    have b7 := below_trans b6 hal7
    have R7 := Lib.hid (R3.out.later b7)
    have O7 := Lib.hid (O3.out.later b7)
    have K7 := Lib.hid (below_trans K3.out b7)
    have lw2 : w2.heap.size < w3.heap.size := O3.out.lt
    have B7 := Lib.hid (below_trans B3.out b7)
    have LOWD := Lib.hid (show TLow yn bn pn hm lm rows bs plan hs' ls' from ⟨LOW.out.yl, LOW.out.y6, LOW.out.ym, LOW.out.bl, LOW.out.bm, LOW.out.pl, LOW.out.pm, hm', by omega, lm', by omega⟩)
    clear p0 p1 p2 p3 p4 p5 p6 p7 p8
    have d0 := D7.cellAt 0 (by simp)
    have d1 := D7.cellAt 1 (by simp)
    simp only [List.set_cons_zero, List.set_cons_succ, List.getElem_cons_zero, List.getElem_cons_succ] at d0 d1
    have o0 := O7.out.cellAt 0 (by simp)
    have o1 := O7.out.cellAt 1 (by simp)
    have o2 := O7.out.cellAt 2 (by simp)
    have o3 := O7.out.cellAt 3 (by simp)
    have o4 := O7.out.cellAt 4 (by simp)
    have o5 := O7.out.cellAt 5 (by simp)
    have o6 := O7.out.cellAt 6 (by simp)
    have o7 := O7.out.cellAt 7 (by simp)
    have o8 := O7.out.cellAt 8 (by simp)
    simp only [List.set_cons_zero, List.set_cons_succ, List.getElem_cons_zero, List.getElem_cons_succ] at o0 o1 o2 o3 o4 o5 o6 o7 o8
    have f7 := O7.out.frozen 7
    have f8 := (O7.out.set_ 7 (.slice HC hm he)).frozen 8
    have hO8 := (O7.out.set_ 7 (.slice HC hm he)).set_ 8 (.slice LC lm le)
    have ho8 := out_set (out_set (Out.refl w2.heap.size (w2.heap.size + 1) (w6.alloc (.cells #[.slice HC hm he, .slice LC lm le] 32))) w2.heap.size 7 (.slice HC hm he) (Nat.le_refl _) (Nat.lt_succ_self _)) w2.heap.size 8 (.slice LC lm le) (Nat.le_refl _) (Nat.lt_succ_self _)
    have A8 := Lib.hid (A2.out.swapD (by omega) ((K7.out.setCell (p := ⟨w2.heap.size, 7, none⟩) (Nat.le_refl _) (.slice HC hm he)).setCell (p := ⟨w2.heap.size, 8, none⟩) (Nat.le_refl _) (.slice LC lm le)) (own_outT (own_later oh hal7) ho8 (by omega)) (own_outT (own_later ol hal7) ho8 (by omega)) (by omega))
    have B8 := Lib.hid ((B7.out.setCell (p := ⟨w2.heap.size, 7, none⟩) (by show w.heap.size ≤ w2.heap.size; omega) (.slice HC hm he)).setCell (p := ⟨w2.heap.size, 8, none⟩) (by show w.heap.size ≤ w2.heap.size; omega) (.slice LC lm le))
    have R8 := Lib.hid ((R7.out.far (p := ⟨w2.heap.size, 7, none⟩) (by show w.heap.size + 1 ≠ w2.heap.size; omega) (.slice HC hm he)).far (p := ⟨w2.heap.size, 8, none⟩) (by show w.heap.size + 1 ≠ w2.heap.size; omega) (.slice LC lm le))
    have o0 := hO8.cellAt 0 (by simp)
    have o1 := hO8.cellAt 1 (by simp)
    have o2 := hO8.cellAt 2 (by simp)
    have o3 := hO8.cellAt 3 (by simp)
    have o4 := hO8.cellAt 4 (by simp)
    have o5 := hO8.cellAt 5 (by simp)
    have o6 := hO8.cellAt 6 (by simp)
    have o7 := hO8.cellAt 7 (by simp)
    have o8 := hO8.cellAt 8 (by simp)
    simp only [List.set_cons_zero, List.set_cons_succ, List.getElem_cons_zero, List.getElem_cons_succ] at o0 o1 o2 o3 o4 o5 o6 o7 o8
    clear oh ol ho8 hO8 hal7 D7 b6 b7 R7 B7 K7
    go_wp2_with (first | (refine wpList_store_blk rfl 34 (.tmp 8) (.tmp 33) rfl (w.heap.size + 1) 34 [.int .i64 0, .slice none 0 0, .int .i64 0, .int .i64 0, .int .i64 0, .slice none 0 0, .slice none 0 0, .slice none 0 0, .slice none 0 0] [.int .i64 high, .slice YB yn yd, .int .i64 y0, .int .i64 y1, .int .i64 y2, .slice BB bn bd, .slice PB pn pd, .slice HC hm he, .slice LC lm le] ?_ ?_ ?_ ?_ ?_ ?_ ?_; rfl; rfl; exact R8.out; rfl; kernel_rfl; simp [Value.oneCell']; intro wz hz ho))
    have z0 := hz.cellAt 0 (by simp)
    have z1 := hz.cellAt 1 (by simp)
    have z2 := hz.cellAt 2 (by simp)
    have z3 := hz.cellAt 3 (by simp)
    have z4 := hz.cellAt 4 (by simp)
    have z5 := hz.cellAt 5 (by simp)
    have z6 := hz.cellAt 6 (by simp)
    have z7 := hz.cellAt 7 (by simp)
    have z8 := hz.cellAt 8 (by simp)
    simp only [List.set_cons_zero, List.set_cons_succ, List.getElem_cons_zero, List.getElem_cons_succ] at z0 z1 z2 z3 z4 z5 z6 z7 z8
    refine bodyPost_ret (v := .tuple #[.agg #[.int .i64 high, .slice YB yn yd, .int .i64 y0, .int .i64 y1, .int .i64 y2, .slice BB bn bd, .slice PB pn pd, .slice HC hm he, .slice LC lm le], .bool b]) (by simp [results, Tryz.results92, go_sem, z0, z1, z2, z3, z4, z5, z6, z7, z8]) rfl ?_
    exact RVal.mk ⟨high, y0, y1, y2, _, _, _, _, _, _, _, _, _, _, _, _, _, _, _, _, _, _, rfl, TOwn.base (TOwn.out A8.out ho (by omega)) (by omega), (LOWD.out), below_out B8.out ho (by omega)⟩
end Go.Proofs.YtbkfhcbecejomaaGreat
end
section
/- A box leaves, the reference. Printed by gen_td32.py. -/
namespace Go.Proofs.YtbkfhcbecejomaaGreat
open Go Go.ChangeShapes Go.WideShapes Go.ChangeAt Go.RowKit Go.Sort
set_option linter.unusedVariables false
set_option linter.unusedSimpArgs false
set_option maxHeartbeats 8000000 in
set_option maxRecDepth 100000 in
theorem specL32Out (high : Int) (x : HullV) (YA BA PA HA LA : Option Addr) (yn yc bn bc pn pc hn hc ln lc : Nat) (rows : List (List Int)) (bs : List BoxV) (plan : List Int) (hs : List HoldV) (ls : List Int) (frm : Int) (w : World) (T : TrmRd w YA BA PA HA LA yn bn bc pn pc hn ln rows bs plan hs ls) (hok : termOk high rows x bs plan ⟨hs, ls⟩ = true) (hlc : ln ≤ lc) :
    Calls Tryz.prog 91 #[.agg #[.int .i64 high, .slice YA yn yc, .int .i64 x.f0, .int .i64 x.f1, .int .i64 x.f2, .slice BA bn bc, .slice PA pn pc, .slice HA hn hc, .slice LA ln lc], .int .i64 frm] w (TrmTwo w yn bn bs) := by
  obtain ⟨y0, y1, y2⟩ := x
  have LOW := Lib.hid (TLow.of hok T.yl T.bl T.pl T.hl T.ll)
  obtain ⟨hyo, hpo, hpl, _, _, _, _, _, hr5, hfl⟩ := term_facts hok
  have hin : ∀ s ∈ rows, s.length ≤ 1048576 := fun s hs => by have := hr5 s hs; omega
  have hp0 : 0 < pn := by rw [← T.pl]; exact hpl
  have HOK := Lib.hid hok
  have HFL := Lib.hid hfl
  have HYO := Lib.hid hyo
  have HPO := Lib.hid hpo
  clear hok hfl hpo hr5 hpl
  have hal : Below w.heap.size w ((w.alloc (.cells #[.int .i64 high, .slice YA yn yc, .int .i64 y0, .int .i64 y1, .int .i64 y2, .slice BA bn bc, .slice PA pn pc, .slice HA hn hc, .slice LA ln lc] 34)).alloc (.cells #[.int .i64 0, .slice none 0 0, .int .i64 0, .int .i64 0, .int .i64 0, .slice none 0 0, .slice none 0 0, .slice none 0 0, .slice none 0 0] 34)) := ((Below.refl _ _).alloc (Nat.le_refl _) _).alloc (by simp) _
  have hP := (Blk.new w 34 [.int .i64 high, .slice YA yn yc, .int .i64 y0, .int .i64 y1, .int .i64 y2, .slice BA bn bc, .slice PA pn pc, .slice HA hn hc, .slice LA ln lc]).alloc (.cells #[.int .i64 0, .slice none 0 0, .int .i64 0, .int .i64 0, .int .i64 0, .slice none 0 0, .slice none 0 0, .slice none 0 0, .slice none 0 0] 34)
  have hR := Blk.new (w.alloc (.cells #[.int .i64 high, .slice YA yn yc, .int .i64 y0, .int .i64 y1, .int .i64 y2, .slice BA bn bc, .slice PA pn pc, .slice HA hn hc, .slice LA ln lc] 34)) 34 [.int .i64 0, .slice none 0 0, .int .i64 0, .int .i64 0, .int .i64 0, .slice none 0 0, .slice none 0 0, .slice none 0 0, .slice none 0 0]
  simp only [World.size_alloc] at hR
  change Blk ((w.alloc (.cells #[.int .i64 high, .slice YA yn yc, .int .i64 y0, .int .i64 y1, .int .i64 y2, .slice BA bn bc, .slice PA pn pc, .slice HA hn hc, .slice LA ln lc] 34)).alloc (.cells #[.int .i64 0, .slice none 0 0, .int .i64 0, .int .i64 0, .int .i64 0, .slice none 0 0, .slice none 0 0, .slice none 0 0, .slice none 0 0] 34)) _ _ _ at hP
  change Blk ((w.alloc (.cells #[.int .i64 high, .slice YA yn yc, .int .i64 y0, .int .i64 y1, .int .i64 y2, .slice BA bn bc, .slice PA pn pc, .slice HA hn hc, .slice LA ln lc] 34)).alloc (.cells #[.int .i64 0, .slice none 0 0, .int .i64 0, .int .i64 0, .int .i64 0, .slice none 0 0, .slice none 0 0, .slice none 0 0, .slice none 0 0] 34)) _ _ _ at hR
  have p0 := hP.cellAt 0 (by simp)
  have p1 := hP.cellAt 1 (by simp)
  have p2 := hP.cellAt 2 (by simp)
  have p3 := hP.cellAt 3 (by simp)
  have p4 := hP.cellAt 4 (by simp)
  have p5 := hP.cellAt 5 (by simp)
  have p6 := hP.cellAt 6 (by simp)
  have p7 := hP.cellAt 7 (by simp)
  have p8 := hP.cellAt 8 (by simp)
  simp only [List.set_cons_zero, List.set_cons_succ, List.getElem_cons_zero, List.getElem_cons_succ] at p0 p1 p2 p3 p4 p5 p6 p7 p8
  go_enter Tryz.func91, Tryz.ntmps91
  go_wp2_with fail
  generalize (w.alloc (.cells #[.int .i64 high, .slice YA yn yc, .int .i64 y0, .int .i64 y1, .int .i64 y2, .slice BA bn bc, .slice PA pn pc, .slice HA hn hc, .slice LA ln lc] 34)).alloc (.cells #[.int .i64 0, .slice none 0 0, .int .i64 0, .int .i64 0, .int .i64 0, .slice none 0 0, .slice none 0 0, .slice none 0 0, .slice none 0 0] 34) = w1 at *
  have T1 := T.below hal
  refine (specL32Copy high y0 y1 y2 YA BA PA HA LA yn yc bn bc pn pc hn hc ln lc rows bs plan hs ls w1 T1 hin hp0).mono ?_
  rintro e w2 ⟨_, rfl, YB, yd, BB, bd, PB, pd, HB, hd, LB, ld, rfl, o2, b2⟩
  clear p0 p1 p2 p3 p4 p5 p6 p7 p8
  have hal3 : Below w2.heap.size w2 (w2.alloc (.cells #[.int .i64 high, .slice YB yn yd, .int .i64 y0, .int .i64 y1, .int .i64 y2, .slice BB bn bd, .slice PB pn pd, .slice HB hn hd, .slice LB ln ld] 34)) := (Below.refl _ _).alloc (Nat.le_refl _) _
  have hO := Blk.new w2 34 [.int .i64 high, .slice YB yn yd, .int .i64 y0, .int .i64 y1, .int .i64 y2, .slice BB bn bd, .slice PB pn pd, .slice HB hn hd, .slice LB ln ld]
  change Blk (w2.alloc (.cells #[.int .i64 high, .slice YB yn yd, .int .i64 y0, .int .i64 y1, .int .i64 y2, .slice BB bn bd, .slice PB pn pd, .slice HB hn hd, .slice LB ln ld] 34)) _ _ _ at hO
  have b3 := below_trans b2 hal3
  have P3 := Lib.hid (hP.later b3)
  have R3 := Lib.hid (hR.later b3)
  have O3 := Lib.hid hO
  have A2 := Lib.hid o2
  have K3 := Lib.hid hal3
  have B3 := Lib.hid (below_trans hal b3)
  have s1 : w.heap.size + 2 ≤ w1.heap.size := by have := hR.lt; omega
  have s2 : w1.heap.size ≤ w2.heap.size := b2.size
  have TT := Lib.hid T
  clear hal hP hR T1 o2 b2 hal3 hO b3 T
  have p0 := P3.out.cellAt 0 (by simp)
  have p1 := P3.out.cellAt 1 (by simp)
  have p2 := P3.out.cellAt 2 (by simp)
  have p3 := P3.out.cellAt 3 (by simp)
  have p4 := P3.out.cellAt 4 (by simp)
  have p5 := P3.out.cellAt 5 (by simp)
  have p6 := P3.out.cellAt 6 (by simp)
  have p7 := P3.out.cellAt 7 (by simp)
  have p8 := P3.out.cellAt 8 (by simp)
  simp only [List.set_cons_zero, List.set_cons_succ, List.getElem_cons_zero, List.getElem_cons_succ] at p0 p1 p2 p3 p4 p5 p6 p7 p8
  go_wp2_with fail
  generalize w2.alloc (.cells #[.int .i64 high, .slice YB yn yd, .int .i64 y0, .int .i64 y1, .int .i64 y2, .slice BB bn bd, .slice PB pn pd, .slice HB hn hd, .slice LB ln ld] 34) = w3 at *
  have lw3 : w2.heap.size < w3.heap.size := O3.out.lt
  refine (takeY high frm YA yn yc rows w3 TT.out.yl (TT.out.yr.below B3.out) TT.out.ym HYO.out).mono ?_
  rintro e w4 ⟨_, rfl, XA, xc, rows', _, rfl, ⟨id, rfl, hid, hok1⟩, hn1, h61, ox, b4⟩
  have hal5 : Below w4.heap.size w4 (w4.alloc (.cells #[.int .i64 high, .slice XA yn xc] 25)) := (Below.refl _ _).alloc (Nat.le_refl _) _
  have Y5 := Blk.new w4 25 [.int .i64 high, .slice XA yn xc]
  change Blk (w4.alloc (.cells #[.int .i64 high, .slice XA yn xc] 25)) _ _ _ at Y5
  have b5 := below_trans b4 hal5
  have P5 := Lib.hid (P3.out.later b5)
  have R5 := Lib.hid (R3.out.later b5)
  have O5 := Lib.hid (O3.out.later b5)
  have K5 := Lib.hid (below_trans K3.out b5)
  have B5 := Lib.hid (below_trans B3.out b5)
  have HY5 := Lib.hid Y5
  have HX := Lib.hid ox
  have HA5 := Lib.hid hal5
  have lw4 : w3.heap.size ≤ w4.heap.size := b4.size
  have HID := Lib.hid hid
  have LY := Lib.hid (And.intro hn1 h61)
  clear b4 b5 hal5 Y5 ox hid hok1 hn1 h61
  clear p0 p1 p2 p3 p4 p5 p6 p7 p8
  have lw5 := HY5.out.lt
  by_cases hi : id < 0
  · skip
    have o0 := O5.out.cellAt 0 (by simp)
    have o1 := O5.out.cellAt 1 (by simp)
    have o2 := O5.out.cellAt 2 (by simp)
    have o3 := O5.out.cellAt 3 (by simp)
    have o4 := O5.out.cellAt 4 (by simp)
    have o5 := O5.out.cellAt 5 (by simp)
    have o6 := O5.out.cellAt 6 (by simp)
    have o7 := O5.out.cellAt 7 (by simp)
    have o8 := O5.out.cellAt 8 (by simp)
    simp only [List.set_cons_zero, List.set_cons_succ, List.getElem_cons_zero, List.getElem_cons_succ] at o0 o1 o2 o3 o4 o5 o6 o7 o8
    go_wp2_with (first | (refine wpList_store_blk rfl 34 (.tmp 4) (.tmp 22) rfl (w.heap.size + 1) 34 [.int .i64 0, .slice none 0 0, .int .i64 0, .int .i64 0, .int .i64 0, .slice none 0 0, .slice none 0 0, .slice none 0 0, .slice none 0 0] [.int .i64 high, .slice YB yn yd, .int .i64 y0, .int .i64 y1, .int .i64 y2, .slice BB bn bd, .slice PB pn pd, .slice HB hn hd, .slice LB ln ld] ?_ ?_ ?_ ?_ ?_ ?_ ?_; rfl; rfl; exact R5.out; rfl; kernel_rfl; simp [Value.oneCell']; intro wz hz ho))
    have z0 := hz.cellAt 0 (by simp)
    have z1 := hz.cellAt 1 (by simp)
    have z2 := hz.cellAt 2 (by simp)
    have z3 := hz.cellAt 3 (by simp)
    have z4 := hz.cellAt 4 (by simp)
    have z5 := hz.cellAt 5 (by simp)
    have z6 := hz.cellAt 6 (by simp)
    have z7 := hz.cellAt 7 (by simp)
    have z8 := hz.cellAt 8 (by simp)
    simp only [List.set_cons_zero, List.set_cons_succ, List.getElem_cons_zero, List.getElem_cons_succ] at z0 z1 z2 z3 z4 z5 z6 z7 z8
    refine bodyPost_ret (v := .tuple #[.agg #[.int .i64 high, .slice YB yn yd, .int .i64 y0, .int .i64 y1, .int .i64 y2, .slice BB bn bd, .slice PB pn pd, .slice HB hn hd, .slice LB ln ld], .bool false]) (by simp [results, Tryz.results91, go_sem, z0, z1, z2, z3, z4, z5, z6, z7, z8]) rfl ?_
    exact RVal.mk ⟨high, y0, y1, y2, _, _, _, _, _, _, _, _, _, _, _, _, _, _, _, _, _, _, rfl, TOwn.base (TOwn.out (A2.out.later K5.out) ho (by omega)) (by omega), LOW.out, below_out B5.out ho (by omega)⟩
  · skip
    have p0 := P5.out.cellAt 0 (by simp)
    have p1 := P5.out.cellAt 1 (by simp)
    have p2 := P5.out.cellAt 2 (by simp)
    have p3 := P5.out.cellAt 3 (by simp)
    have p4 := P5.out.cellAt 4 (by simp)
    have p5 := P5.out.cellAt 5 (by simp)
    have p6 := P5.out.cellAt 6 (by simp)
    have p7 := P5.out.cellAt 7 (by simp)
    have p8 := P5.out.cellAt 8 (by simp)
    simp only [List.set_cons_zero, List.set_cons_succ, List.getElem_cons_zero, List.getElem_cons_succ] at p0 p1 p2 p3 p4 p5 p6 p7 p8
    go_wp2_with fail
    generalize w4.alloc (.cells #[.int .i64 high, .slice XA yn xc] 25) = w5 at *
    refine (specPaperDo HA LA hn hc ln lc hs ls 2 id 0 w5 TT.out.hl TT.out.ll (TT.out.hr.below B5.out) (TT.out.lr.below B5.out) hlc TT.out.hm TT.out.lm).mono ?_
    have hlow := paperDo_low ⟨hs, ls⟩ 2 id 0
    generalize paperDo ⟨hs, ls⟩ 2 id 0 = X at *
    obtain ⟨⟨hs', ls'⟩, b⟩ := X
    dsimp only at hlow
    rintro e w6 ⟨_, rfl, HC, he, LC, le, rfl, oh, ol, b6⟩
    dsimp only at oh ol ⊢
    generalize hm' : hs'.length = hm at *
    generalize lm' : ls'.length = lm at *
    have hal7 : Below w6.heap.size w6 (w6.alloc (.cells #[.slice HC hm he, .slice LC lm le] 32)) := (Below.refl _ _).alloc (Nat.le_refl _) _
    have D7 := Blk.new w6 32 [.slice HC hm he, .slice LC lm le]
    change Blk (w6.alloc (.cells #[.slice HC hm he, .slice LC lm le] 32)) _ _ _ at D7
    clear p0 p1 p2 p3 p4 p5 p6 p7 p8
    have sb6 := b6.size
    have b7 := below_trans b6 hal7
    have P7 := Lib.hid (P5.out.later b7)
    have R7 := Lib.hid (R5.out.later b7)
    have O7 := Lib.hid (O5.out.later b7)
    have K7 := Lib.hid (below_trans K5.out b7)
    have B7 := Lib.hid (below_trans B5.out b7)
    have Y7 := HY5.out.later b7
    have q0 := Y7.cellAt 0 (by simp)
    have q1 := Y7.cellAt 1 (by simp)
    simp only [List.set_cons_zero, List.set_cons_succ, List.getElem_cons_zero, List.getElem_cons_succ] at q0 q1
    have D9 := ((D7.far (p := ⟨w2.heap.size, 0, none⟩) (by show w6.heap.size ≠ w2.heap.size; omega) (.int .i64 high)).far (p := ⟨w2.heap.size, 1, none⟩) (by show w6.heap.size ≠ w2.heap.size; omega) (.slice XA yn xc))
    have d0 := D9.cellAt 0 (by simp)
    have d1 := D9.cellAt 1 (by simp)
    simp only [List.set_cons_zero, List.set_cons_succ, List.getElem_cons_zero, List.getElem_cons_succ] at d0 d1
    have of0 := (O7.out).frozen 0
    have oc0 := (O7.out).cellAt 0 (by simp)
    simp only [List.set_cons_zero, List.set_cons_succ, List.getElem_cons_zero, List.getElem_cons_succ] at oc0
    have of1 := ((O7.out).set_ 0 (.int .i64 high)).frozen 1
    have oc1 := ((O7.out).set_ 0 (.int .i64 high)).cellAt 1 (by simp)
    simp only [List.set_cons_zero, List.set_cons_succ, List.getElem_cons_zero, List.getElem_cons_succ] at oc1
    have of7 := (((O7.out).set_ 0 (.int .i64 high)).set_ 1 (.slice XA yn xc)).frozen 7
    have oc7 := (((O7.out).set_ 0 (.int .i64 high)).set_ 1 (.slice XA yn xc)).cellAt 7 (by simp)
    simp only [List.set_cons_zero, List.set_cons_succ, List.getElem_cons_zero, List.getElem_cons_succ] at oc7
    have of8 := ((((O7.out).set_ 0 (.int .i64 high)).set_ 1 (.slice XA yn xc)).set_ 7 (.slice HC hm he)).frozen 8
    have oc8 := ((((O7.out).set_ 0 (.int .i64 high)).set_ 1 (.slice XA yn xc)).set_ 7 (.slice HC hm he)).cellAt 8 (by simp)
    simp only [List.set_cons_zero, List.set_cons_succ, List.getElem_cons_zero, List.getElem_cons_succ] at oc8
    have hO8 := ((((O7.out).set_ 0 (.int .i64 high)).set_ 1 (.slice XA yn xc)).set_ 7 (.slice HC hm he)).set_ 8 (.slice LC lm le)
    have o0 := hO8.cellAt 0 (by simp)
    have o1 := hO8.cellAt 1 (by simp)
    have o2 := hO8.cellAt 2 (by simp)
    have o3 := hO8.cellAt 3 (by simp)
    have o4 := hO8.cellAt 4 (by simp)
    have o5 := hO8.cellAt 5 (by simp)
    have o6 := hO8.cellAt 6 (by simp)
    have o7 := hO8.cellAt 7 (by simp)
    have o8 := hO8.cellAt 8 (by simp)
    simp only [List.set_cons_zero, List.set_cons_succ, List.getElem_cons_zero, List.getElem_cons_succ] at o0 o1 o2 o3 o4 o5 o6 o7 o8
    have ho8 := (out_set (out_set (out_set (out_set (Out.refl w2.heap.size (w2.heap.size + 1) (w6.alloc (.cells #[.slice HC hm he, .slice LC lm le] 32))) w2.heap.size 0 (.int .i64 high) (Nat.le_refl _) (Nat.lt_succ_self _)) w2.heap.size 1 (.slice XA yn xc) (Nat.le_refl _) (Nat.lt_succ_self _)) w2.heap.size 7 (.slice HC hm he) (Nat.le_refl _) (Nat.lt_succ_self _)) w2.heap.size 8 (.slice LC lm le) (Nat.le_refl _) (Nat.lt_succ_self _))
    have bx7 := below_trans HA5.out b7
    have A8 := Lib.hid (A2.out.swapYD (by omega) ((((K7.out.setCell (p := ⟨w2.heap.size, 0, none⟩) (Nat.le_refl _) (.int .i64 high)).setCell (p := ⟨w2.heap.size, 1, none⟩) (Nat.le_refl _) (.slice XA yn xc)).setCell (p := ⟨w2.heap.size, 7, none⟩) (Nat.le_refl _) (.slice HC hm he)).setCell (p := ⟨w2.heap.size, 8, none⟩) (Nat.le_refl _) (.slice LC lm le)) ((HX.out.later bx7).out ho8 (.inr (by omega))) (by omega) (own_outT (own_later oh hal7) ho8 (by omega)) (own_outT (own_later ol hal7) ho8 (by omega)) (by omega))
    have B8 := Lib.hid ((((B7.out.setCell (p := ⟨w2.heap.size, 0, none⟩) (by show w.heap.size ≤ w2.heap.size; omega) (.int .i64 high)).setCell (p := ⟨w2.heap.size, 1, none⟩) (by show w.heap.size ≤ w2.heap.size; omega) (.slice XA yn xc)).setCell (p := ⟨w2.heap.size, 7, none⟩) (by show w.heap.size ≤ w2.heap.size; omega) (.slice HC hm he)).setCell (p := ⟨w2.heap.size, 8, none⟩) (by show w.heap.size ≤ w2.heap.size; omega) (.slice LC lm le))
    have R8 := Lib.hid ((((R7.out.far (p := ⟨w2.heap.size, 0, none⟩) (by show w.heap.size + 1 ≠ w2.heap.size; omega) (.int .i64 high)).far (p := ⟨w2.heap.size, 1, none⟩) (by show w.heap.size + 1 ≠ w2.heap.size; omega) (.slice XA yn xc)).far (p := ⟨w2.heap.size, 7, none⟩) (by show w.heap.size + 1 ≠ w2.heap.size; omega) (.slice HC hm he)).far (p := ⟨w2.heap.size, 8, none⟩) (by show w.heap.size + 1 ≠ w2.heap.size; omega) (.slice LC lm le))
    have LOWD := Lib.hid (show TLow yn bn pn hm lm rows' bs plan hs' ls' from ⟨LY.out.1, LY.out.2, LOW.out.ym, LOW.out.bl, LOW.out.bm, LOW.out.pl, LOW.out.pm, hm', by omega, lm', by omega⟩)
    clear oh ol ho8 hO8 hal7 D7 D9 b6 b7 bx7 Y7 R7 B7 K7
    go_wp2_with (first | (refine wpList_store_blk rfl 34 (.tmp 4) (.tmp 35) rfl (w.heap.size + 1) 34 [.int .i64 0, .slice none 0 0, .int .i64 0, .int .i64 0, .int .i64 0, .slice none 0 0, .slice none 0 0, .slice none 0 0, .slice none 0 0] [.int .i64 high, .slice XA yn xc, .int .i64 y0, .int .i64 y1, .int .i64 y2, .slice BB bn bd, .slice PB pn pd, .slice HC hm he, .slice LC lm le] ?_ ?_ ?_ ?_ ?_ ?_ ?_; rfl; rfl; exact R8.out; rfl; kernel_rfl; simp [Value.oneCell']; intro wz hz ho))
    have z0 := hz.cellAt 0 (by simp)
    have z1 := hz.cellAt 1 (by simp)
    have z2 := hz.cellAt 2 (by simp)
    have z3 := hz.cellAt 3 (by simp)
    have z4 := hz.cellAt 4 (by simp)
    have z5 := hz.cellAt 5 (by simp)
    have z6 := hz.cellAt 6 (by simp)
    have z7 := hz.cellAt 7 (by simp)
    have z8 := hz.cellAt 8 (by simp)
    simp only [List.set_cons_zero, List.set_cons_succ, List.getElem_cons_zero, List.getElem_cons_succ] at z0 z1 z2 z3 z4 z5 z6 z7 z8
    refine bodyPost_ret (v := .tuple #[.agg #[.int .i64 high, .slice XA yn xc, .int .i64 y0, .int .i64 y1, .int .i64 y2, .slice BB bn bd, .slice PB pn pd, .slice HC hm he, .slice LC lm le], .bool b]) (by simp [results, Tryz.results91, go_sem, z0, z1, z2, z3, z4, z5, z6, z7, z8]) rfl ?_
    exact RVal.mk ⟨high, y0, y1, y2, _, _, _, _, _, _, _, _, _, _, _, _, _, _, _, _, _, _, rfl, TOwn.base (TOwn.out A8.out ho (by omega)) (by omega), LOWD.out, below_out B8.out ho (by omega)⟩
end Go.Proofs.YtbkfhcbecejomaaGreat
end
