/- Terminals: both programs say where a box is. -/
import Derived.Test.YtbkfhcbecejomaaGreatMg17
import Derived.Test.YtbkfhcbecejomaaGreatMg11
namespace Go.Proofs.YtbkfhcbecejomaaGreat
open Go Go.ChangeShapes Go.WideShapes Go.ChangeAt Go.RowKit
set_option linter.unusedVariables false
set_option maxHeartbeats 1000000 in
theorem specYardFind (high : Int) (A : Option Addr) (n c : Nat) (rows : List (List Int)) (x : Int) (w : World) (hok : yardOk high rows = true) (hn : rows.length = n) (hr : RdRR w A (intss rows)) (hm : n ≤ 1048576) :
    Calls Tryz.prog 47 #[.agg #[.int .i64 high, .slice A n c], .int .i64 x] w fun e w' => e = .returned (.int .i64 (findAux rows 0 x)) ∧ Below w.heap.size w w' := by
  have HN := Lib.hid hn
  have HOK := Lib.hid hok
  have hbl : Below w.heap.size w (w.alloc (.cells #[.int .i64 high, .slice A n c] 25)) := (Below.refl _ _).alloc (Nat.le_refl _) _
  have hP : Blk (w.alloc (.cells #[.int .i64 high, .slice A n c] 25)) w.heap.size 25 [.int .i64 high, .slice A n c] := Blk.new _ _ _
  have HR := Lib.hid (hr.below hbl)
  have HBL := Lib.hid hbl
  clear hn hok hr hbl
  go_enter Tryz.func47, Tryz.ntmps47
  go_wp2_with fail
  refine (specYardValid high A n c rows _ HN.out HR.out (by omega)).mono ?_
  rintro e w1 ⟨rfl, hb1⟩
  rw [HOK.out]
  have hP1 := hP.later hb1
  have HR1 := Lib.hid (HR.out.below hb1)
  have HB1 := Lib.hid (below_trans HBL.out hb1)
  have x0 := hP1.cellAt 0 (by simp)
  have x1 := hP1.cellAt 1 (by simp)
  simp only [List.getElem_cons_zero, List.getElem_cons_succ] at x0 x1
  have xl := hP1.lt
  clear hb1 hP HR HBL
  go_wp2_with fail
  go_loop [5] (fun i => ∃ k : Nat, k ≤ n ∧ i = .int .i64 k ∧ Hid (findAux rows 0 x = findAux (rows.drop k) k x)) (fun i => n - (intOf i).toNat)
  case atStart => exact ⟨0, Nat.zero_le _, rfl, Lib.hid (by simp)⟩
  case round =>
    obtain ⟨k, hk, rfl, HJ⟩ := hrel
    by_cases hlt : k < n
    · have hkz : k < rows.length := by rw [HN.out]; exact hlt
      have hkl : k < (intss rows).length := by rw [intss_len]; exact hkz
      obtain ⟨b1, o, rfl, hl, B, c', hcell, hle, hmx, hrB⟩ := HR1.out.pos hkl
      rw [intss_at] at hrB
      simp only [intss_at, ints_len] at hcell
      have HS := Lib.hid (HJ.out.trans (findAux_step (x := x) hkz))
      unfold maxLen at hmx
      simp only [intss_at, ints_len] at hle
      have hki : (k : Int) < (n : Int) := by omega
      have h5 : (rows[k]).length ≤ 5 := by
        obtain ⟨_, _, _, _, h2, _⟩ := yardOk_parts HOK.out
        exact h2 _ (List.getElem_mem hkz)
      generalize rows[k] = zs at *
      generalize hz : zs.length = p at *
      have HZ := Lib.hid hz
      clear hz
      go_wp2_with fail
      refine (l1Has_any B p c' zs x _ HZ.out hrB (by omega)).mono ?_
      rintro e w' ⟨rfl, rfl⟩
      cases hxy : hasI zs x with
      | true =>
        have HT := Lib.hid (HS.out.trans (if_pos hxy))
        clear hxy
        go_wp2_with fail
        go_ret
        exact ⟨by rw [HT.out]; rfl, HB1.out⟩
      | false =>
        have HT := Lib.hid (HS.out.trans (if_neg (by simp [hxy])))
        clear hxy
        go_wp2_with fail
        go_round
        case rel => exact ⟨k + 1, by omega, by go_num, HT⟩
        case measure => simp [intOf]; omega
    · have HE : Hid (findAux rows 0 x = -1) := Lib.hid (by rw [HJ.out, List.drop_of_length_le (by rw [HN.out]; omega), findAux])
      obtain rfl : k = n := by omega
      go_wp2_with fail
      go_ret
      exact ⟨by rw [HE.out]; rfl, HB1.out⟩
theorem termOk_parts {high : Int} {rows : List (List Int)} {h : HullV} {bs : List BoxV} {plan : List Int} {p : PapV} (e : termOk high rows h bs plan p = true) : yardOk high rows = true := by
  simp only [termOk, Bool.and_eq_true] at e
  exact e.1.1.1.1
set_option maxHeartbeats 2000000 in
theorem specTermWhere (high : Int) (x : HullV) (YA BA PA HA LA : Option Addr) (yn yc bn bc pn pc hn hc ln lc : Nat) (rows : List (List Int)) (bs : List BoxV) (plan : List Int) (hs : List HoldV) (ls : List Int) (id : Int) (w : World) (T : TrmRd w YA BA PA HA LA yn bn bc pn pc hn ln rows bs plan hs ls) :
    Calls Tryz.prog 15 #[.agg #[.int .i64 high, .slice YA yn yc, .int .i64 x.f0, .int .i64 x.f1, .int .i64 x.f2, .slice BA bn bc, .slice PA pn pc, .slice HA hn hc, .slice LA ln lc], .int .i64 id] w fun e w' => e = .returned (.int .i64 (termWhere high rows x bs plan ⟨hs, ls⟩ id)) ∧ Below w.heap.size w w' := by
  obtain ⟨y0, y1, y2⟩ := x
  have TT := Lib.hid T
  have t1 := T.ym
  have t2 := T.bm
  have t3 := T.pm
  have t4 := T.hm
  have t5 := T.lm
  clear T
  have hal : Below w.heap.size w (w.alloc (.cells #[.int .i64 high, .slice YA yn yc, .int .i64 y0, .int .i64 y1, .int .i64 y2, .slice BA bn bc, .slice PA pn pc, .slice HA hn hc, .slice LA ln lc] 34)) := (Below.refl _ _).alloc (Nat.le_refl _) _
  have hP : Blk (w.alloc (.cells #[.int .i64 high, .slice YA yn yc, .int .i64 y0, .int .i64 y1, .int .i64 y2, .slice BA bn bc, .slice PA pn pc, .slice HA hn hc, .slice LA ln lc] 34)) w.heap.size 34 [.int .i64 high, .slice YA yn yc, .int .i64 y0, .int .i64 y1, .int .i64 y2, .slice BA bn bc, .slice PA pn pc, .slice HA hn hc, .slice LA ln lc] := Blk.new _ _ _
  dsimp only at *
  have hV := fun W (hW : Below w.heap.size w W) => specTermValid high ⟨y0, y1, y2⟩ YA BA PA HA LA yn yc bn bc pn pc hn hc ln lc rows bs plan hs ls W (TT.out.below hW)
  dsimp only at hV
  go_enter Tryz.func15, Tryz.ntmps15
  go_wp2_with fail
  generalize w.alloc (.cells #[.int .i64 high, .slice YA yn yc, .int .i64 y0, .int .i64 y1, .int .i64 y2, .slice BA bn bc, .slice PA pn pc, .slice HA hn hc, .slice LA ln lc] 34) = w1 at *
  refine (hV w1 hal).mono ?_
  rintro e w2 ⟨rfl, b2⟩
  have HB := Lib.hid (below_trans hal b2)
  have P2 := hP.later b2
  clear hal hP b2 hV
  cases ht : termOk high rows ⟨y0, y1, y2⟩ bs plan ⟨hs, ls⟩ with
  | false =>
    have HE : Hid (termWhere high rows ⟨y0, y1, y2⟩ bs plan ⟨hs, ls⟩ id = -1) := Lib.hid (by simp [termWhere, ht])
    clear ht P2
    go_wp2_with fail
    go_ret
    exact ⟨by rw [HE.out]; rfl, HB.out⟩
  | true =>
    have HY := Lib.hid (termOk_parts ht)
    have HW : Hid (termWhere high rows ⟨y0, y1, y2⟩ bs plan ⟨hs, ls⟩ id = if hasF bs id then (if hasI rows.flatten id then 1 else if hasI plan id then 2 else if hasI ls id then 3 else 0) else -1) := Lib.hid (by simp [termWhere, ht])
    clear ht
    have T2 := TT.out.below HB.out
    have HBI := Lib.hid (idx_has bs id)
    have x0 := (P2).cellAt 0 (by simp)
    have x1 := (P2).cellAt 1 (by simp)
    have x2 := (P2).cellAt 2 (by simp)
    have x3 := (P2).cellAt 3 (by simp)
    have x4 := (P2).cellAt 4 (by simp)
    have x5 := (P2).cellAt 5 (by simp)
    have x6 := (P2).cellAt 6 (by simp)
    have x7 := (P2).cellAt 7 (by simp)
    have x8 := (P2).cellAt 8 (by simp)
    simp only [List.getElem_cons_zero, List.getElem_cons_succ] at x0 x1 x2 x3 x4 x5 x6 x7 x8
    have xl := (P2).lt
    go_wp2_with fail
    refine (l2Find_any BA bn bc bs id w2 T2.bl T2.br (by omega)).mono ?_
    rintro e w3 ⟨rfl, rfl⟩
    generalize idxI (findF bs id) = fi at *
    cases hf : hasF bs id with
    | false =>
      have HE : Hid (termWhere high rows ⟨y0, y1, y2⟩ bs plan ⟨hs, ls⟩ id = -1) := Lib.hid (by rw [HW.out, hf]; rfl)
      have hfi := HBI.out
      rw [hf] at hfi
      have hlt0 : decide (fi < 0) = true := hfi
      have hlt1 : fi < 0 := of_decide_eq_true hlt0
      clear hf hfi P2 T2 HW
      go_wp2_with fail
      go_ret
      exact ⟨by rw [HE.out]; rfl, HB.out⟩
    | true =>
      have hfi := HBI.out
      rw [hf] at hfi
      have hlt0 : decide (fi < 0) = false := hfi
      have hlt1 : ¬ fi < 0 := of_decide_eq_false hlt0
      have HW2 : Hid (termWhere high rows ⟨y0, y1, y2⟩ bs plan ⟨hs, ls⟩ id = (if hasI rows.flatten id then 1 else if hasI plan id then 2 else if hasI ls id then 3 else 0)) := Lib.hid (by rw [HW.out, hf]; rfl)
      clear hf hfi HW
      go_wp2_with fail
      refine (specYardFind high YA yn yc rows id w2 HY.out T2.yl T2.yr T2.ym).mono ?_
      rintro e w4 ⟨rfl, b4⟩
      have HB := Lib.hid (below_trans HB.out b4)
      have P4 := P2.later b4
      have T4 := T2.below b4
      have HFA : Hid (decide (0 ≤ findAux rows 0 id) = hasI rows.flatten id) := Lib.hid (findAux_any rows 0 id)
      clear b4 P2 T2 x0 x1 x2 x3 x4 x5 x6 x7 x8 xl
      generalize findAux rows 0 id = fa at *
      cases h1 : hasI rows.flatten id with
      | true =>
        have HE : Hid (termWhere high rows ⟨y0, y1, y2⟩ bs plan ⟨hs, ls⟩ id = 1) := Lib.hid (by rw [HW2.out, if_pos h1])
        have hg0 : decide (0 ≤ fa) = true := by rw [HFA.out, h1]
        have hg1 : 0 ≤ fa := of_decide_eq_true hg0
        clear h1 P4 T4 HW2
        go_wp2_with fail
        go_ret
        exact ⟨by rw [HE.out]; rfl, HB.out⟩
      | false =>
        have hg0 : decide (0 ≤ fa) = false := by rw [HFA.out, h1]
        have hg1 : ¬ 0 ≤ fa := of_decide_eq_false hg0
        have HW3 : Hid (termWhere high rows ⟨y0, y1, y2⟩ bs plan ⟨hs, ls⟩ id = (if hasI plan id then 2 else if hasI ls id then 3 else 0)) := Lib.hid (by rw [HW2.out, if_neg (by simp [h1])])
        clear h1 HW2
        have x0 := (P4).cellAt 0 (by simp)
        have x1 := (P4).cellAt 1 (by simp)
        have x2 := (P4).cellAt 2 (by simp)
        have x3 := (P4).cellAt 3 (by simp)
        have x4 := (P4).cellAt 4 (by simp)
        have x5 := (P4).cellAt 5 (by simp)
        have x6 := (P4).cellAt 6 (by simp)
        have x7 := (P4).cellAt 7 (by simp)
        have x8 := (P4).cellAt 8 (by simp)
        simp only [List.getElem_cons_zero, List.getElem_cons_succ] at x0 x1 x2 x3 x4 x5 x6 x7 x8
        have xl := (P4).lt
        go_wp2_with fail
        refine (l1Has_any PA pn pc plan id _ T4.pl T4.pr (by omega)).mono ?_
        rintro e w5 ⟨rfl, rfl⟩
        cases h2 : hasI plan id with
        | true =>
          have HE : Hid (termWhere high rows ⟨y0, y1, y2⟩ bs plan ⟨hs, ls⟩ id = 2) := Lib.hid (by rw [HW3.out, if_pos h2])
          clear h2 HW3
          go_wp2_with fail
          go_ret
          exact ⟨by rw [HE.out]; rfl, HB.out⟩
        | false =>
          have HW4 : Hid (termWhere high rows ⟨y0, y1, y2⟩ bs plan ⟨hs, ls⟩ id = (if hasI ls id then 3 else 0)) := Lib.hid (by rw [HW3.out, if_neg (by simp [h2])])
          clear h2 HW3
          go_wp2_with fail
          refine (l1Has_any LA ln lc ls id _ T4.ll T4.lr (by omega)).mono ?_
          rintro e w5 ⟨rfl, rfl⟩
          cases h3 : hasI ls id with
          | true =>
            have HE : Hid (termWhere high rows ⟨y0, y1, y2⟩ bs plan ⟨hs, ls⟩ id = 3) := Lib.hid (by rw [HW4.out, if_pos h3])
            clear h3 HW4
            go_wp2_with fail
            go_ret
            exact ⟨by rw [HE.out]; rfl, HB.out⟩
          | false =>
            have HE : Hid (termWhere high rows ⟨y0, y1, y2⟩ bs plan ⟨hs, ls⟩ id = 0) := Lib.hid (by rw [HW4.out, if_neg (by simp [h3])])
            clear h3 HW4
            go_wp2_with fail
            go_ret
            exact ⟨by rw [HE.out]; rfl, HB.out⟩
end Go.Proofs.YtbkfhcbecejomaaGreat
