/- The yards that are drawn. -/
import Derived.Test.YtcdjgbechigepaaDoorYdC
import Derived.Test.YtcdjgbechigepaaDoorRdr
import Derived.Test.YtcdjgbechigepaaDoorRRA
namespace Go.Proofs.YtcdjgbechigepaaDoor
open Go Go.ChangeShapes Go.WideShapes Go.ChangeAt Go.RowKit
set_option linter.unusedVariables false
set_option linter.unusedSimpArgs false
/-- a row of rows that is read, behind stores into a block of its own far from it -/
theorem far2_below {w : World} {lo hi n c : Nat} {te ti : TypeId} {A : Option Addr} {xss : List (List Value)} (h : OwnRR w lo hi te ti (.slice A n c) xss) {b : Nat} (hb : b < lo) (u1 u2 : Value) : RdRR ((w.setCell ⟨b, 0, none⟩ u1).setCell ⟨b, 1, none⟩ u2) A xss := by
  have htop : hi ≤ w.heap.size := by obtain ⟨hs, h1, _⟩ := h; exact h1.top
  exact ((h.set_far b 0 u1 hb htop).set_far b 1 u2 hb (Nat.le_refl _)).rd
/-- rows that lie somewhere behind lo; they may be read -/
def RowsAt (w : World) (lo : Nat) (te ti : TypeId) (v : Value) (xss : List (List Value)) : Prop :=
  ∃ hs : List Value, w.ownsRow lo te 1 v xss.length hs ∧ ∀ i (h : i < xss.length), ∃ u, hs[i]? = some u ∧ w.ownsRow lo ti 1 u (xss[i]).length xss[i]
theorem RowsAt.set {w : World} {lo : Nat} {te ti : TypeId} {v : Value} {xss : List (List Value)} (h : RowsAt w lo te ti v xss) {b i : Nat} (hb : b < lo) (u : Value) : RowsAt (w.setCell ⟨b, i, none⟩ u) lo te ti v xss := by
  obtain ⟨hs, h1, h2⟩ := h
  have hg : w.grownBy (w.setCell ⟨b, i, none⟩ u) (some b) := ⟨rfl, rfl, rfl, by simp [World.setCell], fun k _ hk => Below.heap_setCell w ⟨b, i, none⟩ u k (by intro e; exact hk (by rw [e]))⟩
  refine ⟨hs, own_only h1 hg (own_ne h1 hb), fun j hj => ?_⟩
  obtain ⟨a, ea, ha⟩ := h2 j hj
  exact ⟨a, ea, own_only ha hg (own_ne ha hb)⟩
theorem RowsAt.rd {w : World} {lo n c : Nat} {te ti : TypeId} {A : Option Addr} {xss : List (List Value)} (h : RowsAt w lo te ti (.slice A n c) xss) : RdRR w A xss := by
  obtain ⟨hs, h1, h2⟩ := h
  obtain ⟨A', c', e, _, _⟩ := own_slice h1
  injection e with e1 e2 e3
  subst e1 e2
  have hl := h1.1
  rw [Nat.mul_one] at hl
  refine ⟨hs, hl, own_rd h1, fun i hi => ?_⟩
  obtain ⟨u, e, hu⟩ := h2 i hi
  obtain ⟨B, c2, rfl, hc1, hc2⟩ := own_slice hu
  exact ⟨B, c2, e, hc1, hc2, own_rd hu⟩
theorem OwnRR.rowsAt {w : World} {lo hi : Nat} {te ti : TypeId} {v : Value} {xss : List (List Value)} (h : OwnRR w lo hi te ti v xss) : RowsAt w lo te ti v xss := by
  obtain ⟨hs, h1, h2, _⟩ := h
  exact ⟨hs, h1.row, fun i hi => by obtain ⟨u, e, hu, _⟩ := h2 i hi; exact ⟨u, e, hu.row⟩⟩
/-- two rows more -/
theorem rows_two {W w7 : World} {lo hi : Nat} {te ti : TypeId} {v v7 u1 u2 : Value} {hs y1 y2 : List Value} {xss : List (List Value)} (h1 : OwnI W lo hi te 1 v xss.length hs)
    (h2 : ∀ i (h : i < xss.length), ∃ u, hs[i]? = some u ∧ OwnI W lo hi ti 1 u (xss[i]).length xss[i] ∧ (∀ g, u.ownBlock = some g → v.ownBlock ≠ some g))
    (k1 : W.ownsRow lo ti 1 u1 y1.length y1) (k2 : W.ownsRow lo ti 1 u2 y2.length y2) (n1 : ∀ g, u1.ownBlock = some g → hi ≤ g) (n2 : ∀ g, u2.ownBlock = some g → hi ≤ g)
    (hown : w7.ownsRow lo te 1 v7 (xss.length + 2) (hs ++ [u1, u2])) (hg : W.grownBy w7 v.ownBlock) : RowsAt w7 lo te ti v7 (xss ++ [y1, y2]) := by
  have hl := h1.row.1
  rw [Nat.mul_one] at hl
  have ne : ∀ u : Value, (∀ g, u.ownBlock = some g → hi ≤ g) → ∀ g, u.ownBlock = some g → v.ownBlock ≠ some g := fun u hu g e e2 => by have := hu g e; have := h1.lt g e2; omega
  refine ⟨hs ++ [u1, u2], by rw [List.length_append]; exact hown, fun i hi' => ?_⟩
  rw [List.length_append] at hi'
  simp at hi'
  by_cases hlt : i < xss.length
  · obtain ⟨a, ea, ha, hne⟩ := h2 i hlt
    rw [List.getElem_append_left hlt]
    exact ⟨a, by rw [List.getElem?_append_left (by omega)]; exact ea, own_kept' ha.row hg hne⟩
  · rcases (show i = xss.length ∨ i = xss.length + 1 by omega) with rfl | rfl
    · have e1 : (xss ++ [y1, y2])[xss.length]'(by simp) = y1 := by simp
      rw [e1]
      exact ⟨u1, by rw [List.getElem?_append_right (by omega), hl, Nat.sub_self]; rfl, own_kept' k1 hg (ne u1 n1)⟩
    · have e1 : (xss ++ [y1, y2])[xss.length + 1]'(by simp) = y2 := by simp
      rw [e1]
      exact ⟨u2, by rw [List.getElem?_append_right (by omega), hl, Nat.add_sub_cancel_left]; rfl, own_kept' k2 hg (ne u2 n2)⟩
/-- three ids 0 -/
def z3Cells : List Value := ints [0, 0, 0]
theorem make_three (w : World) : (Instr.makeSlice 40 (.int .i64 3) (.int .i64 3)).run Tryd.prog w = .ok (.slice (some ⟨w.heap.size, 0, none⟩) 3 3) (w.alloc (.cells z3Cells.toArray 3)) := by
  have hmk := run_make_row' (P := Tryd.prog) 40 3 (.int .i64 0) 8 Tryd.underlying40 int_info rfl .i64 .i64 3 (by omega) (by omega)
  rw [made_one] at hmk
  exact hmk w
/-- the heights that are drawn for a yard that is not valid -/
def hgCells : List Value := [.int .i64 0, .int .i64 6]
theorem hg_get (v : Int) (h0 : 0 ≤ v) (h1 : v < 2) : ∃ t : Int, hgCells[v.toNat]? = some (.int .i64 t) := by
  obtain rfl | rfl : v = 0 ∨ v = 1 := by omega
  all_goals exact ⟨_, rfl⟩
theorem onlyY_set {w w' : World} {g b i : Nat} {v : Value} (h : w.grownBy w' (some g)) (hb : w.heap.size ≤ b) : w.grownBy (w'.setCell ⟨b, i, none⟩ v) (some g) :=
  only_own h (row := some b) ⟨rfl, rfl, rfl, by simp [World.setCell], fun k _ hk => Below.heap_setCell w' ⟨b, i, none⟩ v k (by intro e; exact hk (by rw [e]))⟩ (fun b' e => by injection e with e; omega)
theorem Rdr.setY {w : World} {g q : Nat} (h : Rdr w g q) (b i : Nat) (v : Value) (hb : g < b) : Rdr (w.setCell ⟨b, i, none⟩ v) g q :=
  h.away (row := some b) ⟨rfl, rfl, rfl, by simp [World.setCell], fun k _ hk => Below.heap_setCell w ⟨b, i, none⟩ v k (by intro e; exact hk (by rw [e]))⟩ (fun b' e => by injection e with e; omega)
theorem outY_only {w w' : World} {g : Nat} (h : w.grownBy w' (some g)) : Out g (g + 1) w w' := out_of_grown h (fun _ e => by injection e with e; omega)
/-- a yard that was drawn is small -/
def YardLow (rows : List (List Int)) : Prop := rows.length ≤ 7 ∧ ∀ s ∈ rows, s.length ≤ 6
/-- a yard that was drawn; the reader has gone on -/
def YardDrawn (w : World) (g q : Nat) : Ending → World → Prop :=
  RVal fun u w' => ∃ high A c rows q', u = .agg #[.int .i64 high, .slice A rows.length c] ∧ (∃ lo, w.heap.size < lo ∧ RowsAt w' lo 40 3 (.slice A rows.length c) (intss rows)) ∧ YardLow rows ∧ q' ≤ q + 300 ∧ Rdr w' g q' ∧ w.grownBy w' (some g)
/-- the yard in the making: its struct lies in block sb, its rows behind it -/
def YDraw (w : World) (sb : Nat) (high : Int) (g q' : Nat) (rows : List (List Int)) (wr : World) : Prop :=
  ∃ A c, Blk wr w.heap.size 24 [.int .i64 0, .slice none 0 0] ∧ Blk wr sb 24 [.int .i64 high, .slice A rows.length c] ∧ OwnRR wr (sb + 1) wr.heap.size 40 3 (.slice A rows.length c) (intss rows) ∧ Rdr wr g q' ∧ sb < wr.heap.size ∧ w.grownBy wr (some g)
theorem YDraw.only {w : World} {sb : Nat} {high : Int} {g q' q2 : Nat} {rows : List (List Int)} {wr w2 : World} (h : YDraw w sb high g q' rows wr) (hg : wr.grownBy w2 (some g)) (hr : Rdr w2 g q2) (h1 : g < w.heap.size) (h2 : w.heap.size < sb) : YDraw w sb high g q2 rows w2 := by
  obtain ⟨A, c, a1, a2, a3, a4, a5, a6⟩ := h
  exact ⟨A, c, a1.only hg (by omega), a2.only hg (by omega), (a3.out (outY_only hg) (.inr (by omega))).hi hg.size (Nat.le_refl _), hr, Nat.lt_of_lt_of_le a5 hg.size, only_trans a6 hg⟩
theorem YDraw.later {w : World} {sb : Nat} {high : Int} {g q' : Nat} {rows : List (List Int)} {wr w2 : World} (h : YDraw w sb high g q' rows wr) (hb : Below wr.heap.size wr w2) : YDraw w sb high g q' rows w2 := by
  obtain ⟨A, c, a1, a2, a3, a4, a5, a6⟩ := h
  exact ⟨A, c, a1.later hb, a2.later hb, (a3.later hb).hi hb.size (Nat.le_refl _), a4.kept hb, Nat.lt_of_lt_of_le a5 hb.size, only_trans a6 (only_below hb g)⟩
set_option maxHeartbeats 4000000 in
theorem l20Yard_any (g q : Nat) (m : Int) (w : World) (hr : Rdr w g q) (hq : q ≤ 10000000) (hm : m ≤ 1000000000) :
    Calls Tryd.prog 27 #[.pointer (some ⟨g, 0, none⟩), .int .i64 m] w (YardDrawn w g q) := by
  have hlt := hr.lt
  have hal1 : Below w.heap.size w (w.alloc (.cells #[.int .i64 0, .slice none 0 0] 24)) := (Below.refl _ _).alloc (Nat.le_refl _) _
  have hr1 := hr.kept hal1
  have hR1 : Blk (w.alloc (.cells #[.int .i64 0, .slice none 0 0] 24)) w.heap.size 24 [.int .i64 0, .slice none 0 0] := Blk.new _ _ _
  have HG1 := Lib.hid (only_below hal1 g)
  have hs1 : w.heap.size + 1 ≤ (w.alloc (.cells #[.int .i64 0, .slice none 0 0] 24)).heap.size := by simp
  clear hal1 hr
  go_enter Tryd.func27, Tryd.ntmps27
  go_wp2_with fail
  generalize w.alloc (.cells #[.int .i64 0, .slice none 0 0] 24) = w1 at *
  refine (pick_any g q 4 _ hr1 (by omega) (by omega)).mono ?_
  rintro e w2 ⟨v, rfl, ⟨hv0, hv1, _⟩, hr2, hg2⟩
  have hv4 := hv1 (by omega)
  have hR2 := hR1.only hg2 (by omega)
  have HG2 := Lib.hid (only_trans HG1.out hg2)
  have hs2 : w.heap.size + 1 ≤ w2.heap.size := Nat.le_trans hs1 hg2.size
  have hb1 : IntKind.i64.wrap (1 + v) = 1 + v := IntWalk.i64_in _ (by omega)
  clear hg2 hv1 hR1 hr1
  have hal3 : Below w2.heap.size w2 (w2.alloc (.cells #[.int .i64 (1 + v), .slice none 0 0] 24)) := (Below.refl _ _).alloc (Nat.le_refl _) _
  have hr3 := hr2.kept hal3
  have hD : YDraw w w2.heap.size (1 + v) g (q + 1) [] (w2.alloc (.cells #[.int .i64 (1 + v), .slice none 0 0] 24)) :=
    ⟨none, 0, hR2.later hal3, Blk.new _ _ _, ownRR_none _ _ _ _, hr3, by simp, only_trans HG2.out (only_below hal3 g)⟩
  have hsb : w.heap.size < w2.heap.size := hs2
  clear hal3 hR2 hr2 HG2 hs2
  go_wp2_with fail
  generalize w2.alloc (.cells #[.int .i64 (1 + v), .slice none 0 0] 24) = w3 at *
  generalize w2.heap.size = sb at *
  obtain ⟨high, hhigh⟩ : ∃ h, h = 1 + v := ⟨_, rfl⟩
  rw [← hhigh] at hD ⊢
  have hh1 : 1 ≤ high := by omega
  have hh2 : high ≤ 4 := by omega
  clear hb1 hhigh hv0 hv4
  refine (pick_any g (q + 1) 5 _ hr3 (by omega) (by omega)).mono ?_
  rintro e w4 ⟨i0, rfl, ⟨hi0, hi1, _⟩, hr4, hg4⟩
  have hi5 := hi1 (by omega)
  have D4 := Lib.hid (hD.only hg4 hr4 hlt hsb)
  clear hD hg4 hr3 hi1
  go_wp2_with fail
  refine (pick_any g (q + 1 + 1) 5 _ hr4 (by omega) (by omega)).mono ?_
  rintro e w5 ⟨k0, rfl, ⟨hk0, hk1, _⟩, hr5, hg5⟩
  have hk5 := hk1 (by omega)
  have D5 := Lib.hid (D4.out.only hg5 hr5 hlt hsb)
  clear D4 hg5 hr4 hk1 hr5
  go_wp2_with fail
  go_loopw [6, 7, 8, 9] (fun id k _ _ wr => ∃ (kk : Nat) (idn : Int) (rows : List (List Int)) (q' : Nat), id = .int .i64 idn ∧ 0 ≤ idn ∧ idn + 60 * kk ≤ 400 ∧ k = .int .i64 kk ∧ kk ≤ 5 ∧ rows.length + kk ≤ 5 ∧ 1 ≤ rows.length + kk ∧ Hid (∀ s ∈ rows, s.length ≤ 6) ∧ q' + 20 * kk ≤ q + 200 ∧ YDraw w sb high g q' rows wr) (fun _ k _ _ _ => (intOf k).toNat)
  case atStart =>
    obtain ⟨k, rfl⟩ := Int.eq_ofNat_of_zero_le hk0
    exact ⟨k + 1, 1 + i0, [], q + 1 + 1 + 1, by go_num, by omega, by omega, by go_num, by omega, by simp; omega, by simp, Lib.hid (by simp), by omega, D5.out⟩
  case round =>
    clear D5 hi0 hi5 hk0 hk5
    obtain ⟨kk, idn, rows, q', rfl, hid0, hid1, rfl, hkk, hrk, hrk1, HS, hq', hD⟩ := hrel
    have HD := Lib.hid hD
    obtain ⟨A, c, P0, P1, hO, hrd, hsw, hgr⟩ := hD
    have c0 := P1.cellAt 0 (by simp)
    have c1 := P1.cellAt 1 (by simp)
    simp only [List.getElem_cons_zero, List.getElem_cons_succ] at c0 c1
    by_cases hlt0 : 0 < kk
    · have hal : Below wr.heap.size wr (wr.alloc (.cells #[] 3)) := (Below.refl _ _).alloc (Nat.le_refl _) _
      have P1' := P1.later hal
      have d0 := P1'.cellAt 0 (by simp)
      simp only [List.getElem_cons_zero] at d0
      have hU := own_of_blk (base := wr.heap.size) (size := 1) (n := 0) (cs := []) (Blk.new wr 3 []) (Nat.le_refl _) rfl (by decide)
      have hb1 : IntKind.i64.wrap (high + 1) = high + 1 := IntWalk.i64_in _ (by omega)
      have hrk' := hrd.kept hal
      have hglt := hrd.lt
      have HAL := Lib.hid (only_below hal g)
      clear hal P1' hgr P0 P1 hO
      go_wp2_with fail
      obtain ⟨wo, rfl⟩ : ∃ wo : World, wo = wr := ⟨_, rfl⟩
      refine (pick_any g q' (high + 1) _ hrk' (by omega) (by omega)).mono ?_
      rintro e w6 ⟨j0, rfl, ⟨hj0, hj1, _⟩, hr6, hg6⟩
      have hj5 := hj1 (by omega)
      have hU6 := own_only hU hg6 (by simp [Value.ownBlock]; omega)
      have hG6 := only_trans HAL.out hg6
      clear hg6 hj1 hU hrk' d0 c0 c1 hb1
      go_wp2_with fail
      go_loopw [6, 8, 9] (fun id u j wi => ∃ (jn : Nat) (id2 : Int) (zs : List Int) (q2 : Nat), id = .int .i64 id2 ∧ 0 ≤ id2 ∧ id2 + 8 * jn ≤ idn + 40 ∧ j = .int .i64 jn ∧ jn ≤ 5 ∧ zs.length + jn ≤ 5 ∧ q2 + 2 * jn ≤ q' + 16 ∧ wi.ownsRow wo.heap.size 3 1 u zs.length (ints zs) ∧ Rdr wi g q2 ∧ wo.grownBy wi (some g)) (fun _ _ j _ => (intOf j).toNat)
      case atStart =>
        obtain ⟨jn, rfl⟩ := Int.eq_ofNat_of_zero_le hj0
        exact ⟨jn, idn, [], q' + 1, rfl, hid0, by omega, by go_num, by omega, by simp; omega, by omega, hU6, hr6, hG6⟩
      case round =>
        clear hU6 hr6 hG6 hj0 hj5
        obtain ⟨jn, id2, zs, q2, rfl, hx0, hx1, rfl, hj5, hzj, hq2, hown, hri, hgi⟩ := hrel
        by_cases hj : 0 < jn
        · have hs7 := hgi.size
          have HGI := Lib.hid hgi
          have hb2 : IntKind.i64.wrap (id2 + 1) = id2 + 1 := IntWalk.i64_in _ (by omega)
          clear hgi
          go_wp2_with (at_builtin; refine append_new rfl _ _ 40 rfl 3 _ _ _ Tryd.underlying40 int_infoY _ wr _ _ _ rfl hown [.int .i64 id2] rfl rfl (by simp [Value.oneCell']) (by omega) hs7 ?_; intro v' w8 hown8 hg8 hblk8)
          have hr8 := hri.away hg8 (fun b e => by have := (hown.lt b e).1; omega)
          have HG8 := Lib.hid (only_own HGI.out hg8 (fun b e => (hown.lt b e).1))
          have HO8 := Lib.hid hown8
          clear hg8 hblk8 hown hown8
          go_wp2_with fail
          refine (pick_any g q2 7 _ hr8 (by omega) (by omega)).mono ?_
          rintro e w9 ⟨x7, rfl, ⟨hx70, hx71, _⟩, hr9, hg9⟩
          have hx77 := hx71 (by omega)
          have HO9 := Lib.hid (own_only HO8.out hg9 (own_ne HO8.out hglt))
          have HG9 := Lib.hid (only_trans HG8.out hg9)
          have hb3 : IntKind.i64.wrap (id2 + 1 + x7) = id2 + 1 + x7 := IntWalk.i64_in _ (by omega)
          clear hg9 HO8 HG8 hx71
          go_wp2_with fail
          go_roundw
          case rel => exact ⟨jn - 1, id2 + 1 + x7, zs ++ [id2], q2 + 1, rfl, by omega, by omega, by go_num, by omega, by simp; omega, by omega, by simpa [ints] using HO9.out, hr9, HG9.out⟩
          case measure => simp [intOf]; omega
        · obtain ⟨A5, c5, P0, P1, hO, _, hsw5, hgr5⟩ := HD.out
          have P0' := P0.only hgi (by omega)
          have P1' := P1.only hgi (by omega)
          have hO6 := hO.out (outY_only hgi) (.inr (by omega))
          have HGR := Lib.hid (only_trans hgr5 hgi)
          have hsz6 := hgi.size
          obtain ⟨hs, h1, h2, h3⟩ := hO6
          obtain ⟨UB, uc, rfl, _, _⟩ := own_slice hown
          have H1 := Lib.hid h1
          have H2 := Lib.hid h2
          have H3 := Lib.hid h3
          have HU := Lib.hid hown
          have c1 := P1'.cellAt 1 (by simp)
          simp only [List.getElem_cons_zero, List.getElem_cons_succ] at c1
          have HP0 := Lib.hid P0'
          have HP1 := Lib.hid P1'
          have hxl : (intss rows).length = rows.length := intss_len rows
          rw [hxl] at h1
          have hrow := Lib.hid h1.row
          have hlen : rows.length ≤ 8589934592 := by omega
          have hsz7 : sb + 1 ≤ wr.heap.size := by omega
          have hplt := P1'.lt
          clear P0 P1 P0' P1' hO h1 h2 h3 hgr5 hown hgi HD
          go_wp2_with (at_builtin; refine append_new rfl _ _ 22 rfl 40 _ _ _ Tryd.underlying22 ints_infoD (sb + 1) wr (.slice A5 rows.length c5) rows.length hs rfl hrow.out [.slice UB zs.length uc] (by first | rfl | (simp; with_unfolding_all rfl)) rfl (by simp [Value.oneCell']) hlen hsz7 ?_; intro v7 w7 hown7 hg7 hb7; obtain ⟨A7, c7, rfl, _, _⟩ := own_slice hown7; have hne7 := own_ne hrow.out (Nat.lt_succ_self sb); have P7 := (hg7.block _ hplt (fun e => hne7 e.symm)).trans HP1.out; change Blk _ _ _ _ at P7; have f7 := P7.frozen 1; have d7 := P7.cellAt 1 (by simp); simp only [List.getElem_cons_zero, List.getElem_cons_succ] at d7; have HO7 := Lib.hid (own_snoc (ys := ints zs) H1.out H2.out H3.out (by rw [ints_len]; exact own_base HU.out (by omega)) (fun g e => (HU.out.lt g e).1) (by rw [hxl]; exact hown7) hg7 hb7); have HG7 := Lib.hid hg7; clear hown7 hb7 hg7)
          have hP0 := HP0.out.lt
          have P07 : Blk w7 w.heap.size 24 [.int .i64 0, .slice none 0 0] := (HG7.out.block _ hP0 (fun e => own_ne hrow.out (by omega) e.symm)).trans HP0.out
          have HO8 := Lib.hid (HO7.out.set_far sb 1 (.slice A7 (rows.length + 1) c7) (Nat.lt_succ_self _) (Nat.le_refl _))
          have hr7 := (hri.away HG7.out (fun b e => by have := (hrow.out.lt b e).1; omega)).setY sb 1 (.slice A7 (rows.length + 1) c7) (by omega)
          have HGF := Lib.hid (onlyY_set (b := sb) (i := 1) (v := .slice A7 (rows.length + 1) c7) (only_own HGR.out HG7.out (fun b e => by have := (hrow.out.lt b e).1; omega)) (by omega))
          have HPS := Lib.hid (P7.set_ 1 (.slice A7 (rows.length + 1) c7))
          have HPR : Hid (Blk (w7.setCell ⟨sb, 1, none⟩ (.slice A7 (rows.length + 1) c7)) w.heap.size 24 [.int .i64 0, .slice none 0 0]) := Lib.hid (P07.far (by show w.heap.size ≠ sb; omega) _)
          have hl7 := P7.lt
          have hrl : (rows ++ [zs]).length = rows.length + 1 := by simp
          have hss : intss (rows ++ [zs]) = intss rows ++ [ints zs] := by simp [intss]
          go_wp2_with fail
          go_roundw
          case rel =>
            refine ⟨kk - 1, id2, rows ++ [zs], q2, rfl, hx0, by omega, by go_num, by omega, by omega, by omega, Lib.hid (fun s hs => ?_), by omega, A7, c7, HPR.out, ?_, ?_, hr7, by simp [World.setCell]; exact hl7, HGF.out⟩
            · rcases List.mem_append.1 hs with h | h
              · exact HS.out s h
              · rw [List.mem_singleton.1 h]; omega
            · rw [hrl]; exact HPS.out
            · rw [hrl, hss]; exact HO8.out
          case measure => simp [intOf]; omega
    · obtain rfl : kk = 0 := by omega
      have HL : Hid (YardLow rows) := Lib.hid ⟨by omega, HS.out⟩
      go_wp2_with fail
      refine (odd_any g q' m _ hrd (by omega) hm).mono ?_
      rintro e w5 ⟨bb, rfl, q5, hq50, hq51, hr5, hg5⟩
      have D5 := HD.out.only hg5 hr5 hlt hsb
      clear hg5 hr5 HD hrd hgr hO P0 P1 c0 c1 hsw
      cases bb
      · obtain ⟨A, c, P0, P1, hO, hrd, hsw, hgr⟩ := D5
        have HO := Lib.hid hO
        clear hO
        have HR0 := Lib.hid P0
        have x0 := P1.cellAt 0 (by simp)
        have x1 := P1.cellAt 1 (by simp)
        have y0 := P0.cellAt 0 (by simp)
        have y1 := P0.cellAt 1 (by simp)
        have z0 := P0.frozen 0
        have z1 := P0.frozen 1
        simp only [List.set_cons_zero, List.set_cons_succ, List.getElem_cons_zero, List.getElem_cons_succ] at x0 x1 y0 y1
        have HRD := Lib.hid hrd
        have HGR := Lib.hid hgr
        clear P0 P1 hrd hgr
        go_wp2_with fail
        have hRR := (HR0.out.set_ 0 (.int .i64 (high))).set_ 1 (.slice A (rows).length c)
        have hR1 := HR0.out.set_ 0 (.int .i64 (high))
        have u0 := hR1.cellAt 0 (by simp)
        have u0' := hRR.cellAt 0 (by simp)
        have u1 := hRR.cellAt 1 (by simp)
        simp only [List.set_cons_zero, List.set_cons_succ, List.getElem_cons_zero, List.getElem_cons_succ] at u0 u0' u1
        refine bodyPost_ret (v := .agg #[.int .i64 (high), .slice A (rows).length c]) (by simp [results, Tryd.results27, go_sem, *]) rfl ?_
        refine RVal.mk ⟨high, A, c, rows, q5, rfl, ?_, HL.out, by omega, ?_, onlyY_set (onlyY_set HGR.out (Nat.le_refl _)) (Nat.le_refl _)⟩
        · exact ⟨sb + 1, by omega, ((HO.out.rowsAt.set (by omega) _).set (by omega) _ : RowsAt _ _ _ _ _ _)⟩
        · exact (HRD.out.setY w.heap.size 0 _ (by omega)).setY w.heap.size 1 _ (by omega)
      · have hrd5 := D5
        obtain ⟨_, _, _, _, _, hr5, _, _⟩ := hrd5
        have HD5 := Lib.hid D5
        clear D5
        go_wp2_with fail
        refine (pick_any g q5 4 _ hr5 (by omega) (by omega)).mono ?_
        rintro e w6 ⟨vs, rfl, ⟨hv0', hv1', _⟩, hr6, hg6⟩
        have HD6 := Lib.hid (HD5.out.only hg6 hr6 hlt hsb)
        have hvs4 := hv1' (by omega)
        clear hv1' hg6 hr5 HD5
        obtain rfl | rfl | rfl | rfl : vs = 0 ∨ vs = 1 ∨ vs = 2 ∨ vs = 3 := by omega
        · have hal7 : Below w6.heap.size w6 (w6.alloc (.cells hgCells.toArray 3)) := (Below.refl _ _).alloc (Nat.le_refl _) _
          have hT := Blk.new w6 3 hgCells
          have D7 := Lib.hid (HD6.out.later hal7)
          have hr7 := hr6.kept hal7
          have hglt6 := hr6.lt
          clear hal7
          go_wp2_with fail
          refine (pick_any g _ 2 _ hr7 (by omega) (by omega)).mono ?_
          rintro e w7 ⟨v7, rfl, ⟨hv70, hv71, _⟩, hr8, hg8⟩
          have hv74 := hv71 (by omega)
          obtain ⟨t7, ht7⟩ := hg_get v7 hv70 hv74
          have hx := (hT.only hg8 (by omega)).cell v7.toNat
          rw [ht7] at hx
          obtain ⟨A, c, P0, P1, hO, hrd, hsw, hgr⟩ := D7.out.only hg8 hr8 hlt hsb
          have x0 := P1.cellAt 0 (by simp)
          have f0 := P1.frozen 0
          simp only [List.getElem_cons_zero] at x0
          have Q1 := P1.set_ 0 (.int .i64 t7)
          have Q0 : Blk (w7.setCell ⟨sb, 0, none⟩ (.int .i64 t7)) w.heap.size 24 [.int .i64 0, .slice none 0 0] := P0.far (by show w.heap.size ≠ sb; omega) _
          have HRS := Lib.hid (hrd.setY sb 0 (.int .i64 t7) (by omega))
          have HGS := Lib.hid (onlyY_set (b := sb) (i := 0) (v := .int .i64 t7) hgr (by omega))
          have HOS := Lib.hid (hO.set_far sb 0 (.int .i64 t7) (Nat.lt_succ_self _) (Nat.le_refl _))
          have HQ1 := Lib.hid Q1
          have HQ0 := Lib.hid Q0
          clear hT D7 hr7 hv71 ht7 hg8 hr8 P0 P1 hO hrd hgr Q1 Q0 HD6 hr6
          go_upto_region 22 with fail
          have P0 := HQ0.out
          have P1 := HQ1.out
          have hrd := HRS.out
          have hgr := HGS.out
          have HO := HOS
          clear HQ0 HQ1 HRS HGS HOS x0 f0 hx
          generalize w7.setCell ⟨sb, 0, none⟩ (.int .i64 t7) = w8 at *
          have HR0 := Lib.hid P0
          have x0 := P1.cellAt 0 (by simp)
          have x1 := P1.cellAt 1 (by simp)
          have y0 := P0.cellAt 0 (by simp)
          have y1 := P0.cellAt 1 (by simp)
          have z0 := P0.frozen 0
          have z1 := P0.frozen 1
          simp only [List.set_cons_zero, List.set_cons_succ, List.getElem_cons_zero, List.getElem_cons_succ] at x0 x1 y0 y1
          have HRD := Lib.hid hrd
          have HGR := Lib.hid hgr
          clear P0 P1 hrd hgr
          go_wp2_with fail
          have hRR := (HR0.out.set_ 0 (.int .i64 (t7))).set_ 1 (.slice A (rows).length c)
          have hR1 := HR0.out.set_ 0 (.int .i64 (t7))
          have u0 := hR1.cellAt 0 (by simp)
          have u0' := hRR.cellAt 0 (by simp)
          have u1 := hRR.cellAt 1 (by simp)
          simp only [List.set_cons_zero, List.set_cons_succ, List.getElem_cons_zero, List.getElem_cons_succ] at u0 u0' u1
          refine bodyPost_ret (v := .agg #[.int .i64 (t7), .slice A (rows).length c]) (by simp [results, Tryd.results27, go_sem, *]) rfl ?_
          refine RVal.mk ⟨t7, A, c, rows, q5 + 1 + 1, rfl, ?_, HL.out, by omega, ?_, onlyY_set (onlyY_set HGR.out (Nat.le_refl _)) (Nat.le_refl _)⟩
          · exact ⟨sb + 1, by omega, ((HO.out.rowsAt.set (by omega) _).set (by omega) _ : RowsAt _ _ _ _ _ _)⟩
          · exact (HRD.out.setY w.heap.size 0 _ (by omega)).setY w.heap.size 1 _ (by omega)
        · obtain ⟨A0, c0, P0, P1, hO0, hrd, hsw, hgr⟩ := HD6.out
          have f1 := P1.frozen 1
          have w1' := P1.cellAt 1 (by simp)
          simp only [List.getElem_cons_zero, List.getElem_cons_succ] at w1'
          have Q1 := P1.set_ 1 (.slice (some ⟨w6.heap.size, 0, none⟩) 0 0)
          have Q0 : Blk (w6.setCell ⟨sb, 1, none⟩ (.slice (some ⟨w6.heap.size, 0, none⟩) 0 0)) w.heap.size 24 [.int .i64 0, .slice none 0 0] := P0.far (by show w.heap.size ≠ sb; omega) _
          have hrq := hrd.setY sb 1 (.slice (some ⟨w6.heap.size, 0, none⟩) 0 0) (by omega)
          have hgq := onlyY_set (b := sb) (i := 1) (v := .slice (some ⟨w6.heap.size, 0, none⟩) 0 0) hgr (by omega)
          have hal : Below (w6.setCell ⟨sb, 1, none⟩ (.slice (some ⟨w6.heap.size, 0, none⟩) 0 0)).heap.size (w6.setCell ⟨sb, 1, none⟩ (.slice (some ⟨w6.heap.size, 0, none⟩) 0 0)) ((w6.setCell ⟨sb, 1, none⟩ (.slice (some ⟨w6.heap.size, 0, none⟩) 0 0)).alloc (.cells #[] 40)) := (Below.refl _ _).alloc (Nat.le_refl _) _
          have HP0 := Lib.hid (Q0.later hal)
          have HP1 := Lib.hid (Q1.later hal)
          have HRA := Lib.hid (hrq.kept hal)
          have HGA := Lib.hid (only_trans hgq (only_below hal g))
          have hE := Blk.new (w6.setCell ⟨sb, 1, none⟩ (.slice (some ⟨w6.heap.size, 0, none⟩) 0 0)) 40 []
          rw [show (w6.setCell ⟨sb, 1, none⟩ (.slice (some ⟨w6.heap.size, 0, none⟩) 0 0)).heap.size = w6.heap.size from by simp [World.setCell]] at hE
          have HRW : Hid (RowsAt ((w6.setCell ⟨sb, 1, none⟩ (.slice (some ⟨w6.heap.size, 0, none⟩) 0 0)).alloc (.cells #[] 40)) (sb + 1) 40 3 (.slice (some ⟨w6.heap.size, 0, none⟩) 0 0) []) := Lib.hid ⟨[], own_of_blk hE (by omega) rfl (by decide), fun i h => by simp at h⟩
          clear hal P0 P1 hO0 hrd hgr Q1 Q0 hrq hgq hE
          go_upto_region 22 with fail
          have P0 := HP0.out
          have P1 := HP1.out
          have hrd := HRA.out
          have hgr := HGA.out
          clear HP0 HP1 HRA HGA w1' f1
          generalize (w6.setCell ⟨sb, 1, none⟩ (.slice (some ⟨w6.heap.size, 0, none⟩) 0 0)).alloc (.cells #[] 40) = w7 at *
          have HR0 := Lib.hid P0
          have x0 := P1.cellAt 0 (by simp)
          have x1 := P1.cellAt 1 (by simp)
          have y0 := P0.cellAt 0 (by simp)
          have y1 := P0.cellAt 1 (by simp)
          have z0 := P0.frozen 0
          have z1 := P0.frozen 1
          simp only [List.set_cons_zero, List.set_cons_succ, List.getElem_cons_zero, List.getElem_cons_succ] at x0 x1 y0 y1
          have HRD := Lib.hid hrd
          have HGR := Lib.hid hgr
          clear P0 P1 hrd hgr
          go_wp2_with fail
          have hRR := (HR0.out.set_ 0 (.int .i64 (high))).set_ 1 (.slice (some ⟨w6.heap.size, 0, none⟩) (([] : List (List Int))).length 0)
          have hR1 := HR0.out.set_ 0 (.int .i64 (high))
          have u0 := hR1.cellAt 0 (by simp)
          have u0' := hRR.cellAt 0 (by simp)
          have u1 := hRR.cellAt 1 (by simp)
          simp only [List.set_cons_zero, List.set_cons_succ, List.getElem_cons_zero, List.getElem_cons_succ] at u0 u0' u1
          refine bodyPost_ret (v := .agg #[.int .i64 (high), .slice (some ⟨w6.heap.size, 0, none⟩) (([] : List (List Int))).length 0]) (by simp [results, Tryd.results27, go_sem, *]) rfl ?_
          refine RVal.mk ⟨high, (some ⟨w6.heap.size, 0, none⟩), 0, ([] : List (List Int)), q5 + 1, rfl, ?_, ⟨by simp, by simp⟩, by omega, ?_, onlyY_set (onlyY_set HGR.out (Nat.le_refl _)) (Nat.le_refl _)⟩
          · exact ⟨sb + 1, by omega, ((HRW.out.set (by omega) _).set (by omega) _ : RowsAt _ _ _ _ _ _)⟩
          · exact (HRD.out.setY w.heap.size 0 _ (by omega)).setY w.heap.size 1 _ (by omega)
        · obtain ⟨A, c, P0, P1, hO, hrd, hsw, hgr⟩ := HD6.out
          have hal7 : Below w6.heap.size w6 (((w6.alloc (.cells #[.int .i64 500] 3)).alloc (.cells #[.int .i64 500] 3)).alloc (.cells #[.slice (some ⟨w6.heap.size, 0, none⟩) 1 1, .slice (some ⟨w6.heap.size + 1, 0, none⟩) 1 1] 40)) := (((Below.refl _ _).alloc (Nat.le_refl _) _).alloc (by simp) _).alloc (by simp; omega) _
          have w1' := P1.cellAt 1 (by simp)
          simp only [List.getElem_cons_zero, List.getElem_cons_succ] at w1'
          have b1 := ((Blk.new w6 3 [.int .i64 500]).alloc (.cells #[.int .i64 500] 3)).alloc (.cells #[.slice (some ⟨w6.heap.size, 0, none⟩) 1 1, .slice (some ⟨w6.heap.size + 1, 0, none⟩) 1 1] 40)
          have b2 := (Blk.new (w6.alloc (.cells #[.int .i64 500] 3)) 3 [.int .i64 500]).alloc (.cells #[.slice (some ⟨w6.heap.size, 0, none⟩) 1 1, .slice (some ⟨w6.heap.size + 1, 0, none⟩) 1 1] 40)
          have b3 := Blk.new ((w6.alloc (.cells #[.int .i64 500] 3)).alloc (.cells #[.int .i64 500] 3)) 40 [.slice (some ⟨w6.heap.size, 0, none⟩) 1 1, .slice (some ⟨w6.heap.size + 1, 0, none⟩) 1 1]
          simp only [World.size_alloc] at b2 b3
          have P0a := P0.later hal7
          have P1a := P1.later hal7
          have hOa := hO.later hal7
          have hrda := hrd.kept hal7
          have hgra := only_trans hgr (only_below hal7 g)
          have HB1 := Lib.hid b1
          have HB2 := Lib.hid b2
          have HB3 := Lib.hid b3
          have HP0 := Lib.hid P0a
          have HP1 := Lib.hid P1a
          have HRA := Lib.hid hrda
          have HGA := Lib.hid hgra
          have hs3 := hal7.size
          obtain ⟨hs, h1, h2, h3⟩ := hOa
          have H1 := Lib.hid h1
          have H2 := Lib.hid h2
          rw [intss_len] at h1
          have hrow := Lib.hid h1.row
          have hsz3 : sb + 1 ≤ (((w6.alloc (.cells #[.int .i64 500] 3)).alloc (.cells #[.int .i64 500] 3)).alloc (.cells #[.slice (some ⟨w6.heap.size, 0, none⟩) 1 1, .slice (some ⟨w6.heap.size + 1, 0, none⟩) 1 1] 40)).heap.size := by omega
          have hlen : rows.length + 2 ≤ 8589934593 := by omega
          clear hal7 P0 P1 hO hrd hgr b1 b2 b3 P0a P1a hrda hgra h1 h2 h3
          have hplt := HP1.out.lt
          have hp0lt := HP0.out.lt
          have hne7 := own_ne hrow.out (Nat.lt_succ_self sb)
          have hone : ∀ u ∈ [Value.slice (some ⟨w6.heap.size, 0, none⟩) 1 1, Value.slice (some ⟨w6.heap.size + 1, 0, none⟩) 1 1], u.oneCell' = true := by simp [Value.oneCell']
          go_upto_region 22 with (at_builtin; refine append_src rfl (.tmp 73) (.tmp 76) 22 rfl 40 _ _ _ Tryd.underlying22 ints_infoD (sb + 1) (((w6.alloc (.cells #[.int .i64 500] 3)).alloc (.cells #[.int .i64 500] 3)).alloc (.cells #[.slice (some ⟨w6.heap.size, 0, none⟩) 1 1, .slice (some ⟨w6.heap.size + 1, 0, none⟩) 1 1] 40)) (.slice A rows.length c) rows.length hs rfl hrow.out (some ⟨w6.heap.size + 1 + 1, 0, none⟩) 2 2 [.slice (some ⟨w6.heap.size, 0, none⟩) 1 1, .slice (some ⟨w6.heap.size + 1, 0, none⟩) 1 1] (by first | rfl | (simp; with_unfolding_all rfl)) rfl HB3.out.rd hone hlen hsz3 ?_; intro v7 w7 hown7 hg7 hb7; obtain ⟨A7, c7, rfl, _, _⟩ := own_slice hown7; have P7 := (hg7.block _ hplt (fun e => hne7 e.symm)).trans HP1.out; change Blk _ _ _ _ at P7; have f7 := P7.frozen 1; have d7 := P7.cellAt 1 (by simp); simp only [List.getElem_cons_zero, List.getElem_cons_succ] at d7; have HOWN := Lib.hid hown7; have HG7 := Lib.hid hg7; have HP7 := Lib.hid P7; clear hown7 hb7 hg7 P7)
          have hQ1 := HP7.out.set_ 1 (.slice A7 (rows.length + 2) c7)
          have P07 : Blk w7 w.heap.size 24 [.int .i64 0, .slice none 0 0] := (HG7.out.block _ hp0lt (fun e => own_ne hrow.out (by omega) e.symm)).trans HP0.out
          have hQ0 : Blk (w7.setCell ⟨sb, 1, none⟩ (.slice A7 (rows.length + 2) c7)) w.heap.size 24 [.int .i64 0, .slice none 0 0] := P07.far (by show w.heap.size ≠ sb; omega) _
          have hRA := rows_two (y1 := ints [500]) (y2 := ints [500]) H1.out (fun i hi => H2.out i hi) (own_of_blk HB1.out (show sb + 1 ≤ w6.heap.size by omega) rfl (by decide)) (own_of_blk HB2.out (show sb + 1 ≤ w6.heap.size + 1 by omega) rfl (by decide)) (fun g e => by simp [Value.ownBlock] at e; omega) (fun g e => by simp [Value.ownBlock] at e; omega) (by rw [intss_len]; exact HOWN.out) HG7.out
          have hss : intss (rows ++ [[500], [500]]) = intss rows ++ [ints [500], ints [500]] := by simp [intss]
          rw [← hss] at hRA
          have hl2 : (rows ++ [[500], [500]]).length = rows.length + 2 := by simp
          have HL2 : Hid (YardLow (rows ++ [[500], [500]])) := Lib.hid ⟨by rw [hl2]; omega, fun s hs => by
            rcases List.mem_append.1 hs with h | h
            · exact HS.out s h
            · simp at h; rw [h]; decide⟩
          have hRS := hRA.set (b := sb) (i := 1) (Nat.lt_succ_self _) (.slice A7 (rows.length + 2) c7)
          have hr7 := (HRA.out.away HG7.out (fun b e => by have := (hrow.out.lt b e).1; omega)).setY sb 1 (.slice A7 (rows.length + 2) c7) (by omega)
          have hgf := onlyY_set (b := sb) (i := 1) (v := .slice A7 (rows.length + 2) c7) (only_own HGA.out HG7.out (fun b e => by have := (hrow.out.lt b e).1; omega)) (by omega)
          generalize rows ++ [[500], [500]] = rows2 at *
          generalize w7.setCell ⟨sb, 1, none⟩ (.slice A7 (rows.length + 2) c7) = w8 at *
          rw [← hl2] at hQ1 hRS
          have HQ1 := Lib.hid hQ1
          have HQ0 := Lib.hid hQ0
          have HRS := Lib.hid hRS
          have HR7 := Lib.hid hr7
          have HGF := Lib.hid hgf
          clear hQ1 hQ0 hRS hr7 hgf hRA P07 HP7 HG7 HOWN d7 f7 w1' HB1 HB2 HB3 HP0 HP1 HRA HGA hs3 hsz3 hrow H1 H2
          have P0 := HQ0.out
          have P1 := HQ1.out
          have hrd := HR7.out
          have hgr := HGF.out
          clear HQ0 HQ1 HR7 HGF
          have HR0 := Lib.hid P0
          have x0 := P1.cellAt 0 (by simp)
          have x1 := P1.cellAt 1 (by simp)
          have y0 := P0.cellAt 0 (by simp)
          have y1 := P0.cellAt 1 (by simp)
          have z0 := P0.frozen 0
          have z1 := P0.frozen 1
          simp only [List.set_cons_zero, List.set_cons_succ, List.getElem_cons_zero, List.getElem_cons_succ] at x0 x1 y0 y1
          have HRD := Lib.hid hrd
          have HGR := Lib.hid hgr
          clear P0 P1 hrd hgr
          go_wp2_with fail
          have hRR := (HR0.out.set_ 0 (.int .i64 (high))).set_ 1 (.slice A7 (rows2).length c7)
          have hR1 := HR0.out.set_ 0 (.int .i64 (high))
          have u0 := hR1.cellAt 0 (by simp)
          have u0' := hRR.cellAt 0 (by simp)
          have u1 := hRR.cellAt 1 (by simp)
          simp only [List.set_cons_zero, List.set_cons_succ, List.getElem_cons_zero, List.getElem_cons_succ] at u0 u0' u1
          refine bodyPost_ret (v := .agg #[.int .i64 (high), .slice A7 (rows2).length c7]) (by simp [results, Tryd.results27, go_sem, *]) rfl ?_
          refine RVal.mk ⟨high, A7, c7, rows2, q5 + 1, rfl, ?_, HL2.out, by omega, ?_, onlyY_set (onlyY_set HGR.out (Nat.le_refl _)) (Nat.le_refl _)⟩
          · exact ⟨sb + 1, by omega, ((HRS.out.set (by omega) _).set (by omega) _ : RowsAt _ _ _ _ _ _)⟩
          · exact (HRD.out.setY w.heap.size 0 _ (by omega)).setY w.heap.size 1 _ (by omega)
        · obtain ⟨A, c, P0, P1, hO, hrd, hsw, hgr⟩ := HD6.out
          have hk0 : 0 < rows.length := by omega
          have hkl : 0 < (intss rows).length := by rw [intss_len]; exact hk0
          obtain ⟨g7, cc, B7, c7, hv, t1, t2, t3, t4, t5, t6, hput⟩ := hO.put hkl
          injection hv with e1 e2 e3
          have hal7 : Below w6.heap.size w6 (w6.alloc (.cells z3Cells.toArray 3)) := (Below.refl _ _).alloc (Nat.le_refl _) _
          have hT : (w6.alloc (.cells z3Cells.toArray 3)).ownsRow (sb + 1) 3 1 (.slice (some ⟨w6.heap.size, 0, none⟩) 3 3) (ints [0, 0, 0]).length (ints [0, 0, 0]) := own_of_blk (cs := z3Cells) (Blk.new w6 3 z3Cells) (by omega) rfl (by decide)
          obtain ⟨o1, o2⟩ := hput (w6.alloc (.cells z3Cells.toArray 3)) (.slice (some ⟨w6.heap.size, 0, none⟩) 3 3) (ints [0, 0, 0]) (World.grownBy_alloc w6 _ _) hT (.inr ⟨w6.heap.size, rfl, Nat.le_refl _⟩)
          have hcomm := World.setCell_alloc_past (w := w6) (.cells z3Cells.toArray 3) g7 0 (.slice (some ⟨w6.heap.size, 0, none⟩) 3 3) t2
          have es : (intss rows).set 0 (ints [0, 0, 0]) = intss (rows.set 0 [0, 0, 0]) := by simp [intss, List.map_set]
          rw [es] at o1
          have hmk := make_three
          subst e1
          have w1' := P1.cellAt 1 (by simp)
          have w1a := (P1.alloc (.cells z3Cells.toArray 3)).cellAt 1 (by simp)
          simp only [List.getElem_cons_zero, List.getElem_cons_succ] at w1' w1a
          have hki : (0 : Int) < (rows.length : Int) := by omega
          have t3' : (w6.alloc (.cells z3Cells.toArray 3)).cell? ⟨g7, 0, none⟩ = some (.slice B7 ((intss rows)[0]).length c7) := (hal7.cell (p := ⟨g7, 0, none⟩) t2).trans t3
          rw [hcomm] at o1 o2
          have hd : Below ((w6.setCell ⟨g7, 0, none⟩ (.slice (some ⟨w6.heap.size, 0, none⟩) 3 3)).alloc (.cells z3Cells.toArray 3)).heap.size ((w6.setCell ⟨g7, 0, none⟩ (.slice (some ⟨w6.heap.size, 0, none⟩) 3 3)).alloc (.cells z3Cells.toArray 3)) ((w6.setCell ⟨g7, 0, none⟩ (.slice (some ⟨w6.heap.size, 0, none⟩) 3 3)).alloc (.cells z3Cells.toArray 3)).drew := Below.drew (Below.refl _ _)
          have hda : Below (w6.setCell ⟨g7, 0, none⟩ (.slice (some ⟨w6.heap.size, 0, none⟩) 3 3)).heap.size (w6.setCell ⟨g7, 0, none⟩ (.slice (some ⟨w6.heap.size, 0, none⟩) 3 3)) ((w6.setCell ⟨g7, 0, none⟩ (.slice (some ⟨w6.heap.size, 0, none⟩) 3 3)).alloc (.cells z3Cells.toArray 3)).drew := Below.drew ((Below.refl _ _).alloc (Nat.le_refl _) _)
          have o2' := o2.trans (Below.out hd _ _)
          have hl2 : (rows.set 0 [0, 0, 0]).length = rows.length := List.length_set
          have HL2 : Hid (YardLow (rows.set 0 [0, 0, 0])) := Lib.hid ⟨by rw [hl2]; omega, fun s hs => by
            rcases List.mem_or_eq_of_mem_set hs with h | rfl
            · exact HS.out s h
            · decide⟩
          have P0X : Blk _ _ _ _ := (o2'.block _ P0.lt (.inl (by omega))).trans P0
          have P1X : Blk _ _ _ _ := (o2'.block _ P1.lt (.inl (by omega))).trans P1
          have HOX := Lib.hid (o1.later hd)
          have HRX := Lib.hid ((hrd.setY g7 0 (.slice (some ⟨w6.heap.size, 0, none⟩) 3 3) (by omega)).kept hda)
          have HGX := Lib.hid (only_trans (onlyY_set (b := g7) (i := 0) (v := .slice (some ⟨w6.heap.size, 0, none⟩) 3 3) hgr (by omega)) (only_below hda g))
          generalize rows.set 0 [0, 0, 0] = rows2 at *
          rw [← hl2] at P1X HOX
          have HP0X := Lib.hid P0X
          have HP1X := Lib.hid P1X
          clear hd hda o1 o2 o2' P0X P1X hput hT es hcomm hal7 P0 P1 hO hrd hgr
          go_wp2_with fail
          go_region_law (fail)
          all_goals
            have P0 := HP0X.out
            have P1 := HP1X.out
            have hrd := HRX.out
            have hgr := HGX.out
            have HO := HOX
            clear HP0X HP1X HRX HGX HOX w1' w1a t3 t3' t4 hmk
            generalize ((w6.setCell ⟨g7, 0, none⟩ (.slice (some ⟨w6.heap.size, 0, none⟩) 3 3)).alloc (.cells z3Cells.toArray 3)).drew = w8 at *
            have HR0 := Lib.hid P0
            have x0 := P1.cellAt 0 (by simp)
            have x1 := P1.cellAt 1 (by simp)
            have y0 := P0.cellAt 0 (by simp)
            have y1 := P0.cellAt 1 (by simp)
            have z0 := P0.frozen 0
            have z1 := P0.frozen 1
            simp only [List.set_cons_zero, List.set_cons_succ, List.getElem_cons_zero, List.getElem_cons_succ] at x0 x1 y0 y1
            have HRD := Lib.hid hrd
            have HGR := Lib.hid hgr
            clear P0 P1 hrd hgr
            go_wp2_with fail
            have hRR := (HR0.out.set_ 0 (.int .i64 (high))).set_ 1 (.slice (some ⟨g7, 0, none⟩) (rows2).length c)
            have hR1 := HR0.out.set_ 0 (.int .i64 (high))
            have u0 := hR1.cellAt 0 (by simp)
            have u0' := hRR.cellAt 0 (by simp)
            have u1 := hRR.cellAt 1 (by simp)
            simp only [List.set_cons_zero, List.set_cons_succ, List.getElem_cons_zero, List.getElem_cons_succ] at u0 u0' u1
            refine bodyPost_ret (v := .agg #[.int .i64 (high), .slice (some ⟨g7, 0, none⟩) (rows2).length c]) (by simp [results, Tryd.results27, go_sem, *]) rfl ?_
            refine RVal.mk ⟨high, (some ⟨g7, 0, none⟩), c, rows2, q5 + 1, rfl, ?_, HL2.out, by omega, ?_, onlyY_set (onlyY_set HGR.out (Nat.le_refl _)) (Nat.le_refl _)⟩
            · exact ⟨sb + 1, by omega, ((HO.out.rowsAt.set (by omega) _).set (by omega) _ : RowsAt _ _ _ _ _ _)⟩
            · exact (HRD.out.setY w.heap.size 0 _ (by omega)).setY w.heap.size 1 _ (by omega)
end Go.Proofs.YtcdjgbechigepaaDoor
