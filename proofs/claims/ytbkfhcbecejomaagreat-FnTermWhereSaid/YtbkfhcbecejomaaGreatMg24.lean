/- A terminal that is drawn: it may be read. Printed by gen_drawterm.py. -/
import Derived.Test.YtbkfhcbecejomaaGreatMg20
import Derived.Test.YtbkfhcbecejomaaGreatMg21
import Derived.Test.YtbkfhcbecejomaaGreatMg23
import Derived.Deep.RegionLaw
import Derived.Deep.CutRange
namespace Go.Proofs.YtbkfhcbecejomaaGreat
open Go Go.ChangeShapes Go.WideShapes Go.ChangeAt Go.RowKit
set_option linter.unusedVariables false
set_option linter.unusedSimpArgs false
attribute [local go_sem ↓] Go.wp_at_zero Go.wp_at_succ
/-- the yard in the making: its rows lie behind the struct -/
def TmY (w : World) (g tb q : Nat) (high y0 y1 y2 : Int) (BB : Option Addr) (bn bd : Nat) (bs : List BoxV) (rows : List (List Int)) (W : World) : Prop :=
  ∃ YB yd, Blk W w.heap.size 34 [.int .i64 0, .slice none 0 0, .int .i64 0, .int .i64 0, .int .i64 0, .slice none 0 0, .slice none 0 0, .slice none 0 0, .slice none 0 0] ∧ Blk W tb 34 [.int .i64 high, .slice YB rows.length yd, .int .i64 y0, .int .i64 y1, .int .i64 y2, .slice BB bn bd, .slice none 0 0, .slice none 0 0, .slice none 0 0] ∧ OwnRR W (tb + 1) W.heap.size 29 3 (.slice YB rows.length yd) (intss rows) ∧ W.ownsRow 0 79 5 (.slice BB bn bd) bn (boxs bs) ∧ Rdr W g q ∧ w.grownBy W (some g)
def TJa (w : World) (g tb q2 : Nat) (high y0 y1 y2 : Int) (YB : Option Addr) (yn yd : Nat) (bb oo : Nat) (bn bd : Nat) (PB : Option Addr) (pn pd : Nat) (HB : Option Addr) (hn hd : Nat) (LB : Option Addr) (ln ld : Nat) (rows : List (List Int)) (bs : List BoxV) (plan : List Int) (hs : List HoldV) (ls : List Int) (k : Nat) (a0 : Act) (D : Nat → Bool) (a : Act) (W : World) : Prop :=
  ∃ v49 v50 v51 v52 v53 v54 v55 v56 v57 v58 v59 v60 v61 v62 v63 v48 v64 v65 v8 v9 : Value, ∃ (u : Value) (b : Bool), a = puts a0 [(49, v49), (50, v50), (51, v51), (52, v52), (53, v53), (54, v54), (55, v55), (56, v56), (57, v57), (58, v58), (59, v59), (60, v60), (61, v61), (62, v62), (63, v63), (48, v48), (64, v64), (65, v65), (8, v8), (9, v9)] ∧
    (∃ q', q' ≤ q2 + (D 12).toNat ∧ TmA w g tb q' high y0 y1 y2 YB yn yd (some ⟨bb, oo, none⟩) bn bd PB pn pd HB hn hd LB ln ld rows bs plan hs ls W) ∧
    (D 0 = true → v49 = .agg #[.int .i64 high, .slice YB yn yd, .int .i64 y0, .int .i64 y1, .int .i64 y2, .slice (some ⟨bb, oo, none⟩) bn bd, .slice PB pn pd, .slice HB hn hd, .slice LB ln ld]) ∧
    (D 1 = true → v50 = .pointer (some ⟨tb, 5, none⟩)) ∧
    (D 2 = true → v51 = .slice (some ⟨bb, oo, none⟩) bn bd) ∧
    (D 3 = true → v52 = .int .i64 k) ∧
    (D 4 = true → v53 = .pointer (some ⟨bb, oo + k * 5, none⟩)) ∧
    (D 5 = true → v54 = .pointer (some ⟨bb, oo + k * 5, none⟩)) ∧
    (D 6 = true → ∃ z : Int, v55 = .int .i64 z) ∧
    (D 7 = true → v56 = .pointer (some ⟨g, 0, none⟩)) ∧
    (D 8 = true → v57 = .pointer (some ⟨tb, 0, none⟩)) ∧
    (D 9 = true → v58 = .pointer (some ⟨tb, 1, none⟩)) ∧
    (D 10 = true → v59 = .slice YB yn yd) ∧
    (D 11 = true → v60 = .int .i64 yn) ∧
    (D 12 = true → ∃ z : Int, v61 = .int .i64 z) ∧
    (D 13 = true → ∃ z z2 : Int, v62 = .agg #[.int .i64 0, .int .i64 z, .int .i64 0, .int .i64 z2]) ∧
    (D 14 = true → v63 = .tuple #[u, .bool b] ∧ DoR w.heap.size yn bn bs W u b) ∧
    (D 15 = true → D 14 = true ∧ v48 = .tuple #[u, .bool b]) ∧
    (D 16 = true → D 14 = true ∧ v64 = u) ∧
    (D 17 = true → D 14 = true ∧ v65 = .bool b) ∧
    (D 18 = true → ∃ (xb : Nat) (cs : List Value), v8 = .pointer (some ⟨xb, 0, none⟩) ∧ w.heap.size < xb ∧ xb ≠ tb ∧ cs.length = 9 ∧ Blk W xb 34 cs ∧ (D 19 = true → D 14 = true ∧ u = .agg cs.toArray)) ∧
    (D 19 = true → D 18 = true) ∧
    (D 20 = true → D 14 = true ∧ v9 = .bool b)
def TJb (w : World) (g tb q2 : Nat) (high y0 y1 y2 : Int) (YB : Option Addr) (yn yd : Nat) (BB : Option Addr) (bn bd : Nat) (PB : Option Addr) (pn pd : Nat) (HB : Option Addr) (hn hd : Nat) (LB : Option Addr) (ln ld : Nat) (rows : List (List Int)) (bs : List BoxV) (plan : List Int) (hs : List HoldV) (ls : List Int) (a0 : Act) (D : Nat → Bool) (a : Act) (W : World) : Prop :=
  ∃ v80 v81 v82 v83 v84 v79 v85 v86 v11 v12 : Value, ∃ (u : Value) (b : Bool), a = puts a0 [(80, v80), (81, v81), (82, v82), (83, v83), (84, v84), (79, v79), (85, v85), (86, v86), (11, v11), (12, v12)] ∧
    (∃ q', q' ≤ q2 + 20 * (D 3).toNat ∧ TmA w g tb q' high y0 y1 y2 YB yn yd BB bn bd PB pn pd HB hn hd LB ln ld rows bs plan hs ls W) ∧
    (D 0 = true → v80 = .agg #[.int .i64 high, .slice YB yn yd, .int .i64 y0, .int .i64 y1, .int .i64 y2, .slice BB bn bd, .slice PB pn pd, .slice HB hn hd, .slice LB ln ld]) ∧
    (D 1 = true → v81 = .pointer (some ⟨g, 0, none⟩)) ∧
    (D 2 = true → v82 = .agg #[.int .i64 high, .slice YB yn yd, .int .i64 y0, .int .i64 y1, .int .i64 y2, .slice BB bn bd, .slice PB pn pd, .slice HB hn hd, .slice LB ln ld]) ∧
    (D 3 = true → ∃ k i f t : Int, v83 = .agg #[.int .i64 k, .int .i64 i, .int .i64 f, .int .i64 t]) ∧
    (D 4 = true → v84 = .tuple #[u, .bool b] ∧ DoR w.heap.size yn bn bs W u b) ∧
    (D 5 = true → D 4 = true ∧ v79 = .tuple #[u, .bool b]) ∧
    (D 6 = true → D 4 = true ∧ v85 = u) ∧
    (D 7 = true → D 4 = true ∧ v86 = .bool b) ∧
    (D 8 = true → ∃ (xb : Nat) (cs : List Value), v11 = .pointer (some ⟨xb, 0, none⟩) ∧ w.heap.size < xb ∧ xb ≠ tb ∧ cs.length = 9 ∧ Blk W xb 34 cs ∧ (D 9 = true → D 4 = true ∧ u = .agg cs.toArray)) ∧
    (D 9 = true → D 8 = true) ∧
    (D 10 = true → D 4 = true ∧ v12 = .bool b)

set_option maxRecDepth 100000 in
set_option maxHeartbeats 16000000 in
theorem l20Terminal_any (g q : Nat) (n : Int) (w : World) (hr : Rdr w g q) (hq : q ≤ 1000000) (hn0 : 0 ≤ n) (hn1 : n ≤ 1000000000) :
    Calls Tryz.prog 18 #[.pointer (some ⟨g, 0, none⟩), .int .i64 n] w (TrmDrawn w g q 2000) := by
  have hlt := hr.lt
  have hal : Below w.heap.size w (w.alloc (.cells #[.int .i64 0, .slice none 0 0, .int .i64 0, .int .i64 0, .int .i64 0, .slice none 0 0, .slice none 0 0, .slice none 0 0, .slice none 0 0] 34)) := (Below.refl _ _).alloc (Nat.le_refl _) _
  have hR0 : Blk (w.alloc (.cells #[.int .i64 0, .slice none 0 0, .int .i64 0, .int .i64 0, .int .i64 0, .slice none 0 0, .slice none 0 0, .slice none 0 0, .slice none 0 0] 34)) w.heap.size 34 [.int .i64 0, .slice none 0 0, .int .i64 0, .int .i64 0, .int .i64 0, .slice none 0 0, .slice none 0 0, .slice none 0 0, .slice none 0 0] := Blk.new _ _ _
  have hr0 := hr.kept hal
  have hg0 := only_below hal g
  clear hr
  go_enter Tryz.func18, Tryz.ntmps18
  go_wp2_with fail
  generalize w.alloc (.cells #[.int .i64 0, .slice none 0 0, .int .i64 0, .int .i64 0, .int .i64 0, .slice none 0 0, .slice none 0 0, .slice none 0 0, .slice none 0 0] 34) = w0 at *
  refine (pick_any g q 3 _ hr0 (by omega) (by omega)).mono ?_
  rintro e w1 ⟨v1, rfl, ⟨v10, v11, _⟩, hr1, hg1⟩
  have v12 := v11 (by omega)
  have hR1 := hR0.only hg1 (by omega)
  have hG1 := only_trans hg0 hg1
  clear hal hR0 hr0 hg0 hg1 v11
  go_wp2_with fail
  refine (l20Hull_any g (q + 1) w1 hr1 (by omega)).mono ?_
  rintro e w2 ⟨_, rfl, y0, y1, y2, rfl, hr2, hg2⟩
  have hR2 := hR1.only hg2 (by omega)
  have hG2 := only_trans hG1 hg2
  clear hR1 hG1 hg2 hr1
  go_wp2_with fail
  refine (l20Boxes_any g (q + 1 + 3) 8 0 w2 hr2 (by omega) (by omega) (by omega) (by omega)).mono ?_
  rintro e w3 ⟨_, rfl, BB, bn, bd, bs, q3, rfl, hbn, hq30, hq31, hbx⟩
  have hO3 : w3.ownsRow 0 79 5 (.slice BB bn bd) bn (boxs bs) := own_base hbx.own (Nat.zero_le _)
  have hbl := Lib.hid hbx.len
  have hr3 := hbx.rd
  have hR3 := hR2.only hbx.gr (by omega)
  have hG3 := only_trans hG2 hbx.gr
  have hal4 : Below w3.heap.size w3 (w3.alloc (.cells #[.int .i64 (1 + v1), .slice none 0 0, .int .i64 y0, .int .i64 y1, .int .i64 y2, .slice BB bn bd, .slice none 0 0, .slice none 0 0, .slice none 0 0] 34)) := (Below.refl _ _).alloc (Nat.le_refl _) _
  have hT4 : Blk (w3.alloc (.cells #[.int .i64 (1 + v1), .slice none 0 0, .int .i64 y0, .int .i64 y1, .int .i64 y2, .slice BB bn bd, .slice none 0 0, .slice none 0 0, .slice none 0 0] 34)) w3.heap.size 34 [.int .i64 (1 + v1), .slice none 0 0, .int .i64 y0, .int .i64 y1, .int .i64 y2, .slice BB bn bd, .slice none 0 0, .slice none 0 0, .slice none 0 0] := Blk.new _ _ _
  have hR4 := hR3.later hal4
  have hG4 := only_trans hG3 (only_below hal4 g)
  have hr4 := hr3.kept hal4
  have hO4 := own_later hO3 hal4
  have htb : w.heap.size < w3.heap.size := hR3.lt
  clear hR2 hG2 hr2 hbx hO3 hr3 hR3 hG3 hal4
  go_wp2_with fail
  generalize w3.alloc (.cells #[.int .i64 (1 + v1), .slice none 0 0, .int .i64 y0, .int .i64 y1, .int .i64 y2, .slice BB bn bd, .slice none 0 0, .slice none 0 0, .slice none 0 0] 34) = w4 at *
  generalize w3.heap.size = tb at *
  generalize 1 + v1 = high at *
  refine (pick_any g q3 4 _ hr4 (by omega) (by omega)).mono ?_
  rintro e w5 ⟨k0, rfl, ⟨k00, k01, _⟩, hr5, hg5⟩
  have k02 := k01 (by omega)
  obtain ⟨csg, hbg⟩ := hr4.blk
  have HY : Hid (TmY w g tb (q3 + 1) high y0 y1 y2 BB bn bd bs [] w5) := Lib.hid ⟨none, 0, hR4.only hg5 (by omega), hT4.only hg5 (by omega), ownRR_none _ _ _ _, own_farT hO4 hbg (by decide) hg5, hr5, only_trans hG4 hg5⟩
  clear hT4 hR4 hG4 hr4 hO4 hg5 k01 hr5 hbg v10 v12
  go_wp2_with fail
  go_loopw [6] (fun s6 wr => ∃ (kk : Nat) (rows : List (List Int)), s6 = .int .i64 kk ∧ rows.length + kk ≤ 4 ∧ 1 ≤ rows.length + kk ∧ Hid (∀ s ∈ rows, s.length ≤ 6) ∧ TmY w g tb (q3 + 1) high y0 y1 y2 BB bn bd bs rows wr) (fun s6 _ => (intOf s6).toNat)
  case atStart =>
    obtain ⟨k, rfl⟩ := Int.eq_ofNat_of_zero_le k00
    exact ⟨k + 1, [], by go_num, by simp; omega, by simp, Lib.hid (by simp), HY.out⟩
  case round =>
    clear HY k00 k02
    obtain ⟨kk, rows, rfl, hk1, hk2, HS, hY⟩ := hrel
    obtain ⟨YB, yd, P0, P1, hO, hob, hrd, hgr⟩ := hY
    by_cases hlt0 : 0 < kk
    · have hal : Below wr.heap.size wr (wr.alloc (.cells #[] 3)) := (Below.refl _ _).alloc (Nat.le_refl _) _
      have c1 := P1.cellAt 1 (by simp)
      simp only [List.getElem_cons_zero, List.getElem_cons_succ] at c1
      have hplt := P1.lt
      have HP0 := Lib.hid (P0.later hal)
      have HP1 := Lib.hid (P1.later hal)
      have HOB := Lib.hid (own_later hob hal)
      have HRD := Lib.hid (hrd.kept hal)
      have HGR := Lib.hid (only_trans hgr (only_below hal g))
      have hU : (wr.alloc (.cells #[] 3)).ownsRow (tb + 1) 3 1 (.slice (some ⟨wr.heap.size, 0, none⟩) 0 0) 0 [] := own_of_blk (cs := []) (Blk.new wr 3 []) (by omega) rfl (by decide)
      have HU := Lib.hid hU
      have hO' := hO.later hal
      obtain ⟨hs, h1, h2, h3⟩ := hO'
      have H1 := Lib.hid h1
      have H2 := Lib.hid h2
      have H3 := Lib.hid h3
      have hxl : (intss rows).length = rows.length := intss_len rows
      rw [hxl] at h1
      have hrow := Lib.hid h1.row
      have hlen : rows.length ≤ 8589934592 := by omega
      have hsz7 : tb + 1 ≤ (wr.alloc (.cells #[] 3)).heap.size := by simp; omega
      clear P0 P1 hO hob hrd hgr hal hU h1 h2 h3
      go_wp2_with (at_builtin; refine append_new rfl _ _ 23 rfl 29 _ _ _ Tryz.underlying23 ints_infoD (tb + 1) (wr.alloc (.cells #[] 3)) (.slice YB rows.length yd) rows.length hs rfl hrow.out [.slice (some ⟨wr.heap.size, 0, none⟩) 0 0] (by first | rfl | (simp; with_unfolding_all rfl)) rfl (by simp [Value.oneCell']) hlen hsz7 ?_; intro v7 w7 hown7 hg7 hb7; obtain ⟨A7, c7, rfl, _, _⟩ := own_slice hown7; have hne7 := own_ne hrow.out (Nat.lt_succ_self tb); have P7 := (hg7.block _ HP1.out.lt (fun e => hne7 e.symm)).trans HP1.out; change Blk _ _ _ _ at P7; have f7 := P7.frozen 1; have d7 := P7.cellAt 1 (by simp); simp only [List.getElem_cons_zero, List.getElem_cons_succ] at d7; have HO7 := Lib.hid (own_snoc (ys := ints []) H1.out H2.out H3.out HU.out (fun g e => by simp [Value.ownBlock] at e; omega) (by rw [hxl]; exact hown7) hg7 hb7); have HG7 := Lib.hid hg7; clear hown7 hb7 hg7)
      have hP0 := HP0.out.lt
      have P07 : Blk w7 w.heap.size 34 [.int .i64 0, .slice none 0 0, .int .i64 0, .int .i64 0, .int .i64 0, .slice none 0 0, .slice none 0 0, .slice none 0 0, .slice none 0 0] := (HG7.out.block _ hP0 (fun e => own_ne hrow.out (by omega) e.symm)).trans HP0.out
      have HB7 := Lib.hid (own_own_apart hrow.out HG7.out HOB.out (by decide))
      have HO8 := Lib.hid (HO7.out.set_far tb 1 (.slice A7 (rows.length + 1) c7) (Nat.lt_succ_self _) (Nat.le_refl _))
      have hr7 := (HRD.out.away HG7.out (fun b e => by have := (hrow.out.lt b e).1; omega)).setT tb 1 (.slice A7 (rows.length + 1) c7) (by omega)
      have HGF := Lib.hid (onlyT_set (b := tb) (i := 1) (v := .slice A7 (rows.length + 1) c7) (only_own HGR.out HG7.out (fun b e => by have := (hrow.out.lt b e).1; omega)) (by omega))
      have HPS := Lib.hid (P7.set_ 1 (.slice A7 (rows.length + 1) c7))
      have HPR : Hid (Blk (w7.setCell ⟨tb, 1, none⟩ (.slice A7 (rows.length + 1) c7)) w.heap.size 34 [.int .i64 0, .slice none 0 0, .int .i64 0, .int .i64 0, .int .i64 0, .slice none 0 0, .slice none 0 0, .slice none 0 0, .slice none 0 0]) := Lib.hid (P07.far (by show w.heap.size ≠ tb; omega) _)
      have HB8 := Lib.hid (own_setAt (i := 1) (u := .slice A7 (rows.length + 1) c7) HB7.out P7 (by decide))
      have hl7 := P7.lt
      have hrl : (rows ++ [[]]).length = rows.length + 1 := by simp
      have hss : intss (rows ++ [[]]) = intss rows ++ [ints []] := by simp [intss]
      go_wp2_with fail
      go_roundw
      case rel =>
        refine ⟨kk - 1, rows ++ [[]], by go_num, by omega, by omega, Lib.hid (fun s hs => ?_), A7, c7, HPR.out, ?_, ?_, HB8.out, hr7, HGF.out⟩
        · rcases List.mem_append.1 hs with h | h
          · exact HS.out s h
          · rw [List.mem_singleton.1 h]; simp
        · rw [hrl]; exact HPS.out
        · rw [hrl, hss]; exact HO8.out
      case measure => simp [intOf]; omega
    · obtain rfl : kk = 0 := by omega
      have c2 := P1.cellAt 2 (by simp)
      have c3 := P1.cellAt 3 (by simp)
      have c4 := P1.cellAt 4 (by simp)
      simp only [List.getElem_cons_zero, List.getElem_cons_succ] at c2 c3 c4
      have hplt := P1.lt
      go_wp2_with fail
      have hPE := specPlanEmpty ⟨y0, y1, y2⟩ wr
      dsimp only at hPE
      refine hPE.mono ?_
      rintro e w6 ⟨_, rfl, PB, pn, pd, plan, rfl, hpn, hpl, hpo, hb6⟩
      clear hPE c2 c3 c4
      have hs6 := hb6.size
      have Q1 := P1.later hb6
      have d6 := Q1.cellAt 6 (by simp)
      have f6 := Q1.frozen 6
      simp only [List.getElem_cons_zero, List.getElem_cons_succ] at d6
      have HLL : Hid (TLow rows.length bn pn 0 0 rows bs plan [] []) := Lib.hid ⟨rfl, HS.out, by omega, hbl.out, by omega, hpl, by omega, rfl, by omega, rfl, by omega⟩
      have hyn : 0 < rows.length := by omega
      have hyn4 : rows.length ≤ 4 := by omega
      have HAA : Hid (TmA w g tb (q3 + 1) high y0 y1 y2 YB rows.length yd BB bn bd PB pn pd none 0 0 none 0 0 rows bs plan [] [] (w6.setCell ⟨tb, 6, none⟩ (.slice PB pn pd))) := by
        have hout : Out tb (tb + 1) w6 (w6.setCell ⟨tb, 6, none⟩ (.slice PB pn pd)) := out_set (Out.refl tb (tb + 1) w6) tb 6 _ (Nat.le_refl _) (Nat.lt_succ_self _)
        have hsz : (w6.setCell ⟨tb, 6, none⟩ (.slice PB pn pd)).heap.size = w6.heap.size := by simp [World.setCell]
        refine Lib.hid ⟨(P0.later hb6).far (by show w.heap.size ≠ tb; omega) _, Q1.set_ 6 _, ⟨tb + 1, wr.heap.size, wr.heap.size, (w6.setCell ⟨tb, 6, none⟩ (.slice PB pn pd)).heap.size, w.heap.size, w.heap.size, ⟨by omega, by omega, Nat.le_refl _⟩, ⟨.inl (Nat.le_refl _), .inr (by omega), .inr (by omega)⟩, (hO.later hb6).out hout (.inr (by omega)), .inr (own_setAt (own_later hob hb6) Q1 (by decide)), OwnI.of (own_setAt hpo Q1 (by decide)), World.ownsRow_nil _ _ _ _, ⟨World.ownsRow_nil _ _ _ _, fun g e => by simp [Value.ownBlock] at e, by rw [hsz]; omega⟩⟩, (hrd.kept hb6).setT tb 6 _ (by omega), onlyT_set (only_trans hgr (only_below hb6 g)) (by omega)⟩
      clear P0 P1 hO hob hrd hgr hb6 Q1 hpo hpl HS hbl
      go_wp2_with fail
      generalize w6.setCell ⟨tb, 6, none⟩ (.slice PB pn pd) = w7 at *
      generalize rows.length = yn at *
      go_loopw [7, 8, 9] (fun s7 _ _ wi => ∃ (k q2 : Nat) (high y0 y1 y2 : Int) (YB : Option Addr) (yd : Nat) (BB : Option Addr) (bd : Nat) (PB : Option Addr) (pn pd : Nat) (HB : Option Addr) (hn hd : Nat) (LB : Option Addr) (ln ld : Nat) (rows : List (List Int)) (plan : List Int) (hs : List HoldV) (ls : List Int), s7 = .int .i64 k ∧ (k ≤ bn ∧ q2 + 2 * (bn - k) ≤ q3 + 1 + 2 * bn) ∧ Hid (TLow yn bn pn hn ln rows bs plan hs ls) ∧ TmA w g tb q2 high y0 y1 y2 YB yn yd BB bn bd PB pn pd HB hn hd LB ln ld rows bs plan hs ls wi) (fun s7 _ _ _ => bn - (intOf s7).toNat)
      case atStart => exact ⟨0, q3 + 1, high, y0, y1, y2, YB, yd, BB, bd, PB, pn, pd, none, 0, 0, none, 0, 0, rows, plan, [], [], rfl, ⟨Nat.zero_le _, by omega⟩, HLL, HAA.out⟩
      case round =>
        clear HLL HAA d6 f6 hs6 hpn hk1 hk2 hlt0 hplt
        obtain ⟨k, q2, high, y0, y1, y2, YB, yd, BB, bd, PB, pn, pd, HB, hn, hd, LB, ln, ld, rows, plan, hs, ls, rfl, ⟨hkb, hq2⟩, HL, HA⟩ := hrel
        have HAh := Lib.hid HA
        have c5 := HA.tbk.cellAt 5 (by simp)
        simp only [List.getElem_cons_zero, List.getElem_cons_succ] at c5
        have hp40 := HL.out.pm
        have hh20 := HL.out.hm
        have hl20 := HL.out.lm
        by_cases hkn : k < bn
        · have hkl : k < bs.length := by rw [HL.out.bl]; exact hkn
          obtain ⟨bb, oo, rfl, hbx⟩ := (HA.rdT HL.out).br.boxAt hkl
          have hki : (k : Int) < (bn : Int) := by omega
          clear hbx HA hkl
          go_upto_region 10 with fail
          refine wp_region_invJ (by kernel_rfl) (TJa w g tb q2 high y0 y1 y2 YB yn yd bb oo bn bd PB pn pd HB hn hd LB ln ld rows bs plan hs ls k) (by kernel_rfl) ?_ ?_ ?_
          · exact ⟨u49, u50, u51, u52, u53, u54, u55, u56, u57, u58, u59, u60, u61, u62, u63, u48, u64, u65, u8, u9, undef, false, (by simp only [puts, Act.put, List.setIfInBounds_toArray, List.set_cons_succ, List.set_cons_zero] <;> rfl), ⟨q2, Nat.le_add_right _ _, HAh.out.drew⟩, (fun h => by cases h), (fun h => by cases h), (fun h => by cases h), (fun h => by cases h), (fun h => by cases h), (fun h => by cases h), (fun h => by cases h), (fun h => by cases h), (fun h => by cases h), (fun h => by cases h), (fun h => by cases h), (fun h => by cases h), (fun h => by cases h), (fun h => by cases h), (fun h => by cases h), (fun h => by cases h), (fun h => by cases h), (fun h => by cases h), (fun h => by cases h), (fun h => by cases h), (fun h => by cases h)⟩
          · rintro i o D a W ho hD hdep ⟨v49, v50, v51, v52, v53, v54, v55, v56, v57, v58, v59, v60, v61, v62, v63, v48, v64, v65, v8, v9, u, b, rfl, ⟨q', hq', HT⟩, F0, F1, F2, F3, F4, F5, F6, F7, F8, F9, F10, F11, F12, F13, F14, F15, F16, F17, F18, F19, F20⟩ K hK
            have hi : i < 21 := by have := (Array.getElem?_eq_some_iff.1 ho).1; simpa using this
            simp only [puts, Act.put, List.setIfInBounds_toArray, List.set_cons_succ, List.set_cons_zero]
            obtain rfl | rfl | rfl | rfl | rfl | rfl | rfl | rfl | rfl | rfl | rfl | rfl | rfl | rfl | rfl | rfl | rfl | rfl | rfl | rfl | rfl : i = 0 ∨ i = 1 ∨ i = 2 ∨ i = 3 ∨ i = 4 ∨ i = 5 ∨ i = 6 ∨ i = 7 ∨ i = 8 ∨ i = 9 ∨ i = 10 ∨ i = 11 ∨ i = 12 ∨ i = 13 ∨ i = 14 ∨ i = 15 ∨ i = 16 ∨ i = 17 ∨ i = 18 ∨ i = 19 ∨ i = 20 := by omega
            all_goals (simp only [List.getElem?_toArray, List.getElem?_cons_zero, List.getElem?_cons_succ, Option.some.injEq] at ho; subst ho; simp [Region.binds] at hdep)
            · have c0 := (HT.tbk).cellAt 0 (by simp)
              have c1 := (HT.tbk).cellAt 1 (by simp)
              have c2 := (HT.tbk).cellAt 2 (by simp)
              have c3 := (HT.tbk).cellAt 3 (by simp)
              have c4 := (HT.tbk).cellAt 4 (by simp)
              have c5 := (HT.tbk).cellAt 5 (by simp)
              have c6 := (HT.tbk).cellAt 6 (by simp)
              have c7 := (HT.tbk).cellAt 7 (by simp)
              have c8 := (HT.tbk).cellAt 8 (by simp)
              simp only [List.getElem_cons_zero, List.getElem_cons_succ] at c0 c1 c2 c3 c4 c5 c6 c7 c8
              have G0 := Lib.hid F0
              have G1 := Lib.hid F1
              have G2 := Lib.hid F2
              have G3 := Lib.hid F3
              have G4 := Lib.hid F4
              have G5 := Lib.hid F5
              have G6 := Lib.hid F6
              have G7 := Lib.hid F7
              have G8 := Lib.hid F8
              have G9 := Lib.hid F9
              have G10 := Lib.hid F10
              have G11 := Lib.hid F11
              have G12 := Lib.hid F12
              have G13 := Lib.hid F13
              have G14 := Lib.hid F14
              have G15 := Lib.hid F15
              have G16 := Lib.hid F16
              have G17 := Lib.hid F17
              have G18 := Lib.hid F18
              have G19 := Lib.hid F19
              have G20 := Lib.hid F20
              clear F0 F1 F2 F3 F4 F5 F6 F7 F8 F9 F10 F11 F12 F13 F14 F15 F16 F17 F18 F19 F20
              go_simp
              have hMB : ∀ b t cs, g < b → Blk W b t cs → Blk W b t cs := fun _ _ _ _ h => h
              have hMD : ∀ u b, DoR w.heap.size yn bn bs W u b → DoR w.heap.size yn bn bs W u b := fun _ _ h => h
              have F0 := G0.out
              have F1 := G1.out
              have F2 := G2.out
              have F3 := G3.out
              have F4 := G4.out
              have F5 := G5.out
              have F6 := G6.out
              have F7 := G7.out
              have F8 := G8.out
              have F9 := G9.out
              have F10 := G10.out
              have F11 := G11.out
              have F12 := G12.out
              have F13 := G13.out
              have F14 := G14.out
              have F15 := G15.out
              have F16 := G16.out
              have F17 := G17.out
              have F18 := G18.out
              have F19 := G19.out
              have F20 := G20.out
              refine hK _ _ ?_
              refine ⟨(.agg #[.int .i64 high, .slice YB yn yd, .int .i64 y0, .int .i64 y1, .int .i64 y2, .slice (some ⟨bb, oo, none⟩) bn bd, .slice PB pn pd, .slice HB hn hd, .slice LB ln ld]), v50, v51, v52, v53, v54, v55, v56, v57, v58, v59, v60, v61, v62, v63, v48, v64, v65, v8, v9, u, b, (by simp only [puts, Act.put, List.setIfInBounds_toArray, List.set_cons_succ, List.set_cons_zero] <;> rfl), ⟨q', (by simpa using hq'), HT⟩, (fun _ => rfl), (fun h => F1 (by simpa using h)), (fun h => F2 (by simpa using h)), (fun h => F3 (by simpa using h)), (fun h => F4 (by simpa using h)), (fun h => F5 (by simpa using h)), (fun h => F6 (by simpa using h)), (fun h => F7 (by simpa using h)), (fun h => F8 (by simpa using h)), (fun h => F9 (by simpa using h)), (fun h => F10 (by simpa using h)), (fun h => F11 (by simpa using h)), (fun h => F12 (by simpa using h)), (fun h => F13 (by simpa using h)), (fun h => ⟨(F14 (by simpa using h)).1, hMD _ _ (F14 (by simpa using h)).2⟩), (fun h => ⟨(by simp [(F15 (by simpa using h)).1]), (F15 (by simpa using h)).2⟩), (fun h => ⟨(by simp [(F16 (by simpa using h)).1]), (F16 (by simpa using h)).2⟩), (fun h => ⟨(by simp [(F17 (by simpa using h)).1]), (F17 (by simpa using h)).2⟩), (fun h => by obtain ⟨xb, cs, e, h1, h2, h3, hb, h4⟩ := F18 (by simpa using h); exact ⟨xb, cs, e, h1, h2, h3, hMB _ _ _ (by omega) hb, fun h => ⟨(by simp [(h4 (by simpa using h)).1]), (h4 (by simpa using h)).2⟩⟩), (fun h => by simp [F19 (by simpa using h)]), (fun h => ⟨(by simp [(F20 (by simpa using h)).1]), (F20 (by simpa using h)).2⟩)⟩
            · have G0 := Lib.hid F0
              have G1 := Lib.hid F1
              have G2 := Lib.hid F2
              have G3 := Lib.hid F3
              have G4 := Lib.hid F4
              have G5 := Lib.hid F5
              have G6 := Lib.hid F6
              have G7 := Lib.hid F7
              have G8 := Lib.hid F8
              have G9 := Lib.hid F9
              have G10 := Lib.hid F10
              have G11 := Lib.hid F11
              have G12 := Lib.hid F12
              have G13 := Lib.hid F13
              have G14 := Lib.hid F14
              have G15 := Lib.hid F15
              have G16 := Lib.hid F16
              have G17 := Lib.hid F17
              have G18 := Lib.hid F18
              have G19 := Lib.hid F19
              have G20 := Lib.hid F20
              clear F0 F1 F2 F3 F4 F5 F6 F7 F8 F9 F10 F11 F12 F13 F14 F15 F16 F17 F18 F19 F20
              go_simp
              have hMB : ∀ b t cs, g < b → Blk W b t cs → Blk W b t cs := fun _ _ _ _ h => h
              have hMD : ∀ u b, DoR w.heap.size yn bn bs W u b → DoR w.heap.size yn bn bs W u b := fun _ _ h => h
              have F0 := G0.out
              have F1 := G1.out
              have F2 := G2.out
              have F3 := G3.out
              have F4 := G4.out
              have F5 := G5.out
              have F6 := G6.out
              have F7 := G7.out
              have F8 := G8.out
              have F9 := G9.out
              have F10 := G10.out
              have F11 := G11.out
              have F12 := G12.out
              have F13 := G13.out
              have F14 := G14.out
              have F15 := G15.out
              have F16 := G16.out
              have F17 := G17.out
              have F18 := G18.out
              have F19 := G19.out
              have F20 := G20.out
              refine hK _ _ ?_
              refine ⟨v49, (.pointer (some ⟨tb, 5, none⟩)), v51, v52, v53, v54, v55, v56, v57, v58, v59, v60, v61, v62, v63, v48, v64, v65, v8, v9, u, b, (by simp only [puts, Act.put, List.setIfInBounds_toArray, List.set_cons_succ, List.set_cons_zero] <;> rfl), ⟨q', (by simpa using hq'), HT⟩, (fun h => F0 (by simpa using h)), (fun _ => rfl), (fun h => F2 (by simpa using h)), (fun h => F3 (by simpa using h)), (fun h => F4 (by simpa using h)), (fun h => F5 (by simpa using h)), (fun h => F6 (by simpa using h)), (fun h => F7 (by simpa using h)), (fun h => F8 (by simpa using h)), (fun h => F9 (by simpa using h)), (fun h => F10 (by simpa using h)), (fun h => F11 (by simpa using h)), (fun h => F12 (by simpa using h)), (fun h => F13 (by simpa using h)), (fun h => ⟨(F14 (by simpa using h)).1, hMD _ _ (F14 (by simpa using h)).2⟩), (fun h => ⟨(by simp [(F15 (by simpa using h)).1]), (F15 (by simpa using h)).2⟩), (fun h => ⟨(by simp [(F16 (by simpa using h)).1]), (F16 (by simpa using h)).2⟩), (fun h => ⟨(by simp [(F17 (by simpa using h)).1]), (F17 (by simpa using h)).2⟩), (fun h => by obtain ⟨xb, cs, e, h1, h2, h3, hb, h4⟩ := F18 (by simpa using h); exact ⟨xb, cs, e, h1, h2, h3, hMB _ _ _ (by omega) hb, fun h => ⟨(by simp [(h4 (by simpa using h)).1]), (h4 (by simpa using h)).2⟩⟩), (fun h => by simp [F19 (by simpa using h)]), (fun h => ⟨(by simp [(F20 (by simpa using h)).1]), (F20 (by simpa using h)).2⟩)⟩
            · obtain rfl := F1 (by simp [hdep])
              have c5 := (HT.tbk).cellAt 5 (by simp)
              simp only [List.getElem_cons_zero, List.getElem_cons_succ] at c5
              have G0 := Lib.hid F0
              have G1 := Lib.hid F1
              have G2 := Lib.hid F2
              have G3 := Lib.hid F3
              have G4 := Lib.hid F4
              have G5 := Lib.hid F5
              have G6 := Lib.hid F6
              have G7 := Lib.hid F7
              have G8 := Lib.hid F8
              have G9 := Lib.hid F9
              have G10 := Lib.hid F10
              have G11 := Lib.hid F11
              have G12 := Lib.hid F12
              have G13 := Lib.hid F13
              have G14 := Lib.hid F14
              have G15 := Lib.hid F15
              have G16 := Lib.hid F16
              have G17 := Lib.hid F17
              have G18 := Lib.hid F18
              have G19 := Lib.hid F19
              have G20 := Lib.hid F20
              clear F0 F1 F2 F3 F4 F5 F6 F7 F8 F9 F10 F11 F12 F13 F14 F15 F16 F17 F18 F19 F20
              go_simp
              have hMB : ∀ b t cs, g < b → Blk W b t cs → Blk W b t cs := fun _ _ _ _ h => h
              have hMD : ∀ u b, DoR w.heap.size yn bn bs W u b → DoR w.heap.size yn bn bs W u b := fun _ _ h => h
              have F0 := G0.out
              have F1 := G1.out
              have F2 := G2.out
              have F3 := G3.out
              have F4 := G4.out
              have F5 := G5.out
              have F6 := G6.out
              have F7 := G7.out
              have F8 := G8.out
              have F9 := G9.out
              have F10 := G10.out
              have F11 := G11.out
              have F12 := G12.out
              have F13 := G13.out
              have F14 := G14.out
              have F15 := G15.out
              have F16 := G16.out
              have F17 := G17.out
              have F18 := G18.out
              have F19 := G19.out
              have F20 := G20.out
              refine hK _ _ ?_
              refine ⟨v49, (.pointer (some ⟨tb, 5, none⟩)), (.slice (some ⟨bb, oo, none⟩) bn bd), v52, v53, v54, v55, v56, v57, v58, v59, v60, v61, v62, v63, v48, v64, v65, v8, v9, u, b, (by simp only [puts, Act.put, List.setIfInBounds_toArray, List.set_cons_succ, List.set_cons_zero] <;> rfl), ⟨q', (by simpa using hq'), HT⟩, (fun h => F0 (by simpa using h)), (fun h => F1 (by simpa using h)), (fun _ => rfl), (fun h => F3 (by simpa using h)), (fun h => F4 (by simpa using h)), (fun h => F5 (by simpa using h)), (fun h => F6 (by simpa using h)), (fun h => F7 (by simpa using h)), (fun h => F8 (by simpa using h)), (fun h => F9 (by simpa using h)), (fun h => F10 (by simpa using h)), (fun h => F11 (by simpa using h)), (fun h => F12 (by simpa using h)), (fun h => F13 (by simpa using h)), (fun h => ⟨(F14 (by simpa using h)).1, hMD _ _ (F14 (by simpa using h)).2⟩), (fun h => ⟨(by simp [(F15 (by simpa using h)).1]), (F15 (by simpa using h)).2⟩), (fun h => ⟨(by simp [(F16 (by simpa using h)).1]), (F16 (by simpa using h)).2⟩), (fun h => ⟨(by simp [(F17 (by simpa using h)).1]), (F17 (by simpa using h)).2⟩), (fun h => by obtain ⟨xb, cs, e, h1, h2, h3, hb, h4⟩ := F18 (by simpa using h); exact ⟨xb, cs, e, h1, h2, h3, hMB _ _ _ (by omega) hb, fun h => ⟨(by simp [(h4 (by simpa using h)).1]), (h4 (by simpa using h)).2⟩⟩), (fun h => by simp [F19 (by simpa using h)]), (fun h => ⟨(by simp [(F20 (by simpa using h)).1]), (F20 (by simpa using h)).2⟩)⟩
            · have G0 := Lib.hid F0
              have G1 := Lib.hid F1
              have G2 := Lib.hid F2
              have G3 := Lib.hid F3
              have G4 := Lib.hid F4
              have G5 := Lib.hid F5
              have G6 := Lib.hid F6
              have G7 := Lib.hid F7
              have G8 := Lib.hid F8
              have G9 := Lib.hid F9
              have G10 := Lib.hid F10
              have G11 := Lib.hid F11
              have G12 := Lib.hid F12
              have G13 := Lib.hid F13
              have G14 := Lib.hid F14
              have G15 := Lib.hid F15
              have G16 := Lib.hid F16
              have G17 := Lib.hid F17
              have G18 := Lib.hid F18
              have G19 := Lib.hid F19
              have G20 := Lib.hid F20
              clear F0 F1 F2 F3 F4 F5 F6 F7 F8 F9 F10 F11 F12 F13 F14 F15 F16 F17 F18 F19 F20
              go_simp
              have hMB : ∀ b t cs, g < b → Blk W b t cs → Blk W b t cs := fun _ _ _ _ h => h
              have hMD : ∀ u b, DoR w.heap.size yn bn bs W u b → DoR w.heap.size yn bn bs W u b := fun _ _ h => h
              have F0 := G0.out
              have F1 := G1.out
              have F2 := G2.out
              have F3 := G3.out
              have F4 := G4.out
              have F5 := G5.out
              have F6 := G6.out
              have F7 := G7.out
              have F8 := G8.out
              have F9 := G9.out
              have F10 := G10.out
              have F11 := G11.out
              have F12 := G12.out
              have F13 := G13.out
              have F14 := G14.out
              have F15 := G15.out
              have F16 := G16.out
              have F17 := G17.out
              have F18 := G18.out
              have F19 := G19.out
              have F20 := G20.out
              refine hK _ _ ?_
              refine ⟨v49, v50, v51, (.int .i64 k), v53, v54, v55, v56, v57, v58, v59, v60, v61, v62, v63, v48, v64, v65, v8, v9, u, b, (by simp only [puts, Act.put, List.setIfInBounds_toArray, List.set_cons_succ, List.set_cons_zero] <;> rfl), ⟨q', (by simpa using hq'), HT⟩, (fun h => F0 (by simpa using h)), (fun h => F1 (by simpa using h)), (fun h => F2 (by simpa using h)), (fun _ => rfl), (fun h => F4 (by simpa using h)), (fun h => F5 (by simpa using h)), (fun h => F6 (by simpa using h)), (fun h => F7 (by simpa using h)), (fun h => F8 (by simpa using h)), (fun h => F9 (by simpa using h)), (fun h => F10 (by simpa using h)), (fun h => F11 (by simpa using h)), (fun h => F12 (by simpa using h)), (fun h => F13 (by simpa using h)), (fun h => ⟨(F14 (by simpa using h)).1, hMD _ _ (F14 (by simpa using h)).2⟩), (fun h => ⟨(by simp [(F15 (by simpa using h)).1]), (F15 (by simpa using h)).2⟩), (fun h => ⟨(by simp [(F16 (by simpa using h)).1]), (F16 (by simpa using h)).2⟩), (fun h => ⟨(by simp [(F17 (by simpa using h)).1]), (F17 (by simpa using h)).2⟩), (fun h => by obtain ⟨xb, cs, e, h1, h2, h3, hb, h4⟩ := F18 (by simpa using h); exact ⟨xb, cs, e, h1, h2, h3, hMB _ _ _ (by omega) hb, fun h => ⟨(by simp [(h4 (by simpa using h)).1]), (h4 (by simpa using h)).2⟩⟩), (fun h => by simp [F19 (by simpa using h)]), (fun h => ⟨(by simp [(F20 (by simpa using h)).1]), (F20 (by simpa using h)).2⟩)⟩
            · obtain rfl := F2 (by simp [hdep])
              obtain rfl := F3 (by simp [hdep])
              have G0 := Lib.hid F0
              have G1 := Lib.hid F1
              have G2 := Lib.hid F2
              have G3 := Lib.hid F3
              have G4 := Lib.hid F4
              have G5 := Lib.hid F5
              have G6 := Lib.hid F6
              have G7 := Lib.hid F7
              have G8 := Lib.hid F8
              have G9 := Lib.hid F9
              have G10 := Lib.hid F10
              have G11 := Lib.hid F11
              have G12 := Lib.hid F12
              have G13 := Lib.hid F13
              have G14 := Lib.hid F14
              have G15 := Lib.hid F15
              have G16 := Lib.hid F16
              have G17 := Lib.hid F17
              have G18 := Lib.hid F18
              have G19 := Lib.hid F19
              have G20 := Lib.hid F20
              clear F0 F1 F2 F3 F4 F5 F6 F7 F8 F9 F10 F11 F12 F13 F14 F15 F16 F17 F18 F19 F20
              go_simp
              have hMB : ∀ b t cs, g < b → Blk W b t cs → Blk W b t cs := fun _ _ _ _ h => h
              have hMD : ∀ u b, DoR w.heap.size yn bn bs W u b → DoR w.heap.size yn bn bs W u b := fun _ _ h => h
              have F0 := G0.out
              have F1 := G1.out
              have F2 := G2.out
              have F3 := G3.out
              have F4 := G4.out
              have F5 := G5.out
              have F6 := G6.out
              have F7 := G7.out
              have F8 := G8.out
              have F9 := G9.out
              have F10 := G10.out
              have F11 := G11.out
              have F12 := G12.out
              have F13 := G13.out
              have F14 := G14.out
              have F15 := G15.out
              have F16 := G16.out
              have F17 := G17.out
              have F18 := G18.out
              have F19 := G19.out
              have F20 := G20.out
              refine hK _ _ ?_
              refine ⟨v49, v50, (.slice (some ⟨bb, oo, none⟩) bn bd), (.int .i64 k), (.pointer (some ⟨bb, oo + k * 5, none⟩)), v54, v55, v56, v57, v58, v59, v60, v61, v62, v63, v48, v64, v65, v8, v9, u, b, (by simp only [puts, Act.put, List.setIfInBounds_toArray, List.set_cons_succ, List.set_cons_zero] <;> rfl), ⟨q', (by simpa using hq'), HT⟩, (fun h => F0 (by simpa using h)), (fun h => F1 (by simpa using h)), (fun h => F2 (by simpa using h)), (fun h => F3 (by simpa using h)), (fun _ => rfl), (fun h => F5 (by simpa using h)), (fun h => F6 (by simpa using h)), (fun h => F7 (by simpa using h)), (fun h => F8 (by simpa using h)), (fun h => F9 (by simpa using h)), (fun h => F10 (by simpa using h)), (fun h => F11 (by simpa using h)), (fun h => F12 (by simpa using h)), (fun h => F13 (by simpa using h)), (fun h => ⟨(F14 (by simpa using h)).1, hMD _ _ (F14 (by simpa using h)).2⟩), (fun h => ⟨(by simp [(F15 (by simpa using h)).1]), (F15 (by simpa using h)).2⟩), (fun h => ⟨(by simp [(F16 (by simpa using h)).1]), (F16 (by simpa using h)).2⟩), (fun h => ⟨(by simp [(F17 (by simpa using h)).1]), (F17 (by simpa using h)).2⟩), (fun h => by obtain ⟨xb, cs, e, h1, h2, h3, hb, h4⟩ := F18 (by simpa using h); exact ⟨xb, cs, e, h1, h2, h3, hMB _ _ _ (by omega) hb, fun h => ⟨(by simp [(h4 (by simpa using h)).1]), (h4 (by simpa using h)).2⟩⟩), (fun h => by simp [F19 (by simpa using h)]), (fun h => ⟨(by simp [(F20 (by simpa using h)).1]), (F20 (by simpa using h)).2⟩)⟩
            · obtain rfl := F4 (by simp [hdep])
              have G0 := Lib.hid F0
              have G1 := Lib.hid F1
              have G2 := Lib.hid F2
              have G3 := Lib.hid F3
              have G4 := Lib.hid F4
              have G5 := Lib.hid F5
              have G6 := Lib.hid F6
              have G7 := Lib.hid F7
              have G8 := Lib.hid F8
              have G9 := Lib.hid F9
              have G10 := Lib.hid F10
              have G11 := Lib.hid F11
              have G12 := Lib.hid F12
              have G13 := Lib.hid F13
              have G14 := Lib.hid F14
              have G15 := Lib.hid F15
              have G16 := Lib.hid F16
              have G17 := Lib.hid F17
              have G18 := Lib.hid F18
              have G19 := Lib.hid F19
              have G20 := Lib.hid F20
              clear F0 F1 F2 F3 F4 F5 F6 F7 F8 F9 F10 F11 F12 F13 F14 F15 F16 F17 F18 F19 F20
              go_simp
              have hMB : ∀ b t cs, g < b → Blk W b t cs → Blk W b t cs := fun _ _ _ _ h => h
              have hMD : ∀ u b, DoR w.heap.size yn bn bs W u b → DoR w.heap.size yn bn bs W u b := fun _ _ h => h
              have F0 := G0.out
              have F1 := G1.out
              have F2 := G2.out
              have F3 := G3.out
              have F4 := G4.out
              have F5 := G5.out
              have F6 := G6.out
              have F7 := G7.out
              have F8 := G8.out
              have F9 := G9.out
              have F10 := G10.out
              have F11 := G11.out
              have F12 := G12.out
              have F13 := G13.out
              have F14 := G14.out
              have F15 := G15.out
              have F16 := G16.out
              have F17 := G17.out
              have F18 := G18.out
              have F19 := G19.out
              have F20 := G20.out
              refine hK _ _ ?_
              refine ⟨v49, v50, v51, v52, (.pointer (some ⟨bb, oo + k * 5, none⟩)), (.pointer (some ⟨bb, oo + k * 5, none⟩)), v55, v56, v57, v58, v59, v60, v61, v62, v63, v48, v64, v65, v8, v9, u, b, (by simp only [puts, Act.put, List.setIfInBounds_toArray, List.set_cons_succ, List.set_cons_zero] <;> rfl), ⟨q', (by simpa using hq'), HT⟩, (fun h => F0 (by simpa using h)), (fun h => F1 (by simpa using h)), (fun h => F2 (by simpa using h)), (fun h => F3 (by simpa using h)), (fun h => F4 (by simpa using h)), (fun _ => rfl), (fun h => F6 (by simpa using h)), (fun h => F7 (by simpa using h)), (fun h => F8 (by simpa using h)), (fun h => F9 (by simpa using h)), (fun h => F10 (by simpa using h)), (fun h => F11 (by simpa using h)), (fun h => F12 (by simpa using h)), (fun h => F13 (by simpa using h)), (fun h => ⟨(F14 (by simpa using h)).1, hMD _ _ (F14 (by simpa using h)).2⟩), (fun h => ⟨(by simp [(F15 (by simpa using h)).1]), (F15 (by simpa using h)).2⟩), (fun h => ⟨(by simp [(F16 (by simpa using h)).1]), (F16 (by simpa using h)).2⟩), (fun h => ⟨(by simp [(F17 (by simpa using h)).1]), (F17 (by simpa using h)).2⟩), (fun h => by obtain ⟨xb, cs, e, h1, h2, h3, hb, h4⟩ := F18 (by simpa using h); exact ⟨xb, cs, e, h1, h2, h3, hMB _ _ _ (by omega) hb, fun h => ⟨(by simp [(h4 (by simpa using h)).1]), (h4 (by simpa using h)).2⟩⟩), (fun h => by simp [F19 (by simpa using h)]), (fun h => ⟨(by simp [(F20 (by simpa using h)).1]), (F20 (by simpa using h)).2⟩)⟩
            · obtain rfl := F5 (by simp [hdep])
              obtain ⟨z, hz⟩ := TmA.box0 HT HL.out hkn
              have G0 := Lib.hid F0
              have G1 := Lib.hid F1
              have G2 := Lib.hid F2
              have G3 := Lib.hid F3
              have G4 := Lib.hid F4
              have G5 := Lib.hid F5
              have G6 := Lib.hid F6
              have G7 := Lib.hid F7
              have G8 := Lib.hid F8
              have G9 := Lib.hid F9
              have G10 := Lib.hid F10
              have G11 := Lib.hid F11
              have G12 := Lib.hid F12
              have G13 := Lib.hid F13
              have G14 := Lib.hid F14
              have G15 := Lib.hid F15
              have G16 := Lib.hid F16
              have G17 := Lib.hid F17
              have G18 := Lib.hid F18
              have G19 := Lib.hid F19
              have G20 := Lib.hid F20
              clear F0 F1 F2 F3 F4 F5 F6 F7 F8 F9 F10 F11 F12 F13 F14 F15 F16 F17 F18 F19 F20
              go_simp
              have hMB : ∀ b t cs, g < b → Blk W b t cs → Blk W b t cs := fun _ _ _ _ h => h
              have hMD : ∀ u b, DoR w.heap.size yn bn bs W u b → DoR w.heap.size yn bn bs W u b := fun _ _ h => h
              have F0 := G0.out
              have F1 := G1.out
              have F2 := G2.out
              have F3 := G3.out
              have F4 := G4.out
              have F5 := G5.out
              have F6 := G6.out
              have F7 := G7.out
              have F8 := G8.out
              have F9 := G9.out
              have F10 := G10.out
              have F11 := G11.out
              have F12 := G12.out
              have F13 := G13.out
              have F14 := G14.out
              have F15 := G15.out
              have F16 := G16.out
              have F17 := G17.out
              have F18 := G18.out
              have F19 := G19.out
              have F20 := G20.out
              refine hK _ _ ?_
              refine ⟨v49, v50, v51, v52, v53, (.pointer (some ⟨bb, oo + k * 5, none⟩)), (.int .i64 z), v56, v57, v58, v59, v60, v61, v62, v63, v48, v64, v65, v8, v9, u, b, (by simp only [puts, Act.put, List.setIfInBounds_toArray, List.set_cons_succ, List.set_cons_zero] <;> rfl), ⟨q', (by simpa using hq'), HT⟩, (fun h => F0 (by simpa using h)), (fun h => F1 (by simpa using h)), (fun h => F2 (by simpa using h)), (fun h => F3 (by simpa using h)), (fun h => F4 (by simpa using h)), (fun h => F5 (by simpa using h)), (fun _ => ⟨z, rfl⟩), (fun h => F7 (by simpa using h)), (fun h => F8 (by simpa using h)), (fun h => F9 (by simpa using h)), (fun h => F10 (by simpa using h)), (fun h => F11 (by simpa using h)), (fun h => F12 (by simpa using h)), (fun h => F13 (by simpa using h)), (fun h => ⟨(F14 (by simpa using h)).1, hMD _ _ (F14 (by simpa using h)).2⟩), (fun h => ⟨(by simp [(F15 (by simpa using h)).1]), (F15 (by simpa using h)).2⟩), (fun h => ⟨(by simp [(F16 (by simpa using h)).1]), (F16 (by simpa using h)).2⟩), (fun h => ⟨(by simp [(F17 (by simpa using h)).1]), (F17 (by simpa using h)).2⟩), (fun h => by obtain ⟨xb, cs, e, h1, h2, h3, hb, h4⟩ := F18 (by simpa using h); exact ⟨xb, cs, e, h1, h2, h3, hMB _ _ _ (by omega) hb, fun h => ⟨(by simp [(h4 (by simpa using h)).1]), (h4 (by simpa using h)).2⟩⟩), (fun h => by simp [F19 (by simpa using h)]), (fun h => ⟨(by simp [(F20 (by simpa using h)).1]), (F20 (by simpa using h)).2⟩)⟩
            · have G0 := Lib.hid F0
              have G1 := Lib.hid F1
              have G2 := Lib.hid F2
              have G3 := Lib.hid F3
              have G4 := Lib.hid F4
              have G5 := Lib.hid F5
              have G6 := Lib.hid F6
              have G7 := Lib.hid F7
              have G8 := Lib.hid F8
              have G9 := Lib.hid F9
              have G10 := Lib.hid F10
              have G11 := Lib.hid F11
              have G12 := Lib.hid F12
              have G13 := Lib.hid F13
              have G14 := Lib.hid F14
              have G15 := Lib.hid F15
              have G16 := Lib.hid F16
              have G17 := Lib.hid F17
              have G18 := Lib.hid F18
              have G19 := Lib.hid F19
              have G20 := Lib.hid F20
              clear F0 F1 F2 F3 F4 F5 F6 F7 F8 F9 F10 F11 F12 F13 F14 F15 F16 F17 F18 F19 F20
              go_simp
              have hMB : ∀ b t cs, g < b → Blk W b t cs → Blk W b t cs := fun _ _ _ _ h => h
              have hMD : ∀ u b, DoR w.heap.size yn bn bs W u b → DoR w.heap.size yn bn bs W u b := fun _ _ h => h
              have F0 := G0.out
              have F1 := G1.out
              have F2 := G2.out
              have F3 := G3.out
              have F4 := G4.out
              have F5 := G5.out
              have F6 := G6.out
              have F7 := G7.out
              have F8 := G8.out
              have F9 := G9.out
              have F10 := G10.out
              have F11 := G11.out
              have F12 := G12.out
              have F13 := G13.out
              have F14 := G14.out
              have F15 := G15.out
              have F16 := G16.out
              have F17 := G17.out
              have F18 := G18.out
              have F19 := G19.out
              have F20 := G20.out
              refine hK _ _ ?_
              refine ⟨v49, v50, v51, v52, v53, v54, v55, (.pointer (some ⟨g, 0, none⟩)), v57, v58, v59, v60, v61, v62, v63, v48, v64, v65, v8, v9, u, b, (by simp only [puts, Act.put, List.setIfInBounds_toArray, List.set_cons_succ, List.set_cons_zero] <;> rfl), ⟨q', (by simpa using hq'), HT⟩, (fun h => F0 (by simpa using h)), (fun h => F1 (by simpa using h)), (fun h => F2 (by simpa using h)), (fun h => F3 (by simpa using h)), (fun h => F4 (by simpa using h)), (fun h => F5 (by simpa using h)), (fun h => F6 (by simpa using h)), (fun _ => rfl), (fun h => F8 (by simpa using h)), (fun h => F9 (by simpa using h)), (fun h => F10 (by simpa using h)), (fun h => F11 (by simpa using h)), (fun h => F12 (by simpa using h)), (fun h => F13 (by simpa using h)), (fun h => ⟨(F14 (by simpa using h)).1, hMD _ _ (F14 (by simpa using h)).2⟩), (fun h => ⟨(by simp [(F15 (by simpa using h)).1]), (F15 (by simpa using h)).2⟩), (fun h => ⟨(by simp [(F16 (by simpa using h)).1]), (F16 (by simpa using h)).2⟩), (fun h => ⟨(by simp [(F17 (by simpa using h)).1]), (F17 (by simpa using h)).2⟩), (fun h => by obtain ⟨xb, cs, e, h1, h2, h3, hb, h4⟩ := F18 (by simpa using h); exact ⟨xb, cs, e, h1, h2, h3, hMB _ _ _ (by omega) hb, fun h => ⟨(by simp [(h4 (by simpa using h)).1]), (h4 (by simpa using h)).2⟩⟩), (fun h => by simp [F19 (by simpa using h)]), (fun h => ⟨(by simp [(F20 (by simpa using h)).1]), (F20 (by simpa using h)).2⟩)⟩
            · have G0 := Lib.hid F0
              have G1 := Lib.hid F1
              have G2 := Lib.hid F2
              have G3 := Lib.hid F3
              have G4 := Lib.hid F4
              have G5 := Lib.hid F5
              have G6 := Lib.hid F6
              have G7 := Lib.hid F7
              have G8 := Lib.hid F8
              have G9 := Lib.hid F9
              have G10 := Lib.hid F10
              have G11 := Lib.hid F11
              have G12 := Lib.hid F12
              have G13 := Lib.hid F13
              have G14 := Lib.hid F14
              have G15 := Lib.hid F15
              have G16 := Lib.hid F16
              have G17 := Lib.hid F17
              have G18 := Lib.hid F18
              have G19 := Lib.hid F19
              have G20 := Lib.hid F20
              clear F0 F1 F2 F3 F4 F5 F6 F7 F8 F9 F10 F11 F12 F13 F14 F15 F16 F17 F18 F19 F20
              go_simp
              have hMB : ∀ b t cs, g < b → Blk W b t cs → Blk W b t cs := fun _ _ _ _ h => h
              have hMD : ∀ u b, DoR w.heap.size yn bn bs W u b → DoR w.heap.size yn bn bs W u b := fun _ _ h => h
              have F0 := G0.out
              have F1 := G1.out
              have F2 := G2.out
              have F3 := G3.out
              have F4 := G4.out
              have F5 := G5.out
              have F6 := G6.out
              have F7 := G7.out
              have F8 := G8.out
              have F9 := G9.out
              have F10 := G10.out
              have F11 := G11.out
              have F12 := G12.out
              have F13 := G13.out
              have F14 := G14.out
              have F15 := G15.out
              have F16 := G16.out
              have F17 := G17.out
              have F18 := G18.out
              have F19 := G19.out
              have F20 := G20.out
              refine hK _ _ ?_
              refine ⟨v49, v50, v51, v52, v53, v54, v55, v56, (.pointer (some ⟨tb, 0, none⟩)), v58, v59, v60, v61, v62, v63, v48, v64, v65, v8, v9, u, b, (by simp only [puts, Act.put, List.setIfInBounds_toArray, List.set_cons_succ, List.set_cons_zero] <;> rfl), ⟨q', (by simpa using hq'), HT⟩, (fun h => F0 (by simpa using h)), (fun h => F1 (by simpa using h)), (fun h => F2 (by simpa using h)), (fun h => F3 (by simpa using h)), (fun h => F4 (by simpa using h)), (fun h => F5 (by simpa using h)), (fun h => F6 (by simpa using h)), (fun h => F7 (by simpa using h)), (fun _ => rfl), (fun h => F9 (by simpa using h)), (fun h => F10 (by simpa using h)), (fun h => F11 (by simpa using h)), (fun h => F12 (by simpa using h)), (fun h => F13 (by simpa using h)), (fun h => ⟨(F14 (by simpa using h)).1, hMD _ _ (F14 (by simpa using h)).2⟩), (fun h => ⟨(by simp [(F15 (by simpa using h)).1]), (F15 (by simpa using h)).2⟩), (fun h => ⟨(by simp [(F16 (by simpa using h)).1]), (F16 (by simpa using h)).2⟩), (fun h => ⟨(by simp [(F17 (by simpa using h)).1]), (F17 (by simpa using h)).2⟩), (fun h => by obtain ⟨xb, cs, e, h1, h2, h3, hb, h4⟩ := F18 (by simpa using h); exact ⟨xb, cs, e, h1, h2, h3, hMB _ _ _ (by omega) hb, fun h => ⟨(by simp [(h4 (by simpa using h)).1]), (h4 (by simpa using h)).2⟩⟩), (fun h => by simp [F19 (by simpa using h)]), (fun h => ⟨(by simp [(F20 (by simpa using h)).1]), (F20 (by simpa using h)).2⟩)⟩
            · obtain rfl := F8 (by simp [hdep])
              have G0 := Lib.hid F0
              have G1 := Lib.hid F1
              have G2 := Lib.hid F2
              have G3 := Lib.hid F3
              have G4 := Lib.hid F4
              have G5 := Lib.hid F5
              have G6 := Lib.hid F6
              have G7 := Lib.hid F7
              have G8 := Lib.hid F8
              have G9 := Lib.hid F9
              have G10 := Lib.hid F10
              have G11 := Lib.hid F11
              have G12 := Lib.hid F12
              have G13 := Lib.hid F13
              have G14 := Lib.hid F14
              have G15 := Lib.hid F15
              have G16 := Lib.hid F16
              have G17 := Lib.hid F17
              have G18 := Lib.hid F18
              have G19 := Lib.hid F19
              have G20 := Lib.hid F20
              clear F0 F1 F2 F3 F4 F5 F6 F7 F8 F9 F10 F11 F12 F13 F14 F15 F16 F17 F18 F19 F20
              go_simp
              have hMB : ∀ b t cs, g < b → Blk W b t cs → Blk W b t cs := fun _ _ _ _ h => h
              have hMD : ∀ u b, DoR w.heap.size yn bn bs W u b → DoR w.heap.size yn bn bs W u b := fun _ _ h => h
              have F0 := G0.out
              have F1 := G1.out
              have F2 := G2.out
              have F3 := G3.out
              have F4 := G4.out
              have F5 := G5.out
              have F6 := G6.out
              have F7 := G7.out
              have F8 := G8.out
              have F9 := G9.out
              have F10 := G10.out
              have F11 := G11.out
              have F12 := G12.out
              have F13 := G13.out
              have F14 := G14.out
              have F15 := G15.out
              have F16 := G16.out
              have F17 := G17.out
              have F18 := G18.out
              have F19 := G19.out
              have F20 := G20.out
              refine hK _ _ ?_
              refine ⟨v49, v50, v51, v52, v53, v54, v55, v56, (.pointer (some ⟨tb, 0, none⟩)), (.pointer (some ⟨tb, 1, none⟩)), v59, v60, v61, v62, v63, v48, v64, v65, v8, v9, u, b, (by simp only [puts, Act.put, List.setIfInBounds_toArray, List.set_cons_succ, List.set_cons_zero] <;> rfl), ⟨q', (by simpa using hq'), HT⟩, (fun h => F0 (by simpa using h)), (fun h => F1 (by simpa using h)), (fun h => F2 (by simpa using h)), (fun h => F3 (by simpa using h)), (fun h => F4 (by simpa using h)), (fun h => F5 (by simpa using h)), (fun h => F6 (by simpa using h)), (fun h => F7 (by simpa using h)), (fun h => F8 (by simpa using h)), (fun _ => rfl), (fun h => F10 (by simpa using h)), (fun h => F11 (by simpa using h)), (fun h => F12 (by simpa using h)), (fun h => F13 (by simpa using h)), (fun h => ⟨(F14 (by simpa using h)).1, hMD _ _ (F14 (by simpa using h)).2⟩), (fun h => ⟨(by simp [(F15 (by simpa using h)).1]), (F15 (by simpa using h)).2⟩), (fun h => ⟨(by simp [(F16 (by simpa using h)).1]), (F16 (by simpa using h)).2⟩), (fun h => ⟨(by simp [(F17 (by simpa using h)).1]), (F17 (by simpa using h)).2⟩), (fun h => by obtain ⟨xb, cs, e, h1, h2, h3, hb, h4⟩ := F18 (by simpa using h); exact ⟨xb, cs, e, h1, h2, h3, hMB _ _ _ (by omega) hb, fun h => ⟨(by simp [(h4 (by simpa using h)).1]), (h4 (by simpa using h)).2⟩⟩), (fun h => by simp [F19 (by simpa using h)]), (fun h => ⟨(by simp [(F20 (by simpa using h)).1]), (F20 (by simpa using h)).2⟩)⟩
            · obtain rfl := F9 (by simp [hdep])
              have c1 := (HT.tbk).cellAt 1 (by simp)
              simp only [List.getElem_cons_zero, List.getElem_cons_succ] at c1
              have G0 := Lib.hid F0
              have G1 := Lib.hid F1
              have G2 := Lib.hid F2
              have G3 := Lib.hid F3
              have G4 := Lib.hid F4
              have G5 := Lib.hid F5
              have G6 := Lib.hid F6
              have G7 := Lib.hid F7
              have G8 := Lib.hid F8
              have G9 := Lib.hid F9
              have G10 := Lib.hid F10
              have G11 := Lib.hid F11
              have G12 := Lib.hid F12
              have G13 := Lib.hid F13
              have G14 := Lib.hid F14
              have G15 := Lib.hid F15
              have G16 := Lib.hid F16
              have G17 := Lib.hid F17
              have G18 := Lib.hid F18
              have G19 := Lib.hid F19
              have G20 := Lib.hid F20
              clear F0 F1 F2 F3 F4 F5 F6 F7 F8 F9 F10 F11 F12 F13 F14 F15 F16 F17 F18 F19 F20
              go_simp
              have hMB : ∀ b t cs, g < b → Blk W b t cs → Blk W b t cs := fun _ _ _ _ h => h
              have hMD : ∀ u b, DoR w.heap.size yn bn bs W u b → DoR w.heap.size yn bn bs W u b := fun _ _ h => h
              have F0 := G0.out
              have F1 := G1.out
              have F2 := G2.out
              have F3 := G3.out
              have F4 := G4.out
              have F5 := G5.out
              have F6 := G6.out
              have F7 := G7.out
              have F8 := G8.out
              have F9 := G9.out
              have F10 := G10.out
              have F11 := G11.out
              have F12 := G12.out
              have F13 := G13.out
              have F14 := G14.out
              have F15 := G15.out
              have F16 := G16.out
              have F17 := G17.out
              have F18 := G18.out
              have F19 := G19.out
              have F20 := G20.out
              refine hK _ _ ?_
              refine ⟨v49, v50, v51, v52, v53, v54, v55, v56, v57, (.pointer (some ⟨tb, 1, none⟩)), (.slice YB yn yd), v60, v61, v62, v63, v48, v64, v65, v8, v9, u, b, (by simp only [puts, Act.put, List.setIfInBounds_toArray, List.set_cons_succ, List.set_cons_zero] <;> rfl), ⟨q', (by simpa using hq'), HT⟩, (fun h => F0 (by simpa using h)), (fun h => F1 (by simpa using h)), (fun h => F2 (by simpa using h)), (fun h => F3 (by simpa using h)), (fun h => F4 (by simpa using h)), (fun h => F5 (by simpa using h)), (fun h => F6 (by simpa using h)), (fun h => F7 (by simpa using h)), (fun h => F8 (by simpa using h)), (fun h => F9 (by simpa using h)), (fun _ => rfl), (fun h => F11 (by simpa using h)), (fun h => F12 (by simpa using h)), (fun h => F13 (by simpa using h)), (fun h => ⟨(F14 (by simpa using h)).1, hMD _ _ (F14 (by simpa using h)).2⟩), (fun h => ⟨(by simp [(F15 (by simpa using h)).1]), (F15 (by simpa using h)).2⟩), (fun h => ⟨(by simp [(F16 (by simpa using h)).1]), (F16 (by simpa using h)).2⟩), (fun h => ⟨(by simp [(F17 (by simpa using h)).1]), (F17 (by simpa using h)).2⟩), (fun h => by obtain ⟨xb, cs, e, h1, h2, h3, hb, h4⟩ := F18 (by simpa using h); exact ⟨xb, cs, e, h1, h2, h3, hMB _ _ _ (by omega) hb, fun h => ⟨(by simp [(h4 (by simpa using h)).1]), (h4 (by simpa using h)).2⟩⟩), (fun h => by simp [F19 (by simpa using h)]), (fun h => ⟨(by simp [(F20 (by simpa using h)).1]), (F20 (by simpa using h)).2⟩)⟩
            · obtain rfl := F10 (by simp [hdep])
              have G0 := Lib.hid F0
              have G1 := Lib.hid F1
              have G2 := Lib.hid F2
              have G3 := Lib.hid F3
              have G4 := Lib.hid F4
              have G5 := Lib.hid F5
              have G6 := Lib.hid F6
              have G7 := Lib.hid F7
              have G8 := Lib.hid F8
              have G9 := Lib.hid F9
              have G10 := Lib.hid F10
              have G11 := Lib.hid F11
              have G12 := Lib.hid F12
              have G13 := Lib.hid F13
              have G14 := Lib.hid F14
              have G15 := Lib.hid F15
              have G16 := Lib.hid F16
              have G17 := Lib.hid F17
              have G18 := Lib.hid F18
              have G19 := Lib.hid F19
              have G20 := Lib.hid F20
              clear F0 F1 F2 F3 F4 F5 F6 F7 F8 F9 F10 F11 F12 F13 F14 F15 F16 F17 F18 F19 F20
              go_simp
              have hMB : ∀ b t cs, g < b → Blk W b t cs → Blk W b t cs := fun _ _ _ _ h => h
              have hMD : ∀ u b, DoR w.heap.size yn bn bs W u b → DoR w.heap.size yn bn bs W u b := fun _ _ h => h
              have F0 := G0.out
              have F1 := G1.out
              have F2 := G2.out
              have F3 := G3.out
              have F4 := G4.out
              have F5 := G5.out
              have F6 := G6.out
              have F7 := G7.out
              have F8 := G8.out
              have F9 := G9.out
              have F10 := G10.out
              have F11 := G11.out
              have F12 := G12.out
              have F13 := G13.out
              have F14 := G14.out
              have F15 := G15.out
              have F16 := G16.out
              have F17 := G17.out
              have F18 := G18.out
              have F19 := G19.out
              have F20 := G20.out
              refine hK _ _ ?_
              refine ⟨v49, v50, v51, v52, v53, v54, v55, v56, v57, v58, (.slice YB yn yd), (.int .i64 yn), v61, v62, v63, v48, v64, v65, v8, v9, u, b, (by simp only [puts, Act.put, List.setIfInBounds_toArray, List.set_cons_succ, List.set_cons_zero] <;> rfl), ⟨q', (by simpa using hq'), HT⟩, (fun h => F0 (by simpa using h)), (fun h => F1 (by simpa using h)), (fun h => F2 (by simpa using h)), (fun h => F3 (by simpa using h)), (fun h => F4 (by simpa using h)), (fun h => F5 (by simpa using h)), (fun h => F6 (by simpa using h)), (fun h => F7 (by simpa using h)), (fun h => F8 (by simpa using h)), (fun h => F9 (by simpa using h)), (fun h => F10 (by simpa using h)), (fun _ => rfl), (fun h => F12 (by simpa using h)), (fun h => F13 (by simpa using h)), (fun h => ⟨(F14 (by simpa using h)).1, hMD _ _ (F14 (by simpa using h)).2⟩), (fun h => ⟨(by simp [(F15 (by simpa using h)).1]), (F15 (by simpa using h)).2⟩), (fun h => ⟨(by simp [(F16 (by simpa using h)).1]), (F16 (by simpa using h)).2⟩), (fun h => ⟨(by simp [(F17 (by simpa using h)).1]), (F17 (by simpa using h)).2⟩), (fun h => by obtain ⟨xb, cs, e, h1, h2, h3, hb, h4⟩ := F18 (by simpa using h); exact ⟨xb, cs, e, h1, h2, h3, hMB _ _ _ (by omega) hb, fun h => ⟨(by simp [(h4 (by simpa using h)).1]), (h4 (by simpa using h)).2⟩⟩), (fun h => by simp [F19 (by simpa using h)]), (fun h => ⟨(by simp [(F20 (by simpa using h)).1]), (F20 (by simpa using h)).2⟩)⟩
            · obtain rfl := F7 (by simp [hdep])
              obtain rfl := F11 (by simp [hdep])
              have G0 := Lib.hid F0
              have G1 := Lib.hid F1
              have G2 := Lib.hid F2
              have G3 := Lib.hid F3
              have G4 := Lib.hid F4
              have G5 := Lib.hid F5
              have G6 := Lib.hid F6
              have G7 := Lib.hid F7
              have G8 := Lib.hid F8
              have G9 := Lib.hid F9
              have G10 := Lib.hid F10
              have G11 := Lib.hid F11
              have G12 := Lib.hid F12
              have G13 := Lib.hid F13
              have G14 := Lib.hid F14
              have G15 := Lib.hid F15
              have G16 := Lib.hid F16
              have G17 := Lib.hid F17
              have G18 := Lib.hid F18
              have G19 := Lib.hid F19
              have G20 := Lib.hid F20
              clear F0 F1 F2 F3 F4 F5 F6 F7 F8 F9 F10 F11 F12 F13 F14 F15 F16 F17 F18 F19 F20
              go_simp
              go_at_call 45
              refine (pick_any g q' (yn : Int) W HT.rd (by have a1 := Bool.toNat_le (D 12); omega) (by omega)).mono ?_
              rintro e W' ⟨v, rfl, _, hr', hg'⟩
              obtain ⟨csr, hbr⟩ := HT.rd.blk
              have hMB : ∀ b t cs, g < b → Blk W b t cs → Blk W' b t cs := fun b t cs hl h => h.only hg' (by omega)
              have hMD : ∀ u b, DoR w.heap.size yn bn bs W u b → DoR w.heap.size yn bn bs W' u b := fun _ _ h => h.far hbr (by decide) hg'
              (try go_simp)
              have F0 := G0.out
              have F1 := G1.out
              have F2 := G2.out
              have F3 := G3.out
              have F4 := G4.out
              have F5 := G5.out
              have F6 := G6.out
              have F7 := G7.out
              have F8 := G8.out
              have F9 := G9.out
              have F10 := G10.out
              have F11 := G11.out
              have F12 := G12.out
              have F13 := G13.out
              have F14 := G14.out
              have F15 := G15.out
              have F16 := G16.out
              have F17 := G17.out
              have F18 := G18.out
              have F19 := G19.out
              have F20 := G20.out
              refine hK _ _ ?_
              refine ⟨v49, v50, v51, v52, v53, v54, v55, (.pointer (some ⟨g, 0, none⟩)), v57, v58, v59, (.int .i64 yn), (.int .i64 v), v62, v63, v48, v64, v65, v8, v9, u, b, (by simp only [puts, Act.put, List.setIfInBounds_toArray, List.set_cons_succ, List.set_cons_zero] <;> rfl), ⟨q' + 1, (by simp [hD] at hq' ⊢; omega), HT.pick hlt htb hr' hg'⟩, (fun h => F0 (by simpa using h)), (fun h => F1 (by simpa using h)), (fun h => F2 (by simpa using h)), (fun h => F3 (by simpa using h)), (fun h => F4 (by simpa using h)), (fun h => F5 (by simpa using h)), (fun h => F6 (by simpa using h)), (fun h => F7 (by simpa using h)), (fun h => F8 (by simpa using h)), (fun h => F9 (by simpa using h)), (fun h => F10 (by simpa using h)), (fun h => F11 (by simpa using h)), (fun _ => ⟨v, rfl⟩), (fun h => F13 (by simpa using h)), (fun h => ⟨(F14 (by simpa using h)).1, hMD _ _ (F14 (by simpa using h)).2⟩), (fun h => ⟨(by simp [(F15 (by simpa using h)).1]), (F15 (by simpa using h)).2⟩), (fun h => ⟨(by simp [(F16 (by simpa using h)).1]), (F16 (by simpa using h)).2⟩), (fun h => ⟨(by simp [(F17 (by simpa using h)).1]), (F17 (by simpa using h)).2⟩), (fun h => by obtain ⟨xb, cs, e, h1, h2, h3, hb, h4⟩ := F18 (by simpa using h); exact ⟨xb, cs, e, h1, h2, h3, hMB _ _ _ (by omega) hb, fun h => ⟨(by simp [(h4 (by simpa using h)).1]), (h4 (by simpa using h)).2⟩⟩), (fun h => by simp [F19 (by simpa using h)]), (fun h => ⟨(by simp [(F20 (by simpa using h)).1]), (F20 (by simpa using h)).2⟩)⟩
            · obtain ⟨z, rfl⟩ := F6 (by simp [hdep])
              obtain ⟨z2, rfl⟩ := F12 (by simp [hdep])
              have G0 := Lib.hid F0
              have G1 := Lib.hid F1
              have G2 := Lib.hid F2
              have G3 := Lib.hid F3
              have G4 := Lib.hid F4
              have G5 := Lib.hid F5
              have G6 := Lib.hid F6
              have G7 := Lib.hid F7
              have G8 := Lib.hid F8
              have G9 := Lib.hid F9
              have G10 := Lib.hid F10
              have G11 := Lib.hid F11
              have G12 := Lib.hid F12
              have G13 := Lib.hid F13
              have G14 := Lib.hid F14
              have G15 := Lib.hid F15
              have G16 := Lib.hid F16
              have G17 := Lib.hid F17
              have G18 := Lib.hid F18
              have G19 := Lib.hid F19
              have G20 := Lib.hid F20
              clear F0 F1 F2 F3 F4 F5 F6 F7 F8 F9 F10 F11 F12 F13 F14 F15 F16 F17 F18 F19 F20
              go_simp
              have hMB : ∀ b t cs, g < b → Blk W b t cs → Blk W b t cs := fun _ _ _ _ h => h
              have hMD : ∀ u b, DoR w.heap.size yn bn bs W u b → DoR w.heap.size yn bn bs W u b := fun _ _ h => h
              have F0 := G0.out
              have F1 := G1.out
              have F2 := G2.out
              have F3 := G3.out
              have F4 := G4.out
              have F5 := G5.out
              have F6 := G6.out
              have F7 := G7.out
              have F8 := G8.out
              have F9 := G9.out
              have F10 := G10.out
              have F11 := G11.out
              have F12 := G12.out
              have F13 := G13.out
              have F14 := G14.out
              have F15 := G15.out
              have F16 := G16.out
              have F17 := G17.out
              have F18 := G18.out
              have F19 := G19.out
              have F20 := G20.out
              refine hK _ _ ?_
              refine ⟨v49, v50, v51, v52, v53, v54, (.int .i64 z), v56, v57, v58, v59, v60, (.int .i64 z2), _, v63, v48, v64, v65, v8, v9, u, b, (by simp only [puts, Act.put, List.setIfInBounds_toArray, List.set_cons_succ, List.set_cons_zero] <;> rfl), ⟨q', (by simpa using hq'), HT⟩, (fun h => F0 (by simpa using h)), (fun h => F1 (by simpa using h)), (fun h => F2 (by simpa using h)), (fun h => F3 (by simpa using h)), (fun h => F4 (by simpa using h)), (fun h => F5 (by simpa using h)), (fun h => F6 (by simpa using h)), (fun h => F7 (by simpa using h)), (fun h => F8 (by simpa using h)), (fun h => F9 (by simpa using h)), (fun h => F10 (by simpa using h)), (fun h => F11 (by simpa using h)), (fun h => F12 (by simpa using h)), (fun _ => ⟨z, z2, rfl⟩), (fun h => ⟨(F14 (by simpa using h)).1, hMD _ _ (F14 (by simpa using h)).2⟩), (fun h => ⟨(by simp [(F15 (by simpa using h)).1]), (F15 (by simpa using h)).2⟩), (fun h => ⟨(by simp [(F16 (by simpa using h)).1]), (F16 (by simpa using h)).2⟩), (fun h => ⟨(by simp [(F17 (by simpa using h)).1]), (F17 (by simpa using h)).2⟩), (fun h => by obtain ⟨xb, cs, e, h1, h2, h3, hb, h4⟩ := F18 (by simpa using h); exact ⟨xb, cs, e, h1, h2, h3, hMB _ _ _ (by omega) hb, fun h => ⟨(by simp [(h4 (by simpa using h)).1]), (h4 (by simpa using h)).2⟩⟩), (fun h => by simp [F19 (by simpa using h)]), (fun h => ⟨(by simp [(F20 (by simpa using h)).1]), (F20 (by simpa using h)).2⟩)⟩
            · obtain rfl := F0 (by simp [hdep])
              obtain ⟨z, z2, rfl⟩ := F13 (by simp [hdep])
              have G0 := Lib.hid F0
              have G1 := Lib.hid F1
              have G2 := Lib.hid F2
              have G3 := Lib.hid F3
              have G4 := Lib.hid F4
              have G5 := Lib.hid F5
              have G6 := Lib.hid F6
              have G7 := Lib.hid F7
              have G8 := Lib.hid F8
              have G9 := Lib.hid F9
              have G10 := Lib.hid F10
              have G11 := Lib.hid F11
              have G12 := Lib.hid F12
              have G13 := Lib.hid F13
              have G14 := Lib.hid F14
              have G15 := Lib.hid F15
              have G16 := Lib.hid F16
              have G17 := Lib.hid F17
              have G18 := Lib.hid F18
              have G19 := Lib.hid F19
              have G20 := Lib.hid F20
              clear F0 F1 F2 F3 F4 F5 F6 F7 F8 F9 F10 F11 F12 F13 F14 F15 F16 F17 F18 F19 F20
              go_simp
              go_at_call 53
              have hTD := specTermDo high ⟨y0, y1, y2⟩ YB (some ⟨bb, oo, none⟩) PB HB LB yn yd bn bd pn pd hn hd ln ld rows bs plan hs ls 0 z 0 z2 W (HT.rdT HL.out) HT.cap
              dsimp only at hTD
              refine hTD.mono ?_
              rintro e W' hpost
              obtain ⟨u', b', rfl, hdo, hbel⟩ := DoR.of (s := w.heap.size) hpost HT.gr.size
              have hMB : ∀ b t cs, g < b → Blk W b t cs → Blk W' b t cs := fun b t cs _ h => h.later hbel
              (try go_simp)
              have F0 := G0.out
              have F1 := G1.out
              have F2 := G2.out
              have F3 := G3.out
              have F4 := G4.out
              have F5 := G5.out
              have F6 := G6.out
              have F7 := G7.out
              have F8 := G8.out
              have F9 := G9.out
              have F10 := G10.out
              have F11 := G11.out
              have F12 := G12.out
              have F13 := G13.out
              have F14 := G14.out
              have F15 := G15.out
              have F16 := G16.out
              have F17 := G17.out
              have F18 := G18.out
              have F19 := G19.out
              have F20 := G20.out
              refine hK _ _ ?_
              refine ⟨(.agg #[.int .i64 high, .slice YB yn yd, .int .i64 y0, .int .i64 y1, .int .i64 y2, .slice (some ⟨bb, oo, none⟩) bn bd, .slice PB pn pd, .slice HB hn hd, .slice LB ln ld]), v50, v51, v52, v53, v54, v55, v56, v57, v58, v59, v60, v61, (.agg #[.int .i64 0, .int .i64 z, .int .i64 0, .int .i64 z2]), (.tuple #[u', .bool b']), v48, v64, v65, v8, v9, u', b', (by simp only [puts, Act.put, List.setIfInBounds_toArray, List.set_cons_succ, List.set_cons_zero] <;> rfl), ⟨q', (by simpa using hq'), HT.below hbel⟩, (fun h => F0 (by simpa using h)), (fun h => F1 (by simpa using h)), (fun h => F2 (by simpa using h)), (fun h => F3 (by simpa using h)), (fun h => F4 (by simpa using h)), (fun h => F5 (by simpa using h)), (fun h => F6 (by simpa using h)), (fun h => F7 (by simpa using h)), (fun h => F8 (by simpa using h)), (fun h => F9 (by simpa using h)), (fun h => F10 (by simpa using h)), (fun h => F11 (by simpa using h)), (fun h => F12 (by simpa using h)), (fun h => F13 (by simpa using h)), (fun _ => ⟨rfl, hdo⟩), (fun h => absurd (F15 (by simpa using h)).1 (by simp [hD])), (fun h => absurd (F16 (by simpa using h)).1 (by simp [hD])), (fun h => absurd (F17 (by simpa using h)).1 (by simp [hD])), (fun h => by obtain ⟨xb, cs, e, h1, h2, h3, hb, h4⟩ := F18 (by simpa using h); exact ⟨xb, cs, e, h1, h2, h3, hMB _ _ _ (by omega) hb, fun h => absurd (h4 (by simpa using h)).1 (by simp [hD])⟩), (fun h => by simp [F19 (by simpa using h)]), (fun h => absurd (F20 (by simpa using h)).1 (by simp [hD]))⟩
            · obtain ⟨rfl, hdo⟩ := F14 (by simp [hdep])
              have G0 := Lib.hid F0
              have G1 := Lib.hid F1
              have G2 := Lib.hid F2
              have G3 := Lib.hid F3
              have G4 := Lib.hid F4
              have G5 := Lib.hid F5
              have G6 := Lib.hid F6
              have G7 := Lib.hid F7
              have G8 := Lib.hid F8
              have G9 := Lib.hid F9
              have G10 := Lib.hid F10
              have G11 := Lib.hid F11
              have G12 := Lib.hid F12
              have G13 := Lib.hid F13
              have G14 := Lib.hid F14
              have G15 := Lib.hid F15
              have G16 := Lib.hid F16
              have G17 := Lib.hid F17
              have G18 := Lib.hid F18
              have G19 := Lib.hid F19
              have G20 := Lib.hid F20
              clear F0 F1 F2 F3 F4 F5 F6 F7 F8 F9 F10 F11 F12 F13 F14 F15 F16 F17 F18 F19 F20
              go_simp
              have hMB : ∀ b t cs, g < b → Blk W b t cs → Blk W b t cs := fun _ _ _ _ h => h
              have hMD : ∀ u b, DoR w.heap.size yn bn bs W u b → DoR w.heap.size yn bn bs W u b := fun _ _ h => h
              have F0 := G0.out
              have F1 := G1.out
              have F2 := G2.out
              have F3 := G3.out
              have F4 := G4.out
              have F5 := G5.out
              have F6 := G6.out
              have F7 := G7.out
              have F8 := G8.out
              have F9 := G9.out
              have F10 := G10.out
              have F11 := G11.out
              have F12 := G12.out
              have F13 := G13.out
              have F14 := G14.out
              have F15 := G15.out
              have F16 := G16.out
              have F17 := G17.out
              have F18 := G18.out
              have F19 := G19.out
              have F20 := G20.out
              refine hK _ _ ?_
              refine ⟨v49, v50, v51, v52, v53, v54, v55, v56, v57, v58, v59, v60, v61, v62, (.tuple #[u, .bool b]), (.tuple #[u, .bool b]), v64, v65, v8, v9, u, b, (by simp only [puts, Act.put, List.setIfInBounds_toArray, List.set_cons_succ, List.set_cons_zero] <;> rfl), ⟨q', (by simpa using hq'), HT⟩, (fun h => F0 (by simpa using h)), (fun h => F1 (by simpa using h)), (fun h => F2 (by simpa using h)), (fun h => F3 (by simpa using h)), (fun h => F4 (by simpa using h)), (fun h => F5 (by simpa using h)), (fun h => F6 (by simpa using h)), (fun h => F7 (by simpa using h)), (fun h => F8 (by simpa using h)), (fun h => F9 (by simpa using h)), (fun h => F10 (by simpa using h)), (fun h => F11 (by simpa using h)), (fun h => F12 (by simpa using h)), (fun h => F13 (by simpa using h)), (fun h => ⟨rfl, hdo⟩), (fun _ => ⟨by simp [hdep], rfl⟩), (fun h => ⟨(by simp [(F16 (by simpa using h)).1]), (F16 (by simpa using h)).2⟩), (fun h => ⟨(by simp [(F17 (by simpa using h)).1]), (F17 (by simpa using h)).2⟩), (fun h => by obtain ⟨xb, cs, e, h1, h2, h3, hb, h4⟩ := F18 (by simpa using h); exact ⟨xb, cs, e, h1, h2, h3, hMB _ _ _ (by omega) hb, fun h => ⟨(by simp [(h4 (by simpa using h)).1]), (h4 (by simpa using h)).2⟩⟩), (fun h => by simp [F19 (by simpa using h)]), (fun h => ⟨(by simp [(F20 (by simpa using h)).1]), (F20 (by simpa using h)).2⟩)⟩
            · obtain ⟨d14, rfl⟩ := F15 (by simp [hdep])
              have G0 := Lib.hid F0
              have G1 := Lib.hid F1
              have G2 := Lib.hid F2
              have G3 := Lib.hid F3
              have G4 := Lib.hid F4
              have G5 := Lib.hid F5
              have G6 := Lib.hid F6
              have G7 := Lib.hid F7
              have G8 := Lib.hid F8
              have G9 := Lib.hid F9
              have G10 := Lib.hid F10
              have G11 := Lib.hid F11
              have G12 := Lib.hid F12
              have G13 := Lib.hid F13
              have G14 := Lib.hid F14
              have G15 := Lib.hid F15
              have G16 := Lib.hid F16
              have G17 := Lib.hid F17
              have G18 := Lib.hid F18
              have G19 := Lib.hid F19
              have G20 := Lib.hid F20
              clear F0 F1 F2 F3 F4 F5 F6 F7 F8 F9 F10 F11 F12 F13 F14 F15 F16 F17 F18 F19 F20
              go_simp
              have hMB : ∀ b t cs, g < b → Blk W b t cs → Blk W b t cs := fun _ _ _ _ h => h
              have hMD : ∀ u b, DoR w.heap.size yn bn bs W u b → DoR w.heap.size yn bn bs W u b := fun _ _ h => h
              have F0 := G0.out
              have F1 := G1.out
              have F2 := G2.out
              have F3 := G3.out
              have F4 := G4.out
              have F5 := G5.out
              have F6 := G6.out
              have F7 := G7.out
              have F8 := G8.out
              have F9 := G9.out
              have F10 := G10.out
              have F11 := G11.out
              have F12 := G12.out
              have F13 := G13.out
              have F14 := G14.out
              have F15 := G15.out
              have F16 := G16.out
              have F17 := G17.out
              have F18 := G18.out
              have F19 := G19.out
              have F20 := G20.out
              refine hK _ _ ?_
              refine ⟨v49, v50, v51, v52, v53, v54, v55, v56, v57, v58, v59, v60, v61, v62, v63, (.tuple #[u, .bool b]), u, v65, v8, v9, u, b, (by simp only [puts, Act.put, List.setIfInBounds_toArray, List.set_cons_succ, List.set_cons_zero] <;> rfl), ⟨q', (by simpa using hq'), HT⟩, (fun h => F0 (by simpa using h)), (fun h => F1 (by simpa using h)), (fun h => F2 (by simpa using h)), (fun h => F3 (by simpa using h)), (fun h => F4 (by simpa using h)), (fun h => F5 (by simpa using h)), (fun h => F6 (by simpa using h)), (fun h => F7 (by simpa using h)), (fun h => F8 (by simpa using h)), (fun h => F9 (by simpa using h)), (fun h => F10 (by simpa using h)), (fun h => F11 (by simpa using h)), (fun h => F12 (by simpa using h)), (fun h => F13 (by simpa using h)), (fun h => ⟨(F14 (by simpa using h)).1, hMD _ _ (F14 (by simpa using h)).2⟩), (fun h => ⟨(by simp [(F15 (by simpa using h)).1]), (F15 (by simpa using h)).2⟩), (fun _ => ⟨by simp [d14], rfl⟩), (fun h => ⟨(by simp [(F17 (by simpa using h)).1]), (F17 (by simpa using h)).2⟩), (fun h => by obtain ⟨xb, cs, e, h1, h2, h3, hb, h4⟩ := F18 (by simpa using h); exact ⟨xb, cs, e, h1, h2, h3, hMB _ _ _ (by omega) hb, fun h => ⟨(by simp [(h4 (by simpa using h)).1]), (h4 (by simpa using h)).2⟩⟩), (fun h => by simp [F19 (by simpa using h)]), (fun h => ⟨(by simp [(F20 (by simpa using h)).1]), (F20 (by simpa using h)).2⟩)⟩
            · obtain ⟨d14, rfl⟩ := F15 (by simp [hdep])
              have G0 := Lib.hid F0
              have G1 := Lib.hid F1
              have G2 := Lib.hid F2
              have G3 := Lib.hid F3
              have G4 := Lib.hid F4
              have G5 := Lib.hid F5
              have G6 := Lib.hid F6
              have G7 := Lib.hid F7
              have G8 := Lib.hid F8
              have G9 := Lib.hid F9
              have G10 := Lib.hid F10
              have G11 := Lib.hid F11
              have G12 := Lib.hid F12
              have G13 := Lib.hid F13
              have G14 := Lib.hid F14
              have G15 := Lib.hid F15
              have G16 := Lib.hid F16
              have G17 := Lib.hid F17
              have G18 := Lib.hid F18
              have G19 := Lib.hid F19
              have G20 := Lib.hid F20
              clear F0 F1 F2 F3 F4 F5 F6 F7 F8 F9 F10 F11 F12 F13 F14 F15 F16 F17 F18 F19 F20
              go_simp
              have hMB : ∀ b t cs, g < b → Blk W b t cs → Blk W b t cs := fun _ _ _ _ h => h
              have hMD : ∀ u b, DoR w.heap.size yn bn bs W u b → DoR w.heap.size yn bn bs W u b := fun _ _ h => h
              have F0 := G0.out
              have F1 := G1.out
              have F2 := G2.out
              have F3 := G3.out
              have F4 := G4.out
              have F5 := G5.out
              have F6 := G6.out
              have F7 := G7.out
              have F8 := G8.out
              have F9 := G9.out
              have F10 := G10.out
              have F11 := G11.out
              have F12 := G12.out
              have F13 := G13.out
              have F14 := G14.out
              have F15 := G15.out
              have F16 := G16.out
              have F17 := G17.out
              have F18 := G18.out
              have F19 := G19.out
              have F20 := G20.out
              refine hK _ _ ?_
              refine ⟨v49, v50, v51, v52, v53, v54, v55, v56, v57, v58, v59, v60, v61, v62, v63, (.tuple #[u, .bool b]), v64, (.bool b), v8, v9, u, b, (by simp only [puts, Act.put, List.setIfInBounds_toArray, List.set_cons_succ, List.set_cons_zero] <;> rfl), ⟨q', (by simpa using hq'), HT⟩, (fun h => F0 (by simpa using h)), (fun h => F1 (by simpa using h)), (fun h => F2 (by simpa using h)), (fun h => F3 (by simpa using h)), (fun h => F4 (by simpa using h)), (fun h => F5 (by simpa using h)), (fun h => F6 (by simpa using h)), (fun h => F7 (by simpa using h)), (fun h => F8 (by simpa using h)), (fun h => F9 (by simpa using h)), (fun h => F10 (by simpa using h)), (fun h => F11 (by simpa using h)), (fun h => F12 (by simpa using h)), (fun h => F13 (by simpa using h)), (fun h => ⟨(F14 (by simpa using h)).1, hMD _ _ (F14 (by simpa using h)).2⟩), (fun h => ⟨(by simp [(F15 (by simpa using h)).1]), (F15 (by simpa using h)).2⟩), (fun h => ⟨(by simp [(F16 (by simpa using h)).1]), (F16 (by simpa using h)).2⟩), (fun _ => ⟨by simp [d14], rfl⟩), (fun h => by obtain ⟨xb, cs, e, h1, h2, h3, hb, h4⟩ := F18 (by simpa using h); exact ⟨xb, cs, e, h1, h2, h3, hMB _ _ _ (by omega) hb, fun h => ⟨(by simp [(h4 (by simpa using h)).1]), (h4 (by simpa using h)).2⟩⟩), (fun h => by simp [F19 (by simpa using h)]), (fun h => ⟨(by simp [(F20 (by simpa using h)).1]), (F20 (by simpa using h)).2⟩)⟩
            · have G0 := Lib.hid F0
              have G1 := Lib.hid F1
              have G2 := Lib.hid F2
              have G3 := Lib.hid F3
              have G4 := Lib.hid F4
              have G5 := Lib.hid F5
              have G6 := Lib.hid F6
              have G7 := Lib.hid F7
              have G8 := Lib.hid F8
              have G9 := Lib.hid F9
              have G10 := Lib.hid F10
              have G11 := Lib.hid F11
              have G12 := Lib.hid F12
              have G13 := Lib.hid F13
              have G14 := Lib.hid F14
              have G15 := Lib.hid F15
              have G16 := Lib.hid F16
              have G17 := Lib.hid F17
              have G18 := Lib.hid F18
              have G19 := Lib.hid F19
              have G20 := Lib.hid F20
              clear F0 F1 F2 F3 F4 F5 F6 F7 F8 F9 F10 F11 F12 F13 F14 F15 F16 F17 F18 F19 F20
              go_simp
              have hal : Below W.heap.size W (W.alloc (.cells #[.int .i64 0, .slice none 0 0, .int .i64 0, .int .i64 0, .int .i64 0, .slice none 0 0, .slice none 0 0, .slice none 0 0, .slice none 0 0] 34)) := (Below.refl _ _).alloc (Nat.le_refl _) _
              have hMB : ∀ b t cs, g < b → Blk W b t cs → Blk (W.alloc (.cells #[.int .i64 0, .slice none 0 0, .int .i64 0, .int .i64 0, .int .i64 0, .slice none 0 0, .slice none 0 0, .slice none 0 0, .slice none 0 0] 34)) b t cs := fun b t cs _ h => h.later hal
              have hMD : ∀ u b, DoR w.heap.size yn bn bs W u b → DoR w.heap.size yn bn bs (W.alloc (.cells #[.int .i64 0, .slice none 0 0, .int .i64 0, .int .i64 0, .int .i64 0, .slice none 0 0, .slice none 0 0, .slice none 0 0, .slice none 0 0] 34)) u b := fun _ _ h => h.below hal
              have hlr := HT.rb.lt
              have hlt' := HT.tbk.lt
              have F0 := G0.out
              have F1 := G1.out
              have F2 := G2.out
              have F3 := G3.out
              have F4 := G4.out
              have F5 := G5.out
              have F6 := G6.out
              have F7 := G7.out
              have F8 := G8.out
              have F9 := G9.out
              have F10 := G10.out
              have F11 := G11.out
              have F12 := G12.out
              have F13 := G13.out
              have F14 := G14.out
              have F15 := G15.out
              have F16 := G16.out
              have F17 := G17.out
              have F18 := G18.out
              have F19 := G19.out
              have F20 := G20.out
              refine hK _ _ ?_
              refine ⟨v49, v50, v51, v52, v53, v54, v55, v56, v57, v58, v59, v60, v61, v62, v63, v48, v64, v65, (.pointer (some ⟨W.heap.size, 0, none⟩)), v9, u, b, (by simp only [puts, Act.put, List.setIfInBounds_toArray, List.set_cons_succ, List.set_cons_zero] <;> rfl), ⟨q', (by simpa using hq'), HT.below hal⟩, (fun h => F0 (by simpa using h)), (fun h => F1 (by simpa using h)), (fun h => F2 (by simpa using h)), (fun h => F3 (by simpa using h)), (fun h => F4 (by simpa using h)), (fun h => F5 (by simpa using h)), (fun h => F6 (by simpa using h)), (fun h => F7 (by simpa using h)), (fun h => F8 (by simpa using h)), (fun h => F9 (by simpa using h)), (fun h => F10 (by simpa using h)), (fun h => F11 (by simpa using h)), (fun h => F12 (by simpa using h)), (fun h => F13 (by simpa using h)), (fun h => ⟨(F14 (by simpa using h)).1, hMD _ _ (F14 (by simpa using h)).2⟩), (fun h => ⟨(by simp [(F15 (by simpa using h)).1]), (F15 (by simpa using h)).2⟩), (fun h => ⟨(by simp [(F16 (by simpa using h)).1]), (F16 (by simpa using h)).2⟩), (fun h => ⟨(by simp [(F17 (by simpa using h)).1]), (F17 (by simpa using h)).2⟩), (fun _ => ⟨W.heap.size, [.int .i64 0, .slice none 0 0, .int .i64 0, .int .i64 0, .int .i64 0, .slice none 0 0, .slice none 0 0, .slice none 0 0, .slice none 0 0], rfl, by omega, by omega, rfl, Blk.new _ _ _, fun h => absurd (F19 (by simpa using h)) (by simp [hD])⟩), (fun h => absurd (F19 (by simpa using h)) (by simp [hD])), (fun h => ⟨(by simp [(F20 (by simpa using h)).1]), (F20 (by simpa using h)).2⟩)⟩
            · obtain ⟨xb, cs, rfl, h1, h2, h3, hb, _⟩ := F18 (by simp [hdep])
              obtain ⟨d14, e64⟩ := F16 (by simp [hdep])
              have e64' := e64.symm
              clear e64
              subst e64'
              obtain ⟨e63, hdo⟩ := F14 d14
              have hdo' := hdo
              obtain ⟨high', u0, u1, u2, XB, xn, xd, EB, en, ed, QB, qn, qd, GB, gn, gd, JB, jn, jd, eu, _⟩ := hdo'
              rw [if_pos (show Region.wanted _ _ = true from rfl)]
              obtain ⟨hz, ho⟩ := blk_stored (cells := [.int .i64 high', .slice XB xn xd, .int .i64 u0, .int .i64 u1, .int .i64 u2, .slice EB en ed, .slice QB qn qd, .slice GB gn gd, .slice JB jn jd]) hb h3
              have hthere := blk_there hb h3
              refine wp_store_mid 34 (.tmp 8) (.tmp 64) rfl xb 0 [.int .i64 high', .slice XB xn xd, .int .i64 u0, .int .i64 u1, .int .i64 u2, .slice EB en ed, .slice QB qn qd, .slice GB gn gd, .slice JB jn jd].toArray ?_ ?_ (by simpa using hthere) (by kernel_rfl) (by simp [Value.oneCell']) ?_
              · rfl
              · exact eu
              revert hz ho
              simp only [List.toList_toArray]
              generalize W.setCells xb 0 [.int .i64 high', .slice XB xn xd, .int .i64 u0, .int .i64 u1, .int .i64 u2, .slice EB en ed, .slice QB qn qd, .slice GB gn gd, .slice JB jn jd] = w'
              intro hz ho
              have hgx := out_grown ho
              have hMD : ∀ u b, DoR w.heap.size yn bn bs W u b → DoR w.heap.size yn bn bs w' u b := fun _ _ h => h.far hb (by decide) hgx
              refine hK _ _ ?_
              refine ⟨v49, v50, v51, v52, v53, v54, v55, v56, v57, v58, v59, v60, v61, v62, v63, v48, u, v65, (.pointer (some ⟨xb, 0, none⟩)), v9, u, b, (by simp only [puts, Act.put, List.setIfInBounds_toArray, List.set_cons_succ, List.set_cons_zero] <;> rfl), ⟨q', (by simpa using hq'), HT.setX hlt hb h1 h2 ho⟩, (fun h => F0 (by simpa using h)), (fun h => F1 (by simpa using h)), (fun h => F2 (by simpa using h)), (fun h => F3 (by simpa using h)), (fun h => F4 (by simpa using h)), (fun h => F5 (by simpa using h)), (fun h => F6 (by simpa using h)), (fun h => F7 (by simpa using h)), (fun h => F8 (by simpa using h)), (fun h => F9 (by simpa using h)), (fun h => F10 (by simpa using h)), (fun h => F11 (by simpa using h)), (fun h => F12 (by simpa using h)), (fun h => F13 (by simpa using h)), (fun h => ⟨(F14 (by simpa using h)).1, hMD _ _ (F14 (by simpa using h)).2⟩), (fun h => ⟨(by simp [(F15 (by simpa using h)).1]), (F15 (by simpa using h)).2⟩), (fun h => ⟨(by simp [(F16 (by simpa using h)).1]), (F16 (by simpa using h)).2⟩), (fun h => ⟨(by simp [(F17 (by simpa using h)).1]), (F17 (by simpa using h)).2⟩), (fun _ => ⟨xb, _, rfl, h1, h2, by rfl, hz, fun _ => ⟨by simp [d14], eu⟩⟩), (fun _ => by simp [hdep]), (fun h => ⟨(by simp [(F20 (by simpa using h)).1]), (F20 (by simpa using h)).2⟩)⟩
            · obtain ⟨d14, rfl⟩ := F17 (by simp [hdep])
              have G0 := Lib.hid F0
              have G1 := Lib.hid F1
              have G2 := Lib.hid F2
              have G3 := Lib.hid F3
              have G4 := Lib.hid F4
              have G5 := Lib.hid F5
              have G6 := Lib.hid F6
              have G7 := Lib.hid F7
              have G8 := Lib.hid F8
              have G9 := Lib.hid F9
              have G10 := Lib.hid F10
              have G11 := Lib.hid F11
              have G12 := Lib.hid F12
              have G13 := Lib.hid F13
              have G14 := Lib.hid F14
              have G15 := Lib.hid F15
              have G16 := Lib.hid F16
              have G17 := Lib.hid F17
              have G18 := Lib.hid F18
              have G19 := Lib.hid F19
              have G20 := Lib.hid F20
              clear F0 F1 F2 F3 F4 F5 F6 F7 F8 F9 F10 F11 F12 F13 F14 F15 F16 F17 F18 F19 F20
              go_simp
              have hMB : ∀ b t cs, g < b → Blk W b t cs → Blk W b t cs := fun _ _ _ _ h => h
              have hMD : ∀ u b, DoR w.heap.size yn bn bs W u b → DoR w.heap.size yn bn bs W u b := fun _ _ h => h
              have F0 := G0.out
              have F1 := G1.out
              have F2 := G2.out
              have F3 := G3.out
              have F4 := G4.out
              have F5 := G5.out
              have F6 := G6.out
              have F7 := G7.out
              have F8 := G8.out
              have F9 := G9.out
              have F10 := G10.out
              have F11 := G11.out
              have F12 := G12.out
              have F13 := G13.out
              have F14 := G14.out
              have F15 := G15.out
              have F16 := G16.out
              have F17 := G17.out
              have F18 := G18.out
              have F19 := G19.out
              have F20 := G20.out
              refine hK _ _ ?_
              refine ⟨v49, v50, v51, v52, v53, v54, v55, v56, v57, v58, v59, v60, v61, v62, v63, v48, v64, (.bool b), v8, (.bool b), u, b, (by simp only [puts, Act.put, List.setIfInBounds_toArray, List.set_cons_succ, List.set_cons_zero] <;> rfl), ⟨q', (by simpa using hq'), HT⟩, (fun h => F0 (by simpa using h)), (fun h => F1 (by simpa using h)), (fun h => F2 (by simpa using h)), (fun h => F3 (by simpa using h)), (fun h => F4 (by simpa using h)), (fun h => F5 (by simpa using h)), (fun h => F6 (by simpa using h)), (fun h => F7 (by simpa using h)), (fun h => F8 (by simpa using h)), (fun h => F9 (by simpa using h)), (fun h => F10 (by simpa using h)), (fun h => F11 (by simpa using h)), (fun h => F12 (by simpa using h)), (fun h => F13 (by simpa using h)), (fun h => ⟨(F14 (by simpa using h)).1, hMD _ _ (F14 (by simpa using h)).2⟩), (fun h => ⟨(by simp [(F15 (by simpa using h)).1]), (F15 (by simpa using h)).2⟩), (fun h => ⟨(by simp [(F16 (by simpa using h)).1]), (F16 (by simpa using h)).2⟩), (fun h => ⟨(by simp [(F17 (by simpa using h)).1]), (F17 (by simpa using h)).2⟩), (fun h => by obtain ⟨xb, cs, e, h1, h2, h3, hb, h4⟩ := F18 (by simpa using h); exact ⟨xb, cs, e, h1, h2, h3, hMB _ _ _ (by omega) hb, fun h => ⟨(by simp [(h4 (by simpa using h)).1]), (h4 (by simpa using h)).2⟩⟩), (fun h => by simp [F19 (by simpa using h)]), (fun _ => ⟨by simp [d14], rfl⟩)⟩
          · rintro D a W hall ⟨v49, v50, v51, v52, v53, v54, v55, v56, v57, v58, v59, v60, v61, v62, v63, v48, v64, v65, v8, v9, u, b, rfl, ⟨q', hq', HT⟩, F0, F1, F2, F3, F4, F5, F6, F7, F8, F9, F10, F11, F12, F13, F14, F15, F16, F17, F18, F19, F20⟩
            obtain ⟨xb, cs, rfl, hx1, hx2, hx3, hxb, hx4⟩ := F18 (hall 18 (by simp))
            obtain ⟨_, rfl⟩ := F20 (hall 20 (by simp))
            obtain ⟨_, eu⟩ := hx4 (hall 19 (by simp))
            obtain ⟨_, hdo⟩ := F14 (hall 14 (by simp))
            have hqq : q' ≤ q2 + 1 := by have a1 := Bool.toNat_le (D 12); omega
            clear hq' hx4 hall F0 F1 F2 F3 F4 F5 F6 F7 F8 F9 F10 F11 F12 F13 F14 F15 F16 F17 F18 F19 F20
            simp only [puts, Act.put, List.setIfInBounds_toArray, List.set_cons_succ, List.set_cons_zero]
            cases b
            · go_wp2_with fail
              go_roundw
              case rel => exact ⟨k + 1, q', high, y0, y1, y2, YB, yd, some ⟨bb, oo, none⟩, bd, PB, pn, pd, HB, hn, hd, LB, ln, ld, rows, plan, hs, ls, by go_num, ⟨by omega, by omega⟩, HL, HT⟩
              case measure => simp [intOf]; omega
            · go_wp2_with fail
              obtain ⟨high', u0, u1, u2, XB, xn, xd, EB, en, ed, QB, qn, qd, GB, gn, gd, JB, jn, jd, rfl, hres⟩ := hdo
              obtain ⟨rows', plan', hs', ls', hti, hlow, e1, e2⟩ := hres rfl
              subst e1 e2
              have ecs : cs = [.int .i64 high', .slice XB xn xd, .int .i64 u0, .int .i64 u1, .int .i64 u2, .slice EB en ed, .slice QB qn qd, .slice GB gn gd, .slice JB jn jd] := by
                have := eu
                injection this with this
                have := congrArg Array.toList this
                simpa using this.symm
              subst ecs
              have HLW := Lib.hid hlow
              clear eu hx3 hlow hres
              obtain ⟨csr, hbr⟩ := HT.rd.blk
              refine (pick_any g q' 5 W HT.rd (by omega) (by omega)).mono ?_
              rintro e W2 ⟨v5, rfl, ⟨v50, _, _⟩, hr2, hg2⟩
              have HT2 := Lib.hid (HT.pick hlt htb hr2 hg2)
              have HI2 := Lib.hid (hti.far hbr (by decide) hg2)
              have HX2 := Lib.hid (hxb.only hg2 (by omega))
              clear HT hti hxb hbr hg2 hr2
              by_cases h5 : 0 < v5
              · have HTB := HT2.out.tbk
                have x0 := (HX2.out).cellAt 0 (by simp)
                have x1 := (HX2.out).cellAt 1 (by simp)
                have x2 := (HX2.out).cellAt 2 (by simp)
                have x3 := (HX2.out).cellAt 3 (by simp)
                have x4 := (HX2.out).cellAt 4 (by simp)
                have x5 := (HX2.out).cellAt 5 (by simp)
                have x6 := (HX2.out).cellAt 6 (by simp)
                have x7 := (HX2.out).cellAt 7 (by simp)
                have x8 := (HX2.out).cellAt 8 (by simp)
                simp only [List.getElem_cons_zero, List.getElem_cons_succ] at x0 x1 x2 x3 x4 x5 x6 x7 x8
                go_wp2_with (first | (refine wpList_store_blk rfl 34 (.tmp 5) (.tmp 72) rfl tb 34 [.int .i64 high, .slice YB xn yd, .int .i64 y0, .int .i64 y1, .int .i64 y2, .slice (some ⟨bb, oo, none⟩) en bd, .slice PB pn pd, .slice HB hn hd, .slice LB ln ld] [.int .i64 high', .slice XB xn xd, .int .i64 u0, .int .i64 u1, .int .i64 u2, .slice EB en ed, .slice QB qn qd, .slice GB gn gd, .slice JB jn jd] ?_ ?_ ?_ ?_ ?_ ?_ ?_; rfl; rfl; exact HTB; rfl; kernel_rfl; simp [Value.oneCell']; intro wz hz ho))

                have HN := Lib.hid (HT2.out.setT hlt htb HI2.out hz ho)
                clear hz ho x0 x1 x2 x3 x4 x5 x6 x7 x8 HTB HI2 HX2 HT2
                go_wp2_with fail
                go_roundw
                case rel => exact ⟨k + 1, q' + 1, high', u0, u1, u2, XB, xd, EB, ed, QB, qn, qd, GB, gn, gd, JB, jn, jd, rows', plan', hs', ls', by go_num, ⟨by omega, by omega⟩, HLW, HN.out⟩
                case measure => simp [intOf]; omega
              · go_wp2_with fail
                go_roundw
                case rel => exact ⟨k + 1, q' + 1, high, y0, y1, y2, YB, yd, some ⟨bb, oo, none⟩, bd, PB, pn, pd, HB, hn, hd, LB, ln, ld, rows, plan, hs, ls, by go_num, ⟨by omega, by omega⟩, HL, HT2.out⟩
                case measure => simp [intOf]; omega
        · obtain rfl : bn = k := by omega
          clear HA
          go_wp2_with fail
          refine (pick_any g q2 14 _ HAh.out.rd (by omega) (by omega)).mono ?_
          rintro e w9 ⟨k3, rfl, ⟨k30, k31, _⟩, hr9, hg9⟩
          have k32 := k31 (by omega)
          have HA9 := Lib.hid (HAh.out.pick hlt htb hr9 hg9)
          clear HAh hr9 hg9 k31 c5
          go_wp2_with fail
          go_loopw [10, 11, 12] (fun s10 _ _ wi => ∃ (k q2 : Nat) (high y0 y1 y2 : Int) (YB : Option Addr) (yd : Nat) (BB : Option Addr) (bd : Nat) (PB : Option Addr) (pn pd : Nat) (HB : Option Addr) (hn hd : Nat) (LB : Option Addr) (ln ld : Nat) (rows : List (List Int)) (plan : List Int) (hs : List HoldV) (ls : List Int), s10 = .int .i64 k ∧ (k ≤ 13 ∧ q2 + 20 * k ≤ q3 + 400) ∧ Hid (TLow yn bn pn hn ln rows bs plan hs ls) ∧ TmA w g tb q2 high y0 y1 y2 YB yn yd BB bn bd PB pn pd HB hn hd LB ln ld rows bs plan hs ls wi) (fun s10 _ _ _ => (intOf s10).toNat)
          case atStart =>
            obtain ⟨k', rfl⟩ := Int.eq_ofNat_of_zero_le k30
            exact ⟨k', q2 + 1, high, y0, y1, y2, YB, yd, BB, bd, PB, pn, pd, HB, hn, hd, LB, ln, ld, rows, plan, hs, ls, rfl, ⟨by omega, by omega⟩, HL, HA9.out⟩
          case round =>
            clear HL HA9 k30 k32 hq2 hp40 hh20 hl20 hkb
            obtain ⟨k, q2, high, y0, y1, y2, YB, yd, BB, bd, PB, pn, pd, HB, hn, hd, LB, ln, ld, rows, plan, hs, ls, rfl, ⟨hkb, hq2⟩, HL, HA⟩ := hrel
            have HAh := Lib.hid HA
            have hp40 := HL.out.pm
            have hh20 := HL.out.hm
            have hl20 := HL.out.lm
            clear HA
            by_cases hkn : 0 < k
            · have hki : (0 : Int) < (k : Int) := by omega
              go_upto_region 16 with fail
              refine wp_region_invJ (by kernel_rfl) (TJb w g tb q2 high y0 y1 y2 YB yn yd BB bn bd PB pn pd HB hn hd LB ln ld rows bs plan hs ls) (by kernel_rfl) ?_ ?_ ?_
              · exact ⟨u80, u81, u82, u83, u84, u79, u85, u86, u11, u12, undef, false, (by simp only [puts, Act.put, List.setIfInBounds_toArray, List.set_cons_succ, List.set_cons_zero] <;> rfl), ⟨q2, Nat.le_add_right _ _, HAh.out.drew⟩, (fun h => by cases h), (fun h => by cases h), (fun h => by cases h), (fun h => by cases h), (fun h => by cases h), (fun h => by cases h), (fun h => by cases h), (fun h => by cases h), (fun h => by cases h), (fun h => by cases h), (fun h => by cases h)⟩
              · rintro i o D a W ho hD hdep ⟨v80, v81, v82, v83, v84, v79, v85, v86, v11, v12, u, b, rfl, ⟨q', hq', HT⟩, F0, F1, F2, F3, F4, F5, F6, F7, F8, F9, F10⟩ K hK
                have hi : i < 11 := by have := (Array.getElem?_eq_some_iff.1 ho).1; simpa using this
                simp only [puts, Act.put, List.setIfInBounds_toArray, List.set_cons_succ, List.set_cons_zero]
                obtain rfl | rfl | rfl | rfl | rfl | rfl | rfl | rfl | rfl | rfl | rfl : i = 0 ∨ i = 1 ∨ i = 2 ∨ i = 3 ∨ i = 4 ∨ i = 5 ∨ i = 6 ∨ i = 7 ∨ i = 8 ∨ i = 9 ∨ i = 10 := by omega
                all_goals (simp only [List.getElem?_toArray, List.getElem?_cons_zero, List.getElem?_cons_succ, Option.some.injEq] at ho; subst ho; simp [Region.binds] at hdep)
                · have c0 := (HT.tbk).cellAt 0 (by simp)
                  have c1 := (HT.tbk).cellAt 1 (by simp)
                  have c2 := (HT.tbk).cellAt 2 (by simp)
                  have c3 := (HT.tbk).cellAt 3 (by simp)
                  have c4 := (HT.tbk).cellAt 4 (by simp)
                  have c5 := (HT.tbk).cellAt 5 (by simp)
                  have c6 := (HT.tbk).cellAt 6 (by simp)
                  have c7 := (HT.tbk).cellAt 7 (by simp)
                  have c8 := (HT.tbk).cellAt 8 (by simp)
                  simp only [List.getElem_cons_zero, List.getElem_cons_succ] at c0 c1 c2 c3 c4 c5 c6 c7 c8
                  have G0 := Lib.hid F0
                  have G1 := Lib.hid F1
                  have G2 := Lib.hid F2
                  have G3 := Lib.hid F3
                  have G4 := Lib.hid F4
                  have G5 := Lib.hid F5
                  have G6 := Lib.hid F6
                  have G7 := Lib.hid F7
                  have G8 := Lib.hid F8
                  have G9 := Lib.hid F9
                  have G10 := Lib.hid F10
                  clear F0 F1 F2 F3 F4 F5 F6 F7 F8 F9 F10
                  go_simp
                  have hMB : ∀ b t cs, g < b → Blk W b t cs → Blk W b t cs := fun _ _ _ _ h => h
                  have hMD : ∀ u b, DoR w.heap.size yn bn bs W u b → DoR w.heap.size yn bn bs W u b := fun _ _ h => h
                  have F0 := G0.out
                  have F1 := G1.out
                  have F2 := G2.out
                  have F3 := G3.out
                  have F4 := G4.out
                  have F5 := G5.out
                  have F6 := G6.out
                  have F7 := G7.out
                  have F8 := G8.out
                  have F9 := G9.out
                  have F10 := G10.out
                  refine hK _ _ ?_
                  refine ⟨(.agg #[.int .i64 high, .slice YB yn yd, .int .i64 y0, .int .i64 y1, .int .i64 y2, .slice BB bn bd, .slice PB pn pd, .slice HB hn hd, .slice LB ln ld]), v81, v82, v83, v84, v79, v85, v86, v11, v12, u, b, (by simp only [puts, Act.put, List.setIfInBounds_toArray, List.set_cons_succ, List.set_cons_zero] <;> rfl), ⟨q', (by simpa using hq'), HT⟩, (fun _ => rfl), (fun h => F1 (by simpa using h)), (fun h => F2 (by simpa using h)), (fun h => F3 (by simpa using h)), (fun h => ⟨(F4 (by simpa using h)).1, hMD _ _ (F4 (by simpa using h)).2⟩), (fun h => ⟨(by simp [(F5 (by simpa using h)).1]), (F5 (by simpa using h)).2⟩), (fun h => ⟨(by simp [(F6 (by simpa using h)).1]), (F6 (by simpa using h)).2⟩), (fun h => ⟨(by simp [(F7 (by simpa using h)).1]), (F7 (by simpa using h)).2⟩), (fun h => by obtain ⟨xb, cs, e, h1, h2, h3, hb, h4⟩ := F8 (by simpa using h); exact ⟨xb, cs, e, h1, h2, h3, hMB _ _ _ (by omega) hb, fun h => ⟨(by simp [(h4 (by simpa using h)).1]), (h4 (by simpa using h)).2⟩⟩), (fun h => by simp [F9 (by simpa using h)]), (fun h => ⟨(by simp [(F10 (by simpa using h)).1]), (F10 (by simpa using h)).2⟩)⟩
                · have G0 := Lib.hid F0
                  have G1 := Lib.hid F1
                  have G2 := Lib.hid F2
                  have G3 := Lib.hid F3
                  have G4 := Lib.hid F4
                  have G5 := Lib.hid F5
                  have G6 := Lib.hid F6
                  have G7 := Lib.hid F7
                  have G8 := Lib.hid F8
                  have G9 := Lib.hid F9
                  have G10 := Lib.hid F10
                  clear F0 F1 F2 F3 F4 F5 F6 F7 F8 F9 F10
                  go_simp
                  have hMB : ∀ b t cs, g < b → Blk W b t cs → Blk W b t cs := fun _ _ _ _ h => h
                  have hMD : ∀ u b, DoR w.heap.size yn bn bs W u b → DoR w.heap.size yn bn bs W u b := fun _ _ h => h
                  have F0 := G0.out
                  have F1 := G1.out
                  have F2 := G2.out
                  have F3 := G3.out
                  have F4 := G4.out
                  have F5 := G5.out
                  have F6 := G6.out
                  have F7 := G7.out
                  have F8 := G8.out
                  have F9 := G9.out
                  have F10 := G10.out
                  refine hK _ _ ?_
                  refine ⟨v80, (.pointer (some ⟨g, 0, none⟩)), v82, v83, v84, v79, v85, v86, v11, v12, u, b, (by simp only [puts, Act.put, List.setIfInBounds_toArray, List.set_cons_succ, List.set_cons_zero] <;> rfl), ⟨q', (by simpa using hq'), HT⟩, (fun h => F0 (by simpa using h)), (fun _ => rfl), (fun h => F2 (by simpa using h)), (fun h => F3 (by simpa using h)), (fun h => ⟨(F4 (by simpa using h)).1, hMD _ _ (F4 (by simpa using h)).2⟩), (fun h => ⟨(by simp [(F5 (by simpa using h)).1]), (F5 (by simpa using h)).2⟩), (fun h => ⟨(by simp [(F6 (by simpa using h)).1]), (F6 (by simpa using h)).2⟩), (fun h => ⟨(by simp [(F7 (by simpa using h)).1]), (F7 (by simpa using h)).2⟩), (fun h => by obtain ⟨xb, cs, e, h1, h2, h3, hb, h4⟩ := F8 (by simpa using h); exact ⟨xb, cs, e, h1, h2, h3, hMB _ _ _ (by omega) hb, fun h => ⟨(by simp [(h4 (by simpa using h)).1]), (h4 (by simpa using h)).2⟩⟩), (fun h => by simp [F9 (by simpa using h)]), (fun h => ⟨(by simp [(F10 (by simpa using h)).1]), (F10 (by simpa using h)).2⟩)⟩
                · have c0 := (HT.tbk).cellAt 0 (by simp)
                  have c1 := (HT.tbk).cellAt 1 (by simp)
                  have c2 := (HT.tbk).cellAt 2 (by simp)
                  have c3 := (HT.tbk).cellAt 3 (by simp)
                  have c4 := (HT.tbk).cellAt 4 (by simp)
                  have c5 := (HT.tbk).cellAt 5 (by simp)
                  have c6 := (HT.tbk).cellAt 6 (by simp)
                  have c7 := (HT.tbk).cellAt 7 (by simp)
                  have c8 := (HT.tbk).cellAt 8 (by simp)
                  simp only [List.getElem_cons_zero, List.getElem_cons_succ] at c0 c1 c2 c3 c4 c5 c6 c7 c8
                  have G0 := Lib.hid F0
                  have G1 := Lib.hid F1
                  have G2 := Lib.hid F2
                  have G3 := Lib.hid F3
                  have G4 := Lib.hid F4
                  have G5 := Lib.hid F5
                  have G6 := Lib.hid F6
                  have G7 := Lib.hid F7
                  have G8 := Lib.hid F8
                  have G9 := Lib.hid F9
                  have G10 := Lib.hid F10
                  clear F0 F1 F2 F3 F4 F5 F6 F7 F8 F9 F10
                  go_simp
                  have hMB : ∀ b t cs, g < b → Blk W b t cs → Blk W b t cs := fun _ _ _ _ h => h
                  have hMD : ∀ u b, DoR w.heap.size yn bn bs W u b → DoR w.heap.size yn bn bs W u b := fun _ _ h => h
                  have F0 := G0.out
                  have F1 := G1.out
                  have F2 := G2.out
                  have F3 := G3.out
                  have F4 := G4.out
                  have F5 := G5.out
                  have F6 := G6.out
                  have F7 := G7.out
                  have F8 := G8.out
                  have F9 := G9.out
                  have F10 := G10.out
                  refine hK _ _ ?_
                  refine ⟨v80, v81, (.agg #[.int .i64 high, .slice YB yn yd, .int .i64 y0, .int .i64 y1, .int .i64 y2, .slice BB bn bd, .slice PB pn pd, .slice HB hn hd, .slice LB ln ld]), v83, v84, v79, v85, v86, v11, v12, u, b, (by simp only [puts, Act.put, List.setIfInBounds_toArray, List.set_cons_succ, List.set_cons_zero] <;> rfl), ⟨q', (by simpa using hq'), HT⟩, (fun h => F0 (by simpa using h)), (fun h => F1 (by simpa using h)), (fun _ => rfl), (fun h => F3 (by simpa using h)), (fun h => ⟨(F4 (by simpa using h)).1, hMD _ _ (F4 (by simpa using h)).2⟩), (fun h => ⟨(by simp [(F5 (by simpa using h)).1]), (F5 (by simpa using h)).2⟩), (fun h => ⟨(by simp [(F6 (by simpa using h)).1]), (F6 (by simpa using h)).2⟩), (fun h => ⟨(by simp [(F7 (by simpa using h)).1]), (F7 (by simpa using h)).2⟩), (fun h => by obtain ⟨xb, cs, e, h1, h2, h3, hb, h4⟩ := F8 (by simpa using h); exact ⟨xb, cs, e, h1, h2, h3, hMB _ _ _ (by omega) hb, fun h => ⟨(by simp [(h4 (by simpa using h)).1]), (h4 (by simpa using h)).2⟩⟩), (fun h => by simp [F9 (by simpa using h)]), (fun h => ⟨(by simp [(F10 (by simpa using h)).1]), (F10 (by simpa using h)).2⟩)⟩
                · obtain rfl := F1 (by simp [hdep])
                  obtain rfl := F2 (by simp [hdep])
                  have G0 := Lib.hid F0
                  have G1 := Lib.hid F1
                  have G2 := Lib.hid F2
                  have G3 := Lib.hid F3
                  have G4 := Lib.hid F4
                  have G5 := Lib.hid F5
                  have G6 := Lib.hid F6
                  have G7 := Lib.hid F7
                  have G8 := Lib.hid F8
                  have G9 := Lib.hid F9
                  have G10 := Lib.hid F10
                  clear F0 F1 F2 F3 F4 F5 F6 F7 F8 F9 F10
                  go_simp
                  go_at_call 54
                  have hTD := l20TermDeed_any g q' high ⟨y0, y1, y2⟩ YB BB PB HB LB yn yd bn bd pn pd hn hd ln ld rows bs plan hs ls W (HT.trd HL.out) HT.rd (by have a1 := Bool.toNat_le (D 3); omega)
                  dsimp only at hTD
                  refine hTD.mono ?_
                  rintro e W' ⟨_, rfl, k1, i1, f1, t1, rfl, q4, hq4, hr', hg'⟩
                  obtain ⟨csr, hbr⟩ := HT.rd.blk
                  have hMB : ∀ b t cs, g < b → Blk W b t cs → Blk W' b t cs := fun b t cs hl h => h.only hg' (by omega)
                  have hMD : ∀ u b, DoR w.heap.size yn bn bs W u b → DoR w.heap.size yn bn bs W' u b := fun _ _ h => h.far hbr (by decide) hg'
                  (try go_simp)
                  have F0 := G0.out
                  have F1 := G1.out
                  have F2 := G2.out
                  have F3 := G3.out
                  have F4 := G4.out
                  have F5 := G5.out
                  have F6 := G6.out
                  have F7 := G7.out
                  have F8 := G8.out
                  have F9 := G9.out
                  have F10 := G10.out
                  refine hK _ _ ?_
                  refine ⟨v80, (.pointer (some ⟨g, 0, none⟩)), (.agg #[.int .i64 high, .slice YB yn yd, .int .i64 y0, .int .i64 y1, .int .i64 y2, .slice BB bn bd, .slice PB pn pd, .slice HB hn hd, .slice LB ln ld]), (.agg #[.int .i64 k1, .int .i64 i1, .int .i64 f1, .int .i64 t1]), v84, v79, v85, v86, v11, v12, u, b, (by simp only [puts, Act.put, List.setIfInBounds_toArray, List.set_cons_succ, List.set_cons_zero] <;> rfl), ⟨q4, (by simp [hD] at hq' ⊢; omega), HT.pick hlt htb hr' hg'⟩, (fun h => F0 (by simpa using h)), (fun h => F1 (by simpa using h)), (fun h => F2 (by simpa using h)), (fun _ => ⟨k1, i1, f1, t1, rfl⟩), (fun h => ⟨(F4 (by simpa using h)).1, hMD _ _ (F4 (by simpa using h)).2⟩), (fun h => ⟨(by simp [(F5 (by simpa using h)).1]), (F5 (by simpa using h)).2⟩), (fun h => ⟨(by simp [(F6 (by simpa using h)).1]), (F6 (by simpa using h)).2⟩), (fun h => ⟨(by simp [(F7 (by simpa using h)).1]), (F7 (by simpa using h)).2⟩), (fun h => by obtain ⟨xb, cs, e, h1, h2, h3, hb, h4⟩ := F8 (by simpa using h); exact ⟨xb, cs, e, h1, h2, h3, hMB _ _ _ (by omega) hb, fun h => ⟨(by simp [(h4 (by simpa using h)).1]), (h4 (by simpa using h)).2⟩⟩), (fun h => by simp [F9 (by simpa using h)]), (fun h => ⟨(by simp [(F10 (by simpa using h)).1]), (F10 (by simpa using h)).2⟩)⟩
                · obtain rfl := F0 (by simp [hdep])
                  obtain ⟨k1, i1, f1, t1, rfl⟩ := F3 (by simp [hdep])
                  have G0 := Lib.hid F0
                  have G1 := Lib.hid F1
                  have G2 := Lib.hid F2
                  have G3 := Lib.hid F3
                  have G4 := Lib.hid F4
                  have G5 := Lib.hid F5
                  have G6 := Lib.hid F6
                  have G7 := Lib.hid F7
                  have G8 := Lib.hid F8
                  have G9 := Lib.hid F9
                  have G10 := Lib.hid F10
                  clear F0 F1 F2 F3 F4 F5 F6 F7 F8 F9 F10
                  go_simp
                  go_at_call 53
                  have hTD := specTermDo high ⟨y0, y1, y2⟩ YB BB PB HB LB yn yd bn bd pn pd hn hd ln ld rows bs plan hs ls k1 i1 f1 t1 W (HT.rdT HL.out) HT.cap
                  dsimp only at hTD
                  refine hTD.mono ?_
                  rintro e W' hpost
                  obtain ⟨u', b', rfl, hdo, hbel⟩ := DoR.of (s := w.heap.size) hpost HT.gr.size
                  have hMB : ∀ b t cs, g < b → Blk W b t cs → Blk W' b t cs := fun b t cs _ h => h.later hbel
                  (try go_simp)
                  have F0 := G0.out
                  have F1 := G1.out
                  have F2 := G2.out
                  have F3 := G3.out
                  have F4 := G4.out
                  have F5 := G5.out
                  have F6 := G6.out
                  have F7 := G7.out
                  have F8 := G8.out
                  have F9 := G9.out
                  have F10 := G10.out
                  refine hK _ _ ?_
                  refine ⟨(.agg #[.int .i64 high, .slice YB yn yd, .int .i64 y0, .int .i64 y1, .int .i64 y2, .slice BB bn bd, .slice PB pn pd, .slice HB hn hd, .slice LB ln ld]), v81, v82, (.agg #[.int .i64 k1, .int .i64 i1, .int .i64 f1, .int .i64 t1]), (.tuple #[u', .bool b']), v79, v85, v86, v11, v12, u', b', (by simp only [puts, Act.put, List.setIfInBounds_toArray, List.set_cons_succ, List.set_cons_zero] <;> rfl), ⟨q', (by simpa using hq'), HT.below hbel⟩, (fun h => F0 (by simpa using h)), (fun h => F1 (by simpa using h)), (fun h => F2 (by simpa using h)), (fun h => F3 (by simpa using h)), (fun _ => ⟨rfl, hdo⟩), (fun h => absurd (F5 (by simpa using h)).1 (by simp [hD])), (fun h => absurd (F6 (by simpa using h)).1 (by simp [hD])), (fun h => absurd (F7 (by simpa using h)).1 (by simp [hD])), (fun h => by obtain ⟨xb, cs, e, h1, h2, h3, hb, h4⟩ := F8 (by simpa using h); exact ⟨xb, cs, e, h1, h2, h3, hMB _ _ _ (by omega) hb, fun h => absurd (h4 (by simpa using h)).1 (by simp [hD])⟩), (fun h => by simp [F9 (by simpa using h)]), (fun h => absurd (F10 (by simpa using h)).1 (by simp [hD]))⟩
                · obtain ⟨rfl, hdo⟩ := F4 (by simp [hdep])
                  have G0 := Lib.hid F0
                  have G1 := Lib.hid F1
                  have G2 := Lib.hid F2
                  have G3 := Lib.hid F3
                  have G4 := Lib.hid F4
                  have G5 := Lib.hid F5
                  have G6 := Lib.hid F6
                  have G7 := Lib.hid F7
                  have G8 := Lib.hid F8
                  have G9 := Lib.hid F9
                  have G10 := Lib.hid F10
                  clear F0 F1 F2 F3 F4 F5 F6 F7 F8 F9 F10
                  go_simp
                  have hMB : ∀ b t cs, g < b → Blk W b t cs → Blk W b t cs := fun _ _ _ _ h => h
                  have hMD : ∀ u b, DoR w.heap.size yn bn bs W u b → DoR w.heap.size yn bn bs W u b := fun _ _ h => h
                  have F0 := G0.out
                  have F1 := G1.out
                  have F2 := G2.out
                  have F3 := G3.out
                  have F4 := G4.out
                  have F5 := G5.out
                  have F6 := G6.out
                  have F7 := G7.out
                  have F8 := G8.out
                  have F9 := G9.out
                  have F10 := G10.out
                  refine hK _ _ ?_
                  refine ⟨v80, v81, v82, v83, (.tuple #[u, .bool b]), (.tuple #[u, .bool b]), v85, v86, v11, v12, u, b, (by simp only [puts, Act.put, List.setIfInBounds_toArray, List.set_cons_succ, List.set_cons_zero] <;> rfl), ⟨q', (by simpa using hq'), HT⟩, (fun h => F0 (by simpa using h)), (fun h => F1 (by simpa using h)), (fun h => F2 (by simpa using h)), (fun h => F3 (by simpa using h)), (fun h => ⟨rfl, hdo⟩), (fun _ => ⟨by simp [hdep], rfl⟩), (fun h => ⟨(by simp [(F6 (by simpa using h)).1]), (F6 (by simpa using h)).2⟩), (fun h => ⟨(by simp [(F7 (by simpa using h)).1]), (F7 (by simpa using h)).2⟩), (fun h => by obtain ⟨xb, cs, e, h1, h2, h3, hb, h4⟩ := F8 (by simpa using h); exact ⟨xb, cs, e, h1, h2, h3, hMB _ _ _ (by omega) hb, fun h => ⟨(by simp [(h4 (by simpa using h)).1]), (h4 (by simpa using h)).2⟩⟩), (fun h => by simp [F9 (by simpa using h)]), (fun h => ⟨(by simp [(F10 (by simpa using h)).1]), (F10 (by simpa using h)).2⟩)⟩
                · obtain ⟨d14, rfl⟩ := F5 (by simp [hdep])
                  have G0 := Lib.hid F0
                  have G1 := Lib.hid F1
                  have G2 := Lib.hid F2
                  have G3 := Lib.hid F3
                  have G4 := Lib.hid F4
                  have G5 := Lib.hid F5
                  have G6 := Lib.hid F6
                  have G7 := Lib.hid F7
                  have G8 := Lib.hid F8
                  have G9 := Lib.hid F9
                  have G10 := Lib.hid F10
                  clear F0 F1 F2 F3 F4 F5 F6 F7 F8 F9 F10
                  go_simp
                  have hMB : ∀ b t cs, g < b → Blk W b t cs → Blk W b t cs := fun _ _ _ _ h => h
                  have hMD : ∀ u b, DoR w.heap.size yn bn bs W u b → DoR w.heap.size yn bn bs W u b := fun _ _ h => h
                  have F0 := G0.out
                  have F1 := G1.out
                  have F2 := G2.out
                  have F3 := G3.out
                  have F4 := G4.out
                  have F5 := G5.out
                  have F6 := G6.out
                  have F7 := G7.out
                  have F8 := G8.out
                  have F9 := G9.out
                  have F10 := G10.out
                  refine hK _ _ ?_
                  refine ⟨v80, v81, v82, v83, v84, (.tuple #[u, .bool b]), u, v86, v11, v12, u, b, (by simp only [puts, Act.put, List.setIfInBounds_toArray, List.set_cons_succ, List.set_cons_zero] <;> rfl), ⟨q', (by simpa using hq'), HT⟩, (fun h => F0 (by simpa using h)), (fun h => F1 (by simpa using h)), (fun h => F2 (by simpa using h)), (fun h => F3 (by simpa using h)), (fun h => ⟨(F4 (by simpa using h)).1, hMD _ _ (F4 (by simpa using h)).2⟩), (fun h => ⟨(by simp [(F5 (by simpa using h)).1]), (F5 (by simpa using h)).2⟩), (fun _ => ⟨by simp [d14], rfl⟩), (fun h => ⟨(by simp [(F7 (by simpa using h)).1]), (F7 (by simpa using h)).2⟩), (fun h => by obtain ⟨xb, cs, e, h1, h2, h3, hb, h4⟩ := F8 (by simpa using h); exact ⟨xb, cs, e, h1, h2, h3, hMB _ _ _ (by omega) hb, fun h => ⟨(by simp [(h4 (by simpa using h)).1]), (h4 (by simpa using h)).2⟩⟩), (fun h => by simp [F9 (by simpa using h)]), (fun h => ⟨(by simp [(F10 (by simpa using h)).1]), (F10 (by simpa using h)).2⟩)⟩
                · obtain ⟨d14, rfl⟩ := F5 (by simp [hdep])
                  have G0 := Lib.hid F0
                  have G1 := Lib.hid F1
                  have G2 := Lib.hid F2
                  have G3 := Lib.hid F3
                  have G4 := Lib.hid F4
                  have G5 := Lib.hid F5
                  have G6 := Lib.hid F6
                  have G7 := Lib.hid F7
                  have G8 := Lib.hid F8
                  have G9 := Lib.hid F9
                  have G10 := Lib.hid F10
                  clear F0 F1 F2 F3 F4 F5 F6 F7 F8 F9 F10
                  go_simp
                  have hMB : ∀ b t cs, g < b → Blk W b t cs → Blk W b t cs := fun _ _ _ _ h => h
                  have hMD : ∀ u b, DoR w.heap.size yn bn bs W u b → DoR w.heap.size yn bn bs W u b := fun _ _ h => h
                  have F0 := G0.out
                  have F1 := G1.out
                  have F2 := G2.out
                  have F3 := G3.out
                  have F4 := G4.out
                  have F5 := G5.out
                  have F6 := G6.out
                  have F7 := G7.out
                  have F8 := G8.out
                  have F9 := G9.out
                  have F10 := G10.out
                  refine hK _ _ ?_
                  refine ⟨v80, v81, v82, v83, v84, (.tuple #[u, .bool b]), v85, (.bool b), v11, v12, u, b, (by simp only [puts, Act.put, List.setIfInBounds_toArray, List.set_cons_succ, List.set_cons_zero] <;> rfl), ⟨q', (by simpa using hq'), HT⟩, (fun h => F0 (by simpa using h)), (fun h => F1 (by simpa using h)), (fun h => F2 (by simpa using h)), (fun h => F3 (by simpa using h)), (fun h => ⟨(F4 (by simpa using h)).1, hMD _ _ (F4 (by simpa using h)).2⟩), (fun h => ⟨(by simp [(F5 (by simpa using h)).1]), (F5 (by simpa using h)).2⟩), (fun h => ⟨(by simp [(F6 (by simpa using h)).1]), (F6 (by simpa using h)).2⟩), (fun _ => ⟨by simp [d14], rfl⟩), (fun h => by obtain ⟨xb, cs, e, h1, h2, h3, hb, h4⟩ := F8 (by simpa using h); exact ⟨xb, cs, e, h1, h2, h3, hMB _ _ _ (by omega) hb, fun h => ⟨(by simp [(h4 (by simpa using h)).1]), (h4 (by simpa using h)).2⟩⟩), (fun h => by simp [F9 (by simpa using h)]), (fun h => ⟨(by simp [(F10 (by simpa using h)).1]), (F10 (by simpa using h)).2⟩)⟩
                · have G0 := Lib.hid F0
                  have G1 := Lib.hid F1
                  have G2 := Lib.hid F2
                  have G3 := Lib.hid F3
                  have G4 := Lib.hid F4
                  have G5 := Lib.hid F5
                  have G6 := Lib.hid F6
                  have G7 := Lib.hid F7
                  have G8 := Lib.hid F8
                  have G9 := Lib.hid F9
                  have G10 := Lib.hid F10
                  clear F0 F1 F2 F3 F4 F5 F6 F7 F8 F9 F10
                  go_simp
                  have hal : Below W.heap.size W (W.alloc (.cells #[.int .i64 0, .slice none 0 0, .int .i64 0, .int .i64 0, .int .i64 0, .slice none 0 0, .slice none 0 0, .slice none 0 0, .slice none 0 0] 34)) := (Below.refl _ _).alloc (Nat.le_refl _) _
                  have hMB : ∀ b t cs, g < b → Blk W b t cs → Blk (W.alloc (.cells #[.int .i64 0, .slice none 0 0, .int .i64 0, .int .i64 0, .int .i64 0, .slice none 0 0, .slice none 0 0, .slice none 0 0, .slice none 0 0] 34)) b t cs := fun b t cs _ h => h.later hal
                  have hMD : ∀ u b, DoR w.heap.size yn bn bs W u b → DoR w.heap.size yn bn bs (W.alloc (.cells #[.int .i64 0, .slice none 0 0, .int .i64 0, .int .i64 0, .int .i64 0, .slice none 0 0, .slice none 0 0, .slice none 0 0, .slice none 0 0] 34)) u b := fun _ _ h => h.below hal
                  have hlr := HT.rb.lt
                  have hlt' := HT.tbk.lt
                  have F0 := G0.out
                  have F1 := G1.out
                  have F2 := G2.out
                  have F3 := G3.out
                  have F4 := G4.out
                  have F5 := G5.out
                  have F6 := G6.out
                  have F7 := G7.out
                  have F8 := G8.out
                  have F9 := G9.out
                  have F10 := G10.out
                  refine hK _ _ ?_
                  refine ⟨v80, v81, v82, v83, v84, v79, v85, v86, (.pointer (some ⟨W.heap.size, 0, none⟩)), v12, u, b, (by simp only [puts, Act.put, List.setIfInBounds_toArray, List.set_cons_succ, List.set_cons_zero] <;> rfl), ⟨q', (by simpa using hq'), HT.below hal⟩, (fun h => F0 (by simpa using h)), (fun h => F1 (by simpa using h)), (fun h => F2 (by simpa using h)), (fun h => F3 (by simpa using h)), (fun h => ⟨(F4 (by simpa using h)).1, hMD _ _ (F4 (by simpa using h)).2⟩), (fun h => ⟨(by simp [(F5 (by simpa using h)).1]), (F5 (by simpa using h)).2⟩), (fun h => ⟨(by simp [(F6 (by simpa using h)).1]), (F6 (by simpa using h)).2⟩), (fun h => ⟨(by simp [(F7 (by simpa using h)).1]), (F7 (by simpa using h)).2⟩), (fun _ => ⟨W.heap.size, [.int .i64 0, .slice none 0 0, .int .i64 0, .int .i64 0, .int .i64 0, .slice none 0 0, .slice none 0 0, .slice none 0 0, .slice none 0 0], rfl, by omega, by omega, rfl, Blk.new _ _ _, fun h => absurd (F9 (by simpa using h)) (by simp [hD])⟩), (fun h => absurd (F9 (by simpa using h)) (by simp [hD])), (fun h => ⟨(by simp [(F10 (by simpa using h)).1]), (F10 (by simpa using h)).2⟩)⟩
                · obtain ⟨xb, cs, rfl, h1, h2, h3, hb, _⟩ := F8 (by simp [hdep])
                  obtain ⟨d14, e64⟩ := F6 (by simp [hdep])
                  have e64' := e64.symm
                  clear e64
                  subst e64'
                  obtain ⟨e63, hdo⟩ := F4 d14
                  have hdo' := hdo
                  obtain ⟨high', u0, u1, u2, XB, xn, xd, EB, en, ed, QB, qn, qd, GB, gn, gd, JB, jn, jd, eu, _⟩ := hdo'
                  rw [if_pos (show Region.wanted _ _ = true from rfl)]
                  obtain ⟨hz, ho⟩ := blk_stored (cells := [.int .i64 high', .slice XB xn xd, .int .i64 u0, .int .i64 u1, .int .i64 u2, .slice EB en ed, .slice QB qn qd, .slice GB gn gd, .slice JB jn jd]) hb h3
                  have hthere := blk_there hb h3
                  refine wp_store_mid 34 (.tmp 11) (.tmp 85) rfl xb 0 [.int .i64 high', .slice XB xn xd, .int .i64 u0, .int .i64 u1, .int .i64 u2, .slice EB en ed, .slice QB qn qd, .slice GB gn gd, .slice JB jn jd].toArray ?_ ?_ (by simpa using hthere) (by kernel_rfl) (by simp [Value.oneCell']) ?_
                  · rfl
                  · exact eu
                  revert hz ho
                  simp only [List.toList_toArray]
                  generalize W.setCells xb 0 [.int .i64 high', .slice XB xn xd, .int .i64 u0, .int .i64 u1, .int .i64 u2, .slice EB en ed, .slice QB qn qd, .slice GB gn gd, .slice JB jn jd] = w'
                  intro hz ho
                  have hgx := out_grown ho
                  have hMD : ∀ u b, DoR w.heap.size yn bn bs W u b → DoR w.heap.size yn bn bs w' u b := fun _ _ h => h.far hb (by decide) hgx
                  refine hK _ _ ?_
                  refine ⟨v80, v81, v82, v83, v84, v79, u, v86, (.pointer (some ⟨xb, 0, none⟩)), v12, u, b, (by simp only [puts, Act.put, List.setIfInBounds_toArray, List.set_cons_succ, List.set_cons_zero] <;> rfl), ⟨q', (by simpa using hq'), HT.setX hlt hb h1 h2 ho⟩, (fun h => F0 (by simpa using h)), (fun h => F1 (by simpa using h)), (fun h => F2 (by simpa using h)), (fun h => F3 (by simpa using h)), (fun h => ⟨(F4 (by simpa using h)).1, hMD _ _ (F4 (by simpa using h)).2⟩), (fun h => ⟨(by simp [(F5 (by simpa using h)).1]), (F5 (by simpa using h)).2⟩), (fun h => ⟨(by simp [(F6 (by simpa using h)).1]), (F6 (by simpa using h)).2⟩), (fun h => ⟨(by simp [(F7 (by simpa using h)).1]), (F7 (by simpa using h)).2⟩), (fun _ => ⟨xb, _, rfl, h1, h2, by rfl, hz, fun _ => ⟨by simp [d14], eu⟩⟩), (fun _ => by simp [hdep]), (fun h => ⟨(by simp [(F10 (by simpa using h)).1]), (F10 (by simpa using h)).2⟩)⟩
                · obtain ⟨d14, rfl⟩ := F7 (by simp [hdep])
                  have G0 := Lib.hid F0
                  have G1 := Lib.hid F1
                  have G2 := Lib.hid F2
                  have G3 := Lib.hid F3
                  have G4 := Lib.hid F4
                  have G5 := Lib.hid F5
                  have G6 := Lib.hid F6
                  have G7 := Lib.hid F7
                  have G8 := Lib.hid F8
                  have G9 := Lib.hid F9
                  have G10 := Lib.hid F10
                  clear F0 F1 F2 F3 F4 F5 F6 F7 F8 F9 F10
                  go_simp
                  have hMB : ∀ b t cs, g < b → Blk W b t cs → Blk W b t cs := fun _ _ _ _ h => h
                  have hMD : ∀ u b, DoR w.heap.size yn bn bs W u b → DoR w.heap.size yn bn bs W u b := fun _ _ h => h
                  have F0 := G0.out
                  have F1 := G1.out
                  have F2 := G2.out
                  have F3 := G3.out
                  have F4 := G4.out
                  have F5 := G5.out
                  have F6 := G6.out
                  have F7 := G7.out
                  have F8 := G8.out
                  have F9 := G9.out
                  have F10 := G10.out
                  refine hK _ _ ?_
                  refine ⟨v80, v81, v82, v83, v84, v79, v85, (.bool b), v11, (.bool b), u, b, (by simp only [puts, Act.put, List.setIfInBounds_toArray, List.set_cons_succ, List.set_cons_zero] <;> rfl), ⟨q', (by simpa using hq'), HT⟩, (fun h => F0 (by simpa using h)), (fun h => F1 (by simpa using h)), (fun h => F2 (by simpa using h)), (fun h => F3 (by simpa using h)), (fun h => ⟨(F4 (by simpa using h)).1, hMD _ _ (F4 (by simpa using h)).2⟩), (fun h => ⟨(by simp [(F5 (by simpa using h)).1]), (F5 (by simpa using h)).2⟩), (fun h => ⟨(by simp [(F6 (by simpa using h)).1]), (F6 (by simpa using h)).2⟩), (fun h => ⟨(by simp [(F7 (by simpa using h)).1]), (F7 (by simpa using h)).2⟩), (fun h => by obtain ⟨xb, cs, e, h1, h2, h3, hb, h4⟩ := F8 (by simpa using h); exact ⟨xb, cs, e, h1, h2, h3, hMB _ _ _ (by omega) hb, fun h => ⟨(by simp [(h4 (by simpa using h)).1]), (h4 (by simpa using h)).2⟩⟩), (fun h => by simp [F9 (by simpa using h)]), (fun _ => ⟨by simp [d14], rfl⟩)⟩
              · rintro D a W hall ⟨v80, v81, v82, v83, v84, v79, v85, v86, v11, v12, u, b, rfl, ⟨q', hq', HT⟩, F0, F1, F2, F3, F4, F5, F6, F7, F8, F9, F10⟩
                obtain ⟨xb, cs, rfl, hx1, hx2, hx3, hxb, hx4⟩ := F8 (hall 8 (by simp))
                obtain ⟨_, rfl⟩ := F10 (hall 10 (by simp))
                obtain ⟨_, eu⟩ := hx4 (hall 9 (by simp))
                obtain ⟨_, hdo⟩ := F4 (hall 4 (by simp))
                have hqq : q' ≤ q2 + 20 := by have a1 := Bool.toNat_le (D 3); omega
                clear hq' hx4 hall F0 F1 F2 F3 F4 F5 F6 F7 F8 F9 F10
                simp only [puts, Act.put, List.setIfInBounds_toArray, List.set_cons_succ, List.set_cons_zero]
                cases b
                · go_wp2_with fail
                  go_roundw
                  case rel => exact ⟨k - 1, q', high, y0, y1, y2, YB, yd, BB, bd, PB, pn, pd, HB, hn, hd, LB, ln, ld, rows, plan, hs, ls, by go_num, ⟨by omega, by omega⟩, HL, HT⟩
                  case measure => simp [intOf]; omega
                · have HTB := HT.tbk
                  obtain ⟨high', u0, u1, u2, XB, xn, xd, EB, en, ed, QB, qn, qd, GB, gn, gd, JB, jn, jd, rfl, hres⟩ := hdo
                  obtain ⟨rows', plan', hs', ls', hti, hlow, e1, e2⟩ := hres rfl
                  subst e1 e2
                  have ecs : cs = [.int .i64 high', .slice XB xn xd, .int .i64 u0, .int .i64 u1, .int .i64 u2, .slice EB en ed, .slice QB qn qd, .slice GB gn gd, .slice JB jn jd] := by
                    have := eu
                    injection this with this
                    have := congrArg Array.toList this
                    simpa using this.symm
                  subst ecs
                  have HLW := Lib.hid hlow
                  clear eu hx3 hlow hres
                  have x0 := (hxb).cellAt 0 (by simp)
                  have x1 := (hxb).cellAt 1 (by simp)
                  have x2 := (hxb).cellAt 2 (by simp)
                  have x3 := (hxb).cellAt 3 (by simp)
                  have x4 := (hxb).cellAt 4 (by simp)
                  have x5 := (hxb).cellAt 5 (by simp)
                  have x6 := (hxb).cellAt 6 (by simp)
                  have x7 := (hxb).cellAt 7 (by simp)
                  have x8 := (hxb).cellAt 8 (by simp)
                  simp only [List.getElem_cons_zero, List.getElem_cons_succ] at x0 x1 x2 x3 x4 x5 x6 x7 x8
                  go_wp2_with (first | (refine wpList_store_blk rfl 34 (.tmp 5) (.tmp 88) rfl tb 34 [.int .i64 high, .slice YB xn yd, .int .i64 y0, .int .i64 y1, .int .i64 y2, .slice BB en bd, .slice PB pn pd, .slice HB hn hd, .slice LB ln ld] [.int .i64 high', .slice XB xn xd, .int .i64 u0, .int .i64 u1, .int .i64 u2, .slice EB en ed, .slice QB qn qd, .slice GB gn gd, .slice JB jn jd] ?_ ?_ ?_ ?_ ?_ ?_ ?_; rfl; rfl; exact HTB; rfl; kernel_rfl; simp [Value.oneCell']; intro wz hz ho))
                  have HN := Lib.hid (HT.setT hlt htb hti hz ho)
                  clear hz ho x0 x1 x2 x3 x4 x5 x6 x7 x8 HTB hti HT hxb
                  go_wp2_with fail
                  go_roundw
                  case rel => exact ⟨k - 1, q', high', u0, u1, u2, XB, xd, EB, ed, QB, qn, qd, GB, gn, gd, JB, jn, jd, rows', plan', hs', ls', by go_num, ⟨by omega, by omega⟩, HLW, HN.out⟩
                  case measure => simp [intOf]; omega
            · obtain rfl : k = 0 := by omega
              go_wp2_with fail
              refine (odd_any g q2 n _ HAh.out.rd (by omega) hn1).mono ?_
              rintro e wA ⟨bb1, rfl, q5, hq50, hq51, hr5, hg5⟩
              have HA5 := Lib.hid (HAh.out.pick hlt htb hr5 hg5)
              clear HAh hr5 hg5
              cases bb1
              · have HE := Lib.hid HA5.out.tme
                clear HA5
                go_upto_region 30 with fail
                have HTB := (HE.out).tbk
                have HRB := (HE.out).rb
                have x0 := HTB.cellAt 0 (by simp)
                have x1 := HTB.cellAt 1 (by simp)
                have x2 := HTB.cellAt 2 (by simp)
                have x3 := HTB.cellAt 3 (by simp)
                have x4 := HTB.cellAt 4 (by simp)
                have x5 := HTB.cellAt 5 (by simp)
                have x6 := HTB.cellAt 6 (by simp)
                have x7 := HTB.cellAt 7 (by simp)
                have x8 := HTB.cellAt 8 (by simp)
                simp only [List.getElem_cons_zero, List.getElem_cons_succ] at x0 x1 x2 x3 x4 x5 x6 x7 x8
                go_wp2_with (first | (refine wpList_store_blk rfl 34 (.tmp 4) (.tmp 138) rfl (w.heap.size) 34 [.int .i64 0, .slice none 0 0, .int .i64 0, .int .i64 0, .int .i64 0, .slice none 0 0, .slice none 0 0, .slice none 0 0, .slice none 0 0] [.int .i64 high, .slice YB yn yd, .int .i64 y0, .int .i64 y1, .int .i64 y2, .slice BB bn bd, .slice PB pn pd, .slice HB hn hd, .slice LB ln ld] ?_ ?_ ?_ ?_ ?_ ?_ ?_; rfl; rfl; exact HRB; rfl; kernel_rfl; simp [Value.oneCell']; intro wz hz ho; have e0 := hz.cellAt 0 (by simp); have e1 := hz.cellAt 1 (by simp); have e2 := hz.cellAt 2 (by simp); have e3 := hz.cellAt 3 (by simp); have e4 := hz.cellAt 4 (by simp); have e5 := hz.cellAt 5 (by simp); have e6 := hz.cellAt 6 (by simp); have e7 := hz.cellAt 7 (by simp); have e8 := hz.cellAt 8 (by simp); simp only [List.getElem_cons_zero, List.getElem_cons_succ] at e0 e1 e2 e3 e4 e5 e6 e7 e8))
                refine bodyPost_ret (v := .agg #[.int .i64 high, .slice YB yn yd, .int .i64 y0, .int .i64 y1, .int .i64 y2, .slice BB bn bd, .slice PB pn pd, .slice HB hn hd, .slice LB ln ld]) (by simp [results, Tryz.results18, go_sem, e0, e1, e2, e3, e4, e5, e6, e7, e8]) rfl ?_
                exact TmE.fin HE.out (HL.out.bnd) hlt (by omega) ho
              · go_wp2_with fail
                refine (pick_any g q5 4 _ HA5.out.rd (by omega) (by omega)).mono ?_
                rintro e wB ⟨vs, rfl, ⟨vs0, vs1, _⟩, hr6, hg6⟩
                have vs2 := vs1 (by omega)
                have HA6 := Lib.hid (HA5.out.pick hlt htb hr6 hg6)
                clear HA5 hr6 hg6 vs1
                obtain rfl | rfl | rfl | rfl : vs = 0 ∨ vs = 1 ∨ vs = 2 ∨ vs = 3 := by omega
                · obtain ⟨yb, rfl, hyb, ⟨uo, hcell⟩, hfz, hte, hne⟩ := HA6.out.ti.stack0 HL.out.yl hyn 990
                  have HE := Lib.hid (TmA.end0 HA6.out hlt hyb 990 hte hne)
                  have c1 := HA6.out.tbk.cellAt 1 (by simp)
                  simp only [List.getElem_cons_zero, List.getElem_cons_succ] at c1
                  simp only [ints, List.map_cons, List.map_nil] at hcell hfz HE
                  have hyi : (0 : Int) < (yn : Int) := by omega
                  have HBN : Hid (TBnd yn bn pn hn ln (rows.set 0 [990]) bs plan hs ls) := Lib.hid (by have l := HL.out.bnd; exact ⟨by rw [List.length_set]; exact l.yl, l.ym, l.bl, l.bm, l.pl, l.pm, l.hl, l.hm, l.ll, l.lm⟩)
                  clear hte hne HA6
                  go_upto_region 30 with fail
                  have HTB := (HE.out).tbk
                  have HRB := (HE.out).rb
                  have x0 := HTB.cellAt 0 (by simp)
                  have x1 := HTB.cellAt 1 (by simp)
                  have x2 := HTB.cellAt 2 (by simp)
                  have x3 := HTB.cellAt 3 (by simp)
                  have x4 := HTB.cellAt 4 (by simp)
                  have x5 := HTB.cellAt 5 (by simp)
                  have x6 := HTB.cellAt 6 (by simp)
                  have x7 := HTB.cellAt 7 (by simp)
                  have x8 := HTB.cellAt 8 (by simp)
                  simp only [List.getElem_cons_zero, List.getElem_cons_succ] at x0 x1 x2 x3 x4 x5 x6 x7 x8
                  go_wp2_with (first | (refine wpList_store_blk rfl 34 (.tmp 4) (.tmp 138) rfl (w.heap.size) 34 [.int .i64 0, .slice none 0 0, .int .i64 0, .int .i64 0, .int .i64 0, .slice none 0 0, .slice none 0 0, .slice none 0 0, .slice none 0 0] [.int .i64 high, .slice (some ⟨yb, 0, none⟩) yn yd, .int .i64 y0, .int .i64 y1, .int .i64 y2, .slice BB bn bd, .slice PB pn pd, .slice HB hn hd, .slice LB ln ld] ?_ ?_ ?_ ?_ ?_ ?_ ?_; rfl; rfl; exact HRB; rfl; kernel_rfl; simp [Value.oneCell']; intro wz hz ho; have e0 := hz.cellAt 0 (by simp); have e1 := hz.cellAt 1 (by simp); have e2 := hz.cellAt 2 (by simp); have e3 := hz.cellAt 3 (by simp); have e4 := hz.cellAt 4 (by simp); have e5 := hz.cellAt 5 (by simp); have e6 := hz.cellAt 6 (by simp); have e7 := hz.cellAt 7 (by simp); have e8 := hz.cellAt 8 (by simp); simp only [List.getElem_cons_zero, List.getElem_cons_succ] at e0 e1 e2 e3 e4 e5 e6 e7 e8))
                  refine bodyPost_ret (v := .agg #[.int .i64 high, .slice (some ⟨yb, 0, none⟩) yn yd, .int .i64 y0, .int .i64 y1, .int .i64 y2, .slice BB bn bd, .slice PB pn pd, .slice HB hn hd, .slice LB ln ld]) (by simp [results, Tryz.results18, go_sem, e0, e1, e2, e3, e4, e5, e6, e7, e8]) rfl ?_
                  exact TmE.fin HE.out (HBN.out) hlt (by omega) ho
                · have hrow := Lib.hid HA6.out.ti.rowP.1
                  have c6 := HA6.out.tbk.cellAt 6 (by simp)
                  simp only [List.getElem_cons_zero, List.getElem_cons_succ] at c6
                  have HBN : Hid (TBnd yn bn (pn + 1) hn ln rows bs (plan ++ [0]) hs ls) := Lib.hid (by have l := HL.out.bnd; exact ⟨l.yl, l.ym, l.bl, l.bm, by rw [List.length_append, l.pl]; rfl, by omega, l.hl, l.hm, l.ll, l.lm⟩)
                  go_wp2_with (first | (at_builtin; refine append_new rfl _ _ 29 rfl 3 _ _ _ Tryz.underlying29 int_infoY 0 wB (.slice PB pn pd) pn (ints plan) rfl hrow.out [.int .i64 0] rfl rfl (by simp [Value.oneCell']) (by omega) (Nat.zero_le _) ?_; intro v8 w8 hown8 hg8 hblk8; obtain ⟨PX, px, rfl, hte⟩ := HA6.out.ti.load1 hown8 hg8; obtain ⟨hT8, hR8, hd8, hG8⟩ := HA6.out.endR (i := 6) hlt htb hrow.out HA6.out.ti.geP.1 hg8 (.slice PX (pn + 1) px); have HT8 := Lib.hid hT8; have d6 := hT8.cellAt 6 (by simp); have f6 := hT8.frozen 6; simp only [List.getElem_cons_zero, List.getElem_cons_succ] at d6; have HE := Lib.hid (TmE.mk hR8 (hT8.set_ 6 (.slice PX (pn + 1) px)) (hte.far hT8 (by decide) (grown_set w8 tb 6 (.slice PX (pn + 1) px))) hd8 hG8); (try simp only [List.set_cons_zero, List.set_cons_succ] at HE); clear hT8 hR8 hd8 hG8 hte hown8 hg8 hblk8 c6; have HTB := HE.out.tbk; have HRB := HE.out.rb; have x0 := HTB.cellAt 0 (by simp); have x1 := HTB.cellAt 1 (by simp); have x2 := HTB.cellAt 2 (by simp); have x3 := HTB.cellAt 3 (by simp); have x4 := HTB.cellAt 4 (by simp); have x5 := HTB.cellAt 5 (by simp); have x6 := HTB.cellAt 6 (by simp); have x7 := HTB.cellAt 7 (by simp); have x8 := HTB.cellAt 8 (by simp); simp only [List.getElem_cons_zero, List.getElem_cons_succ] at x0 x1 x2 x3 x4 x5 x6 x7 x8) | (refine wpList_store_blk rfl 34 (.tmp 4) (.tmp 138) rfl (w.heap.size) 34 [.int .i64 0, .slice none 0 0, .int .i64 0, .int .i64 0, .int .i64 0, .slice none 0 0, .slice none 0 0, .slice none 0 0, .slice none 0 0] [.int .i64 high, .slice YB yn yd, .int .i64 y0, .int .i64 y1, .int .i64 y2, .slice BB bn bd, .slice PX (pn + 1) px, .slice HB hn hd, .slice LB ln ld] ?_ ?_ ?_ ?_ ?_ ?_ ?_; rfl; rfl; exact HRB; rfl; kernel_rfl; simp [Value.oneCell']; intro wz hz ho; have e0 := hz.cellAt 0 (by simp); have e1 := hz.cellAt 1 (by simp); have e2 := hz.cellAt 2 (by simp); have e3 := hz.cellAt 3 (by simp); have e4 := hz.cellAt 4 (by simp); have e5 := hz.cellAt 5 (by simp); have e6 := hz.cellAt 6 (by simp); have e7 := hz.cellAt 7 (by simp); have e8 := hz.cellAt 8 (by simp); simp only [List.getElem_cons_zero, List.getElem_cons_succ] at e0 e1 e2 e3 e4 e5 e6 e7 e8))
                  refine bodyPost_ret (v := .agg #[.int .i64 high, .slice YB yn yd, .int .i64 y0, .int .i64 y1, .int .i64 y2, .slice BB bn bd, .slice PX (pn + 1) px, .slice HB hn hd, .slice LB ln ld]) (by simp [results, Tryz.results18, go_sem, e0, e1, e2, e3, e4, e5, e6, e7, e8]) rfl ?_
                  exact TmE.fin HE.out (HBN.out) hlt (by omega) ho
                · have hrow := Lib.hid HA6.out.ti.rowP.2
                  have c8 := HA6.out.tbk.cellAt 8 (by simp)
                  simp only [List.getElem_cons_zero, List.getElem_cons_succ] at c8
                  have HBN : Hid (TBnd yn bn pn hn (ln + 1) rows bs plan hs (ls ++ [0])) := Lib.hid (by have l := HL.out.bnd; exact ⟨l.yl, l.ym, l.bl, l.bm, l.pl, l.pm, l.hl, l.hm, by rw [List.length_append, l.ll]; rfl, by omega⟩)
                  go_wp2_with (first | (at_builtin; refine append_new rfl _ _ 29 rfl 3 _ _ _ Tryz.underlying29 int_infoY 0 wB (.slice LB ln ld) ln (ints ls) rfl hrow.out [.int .i64 0] rfl rfl (by simp [Value.oneCell']) (by omega) (Nat.zero_le _) ?_; intro v8 w8 hown8 hg8 hblk8; obtain ⟨PX, px, rfl, hte⟩ := HA6.out.ti.left1 hown8 hg8; obtain ⟨hT8, hR8, hd8, hG8⟩ := HA6.out.endR (i := 8) hlt htb hrow.out HA6.out.ti.geP.2 hg8 (.slice PX (ln + 1) px); have HT8 := Lib.hid hT8; have d8 := hT8.cellAt 8 (by simp); have f8 := hT8.frozen 8; simp only [List.getElem_cons_zero, List.getElem_cons_succ] at d8; have HE := Lib.hid (TmE.mk hR8 (hT8.set_ 8 (.slice PX (ln + 1) px)) (hte.far hT8 (by decide) (grown_set w8 tb 8 (.slice PX (ln + 1) px))) hd8 hG8); (try simp only [List.set_cons_zero, List.set_cons_succ] at HE); clear hT8 hR8 hd8 hG8 hte hown8 hg8 hblk8 c8; have HTB := HE.out.tbk; have HRB := HE.out.rb; have x0 := HTB.cellAt 0 (by simp); have x1 := HTB.cellAt 1 (by simp); have x2 := HTB.cellAt 2 (by simp); have x3 := HTB.cellAt 3 (by simp); have x4 := HTB.cellAt 4 (by simp); have x5 := HTB.cellAt 5 (by simp); have x6 := HTB.cellAt 6 (by simp); have x7 := HTB.cellAt 7 (by simp); have x8 := HTB.cellAt 8 (by simp); simp only [List.getElem_cons_zero, List.getElem_cons_succ] at x0 x1 x2 x3 x4 x5 x6 x7 x8) | (refine wpList_store_blk rfl 34 (.tmp 4) (.tmp 138) rfl (w.heap.size) 34 [.int .i64 0, .slice none 0 0, .int .i64 0, .int .i64 0, .int .i64 0, .slice none 0 0, .slice none 0 0, .slice none 0 0, .slice none 0 0] [.int .i64 high, .slice YB yn yd, .int .i64 y0, .int .i64 y1, .int .i64 y2, .slice BB bn bd, .slice PB pn pd, .slice HB hn hd, .slice PX (ln + 1) px] ?_ ?_ ?_ ?_ ?_ ?_ ?_; rfl; rfl; exact HRB; rfl; kernel_rfl; simp [Value.oneCell']; intro wz hz ho; have e0 := hz.cellAt 0 (by simp); have e1 := hz.cellAt 1 (by simp); have e2 := hz.cellAt 2 (by simp); have e3 := hz.cellAt 3 (by simp); have e4 := hz.cellAt 4 (by simp); have e5 := hz.cellAt 5 (by simp); have e6 := hz.cellAt 6 (by simp); have e7 := hz.cellAt 7 (by simp); have e8 := hz.cellAt 8 (by simp); simp only [List.getElem_cons_zero, List.getElem_cons_succ] at e0 e1 e2 e3 e4 e5 e6 e7 e8))
                  refine bodyPost_ret (v := .agg #[.int .i64 high, .slice YB yn yd, .int .i64 y0, .int .i64 y1, .int .i64 y2, .slice BB bn bd, .slice PB pn pd, .slice HB hn hd, .slice PX (ln + 1) px]) (by simp [results, Tryz.results18, go_sem, e0, e1, e2, e3, e4, e5, e6, e7, e8]) rfl ?_
                  exact TmE.fin HE.out (HBN.out) hlt (by omega) ho
                · have c5 := HA6.out.tbk.cellAt 5 (by simp)
                  simp only [List.getElem_cons_zero, List.getElem_cons_succ] at c5
                  by_cases hb0 : 0 < bn
                  · have hbi : (0 : Int) < (bn : Int) := by omega
                    have hkl : 0 < bs.length := by rw [HL.out.bl]; exact hb0
                    obtain ⟨bb, oo, rfl, hbx⟩ := (HA6.out.rdT HL.out).br.boxAt hkl
                    obtain ⟨z, hz⟩ := TmA.box0 (k := 0) HA6.out HL.out hb0
                    simp only [Nat.zero_mul, Nat.add_zero] at hz
                    have hnb : bb ≠ tb := by
                      obtain ⟨_, _, _, _, _, _, _, _, _, o2, _⟩ := HA6.out.ti
                      rcases o2 with e0 | o2
                      · rw [e0] at hkl; simp at hkl
                      · intro e
                        exact own_typ o2 HA6.out.tbk (by decide) (by rw [e]; rfl)
                    have hbl0 := HA6.out.tbk.lt
                    have hblb := hbx.1
                    have hal2 : Below wB.heap.size wB ((wB.alloc (.cells #[.int .i64 z] 3)).alloc (.cells #[.slice (some ⟨wB.heap.size, 0, none⟩) 1 1] 29)) := ((Below.refl _ _).alloc (Nat.le_refl _) _).alloc (by simp) _
                    have hT2 := HA6.out.tbk.later hal2
                    have hz2 := (hal2.cell (p := ⟨bb, oo, none⟩) hblb).trans hz
                    have hz3 : (((wB.alloc (.cells #[.int .i64 z] 3)).alloc (.cells #[.slice (some ⟨wB.heap.size, 0, none⟩) 1 1] 29)).setCell ⟨tb, 1, none⟩ (.slice (some ⟨wB.heap.size + 1, 0, none⟩) 1 1)).cell? ⟨bb, oo, none⟩ = some (.int .i64 z) := (World.cell?_setCell_other _ _ _ _ (fun e => hnb (by injection e with e1; exact e1.symm))).trans hz2
                    have d1 := hT2.cellAt 1 (by simp)
                    have f1 := hT2.frozen 1
                    have hT3 := hT2.set_ 1 (.slice (some ⟨wB.heap.size + 1, 0, none⟩) 1 1)
                    have d5 := hT3.cellAt 5 (by simp)
                    have hT4 := hT3.alloc (.cells #[.int .i64 z] 3)
                    have hWE : (((wB.alloc (.cells #[.int .i64 z] 3)).alloc (.cells #[.slice (some ⟨wB.heap.size, 0, none⟩) 1 1] 29)).setCell ⟨tb, 1, none⟩ (.slice (some ⟨wB.heap.size + 1, 0, none⟩) 1 1)) = (((wB.setCell ⟨tb, 1, none⟩ (.slice (some ⟨wB.heap.size + 1, 0, none⟩) 1 1)).alloc (.cells #[.int .i64 z] 3)).alloc (.cells #[.slice (some ⟨wB.heap.size, 0, none⟩) 1 1] 29)) := by
                      rw [World.setCell_alloc_past _ _ _ _ (by simp; omega), World.setCell_alloc_past _ _ _ _ hbl0]
                    rw [hWE] at hT4 hz3 d5
                    have d8 := hT4.cellAt 8 (by simp)
                    have f8 := hT4.frozen 8
                    simp only [List.getElem_cons_zero, List.getElem_cons_succ, List.set_cons_zero, List.set_cons_succ] at d1 d5 d8
                    have HE := Lib.hid (TmA.end3 HA6.out hlt htb z z)
                    have HBN : Hid (TBnd 1 bn pn hn 1 [[z]] bs plan hs [z]) := Lib.hid (by have l := HL.out.bnd; exact ⟨rfl, by omega, l.bl, l.bm, l.pl, l.pm, l.hl, l.hm, rfl, by omega⟩)
                    clear HA6 hbx hal2 hT2 hT3 hT4 hz2 hkl
                    go_upto_region 30 with fail
                    rw [hWE] at HE
                    clear hWE d1 f1 d5 d8 f8 hz3 hz c5
                    generalize ((((wB.setCell ⟨tb, 1, none⟩ (.slice (some ⟨wB.heap.size + 1, 0, none⟩) 1 1)).alloc (.cells #[.int .i64 z] 3)).alloc (.cells #[.slice (some ⟨wB.heap.size, 0, none⟩) 1 1] 29)).alloc (.cells #[.int .i64 z] 3)).setCell ⟨tb, 8, none⟩ (.slice (some ⟨wB.heap.size + 2, 0, none⟩) 1 1) = wf at *
                    have HTB := (HE.out).tbk
                    have HRB := (HE.out).rb
                    have x0 := HTB.cellAt 0 (by simp)
                    have x1 := HTB.cellAt 1 (by simp)
                    have x2 := HTB.cellAt 2 (by simp)
                    have x3 := HTB.cellAt 3 (by simp)
                    have x4 := HTB.cellAt 4 (by simp)
                    have x5 := HTB.cellAt 5 (by simp)
                    have x6 := HTB.cellAt 6 (by simp)
                    have x7 := HTB.cellAt 7 (by simp)
                    have x8 := HTB.cellAt 8 (by simp)
                    simp only [List.getElem_cons_zero, List.getElem_cons_succ] at x0 x1 x2 x3 x4 x5 x6 x7 x8
                    go_wp2_with (first | (refine wpList_store_blk rfl 34 (.tmp 4) (.tmp 138) rfl (w.heap.size) 34 [.int .i64 0, .slice none 0 0, .int .i64 0, .int .i64 0, .int .i64 0, .slice none 0 0, .slice none 0 0, .slice none 0 0, .slice none 0 0] [.int .i64 high, .slice (some ⟨wB.heap.size + 1, 0, none⟩) 1 1, .int .i64 y0, .int .i64 y1, .int .i64 y2, .slice (some ⟨bb, oo, none⟩) bn bd, .slice PB pn pd, .slice HB hn hd, .slice (some ⟨wB.heap.size + 2, 0, none⟩) 1 1] ?_ ?_ ?_ ?_ ?_ ?_ ?_; rfl; rfl; exact HRB; rfl; kernel_rfl; simp [Value.oneCell']; intro wz hz ho; have e0 := hz.cellAt 0 (by simp); have e1 := hz.cellAt 1 (by simp); have e2 := hz.cellAt 2 (by simp); have e3 := hz.cellAt 3 (by simp); have e4 := hz.cellAt 4 (by simp); have e5 := hz.cellAt 5 (by simp); have e6 := hz.cellAt 6 (by simp); have e7 := hz.cellAt 7 (by simp); have e8 := hz.cellAt 8 (by simp); simp only [List.getElem_cons_zero, List.getElem_cons_succ] at e0 e1 e2 e3 e4 e5 e6 e7 e8))
                    refine bodyPost_ret (v := .agg #[.int .i64 high, .slice (some ⟨wB.heap.size + 1, 0, none⟩) 1 1, .int .i64 y0, .int .i64 y1, .int .i64 y2, .slice (some ⟨bb, oo, none⟩) bn bd, .slice PB pn pd, .slice HB hn hd, .slice (some ⟨wB.heap.size + 2, 0, none⟩) 1 1]) (by simp [results, Tryz.results18, go_sem, e0, e1, e2, e3, e4, e5, e6, e7, e8]) rfl ?_
                    exact TmE.fin HE.out (HBN.out) hlt (by omega) ho
                  · have hbi : ¬ (0 : Int) < (bn : Int) := by omega
                    have HE := Lib.hid HA6.out.tme
                    clear HA6
                    go_upto_region 30 with fail
                    have HTB := (HE.out).tbk
                    have HRB := (HE.out).rb
                    have x0 := HTB.cellAt 0 (by simp)
                    have x1 := HTB.cellAt 1 (by simp)
                    have x2 := HTB.cellAt 2 (by simp)
                    have x3 := HTB.cellAt 3 (by simp)
                    have x4 := HTB.cellAt 4 (by simp)
                    have x5 := HTB.cellAt 5 (by simp)
                    have x6 := HTB.cellAt 6 (by simp)
                    have x7 := HTB.cellAt 7 (by simp)
                    have x8 := HTB.cellAt 8 (by simp)
                    simp only [List.getElem_cons_zero, List.getElem_cons_succ] at x0 x1 x2 x3 x4 x5 x6 x7 x8
                    go_wp2_with (first | (refine wpList_store_blk rfl 34 (.tmp 4) (.tmp 138) rfl (w.heap.size) 34 [.int .i64 0, .slice none 0 0, .int .i64 0, .int .i64 0, .int .i64 0, .slice none 0 0, .slice none 0 0, .slice none 0 0, .slice none 0 0] [.int .i64 high, .slice YB yn yd, .int .i64 y0, .int .i64 y1, .int .i64 y2, .slice BB bn bd, .slice PB pn pd, .slice HB hn hd, .slice LB ln ld] ?_ ?_ ?_ ?_ ?_ ?_ ?_; rfl; rfl; exact HRB; rfl; kernel_rfl; simp [Value.oneCell']; intro wz hz ho; have e0 := hz.cellAt 0 (by simp); have e1 := hz.cellAt 1 (by simp); have e2 := hz.cellAt 2 (by simp); have e3 := hz.cellAt 3 (by simp); have e4 := hz.cellAt 4 (by simp); have e5 := hz.cellAt 5 (by simp); have e6 := hz.cellAt 6 (by simp); have e7 := hz.cellAt 7 (by simp); have e8 := hz.cellAt 8 (by simp); simp only [List.getElem_cons_zero, List.getElem_cons_succ] at e0 e1 e2 e3 e4 e5 e6 e7 e8))
                    refine bodyPost_ret (v := .agg #[.int .i64 high, .slice YB yn yd, .int .i64 y0, .int .i64 y1, .int .i64 y2, .slice BB bn bd, .slice PB pn pd, .slice HB hn hd, .slice LB ln ld]) (by simp [results, Tryz.results18, go_sem, e0, e1, e2, e3, e4, e5, e6, e7, e8]) rfl ?_
                    exact TmE.fin HE.out (HL.out.bnd) hlt (by omega) ho
end Go.Proofs.YtbkfhcbecejomaaGreat
