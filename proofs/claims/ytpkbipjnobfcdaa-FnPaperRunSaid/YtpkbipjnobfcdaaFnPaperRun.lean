/- FnPaperRun returns true, for every code; no condition. -/
import Derived.Test.YtpkbipjnobfcdaaPapW
import Derived.Test.YtpkbipjnobfcdaaPapN
import Derived.Test.YtpkbipjnobfcdaaSameB
namespace Go.Proofs.Ytpkbipjnobfcdaa
open Go Go.ChangeShapes Go.WideShapes Go.ChangeAt Go.RowKit
set_option linter.unusedVariables false
set_option linter.unusedSimpArgs false
/-- what the law asks, in plain words, by the cells -/
structure RunFacts (p : PapV) (ds : List PaperDeedV) (p' : PapV) (bs : List Bool) : Prop where
  len : bs.length = ds.length
  ok : papOkV p' = true
  zero : ∀ k (h : k < ds.length), bs.getD k false = true → (ds[k]).f0 = 2 → ∀ m : Int, 0 ≤ m → m ≤ 2 → cnt p (ds.map deedV) bs (ds[k]).f1 m k = 0
  last : ∀ k j (h : k < ds.length) (h2 : j < ds.length), k < j → bs.getD k false = true → (ds[k]).f0 = 2 → bs.getD j false = true → (ds[j]).f1 ≠ (ds[k]).f1
  marks : ∀ x, 0 ≤ marksOf p.hs x ∧ marksOf p.hs x ≤ 7
theorem run_facts (p : PapV) (ds : List PaperDeedV) : (papOkV p = false ∧ paperRun p (ds.map deedV) = (⟨[], []⟩, [])) ∨ (papOkV p = true ∧ ∃ p' bs, paperRun p (ds.map deedV) = (p', bs) ∧ RunFacts p ds p' bs) := by
  cases hok : papOkV p with
  | false => exact .inl ⟨rfl, by simp [paperRun, hok]⟩
  | true =>
    have e : paperRun p (ds.map deedV) = prun p (ds.map deedV) := by simp [paperRun, hok]
    have hl : (prun p (ds.map deedV)).2.length = ds.length := by rw [prun_len, List.length_map]
    refine .inr ⟨rfl, (prun p (ds.map deedV)).1, (prun p (ds.map deedV)).2, e, hl, prun_ok hok _, fun k h hb h2 m m0 m2 => ?_, fun k j h hj hkj hb h2 hbj => ?_, fun x => marksOf_range (papOk_iff.1 hok).1 x⟩
    · have hk : k < (ds.map deedV).length := by rw [List.length_map]; exact h
      have hbl : k < (prun p (ds.map deedV)).2.length := by rw [hl]; exact h
      rw [List.getD, List.getElem?_eq_getElem hbl] at hb
      have := leave_zero hok hk hbl hb (by rw [List.getElem_map]; exact h2) m0 m2
      rw [List.getElem_map] at this
      exact this
    · have hk : k < (ds.map deedV).length := by rw [List.length_map]; exact h
      have hkj' : j < (ds.map deedV).length := by rw [List.length_map]; exact hj
      have hbl : k < (prun p (ds.map deedV)).2.length := by rw [hl]; exact h
      have hbl2 : j < (prun p (ds.map deedV)).2.length := by rw [hl]; exact hj
      rw [List.getD, List.getElem?_eq_getElem hbl] at hb
      rw [List.getD, List.getElem?_eq_getElem hbl2] at hbj
      have := leave_last hok hk hkj' hkj hbl hbl2 hb (by rw [List.getElem_map]; exact h2) hbj
      rw [List.getElem_map, List.getElem_map] at this
      exact this
theorem cnt_step (p : PapV) (ds : List PaperDeedV) (bs : List Bool) (x m : Int) {j : Nat} (hj : j < ds.length) : cnt p (ds.map deedV) bs x m (j + 1) = cnt p (ds.map deedV) bs x m j + dlt (bs.getD j false) (deedV ds[j]) x m := by
  show cnt p (ds.map deedV) bs x m j + dlt _ ((ds.map deedV).getD j ⟨0, 0, 0⟩) x m = _
  rw [show (ds.map deedV).getD j ⟨0, 0, 0⟩ = deedV ds[j] from by simp [List.getD, hj]]
/-- what one deed adds -/
theorem dlt_zero {b : Bool} {d : PaperDeedV} {x m : Int} (h : b = false ∨ d.f1 ≠ x ∨ d.f2 ≠ m ∨ (d.f0 ≠ 0 ∧ d.f0 ≠ 1)) : dlt b (deedV d) x m = 0 := by
  unfold dlt deedV
  dsimp only
  rw [if_neg (fun hc => by obtain ⟨c1, c2, c3, c4⟩ := hc; rcases h with h | h | h | ⟨h, _⟩; rw [h] at c1; cases c1; exact h c2; exact h c3; exact h c4), if_neg (fun hc => by obtain ⟨c1, c2, c3, c4⟩ := hc; rcases h with h | h | h | ⟨_, h⟩; rw [h] at c1; cases c1; exact h c2; exact h c3; exact h c4)]
  rfl
theorem dlt_one {d : PaperDeedV} {x m : Int} (h1 : d.f1 = x) (h2 : d.f2 = m) (h0 : d.f0 = 0) : dlt true (deedV d) x m = 1 := by
  unfold dlt deedV
  dsimp only
  rw [if_pos ⟨rfl, h1, h2, h0⟩, if_neg (fun hc => by have := hc.2.2.2; omega)]
  rfl
theorem dlt_neg {d : PaperDeedV} {x m : Int} (h1 : d.f1 = x) (h2 : d.f2 = m) (h0 : d.f0 = 1) : dlt true (deedV d) x m = -1 := by
  unfold dlt deedV
  dsimp only
  rw [if_neg (fun hc => by have := hc.2.2.2; omega), if_pos ⟨rfl, h1, h2, h0⟩]
  rfl
theorem done_cell {w : World} {D : Option Addr} {bs : List Bool} {k : Nat} (h : RdV w D (bools bs)) (hk : k < bs.length) : ∃ b o, D = some ⟨b, o, none⟩ ∧ b < w.heap.size ∧ w.cell? ⟨b, o + k, none⟩ = some (.bool (bs.getD k false)) := by
  have hk' : k < (bools bs).length := by rw [bools_len]; exact hk
  obtain ⟨b, o, hD, hl, hc⟩ := h.pos hk'
  have := hc k hk'
  rw [bools_at] at this
  exact ⟨b, o, hD, hl, by rw [this, List.getD, List.getElem?_eq_getElem hk]; rfl⟩
/-- all that the law reads -/
structure RunW (w W : World) (qp qx : Nat) (HA : Option Addr) (pn hc : Nat) (LA : Option Addr) (pm lc : Nat) (p : PapV) (XA : Option Addr) (xn xc : Nat) (XL : Option Addr) (xm xlc : Nat) (p' : PapV) (D : Option Addr) (ds : List PaperDeedV) (V : Option Addr) (bs : List Bool) : Prop where
  src : PapB W qp HA pn hc LA pm lc p
  out : PapB W qx XA xn xc XL xm xlc p'
  list : RdV W D (paperdeeds ds)
  don : RdV W V (bools bs)
  bel : Below w.heap.size w W
theorem RunW.later {w W W' : World} {qp qx : Nat} {HA : Option Addr} {pn hc : Nat} {LA : Option Addr} {pm lc : Nat} {p : PapV} {XA : Option Addr} {xn xc : Nat} {XL : Option Addr} {xm xlc : Nat} {p' : PapV} {D : Option Addr} {ds : List PaperDeedV} {V : Option Addr} {bs : List Bool} (h : RunW w W qp qx HA pn hc LA pm lc p XA xn xc XL xm xlc p' D ds V bs) (hb : Below W.heap.size W W') : RunW w W' qp qx HA pn hc LA pm lc p XA xn xc XL xm xlc p' D ds V bs :=
  ⟨h.src.later hb, h.out.later hb, h.list.below hb, h.don.below hb, below_trans h.bel hb⟩
theorem drewN_below (w : World) (n : Nat) : Below w.heap.size w (w.drewN n) := below_drewN (Below.refl _ _) n
set_option maxRecDepth 100000 in
set_option maxHeartbeats 8000000 in
theorem walkFnPaperRun (w : World) (A : Option Addr) (n c : Nat) (bs : List Int) (h : Code w A n c bs) :
    Calls Try.prog 7 #[.slice A n c] w fun e w' => e = .returned (.bool true) ∧ Below w.heap.size w w' := by
  by_cases hn : (n : Int) ≤ 1048576
  · go_enter Try.func7, Try.ntmps7
    go_wp2_with fail
    refine (drawPaperRun_any A n c bs w h).mono ?_
    rintro e w1 ⟨_, _, rfl, hs, ls, ds, D, d, dc, ⟨HA, pn, hc, LA, pm, lc, rfl, e1, e2, e3, e4, o1, o2⟩, rfl, hdl, hd16, hD, hb1⟩
    obtain ⟨p, rfl, rfl⟩ : ∃ p : PapV, p.hs = hs ∧ p.ls = ls := ⟨⟨hs, ls⟩, rfl, rfl⟩
    have hal : Below w1.heap.size w1 (w1.alloc (.cells #[.slice HA pn hc, .slice LA pm lc] 26)) := (Below.refl _ _).alloc (Nat.le_refl _) _
    have P2 : Hid (PapB (w1.alloc (.cells #[.slice HA pn hc, .slice LA pm lc] 26)) w1.heap.size HA pn hc LA pm lc p) := Lib.hid (PapB.new (papQ_own (p := p) e1 e2 e3 e4 o1 o2))
    have B2 := Lib.hid (below_trans hb1 hal)
    have D2 := Lib.hid (hD.below hal)
    have HDL := Lib.hid hdl
    have HW := Lib.hid (run_facts p ds)
    clear h e1 e2 o1 o2 hb1 hal hD hdl
    go_wp2_with fail
    generalize w1.alloc (.cells #[.slice HA pn hc, .slice LA pm lc] 26) = w2 at *
    generalize w1.heap.size = qp at *
    have p0 := (P2.out).blk.cellAt 0 (by simp)
    have p1 := (P2.out).blk.cellAt 1 (by simp)
    simp only [List.getElem_cons_zero, List.getElem_cons_succ] at p0 p1
    generalize hr : paperRun p (ds.map deedV) = r at *
    have HR := Lib.hid hr
    obtain ⟨p', bs'⟩ := r
    clear hr
    refine (implRunR HR.out P2.out.rd HDL.out (by omega) D2.out).mono ?_
    rintro e w3 ⟨A3, n3, c3, L3, m3, lc3, V, d3, vc, rfl, h3, hd3, hV3, b3⟩
    have hal : Below w3.heap.size w3 (w3.alloc (.cells #[.slice A3 n3 c3, .slice L3 m3 lc3] 26)) := (Below.refl _ _).alloc (Nat.le_refl _) _
    have X4 := Lib.hid (PapB.new h3)
    have b4 := below_trans b3 hal
    have P4 := Lib.hid (P2.out.later b4)
    have D4 := Lib.hid (D2.out.below b4)
    have V4 := Lib.hid (hV3.below hal)
    have B4 := Lib.hid (below_trans B2.out b4)
    have HVL := Lib.hid hd3
    clear h3 b3 hal b4 p0 p1 P2 D2 B2 hV3 hd3
    have p0 := (P4.out).blk.cellAt 0 (by simp)
    have p1 := (P4.out).blk.cellAt 1 (by simp)
    simp only [List.getElem_cons_zero, List.getElem_cons_succ] at p0 p1
    go_wp2_with fail
    generalize w3.alloc (.cells #[.slice A3 n3 c3, .slice L3 m3 lc3] 26) = w4 at *
    generalize w3.heap.size = qx at *
    refine (specRunR HR.out P4.out.rd HDL.out (by omega) D4.out).mono ?_
    rintro e w5 ⟨A5, n5, c5, L5, m5, lc5, U, d5, uc, rfl, h5, hd5, hU5, b5⟩
    obtain rfl : d3 = d5 := HVL.out.symm.trans hd5
    have hal : Below w5.heap.size w5 (w5.alloc (.cells #[.slice A5 n5 c5, .slice L5 m5 lc5] 26)) := (Below.refl _ _).alloc (Nat.le_refl _) _
    have Y6 := Lib.hid (PapB.new h5)
    have b6 := below_trans b5 hal
    have W6 : Hid (RunW w (w5.alloc (.cells #[.slice A5 n5 c5, .slice L5 m5 lc5] 26)) qp qx HA pn hc LA pm lc p A3 n3 c3 L3 m3 lc3 p' D ds V bs') := Lib.hid ⟨P4.out.later b6, X4.out.later b6, D4.out.below b6, V4.out.below b6, below_trans B4.out b6⟩
    have U6 := Lib.hid (hU5.below hal)
    clear h5 b5 hal b6 p0 p1 P4 X4 D4 V4 B4 hd5 hU5
    have x0 := (W6.out.out).blk.cellAt 0 (by simp)
    have x1 := (W6.out.out).blk.cellAt 1 (by simp)
    simp only [List.getElem_cons_zero, List.getElem_cons_succ] at x0 x1
    have y0 := (Y6.out).blk.cellAt 0 (by simp)
    have y1 := (Y6.out).blk.cellAt 1 (by simp)
    simp only [List.getElem_cons_zero, List.getElem_cons_succ] at y0 y1
    go_wp2_with fail
    generalize w5.alloc (.cells #[.slice A5 n5 c5, .slice L5 m5 lc5] 26) = w6 at *
    refine (sameR (same_refl _) W6.out.out.rd Y6.out.rd).mono ?_
    rintro e w7 ⟨rfl, b7⟩
    have W7 := Lib.hid (W6.out.later b7)
    have U7 := Lib.hid (U6.out.below b7)
    clear b7 x0 x1 y0 y1 W6 Y6 U6
    have hd3s : d3 ≤ 1000 := by
      rcases HW.out with ⟨_, e⟩ | ⟨_, q1, q2, e, f⟩
      · obtain rfl : bs' = [] := congrArg Prod.snd e
        have := HVL.out
        simp at this
        omega
      · obtain rfl : bs' = q2 := congrArg Prod.snd e
        have h1 := f.len
        have h2 := HVL.out
        have h3 := HDL.out
        omega
    go_wp2_with fail
    refine (sameBools_any V U bs' d3 vc uc HVL.out _ W7.out.don U7.out (by omega)).mono ?_
    rintro e w8 ⟨rfl, b8⟩
    have W8 := Lib.hid (W7.out.later b8)
    clear b8 W7 U7
    have p0 := (W8.out.src).blk.cellAt 0 (by simp)
    have p1 := (W8.out.src).blk.cellAt 1 (by simp)
    simp only [List.getElem_cons_zero, List.getElem_cons_succ] at p0 p1
    go_wp2_with fail
    rcases HW.out with ⟨hv, e⟩ | ⟨hv, q1, q2, e, f⟩
    · have HV := Lib.hid hv
      obtain rfl : bs' = [] := congrArg Prod.snd e
      have hd0 : d3 = 0 := by have := HVL.out; simpa using this.symm
      have hdz : ((d3 : Int) == 0) = true := by simp [hd0]
      clear hv e HW hd0 HR
      refine (specValidR HV.out W8.out.src.rd).mono ?_
      rintro e w9 ⟨rfl, b9⟩
      have B9 := Lib.hid (below_trans W8.out.bel b9)
      clear b9 W8 p0 p1
      go_wp2_with fail
      refine (alive_any _).mono ?_
      rintro e w' ⟨rfl, rfl⟩
      go_wp2_with fail
      go_ret
      exact ⟨rfl, B9.out⟩
    · have HV := Lib.hid hv
      obtain rfl : p' = q1 := congrArg Prod.fst e
      obtain rfl : bs' = q2 := congrArg Prod.snd e
      obtain rfl : d = d3 := by
        have h1 := f.len
        have h2 := HVL.out
        have h3 := HDL.out
        omega
      have HF := Lib.hid f
      clear hv e HW HR f
      refine (specValidR HV.out W8.out.src.rd).mono ?_
      rintro e w9 ⟨rfl, b9⟩
      have W9 := Lib.hid (W8.out.later b9)
      clear b9 W8 p0 p1
      go_wp2_with fail
      go_loopw [9] (fun i wr => ∃ k : Nat, k ≤ d ∧ i = .int .i64 k ∧ RunW w wr qp qx HA pn hc LA pm lc p A3 n3 c3 L3 m3 lc3 p' D ds V bs') (fun i _ => d - (intOf i).toNat)
      case atStart => exact ⟨0, Nat.zero_le _, rfl, W9.out⟩
      case round =>
        clear W9
        obtain ⟨k, hk, rfl, hW⟩ := hrel
        have HRW := Lib.hid hW
        by_cases hlt : k < d
        · have hke : k < ds.length := by rw [HDL.out]; exact hlt
          have hkb : k < bs'.length := by rw [HF.out.len]; exact hke
          obtain ⟨b, o, rfl, hl, c0, c1, c2⟩ := hW.list.paperdeedAt hke
          obtain ⟨b2, o2, rfl, hl2, cv⟩ := done_cell hW.don hkb
          have HZ := Lib.hid (HF.out.zero k hke)
          have HL := Lib.hid (fun j h2 => HF.out.last k j hke h2)
          generalize hx1 : (ds[k]).f1 = x at *
          have HX1 := Lib.hid hx1
          generalize (ds[k]).f0 = kd at *
          generalize (ds[k]).f2 = mk at *
          generalize bs'.getD k false = bk at *
          have hki : (k : Int) < (d : Int) := by omega
          have hk0 : (0 : Int) ≤ (k : Int) := by omega
          clear hW hx1
          cases bk with
          | false =>
            go_wp2_with fail
            go_roundw
            case rel => exact ⟨k + 1, by omega, by go_num, HRW.out⟩
            case measure => simp [intOf]; omega
          | true =>
            by_cases hkd : kd = 2
            · have hq : (kd != 2) = false := by simp [hkd]
              have HZ2 := Lib.hid (HZ.out rfl hkd)
              have HL2 : Hid (∀ j (h2 : j < ds.length), k < j → bs'.getD j false = true → (ds[j]).f1 ≠ x) := Lib.hid (fun j h2 hkj hb => HL.out j h2 hkj rfl hkd hb)
              clear hkd HZ HL
              go_wp2_with fail
              go_loopw [10] (fun i wr => ∃ mk : Nat, mk ≤ 3 ∧ i = .int .i64 mk ∧ RunW w wr qp qx HA pn hc LA pm lc p A3 n3 c3 L3 m3 lc3 p' (some ⟨b, o, none⟩) ds (some ⟨b2, o2, none⟩) bs') (fun i _ => 3 - (intOf i).toNat)
              case atStart => exact ⟨0, Nat.zero_le _, rfl, HRW.out⟩
              case round =>
                clear HRW c0 c1 c2 cv
                obtain ⟨mj, hmj, rfl, hW⟩ := hrel
                have HRW := Lib.hid hW
                by_cases hm3 : mj < 3
                · have hmi : (mj : Int) < 3 := by omega
                  obtain ⟨b3, o3, e3', hl3, c0, c1, c2⟩ := hW.list.paperdeedAt hke
                  injection e3' with e3'
                  injection e3' with e4' e5'
                  subst e4' e5'
                  rw [HX1.out] at c1
                  have p0 := (hW.src).blk.cellAt 0 (by simp)
                  have p1 := (hW.src).blk.cellAt 1 (by simp)
                  simp only [List.getElem_cons_zero, List.getElem_cons_succ] at p0 p1
                  have z0 : ∀ u : BelW wr, u.W.cell? ⟨qp, 0, none⟩ = some (.slice HA pn hc) := fun u => u.cell hW.src.blk.lt p0
                  have z1 : ∀ u : BelW wr, u.W.cell? ⟨qp, 1, none⟩ = some (.slice LA pm lc) := fun u => u.cell hW.src.blk.lt p1
                  have z2 : ∀ u : BelW wr, u.W.cell? ⟨b, o + k * 3 + 1, none⟩ = some (.int .i64 x) := fun u => u.cell hl3 c1
                  have hM := fun (u : BelW wr) => implMarksR (x := x) rfl (HRW.out.src.rd.later u.ok)
                  have HGB := Lib.hid (HF.out.marks x)
                  have HC0 : Hid (∀ m, cnt p (ds.map deedV) bs' x m 0 = bitI (marksOf p.hs x) m) := Lib.hid (fun m => rfl)
                  generalize marksOf p.hs x = g at *
                  obtain ⟨hg0, hg7⟩ := HGB.out
                  clear hW c0 c1 c2 p0 p1
                  go_upto_region 17 with fail
                  go_cut [11] from 76 to 86 (fun s11 wx => s11 = .int .i64 (cnt p (ds.map deedV) bs' x (mj : Int) 0) ∧ Below wr.heap.size wr wx)
                  case first =>
                    obtain rfl | rfl | rfl : mj = 0 ∨ mj = 1 ∨ mj = 2 := by omega
                    · have HCM : Hid (g % 2 = cnt p (ds.map deedV) bs' x ((0 : Nat) : Int) 0) := Lib.hid (by rw [HC0.out, bitI, show powM ((0 : Nat) : Int) = 1 from by decide, Int.ediv_one])
                      clear HC0 hm3 hmi hmj
                      go_wp2_with fail
                      refine wp_region_below (by kernel_rfl) (by kernel_rfl) ?_
                      repeat (go_big_quiet_step ((go_at_call 10; exact calls_below (hM _))))
                      refine wpQuiet_nil ?_
                      intro _ hw'
                      obtain ⟨⟨wq, hbq⟩, hw''⟩ := hw'
                      subst hw''
                      go_wp2_with fail
                      go_meet
                      exact ⟨by rw [HCM.out], hbq⟩
                    · have HCM : Hid (g / 2 % 2 = cnt p (ds.map deedV) bs' x ((1 : Nat) : Int) 0) := Lib.hid (by rw [HC0.out, bitI, show powM ((1 : Nat) : Int) = 2 from by decide])
                      clear HC0 hm3 hmi hmj
                      go_wp2_with fail
                      refine wp_region_below (by kernel_rfl) (by kernel_rfl) ?_
                      repeat (go_big_quiet_step ((go_at_call 10; exact calls_below (hM _))))
                      refine wpQuiet_nil ?_
                      intro _ hw'
                      obtain ⟨⟨wq, hbq⟩, hw''⟩ := hw'
                      subst hw''
                      go_wp2_with fail
                      go_meet
                      exact ⟨by rw [HCM.out], hbq⟩
                    · have HCM : Hid (g / 4 % 2 = cnt p (ds.map deedV) bs' x ((2 : Nat) : Int) 0) := Lib.hid (by rw [HC0.out, bitI, show powM ((2 : Nat) : Int) = 4 from by decide])
                      clear HC0 hm3 hmi hmj
                      go_wp2_with fail
                      refine wp_region_below (by kernel_rfl) (by kernel_rfl) ?_
                      repeat (go_big_quiet_step ((go_at_call 10; exact calls_below (hM _))))
                      refine wpQuiet_nil ?_
                      intro _ hw'
                      obtain ⟨⟨wq, hbq⟩, hw''⟩ := hw'
                      subst hw''
                      go_wp2_with fail
                      go_meet
                      exact ⟨by rw [HCM.out], hbq⟩
                  case rest =>
                    obtain ⟨rfl, hbq⟩ := hcut
                    have HRQ := Lib.hid (HRW.out.later hbq)
                    have HCM : Hid True := Lib.hid trivial
                    clear hM z0 z1 z2 HRW hbq HC0 HGB hg0 hg7
                    go_wp2_with fail
                    go_loopw [11, 12] (fun v i wi => ∃ j : Nat, j ≤ k ∧ i = .int .i64 j ∧ v = .int .i64 (cnt p (ds.map deedV) bs' x (mj : Int) j) ∧ RunW w wi qp qx HA pn hc LA pm lc p A3 n3 c3 L3 m3 lc3 p' (some ⟨b, o, none⟩) ds (some ⟨b2, o2, none⟩) bs') (fun _ i _ => k - (intOf i).toNat)
                    case atStart => exact ⟨0, Nat.zero_le _, rfl, rfl, HRQ.out⟩
                    case round =>
                      clear HRQ HCM
                      obtain ⟨j, hj, rfl, rfl, hW⟩ := hrel
                      have HRW := Lib.hid hW
                      have hcb := cnt_bd p (ds.map deedV) bs' x (mj : Int) j
                      by_cases hjk : j < k
                      · have hje : j < ds.length := by omega
                        have hjb : j < bs'.length := by rw [HF.out.len]; exact hje
                        obtain ⟨b3, o3, e3', hl3, kq0, k1, kq2⟩ := hW.list.paperdeedAt hke
                        clear kq0 kq2
                        injection e3' with e3'
                        injection e3' with e4' e5'
                        subst e4' e5'
                        rw [HX1.out] at k1
                        obtain ⟨b3, o3, e3', hl4, c0, c1, c2⟩ := hW.list.paperdeedAt hje
                        injection e3' with e3'
                        injection e3' with e4' e5'
                        subst e4' e5'
                        obtain ⟨b3, o3, e3', hl5, cv⟩ := done_cell hW.don hjb
                        injection e3' with e3'
                        injection e3' with e4' e5'
                        subst e4' e5'
                        have HST := Lib.hid (cnt_step p ds bs' x (mj : Int) hje)
                        generalize cnt p (ds.map deedV) bs' x (mj : Int) j = cj at *
                        generalize ds[j] = y at *
                        obtain ⟨y0, y1, y2⟩ := y
                        dsimp only at c0 c1 c2
                        generalize bs'.getD j false = bj at *
                        have hji : (j : Int) < (d : Int) := by omega
                        have hjk2 : (j : Int) < (k : Int) := by omega
                        have hj0 : (0 : Int) ≤ (j : Int) := by omega
                        clear hW HZ2 HL2 HV HX1 hl3 hl4 hl5 hl hl2 hm3 hmi hmj hjb hje hkb hke
                        cases bj with
                        | false =>
                          have HE1 := Lib.hid (HST.out.trans (by rw [dlt_zero (.inl rfl), Int.add_zero]))
                          have HEQ := Lib.hid HE1.out
                          clear HST
                          go_wp2_with fail
                          go_quiet (fail)
                          go_wp2_with fail
                          go_quiet (fail)
                          go_wp2_with fail
                          go_roundw
                          case rel => exact ⟨j + 1, by omega, by go_num, by rw [HEQ.out], HRW.out.later (drewN_below _ _)⟩
                          case measure => simp [intOf]; omega
                        | true =>
                          by_cases h1 : y1 = x
                          · have q1 : (y1 == x) = true := by simp [h1]
                            by_cases h2 : y2 = (mj : Int)
                            · have q2 : (y2 == (mj : Int)) = true := by simp [h2]
                              by_cases h3 : y0 = 0
                              · have q3 : (y0 == 0) = true := by simp [h3]
                                have q4 : (y0 == 1) = false := by simp [h3]
                                have HE1 := Lib.hid (HST.out.trans (by rw [dlt_one h1 h2 h3]))
                                clear h1 h2 h3
                                have HEQ := Lib.hid HE1.out
                                clear HST
                                go_wp2_with fail
                                go_quiet (fail)
                                go_wp2_with fail
                                go_quiet (fail)
                                go_wp2_with fail
                                go_roundw
                                case rel => exact ⟨j + 1, by omega, by go_num, by rw [HEQ.out], HRW.out.later (drewN_below _ _)⟩
                                case measure => simp [intOf]; omega
                              · have q3 : (y0 == 0) = false := by simp [h3]
                                by_cases h4 : y0 = 1
                                · have q4 : (y0 == 1) = true := by simp [h4]
                                  have HE1 := Lib.hid (HST.out.trans (by rw [dlt_neg h1 h2 h4]; rfl : _ = cj - 1))
                                  clear h1 h2 h3 h4
                                  have HEQ := Lib.hid HE1.out
                                  clear HST
                                  go_wp2_with fail
                                  go_quiet (fail)
                                  go_wp2_with fail
                                  go_quiet (fail)
                                  go_wp2_with fail
                                  go_roundw
                                  case rel => exact ⟨j + 1, by omega, by go_num, by rw [HEQ.out], HRW.out.later (drewN_below _ _)⟩
                                  case measure => simp [intOf]; omega
                                · have q4 : (y0 == 1) = false := by simp [h4]
                                  have HE1 := Lib.hid (HST.out.trans (by rw [dlt_zero (.inr (.inr (.inr ⟨h3, h4⟩))), Int.add_zero]))
                                  clear h1 h2 h3 h4
                                  have HEQ := Lib.hid HE1.out
                                  clear HST
                                  go_wp2_with fail
                                  go_quiet (fail)
                                  go_wp2_with fail
                                  go_quiet (fail)
                                  go_wp2_with fail
                                  go_roundw
                                  case rel => exact ⟨j + 1, by omega, by go_num, by rw [HEQ.out], HRW.out.later (drewN_below _ _)⟩
                                  case measure => simp [intOf]; omega
                            · have q2 : (y2 == (mj : Int)) = false := by simp [h2]
                              have HE1 := Lib.hid (HST.out.trans (by rw [dlt_zero (.inr (.inr (.inl h2))), Int.add_zero]))
                              clear h1 h2
                              have HEQ := Lib.hid HE1.out
                              clear HST
                              go_wp2_with fail
                              go_quiet (fail)
                              go_wp2_with fail
                              go_quiet (fail)
                              go_wp2_with fail
                              go_roundw
                              case rel => exact ⟨j + 1, by omega, by go_num, by rw [HEQ.out], HRW.out.later (drewN_below _ _)⟩
                              case measure => simp [intOf]; omega
                          · have q1 : (y1 == x) = false := by simp [h1]
                            have HE1 := Lib.hid (HST.out.trans (by rw [dlt_zero (.inr (.inl h1)), Int.add_zero]))
                            clear h1
                            have HEQ := Lib.hid HE1.out
                            clear HST
                            go_wp2_with fail
                            go_quiet (fail)
                            go_wp2_with fail
                            go_quiet (fail)
                            go_wp2_with fail
                            go_roundw
                            case rel => exact ⟨j + 1, by omega, by go_num, by rw [HEQ.out], HRW.out.later (drewN_below _ _)⟩
                            case measure => simp [intOf]; omega
                      · obtain rfl : j = k := by omega
                        have hz := HZ2.out (mj : Int) (by omega) (by omega)
                        clear hW hcb
                        go_wp2_with fail
                        go_roundw
                        case rel => exact ⟨mj + 1, by omega, by go_num, HRW.out⟩
                        case measure => simp [intOf]; omega
                · obtain rfl : mj = 3 := by omega
                  clear hW hmj hm3
                  go_wp2_with fail
                  go_loopw [13] (fun i wi => ∃ j : Nat, k + 1 ≤ j ∧ j ≤ d ∧ i = .int .i64 j ∧ RunW w wi qp qx HA pn hc LA pm lc p A3 n3 c3 L3 m3 lc3 p' (some ⟨b, o, none⟩) ds (some ⟨b2, o2, none⟩) bs') (fun i _ => d - (intOf i).toNat)
                  case atStart => exact ⟨k + 1, by omega, by omega, by go_num, HRW.out⟩
                  case round =>
                    clear HRW
                    obtain ⟨j, hj1, hj2, rfl, hW⟩ := hrel
                    have HRW := Lib.hid hW
                    by_cases hjd : j < d
                    · have hje : j < ds.length := by rw [HDL.out]; exact hjd
                      have hjb : j < bs'.length := by rw [HF.out.len]; exact hje
                      obtain ⟨b3, o3, e3', hl3, kq0, k1, kq2⟩ := hW.list.paperdeedAt hke
                      clear kq0 kq2
                      injection e3' with e3'
                      injection e3' with e4' e5'
                      subst e4' e5'
                      rw [HX1.out] at k1
                      obtain ⟨b3, o3, e3', hl4, c0, c1, c2⟩ := hW.list.paperdeedAt hje
                      injection e3' with e3'
                      injection e3' with e4' e5'
                      subst e4' e5'
                      obtain ⟨b3, o3, e3', hl5, cv⟩ := done_cell hW.don hjb
                      injection e3' with e3'
                      injection e3' with e4' e5'
                      subst e4' e5'
                      have HNE := Lib.hid (HL2.out j hje (by omega))
                      generalize (ds[j]).f0 = y0 at *
                      generalize (ds[j]).f1 = y1 at *
                      generalize (ds[j]).f2 = y2 at *
                      generalize bs'.getD j false = bj at *
                      have hji : (j : Int) < (d : Int) := by omega
                      have hj0 : (0 : Int) ≤ (j : Int) := by omega
                      clear hW
                      cases bj with
                      | false =>
                        clear HNE
                        go_wp2_with fail
                        go_quiet (fail)
                        go_wp2_with fail
                        refine ⟨?_, ?measure⟩
                        repeat apply Exists.intro
                        refine ⟨?rel, rfl⟩
                        case rel => exact ⟨j + 1, by omega, by omega, by go_num, HRW.out.later (drewN_below _ _)⟩
                        case measure => simp [intOf]; omega
                      | true =>
                        have hne := HNE.out rfl
                        have hq1 : (y1 == x) = false := by simp [hne]
                        clear HNE hne
                        go_wp2_with fail
                        go_quiet (fail)
                        go_wp2_with fail
                        refine ⟨?_, ?measure⟩
                        repeat apply Exists.intro
                        refine ⟨?rel, rfl⟩
                        case rel => exact ⟨j + 1, by omega, by omega, by go_num, HRW.out.later (drewN_below _ _)⟩
                        case measure => simp [intOf]; omega
                    · clear hW
                      go_wp2_with fail
                      go_roundw
                      case rel => exact ⟨k + 1, by omega, by go_num, HRW.out⟩
                      case measure => simp [intOf]; omega
            · have hq : (kd != 2) = true := by simp [hkd]
              clear hkd HZ HL
              go_wp2_with fail
              go_roundw
              case rel => exact ⟨k + 1, by omega, by go_num, HRW.out⟩
              case measure => simp [intOf]; omega
        · obtain rfl : d = k := by omega
          have x0 := (hW.out).blk.cellAt 0 (by simp)
          have x1 := (hW.out).blk.cellAt 1 (by simp)
          simp only [List.getElem_cons_zero, List.getElem_cons_succ] at x0 x1
          clear hW
          go_wp2_with fail
          refine (implValidR HF.out.ok HRW.out.out.rd).mono ?_
          rintro e wz ⟨rfl, bz⟩
          have BZ := Lib.hid (below_trans HRW.out.bel bz)
          clear bz x0 x1 HRW
          go_wp2_with fail
          go_ret
          exact ⟨rfl, BZ.out⟩
  · go_enter Try.func7, Try.ntmps7
    go_wp2_with fail
    go_ret
    exact ⟨rfl, Below.refl _ _⟩
end Go.Proofs.Ytpkbipjnobfcdaa
