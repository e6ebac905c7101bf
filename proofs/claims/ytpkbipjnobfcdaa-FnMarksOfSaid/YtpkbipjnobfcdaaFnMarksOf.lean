/- FnMarksOf returns true, for every code; no condition. -/
import Derived.Test.YtpkbipjnobfcdaaPapW
import Derived.Deep.RegionHeld3
import Derived.Deep.CutRange
namespace Go.Proofs.Ytpkbipjnobfcdaa
open Go Go.ChangeShapes Go.WideShapes Go.ChangeAt Go.RowKit
set_option linter.unusedVariables false
set_option linter.unusedSimpArgs false
/-- what the law asks, in plain words -/
theorem marks_facts (p : PapV) (x : Int) : papOkV p = false ∨ (papOkV p = true ∧ ∃ p' bs, paperRun p ((freeD p x).map deedV) = (p', bs) ∧ bs.length ≤ 3 ∧ (0 ≤ marksOf p.hs x ∧ marksOf p.hs x ≤ 7) ∧ marksOf p'.hs x = 0 ∧ p'.hs.length + (if marksOf p.hs x = 0 then 0 else 1) = p.hs.length ∧ ∀ j (h : j < p.hs.length), (p.hs[j]).f0 ≠ x → marksOf p'.hs (p.hs[j]).f0 = (p.hs[j]).f1) := by
  cases hok : papOkV p with
  | false => exact .inl rfl
  | true =>
    obtain ⟨p', e1, e2, e3, e4, e5, e6⟩ := free_run hok x 3 (by omega)
    have hr := marksOf_range (papOk_iff.1 hok).1 x
    have ef : freeD p x = freeTo (marksOf p.hs x) x 3 := by simp [freeD, hok]
    rw [clr_all hr.1 hr.2] at e4 e6
    refine .inr ⟨rfl, p', List.replicate (freeTo (marksOf p.hs x) x 3).length true, ?_, ?_, hr, e4, by simpa using e6, fun j hj hne => ?_⟩
    · unfold paperRun
      rw [if_pos hok, ef]
      exact e1
    · rw [List.length_replicate]
      exact freeTo_len _ _ _
    · rw [e5 _ hne]
      exact marksOf_eq (papOk_iff.1 hok).1 (List.getElem_mem hj) rfl
/-- the free papers' variable and what was done -/
def FreeCut (w5 : World) (r : PapV × List Bool) (s6 s7 : Value) (wx : World) : Prop :=
  ∃ g A n c L m lc D d dc, s6 = .pointer (some ⟨g, 0, none⟩) ∧ s7 = .slice D d dc ∧ r.2.length = d ∧ PapB wx g A n c L m lc r.1 ∧ Below w5.heap.size w5 wx
theorem implRunO {w : World} {A L D : Option Addr} {n c m lc d dc : Nat} {p : PapV} {ds : List PaperDeedV} {r : PapV × List Bool} (hpd : paperRun p (ds.map deedV) = r) (h : PapQ w A n c L m lc p) (hd : ds.length = d) (hd1 : d ≤ 1000) (hrd : RdV w D (paperdeeds ds)) :
    Calls Try.prog 14 #[.agg #[.slice A n c, .slice L m lc], .slice D d dc] w fun e w' => ∃ A2 n2 c2 L2 m2 lc2 D2 d2 dc2, e = .returned (.tuple #[.agg #[.slice A2 n2 c2, .slice L2 m2 lc2], .slice D2 d2 dc2]) ∧ (r.1.hs.length = n2 ∧ r.1.ls.length = m2 ∧ n2 ≤ 13 ∧ m2 ≤ 13) ∧ r.2.length = d2 ∧ w'.ownsRow w.heap.size 38 2 (.slice A2 n2 c2) n2 (holds r.1.hs) ∧ w'.ownsRow w.heap.size 3 1 (.slice L2 m2 lc2) m2 (ints r.1.ls) ∧ Below w.heap.size w w' := by
  have h1 := h.n13
  have h2 := h.m13
  refine (implPaperRun A L D n c m lc d dc p.hs p.ls ds w h.hn h.hm hd h.hold h.left hrd (by omega) (by omega) (by omega)).mono ?_
  rintro e w' ⟨_, rfl, A2, c2, L2, lc2, D2, dc2, rfl, o1, o2, o3, hb⟩
  have hs := paperRun_sm p (ds.map deedV)
  have e1 : paperRun ⟨p.hs, p.ls⟩ (ds.map deedV) = r := hpd
  rw [hpd] at hs
  rw [e1] at o1 o2 o3 ⊢
  exact ⟨A2, _, c2, L2, _, lc2, D2, _, dc2, rfl, ⟨rfl, rfl, by omega, by omega⟩, rfl, o1, o2, hb⟩
theorem freeCut_new {w5 W : World} {r : PapV × List Bool} {A L D : Option Addr} {n c m lc d dc b1 b2 : Nat} (hB : Below w5.heap.size w5 W) (h : r.1.hs.length = n ∧ r.1.ls.length = m ∧ n ≤ 13 ∧ m ≤ 13) (o1 : W.ownsRow b1 38 2 (.slice A n c) n (holds r.1.hs)) (o2 : W.ownsRow b2 3 1 (.slice L m lc) m (ints r.1.ls)) (hd : r.2.length = d) :
    FreeCut w5 r (.pointer (some ⟨W.heap.size, 0, none⟩)) (.slice D d dc) (W.alloc (.cells #[.slice A n c, .slice L m lc] 26)) :=
  ⟨_, _, _, _, _, _, _, _, _, _, rfl, rfl, hd, PapB.new (papQ_own h.1 h.2.1 h.2.2.1 h.2.2.2 o1 o2), bel_allocS hB _⟩
theorem freeCut_old {w5 W : World} {r : PapV × List Bool} {A L D : Option Addr} {n c m lc d dc b1 b2 g : Nat} {z0 z1 : Value} (hB : Below w5.heap.size w5 W) (hg : w5.heap.size ≤ g) (hz : Blk W g 26 [z0, z1]) (h : r.1.hs.length = n ∧ r.1.ls.length = m ∧ n ≤ 13 ∧ m ≤ 13) (o1 : W.ownsRow b1 38 2 (.slice A n c) n (holds r.1.hs)) (o2 : W.ownsRow b2 3 1 (.slice L m lc) m (ints r.1.ls)) (hd : r.2.length = d) :
    FreeCut w5 r (.pointer (some ⟨g, 0, none⟩)) (.slice D d dc) ((W.setCell ⟨g, 0, none⟩ (.slice A n c)).setCell ⟨g, 1, none⟩ (.slice L m lc)) := by
  have z1 := hz.set_ 0 (.slice A n c)
  exact ⟨_, _, _, _, _, _, _, _, _, _, rfl, rfl, hd, ⟨z1.set_ 1 _, papQ_own h.1 h.2.1 h.2.2.1 h.2.2.2 (own_setAt (own_setAt o1 hz (by decide)) z1 (by decide)) (own_setAt (own_setAt o2 hz (by decide)) z1 (by decide))⟩, bel_setS (bel_setS hB hg) hg⟩
theorem keep2Z {w W : World} {a : Nat} {x0 x1 : Value} (hb : Below w.heap.size w W) (la : a < w.heap.size) (p0 : w.cell? ⟨a, 0, none⟩ = some x0) (p1 : w.cell? ⟨a, 1, none⟩ = some x1) : Below w.heap.size w W ∧ W.cell? ⟨a, 0, none⟩ = some x0 ∧ W.cell? ⟨a, 1, none⟩ = some x1 :=
  ⟨hb, (hb.cell (p := ⟨a, 0, none⟩) la).trans p0, (hb.cell (p := ⟨a, 1, none⟩) la).trans p1⟩
theorem marks_nil (x : Int) : marksOf [] x = 0 := rfl
set_option maxRecDepth 100000 in
set_option maxHeartbeats 4000000 in
theorem walkFnMarksOf (w : World) (A : Option Addr) (n c : Nat) (bs : List Int) (h : Code w A n c bs) :
    Calls Try.prog 3 #[.slice A n c] w fun e w' => e = .returned (.bool true) ∧ Below w.heap.size w w' := by
  by_cases hn : (n : Int) ≤ 1048576
  · go_enter Try.func3, Try.ntmps3
    go_wp2_with fail
    refine (drawMarksOf_any A n c bs w h).mono ?_
    rintro e w1 ⟨_, _, rfl, hs, ls, x, ⟨HA, pn, hc, LA, pm, lc, rfl, e1, e2, e3, e4, o1, o2⟩, rfl, hx, hb1⟩
    obtain ⟨p, rfl, rfl⟩ : ∃ p : PapV, p.hs = hs ∧ p.ls = ls := ⟨⟨hs, ls⟩, rfl, rfl⟩
    have hal : Below w1.heap.size w1 (w1.alloc (.cells #[.slice HA pn hc, .slice LA pm lc] 26)) := (Below.refl _ _).alloc (Nat.le_refl _) _
    have P2 : Hid (PapB (w1.alloc (.cells #[.slice HA pn hc, .slice LA pm lc] 26)) w1.heap.size HA pn hc LA pm lc p) := Lib.hid (PapB.new (papQ_own (p := p) e1 e2 e3 e4 o1 o2))
    have B2 := Lib.hid (below_trans hb1 hal)
    have HW := Lib.hid (marks_facts p x)
    have hl3 : (freeD p x).length ≤ 3 := by
      unfold freeD
      split
      · exact freeTo_len _ _ _
      · simp
    clear h e1 e2 o1 o2 hb1 hal hx
    go_wp2_with fail
    generalize w1.alloc (.cells #[.slice HA pn hc, .slice LA pm lc] 26) = w2 at *
    generalize w1.heap.size = qp at *
    have p0 := (P2.out).blk.cellAt 0 (by simp)
    have p1 := (P2.out).blk.cellAt 1 (by simp)
    simp only [List.getElem_cons_zero, List.getElem_cons_succ] at p0 p1
    generalize hg : marksOf p.hs x = g at *
    have HG := Lib.hid hg
    clear hg
    have hgg : (g != g) = false := by simp
    refine (implMarksR HG.out P2.out.rd).mono ?_
    rintro e w3 ⟨rfl, b3⟩
    have P3 := Lib.hid (P2.out.later b3)
    have B3 := Lib.hid (below_trans B2.out b3)
    clear b3 P2 B2 p0 p1
    have p0 := (P3.out).blk.cellAt 0 (by simp)
    have p1 := (P3.out).blk.cellAt 1 (by simp)
    simp only [List.getElem_cons_zero, List.getElem_cons_succ] at p0 p1
    go_wp2_with fail
    refine (specMarksR HG.out P3.out.rd).mono ?_
    rintro e w4 ⟨rfl, b4⟩
    have P4 := Lib.hid (P3.out.later b4)
    have B4 := Lib.hid (below_trans B3.out b4)
    clear b4 P3 B3 p0 p1
    have p0 := (P4.out).blk.cellAt 0 (by simp)
    have p1 := (P4.out).blk.cellAt 1 (by simp)
    simp only [List.getElem_cons_zero, List.getElem_cons_succ] at p0 p1
    go_wp2_with fail
    rcases HW.out with hv | ⟨hv, p', bs', hrun, hb3, ⟨hg0, hg7⟩, hm0, hlen, hall⟩
    · have HV := Lib.hid hv
      clear hv HW
      refine (specValidR HV.out P4.out.rd).mono ?_
      rintro e w5 ⟨rfl, b5⟩
      have B5 := Lib.hid (below_trans B4.out b5)
      clear b5 P4 B4 p0 p1
      have hz : PapQ w5 none 0 0 none 0 0 ⟨[], []⟩ := ⟨rfl, rfl, RdV.nil_, RdV.nil_, Nat.le_refl _, by decide, by decide⟩
      have HZ := Lib.hid hz
      clear hz
      go_wp2_with fail
      refine (implMarksR (g := 0) (marks_nil x) HZ.out).mono ?_
      rintro e w6 ⟨rfl, b6⟩
      have B6 := Lib.hid (below_trans B5.out b6)
      clear b6 B5 HZ
      go_wp2_with fail
      refine (alive_any _).mono ?_
      rintro e w' ⟨rfl, rfl⟩
      go_wp2_with fail
      go_ret
      exact ⟨rfl, B6.out⟩
    · have HV := Lib.hid hv
      have HRUN := Lib.hid hrun
      have HM0 := Lib.hid hm0
      have HLEN := Lib.hid hlen
      have HALL := Lib.hid hall
      clear hv hrun hm0 hlen hall HW
      refine (specValidR HV.out P4.out.rd).mono ?_
      rintro e w5 ⟨rfl, b5⟩
      have P5 := Lib.hid (P4.out.later b5)
      have B5 := Lib.hid (below_trans B4.out b5)
      clear b5 P4 B4 p0 p1
      have p0 := (P5.out).blk.cellAt 0 (by simp)
      have p1 := (P5.out).blk.cellAt 1 (by simp)
      simp only [List.getElem_cons_zero, List.getElem_cons_succ] at p0 p1
      have lq := P5.out.blk.lt
      go_upto_region 9 with fail
      go_cut [6, 7] from 35 to 43 (fun s6 s7 wx => FreeCut w5 (p', bs') s6 s7 wx)
      case first =>
        generalize hz : freeD p x = zs at *
        have HZ := Lib.hid hz
        clear hz
        go_region_held3 (fun W => Below w5.heap.size w5 W ∧ W.cell? ⟨qp, 0, none⟩ = some (.slice HA pn hc) ∧ W.cell? ⟨qp, 1, none⟩ = some (.slice LA pm lc))
          (exact keep2Z (by (repeat (first | assumption | exact Below.refl _ _ | with_reducible refine Below.drew ?_ | with_reducible refine bel_allocS ?_ _ | with_reducible refine bel_setS ?_ (by first | exact Nat.le_refl _ | assumption)))) lq p0 p1)
          (first
            | (have _tk := HDA
               go_at_call 14
               clear _tk
               (with_reducible refine (implRunO (d := d) HRUN.out (by exact P5.out.rd.later (by (repeat (first | exact ka | with_reducible refine Below.drew ?_ | with_reducible refine bel_allocS ?_ _)))) HDA.out.1 HDA.out.2.1 (by exact HDA.out.2.2 _ (by (repeat (first | exact Below.refl _ _ | with_reducible refine Below.drew ?_ | with_reducible refine bel_allocS ?_ _))))).mono ?_)
               rintro e wt ⟨A6, n6, c6, L6, m6, lc6, D6, d6, dc6, rfl, hh6, hd6, o6, p6, hbt0⟩
               have hbt : Below w5.heap.size w5 wt := by first | exact below_trans ka hbt0 | exact below_trans (bel_allocS ka _) hbt0
               (first | (have hzC := hzA.later hbt0; have hzr := Nat.le_refl w5.heap.size) | (have hzC := (Blk.new wa 26 [.slice none 0 0, .slice none 0 0]).later hbt0; have hzr := ka.size) | skip)
               (first | (have rr0 := hzC.cellAt 0 (by simp); have rr1 := hzC.cellAt 1 (by simp); have rg0 := hzC.frozen 0; have rg1 := hzC.frozen 1; simp only [List.getElem_cons_zero, List.getElem_cons_succ] at rr0 rr1) | skip)
               clear hbt0)
            | (go_at_call 15
               (with_reducible refine (implFreeR HZ.out (by exact P5.out.rd.later (by (repeat (first | exact Below.refl _ _ | with_reducible refine Below.drew ?_ | with_reducible refine bel_allocS ?_ _))))).mono ?_)
               rintro e wa ⟨D, d, dc, rfl, hd, hD, hba0⟩
               have HDA : Hid (zs.length = d ∧ d ≤ 1000 ∧ ∀ W, Below wa.heap.size wa W → RdV W D (paperdeeds zs)) := Lib.hid ⟨hd, by omega, fun W hW => hD.below hW⟩
               have ka : Below w5.heap.size w5 wa := by first | exact below_trans (Below.drew (Below.refl _ _)) hba0 | exact below_trans (Below.drew (bel_allocS (Below.refl _ _) _)) hba0
               (first | (have hzA := (Blk.drew (Blk.new w5 26 [.slice none 0 0, .slice none 0 0])).later hba0) | skip)
               clear hd hD hba0))
        all_goals (go_wp2_with fail; go_meet)
        all_goals (first
          | exact freeCut_new (r := (p', bs')) hbt hh6 o6 p6 hd6
          | exact freeCut_old (r := (p', bs')) hbt hzr hzC hh6 o6 p6 hd6)
      case rest =>
        obtain ⟨w6, hw6⟩ : ∃ w6 : World, w6 = wc := ⟨_, rfl⟩
        subst hw6
        obtain ⟨q, A6, n6, c6, L6, m6, lc6, D6, d6, dc6, rfl, rfl, hd6, hF6, b6⟩ := hcut
        have hd3 : d6 ≤ 3 := by rw [← hd6]; exact hb3
        have P6 := Lib.hid (P5.out.later b6)
        have F6 := Lib.hid hF6
        have B6 := Lib.hid (below_trans B5.out b6)
        dsimp only at F6
        clear hd6 hF6 b6 P5 B5 p0 p1
        go_wp2_with fail
        go_loopw [8] (fun i wr => ∃ j : Nat, j ≤ pn ∧ i = .int .i64 j ∧ PapB wr qp HA pn hc LA pm lc p ∧ PapB wr q A6 n6 c6 L6 m6 lc6 p' ∧ Below w.heap.size w wr) (fun i _ => pn - (intOf i).toNat)
        case atStart => exact ⟨0, Nat.zero_le _, rfl, P6.out, F6.out, B6.out⟩
        case round =>
          clear P6 F6 B6
          obtain ⟨j, hj, rfl, hP, hF, hB⟩ := hrel
          have HP := Lib.hid hP
          have HF := Lib.hid hF
          have HB := Lib.hid hB
          by_cases hlt : j < pn
          · have hke : j < p.hs.length := by rw [HP.out.rd.hn]; exact hlt
            obtain ⟨b, o, rfl, hl, hc0, hc1⟩ := hP.rd.hold.holdAt hke
            have HA1 : Hid ((p.hs[j]).f0 ≠ x → marksOf p'.hs (p.hs[j]).f0 = (p.hs[j]).f1) := Lib.hid (HALL.out j hke)
            generalize p.hs[j] = y at *
            obtain ⟨y0, y1⟩ := y
            dsimp only at hc0 hc1 HA1
            have hki : (j : Int) < (pn : Int) := by omega
            have hk0 : (0 : Int) ≤ (j : Int) := by omega
            have p0 := (HP.out).blk.cellAt 0 (by simp)
            have p1 := (HP.out).blk.cellAt 1 (by simp)
            simp only [List.getElem_cons_zero, List.getElem_cons_succ] at p0 p1
            have z0 : ∀ u : BelW wr, u.W.cell? ⟨qp, 0, none⟩ = some (.slice (some ⟨b, o, none⟩) pn hc) := fun u => u.cell hP.blk.lt p0
            have z1 : ∀ u : BelW wr, u.W.cell? ⟨qp, 1, none⟩ = some (.slice LA pm lc) := fun u => u.cell hP.blk.lt p1
            have f0 := (HF.out).blk.cellAt 0 (by simp)
            have f1 := (HF.out).blk.cellAt 1 (by simp)
            simp only [List.getElem_cons_zero, List.getElem_cons_succ] at f0 f1
            have z2 : ∀ u : BelW wr, u.W.cell? ⟨q, 0, none⟩ = some (.slice A6 n6 c6) := fun u => u.cell hF.blk.lt f0
            have z3 : ∀ u : BelW wr, u.W.cell? ⟨q, 1, none⟩ = some (.slice L6 m6 lc6) := fun u => u.cell hF.blk.lt f1
            have z4 : ∀ u : BelW wr, u.W.cell? ⟨b, o + j * 2, none⟩ = some (.int .i64 y0) := fun u => u.cell hl hc0
            have z5 : ∀ u : BelW wr, u.W.cell? ⟨b, o + j * 2 + 1, none⟩ = some (.int .i64 y1) := fun u => u.cell hl hc1
            clear hP hF hB hc0 hc1 f0 f1
            by_cases hxy : y0 = x
            · have hq : (y0 != x) = false := by simp [hxy]
              clear hxy HA1
              go_wp2_with fail
              clear p0 p1
              refine wp_region_below (by kernel_rfl) (by kernel_rfl) ?_
              repeat (go_big_quiet_step (fail))
              refine wpQuiet_nil ?_
              intro _ hw'
              obtain ⟨⟨wq, hbq⟩, hw''⟩ := hw'
              subst hw''
              go_wp2_with fail
              go_roundw
              case rel => exact ⟨j + 1, by omega, by go_num, HP.out.later hbq, HF.out.later hbq, below_trans HB.out hbq⟩
              case measure => simp [intOf]; omega
            · have hq : (y0 != x) = true := by simp [hxy]
              have HAA := Lib.hid (HA1.out hxy)
              have hyy : (y1 != y1) = false := by simp
              have hM := fun (u : BelW wr) => implMarksR HAA.out (HF.out.rd.later u.ok)
              clear hxy HA1
              go_wp2_with fail
              clear p0 p1
              refine wp_region_below (by kernel_rfl) (by kernel_rfl) ?_
              repeat (go_big_quiet_step ((go_at_call 10; exact calls_below (hM _))))
              refine wpQuiet_nil ?_
              intro _ hw'
              obtain ⟨⟨wq, hbq⟩, hw''⟩ := hw'
              subst hw''
              clear hM
              go_wp2_with fail
              go_roundw
              case rel => exact ⟨j + 1, by omega, by go_num, HP.out.later hbq, HF.out.later hbq, below_trans HB.out hbq⟩
              case measure => simp [intOf]; omega
          · obtain rfl : pn = j := by omega
            have p0 := (HP.out).blk.cellAt 0 (by simp)
            have p1 := (HP.out).blk.cellAt 1 (by simp)
            simp only [List.getElem_cons_zero, List.getElem_cons_succ] at p0 p1
            have f0 := (HF.out).blk.cellAt 0 (by simp)
            have f1 := (HF.out).blk.cellAt 1 (by simp)
            simp only [List.getElem_cons_zero, List.getElem_cons_succ] at f0 f1
            have hn6 := HF.out.rd.hn
            have hpn := HP.out.rd.hn
            have HL := HLEN.out
            rw [hn6, hpn] at HL
            have HLL := Lib.hid HL
            clear hP hF hB hn6 hpn HL
            have hge : decide (g ≥ 0) = true := by simp; omega
            have hle : decide (g ≤ 7) = true := by simp; omega
            have hdd : decide ((d6 : Int) ≤ 3) = true := by simp; omega
            go_wp2_with fail
            refine (implMarksR HM0.out HF.out.rd).mono ?_
            rintro e w7 ⟨rfl, b7⟩
            have P7 := Lib.hid (HP.out.later b7)
            have F7 := Lib.hid (HF.out.later b7)
            have B7 := Lib.hid (below_trans HB.out b7)
            clear b7 p0 p1 f0 f1 HP HF HB
            have p0 := (P7.out).blk.cellAt 0 (by simp)
            have p1 := (P7.out).blk.cellAt 1 (by simp)
            simp only [List.getElem_cons_zero, List.getElem_cons_succ] at p0 p1
            have f0 := (F7.out).blk.cellAt 0 (by simp)
            have f1 := (F7.out).blk.cellAt 1 (by simp)
            simp only [List.getElem_cons_zero, List.getElem_cons_succ] at f0 f1
            have hpn13 : pn ≤ 13 := P7.out.rd.n13
            by_cases hgz : g = 0
            · subst hgz
              have hee : n6 = pn := by have := HLL.out; simpa using this
              have hq1 : ((n6 : Int) == (pn : Int)) = true := by simp [hee]
              have hq2 : ((n6 : Int) == (pn : Int) - min 0 1) = true := by
                have hm : min (0 : Int) 1 = 0 := by decide
                rw [hm]
                simp [hee]
              clear hee HLL
              go_wp2_with fail
              go_ret
              exact ⟨rfl, B7.out⟩
            · have hee : n6 + 1 = pn := by have := HLL.out; rw [if_neg hgz] at this; exact this
              have hg1 : 1 ≤ g := by omega
              have hmin : min g 1 = 1 := by omega
              have hq2 : ((n6 : Int) == (pn : Int) - 1) = true := by simp; omega
              clear hee HLL hgz
              go_wp2_with fail
              go_ret
              exact ⟨rfl, B7.out⟩
  · go_enter Try.func3, Try.ntmps3
    go_wp2_with fail
    go_ret
    exact ⟨rfl, Below.refl _ _⟩
end Go.Proofs.Ytpkbipjnobfcdaa
