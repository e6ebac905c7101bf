/- The inboxes that are drawn. -/
import Derived.Test.YtehaacpeamhamaaDrawMsg
namespace Go.Proofs.Ytehaacpeamhamaa
open Go Go.ChangeShapes Go.WideShapes Go.ChangeAt Go.RowKit
theorem takeI_next (next : Int) (held : List MessageV) (m : MessageV) : 0 ≤ (takeI next held m).next ∧ (takeI next held m).next ≤ 999 ∧ (takeI next held m).held.length ≤ 6 := by
  cases h : inbOk next held with
  | false => rw [takeI_bad h]; simp
  | true =>
    obtain ⟨h1, _, _, _, h2⟩ := takeI_law m h
    obtain ⟨h3, h4, _⟩ := inbOk_bounds h1
    exact ⟨by omega, h4, h2⟩
theorem specInboxTakeD (next : Int) (A : Option Addr) (n c : Nat) (held : List MessageV) (x0 x1 : Int) (w : World) (hn : held.length = n) (hc : n ≤ c) (hr : RdV w A (messages held)) (hm : n ≤ 1048576) :
    Calls Try.prog 25 #[.agg #[.int .i64 next, .slice A n c], .agg #[.int .i64 x0, .int .i64 x1]] w (RVal fun u w' => ∃ (nx : Int) (A : Option Addr) (n c : Nat) (zs : List MessageV) (o : Value), u = .tuple #[.agg #[.int .i64 nx, .slice A n c], o] ∧ 0 ≤ nx ∧ nx ≤ 999 ∧ n ≤ 6 ∧ QueM w' w.heap.size w'.heap.size A n c zs ∧ Below w.heap.size w w') := by
  refine (specInboxTake next A n c held x0 x1 w hn hc hr hm).mono ?_
  rintro e w' ⟨_, rfl, A', n', c', o, rfl, hq, _, hb⟩
  obtain ⟨h1, h2, h3⟩ := takeI_next next held ⟨x0, x1⟩
  exact RVal.mk ⟨_, A', n', c', _, o, rfl, h1, h2, by rw [← hq.len]; exact h3, hq, hb⟩
/-- an inbox that was drawn; the reader g has gone on -/
def InbDrawn (w : World) (g q : Nat) : Ending → World → Prop :=
  RVal fun u w' => ∃ (next : Int) (A : Option Addr) (n c : Nat) (held : List MessageV) (q' : Nat), u = .agg #[.int .i64 next, .slice A n c] ∧ QueM w' w.heap.size w'.heap.size A n c held ∧ 0 ≤ next ∧ next ≤ 1000 ∧ n ≤ 7 ∧ q' ≤ q + 20 ∧ Rdr w' g q' ∧ w.grownBy w' (some g)
theorem inbDrawn_fin {w W : World} {g q q' hi n c : Nat} {next : Int} {A : Option Addr} {held : List MessageV} (hq : QueM W (w.heap.size + 2) hi A n c held) (hrd : Rdr W g q') (hG : w.grownBy W (some g)) (h0 : 0 ≤ next) (h1 : next ≤ 1000) (hn : n ≤ 7) (hqq : q' ≤ q + 20) (hg : g < w.heap.size) :
    InbDrawn w g q (.returned (.agg #[.int .i64 next, .slice A n c])) ((W.setCell ⟨w.heap.size, 0, none⟩ (.int .i64 next)).setCell ⟨w.heap.size, 1, none⟩ (.slice A n c)) := by
  have hO : Out w.heap.size (w.heap.size + 1) W ((W.setCell ⟨w.heap.size, 0, none⟩ (.int .i64 next)).setCell ⟨w.heap.size, 1, none⟩ (.slice A n c)) :=
    out_set (out_set (Out.refl _ _ _) _ _ _ (Nat.le_refl _) (by omega)) _ _ _ (Nat.le_refl _) (by omega)
  have hq2 := hq.out hO (.inr (by omega))
  exact RVal.mk ⟨next, A, n, c, held, q', rfl, hq2.wide (by omega) hq2.2.2.2.1 (Nat.le_refl _), h0, h1, hn, hqq, hrd.out hO hg, only_out hG hO (Nat.le_refl _)⟩
theorem inbDrawn_fin1 {w W : World} {g q q' hi n c : Nat} {next : Int} {A : Option Addr} {held : List MessageV} (hq : QueM W (w.heap.size + 2) hi A n c held) (hrd : Rdr W g q') (hG : w.grownBy W (some g)) (h0 : 0 ≤ next) (h1 : next ≤ 1000) (hn : n ≤ 7) (hqq : q' ≤ q + 20) (hg : g < w.heap.size) :
    InbDrawn w g q (.returned (.agg #[.int .i64 next, .slice A n c])) (((W.setCell ⟨w.heap.size + 1, 0, none⟩ (.int .i64 next)).setCell ⟨w.heap.size, 0, none⟩ (.int .i64 next)).setCell ⟨w.heap.size, 1, none⟩ (.slice A n c)) := by
  have hO : Out (w.heap.size + 1) (w.heap.size + 2) W (W.setCell ⟨w.heap.size + 1, 0, none⟩ (.int .i64 next)) := out_set (Out.refl _ _ _) _ _ _ (Nat.le_refl _) (by omega)
  exact inbDrawn_fin (hq.out hO (.inr (by omega))) (hrd.out hO (by omega)) (only_out hG hO (by omega)) h0 h1 hn hqq hg
theorem inbDrawn_fin2 {w W : World} {g q q' hi n c : Nat} {next : Int} {A : Option Addr} {held : List MessageV} (hq : QueM W (w.heap.size + 2) hi A n c held) (hrd : Rdr W g q') (hG : w.grownBy W (some g)) (h0 : 0 ≤ next) (h1 : next ≤ 1000) (hn : n ≤ 7) (hqq : q' ≤ q + 20) (hg : g < w.heap.size) :
    InbDrawn w g q (.returned (.agg #[.int .i64 next, .slice A n c])) (((W.setCell ⟨w.heap.size + 1, 1, none⟩ (.slice A n c)).setCell ⟨w.heap.size, 0, none⟩ (.int .i64 next)).setCell ⟨w.heap.size, 1, none⟩ (.slice A n c)) := by
  have hO : Out (w.heap.size + 1) (w.heap.size + 2) W (W.setCell ⟨w.heap.size + 1, 1, none⟩ (.slice A n c)) := out_set (Out.refl _ _ _) _ _ _ (Nat.le_refl _) (by omega)
  exact inbDrawn_fin (hq.out hO (.inr (by omega))) (hrd.out hO (by omega)) (only_out hG hO (by omega)) h0 h1 hn hqq hg
/-- an inbox in a block r -/
def DrawCut (w0 : World) (g q : Nat) (v : Value) (wx : World) : Prop :=
  ∃ (r : Nat) (next : Int) (A : Option Addr) (n c : Nat) (held : List MessageV), v = .pointer (some ⟨r, 0, none⟩) ∧ w0.heap.size ≤ r ∧ Blk wx r 25 [.int .i64 next, .slice A n c] ∧ QueM wx w0.heap.size wx.heap.size A n c held ∧ 0 ≤ next ∧ next ≤ 999 ∧ n ≤ 6 ∧ Rdr wx g q ∧ w0.grownBy wx (some g)
theorem drawCut_new {w0 W : World} {g q lo n c : Nat} {next : Int} {A : Option Addr} {held : List MessageV} (hG : w0.grownBy W (some g)) (hq : QueM W lo W.heap.size A n c held) (hlo : w0.heap.size ≤ lo) (hrd : Rdr W g q) (h0 : 0 ≤ next) (h1 : next ≤ 999) (hn : n ≤ 6) :
    DrawCut w0 g q (.pointer (some ⟨W.heap.size, 0, none⟩)) (W.alloc (.cells #[.int .i64 next, .slice A n c] 25)) := by
  have hal : Below W.heap.size W (W.alloc (.cells #[.int .i64 next, .slice A n c] 25)) := (Below.refl _ _).alloc (Nat.le_refl _) _
  exact ⟨_, next, A, n, c, held, rfl, hG.size, Blk.new _ _ _, (hq.later hal).wide hlo (by simp) (Nat.le_refl _), h0, h1, hn, hrd.kept hal, only_trans hG (only_below hal g)⟩
theorem drawCut_fin {w0 W : World} {g q lo hi r n c : Nat} {next : Int} {A : Option Addr} {held : List MessageV} {s0 s1 : Value} (hG : w0.grownBy W (some g)) (hr : w0.heap.size ≤ r) (hR : Blk W r 25 [s0, s1]) (hq : QueM W lo hi A n c held) (hlo : w0.heap.size ≤ lo) (hrd : Rdr W g q) (h0 : 0 ≤ next) (h1 : next ≤ 999) (hn : n ≤ 6) (hg : g < w0.heap.size) (hd : r < lo) :
    DrawCut w0 g q (.pointer (some ⟨r, 0, none⟩)) ((W.setCell ⟨r, 0, none⟩ (.int .i64 next)).setCell ⟨r, 1, none⟩ (.slice A n c)) := by
  have hO : Out r (r + 1) W ((W.setCell ⟨r, 0, none⟩ (.int .i64 next)).setCell ⟨r, 1, none⟩ (.slice A n c)) := out_set (out_set (Out.refl _ _ _) _ _ _ (by omega) (by omega)) _ _ _ (by omega) (by omega)
  have hq2 := hq.out hO (.inr (by omega))
  exact ⟨r, next, A, n, c, held, rfl, hr, (hR.set_ 0 _).set_ 1 _, hq2.wide hlo hq2.2.2.2.1 (Nat.le_refl _), h0, h1, hn, hrd.out hO (by omega), only_out hG hO hr⟩
theorem keptG {w W : World} {a g : Nat} {x0 x1 : Value} (hb : w.grownBy W (some g)) (la : a < w.heap.size) (hne : a ≠ g) (p0 : w.cell? ⟨a, 0, none⟩ = some x0) (p1 : w.cell? ⟨a, 1, none⟩ = some x1) :
    w.grownBy W (some g) ∧ W.cell? ⟨a, 0, none⟩ = some x0 ∧ W.cell? ⟨a, 1, none⟩ = some x1 :=
  have hk := hb.block a la (fun e => hne (by injection e))
  ⟨hb, (World.cell?_of_block (a := ⟨a, 0, none⟩) hk).trans p0, (World.cell?_of_block (a := ⟨a, 1, none⟩) hk).trans p1⟩
set_option maxHeartbeats 4000000 in
theorem l20Inbox_any (g q : Nat) (m : Int) (w : World) (hr : Rdr w g q) (hq : q ≤ 1000000) (hm : m ≤ 1000000000) :
    Calls Try.prog 18 #[.pointer (some ⟨g, 0, none⟩), .int .i64 m] w (InbDrawn w g q) := by
  have hgR := hr.lt
  have hal : Below w.heap.size w ((w.alloc (.cells #[.int .i64 0, .slice none 0 0] 25)).alloc (.cells #[.int .i64 1, .slice none 0 0] 25)) := ((Below.refl _ _).alloc (Nat.le_refl _) _).alloc (by simp) _
  have hR0 : Blk ((w.alloc (.cells #[.int .i64 0, .slice none 0 0] 25)).alloc (.cells #[.int .i64 1, .slice none 0 0] 25)) w.heap.size 25 [.int .i64 0, .slice none 0 0] := (Blk.new _ _ _).alloc _
  have hB0 : Blk ((w.alloc (.cells #[.int .i64 0, .slice none 0 0] 25)).alloc (.cells #[.int .i64 1, .slice none 0 0] 25)) (w.heap.size + 1) 25 [.int .i64 1, .slice none 0 0] := by simpa using Blk.new (w.alloc (.cells #[.int .i64 0, .slice none 0 0] 25)) 25 [.int .i64 1, .slice none 0 0]
  have hsz : ((w.alloc (.cells #[.int .i64 0, .slice none 0 0] 25)).alloc (.cells #[.int .i64 1, .slice none 0 0] 25)).heap.size = w.heap.size + 2 := by simp
  go_enter Try.func18, Try.ntmps18
  go_wp2_with fail
  generalize (w.alloc (.cells #[.int .i64 0, .slice none 0 0] 25)).alloc (.cells #[.int .i64 1, .slice none 0 0] 25) = w0 at *
  have hz0 : w.heap.size + 2 ≤ w0.heap.size := by omega
  clear hsz
  refine (pick_any g q 8 _ (hr.kept hal) (by omega) (by omega)).mono ?_
  rintro e w1 ⟨v, rfl, ⟨hv0, hv1, _⟩, hr1, hg1⟩
  have hR1 := hR0.only hg1 (by omega)
  have hB1 := hB0.only hg1 (by omega)
  have hG1 := only_trans (only_below hal g) hg1
  have hz1 : w.heap.size + 2 ≤ w1.heap.size := Nat.le_trans hz0 hg1.size
  clear hR0 hB0 hal hg1 hv1 hz0 hr
  go_upto_if 12 with fail
  go_cut [13] (fun _ wx => ∃ (nx : Int) (q' : Nat), q' ≤ q + 2 ∧ 0 ≤ nx ∧ nx ≤ 999 ∧ Blk wx w.heap.size 25 [.int .i64 0, .slice none 0 0] ∧ Blk wx (w.heap.size + 1) 25 [.int .i64 nx, .slice none 0 0] ∧ Rdr wx g q' ∧ w.grownBy wx (some g))
  case first =>
    by_cases h0 : v = 0
    · subst h0
      go_wp2_with fail
      refine (pick_any g (q + 1) 5 _ hr1 (by omega) (by omega)).mono ?_
      rintro e w2 ⟨x, rfl, ⟨hx0, hx1, _⟩, hr2, hg2⟩
      have hx5 := hx1 (by omega)
      have hR2 := hR1.only hg2 (by omega)
      have hB2 := hB1.only hg2 (by omega)
      have hG2 := only_trans hG1 hg2
      have b0 := hB2.cellAt 0 (by simp)
      have bf0 := hB2.frozen 0
      simp only [List.getElem_cons_zero] at b0
      have HB := Lib.hid hB2
      have HR := Lib.hid hR2
      have HRD := Lib.hid hr2
      have HG := Lib.hid hG2
      clear hB2 hR2 hr2 hG2 hR1 hB1 hG1 hg2 hr1 hx1
      go_wp2_with fail
      go_meet
      case rel =>
        have hO : Out (w.heap.size + 1) (w.heap.size + 2) w2 (w2.setCell ⟨w.heap.size + 1, 0, none⟩ (.int .i64 (999 - x))) := out_set (Out.refl _ _ _) _ _ _ (Nat.le_refl _) (by omega)
        exact ⟨999 - x, q + 1 + 1, by omega, by omega, by omega, (hO.block _ HR.out.lt (.inl (by omega))).trans HR.out, HB.out.set_ 0 _, HRD.out.out hO (by omega), only_out HG.out hO (by omega)⟩
    · have hvb : (v == 0) = false := by simp [h0]
      go_wp2_with fail
      go_meet
      case rel => exact ⟨1, q + 1, by omega, by omega, by omega, hR1, hB1, hr1, hG1⟩
  case rest =>
    obtain ⟨nx0, q2, hq2, hnx0, hnx9, hR2, hB2, hr2, hG2⟩ := hcut
    generalize hwc : wc = w2 at *
    clear hwc hR1 hB1 hG1 hr1 hz1
    go_wp2_with fail
    refine (pick_any g q2 8 _ hr2 (by omega) (by omega)).mono ?_
    rintro e w3 ⟨k0, rfl, ⟨hk0, hk1, _⟩, hr3, hg3⟩
    have hR3 := hR2.only hg3 (by omega)
    have hB3 := hB2.only hg3 (by omega)
    have hG3 := only_trans hG2 hg3
    have hk8 := hk1 (by omega)
    have hz3 : w.heap.size + 2 ≤ w3.heap.size := Nat.le_trans (Nat.succ_le_of_lt hB2.lt) hg3.size
    clear hR2 hB2 hr2 hG2 hg3 hk1
    go_wp2_with fail
    go_loopw [6, 7, 8] (fun i _ _ wr => ∃ (k n c q' : Nat) (next : Int) (A : Option Addr) (held : List MessageV), i = .int .i64 k ∧ k ≤ 7 ∧ 0 ≤ next ∧ next ≤ 999 ∧ n ≤ 6 ∧ q' + k ≤ q + 12 ∧ Blk wr w.heap.size 25 [.int .i64 0, .slice none 0 0] ∧ Blk wr (w.heap.size + 1) 25 [.int .i64 next, .slice A n c] ∧ QueM wr (w.heap.size + 2) wr.heap.size A n c held ∧ Rdr wr g q' ∧ w.grownBy wr (some g)) (fun i _ _ _ => (intOf i).toNat)
    case atStart =>
      obtain ⟨k, rfl⟩ := Int.eq_ofNat_of_zero_le hk0
      exact ⟨k, 0, 0, q2 + 1, nx0, none, [], rfl, by omega, hnx0, hnx9, by omega, by omega, hR3, hB3, ⟨rfl, Nat.le_refl _, by decide, Nat.le_refl _, .inl ⟨rfl, rfl⟩⟩, hr3, hG3⟩
    case round =>
      clear hR3 hB3 hr3 hG3 hz3
      obtain ⟨k, n, c, q', next, A, held, rfl, hk7, hn0, hn9, hn6, hq', hR, hB, hq1, hrd, hG⟩ := hrel
      have hz : w.heap.size + 2 ≤ wr.heap.size := Nat.succ_le_of_lt hB.lt
      have hgr : g < wr.heap.size := by omega
      by_cases hlt0 : 0 < k
      · obtain ⟨wo, rfl⟩ : ∃ wo : World, wo = wr := ⟨_, rfl⟩
        have c0 := hB.cellAt 0 (by simp)
        have c1 := hB.cellAt 1 (by simp)
        simp only [List.getElem_cons_zero, List.getElem_cons_succ] at c0 c1
        have lB := hB.lt
        have neB : w.heap.size + 1 ≠ g := by omega
        have HLEN := Lib.hid hq1.len
        have hnc := hq1.2.1
        have HB := Lib.hid hB
        have HR := Lib.hid hR
        have HQ := Lib.hid hq1
        have HG := Lib.hid hG
        clear hB hR hq1 hG
        go_upto_region 7 with fail
        go_cut [7, 8] (fun s7 _ wx => DrawCut wo g (q' + 1) s7 wx)
        case first =>
          go_region_held3 (fun W => wo.grownBy W (some g) ∧ W.cell? ⟨w.heap.size + 1, 0, none⟩ = some (.int .i64 next) ∧ W.cell? ⟨w.heap.size + 1, 1, none⟩ = some (.slice A n c))
            (first
              | exact keptG (only_below (Below.refl _ _) g) lB neB c0 c1
              | exact keptG (only_below (Below.drew (Below.refl _ _)) g) lB neB c0 c1
              | exact keptG (only_below (Below.drew ((Below.refl _ _).alloc (Nat.le_refl _) _)) g) lB neB c0 c1
              | exact keptG ka lB neB c0 c1
              | exact keptG kt lB neB c0 c1
              | exact keptG (only_trans ka (only_below ((Below.refl _ _).alloc (Nat.le_refl _) _) g)) lB neB c0 c1
              | exact keptG (only_trans kt (only_below ((Below.refl _ _).alloc (Nat.le_refl _) _) g)) lB neB c0 c1
              | exact keptG (only_out kt (out_set (out_set (Out.refl _ (_ + 1) _) _ _ _ (Nat.le_refl _) (Nat.lt_succ_self _)) _ _ _ (Nat.le_refl _) (Nat.lt_succ_self _)) hrr) lB neB c0 c1)
            (first
              | (go_at_call 20
                 have kc := (‹World.grownBy wo _ (some g) ∧ _›).1
                 (with_reducible refine (l20Message_any g q' next _ (hrd.kept (by first | exact Below.refl _ _ | exact Below.drew (Below.refl _ _) | exact Below.drew ((Below.refl _ _).alloc (Nat.le_refl _) _))) (by omega) hn0 (by omega)).mono ?_)
                 rintro e wa ⟨_, rfl, xm, rfl, hx1, hx2, hra, hga⟩
                 have ka := only_trans kc hga
                 (first | (have hrk := (Blk.drew (Blk.new wo 25 [.int .i64 0, .slice none 0 0])).only hga (Nat.ne_of_gt hgr); have hrr := Nat.le_refl wo.heap.size) | skip)
                 clear kc hga)
              | (go_at_call 25
                 have kc := (‹World.grownBy wo _ (some g) ∧ _›).1
                 (with_reducible refine (specInboxTakeD next A n c held _ _ _ HLEN.out hnc ((HQ.out.out (out_only kc) (.inr (by omega))).rd) (by omega)).mono ?_)
                 rintro e wt ⟨_, rfl, TN, TA, tn, tc, TZ, TO, rfl, ht0, ht9, ht6, TQ, hbt⟩
                 have kt := only_trans kc (only_below hbt g)
                 have hlo := kc.size
                 have hrt := (hra.kept (by first | exact Below.refl _ _ | exact (Below.refl _ _).alloc (Nat.le_refl _) _)).kept hbt
                 (first
                   | (have hrl := hrk.lt; have hrk2 := hrk.later hbt; clear hrk; have hrk := hrk2; clear hrk2; have rr0 := hrk.cellAt 0 (by simp); have rr1 := hrk.cellAt 1 (by simp); have rf0 := hrk.frozen 0; have rf1 := hrk.frozen 1; simp only [List.getElem_cons_zero, List.getElem_cons_succ] at rr0 rr1)
                   | (have hrk := (Blk.new wa 25 [.int .i64 0, .slice none 0 0]).later hbt; have hrr := ka.size; have rr0 := hrk.cellAt 0 (by simp); have rr1 := hrk.cellAt 1 (by simp); have rf0 := hrk.frozen 0; have rf1 := hrk.frozen 1; simp only [List.getElem_cons_zero, List.getElem_cons_succ] at rr0 rr1)
                   | skip)
                 clear kc))
          all_goals (go_wp2_with fail; go_meet)
          all_goals (first | exact drawCut_new kt TQ hlo hrt ht0 ht9 ht6 | exact drawCut_fin kt hrr hrk TQ hlo hrt ht0 ht9 ht6 hgr hrl | exact drawCut_fin kt hrr hrk TQ hlo hrt ht0 ht9 ht6 hgr (by simp))
        case rest =>
          obtain ⟨r, nx, A2, n2, c2, held2, rfl, hr2, hRr, hqx, h20, h29, h26, hrdx, hgx⟩ := hcut
          generalize hwx : wc = w5 at *
          clear hwx c0 c1
          have hB5 := HB.out.only hgx neB
          have hR5 := HR.out.only hgx (by omega)
          have hG5 := Lib.hid (only_trans HG.out hgx)
          have e0 := hRr.cellAt 0 (by simp)
          have e1 := hRr.cellAt 1 (by simp)
          have d0 := hB5.cellAt 0 (by simp)
          have d1 := hB5.cellAt 1 (by simp)
          have df0 := hB5.frozen 0
          have df1 := hB5.frozen 1
          simp only [List.getElem_cons_zero, List.getElem_cons_succ] at e0 e1 d0 d1
          have lB5 := hB5.lt
          have HB5 := Lib.hid hB5
          have HR5 := Lib.hid hR5
          have HQX := Lib.hid hqx
          have HRX := Lib.hid hrdx
          clear hB5 hR5 hgx hRr hqx hrdx HB HR HQ HG HLEN hrd
          go_wp2_with fail
          have hO : Out (w.heap.size + 1) (w.heap.size + 2) w5 ((w5.setCell ⟨w.heap.size + 1, 0, none⟩ (.int .i64 nx)).setCell ⟨w.heap.size + 1, 1, none⟩ (.slice A2 n2 c2)) := out_set (out_set (Out.refl _ _ _) _ _ _ (Nat.le_refl _) (by omega)) _ _ _ (Nat.le_refl _) (by omega)
          go_roundw
          case rel =>
            exact ⟨k - 1, n2, c2, q' + 1, nx, A2, held2, by go_num, by omega, h20, h29, h26, by omega, (hO.block _ HR5.out.lt (.inl (by omega))).trans HR5.out, (HB5.out.set_ 0 _).set_ 1 _, (HQX.out.out hO (.inr (by omega))).wide (by omega) (HQX.out.out hO (.inr (by omega))).2.2.2.1 (Nat.le_refl _), HRX.out.out hO (by omega), only_out hG5.out hO (by omega)⟩
          case measure => simp [intOf]; omega
      · obtain rfl : k = 0 := by omega
        go_wp2_with fail
        refine (odd_any g q' m _ hrd (by omega) hm).mono ?_
        rintro e w6 ⟨b, rfl, q6, h61, h62, hrd6, hg6⟩
        have hB6 := hB.only hg6 (by omega)
        have hR6 := hR.only hg6 (by omega)
        have hq6 := (hq1.only hg6 (by omega)).wide (Nat.le_refl _) hg6.size (Nat.le_refl _)
        have hG6 := only_trans hG hg6
        have hz6 := hg6.size
        clear hB hR hq1 hG hg6 hrd
        cases b
        · have b0 := hB6.cellAt 0 (by simp)
          have b1 := hB6.cellAt 1 (by simp)
          have r0 := hR6.cellAt 0 (by simp)
          have r1 := hR6.cellAt 1 (by simp)
          have rf0 := hR6.frozen 0
          have rf1 := hR6.frozen 1
          simp only [List.getElem_cons_zero, List.getElem_cons_succ] at b0 b1 r0 r1
          have HQ := Lib.hid hq6
          have HRD := Lib.hid hrd6
          have HG := Lib.hid hG6
          clear hB6 hR6 hq6 hrd6 hG6
          go_wp2_with fail
          refine bodyPost_ret (v := .agg #[.int .i64 next, .slice A n c]) (by simp [results, Try.results18, go_sem, *]) rfl ?_
          exact inbDrawn_fin HQ.out HRD.out HG.out hn0 (by omega) (by omega) (by omega) hgR
        · go_wp2_with fail
          refine (pick_any g q6 3 _ hrd6 (by omega) (by omega)).mono ?_
          rintro e w7 ⟨x, rfl, ⟨hx0, hx1, _⟩, hrd, hg7⟩
          have hx3 := hx1 (by omega)
          have hB := hB6.only hg7 (by omega)
          have hR := hR6.only hg7 (by omega)
          have hq := (hq6.only hg7 (by omega)).wide (Nat.le_refl _) hg7.size (Nat.le_refl _)
          have hG := only_trans hG6 hg7
          have hz7 := hg7.size
          clear hB6 hR6 hq6 hG6 hg7 hrd6 hx1
          obtain rfl | rfl | rfl : x = 0 ∨ x = 1 ∨ x = 2 := by omega
          · have hal : Below w7.heap.size w7 (w7.alloc (.cells [Value.int .i64 0, .int .i64 1000].toArray 3)) := (Below.refl _ _).alloc (Nat.le_refl _) _
            go_wp2_with fail
            refine (pick_any g (q6 + 1) 2 _ (hrd.kept hal) (by omega) (by omega)).mono ?_
            rintro e w8 ⟨y, rfl, ⟨hy0, hy1, _⟩, hrd8, hg8⟩
            have hL := (Blk.new w7 3 [Value.int .i64 0, .int .i64 1000]).only hg8 (by omega)
            have hB8 := (hB.later hal).only hg8 (by omega)
            have hR8 := (hR.later hal).only hg8 (by omega)
            have hq8 := (((hq.later hal).wide (Nat.le_refl _) hal.size (Nat.le_refl _)).only hg8 (by omega)).wide (Nat.le_refl _) hg8.size (Nat.le_refl _)
            have hG8 := only_trans (only_trans hG (only_below hal g)) hg8
            have hy2 := hy1 (by omega)
            clear hB hR hq hrd hG hal hg8 hy1
            have hB := hB8
            have hR := hR8
            have hrd := hrd8
            clear hB8 hR8 hrd8
            have b0 := hB.cellAt 0 (by simp)
            have b1 := hB.cellAt 1 (by simp)
            have bf0 := hB.frozen 0
            have bf1 := hB.frozen 1
            have r0 := hR.cellAt 0 (by simp)
            have r1 := hR.cellAt 1 (by simp)
            have rf0 := hR.frozen 0
            have rf1 := hR.frozen 1
            simp only [List.getElem_cons_zero, List.getElem_cons_succ] at b0 b1 r0 r1
            have lB := hB.lt
            have hL0 := hL.cellAt 0 (by simp)
            have hL1 := hL.cellAt 1 (by simp)
            simp only [List.getElem_cons_zero, List.getElem_cons_succ] at hL0 hL1
            have HQ := Lib.hid hq8
            have HRD := Lib.hid hrd
            have HG := Lib.hid hG8
            clear hB hR hq8 hrd hG8 hL
            obtain rfl | rfl : y = 0 ∨ y = 1 := by omega
            · go_wp2_with fail
              refine bodyPost_ret (v := .agg #[.int .i64 0, .slice A n c]) (by simp [results, Try.results18, go_sem, *]) rfl ?_
              exact inbDrawn_fin1 HQ.out HRD.out HG.out (by omega) (by omega) (by omega) (by omega) hgR
            · go_wp2_with fail
              refine bodyPost_ret (v := .agg #[.int .i64 1000, .slice A n c]) (by simp [results, Try.results18, go_sem, *]) rfl ?_
              exact inbDrawn_fin1 HQ.out HRD.out HG.out (by omega) (by omega) (by omega) (by omega) hgR
          · skip
            have b0 := hB.cellAt 0 (by simp)
            have b1 := hB.cellAt 1 (by simp)
            have bf0 := hB.frozen 0
            have bf1 := hB.frozen 1
            have r0 := hR.cellAt 0 (by simp)
            have r1 := hR.cellAt 1 (by simp)
            have rf0 := hR.frozen 0
            have rf1 := hR.frozen 1
            simp only [List.getElem_cons_zero, List.getElem_cons_succ] at b0 b1 r0 r1
            have lB := hB.lt
            have HB := Lib.hid hB
            have HR := Lib.hid hR
            have HQ := Lib.hid hq
            have HRD := Lib.hid hrd
            have HG := Lib.hid hG
            have hlo : w.heap.size + 2 ≤ (w7).heap.size := by omega
            clear hB hR hq hrd hG
            go_wp2_with (at_builtin; refine queM_append rfl _ _ rfl w7 (w.heap.size + 2) (w7).heap.size A n c held ⟨next, 3⟩ 35 rfl HQ.out rfl (by omega) hlo ?_; intro A' c' w3 hq3 ho3; have hB3 := (ho3.block _ HB.out.lt (.inl (by omega))).trans HB.out; have hR3 := (ho3.block _ HR.out.lt (.inl (by omega))).trans HR.out; have d0 := Blk.cellAt hB3 0 (by simp); have d1 := Blk.cellAt hB3 1 (by simp); have df1 := Blk.frozen hB3 1; have e0 := Blk.cellAt hR3 0 (by simp); have e1 := Blk.cellAt hR3 1 (by simp); have ef0 := Blk.frozen hR3 0; have ef1 := Blk.frozen hR3 1; simp only [List.getElem_cons_zero, List.getElem_cons_succ] at d0 d1 e0 e1; have hrd3 := Lib.hid (HRD.out.out ho3 (by omega)); have hG3 := Lib.hid (only_out HG.out ho3 (by omega)); have HQ3 := Lib.hid hq3; clear ho3 hq3)
            refine bodyPost_ret (v := .agg #[.int .i64 next, .slice A' (n + 1) c']) (by simp [results, Try.results18, go_sem, *]) rfl ?_
            exact inbDrawn_fin2 HQ3.out hrd3.out hG3.out hn0 (by omega) (by omega) (by omega) hgR
          · skip
            have b0 := hB.cellAt 0 (by simp)
            have b1 := hB.cellAt 1 (by simp)
            have bf0 := hB.frozen 0
            have bf1 := hB.frozen 1
            have r0 := hR.cellAt 0 (by simp)
            have r1 := hR.cellAt 1 (by simp)
            have rf0 := hR.frozen 0
            have rf1 := hR.frozen 1
            simp only [List.getElem_cons_zero, List.getElem_cons_succ] at b0 b1 r0 r1
            have lB := hB.lt
            have HB := Lib.hid hB
            have HR := Lib.hid hR
            have HQ := Lib.hid hq
            have HRD := Lib.hid hrd
            have HG := Lib.hid hG
            have hlo : w.heap.size + 2 ≤ (w7).heap.size := by omega
            clear hB hR hq hrd hG
            go_wp2_with (at_builtin; refine queM_append rfl _ _ rfl w7 (w.heap.size + 2) (w7).heap.size A n c held ⟨next + 6 + 1, 3⟩ 35 rfl HQ.out rfl (by omega) hlo ?_; intro A' c' w3 hq3 ho3; have hB3 := (ho3.block _ HB.out.lt (.inl (by omega))).trans HB.out; have hR3 := (ho3.block _ HR.out.lt (.inl (by omega))).trans HR.out; have d0 := Blk.cellAt hB3 0 (by simp); have d1 := Blk.cellAt hB3 1 (by simp); have df1 := Blk.frozen hB3 1; have e0 := Blk.cellAt hR3 0 (by simp); have e1 := Blk.cellAt hR3 1 (by simp); have ef0 := Blk.frozen hR3 0; have ef1 := Blk.frozen hR3 1; simp only [List.getElem_cons_zero, List.getElem_cons_succ] at d0 d1 e0 e1; have hrd3 := Lib.hid (HRD.out.out ho3 (by omega)); have hG3 := Lib.hid (only_out HG.out ho3 (by omega)); have HQ3 := Lib.hid hq3; clear ho3 hq3)
            refine bodyPost_ret (v := .agg #[.int .i64 next, .slice A' (n + 1) c']) (by simp [results, Try.results18, go_sem, *]) rfl ?_
            exact inbDrawn_fin2 HQ3.out hrd3.out hG3.out hn0 (by omega) (by omega) (by omega) hgR
end Go.Proofs.Ytehaacpeamhamaa
