/- The reference's InboxRun. -/
import Derived.Test.YtehaacpeamhamaaInbRI
import Derived.Test.YtehaacpeamhamaaInbTK
import Derived.Deep.RegionHeld3
import Derived.Deep.DeepCutAuto
namespace Go.Proofs.Ytehaacpeamhamaa
open Go Go.ChangeShapes Go.WideShapes Go.ChangeAt Go.RowKit
theorem specTakeR {t : TakeV} (next : Int) (A : Option Addr) (n c : Nat) (held : List MessageV) (x0 x1 : Int) (w : World) (ht : takeI next held ⟨x0, x1⟩ = t) (hn : held.length = n) (hc : n ≤ c) (hr : RdV w A (messages held)) (hm : n ≤ 1048576) :
    Calls Try.prog 25 #[.agg #[.int .i64 next, .slice A n c], .agg #[.int .i64 x0, .int .i64 x1]] w (TakeOut w t) := ht ▸ specInboxTake next A n c held x0 x1 w hn hc hr hm
/-- an inbox in a block r, and ids -/
def RunCut (w0 : World) (t : TakeV) (v o : Value) (wx : World) : Prop :=
  ∃ (r : Nat) (A : Option Addr) (n c : Nat), v = .pointer (some ⟨r, 0, none⟩) ∧ w0.heap.size ≤ r ∧ Blk wx r 25 [.int .i64 t.next, .slice A n c] ∧ QueM wx w0.heap.size wx.heap.size A n c t.held ∧ wx.ownsRow w0.heap.size 3 1 o t.ids.length (ints t.ids) ∧ Below w0.heap.size w0 wx
theorem runCut_new {w0 W : World} {lo n c : Nat} {A : Option Addr} {o : Value} {t : TakeV} (hB : Below w0.heap.size w0 W) (hq : QueM W lo W.heap.size A n c t.held) (hlo : w0.heap.size ≤ lo) (ho : W.ownsRow lo 3 1 o t.ids.length (ints t.ids)) :
    RunCut w0 t (.pointer (some ⟨W.heap.size, 0, none⟩)) o (W.alloc (.cells #[.int .i64 t.next, .slice A n c] 25)) := by
  have hal : Below W.heap.size W (W.alloc (.cells #[.int .i64 t.next, .slice A n c] 25)) := (Below.refl _ _).alloc (Nat.le_refl _) _
  exact ⟨_, A, n, c, rfl, hB.size, Blk.new _ _ _, (hq.later hal).wide hlo (by simp) (Nat.le_refl _), own_base (own_later ho hal) hlo, below_trans hB hal⟩
theorem runCut_fin {w0 W : World} {lo hi r n c : Nat} {A : Option Addr} {s0 s1 o : Value} {t : TakeV} (hB : Below w0.heap.size w0 W) (hr : w0.heap.size ≤ r) (hR : Blk W r 25 [s0, s1]) (hq : QueM W lo hi A n c t.held) (hlo : w0.heap.size ≤ lo) (ho : W.ownsRow lo 3 1 o t.ids.length (ints t.ids)) (hd : r < lo) :
    RunCut w0 t (.pointer (some ⟨r, 0, none⟩)) o ((W.setCell ⟨r, 0, none⟩ (.int .i64 t.next)).setCell ⟨r, 1, none⟩ (.slice A n c)) := by
  have hO : Out r (r + 1) W ((W.setCell ⟨r, 0, none⟩ (.int .i64 t.next)).setCell ⟨r, 1, none⟩ (.slice A n c)) := out_set (out_set (Out.refl _ _ _) _ _ _ (by omega) (by omega)) _ _ _ (by omega) (by omega)
  have hq2 := hq.out hO (.inr (by omega))
  exact ⟨r, A, n, c, rfl, hr, (hR.set_ 0 _).set_ 1 _, hq2.wide hlo hq2.2.2.2.1 (Nat.le_refl _), own_base (own_out ho hO (fun g e => .inr (by have := (ho.lt g e).1; omega))) hlo, below_out hB hO hr⟩
theorem keptR {w W : World} {a b i j : Nat} {x0 x1 y0 y1 : Value} (hb : Below w.heap.size w W) (la : a < w.heap.size) (lb : b < w.heap.size) (p0 : w.cell? ⟨a, 0, none⟩ = some x0) (p1 : w.cell? ⟨a, 1, none⟩ = some x1) (m0 : w.cell? ⟨b, i, none⟩ = some y0) (m1 : w.cell? ⟨b, j, none⟩ = some y1) :
    Below w.heap.size w W ∧ W.cell? ⟨a, 0, none⟩ = some x0 ∧ W.cell? ⟨a, 1, none⟩ = some x1 ∧ W.cell? ⟨b, i, none⟩ = some y0 ∧ W.cell? ⟨b, j, none⟩ = some y1 :=
  ⟨hb, (hb.cell (p := ⟨a, 0, none⟩) la).trans p0, (hb.cell (p := ⟨a, 1, none⟩) la).trans p1, (hb.cell (p := ⟨b, i, none⟩) lb).trans m0, (hb.cell (p := ⟨b, j, none⟩) lb).trans m1⟩
set_option maxHeartbeats 4000000 in
theorem specInboxRun (next : Int) (A : Option Addr) (n c : Nat) (held : List MessageV) (B : Option Addr) (m d : Nat) (list : List MessageV) (w : World) (hn : held.length = n) (_hc : n ≤ c) (hr : RdV w A (messages held)) (hm : n ≤ 1048576) (hln : list.length = m) (hlr : RdV w B (messages list)) (hlm : m ≤ 1048576) :
    Calls Try.prog 7 #[.agg #[.int .i64 next, .slice A n c], .slice B m d] w (TakeOut w (runI next held list)) := by
  have HN := Lib.hid hn
  have HL := Lib.hid hln
  clear hn hln
  have hB : Below w.heap.size w (((w.alloc (.cells #[.int .i64 next, .slice A n c] 25)).alloc (.cells #[.int .i64 0, .slice none 0 0] 25)).alloc (.cells #[] 3)) := (((Below.refl _ _).alloc (Nat.le_refl _) _).alloc (by simp) _).alloc (by simp; omega) _
  have hP : Blk (((w.alloc (.cells #[.int .i64 next, .slice A n c] 25)).alloc (.cells #[.int .i64 0, .slice none 0 0] 25)).alloc (.cells #[] 3)) w.heap.size 25 [.int .i64 next, .slice A n c] := ((Blk.new _ _ _).alloc _).alloc _
  have hR : Blk (((w.alloc (.cells #[.int .i64 next, .slice A n c] 25)).alloc (.cells #[.int .i64 0, .slice none 0 0] 25)).alloc (.cells #[] 3)) (w.heap.size + 1) 25 [.int .i64 0, .slice none 0 0] := by simpa using (Blk.new (w.alloc (.cells #[.int .i64 next, .slice A n c] 25)) 25 [.int .i64 0, .slice none 0 0]).alloc (.cells #[] 3)
  have hI : Blk (((w.alloc (.cells #[.int .i64 next, .slice A n c] 25)).alloc (.cells #[.int .i64 0, .slice none 0 0] 25)).alloc (.cells #[] 3)) (w.heap.size + 2) 3 [] := by simpa using Blk.new ((w.alloc (.cells #[.int .i64 next, .slice A n c] 25)).alloc (.cells #[.int .i64 0, .slice none 0 0] 25)) 3 []
  go_enter Try.func7, Try.ntmps7
  go_wp2_with fail
  generalize ((w.alloc (.cells #[.int .i64 next, .slice A n c] 25)).alloc (.cells #[.int .i64 0, .slice none 0 0] 25)).alloc (.cells #[] 3) = w0 at *
  have hz0 := hI.lt
  refine (specInboxValid next A n c held _ HN.out (hr.below hB) (by omega)).mono ?_
  rintro e w1 ⟨rfl, hb1⟩
  have P1 := hP.later hb1
  have R1 := hR.later hb1
  have I1 := own_of_blk (base := w.heap.size + 2) (size := 1) (n := 0) (hI.later hb1) (Nat.le_refl _) rfl (by decide)
  have B1 := below_trans hB hb1
  have hz1 := hb1.size
  clear hP hR hB hb1 hI
  have p0 := P1.cellAt 0 (by simp)
  have p1 := P1.cellAt 1 (by simp)
  have r0 := R1.cellAt 0 (by simp)
  have r1 := R1.cellAt 1 (by simp)
  have f0 := R1.frozen 0
  have f1 := R1.frozen 1
  simp only [List.getElem_cons_zero, List.getElem_cons_succ] at p0 p1 r0 r1
  cases hok : inbOk next held with
  | false =>
    have HT := Lib.hid (runI_bad (list := list) hok)
    clear hok
    go_wp2_with fail
    refine bodyPost_ret (v := .tuple #[.agg #[.int .i64 0, .slice none 0 0], .slice (some ⟨w.heap.size + 2, 0, none⟩) 0 0]) (by simp [results, Try.results7, go_sem, *]) rfl ?_
    rw [HT.out]
    have hO : Out (w.heap.size + 1) (w.heap.size + 2) w1 ((w1.setCell ⟨w.heap.size + 1, 0, none⟩ (.int .i64 0)).setCell ⟨w.heap.size + 1, 1, none⟩ (.slice none 0 0)) := out_set (out_set (Out.refl _ _ _) _ _ _ (Nat.le_refl _) (by omega)) _ _ _ (Nat.le_refl _) (by omega)
    have hs := hO.size
    exact RVal.mk ⟨none, 0, 0, _, rfl, ⟨rfl, Nat.le_refl _, by decide, Nat.le_refl _, .inl ⟨rfl, rfl⟩⟩, own_base (own_out I1 hO (fun g e => .inr (by have := (I1.lt g e).1; omega))) (by omega), below_out B1 hO (by omega)⟩
  | true =>
    have HT := Lib.hid (runI_ok (list := list) hok)
    have HOK := Lib.hid hok
    clear hok
    go_wp2_with fail
    refine (l29Copy_any next A n c held _ HN.out (hr.below B1) hm).mono ?_
    rintro e w2 ⟨_, rfl, NA, nc, rfl, N2, hb2⟩
    have hal : Below w2.heap.size w2 (w2.alloc (.cells #[.int .i64 next, .slice NA n nc] 25)) := (Below.refl _ _).alloc (Nat.le_refl _) _
    have Q3 : Blk (w2.alloc (.cells #[.int .i64 next, .slice NA n nc] 25)) w2.heap.size 25 [.int .i64 next, .slice NA n nc] := Blk.new _ _ _
    have R3 := (R1.later hb2).later hal
    have B3 := below_trans (below_trans B1 hb2) hal
    have N3 := (N2.later hal).queM
    have I3 := own_later (own_later I1 hb2) hal
    have hz2 := hb2.size
    clear P1 R1 B1 hb2 N2 hal p0 p1 r0 r1 f0 f1
    go_wp2_with fail
    generalize w2.alloc (.cells #[.int .i64 next, .slice NA n nc] 25) = w3 at *
    generalize hqq : w2.heap.size = q at *
    clear hqq
    go_loopw [6, 8, 9, 10] (fun v i _ _ wr => ∃ (k tn tc l lo hi : Nat) (tx : Int) (TA : Option Addr) (zs : List MessageV) (ids : List Int), i = .int .i64 k ∧ k ≤ m ∧ Hid (runsI next held (list.take k) = ⟨tx, zs, ids⟩) ∧ Hid (ids.length = l) ∧ Blk wr q 25 [.int .i64 tx, .slice TA tn tc] ∧ Blk wr (w.heap.size + 1) 25 [.int .i64 0, .slice none 0 0] ∧ QueM wr lo hi TA tn tc zs ∧ wr.ownsRow (w.heap.size + 2) 3 1 v l (ints ids) ∧ w.heap.size + 2 ≤ lo ∧ (q < lo ∨ hi ≤ q) ∧ Hid (v.ownBlock ≠ some q) ∧ Hid (∀ g, v.ownBlock = some g → g < lo ∨ hi ≤ g) ∧ Below w.heap.size w wr) (fun _ i _ _ _ => m - (intOf i).toNat)
    case atStart =>
      exact ⟨0, n, nc, 0, w1.heap.size, q, next, NA, held, [], rfl, Nat.zero_le _, Lib.hid rfl, Lib.hid rfl, Q3, R3, N3, I3, by omega, .inr (Nat.le_refl _), Lib.hid (by simp [Value.ownBlock]; omega), Lib.hid (fun g e => by simp [Value.ownBlock] at e; omega), B3⟩
    case round =>
      clear Q3 R3 B3 N3 I3
      obtain ⟨k, tn, tc, l, lo, hi, tx, TA, zs, ids, rfl, hk, HRUN, HI, hQ, hR, hque, hids, hlo, hdq, HVQ, HDIS, hB⟩ := hrel
      have hsm := runsI_small HOK.out (list.take k)
      rw [HRUN.out] at hsm
      obtain ⟨hs6, hs9⟩ := hsm
      dsimp only at hs6 hs9
      rw [hque.len] at hs6
      rw [HI.out] at hs9
      have hlq := hQ.lt
      obtain ⟨VA, vc, rfl, _, _⟩ := own_slice hids
      by_cases hlt : k < m
      · have hke : k < list.length := by rw [HL.out]; exact hlt
        obtain ⟨wo, rfl⟩ : ∃ wo : World, wo = wr := ⟨_, rfl⟩
        obtain ⟨b, o, rfl, hl, hc0, hc1⟩ := hlr.messageAt hke
        have d0 : wo.cell? ⟨b, o + k * 2, none⟩ = some (.int .i64 (list[k]).f0) := (hB.cell (p := ⟨b, o + k * 2, none⟩) hl).trans hc0
        have d1 : wo.cell? ⟨b, o + k * 2 + 1, none⟩ = some (.int .i64 (list[k]).f1) := (hB.cell (p := ⟨b, o + k * 2 + 1, none⟩) hl).trans hc1
        have hst := runsI_step next held list k hke
        rw [HRUN.out] at hst
        dsimp only at hst
        have HST := Lib.hid hst
        clear hst hc0 hc1
        generalize list[k] = x at *
        obtain ⟨x0, x1⟩ := x
        dsimp only at d0 d1
        have hki : (k : Int) < (m : Int) := by omega
        have hk0 : (0 : Int) ≤ (k : Int) := by omega
        have hsmt := takeI_nextR tx zs ⟨x0, x1⟩
        have hsl := takeI_idl tx zs ⟨x0, x1⟩
        obtain ⟨t, ht⟩ : ∃ t, takeI tx zs ⟨x0, x1⟩ = t := ⟨_, rfl⟩
        rw [ht] at hsmt hsl
        have HST2 : Hid (runsI next held (List.take (k + 1) list) = ⟨t.next, t.held, ids ++ t.ids⟩) := Lib.hid (by rw [HST.out, ht])
        have HTT := Lib.hid ht
        have hwz : w.heap.size + 2 ≤ wo.heap.size := Nat.succ_le_of_lt hR.lt
        have hbw : b < wo.heap.size := by omega
        have c0 := hQ.cellAt 0 (by simp)
        have c1 := hQ.cellAt 1 (by simp)
        simp only [List.getElem_cons_zero, List.getElem_cons_succ] at c0 c1
        have HLEN := Lib.hid hque.len
        have hnc := hque.2.1
        have HQ := Lib.hid hQ
        have HR := Lib.hid hR
        have HQU := Lib.hid hque
        have HIDS := Lib.hid hids
        have HB := Lib.hid hB
        have hvl : ∀ g, (Value.slice VA l vc).ownBlock = some g → g < wo.heap.size := fun g e => (hids.lt g e).2
        have HVL := Lib.hid hvl
        clear hQ hR hque hids hB hvl ht HST
        go_upto_region 8 with fail
        go_cut [9, 10] (fun s9 s10 wx => RunCut wo t s9 s10 wx)
        case first =>
          go_region_held3 (fun W => Below wo.heap.size wo W ∧ W.cell? ⟨q, 0, none⟩ = some (.int .i64 tx) ∧ W.cell? ⟨q, 1, none⟩ = some (.slice TA tn tc) ∧ W.cell? ⟨b, o + k * 2, none⟩ = some (.int .i64 x0) ∧ W.cell? ⟨b, o + k * 2 + 1, none⟩ = some (.int .i64 x1))
            (first
              | exact keptR (Below.refl _ _) hlq hbw c0 c1 d0 d1
              | exact keptR (Below.drew (Below.refl _ _)) hlq hbw c0 c1 d0 d1
              | exact keptR (Below.drew ((Below.refl _ _).alloc (Nat.le_refl _) _)) hlq hbw c0 c1 d0 d1
              | exact keptR kt hlq hbw c0 c1 d0 d1
              | exact keptR (kt.alloc kt.size _) hlq hbw c0 c1 d0 d1
              | exact keptR ((kt.setCell (p := ⟨_, 0, none⟩) hrr _).setCell (p := ⟨_, 1, none⟩) hrr _) hlq hbw c0 c1 d0 d1)
            (first
              | (go_at_call 25
                 have kc := (‹Below wo.heap.size wo _ ∧ _›).1
                 (with_reducible refine (specTakeR tx TA tn tc zs x0 x1 _ HTT.out HLEN.out hnc (HQU.out.rd.below kc) (by omega)).mono ?_)
                 rintro e wt ⟨_, rfl, YA, yn, yc, YO, rfl, TQ, TW, hbt⟩
                 have kt := below_trans kc hbt
                 have hlo2 := kc.size
                 (first
                   | (have hrk := (Blk.drew (Blk.new wo 25 [.int .i64 0, .slice none 0 0])).later hbt; have hrr := Nat.le_refl wo.heap.size; have rr0 := hrk.cellAt 0 (by simp); have rr1 := hrk.cellAt 1 (by simp); have rf0 := hrk.frozen 0; have rf1 := hrk.frozen 1; simp only [List.getElem_cons_zero, List.getElem_cons_succ] at rr0 rr1)
                   | skip)
                 clear kc))
          all_goals (go_wp2_with fail; go_meet)
          all_goals (first | exact runCut_new kt TQ hlo2 TW | exact runCut_fin kt hrr hrk TQ hlo2 TW (by simp))
        case rest =>
          obtain ⟨r, A2, n2, c2, rfl, hr2, hRr, hq2, ho2, hb2⟩ := hcut
          generalize hwx : wc = w5 at *
          clear hwx c0 c1 d0 d1
          obtain ⟨OA, oc, rfl, _, _⟩ := own_slice ho2
          have hQ5 := HQ.out.later hb2
          have hR5 := HR.out.later hb2
          have hI5 := own_later HIDS.out hb2
          have HB5 := Lib.hid (below_trans HB.out hb2)
          have hsz5 := hb2.size
          have e0 := hRr.cellAt 0 (by simp)
          have e1 := hRr.cellAt 1 (by simp)
          have q0 := hQ5.cellAt 0 (by simp)
          have q1 := hQ5.cellAt 1 (by simp)
          have qf0 := hQ5.frozen 0
          have qf1 := hQ5.frozen 1
          simp only [List.getElem_cons_zero, List.getElem_cons_succ] at e0 e1 q0 q1
          have hO : Out q (q + 1) w5 ((w5.setCell ⟨q, 0, none⟩ (.int .i64 t.next)).setCell ⟨q, 1, none⟩ (.slice A2 n2 c2)) := out_set (out_set (Out.refl _ _ _) _ _ _ (Nat.le_refl _) (by omega)) _ _ _ (Nat.le_refl _) (by omega)
          have hQ6 : Blk ((w5.setCell ⟨q, 0, none⟩ (.int .i64 t.next)).setCell ⟨q, 1, none⟩ (.slice A2 n2 c2)) q 25 [.int .i64 t.next, .slice A2 n2 c2] := (hQ5.set_ 0 _).set_ 1 _
          have hne0 : ∀ g, (Value.slice VA l vc).ownBlock = some g → g < q ∨ q + 1 ≤ g := fun g e => by
            have : g ≠ q := fun h => HVQ.out (by rw [e, h])
            omega
          have hqz : q < wo.heap.size := hlq
          have hI6 := own_out hI5 hO hne0
          have hR6 := hR5.offO hO (by omega)
          have hq6 := hq2.out hO (.inr (by omega))
          have hU6 := Lib.hid (own_rd (own_out ho2 hO (fun g e => .inr (by have := (ho2.lt g e).1; omega))))
          have hB6 := below_out HB5.out hO (by omega)
          have hs6' := hO.size
          have HQ6 := Lib.hid hQ6
          have HR6 := Lib.hid hR6
          have HU6 := Lib.hid hq6
          have HB6 := Lib.hid hB6
          have HON := Lib.hid (ints_one t.ids)
          have hil : (ints t.ids).length = t.ids.length * 1 := by rw [ints_len, Nat.mul_one]
          have HIL := Lib.hid hil
          have hb6 : w.heap.size + 2 ≤ ((w5.setCell ⟨q, 0, none⟩ (.int .i64 t.next)).setCell ⟨q, 1, none⟩ (.slice A2 n2 c2)).heap.size := by omega
          have hsz6 : ((w5.setCell ⟨q, 0, none⟩ (.int .i64 t.next)).setCell ⟨q, 1, none⟩ (.slice A2 n2 c2)).heap.size = w5.heap.size := by simp
          have HSZ6 := Lib.hid hsz6
          clear hQ5 hR5 hI5 HB5 hRr hq2 ho2 hb2 hO hQ6 hR6 hq6 hB6 hil hsz6 hne0 HQ HR HQU HIDS HB HLEN
          go_wp2_with (at_builtin; refine append_src rfl (.tmp 35) (.tmp 36) 28 rfl 3 _ _ _ Try.underlying28 int_infoM (w.heap.size + 2) _ (.slice VA l vc) l _ rfl hI6 OA t.ids.length oc (ints t.ids) rfl HIL.out hU6.out HON.out (by omega) hb6 ?_; intro v' w7 hown7 hg7 hblk7)
          have hQ7 : Blk w7 q 25 [.int .i64 t.next, .slice A2 n2 c2] := (hg7.block q HQ6.out.lt (fun e => HVQ.out e.symm)).trans HQ6.out
          have hR7 : Blk w7 (w.heap.size + 1) 25 [.int .i64 0, .slice none 0 0] := (hg7.block _ HR6.out.lt (fun e => by have := (hI6.lt _ e.symm).1; omega)).trans HR6.out
          have hO7 := out_of_grown (lo := 0) (hi := wo.heap.size) hg7 (fun g e => ⟨Nat.zero_le _, HVL.out g e⟩)
          have hq7 := HU6.out.out hO7 (.inr (Nat.le_refl _))
          have hB7 := HB6.out.grown hg7 HB6.out.size (fun g e => by have := (hI6.lt g e).1; omega)
          have HV7 : Hid (v'.ownBlock ≠ some q) := Lib.hid (fun e => by
            rcases hblk7 with e2 | e2
            · exact HVQ.out (e2.symm.trans e)
            · rw [e2] at e
              injection e with e
              have := HSZ6.out
              omega)
          have HD7 : Hid (∀ g, v'.ownBlock = some g → g < wo.heap.size ∨ w5.heap.size ≤ g) := Lib.hid (fun g e => by
            rcases hblk7 with e2 | e2
            · exact .inl (HVL.out g (e2.symm.trans e))
            · rw [e2] at e
              injection e with e
              have := HSZ6.out
              exact .inr (by omega))
          have hw7 : w7.ownsRow (w.heap.size + 2) 3 1 v' (l + t.ids.length) (ints (ids ++ t.ids)) := by simpa [ints] using hown7
          go_roundw
          case rel => exact ⟨k + 1, n2, c2, l + t.ids.length, wo.heap.size, w5.heap.size, t.next, A2, t.held, ids ++ t.ids, by go_num, by omega, HST2, Lib.hid (by rw [List.length_append, HI.out]), hQ7, hR7, hq7, hw7, by omega, .inl hlq, HV7, HD7, hB7⟩
          case measure => simp [intOf]; omega
      · obtain rfl : k = m := by omega
        have hrun := HRUN.out
        rw [List.take_of_length_le (by rw [HL.out]; exact Nat.le_refl _)] at hrun
        have HRF := Lib.hid hrun
        have q0 := hQ.cellAt 0 (by simp)
        have q1 := hQ.cellAt 1 (by simp)
        have r0 := hR.cellAt 0 (by simp)
        have r1 := hR.cellAt 1 (by simp)
        have f0 := hR.frozen 0
        have f1 := hR.frozen 1
        simp only [List.getElem_cons_zero, List.getElem_cons_succ] at q0 q1 r0 r1
        have HQ := Lib.hid hQ
        have HR := Lib.hid hR
        have HQU := Lib.hid hque
        have HIDS := Lib.hid hids
        have HB := Lib.hid hB
        clear hQ hR hque hids hB hrun
        go_wp2_with fail
        refine bodyPost_ret (v := .tuple #[.agg #[.int .i64 tx, .slice TA tn tc], .slice VA l vc]) (by simp [results, Try.results7, go_sem, *]) rfl ?_
        rw [HT.out, HRF.out]
        have e2 := HI.out
        subst e2
        have hO : Out (w.heap.size + 1) (w.heap.size + 2) wr ((wr.setCell ⟨w.heap.size + 1, 0, none⟩ (.int .i64 tx)).setCell ⟨w.heap.size + 1, 1, none⟩ (.slice TA tn tc)) := out_set (out_set (Out.refl _ _ _) _ _ _ (Nat.le_refl _) (by omega)) _ _ _ (Nat.le_refl _) (by omega)
        have hq9 := HQU.out.out hO (.inr (by omega))
        exact RVal.mk ⟨TA, tn, tc, _, rfl, hq9.wide (by omega) hq9.2.2.2.1 (Nat.le_refl _), own_base (own_out HIDS.out hO (fun g e => .inr (by have := (HIDS.out.lt g e).1; omega))) (by omega), below_out HB.out hO (by omega)⟩
end Go.Proofs.Ytehaacpeamhamaa
