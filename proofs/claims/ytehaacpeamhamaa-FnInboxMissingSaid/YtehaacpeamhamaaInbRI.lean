/- The program's InboxRun. -/
import Derived.Test.YtehaacpeamhamaaInbTG
import Derived.Test.YtehaacpeamhamaaInbLP
import Derived.Test.YtehaacpeamhamaaOwnSrc
import Derived.Test.YtehaacpeamhamaaIntM
namespace Go.Proofs.Ytehaacpeamhamaa
open Go Go.ChangeShapes Go.WideShapes Go.ChangeAt Go.RowKit
theorem takeFr_own {w w' : World} {q base : Nat} {row : Option Nat} {e : TypeId} {size n : Nat} {v : Value} {xs : List Value} (h : w.ownsRow base e size v n xs) (fr : TakeFr w w' q row) (h1 : v.ownBlock ≠ some q) (h2 : ∀ g, v.ownBlock = some g → row ≠ some g) : w'.ownsRow base e size v n xs := by
  refine ⟨h.1, ?_⟩
  rcases h.2 with hn | ⟨g, cap, cur, rfl, hb, hgc, rest⟩
  · exact .inl hn
  · exact .inr ⟨g, cap, cur, rfl, hb, (fr.block g (Array.getElem?_eq_some_iff.1 hgc).1 (fun e => h1 (by rw [← e]; rfl)) (h2 g rfl)).trans hgc, rest⟩
theorem grown_own {w w' : World} {row : Option Nat} {base : Nat} {e : TypeId} {size n : Nat} {v : Value} {xs : List Value} (h : w.ownsRow base e size v n xs) (hg : w.grownBy w' row) (hne : ∀ g, v.ownBlock = some g → row ≠ some g) : w'.ownsRow base e size v n xs := by
  refine ⟨h.1, ?_⟩
  rcases h.2 with hn | ⟨g, cap, cur, rfl, hb, hgc, rest⟩
  · exact .inl hn
  · exact .inr ⟨g, cap, cur, rfl, hb, (hg.block g (Array.getElem?_eq_some_iff.1 hgc).1 (fun e => hne g rfl e.symm)).trans hgc, rest⟩
theorem runsI_step (next : Int) (held list : List MessageV) (k : Nat) (hk : k < list.length) : runsI next held (list.take (k + 1)) = ⟨(takeI (runsI next held (list.take k)).next (runsI next held (list.take k)).held list[k]).next, (takeI (runsI next held (list.take k)).next (runsI next held (list.take k)).held list[k]).held, (runsI next held (list.take k)).ids ++ (takeI (runsI next held (list.take k)).next (runsI next held (list.take k)).held list[k]).ids⟩ := by
  rw [List.take_succ_eq_append_getElem hk, runsI_snoc]
theorem runsI_small {next : Int} {held : List MessageV} (h : inbOk next held = true) (list : List MessageV) : (runsI next held list).held.length ≤ 6 ∧ (runsI next held list).ids.length ≤ 999 := by
  obtain ⟨h1, h2⟩ := runsI_ok h list
  obtain ⟨h3, h4, _⟩ := inbOk_bounds h1
  obtain ⟨h5, _⟩ := inbOk_bounds h
  exact ⟨inbOk_len h1, by omega⟩
theorem takeI_idl (next : Int) (held : List MessageV) (m : MessageV) : (takeI next held m).ids.length ≤ 7 := by
  cases h : inbOk next held with
  | false => rw [takeI_bad h]; simp
  | true => exact (takeI_law m h).2.2.2.1
theorem takeI_nextR (next : Int) (held : List MessageV) (m : MessageV) : 0 ≤ (takeI next held m).next ∧ (takeI next held m).next ≤ 999 ∧ (takeI next held m).held.length ≤ 6 := by
  cases h : inbOk next held with
  | false => rw [takeI_bad h]; simp
  | true =>
    obtain ⟨h1, _, _, _, h2⟩ := takeI_law m h
    obtain ⟨h3, h4, _⟩ := inbOk_bounds h1
    exact ⟨by omega, h4, h2⟩
set_option maxHeartbeats 4000000 in
theorem implInboxRun (next : Int) (A : Option Addr) (n c : Nat) (held : List MessageV) (B : Option Addr) (m d : Nat) (list : List MessageV) (w : World) (hn : held.length = n) (hr : RdV w A (messages held)) (hm : n ≤ 1048576) (hln : list.length = m) (hlr : RdV w B (messages list)) (hlm : m ≤ 1048576) :
    Calls Try.prog 6 #[.agg #[.int .i64 next, .slice A n c], .slice B m d] w (TakeOwn w (runI next held list)) := by
  have HN := Lib.hid hn
  have HL := Lib.hid hln
  clear hn hln
  have hB : Below w.heap.size w ((w.alloc (.cells #[.int .i64 next, .slice A n c] 25)).alloc (.cells #[.int .i64 0, .slice none 0 0] 25)) := ((Below.refl _ _).alloc (Nat.le_refl _) _).alloc (by simp) _
  have hP : Blk ((w.alloc (.cells #[.int .i64 next, .slice A n c] 25)).alloc (.cells #[.int .i64 0, .slice none 0 0] 25)) w.heap.size 25 [.int .i64 next, .slice A n c] := (Blk.new _ _ _).alloc _
  have hR : Blk ((w.alloc (.cells #[.int .i64 next, .slice A n c] 25)).alloc (.cells #[.int .i64 0, .slice none 0 0] 25)) (w.heap.size + 1) 25 [.int .i64 0, .slice none 0 0] := by simpa using Blk.new (w.alloc (.cells #[.int .i64 next, .slice A n c] 25)) 25 [.int .i64 0, .slice none 0 0]
  go_enter Try.func6, Try.ntmps6
  go_wp2_with fail
  generalize (w.alloc (.cells #[.int .i64 next, .slice A n c] 25)).alloc (.cells #[.int .i64 0, .slice none 0 0] 25) = w0 at *
  have hz0 := hR.lt
  refine (implInboxValid next A n c held _ HN.out (hr.below hB) (by omega)).mono ?_
  rintro e w1 ⟨rfl, hb1⟩
  have P1 := hP.later hb1
  have R1 := hR.later hb1
  have B1 := below_trans hB hb1
  have hz1 := hb1.size
  clear hP hR hB hb1
  have p0 := P1.cellAt 0 (by simp)
  have p1 := P1.cellAt 1 (by simp)
  have r0 := R1.cellAt 0 (by simp)
  have r1 := R1.cellAt 1 (by simp)
  have f0 := R1.frozen 0
  have f1 := R1.frozen 1
  simp only [List.getElem_cons_zero, List.getElem_cons_succ] at p0 p1 r0 r1
  cases hok : inbOk next held with
  | false =>
    have HT := Lib.hid (runI_bad (list := list) hok)
    clear hok
    go_wp2_with fail
    refine bodyPost_ret (v := .tuple #[.agg #[.int .i64 0, .slice none 0 0], .slice none 0 0]) (by simp [results, Try.results6, go_sem, *]) rfl ?_
    rw [HT.out]
    have hO : Out (w.heap.size + 1) (w.heap.size + 2) w1 ((w1.setCell ⟨w.heap.size + 1, 0, none⟩ (.int .i64 0)).setCell ⟨w.heap.size + 1, 1, none⟩ (.slice none 0 0)) := out_set (out_set (Out.refl _ _ _) _ _ _ (Nat.le_refl _) (by omega)) _ _ _ (Nat.le_refl _) (by omega)
    exact RVal.mk ⟨none, 0, .slice none 0 0, rfl, World.ownsRow_nil _ _ _ _, World.ownsRow_nil _ _ _ _, fun g e => by simp [Value.ownBlock] at e, below_out B1 hO (by omega)⟩
  | true =>
    have HT := Lib.hid (runI_ok (list := list) hok)
    have HOK := Lib.hid hok
    clear hok
    go_wp2_with fail
    refine (inbClone_any next A n c held _ HN.out (hr.below B1) hm).mono ?_
    rintro e w2 ⟨_, rfl, NA, nc, rfl, N2, hb2⟩
    have hal : Below w2.heap.size w2 (w2.alloc (.cells #[.int .i64 next, .slice NA n nc] 25)) := (Below.refl _ _).alloc (Nat.le_refl _) _
    have Q3 : Blk (w2.alloc (.cells #[.int .i64 next, .slice NA n nc] 25)) w2.heap.size 25 [.int .i64 next, .slice NA n nc] := Blk.new _ _ _
    have R3 := (R1.later hb2).later hal
    have B3 := below_trans (below_trans B1 hb2) hal
    have N3 := (N2.later hal)
    have hz2 := hb2.size
    have hneQ : (Value.slice NA n nc).ownBlock ≠ some w2.heap.size := fun e => by have := N2.lt _ e; omega
    clear P1 R1 B1 hb2 N2 hal p0 p1 r0 r1 f0 f1
    go_wp2_with fail
    generalize w2.alloc (.cells #[.int .i64 next, .slice NA n nc] 25) = w3 at *
    generalize w2.heap.size = q at *
    have hown3 : w3.ownsRow (w.heap.size + 2) 35 2 (.slice NA n nc) n (messages held) := own_base N3.row (by omega)
    clear N3
    go_loopw [7, 9, 18] (fun v _ i wr => ∃ (k tn tc l : Nat) (tx : Int) (TA : Option Addr) (zs : List MessageV) (ids : List Int), i = .int .i64 k ∧ k ≤ m ∧ Hid (runsI next held (list.take k) = ⟨tx, zs, ids⟩) ∧ Hid (zs.length = tn) ∧ Hid (ids.length = l) ∧ Blk wr q 25 [.int .i64 tx, .slice TA tn tc] ∧ Blk wr (w.heap.size + 1) 25 [.int .i64 0, .slice none 0 0] ∧ wr.ownsRow (w.heap.size + 2) 35 2 (.slice TA tn tc) tn (messages zs) ∧ wr.ownsRow (w.heap.size + 2) 3 1 v l (ints ids) ∧ Hid ((Value.slice TA tn tc).ownBlock ≠ some q) ∧ Hid (v.ownBlock ≠ some q) ∧ Hid (∀ g, v.ownBlock = some g → (Value.slice TA tn tc).ownBlock ≠ some g) ∧ Below w.heap.size w wr) (fun _ _ i _ => m - (intOf i).toNat)
    case atStart =>
      exact ⟨0, n, nc, 0, next, NA, held, [], rfl, Nat.zero_le _, Lib.hid rfl, HN, Lib.hid rfl, Q3, R3, hown3, World.ownsRow_nil _ _ _ _, Lib.hid hneQ, Lib.hid (by simp [Value.ownBlock]), Lib.hid (fun g e => by simp [Value.ownBlock] at e), B3⟩
    case round =>
      clear Q3 R3 B3 hown3
      obtain ⟨k, tn, tc, l, tx, TA, zs, ids, rfl, hk, HRUN, HZ, HI, hQ, hR, hrow, hids, HNQ, HVQ, HDIS, hB⟩ := hrel
      have hsm := runsI_small HOK.out (list.take k)
      rw [HRUN.out] at hsm
      obtain ⟨hs6, hs9⟩ := hsm
      dsimp only at hs6 hs9
      rw [HZ.out] at hs6
      rw [HI.out] at hs9
      have hok2 := (runsI_ok HOK.out (list.take k)).1
      rw [HRUN.out] at hok2
      have HOK2 := Lib.hid hok2
      clear hok2
      have hlq := hQ.lt
      obtain ⟨VA, vc, rfl, _, _⟩ := own_slice hids
      by_cases hlt : k < m
      · have hke : k < list.length := by rw [HL.out]; exact hlt
        obtain ⟨b, o, rfl, hl, hc0, hc1⟩ := hlr.messageAt hke
        have h0 : wr.cell? ⟨b, o + k * 2, none⟩ = some (.int .i64 (list[k]).f0) := (hB.cell (p := ⟨b, o + k * 2, none⟩) hl).trans hc0
        have h1 : wr.cell? ⟨b, o + k * 2 + 1, none⟩ = some (.int .i64 (list[k]).f1) := (hB.cell (p := ⟨b, o + k * 2 + 1, none⟩) hl).trans hc1
        have hst := runsI_step next held list k hke
        rw [HRUN.out] at hst
        dsimp only at hst
        have HST := Lib.hid hst
        clear hst hc0 hc1
        generalize list[k] = x at *
        obtain ⟨x0, x1⟩ := x
        dsimp only at h0 h1
        have hki : (k : Int) < (m : Int) := by omega
        have hal : Below wr.heap.size wr (wr.alloc (.cells #[.int .i64 x0, .int .i64 x1] 35)) := (Below.refl _ _).alloc (Nat.le_refl _) _
        have hQ2 := hQ.later hal
        have hR2 := Lib.hid (hR.later hal)
        have hrow2 := own_later hrow hal
        have hids2 := Lib.hid (own_later hids hal)
        have HB2 := Lib.hid (below_trans hB hal)
        have hsz2 : wr.heap.size + 1 ≤ (wr.alloc (.cells #[.int .i64 x0, .int .i64 x1] 35)).heap.size := by simp
        have hvl : ∀ g, (Value.slice VA l vc).ownBlock = some g → g < wr.heap.size := fun g e => (hids.lt g e).2
        have HVL := Lib.hid hvl
        have hwz : w.heap.size + 2 ≤ wr.heap.size := Nat.succ_le_of_lt hR.lt
        clear hQ hR hrow hids hB hal hvl
        have HBASE : w.heap.size + 2 ≤ (wr.alloc (.cells #[.int .i64 x0, .int .i64 x1] 35)).heap.size := by omega
        go_wp2_with fail
        generalize wr.alloc (.cells #[.int .i64 x0, .int .i64 x1] 35) = w4 at *
        refine (take_any q (w.heap.size + 2) tx TA tn tc zs x0 x1 w4 HZ.out hQ2 hrow2 HNQ.out HBASE HOK2.out).mono ?_
        rintro e w5 ⟨u, rfl, NA5, nc5, Q5, H5, hne5, O5, hdis5, hfr5, fr⟩
        obtain ⟨UA, uc, rfl, _, _⟩ := own_slice O5
        have hsmt := takeI_nextR tx zs ⟨x0, x1⟩
        have hsl := takeI_idl tx zs ⟨x0, x1⟩
        generalize takeI tx zs ⟨x0, x1⟩ = t at *
        have hR5 : Blk w5 (w.heap.size + 1) 25 [.int .i64 0, .slice none 0 0] := (fr.block _ hR2.out.lt (by omega) (fun e => by have := (hrow2.lt _ e).1; omega)).trans hR2.out
        have hids5 := takeFr_own hids2.out fr HVQ.out (fun g e => HDIS.out g e)
        have hB5 := takeFr_below HB2.out fr (by omega) (fun g e => by have := (hrow2.lt g e).1; omega)
        have hdis6 : ∀ g, (Value.slice VA l vc).ownBlock = some g → (Value.slice NA5 t.held.length nc5).ownBlock ≠ some g := fun g e h => by
          rcases hfr5 with e2 | ⟨g2, e2, h2⟩
          · exact HDIS.out g e (e2.symm.trans h)
          · rw [e2] at h
            injection h with h
            have := HVL.out g e
            omega
        have HDIS6 := Lib.hid hdis6
        have HNE5 := Lib.hid hne5
        have HR5 := Lib.hid hR5
        have HB5 := Lib.hid hB5
        have HQ5 := Lib.hid Q5
        have HH5 := Lib.hid H5
        have rdU := Lib.hid (own_rd O5)
        have HST2 := Lib.hid HST.out
        have HON := Lib.hid (ints_one t.ids)
        have hil : (ints t.ids).length = t.ids.length * 1 := by rw [ints_len, Nat.mul_one]
        have HIL := Lib.hid hil
        have hb5 : w.heap.size + 2 ≤ w5.heap.size := Nat.le_trans HBASE fr.size
        clear hQ2 hR2 hrow2 hids2 HB2 fr Q5 H5 hne5 O5 hdis5 hfr5 hdis6 hR5 hB5 hil HST
        go_wp2_with (at_builtin; refine append_src rfl (.tmp 22) (.tmp 24) 28 rfl 3 _ _ _ Try.underlying28 int_infoM (w.heap.size + 2) _ (.slice VA l vc) l _ rfl hids5 UA t.ids.length uc (ints t.ids) rfl HIL.out rdU.out HON.out (by omega) hb5 ?_; intro v' w6 hown6 hg6 hblk6)
        have hQ6 : Blk w6 q 25 [.int .i64 t.next, .slice NA5 t.held.length nc5] := (hg6.block q HQ5.out.lt (fun e => HVQ.out e.symm)).trans HQ5.out
        have hR6 : Blk w6 (w.heap.size + 1) 25 [.int .i64 0, .slice none 0 0] := (hg6.block _ HR5.out.lt (fun e => by have := (hids5.lt _ e.symm).1; omega)).trans HR5.out
        have hH6 := grown_own HH5.out hg6 (fun g e h => HDIS6.out g h e)
        have hB6 := HB5.out.grown hg6 HB5.out.size (fun g e => by have := (hids5.lt g e).1; omega)
        have HV6 : Hid (v'.ownBlock ≠ some q) := Lib.hid (fun e => by
          rcases hblk6 with e2 | e2
          · exact HVQ.out (e2.symm.trans e)
          · rw [e2] at e
            injection e with e
            have := HQ5.out.lt
            omega)
        have HD6 : Hid (∀ g, v'.ownBlock = some g → (Value.slice NA5 t.held.length nc5).ownBlock ≠ some g) := Lib.hid (fun g e h => by
          rcases hblk6 with e2 | e2
          · exact HDIS6.out g (e2.symm.trans e) h
          · rw [e2] at e
            injection e with e
            have := (HH5.out.lt g h).2
            omega)
        have hw6 : w6.ownsRow (w.heap.size + 2) 3 1 v' (l + t.ids.length) (ints (ids ++ t.ids)) := by simpa [ints] using hown6
        go_roundw
        case rel => exact ⟨k + 1, t.held.length, nc5, l + t.ids.length, t.next, NA5, t.held, ids ++ t.ids, by go_num, by omega, HST2, Lib.hid rfl, Lib.hid (by rw [List.length_append, HI.out]), hQ6, hR6, hH6, hw6, HNE5, HV6, HD6, hB6⟩
        case measure => simp [intOf]; omega
      · obtain rfl : k = m := by omega
        have hrun := HRUN.out
        rw [List.take_of_length_le (by rw [HL.out]; exact Nat.le_refl _)] at hrun
        have HRF := Lib.hid hrun
        have q0 := hQ.cellAt 0 (by simp)
        have q1 := hQ.cellAt 1 (by simp)
        have r0 := hR.cellAt 0 (by simp)
        have r1 := hR.cellAt 1 (by simp)
        have f0 := hR.frozen 0
        have f1 := hR.frozen 1
        simp only [List.getElem_cons_zero, List.getElem_cons_succ] at q0 q1 r0 r1
        have HQ := Lib.hid hQ
        have HR := Lib.hid hR
        have HROW := Lib.hid hrow
        have HIDS := Lib.hid hids
        have HB := Lib.hid hB
        clear hQ hR hrow hids hB hrun
        go_wp2_with fail
        refine bodyPost_ret (v := .tuple #[.agg #[.int .i64 tx, .slice TA tn tc], .slice VA l vc]) (by simp [results, Try.results6, go_sem, *]) rfl ?_
        rw [HT.out, HRF.out]
        have e1 := HZ.out
        have e2 := HI.out
        subst e1 e2
        have hO : Out (w.heap.size + 1) (w.heap.size + 2) wr ((wr.setCell ⟨w.heap.size + 1, 0, none⟩ (.int .i64 tx)).setCell ⟨w.heap.size + 1, 1, none⟩ (.slice TA zs.length tc)) := out_set (out_set (Out.refl _ _ _) _ _ _ (Nat.le_refl _) (by omega)) _ _ _ (Nat.le_refl _) (by omega)
        exact RVal.mk ⟨TA, tc, _, rfl, own_base (own_out HROW.out hO (fun g e => .inr (by have := (HROW.out.lt g e).1; omega))) (by omega), own_base (own_out HIDS.out hO (fun g e => .inr (by have := (HIDS.out.lt g e).1; omega))) (by omega), HDIS.out, below_out HB.out hO (by omega)⟩
end Go.Proofs.Ytehaacpeamhamaa
