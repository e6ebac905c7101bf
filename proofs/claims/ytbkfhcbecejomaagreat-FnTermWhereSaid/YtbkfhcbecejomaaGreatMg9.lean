/- PaperDo of the reference: the plain word. -/
import Derived.Test.YtbkfhcbecejomaaGreatMg8
namespace Go.Proofs.YtbkfhcbecejomaaGreat
open Go Go.ChangeShapes Go.WideShapes Go.ChangeAt Go.RowKit
set_option linter.unusedVariables false
set_option linter.unusedSimpArgs false
/-- papers in memory of the call's own, and whether the deed was done -/
def DoOut (w : World) (r : PapV × Bool) : Ending → World → Prop :=
  RVal fun u w' => ∃ HA hc LA lc, u = .tuple #[.agg #[.slice HA r.1.hs.length hc, .slice LA r.1.ls.length lc], .bool r.2] ∧ w'.ownsRow w.heap.size 88 2 (.slice HA r.1.hs.length hc) r.1.hs.length (holds r.1.hs) ∧ w'.ownsRow w.heap.size 3 1 (.slice LA r.1.ls.length lc) r.1.ls.length (ints r.1.ls) ∧ Below w.heap.size w w'
theorem doOut_mk {w w' : World} {hs : List HoldV} {ls : List Int} {b : Bool} {r : PapV × Bool} {n m hc lc : Nat} {HA LA : Option Addr} (hr : r = (⟨hs, ls⟩, b)) (hn : hs.length = n) (hm : ls.length = m) (h1 : w'.ownsRow w.heap.size 88 2 (.slice HA n hc) n (holds hs)) (h2 : w'.ownsRow w.heap.size 3 1 (.slice LA m lc) m (ints ls)) (hb : Below w.heap.size w w') :
    DoOut w r (.returned (.tuple #[.agg #[.slice HA n hc, .slice LA m lc], .bool b])) w' := by
  subst hr hn hm
  exact RVal.mk ⟨HA, hc, LA, lc, rfl, h1, h2, hb⟩
/-- between the steps of PaperDo: the papers' box, the deed's box, the result's cell -/
structure DoAt (w0 W : World) (n c m lc : Nat) (HA LA : Option Addr) (k x mk : Int) : Prop where
  box : Blk W w0.heap.size 32 [.slice HA n c, .slice LA m lc]
  deed : Blk W (w0.heap.size + 1) 135 [.int .i64 k, .int .i64 x, .int .i64 mk]
  res : Blk W (w0.heap.size + 1 + 1) 32 [.slice none 0 0, .slice none 0 0]
  bel : Below w0.heap.size w0 W
theorem DoAt.later {w0 W W' : World} {n c m lc : Nat} {HA LA : Option Addr} {k x mk : Int} (h : DoAt w0 W n c m lc HA LA k x mk) (hb : Below W.heap.size W W') : DoAt w0 W' n c m lc HA LA k x mk :=
  ⟨h.box.later hb, h.deed.later hb, h.res.later hb, below_trans h.bel hb⟩
theorem DoAt.set1 {w W : World} {n c m lc q : Nat} {HA LA : Option Addr} {k x mk : Int} (S : DoAt w W n c m lc HA LA k x mk) (hq : w.heap.size + 3 ≤ q) (v : Value) : DoAt w (W.setCell ⟨q, 1, none⟩ v) n c m lc HA LA k x mk :=
  ⟨S.box.far (by show w.heap.size ≠ q; omega) _, S.deed.far (by show w.heap.size + 1 ≠ q; omega) _, S.res.far (by show w.heap.size + 1 + 1 ≠ q; omega) _, S.bel.setCell (by show w.heap.size ≤ q; omega) _⟩
theorem own_set1 {W : World} {b k n q i : Nat} {e t : TypeId} {v : Value} {xs cs : List Value} (h : W.ownsRow b e k v n xs) (hq : Blk W q t cs) (hne : e ≠ t) (u : Value) : (W.setCell ⟨q, i, none⟩ u).ownsRow b e k v n xs := own_setAt h hq hne
theorem doAt_start (w : World) (n c m lc : Nat) (HA LA : Option Addr) (k x mk : Int) : DoAt w (((w.alloc (.cells #[.slice HA n c, .slice LA m lc] 32)).alloc (.cells #[.int .i64 k, .int .i64 x, .int .i64 mk] 135)).alloc (.cells #[.slice none 0 0, .slice none 0 0] 32)) n c m lc HA LA k x mk := by
  refine ⟨((Blk.new _ _ _).alloc _).alloc _, ?_, ?_, (((Below.refl _ _).alloc (Nat.le_refl _) _).alloc (by simp) _).alloc (by simp; omega) _⟩
  · have := Blk.new (w.alloc (.cells #[.slice HA n c, .slice LA m lc] 32)) 135 [.int .i64 k, .int .i64 x, .int .i64 mk]
    simp only [World.size_alloc] at this
    exact this.alloc _
  · have := Blk.new ((w.alloc (.cells #[.slice HA n c, .slice LA m lc] 32)).alloc (.cells #[.int .i64 k, .int .i64 x, .int .i64 mk] 135)) 32 [.slice none 0 0, .slice none 0 0]
    simp only [World.size_alloc] at this
    exact this
/- the end: the result's cell is filled with A1, A2 and handed back with b -/
theorem keepD {w w5 W : World} {n c m lc : Nat} {HA LA : Option Addr} {k x mk : Int} (S : DoAt w w5 n c m lc HA LA k x mk) (hb : Below w5.heap.size w5 W) :
    W.cell? ⟨w.heap.size, 0, none⟩ = some (.slice HA n c) ∧ W.cell? ⟨w.heap.size, 1, none⟩ = some (.slice LA m lc) ∧ W.cell? ⟨w.heap.size + 1, 1, none⟩ = some (.int .i64 x) ∧ W.cell? ⟨w.heap.size + 1, 2, none⟩ = some (.int .i64 mk) :=
  ⟨(S.box.later hb).cellAt 0 (by simp), (S.box.later hb).cellAt 1 (by simp), (S.deed.later hb).cellAt 1 (by simp), (S.deed.later hb).cellAt 2 (by simp)⟩
theorem DoAt.set6 {w W : World} {n c m lc q : Nat} {HA LA : Option Addr} {k x mk : Int} (S : DoAt w W n c m lc HA LA k x mk) (hq : w.heap.size + 3 ≤ q) (u v : Value) : DoAt w ((W.setCell ⟨q, 0, none⟩ u).setCell ⟨q, 1, none⟩ v) n c m lc HA LA k x mk :=
  ⟨(S.box.far (by show w.heap.size ≠ q; omega) _).far (by show w.heap.size ≠ q; omega) _, (S.deed.far (by show w.heap.size + 1 ≠ q; omega) _).far (by show w.heap.size + 1 ≠ q; omega) _, (S.res.far (by show w.heap.size + 1 + 1 ≠ q; omega) _).far (by show w.heap.size + 1 + 1 ≠ q; omega) _, (S.bel.setCell (by show w.heap.size ≤ q; omega) _).setCell (by show w.heap.size ≤ q; omega) _⟩
theorem keepDs {w w5 wa : World} {n c m lc q : Nat} {HA LA : Option Addr} {k x mk : Int} {u v : Value} (S : DoAt w w5 n c m lc HA LA k x mk) (hb : Below w5.heap.size w5 wa) (hq : w.heap.size + 3 ≤ q) :
    ((wa.setCell ⟨q, 0, none⟩ u).setCell ⟨q, 1, none⟩ v).cell? ⟨w.heap.size, 0, none⟩ = some (.slice HA n c) ∧ ((wa.setCell ⟨q, 0, none⟩ u).setCell ⟨q, 1, none⟩ v).cell? ⟨w.heap.size, 1, none⟩ = some (.slice LA m lc) ∧ ((wa.setCell ⟨q, 0, none⟩ u).setCell ⟨q, 1, none⟩ v).cell? ⟨w.heap.size + 1, 1, none⟩ = some (.int .i64 x) ∧ ((wa.setCell ⟨q, 0, none⟩ u).setCell ⟨q, 1, none⟩ v).cell? ⟨w.heap.size + 1, 2, none⟩ = some (.int .i64 mk) :=
  keepD ((S.later hb).set6 hq u v) (Below.refl _ _)
theorem own_set2 {W : World} {k n q h : Nat} {e : TypeId} {v : Value} {xs : List Value} (ho : W.ownsRow h e k v n xs) (hq : q < h) (u1 u2 : Value) : ((W.setCell ⟨q, 0, none⟩ u1).setCell ⟨q, 1, none⟩ u2).ownsRow h e k v n xs := by
  have h6 : Out q (q + 1) W ((W.setCell ⟨q, 0, none⟩ u1).setCell ⟨q, 1, none⟩ u2) := out_set (out_set (Out.refl _ _ _) _ _ _ (Nat.le_refl _) (Nat.lt_succ_self _)) _ _ _ (Nat.le_refl _) (Nat.lt_succ_self _)
  exact own_out ho h6 (fun g e => by have := (ho.lt g e).1; omega)
theorem sdo_none {p : PapV} {k x m : Int} (h0 : ¬ (k = 0 ∧ markOk k m = true ∧ hasI p.ls x = false ∧ bitM (marksOf p.hs x) m = false)) (h1 : ¬ (k = 1 ∧ markOk k m = true ∧ bitM (marksOf p.hs x) m = true)) (h2 : ¬ (k = 2 ∧ hasI p.ls x = false ∧ marksOf p.hs x = 0)) : sdo p k x m = (p, false) := by
  unfold sdo
  rw [if_neg h0, if_neg h1, if_neg h2]
set_option maxRecDepth 100000 in
set_option maxHeartbeats 8000000 in
theorem specPaperDo (HA LA : Option Addr) (n c m lc : Nat) (hs : List HoldV) (ls : List Int) (k x mk : Int) (w : World) (hn : hs.length = n) (hln : ls.length = m) (hr : RdV w HA (holds hs)) (hrl : RdV w LA (ints ls)) (hmc : m ≤ lc) (hm : n ≤ 1048576) (hm2 : m ≤ 1048576) :
    Calls Tryz.prog 109 #[.agg #[.slice HA n c, .slice LA m lc], .agg #[.int .i64 k, .int .i64 x, .int .i64 mk]] w (DoOut w (paperDo ⟨hs, ls⟩ k x mk)) := by
  have HN := Lib.hid hn
  have HLN := Lib.hid hln
  clear hn hln
  go_enter Tryz.func109, Tryz.ntmps109
  go_wp2_with fail
  have S0 := doAt_start w n c m lc HA LA k x mk
  generalize ((w.alloc (.cells #[.slice HA n c, .slice LA m lc] 32)).alloc (.cells #[.int .i64 k, .int .i64 x, .int .i64 mk] 135)).alloc (.cells #[.slice none 0 0, .slice none 0 0] 32) = w1 at *
  refine (specPapersValid HA LA n c m lc hs ls w1 HN.out HLN.out (hr.below S0.bel) (hrl.below S0.bel) hm hm2).mono ?_
  rintro e w2 ⟨rfl, b2⟩
  have S2 := S0.later b2
  have S2h := Lib.hid S2
  clear b2 S0
  have x0 := (S2.box).cellAt 0 (by simp)
  have x1 := (S2.box).cellAt 1 (by simp)
  have d0 := (S2.deed).cellAt 0 (by simp)
  have d1 := (S2.deed).cellAt 1 (by simp)
  have d2 := (S2.deed).cellAt 2 (by simp)
  have r0 := (S2.res).cellAt 0 (by simp)
  have r1 := (S2.res).cellAt 1 (by simp)
  have rf0 := (S2.res).frozen 0
  have rf1 := (S2.res).frozen 1
  simp only [List.getElem_cons_zero, List.getElem_cons_succ] at x0 x1 d0 d1 d2 r0 r1
  cases hok : papOk hs ls with
  | false =>
    have HZ1 : Hid (w2.ownsRow (w.heap.size + 3) 88 2 (.slice none 0 0) 0 (holds [])) := Lib.hid (World.ownsRow_nil _ _ _ _)
    have HZ2 : Hid (w2.ownsRow (w.heap.size + 3) 3 1 (.slice none 0 0) 0 (ints [])) := Lib.hid (World.ownsRow_nil _ _ _ _)
    have HE : Hid (paperDo ⟨hs, ls⟩ k x mk = (⟨[], []⟩, false)) := Lib.hid (by simp [paperDo, papOkV, hok])
    clear hok
    go_wp2_with fail
    have hR := ((S2h.out.res).set_ 0 (.slice none (0) 0)).set_ 1 (.slice none (0) 0)
    have hR1 := (S2h.out.res).set_ 0 (.slice none (0) 0)
    have u0 := hR1.cellAt 1 (by simp)
    have u1 := hR.cellAt 0 (by simp)
    have u2 := hR.cellAt 1 (by simp)
    simp only [List.set_cons_zero, List.set_cons_succ, List.getElem_cons_zero, List.getElem_cons_succ] at u0 u1 u2
    refine bodyPost_ret (v := .tuple #[.agg #[.slice none (0) 0, .slice none (0) 0], .bool false]) (by simp [results, Tryz.results109, go_sem, *]) rfl ?_
    have h6 : Out (w.heap.size + 1 + 1) (w.heap.size + 3) w2 ((w2.setCell ⟨w.heap.size + 1 + 1, 0, none⟩ (.slice none (0) 0)).setCell ⟨w.heap.size + 1 + 1, 1, none⟩ (.slice none (0) 0)) := out_set (out_set (Out.refl _ _ _) _ _ _ (by omega) (by omega)) _ _ _ (by omega) (by omega)
    refine doOut_mk HE.out rfl rfl (own_base (own_out (HZ1.out) h6 ?_) (Nat.le_add_right _ 3)) (own_base (own_out (HZ2.out) h6 ?_) (Nat.le_add_right _ 3)) (below_out (S2h.out.bel) h6 (by omega))
    · intro g e
      have := ((HZ1.out).lt g e).1
      omega
    · intro g e
      have := ((HZ2.out).lt g e).1
      omega
  | true =>
    have HOK : Hid (papOkV ⟨hs, ls⟩ = true) := Lib.hid hok
    obtain ⟨g1, g2, g3, g4⟩ := papOk_iff.1 hok
    obtain ⟨hg0, hg7⟩ := marksOf_range g1 x
    have HPW := Lib.hid (holdGo_iff.1 g1).2
    have HVAL := Lib.hid g1
    have HVAL := Lib.hid g1
    have HVAL := Lib.hid g1
    have HVAL := Lib.hid g1
    have HVAL := Lib.hid g1
    have HE : Hid (paperDo ⟨hs, ls⟩ k x mk = sdo ⟨hs, ls⟩ k x mk) := Lib.hid (by rw [sdo_eq (p := ⟨hs, ls⟩) hok]; unfold paperDo; rw [if_pos (show papOkV ⟨hs, ls⟩ = true from hok)])
    have hm12 : m ≤ 12 := by have h5 := HLN.out; have h6 : ls.length ≤ 12 := g4; omega
    have hn12 : n ≤ 12 := by have h5 := HN.out; have h6 : hs.length ≤ 12 := g3; omega
    clear hok g1 g2 g3 g4
    go_wp2_with fail
    refine (specClone HA LA n c m lc hs ls w2 HN.out HLN.out (hr.below S2h.out.bel) (hrl.below S2h.out.bel) hm hm2).mono ?_
    rintro e w3 ⟨_, rfl, CA, cc, CL, clc, rfl, oh3, ol3, b3⟩
    dsimp only at oh3 ol3
    rw [HN.out] at oh3
    rw [HLN.out] at ol3
    dsimp only
    rw [HN.out, HLN.out]
    have hal : Below w3.heap.size w3 (w3.alloc (.cells #[.slice CA n cc, .slice CL m clc] 32)) := (Below.refl _ _).alloc (Nat.le_refl _) _
    have C4 : Blk (w3.alloc (.cells #[.slice CA n cc, .slice CL m clc] 32)) w3.heap.size 32 [.slice CA n cc, .slice CL m clc] := Blk.new _ _ _
    have hsz : w.heap.size + 3 ≤ w2.heap.size := S2h.out.res.lt
    have hq6 : w.heap.size + 3 ≤ w3.heap.size := Nat.le_trans hsz b3.size
    have S4 := (S2h.out.later b3).later hal
    have oh4 := own_base (own_later oh3 hal) hsz
    have ol4 := own_base (own_later ol3 hal) hsz
    clear x0 x1 d0 d1 d2 r0 r1 rf0 rf1
    have x0 := (S4.box).cellAt 0 (by simp)
    have x1 := (S4.box).cellAt 1 (by simp)
    have d0 := (S4.deed).cellAt 0 (by simp)
    have d1 := (S4.deed).cellAt 1 (by simp)
    have d2 := (S4.deed).cellAt 2 (by simp)
    have r0 := (S4.res).cellAt 0 (by simp)
    have r1 := (S4.res).cellAt 1 (by simp)
    have rf0 := (S4.res).frozen 0
    have rf1 := (S4.res).frozen 1
    simp only [List.getElem_cons_zero, List.getElem_cons_succ] at x0 x1 d0 d1 d2 r0 r1
    clear b3 oh3 ol3 hal S2
    go_wp2_with fail
    generalize w3.alloc (.cells #[.slice CA n cc, .slice CL m clc] 32) = w4 at *
    generalize w3.heap.size = q6 at *
    refine (specMarksOf HA n c hs LA m lc x w4 HN.out (hr.below S4.bel) hm).mono ?_
    rintro e w5 ⟨rfl, b5⟩
    have S5 := S4.later b5
    have C5 := C4.later b5
    have O5 := Lib.hid (own_later oh4 b5)
    have P5 := Lib.hid (own_later ol4 b5)
    have S5h := Lib.hid S5
    have c0 := C5.cellAt 0 (by simp)
    have c1 := C5.cellAt 1 (by simp)
    simp only [List.getElem_cons_zero, List.getElem_cons_succ] at c0 c1
    clear x0 x1 d0 d1 d2 r0 r1 rf0 rf1
    have x0 := (S5.box).cellAt 0 (by simp)
    have x1 := (S5.box).cellAt 1 (by simp)
    have d0 := (S5.deed).cellAt 0 (by simp)
    have d1 := (S5.deed).cellAt 1 (by simp)
    have d2 := (S5.deed).cellAt 2 (by simp)
    have r0 := (S5.res).cellAt 0 (by simp)
    have r1 := (S5.res).cellAt 1 (by simp)
    have rf0 := (S5.res).frozen 0
    have rf1 := (S5.res).frozen 1
    simp only [List.getElem_cons_zero, List.getElem_cons_succ] at x0 x1 d0 d1 d2 r0 r1
    have HG := Lib.hid (rfl : marksOf hs x = marksOf hs x)
    generalize hgg : marksOf hs x = g at *
    replace HG := Lib.hid hgg
    clear hgg S4 C4 oh4 ol4 b5
    go_wp2_with fail
    refine (l1Has_any LA m lc ls x w5 HLN.out (hrl.below S5.bel) (by omega)).mono ?_
    rintro e w' ⟨rfl, rfl⟩
    by_cases k2 : k = 2
    · subst k2
      cases hl : hasI ls x with
      | true =>
        have HD : Hid (paperDo ⟨hs, ls⟩ 2 x mk = (⟨hs, ls⟩, false)) := Lib.hid (by rw [HE.out]; exact sdo_none (by rintro ⟨a, b, c, d⟩; omega) (by rintro ⟨a, b, c⟩; omega) (by rintro ⟨a, b, c⟩; simp [hl] at b))
        clear hl
        go_wp2_with fail
        have hR := ((S5h.out.res).set_ 0 (.slice CA (n) cc)).set_ 1 (.slice CL (m) clc)
        have hR1 := (S5h.out.res).set_ 0 (.slice CA (n) cc)
        have u0 := hR1.cellAt 1 (by simp)
        have u1 := hR.cellAt 0 (by simp)
        have u2 := hR.cellAt 1 (by simp)
        simp only [List.set_cons_zero, List.set_cons_succ, List.getElem_cons_zero, List.getElem_cons_succ] at u0 u1 u2
        refine bodyPost_ret (v := .tuple #[.agg #[.slice CA (n) cc, .slice CL (m) clc], .bool false]) (by simp [results, Tryz.results109, go_sem, *]) rfl ?_
        have h6 : Out (w.heap.size + 1 + 1) (w.heap.size + 3) w5 ((w5.setCell ⟨w.heap.size + 1 + 1, 0, none⟩ (.slice CA (n) cc)).setCell ⟨w.heap.size + 1 + 1, 1, none⟩ (.slice CL (m) clc)) := out_set (out_set (Out.refl _ _ _) _ _ _ (by omega) (by omega)) _ _ _ (by omega) (by omega)
        refine doOut_mk HD.out HN.out HLN.out (own_base (own_out O5.out h6 ?_) (Nat.le_add_right _ 3)) (own_base (own_out P5.out h6 ?_) (Nat.le_add_right _ 3)) (below_out (S5h.out.bel) h6 (by omega))
        · intro g e
          have := (O5.out.lt g e).1
          omega
        · intro g e
          have := (P5.out.lt g e).1
          omega
      | false =>
        by_cases hg : g = 0
        · have hgz : (g == 0) = true := by simp [hg]
          have HNO : Hid (papOk hs (insL ls x) = false → paperDo ⟨hs, ls⟩ 2 x mk = (⟨hs, ls⟩, false)) := Lib.hid (fun h => by rw [HE.out]; unfold sdo; rw [if_neg (by omega), if_neg (by omega), if_pos ⟨rfl, hl, HG.out.trans hg⟩, h]; rfl)
          have HYES : Hid (papOk hs (insL ls x) = true → paperDo ⟨hs, ls⟩ 2 x mk = (⟨hs, insL ls x⟩, true)) := Lib.hid (fun h => by rw [HE.out]; unfold sdo; rw [if_neg (by omega), if_neg (by omega), if_pos ⟨rfl, hl, HG.out.trans hg⟩, h]; rfl)
          clear hl hg
          go_wp2_with fail
          refine (l4Sorted_any LA m lc ls x w5 HLN.out hmc (hrl.below S5h.out.bel) hm2).mono ?_
          rintro e wa ⟨_, rfl, NL, nlc, rfl, la, ka⟩
          have hw5 : w.heap.size + 3 ≤ w5.heap.size := S5h.out.res.lt
          have hq5 : q6 < w5.heap.size := C5.lt
          have Ca := C5.later ka
          have e1 := Ca.cellAt 1 (by simp)
          have ef1 := Ca.frozen 1
          simp only [List.getElem_cons_zero, List.getElem_cons_succ] at e1
          have Cb := Ca.set_ 1 (.slice NL (m + 1) nlc)
          simp only [List.set_cons_zero, List.set_cons_succ] at Cb
          have S7 := (S5h.out.later ka).set1 hq6 (.slice NL (m + 1) nlc)
          have O7h := Lib.hid (own_set1 (i := 1) (own_later O5.out ka) Ca (by decide) (.slice NL (m + 1) nlc))
          have P7h := Lib.hid (own_base (own_set1 (i := 1) la Ca (by decide) (.slice NL (m + 1) nlc)) hw5)
          have HLN2 : Hid ((insL ls x).length = m + 1) := Lib.hid (by rw [insL_len, HLN.out])
          clear x0 x1 d0 d1 d2 r0 r1 rf0 rf1
          clear c0 c1 C5 la ka Ca
          generalize insL ls x = ls2 at *
          have S7h := Lib.hid S7
          have HCT := Lib.hid Cb
          have y0 := (Cb).cellAt 0 (by simp)
          have y1 := (Cb).cellAt 1 (by simp)
          simp only [List.getElem_cons_zero, List.getElem_cons_succ] at y0 y1
          have x0 := (S7.box).cellAt 0 (by simp)
          have x1 := (S7.box).cellAt 1 (by simp)
          have d0 := (S7.deed).cellAt 0 (by simp)
          have d1 := (S7.deed).cellAt 1 (by simp)
          have d2 := (S7.deed).cellAt 2 (by simp)
          have r0 := (S7.res).cellAt 0 (by simp)
          have r1 := (S7.res).cellAt 1 (by simp)
          have rf0 := (S7.res).frozen 0
          have rf1 := (S7.res).frozen 1
          simp only [List.getElem_cons_zero, List.getElem_cons_succ] at x0 x1 d0 d1 d2 r0 r1
          go_wp2_with fail
          generalize wa.setCell ⟨q6, 1, none⟩ (.slice NL (m + 1) nlc) = w7 at *
          clear e1 ef1
          refine (specPapersValid CA NL n cc (m + 1) nlc (hs) (ls2) w7 HN.out HLN2.out (own_rd O7h.out) (own_rd P7h.out) (by omega) (by omega)).mono ?_
          rintro e w8 ⟨rfl, b8⟩
          have S8 := S7h.out.later b8
          have S8h := Lib.hid S8
          have C8 := HCT.out.later b8
          have O8 := Lib.hid (own_later O7h.out b8)
          have P8 := Lib.hid (own_later P7h.out b8)
          clear y0 y1
          clear x0 x1 d0 d1 d2 r0 r1 rf0 rf1
          have y0 := C8.cellAt 0 (by simp)
          have y1 := C8.cellAt 1 (by simp)
          simp only [List.getElem_cons_zero, List.getElem_cons_succ] at y0 y1
          have x0 := (S8.box).cellAt 0 (by simp)
          have x1 := (S8.box).cellAt 1 (by simp)
          have d0 := (S8.deed).cellAt 0 (by simp)
          have d1 := (S8.deed).cellAt 1 (by simp)
          have d2 := (S8.deed).cellAt 2 (by simp)
          have r0 := (S8.res).cellAt 0 (by simp)
          have r1 := (S8.res).cellAt 1 (by simp)
          have rf0 := (S8.res).frozen 0
          have rf1 := (S8.res).frozen 1
          simp only [List.getElem_cons_zero, List.getElem_cons_succ] at x0 x1 d0 d1 d2 r0 r1
          cases hok2 : papOk (hs) (ls2) with
          | false =>
            have HD := Lib.hid (HNO.out hok2)
            clear hok2
            go_wp2_with fail
            refine (specClone HA LA n c m lc hs ls w8 HN.out HLN.out (hr.below S8h.out.bel) (hrl.below S8h.out.bel) hm hm2).mono ?_
            rintro e w9 ⟨_, rfl, DA, dc, DL, dlc, rfl, oh9, ol9, b9⟩
            dsimp only at oh9 ol9
            rw [HN.out] at oh9
            rw [HLN.out] at ol9
            dsimp only
            rw [HN.out, HLN.out]
            have S9 := S8h.out.later b9
            have S9h := Lib.hid S9
            have hs8 : w.heap.size + 3 ≤ w8.heap.size := S8h.out.res.lt
            have O9 := Lib.hid (own_base oh9 hs8)
            have P9 := Lib.hid (own_base ol9 hs8)
            clear y0 y1 oh9 ol9
            clear x0 x1 d0 d1 d2 r0 r1 rf0 rf1
            have x0 := (S9.box).cellAt 0 (by simp)
            have x1 := (S9.box).cellAt 1 (by simp)
            have d0 := (S9.deed).cellAt 0 (by simp)
            have d1 := (S9.deed).cellAt 1 (by simp)
            have d2 := (S9.deed).cellAt 2 (by simp)
            have r0 := (S9.res).cellAt 0 (by simp)
            have r1 := (S9.res).cellAt 1 (by simp)
            have rf0 := (S9.res).frozen 0
            have rf1 := (S9.res).frozen 1
            simp only [List.getElem_cons_zero, List.getElem_cons_succ] at x0 x1 d0 d1 d2 r0 r1
            go_wp2_with fail
            have hR := ((S9h.out.res).set_ 0 (.slice DA (n) dc)).set_ 1 (.slice DL (m) dlc)
            have hR1 := (S9h.out.res).set_ 0 (.slice DA (n) dc)
            have u0 := hR1.cellAt 1 (by simp)
            have u1 := hR.cellAt 0 (by simp)
            have u2 := hR.cellAt 1 (by simp)
            simp only [List.set_cons_zero, List.set_cons_succ, List.getElem_cons_zero, List.getElem_cons_succ] at u0 u1 u2
            refine bodyPost_ret (v := .tuple #[.agg #[.slice DA (n) dc, .slice DL (m) dlc], .bool false]) (by simp [results, Tryz.results109, go_sem, *]) rfl ?_
            have h6 : Out (w.heap.size + 1 + 1) (w.heap.size + 3) w9 ((w9.setCell ⟨w.heap.size + 1 + 1, 0, none⟩ (.slice DA (n) dc)).setCell ⟨w.heap.size + 1 + 1, 1, none⟩ (.slice DL (m) dlc)) := out_set (out_set (Out.refl _ _ _) _ _ _ (by omega) (by omega)) _ _ _ (by omega) (by omega)
            refine doOut_mk HD.out HN.out HLN.out (own_base (own_out O9.out h6 ?_) (Nat.le_add_right _ 3)) (own_base (own_out P9.out h6 ?_) (Nat.le_add_right _ 3)) (below_out (S9h.out.bel) h6 (by omega))
            · intro g e
              have := (O9.out.lt g e).1
              omega
            · intro g e
              have := (P9.out.lt g e).1
              omega
          | true =>
            have HD := Lib.hid (HYES.out hok2)
            clear hok2
            go_wp2_with fail
            have hR := ((S8h.out.res).set_ 0 (.slice CA (n) cc)).set_ 1 (.slice NL ((m + 1)) nlc)
            have hR1 := (S8h.out.res).set_ 0 (.slice CA (n) cc)
            have u0 := hR1.cellAt 1 (by simp)
            have u1 := hR.cellAt 0 (by simp)
            have u2 := hR.cellAt 1 (by simp)
            simp only [List.set_cons_zero, List.set_cons_succ, List.getElem_cons_zero, List.getElem_cons_succ] at u0 u1 u2
            refine bodyPost_ret (v := .tuple #[.agg #[.slice CA (n) cc, .slice NL ((m + 1)) nlc], .bool true]) (by simp [results, Tryz.results109, go_sem, *]) rfl ?_
            have h6 : Out (w.heap.size + 1 + 1) (w.heap.size + 3) w8 ((w8.setCell ⟨w.heap.size + 1 + 1, 0, none⟩ (.slice CA (n) cc)).setCell ⟨w.heap.size + 1 + 1, 1, none⟩ (.slice NL ((m + 1)) nlc)) := out_set (out_set (Out.refl _ _ _) _ _ _ (by omega) (by omega)) _ _ _ (by omega) (by omega)
            refine doOut_mk HD.out HN.out HLN2.out (own_base (own_out O8.out h6 ?_) (Nat.le_add_right _ 3)) (own_base (own_out P8.out h6 ?_) (Nat.le_add_right _ 3)) (below_out (S8h.out.bel) h6 (by omega))
            · intro g e
              have := (O8.out.lt g e).1
              omega
            · intro g e
              have := (P8.out.lt g e).1
              omega
        · have hgz : (g == 0) = false := by simp [hg]
          have HD : Hid (paperDo ⟨hs, ls⟩ 2 x mk = (⟨hs, ls⟩, false)) := Lib.hid (by rw [HE.out]; exact sdo_none (by rintro ⟨a, b, c, d⟩; omega) (by rintro ⟨a, b, c⟩; omega) (by rintro ⟨a, b, c⟩; exact hg (HG.out ▸ c)))
          clear hl hg
          go_wp2_with fail
          have hR := ((S5h.out.res).set_ 0 (.slice CA (n) cc)).set_ 1 (.slice CL (m) clc)
          have hR1 := (S5h.out.res).set_ 0 (.slice CA (n) cc)
          have u0 := hR1.cellAt 1 (by simp)
          have u1 := hR.cellAt 0 (by simp)
          have u2 := hR.cellAt 1 (by simp)
          simp only [List.set_cons_zero, List.set_cons_succ, List.getElem_cons_zero, List.getElem_cons_succ] at u0 u1 u2
          refine bodyPost_ret (v := .tuple #[.agg #[.slice CA (n) cc, .slice CL (m) clc], .bool false]) (by simp [results, Tryz.results109, go_sem, *]) rfl ?_
          have h6 : Out (w.heap.size + 1 + 1) (w.heap.size + 3) w5 ((w5.setCell ⟨w.heap.size + 1 + 1, 0, none⟩ (.slice CA (n) cc)).setCell ⟨w.heap.size + 1 + 1, 1, none⟩ (.slice CL (m) clc)) := out_set (out_set (Out.refl _ _ _) _ _ _ (by omega) (by omega)) _ _ _ (by omega) (by omega)
          refine doOut_mk HD.out HN.out HLN.out (own_base (own_out O5.out h6 ?_) (Nat.le_add_right _ 3)) (own_base (own_out P5.out h6 ?_) (Nat.le_add_right _ 3)) (below_out (S5h.out.bel) h6 (by omega))
          · intro g e
            have := (O5.out.lt g e).1
            omega
          · intro g e
            have := (P5.out.lt g e).1
            omega
    · by_cases hmk : 0 ≤ mk ∧ mk ≤ 2
      · have hI := fun W => l1In_true mk 0 2 W hmk.1 hmk.2
        have h3 : mk = 0 ∨ mk = 1 ∨ mk = 2 := by omega
        have HMK : Hid (markOk k mk = true) := Lib.hid (markOk_iff.2 (.inr hmk))
        have HM02 := Lib.hid hmk
        have HBF := Lib.hid (bit_facts hg0 hg7 hmk.1 hmk.2)
        clear hmk
        have hk2 : (k == 2) = false := by simpa using k2
        by_cases k0 : k = 0
        · subst k0
          cases hl : hasI ls x with
          | true =>
            have HD : Hid (paperDo ⟨hs, ls⟩ 0 x mk = (⟨hs, ls⟩, false)) := Lib.hid (by rw [HE.out]; exact sdo_none (by rintro ⟨a, b, c, d⟩; simp [hl] at c) (by rintro ⟨a, b, c⟩; omega) (by rintro ⟨a, b, c⟩; omega))
            clear hl h3
            go_wp2_with fail
            refine (hI _).mono ?_
            rintro e w' ⟨rfl, rfl⟩
            go_wp2_with fail
            have hR := ((S5h.out.res).set_ 0 (.slice CA (n) cc)).set_ 1 (.slice CL (m) clc)
            have hR1 := (S5h.out.res).set_ 0 (.slice CA (n) cc)
            have u0 := hR1.cellAt 1 (by simp)
            have u1 := hR.cellAt 0 (by simp)
            have u2 := hR.cellAt 1 (by simp)
            simp only [List.set_cons_zero, List.set_cons_succ, List.getElem_cons_zero, List.getElem_cons_succ] at u0 u1 u2
            refine bodyPost_ret (v := .tuple #[.agg #[.slice CA (n) cc, .slice CL (m) clc], .bool false]) (by simp [results, Tryz.results109, go_sem, *]) rfl ?_
            have h6 : Out (w.heap.size + 1 + 1) (w.heap.size + 3) w5 ((w5.setCell ⟨w.heap.size + 1 + 1, 0, none⟩ (.slice CA (n) cc)).setCell ⟨w.heap.size + 1 + 1, 1, none⟩ (.slice CL (m) clc)) := out_set (out_set (Out.refl _ _ _) _ _ _ (by omega) (by omega)) _ _ _ (by omega) (by omega)
            refine doOut_mk HD.out HN.out HLN.out (own_base (own_out O5.out h6 ?_) (Nat.le_add_right _ 3)) (own_base (own_out P5.out h6 ?_) (Nat.le_add_right _ 3)) (below_out (S5h.out.bel) h6 (by omega))
            · intro g e
              have := (O5.out.lt g e).1
              omega
            · intro g e
              have := (P5.out.lt g e).1
              omega
          | false =>
            cases hb : bitM g mk with
            | true =>
              have HD : Hid (paperDo ⟨hs, ls⟩ 0 x mk = (⟨hs, ls⟩, false)) := Lib.hid (by rw [HE.out]; exact sdo_none (by rintro ⟨a, b, c, d⟩; rw [show marksOf hs x = g from HG.out, hb] at d; cases d) (by rintro ⟨a, b, c⟩; omega) (by rintro ⟨a, b, c⟩; omega))
              clear hl
              go_wp2_with fail
              refine (hI _).mono ?_
              rintro e w' ⟨rfl, rfl⟩
              rcases h3 with rfl | rfl | rfl
              · skip
                have hbb : (g % 2 == 0) = false := by have h5 := of_decide_eq_true hb; simp [powM] at h5; simp; omega
                clear hb
                go_wp2_with fail
                have hR := ((S5h.out.res).set_ 0 (.slice CA (n) cc)).set_ 1 (.slice CL (m) clc)
                have hR1 := (S5h.out.res).set_ 0 (.slice CA (n) cc)
                have u0 := hR1.cellAt 1 (by simp)
                have u1 := hR.cellAt 0 (by simp)
                have u2 := hR.cellAt 1 (by simp)
                simp only [List.set_cons_zero, List.set_cons_succ, List.getElem_cons_zero, List.getElem_cons_succ] at u0 u1 u2
                refine bodyPost_ret (v := .tuple #[.agg #[.slice CA (n) cc, .slice CL (m) clc], .bool false]) (by simp [results, Tryz.results109, go_sem, *]) rfl ?_
                have h6 : Out (w.heap.size + 1 + 1) (w.heap.size + 3) w5 ((w5.setCell ⟨w.heap.size + 1 + 1, 0, none⟩ (.slice CA (n) cc)).setCell ⟨w.heap.size + 1 + 1, 1, none⟩ (.slice CL (m) clc)) := out_set (out_set (Out.refl _ _ _) _ _ _ (by omega) (by omega)) _ _ _ (by omega) (by omega)
                refine doOut_mk HD.out HN.out HLN.out (own_base (own_out O5.out h6 ?_) (Nat.le_add_right _ 3)) (own_base (own_out P5.out h6 ?_) (Nat.le_add_right _ 3)) (below_out (S5h.out.bel) h6 (by omega))
                · intro g e
                  have := (O5.out.lt g e).1
                  omega
                · intro g e
                  have := (P5.out.lt g e).1
                  omega
              · skip
                have hbb : (g / 2 % 2 == 0) = false := by have h5 := of_decide_eq_true hb; simp [powM] at h5; simp; omega
                clear hb
                go_wp2_with fail
                have hR := ((S5h.out.res).set_ 0 (.slice CA (n) cc)).set_ 1 (.slice CL (m) clc)
                have hR1 := (S5h.out.res).set_ 0 (.slice CA (n) cc)
                have u0 := hR1.cellAt 1 (by simp)
                have u1 := hR.cellAt 0 (by simp)
                have u2 := hR.cellAt 1 (by simp)
                simp only [List.set_cons_zero, List.set_cons_succ, List.getElem_cons_zero, List.getElem_cons_succ] at u0 u1 u2
                refine bodyPost_ret (v := .tuple #[.agg #[.slice CA (n) cc, .slice CL (m) clc], .bool false]) (by simp [results, Tryz.results109, go_sem, *]) rfl ?_
                have h6 : Out (w.heap.size + 1 + 1) (w.heap.size + 3) w5 ((w5.setCell ⟨w.heap.size + 1 + 1, 0, none⟩ (.slice CA (n) cc)).setCell ⟨w.heap.size + 1 + 1, 1, none⟩ (.slice CL (m) clc)) := out_set (out_set (Out.refl _ _ _) _ _ _ (by omega) (by omega)) _ _ _ (by omega) (by omega)
                refine doOut_mk HD.out HN.out HLN.out (own_base (own_out O5.out h6 ?_) (Nat.le_add_right _ 3)) (own_base (own_out P5.out h6 ?_) (Nat.le_add_right _ 3)) (below_out (S5h.out.bel) h6 (by omega))
                · intro g e
                  have := (O5.out.lt g e).1
                  omega
                · intro g e
                  have := (P5.out.lt g e).1
                  omega
              · skip
                have hbb : (g / 4 % 2 == 0) = false := by have h5 := of_decide_eq_true hb; simp [powM] at h5; simp; omega
                clear hb
                go_wp2_with fail
                have hR := ((S5h.out.res).set_ 0 (.slice CA (n) cc)).set_ 1 (.slice CL (m) clc)
                have hR1 := (S5h.out.res).set_ 0 (.slice CA (n) cc)
                have u0 := hR1.cellAt 1 (by simp)
                have u1 := hR.cellAt 0 (by simp)
                have u2 := hR.cellAt 1 (by simp)
                simp only [List.set_cons_zero, List.set_cons_succ, List.getElem_cons_zero, List.getElem_cons_succ] at u0 u1 u2
                refine bodyPost_ret (v := .tuple #[.agg #[.slice CA (n) cc, .slice CL (m) clc], .bool false]) (by simp [results, Tryz.results109, go_sem, *]) rfl ?_
                have h6 : Out (w.heap.size + 1 + 1) (w.heap.size + 3) w5 ((w5.setCell ⟨w.heap.size + 1 + 1, 0, none⟩ (.slice CA (n) cc)).setCell ⟨w.heap.size + 1 + 1, 1, none⟩ (.slice CL (m) clc)) := out_set (out_set (Out.refl _ _ _) _ _ _ (by omega) (by omega)) _ _ _ (by omega) (by omega)
                refine doOut_mk HD.out HN.out HLN.out (own_base (own_out O5.out h6 ?_) (Nat.le_add_right _ 3)) (own_base (own_out P5.out h6 ?_) (Nat.le_add_right _ 3)) (below_out (S5h.out.bel) h6 (by omega))
                · intro g e
                  have := (O5.out.lt g e).1
                  omega
                · intro g e
                  have := (P5.out.lt g e).1
                  omega
            | false =>
              have HNO : Hid (papOk (setH hs x (g + powM mk)) ls = false → paperDo ⟨hs, ls⟩ 0 x mk = (⟨hs, ls⟩, false)) := Lib.hid (fun h => by rw [HE.out]; unfold sdo; rw [if_pos ⟨rfl, HMK.out, hl, by rw [show marksOf hs x = g from HG.out]; exact hb⟩, show marksOf hs x = g from HG.out, h]; rfl)
              have HYES : Hid (papOk (setH hs x (g + powM mk)) ls = true → paperDo ⟨hs, ls⟩ 0 x mk = (⟨setH hs x (g + powM mk), ls⟩, true)) := Lib.hid (fun h => by rw [HE.out]; unfold sdo; rw [if_pos ⟨rfl, HMK.out, hl, by rw [show marksOf hs x = g from HG.out]; exact hb⟩, show marksOf hs x = g from HG.out, h]; rfl)
              have hpl := (HBF.out.1 hb).2.1
              clear hl
              go_wp2_with fail
              refine (hI _).mono ?_
              rintro e w' ⟨rfl, rfl⟩
              rcases h3 with rfl | rfl | rfl
              · skip
                have hbb : (g % 2 == 0) = true := by have h5 := of_decide_eq_false hb; simp [powM] at h5; simp; omega
                rw [show powM 0 = 1 from by decide] at HNO HYES hpl
                clear hb
                go_wp2_with fail
                have ew1 : IntKind.i64.wrap 1 = 1 := IntWalk.i64_in _ (by omega)
                have ew2 : IntKind.i64.wrap (g + 1) = g + 1 := IntWalk.i64_in _ (by omega)
                have cSet := fun W (hW : Below w5.heap.size w5 W) => specSet HA LA n c m lc hs ls x (g + 1) W HN.out HLN.out (hr.below (below_trans S5h.out.bel hW)) (hrl.below (below_trans S5h.out.bel hW)) hm hm2 HPW.out
                unfold PapOut at cSet
                have HSL := Lib.hid (rfl : (setH hs x (g + 1)).length = (setH hs x (g + 1)).length)
                generalize hset : setH hs x (g + 1) = hs2 at *
                have hl2 : hs2.length ≤ n + 1 := by
                  have h4 := setH_len (x := x) (m := g + 1) HVAL.out
                  have h5 := HN.out
                  rw [hset] at h4
                  split at h4 <;> split at h4 <;> omega
                clear hset HSL
                dsimp only at cSet
                generalize hn2 : hs2.length = n2 at *
                have HN2 := Lib.hid hn2
                rw [HLN.out] at cSet
                clear hn2
                go_region_held3 (fun W => W.cell? ⟨w.heap.size, 0, none⟩ = some (.slice HA n c) ∧ W.cell? ⟨w.heap.size, 1, none⟩ = some (.slice LA m lc) ∧ W.cell? ⟨w.heap.size + 1, 1, none⟩ = some (.int .i64 x) ∧ W.cell? ⟨w.heap.size + 1, 2, none⟩ = some (.int .i64 0))
                  (first
                    | exact keepD S5h.out (Below.refl _ _)
                    | exact keepD S5h.out (Below.drew (Below.refl _ _))
                    | exact keepD S5h.out ka
                    | exact keepDs S5h.out ka hq6)
                  ((go_at_call 122
                    (with_reducible refine (cSet _ (Below.drew (Below.refl _ _))).mono ?_)
                    rintro e wa ⟨_, rfl, NA, nc, NL, nlc, rfl, oa, la, ba⟩
                    have ka : Below w5.heap.size w5 wa := below_trans (Below.drew (Below.refl _ _)) ba
                    have Ca := C5.later ka
                    have e0 := Ca.cellAt 0 (by simp)
                    have e1 := Ca.cellAt 1 (by simp)
                    have ef0 := Ca.frozen 0
                    have ef1 := Ca.frozen 1
                    simp only [List.getElem_cons_zero, List.getElem_cons_succ] at e0 e1))
                have hw5 : w.heap.size + 3 ≤ w5.heap.size := S5h.out.res.lt
                have hq5 : q6 < w5.heap.size := C5.lt
                have Cb := (Ca.set_ 0 (.slice NA n2 nc)).set_ 1 (.slice NL m nlc)
                simp only [List.set_cons_zero, List.set_cons_succ] at Cb
                have S7 := (S5h.out.later ka).set6 hq6 (.slice NA n2 nc) (.slice NL m nlc)
                have O7 := own_base (own_set2 oa hq5 (.slice NA n2 nc) (.slice NL m nlc)) hw5
                have P7 := own_base (own_set2 la hq5 (.slice NA n2 nc) (.slice NL m nlc)) hw5
                clear x0 x1 d0 d1 d2 r0 r1 rf0 rf1
                clear e0 e1 ef0 ef1 cSet oa la ba ka Ca c0 c1 C5
                generalize (wa.setCell ⟨q6, 0, none⟩ (.slice NA n2 nc)).setCell ⟨q6, 1, none⟩ (.slice NL m nlc) = w7 at *
                have O7h := Lib.hid O7
                have P7h := Lib.hid P7
                clear O7 P7
                have S7h := Lib.hid S7
                have HCT := Lib.hid Cb
                have y0 := (Cb).cellAt 0 (by simp)
                have y1 := (Cb).cellAt 1 (by simp)
                simp only [List.getElem_cons_zero, List.getElem_cons_succ] at y0 y1
                have x0 := (S7.box).cellAt 0 (by simp)
                have x1 := (S7.box).cellAt 1 (by simp)
                have d0 := (S7.deed).cellAt 0 (by simp)
                have d1 := (S7.deed).cellAt 1 (by simp)
                have d2 := (S7.deed).cellAt 2 (by simp)
                have r0 := (S7.res).cellAt 0 (by simp)
                have r1 := (S7.res).cellAt 1 (by simp)
                have rf0 := (S7.res).frozen 0
                have rf1 := (S7.res).frozen 1
                simp only [List.getElem_cons_zero, List.getElem_cons_succ] at x0 x1 d0 d1 d2 r0 r1
                go_wp2_with fail
                refine (specPapersValid NA NL n2 nc m nlc (hs2) (ls) w7 HN2.out HLN.out (own_rd O7h.out) (own_rd P7h.out) (by omega) (by omega)).mono ?_
                rintro e w8 ⟨rfl, b8⟩
                have S8 := S7h.out.later b8
                have S8h := Lib.hid S8
                have C8 := HCT.out.later b8
                have O8 := Lib.hid (own_later O7h.out b8)
                have P8 := Lib.hid (own_later P7h.out b8)
                clear y0 y1
                clear x0 x1 d0 d1 d2 r0 r1 rf0 rf1
                have y0 := C8.cellAt 0 (by simp)
                have y1 := C8.cellAt 1 (by simp)
                simp only [List.getElem_cons_zero, List.getElem_cons_succ] at y0 y1
                have x0 := (S8.box).cellAt 0 (by simp)
                have x1 := (S8.box).cellAt 1 (by simp)
                have d0 := (S8.deed).cellAt 0 (by simp)
                have d1 := (S8.deed).cellAt 1 (by simp)
                have d2 := (S8.deed).cellAt 2 (by simp)
                have r0 := (S8.res).cellAt 0 (by simp)
                have r1 := (S8.res).cellAt 1 (by simp)
                have rf0 := (S8.res).frozen 0
                have rf1 := (S8.res).frozen 1
                simp only [List.getElem_cons_zero, List.getElem_cons_succ] at x0 x1 d0 d1 d2 r0 r1
                cases hok2 : papOk (hs2) (ls) with
                | false =>
                  have HD := Lib.hid (HNO.out hok2)
                  clear hok2
                  go_wp2_with fail
                  refine (specClone HA LA n c m lc hs ls w8 HN.out HLN.out (hr.below S8h.out.bel) (hrl.below S8h.out.bel) hm hm2).mono ?_
                  rintro e w9 ⟨_, rfl, DA, dc, DL, dlc, rfl, oh9, ol9, b9⟩
                  dsimp only at oh9 ol9
                  rw [HN.out] at oh9
                  rw [HLN.out] at ol9
                  dsimp only
                  rw [HN.out, HLN.out]
                  have S9 := S8h.out.later b9
                  have S9h := Lib.hid S9
                  have hs8 : w.heap.size + 3 ≤ w8.heap.size := S8h.out.res.lt
                  have O9 := Lib.hid (own_base oh9 hs8)
                  have P9 := Lib.hid (own_base ol9 hs8)
                  clear y0 y1 oh9 ol9
                  clear x0 x1 d0 d1 d2 r0 r1 rf0 rf1
                  have x0 := (S9.box).cellAt 0 (by simp)
                  have x1 := (S9.box).cellAt 1 (by simp)
                  have d0 := (S9.deed).cellAt 0 (by simp)
                  have d1 := (S9.deed).cellAt 1 (by simp)
                  have d2 := (S9.deed).cellAt 2 (by simp)
                  have r0 := (S9.res).cellAt 0 (by simp)
                  have r1 := (S9.res).cellAt 1 (by simp)
                  have rf0 := (S9.res).frozen 0
                  have rf1 := (S9.res).frozen 1
                  simp only [List.getElem_cons_zero, List.getElem_cons_succ] at x0 x1 d0 d1 d2 r0 r1
                  go_wp2_with fail
                  have hR := ((S9h.out.res).set_ 0 (.slice DA (n) dc)).set_ 1 (.slice DL (m) dlc)
                  have hR1 := (S9h.out.res).set_ 0 (.slice DA (n) dc)
                  have u0 := hR1.cellAt 1 (by simp)
                  have u1 := hR.cellAt 0 (by simp)
                  have u2 := hR.cellAt 1 (by simp)
                  simp only [List.set_cons_zero, List.set_cons_succ, List.getElem_cons_zero, List.getElem_cons_succ] at u0 u1 u2
                  refine bodyPost_ret (v := .tuple #[.agg #[.slice DA (n) dc, .slice DL (m) dlc], .bool false]) (by simp [results, Tryz.results109, go_sem, *]) rfl ?_
                  have h6 : Out (w.heap.size + 1 + 1) (w.heap.size + 3) w9 ((w9.setCell ⟨w.heap.size + 1 + 1, 0, none⟩ (.slice DA (n) dc)).setCell ⟨w.heap.size + 1 + 1, 1, none⟩ (.slice DL (m) dlc)) := out_set (out_set (Out.refl _ _ _) _ _ _ (by omega) (by omega)) _ _ _ (by omega) (by omega)
                  refine doOut_mk HD.out HN.out HLN.out (own_base (own_out O9.out h6 ?_) (Nat.le_add_right _ 3)) (own_base (own_out P9.out h6 ?_) (Nat.le_add_right _ 3)) (below_out (S9h.out.bel) h6 (by omega))
                  · intro g e
                    have := (O9.out.lt g e).1
                    omega
                  · intro g e
                    have := (P9.out.lt g e).1
                    omega
                | true =>
                  have HD := Lib.hid (HYES.out hok2)
                  clear hok2
                  go_wp2_with fail
                  have hR := ((S8h.out.res).set_ 0 (.slice NA (n2) nc)).set_ 1 (.slice NL (m) nlc)
                  have hR1 := (S8h.out.res).set_ 0 (.slice NA (n2) nc)
                  have u0 := hR1.cellAt 1 (by simp)
                  have u1 := hR.cellAt 0 (by simp)
                  have u2 := hR.cellAt 1 (by simp)
                  simp only [List.set_cons_zero, List.set_cons_succ, List.getElem_cons_zero, List.getElem_cons_succ] at u0 u1 u2
                  refine bodyPost_ret (v := .tuple #[.agg #[.slice NA (n2) nc, .slice NL (m) nlc], .bool true]) (by simp [results, Tryz.results109, go_sem, *]) rfl ?_
                  have h6 : Out (w.heap.size + 1 + 1) (w.heap.size + 3) w8 ((w8.setCell ⟨w.heap.size + 1 + 1, 0, none⟩ (.slice NA (n2) nc)).setCell ⟨w.heap.size + 1 + 1, 1, none⟩ (.slice NL (m) nlc)) := out_set (out_set (Out.refl _ _ _) _ _ _ (by omega) (by omega)) _ _ _ (by omega) (by omega)
                  refine doOut_mk HD.out HN2.out HLN.out (own_base (own_out O8.out h6 ?_) (Nat.le_add_right _ 3)) (own_base (own_out P8.out h6 ?_) (Nat.le_add_right _ 3)) (below_out (S8h.out.bel) h6 (by omega))
                  · intro g e
                    have := (O8.out.lt g e).1
                    omega
                  · intro g e
                    have := (P8.out.lt g e).1
                    omega
              · skip
                have hbb : (g / 2 % 2 == 0) = true := by have h5 := of_decide_eq_false hb; simp [powM] at h5; simp; omega
                rw [show powM 1 = 2 from by decide] at HNO HYES hpl
                clear hb
                go_wp2_with fail
                have ew1 : IntKind.i64.wrap 2 = 2 := IntWalk.i64_in _ (by omega)
                have ew2 : IntKind.i64.wrap (g + 2) = g + 2 := IntWalk.i64_in _ (by omega)
                have cSet := fun W (hW : Below w5.heap.size w5 W) => specSet HA LA n c m lc hs ls x (g + 2) W HN.out HLN.out (hr.below (below_trans S5h.out.bel hW)) (hrl.below (below_trans S5h.out.bel hW)) hm hm2 HPW.out
                unfold PapOut at cSet
                have HSL := Lib.hid (rfl : (setH hs x (g + 2)).length = (setH hs x (g + 2)).length)
                generalize hset : setH hs x (g + 2) = hs2 at *
                have hl2 : hs2.length ≤ n + 1 := by
                  have h4 := setH_len (x := x) (m := g + 2) HVAL.out
                  have h5 := HN.out
                  rw [hset] at h4
                  split at h4 <;> split at h4 <;> omega
                clear hset HSL
                dsimp only at cSet
                generalize hn2 : hs2.length = n2 at *
                have HN2 := Lib.hid hn2
                rw [HLN.out] at cSet
                clear hn2
                go_region_held3 (fun W => W.cell? ⟨w.heap.size, 0, none⟩ = some (.slice HA n c) ∧ W.cell? ⟨w.heap.size, 1, none⟩ = some (.slice LA m lc) ∧ W.cell? ⟨w.heap.size + 1, 1, none⟩ = some (.int .i64 x) ∧ W.cell? ⟨w.heap.size + 1, 2, none⟩ = some (.int .i64 1))
                  (first
                    | exact keepD S5h.out (Below.refl _ _)
                    | exact keepD S5h.out (Below.drew (Below.refl _ _))
                    | exact keepD S5h.out ka
                    | exact keepDs S5h.out ka hq6)
                  ((go_at_call 122
                    (with_reducible refine (cSet _ (Below.drew (Below.refl _ _))).mono ?_)
                    rintro e wa ⟨_, rfl, NA, nc, NL, nlc, rfl, oa, la, ba⟩
                    have ka : Below w5.heap.size w5 wa := below_trans (Below.drew (Below.refl _ _)) ba
                    have Ca := C5.later ka
                    have e0 := Ca.cellAt 0 (by simp)
                    have e1 := Ca.cellAt 1 (by simp)
                    have ef0 := Ca.frozen 0
                    have ef1 := Ca.frozen 1
                    simp only [List.getElem_cons_zero, List.getElem_cons_succ] at e0 e1))
                have hw5 : w.heap.size + 3 ≤ w5.heap.size := S5h.out.res.lt
                have hq5 : q6 < w5.heap.size := C5.lt
                have Cb := (Ca.set_ 0 (.slice NA n2 nc)).set_ 1 (.slice NL m nlc)
                simp only [List.set_cons_zero, List.set_cons_succ] at Cb
                have S7 := (S5h.out.later ka).set6 hq6 (.slice NA n2 nc) (.slice NL m nlc)
                have O7 := own_base (own_set2 oa hq5 (.slice NA n2 nc) (.slice NL m nlc)) hw5
                have P7 := own_base (own_set2 la hq5 (.slice NA n2 nc) (.slice NL m nlc)) hw5
                clear x0 x1 d0 d1 d2 r0 r1 rf0 rf1
                clear e0 e1 ef0 ef1 cSet oa la ba ka Ca c0 c1 C5
                generalize (wa.setCell ⟨q6, 0, none⟩ (.slice NA n2 nc)).setCell ⟨q6, 1, none⟩ (.slice NL m nlc) = w7 at *
                have O7h := Lib.hid O7
                have P7h := Lib.hid P7
                clear O7 P7
                have S7h := Lib.hid S7
                have HCT := Lib.hid Cb
                have y0 := (Cb).cellAt 0 (by simp)
                have y1 := (Cb).cellAt 1 (by simp)
                simp only [List.getElem_cons_zero, List.getElem_cons_succ] at y0 y1
                have x0 := (S7.box).cellAt 0 (by simp)
                have x1 := (S7.box).cellAt 1 (by simp)
                have d0 := (S7.deed).cellAt 0 (by simp)
                have d1 := (S7.deed).cellAt 1 (by simp)
                have d2 := (S7.deed).cellAt 2 (by simp)
                have r0 := (S7.res).cellAt 0 (by simp)
                have r1 := (S7.res).cellAt 1 (by simp)
                have rf0 := (S7.res).frozen 0
                have rf1 := (S7.res).frozen 1
                simp only [List.getElem_cons_zero, List.getElem_cons_succ] at x0 x1 d0 d1 d2 r0 r1
                go_wp2_with fail
                refine (specPapersValid NA NL n2 nc m nlc (hs2) (ls) w7 HN2.out HLN.out (own_rd O7h.out) (own_rd P7h.out) (by omega) (by omega)).mono ?_
                rintro e w8 ⟨rfl, b8⟩
                have S8 := S7h.out.later b8
                have S8h := Lib.hid S8
                have C8 := HCT.out.later b8
                have O8 := Lib.hid (own_later O7h.out b8)
                have P8 := Lib.hid (own_later P7h.out b8)
                clear y0 y1
                clear x0 x1 d0 d1 d2 r0 r1 rf0 rf1
                have y0 := C8.cellAt 0 (by simp)
                have y1 := C8.cellAt 1 (by simp)
                simp only [List.getElem_cons_zero, List.getElem_cons_succ] at y0 y1
                have x0 := (S8.box).cellAt 0 (by simp)
                have x1 := (S8.box).cellAt 1 (by simp)
                have d0 := (S8.deed).cellAt 0 (by simp)
                have d1 := (S8.deed).cellAt 1 (by simp)
                have d2 := (S8.deed).cellAt 2 (by simp)
                have r0 := (S8.res).cellAt 0 (by simp)
                have r1 := (S8.res).cellAt 1 (by simp)
                have rf0 := (S8.res).frozen 0
                have rf1 := (S8.res).frozen 1
                simp only [List.getElem_cons_zero, List.getElem_cons_succ] at x0 x1 d0 d1 d2 r0 r1
                cases hok2 : papOk (hs2) (ls) with
                | false =>
                  have HD := Lib.hid (HNO.out hok2)
                  clear hok2
                  go_wp2_with fail
                  refine (specClone HA LA n c m lc hs ls w8 HN.out HLN.out (hr.below S8h.out.bel) (hrl.below S8h.out.bel) hm hm2).mono ?_
                  rintro e w9 ⟨_, rfl, DA, dc, DL, dlc, rfl, oh9, ol9, b9⟩
                  dsimp only at oh9 ol9
                  rw [HN.out] at oh9
                  rw [HLN.out] at ol9
                  dsimp only
                  rw [HN.out, HLN.out]
                  have S9 := S8h.out.later b9
                  have S9h := Lib.hid S9
                  have hs8 : w.heap.size + 3 ≤ w8.heap.size := S8h.out.res.lt
                  have O9 := Lib.hid (own_base oh9 hs8)
                  have P9 := Lib.hid (own_base ol9 hs8)
                  clear y0 y1 oh9 ol9
                  clear x0 x1 d0 d1 d2 r0 r1 rf0 rf1
                  have x0 := (S9.box).cellAt 0 (by simp)
                  have x1 := (S9.box).cellAt 1 (by simp)
                  have d0 := (S9.deed).cellAt 0 (by simp)
                  have d1 := (S9.deed).cellAt 1 (by simp)
                  have d2 := (S9.deed).cellAt 2 (by simp)
                  have r0 := (S9.res).cellAt 0 (by simp)
                  have r1 := (S9.res).cellAt 1 (by simp)
                  have rf0 := (S9.res).frozen 0
                  have rf1 := (S9.res).frozen 1
                  simp only [List.getElem_cons_zero, List.getElem_cons_succ] at x0 x1 d0 d1 d2 r0 r1
                  go_wp2_with fail
                  have hR := ((S9h.out.res).set_ 0 (.slice DA (n) dc)).set_ 1 (.slice DL (m) dlc)
                  have hR1 := (S9h.out.res).set_ 0 (.slice DA (n) dc)
                  have u0 := hR1.cellAt 1 (by simp)
                  have u1 := hR.cellAt 0 (by simp)
                  have u2 := hR.cellAt 1 (by simp)
                  simp only [List.set_cons_zero, List.set_cons_succ, List.getElem_cons_zero, List.getElem_cons_succ] at u0 u1 u2
                  refine bodyPost_ret (v := .tuple #[.agg #[.slice DA (n) dc, .slice DL (m) dlc], .bool false]) (by simp [results, Tryz.results109, go_sem, *]) rfl ?_
                  have h6 : Out (w.heap.size + 1 + 1) (w.heap.size + 3) w9 ((w9.setCell ⟨w.heap.size + 1 + 1, 0, none⟩ (.slice DA (n) dc)).setCell ⟨w.heap.size + 1 + 1, 1, none⟩ (.slice DL (m) dlc)) := out_set (out_set (Out.refl _ _ _) _ _ _ (by omega) (by omega)) _ _ _ (by omega) (by omega)
                  refine doOut_mk HD.out HN.out HLN.out (own_base (own_out O9.out h6 ?_) (Nat.le_add_right _ 3)) (own_base (own_out P9.out h6 ?_) (Nat.le_add_right _ 3)) (below_out (S9h.out.bel) h6 (by omega))
                  · intro g e
                    have := (O9.out.lt g e).1
                    omega
                  · intro g e
                    have := (P9.out.lt g e).1
                    omega
                | true =>
                  have HD := Lib.hid (HYES.out hok2)
                  clear hok2
                  go_wp2_with fail
                  have hR := ((S8h.out.res).set_ 0 (.slice NA (n2) nc)).set_ 1 (.slice NL (m) nlc)
                  have hR1 := (S8h.out.res).set_ 0 (.slice NA (n2) nc)
                  have u0 := hR1.cellAt 1 (by simp)
                  have u1 := hR.cellAt 0 (by simp)
                  have u2 := hR.cellAt 1 (by simp)
                  simp only [List.set_cons_zero, List.set_cons_succ, List.getElem_cons_zero, List.getElem_cons_succ] at u0 u1 u2
                  refine bodyPost_ret (v := .tuple #[.agg #[.slice NA (n2) nc, .slice NL (m) nlc], .bool true]) (by simp [results, Tryz.results109, go_sem, *]) rfl ?_
                  have h6 : Out (w.heap.size + 1 + 1) (w.heap.size + 3) w8 ((w8.setCell ⟨w.heap.size + 1 + 1, 0, none⟩ (.slice NA (n2) nc)).setCell ⟨w.heap.size + 1 + 1, 1, none⟩ (.slice NL (m) nlc)) := out_set (out_set (Out.refl _ _ _) _ _ _ (by omega) (by omega)) _ _ _ (by omega) (by omega)
                  refine doOut_mk HD.out HN2.out HLN.out (own_base (own_out O8.out h6 ?_) (Nat.le_add_right _ 3)) (own_base (own_out P8.out h6 ?_) (Nat.le_add_right _ 3)) (below_out (S8h.out.bel) h6 (by omega))
                  · intro g e
                    have := (O8.out.lt g e).1
                    omega
                  · intro g e
                    have := (P8.out.lt g e).1
                    omega
              · skip
                have hbb : (g / 4 % 2 == 0) = true := by have h5 := of_decide_eq_false hb; simp [powM] at h5; simp; omega
                rw [show powM 2 = 4 from by decide] at HNO HYES hpl
                clear hb
                go_wp2_with fail
                have ew1 : IntKind.i64.wrap 4 = 4 := IntWalk.i64_in _ (by omega)
                have ew2 : IntKind.i64.wrap (g + 4) = g + 4 := IntWalk.i64_in _ (by omega)
                have cSet := fun W (hW : Below w5.heap.size w5 W) => specSet HA LA n c m lc hs ls x (g + 4) W HN.out HLN.out (hr.below (below_trans S5h.out.bel hW)) (hrl.below (below_trans S5h.out.bel hW)) hm hm2 HPW.out
                unfold PapOut at cSet
                have HSL := Lib.hid (rfl : (setH hs x (g + 4)).length = (setH hs x (g + 4)).length)
                generalize hset : setH hs x (g + 4) = hs2 at *
                have hl2 : hs2.length ≤ n + 1 := by
                  have h4 := setH_len (x := x) (m := g + 4) HVAL.out
                  have h5 := HN.out
                  rw [hset] at h4
                  split at h4 <;> split at h4 <;> omega
                clear hset HSL
                dsimp only at cSet
                generalize hn2 : hs2.length = n2 at *
                have HN2 := Lib.hid hn2
                rw [HLN.out] at cSet
                clear hn2
                go_region_held3 (fun W => W.cell? ⟨w.heap.size, 0, none⟩ = some (.slice HA n c) ∧ W.cell? ⟨w.heap.size, 1, none⟩ = some (.slice LA m lc) ∧ W.cell? ⟨w.heap.size + 1, 1, none⟩ = some (.int .i64 x) ∧ W.cell? ⟨w.heap.size + 1, 2, none⟩ = some (.int .i64 2))
                  (first
                    | exact keepD S5h.out (Below.refl _ _)
                    | exact keepD S5h.out (Below.drew (Below.refl _ _))
                    | exact keepD S5h.out ka
                    | exact keepDs S5h.out ka hq6)
                  ((go_at_call 122
                    (with_reducible refine (cSet _ (Below.drew (Below.refl _ _))).mono ?_)
                    rintro e wa ⟨_, rfl, NA, nc, NL, nlc, rfl, oa, la, ba⟩
                    have ka : Below w5.heap.size w5 wa := below_trans (Below.drew (Below.refl _ _)) ba
                    have Ca := C5.later ka
                    have e0 := Ca.cellAt 0 (by simp)
                    have e1 := Ca.cellAt 1 (by simp)
                    have ef0 := Ca.frozen 0
                    have ef1 := Ca.frozen 1
                    simp only [List.getElem_cons_zero, List.getElem_cons_succ] at e0 e1))
                have hw5 : w.heap.size + 3 ≤ w5.heap.size := S5h.out.res.lt
                have hq5 : q6 < w5.heap.size := C5.lt
                have Cb := (Ca.set_ 0 (.slice NA n2 nc)).set_ 1 (.slice NL m nlc)
                simp only [List.set_cons_zero, List.set_cons_succ] at Cb
                have S7 := (S5h.out.later ka).set6 hq6 (.slice NA n2 nc) (.slice NL m nlc)
                have O7 := own_base (own_set2 oa hq5 (.slice NA n2 nc) (.slice NL m nlc)) hw5
                have P7 := own_base (own_set2 la hq5 (.slice NA n2 nc) (.slice NL m nlc)) hw5
                clear x0 x1 d0 d1 d2 r0 r1 rf0 rf1
                clear e0 e1 ef0 ef1 cSet oa la ba ka Ca c0 c1 C5
                generalize (wa.setCell ⟨q6, 0, none⟩ (.slice NA n2 nc)).setCell ⟨q6, 1, none⟩ (.slice NL m nlc) = w7 at *
                have O7h := Lib.hid O7
                have P7h := Lib.hid P7
                clear O7 P7
                have S7h := Lib.hid S7
                have HCT := Lib.hid Cb
                have y0 := (Cb).cellAt 0 (by simp)
                have y1 := (Cb).cellAt 1 (by simp)
                simp only [List.getElem_cons_zero, List.getElem_cons_succ] at y0 y1
                have x0 := (S7.box).cellAt 0 (by simp)
                have x1 := (S7.box).cellAt 1 (by simp)
                have d0 := (S7.deed).cellAt 0 (by simp)
                have d1 := (S7.deed).cellAt 1 (by simp)
                have d2 := (S7.deed).cellAt 2 (by simp)
                have r0 := (S7.res).cellAt 0 (by simp)
                have r1 := (S7.res).cellAt 1 (by simp)
                have rf0 := (S7.res).frozen 0
                have rf1 := (S7.res).frozen 1
                simp only [List.getElem_cons_zero, List.getElem_cons_succ] at x0 x1 d0 d1 d2 r0 r1
                go_wp2_with fail
                refine (specPapersValid NA NL n2 nc m nlc (hs2) (ls) w7 HN2.out HLN.out (own_rd O7h.out) (own_rd P7h.out) (by omega) (by omega)).mono ?_
                rintro e w8 ⟨rfl, b8⟩
                have S8 := S7h.out.later b8
                have S8h := Lib.hid S8
                have C8 := HCT.out.later b8
                have O8 := Lib.hid (own_later O7h.out b8)
                have P8 := Lib.hid (own_later P7h.out b8)
                clear y0 y1
                clear x0 x1 d0 d1 d2 r0 r1 rf0 rf1
                have y0 := C8.cellAt 0 (by simp)
                have y1 := C8.cellAt 1 (by simp)
                simp only [List.getElem_cons_zero, List.getElem_cons_succ] at y0 y1
                have x0 := (S8.box).cellAt 0 (by simp)
                have x1 := (S8.box).cellAt 1 (by simp)
                have d0 := (S8.deed).cellAt 0 (by simp)
                have d1 := (S8.deed).cellAt 1 (by simp)
                have d2 := (S8.deed).cellAt 2 (by simp)
                have r0 := (S8.res).cellAt 0 (by simp)
                have r1 := (S8.res).cellAt 1 (by simp)
                have rf0 := (S8.res).frozen 0
                have rf1 := (S8.res).frozen 1
                simp only [List.getElem_cons_zero, List.getElem_cons_succ] at x0 x1 d0 d1 d2 r0 r1
                cases hok2 : papOk (hs2) (ls) with
                | false =>
                  have HD := Lib.hid (HNO.out hok2)
                  clear hok2
                  go_wp2_with fail
                  refine (specClone HA LA n c m lc hs ls w8 HN.out HLN.out (hr.below S8h.out.bel) (hrl.below S8h.out.bel) hm hm2).mono ?_
                  rintro e w9 ⟨_, rfl, DA, dc, DL, dlc, rfl, oh9, ol9, b9⟩
                  dsimp only at oh9 ol9
                  rw [HN.out] at oh9
                  rw [HLN.out] at ol9
                  dsimp only
                  rw [HN.out, HLN.out]
                  have S9 := S8h.out.later b9
                  have S9h := Lib.hid S9
                  have hs8 : w.heap.size + 3 ≤ w8.heap.size := S8h.out.res.lt
                  have O9 := Lib.hid (own_base oh9 hs8)
                  have P9 := Lib.hid (own_base ol9 hs8)
                  clear y0 y1 oh9 ol9
                  clear x0 x1 d0 d1 d2 r0 r1 rf0 rf1
                  have x0 := (S9.box).cellAt 0 (by simp)
                  have x1 := (S9.box).cellAt 1 (by simp)
                  have d0 := (S9.deed).cellAt 0 (by simp)
                  have d1 := (S9.deed).cellAt 1 (by simp)
                  have d2 := (S9.deed).cellAt 2 (by simp)
                  have r0 := (S9.res).cellAt 0 (by simp)
                  have r1 := (S9.res).cellAt 1 (by simp)
                  have rf0 := (S9.res).frozen 0
                  have rf1 := (S9.res).frozen 1
                  simp only [List.getElem_cons_zero, List.getElem_cons_succ] at x0 x1 d0 d1 d2 r0 r1
                  go_wp2_with fail
                  have hR := ((S9h.out.res).set_ 0 (.slice DA (n) dc)).set_ 1 (.slice DL (m) dlc)
                  have hR1 := (S9h.out.res).set_ 0 (.slice DA (n) dc)
                  have u0 := hR1.cellAt 1 (by simp)
                  have u1 := hR.cellAt 0 (by simp)
                  have u2 := hR.cellAt 1 (by simp)
                  simp only [List.set_cons_zero, List.set_cons_succ, List.getElem_cons_zero, List.getElem_cons_succ] at u0 u1 u2
                  refine bodyPost_ret (v := .tuple #[.agg #[.slice DA (n) dc, .slice DL (m) dlc], .bool false]) (by simp [results, Tryz.results109, go_sem, *]) rfl ?_
                  have h6 : Out (w.heap.size + 1 + 1) (w.heap.size + 3) w9 ((w9.setCell ⟨w.heap.size + 1 + 1, 0, none⟩ (.slice DA (n) dc)).setCell ⟨w.heap.size + 1 + 1, 1, none⟩ (.slice DL (m) dlc)) := out_set (out_set (Out.refl _ _ _) _ _ _ (by omega) (by omega)) _ _ _ (by omega) (by omega)
                  refine doOut_mk HD.out HN.out HLN.out (own_base (own_out O9.out h6 ?_) (Nat.le_add_right _ 3)) (own_base (own_out P9.out h6 ?_) (Nat.le_add_right _ 3)) (below_out (S9h.out.bel) h6 (by omega))
                  · intro g e
                    have := (O9.out.lt g e).1
                    omega
                  · intro g e
                    have := (P9.out.lt g e).1
                    omega
                | true =>
                  have HD := Lib.hid (HYES.out hok2)
                  clear hok2
                  go_wp2_with fail
                  have hR := ((S8h.out.res).set_ 0 (.slice NA (n2) nc)).set_ 1 (.slice NL (m) nlc)
                  have hR1 := (S8h.out.res).set_ 0 (.slice NA (n2) nc)
                  have u0 := hR1.cellAt 1 (by simp)
                  have u1 := hR.cellAt 0 (by simp)
                  have u2 := hR.cellAt 1 (by simp)
                  simp only [List.set_cons_zero, List.set_cons_succ, List.getElem_cons_zero, List.getElem_cons_succ] at u0 u1 u2
                  refine bodyPost_ret (v := .tuple #[.agg #[.slice NA (n2) nc, .slice NL (m) nlc], .bool true]) (by simp [results, Tryz.results109, go_sem, *]) rfl ?_
                  have h6 : Out (w.heap.size + 1 + 1) (w.heap.size + 3) w8 ((w8.setCell ⟨w.heap.size + 1 + 1, 0, none⟩ (.slice NA (n2) nc)).setCell ⟨w.heap.size + 1 + 1, 1, none⟩ (.slice NL (m) nlc)) := out_set (out_set (Out.refl _ _ _) _ _ _ (by omega) (by omega)) _ _ _ (by omega) (by omega)
                  refine doOut_mk HD.out HN2.out HLN.out (own_base (own_out O8.out h6 ?_) (Nat.le_add_right _ 3)) (own_base (own_out P8.out h6 ?_) (Nat.le_add_right _ 3)) (below_out (S8h.out.bel) h6 (by omega))
                  · intro g e
                    have := (O8.out.lt g e).1
                    omega
                  · intro g e
                    have := (P8.out.lt g e).1
                    omega
        · have hk0 : (k == 0) = false := by simpa using k0
          by_cases k1 : k = 1
          · subst k1
            cases hb : bitM g mk with
            | false =>
              have HD : Hid (paperDo ⟨hs, ls⟩ 1 x mk = (⟨hs, ls⟩, false)) := Lib.hid (by rw [HE.out]; exact sdo_none (by rintro ⟨a, b, c, d⟩; omega) (by rintro ⟨a, b, c⟩; rw [show marksOf hs x = g from HG.out, hb] at c; cases c) (by rintro ⟨a, b, c⟩; omega))
              go_wp2_with fail
              refine (hI _).mono ?_
              rintro e w' ⟨rfl, rfl⟩
              rcases h3 with rfl | rfl | rfl
              · skip
                have hbb : (g % 2 == 1) = false := by have h5 := of_decide_eq_false hb; simp [powM] at h5; simp; omega
                clear hb
                go_wp2_with fail
                have hR := ((S5h.out.res).set_ 0 (.slice CA (n) cc)).set_ 1 (.slice CL (m) clc)
                have hR1 := (S5h.out.res).set_ 0 (.slice CA (n) cc)
                have u0 := hR1.cellAt 1 (by simp)
                have u1 := hR.cellAt 0 (by simp)
                have u2 := hR.cellAt 1 (by simp)
                simp only [List.set_cons_zero, List.set_cons_succ, List.getElem_cons_zero, List.getElem_cons_succ] at u0 u1 u2
                refine bodyPost_ret (v := .tuple #[.agg #[.slice CA (n) cc, .slice CL (m) clc], .bool false]) (by simp [results, Tryz.results109, go_sem, *]) rfl ?_
                have h6 : Out (w.heap.size + 1 + 1) (w.heap.size + 3) w5 ((w5.setCell ⟨w.heap.size + 1 + 1, 0, none⟩ (.slice CA (n) cc)).setCell ⟨w.heap.size + 1 + 1, 1, none⟩ (.slice CL (m) clc)) := out_set (out_set (Out.refl _ _ _) _ _ _ (by omega) (by omega)) _ _ _ (by omega) (by omega)
                refine doOut_mk HD.out HN.out HLN.out (own_base (own_out O5.out h6 ?_) (Nat.le_add_right _ 3)) (own_base (own_out P5.out h6 ?_) (Nat.le_add_right _ 3)) (below_out (S5h.out.bel) h6 (by omega))
                · intro g e
                  have := (O5.out.lt g e).1
                  omega
                · intro g e
                  have := (P5.out.lt g e).1
                  omega
              · skip
                have hbb : (g / 2 % 2 == 1) = false := by have h5 := of_decide_eq_false hb; simp [powM] at h5; simp; omega
                clear hb
                go_wp2_with fail
                have hR := ((S5h.out.res).set_ 0 (.slice CA (n) cc)).set_ 1 (.slice CL (m) clc)
                have hR1 := (S5h.out.res).set_ 0 (.slice CA (n) cc)
                have u0 := hR1.cellAt 1 (by simp)
                have u1 := hR.cellAt 0 (by simp)
                have u2 := hR.cellAt 1 (by simp)
                simp only [List.set_cons_zero, List.set_cons_succ, List.getElem_cons_zero, List.getElem_cons_succ] at u0 u1 u2
                refine bodyPost_ret (v := .tuple #[.agg #[.slice CA (n) cc, .slice CL (m) clc], .bool false]) (by simp [results, Tryz.results109, go_sem, *]) rfl ?_
                have h6 : Out (w.heap.size + 1 + 1) (w.heap.size + 3) w5 ((w5.setCell ⟨w.heap.size + 1 + 1, 0, none⟩ (.slice CA (n) cc)).setCell ⟨w.heap.size + 1 + 1, 1, none⟩ (.slice CL (m) clc)) := out_set (out_set (Out.refl _ _ _) _ _ _ (by omega) (by omega)) _ _ _ (by omega) (by omega)
                refine doOut_mk HD.out HN.out HLN.out (own_base (own_out O5.out h6 ?_) (Nat.le_add_right _ 3)) (own_base (own_out P5.out h6 ?_) (Nat.le_add_right _ 3)) (below_out (S5h.out.bel) h6 (by omega))
                · intro g e
                  have := (O5.out.lt g e).1
                  omega
                · intro g e
                  have := (P5.out.lt g e).1
                  omega
              · skip
                have hbb : (g / 4 % 2 == 1) = false := by have h5 := of_decide_eq_false hb; simp [powM] at h5; simp; omega
                clear hb
                go_wp2_with fail
                have hR := ((S5h.out.res).set_ 0 (.slice CA (n) cc)).set_ 1 (.slice CL (m) clc)
                have hR1 := (S5h.out.res).set_ 0 (.slice CA (n) cc)
                have u0 := hR1.cellAt 1 (by simp)
                have u1 := hR.cellAt 0 (by simp)
                have u2 := hR.cellAt 1 (by simp)
                simp only [List.set_cons_zero, List.set_cons_succ, List.getElem_cons_zero, List.getElem_cons_succ] at u0 u1 u2
                refine bodyPost_ret (v := .tuple #[.agg #[.slice CA (n) cc, .slice CL (m) clc], .bool false]) (by simp [results, Tryz.results109, go_sem, *]) rfl ?_
                have h6 : Out (w.heap.size + 1 + 1) (w.heap.size + 3) w5 ((w5.setCell ⟨w.heap.size + 1 + 1, 0, none⟩ (.slice CA (n) cc)).setCell ⟨w.heap.size + 1 + 1, 1, none⟩ (.slice CL (m) clc)) := out_set (out_set (Out.refl _ _ _) _ _ _ (by omega) (by omega)) _ _ _ (by omega) (by omega)
                refine doOut_mk HD.out HN.out HLN.out (own_base (own_out O5.out h6 ?_) (Nat.le_add_right _ 3)) (own_base (own_out P5.out h6 ?_) (Nat.le_add_right _ 3)) (below_out (S5h.out.bel) h6 (by omega))
                · intro g e
                  have := (O5.out.lt g e).1
                  omega
                · intro g e
                  have := (P5.out.lt g e).1
                  omega
            | true =>
              have HNO : Hid (papOk (setH hs x (g - powM mk)) ls = false → paperDo ⟨hs, ls⟩ 1 x mk = (⟨hs, ls⟩, false)) := Lib.hid (fun h => by rw [HE.out]; unfold sdo; rw [if_neg (by omega), if_pos ⟨rfl, HMK.out, by rw [show marksOf hs x = g from HG.out]; exact hb⟩, show marksOf hs x = g from HG.out, h]; rfl)
              have HYES : Hid (papOk (setH hs x (g - powM mk)) ls = true → paperDo ⟨hs, ls⟩ 1 x mk = (⟨setH hs x (g - powM mk), ls⟩, true)) := Lib.hid (fun h => by rw [HE.out]; unfold sdo; rw [if_neg (by omega), if_pos ⟨rfl, HMK.out, by rw [show marksOf hs x = g from HG.out]; exact hb⟩, show marksOf hs x = g from HG.out, h]; rfl)
              have hpl := (HBF.out.2.1 hb).1
              go_wp2_with fail
              refine (hI _).mono ?_
              rintro e w' ⟨rfl, rfl⟩
              rcases h3 with rfl | rfl | rfl
              · skip
                have hbb : (g % 2 == 1) = true := by have h5 := of_decide_eq_true hb; simp [powM] at h5; simp; omega
                rw [show powM 0 = 1 from by decide] at HNO HYES hpl
                clear hb
                go_wp2_with fail
                have ew1 : IntKind.i64.wrap 1 = 1 := IntWalk.i64_in _ (by omega)
                have ew2 : IntKind.i64.wrap (g - 1) = g - 1 := IntWalk.i64_in _ (by omega)
                have cSet := fun W (hW : Below w5.heap.size w5 W) => specSet HA LA n c m lc hs ls x (g - 1) W HN.out HLN.out (hr.below (below_trans S5h.out.bel hW)) (hrl.below (below_trans S5h.out.bel hW)) hm hm2 HPW.out
                unfold PapOut at cSet
                have HSL := Lib.hid (rfl : (setH hs x (g - 1)).length = (setH hs x (g - 1)).length)
                generalize hset : setH hs x (g - 1) = hs2 at *
                have hl2 : hs2.length ≤ n + 1 := by
                  have h4 := setH_len (x := x) (m := g - 1) HVAL.out
                  have h5 := HN.out
                  rw [hset] at h4
                  split at h4 <;> split at h4 <;> omega
                clear hset HSL
                dsimp only at cSet
                generalize hn2 : hs2.length = n2 at *
                have HN2 := Lib.hid hn2
                rw [HLN.out] at cSet
                clear hn2
                go_region_held3 (fun W => W.cell? ⟨w.heap.size, 0, none⟩ = some (.slice HA n c) ∧ W.cell? ⟨w.heap.size, 1, none⟩ = some (.slice LA m lc) ∧ W.cell? ⟨w.heap.size + 1, 1, none⟩ = some (.int .i64 x) ∧ W.cell? ⟨w.heap.size + 1, 2, none⟩ = some (.int .i64 0))
                  (first
                    | exact keepD S5h.out (Below.refl _ _)
                    | exact keepD S5h.out (Below.drew (Below.refl _ _))
                    | exact keepD S5h.out ka
                    | exact keepDs S5h.out ka hq6)
                  ((go_at_call 122
                    (with_reducible refine (cSet _ (Below.drew (Below.refl _ _))).mono ?_)
                    rintro e wa ⟨_, rfl, NA, nc, NL, nlc, rfl, oa, la, ba⟩
                    have ka : Below w5.heap.size w5 wa := below_trans (Below.drew (Below.refl _ _)) ba
                    have Ca := C5.later ka
                    have e0 := Ca.cellAt 0 (by simp)
                    have e1 := Ca.cellAt 1 (by simp)
                    have ef0 := Ca.frozen 0
                    have ef1 := Ca.frozen 1
                    simp only [List.getElem_cons_zero, List.getElem_cons_succ] at e0 e1))
                have hw5 : w.heap.size + 3 ≤ w5.heap.size := S5h.out.res.lt
                have hq5 : q6 < w5.heap.size := C5.lt
                have Cb := (Ca.set_ 0 (.slice NA n2 nc)).set_ 1 (.slice NL m nlc)
                simp only [List.set_cons_zero, List.set_cons_succ] at Cb
                have S7 := (S5h.out.later ka).set6 hq6 (.slice NA n2 nc) (.slice NL m nlc)
                have O7 := own_base (own_set2 oa hq5 (.slice NA n2 nc) (.slice NL m nlc)) hw5
                have P7 := own_base (own_set2 la hq5 (.slice NA n2 nc) (.slice NL m nlc)) hw5
                clear x0 x1 d0 d1 d2 r0 r1 rf0 rf1
                clear e0 e1 ef0 ef1 cSet oa la ba ka Ca c0 c1 C5
                generalize (wa.setCell ⟨q6, 0, none⟩ (.slice NA n2 nc)).setCell ⟨q6, 1, none⟩ (.slice NL m nlc) = w7 at *
                have O7h := Lib.hid O7
                have P7h := Lib.hid P7
                clear O7 P7
                have S7h := Lib.hid S7
                have HCT := Lib.hid Cb
                have y0 := (Cb).cellAt 0 (by simp)
                have y1 := (Cb).cellAt 1 (by simp)
                simp only [List.getElem_cons_zero, List.getElem_cons_succ] at y0 y1
                have x0 := (S7.box).cellAt 0 (by simp)
                have x1 := (S7.box).cellAt 1 (by simp)
                have d0 := (S7.deed).cellAt 0 (by simp)
                have d1 := (S7.deed).cellAt 1 (by simp)
                have d2 := (S7.deed).cellAt 2 (by simp)
                have r0 := (S7.res).cellAt 0 (by simp)
                have r1 := (S7.res).cellAt 1 (by simp)
                have rf0 := (S7.res).frozen 0
                have rf1 := (S7.res).frozen 1
                simp only [List.getElem_cons_zero, List.getElem_cons_succ] at x0 x1 d0 d1 d2 r0 r1
                go_wp2_with fail
                refine (specPapersValid NA NL n2 nc m nlc (hs2) (ls) w7 HN2.out HLN.out (own_rd O7h.out) (own_rd P7h.out) (by omega) (by omega)).mono ?_
                rintro e w8 ⟨rfl, b8⟩
                have S8 := S7h.out.later b8
                have S8h := Lib.hid S8
                have C8 := HCT.out.later b8
                have O8 := Lib.hid (own_later O7h.out b8)
                have P8 := Lib.hid (own_later P7h.out b8)
                clear y0 y1
                clear x0 x1 d0 d1 d2 r0 r1 rf0 rf1
                have y0 := C8.cellAt 0 (by simp)
                have y1 := C8.cellAt 1 (by simp)
                simp only [List.getElem_cons_zero, List.getElem_cons_succ] at y0 y1
                have x0 := (S8.box).cellAt 0 (by simp)
                have x1 := (S8.box).cellAt 1 (by simp)
                have d0 := (S8.deed).cellAt 0 (by simp)
                have d1 := (S8.deed).cellAt 1 (by simp)
                have d2 := (S8.deed).cellAt 2 (by simp)
                have r0 := (S8.res).cellAt 0 (by simp)
                have r1 := (S8.res).cellAt 1 (by simp)
                have rf0 := (S8.res).frozen 0
                have rf1 := (S8.res).frozen 1
                simp only [List.getElem_cons_zero, List.getElem_cons_succ] at x0 x1 d0 d1 d2 r0 r1
                cases hok2 : papOk (hs2) (ls) with
                | false =>
                  have HD := Lib.hid (HNO.out hok2)
                  clear hok2
                  go_wp2_with fail
                  refine (specClone HA LA n c m lc hs ls w8 HN.out HLN.out (hr.below S8h.out.bel) (hrl.below S8h.out.bel) hm hm2).mono ?_
                  rintro e w9 ⟨_, rfl, DA, dc, DL, dlc, rfl, oh9, ol9, b9⟩
                  dsimp only at oh9 ol9
                  rw [HN.out] at oh9
                  rw [HLN.out] at ol9
                  dsimp only
                  rw [HN.out, HLN.out]
                  have S9 := S8h.out.later b9
                  have S9h := Lib.hid S9
                  have hs8 : w.heap.size + 3 ≤ w8.heap.size := S8h.out.res.lt
                  have O9 := Lib.hid (own_base oh9 hs8)
                  have P9 := Lib.hid (own_base ol9 hs8)
                  clear y0 y1 oh9 ol9
                  clear x0 x1 d0 d1 d2 r0 r1 rf0 rf1
                  have x0 := (S9.box).cellAt 0 (by simp)
                  have x1 := (S9.box).cellAt 1 (by simp)
                  have d0 := (S9.deed).cellAt 0 (by simp)
                  have d1 := (S9.deed).cellAt 1 (by simp)
                  have d2 := (S9.deed).cellAt 2 (by simp)
                  have r0 := (S9.res).cellAt 0 (by simp)
                  have r1 := (S9.res).cellAt 1 (by simp)
                  have rf0 := (S9.res).frozen 0
                  have rf1 := (S9.res).frozen 1
                  simp only [List.getElem_cons_zero, List.getElem_cons_succ] at x0 x1 d0 d1 d2 r0 r1
                  go_wp2_with fail
                  have hR := ((S9h.out.res).set_ 0 (.slice DA (n) dc)).set_ 1 (.slice DL (m) dlc)
                  have hR1 := (S9h.out.res).set_ 0 (.slice DA (n) dc)
                  have u0 := hR1.cellAt 1 (by simp)
                  have u1 := hR.cellAt 0 (by simp)
                  have u2 := hR.cellAt 1 (by simp)
                  simp only [List.set_cons_zero, List.set_cons_succ, List.getElem_cons_zero, List.getElem_cons_succ] at u0 u1 u2
                  refine bodyPost_ret (v := .tuple #[.agg #[.slice DA (n) dc, .slice DL (m) dlc], .bool false]) (by simp [results, Tryz.results109, go_sem, *]) rfl ?_
                  have h6 : Out (w.heap.size + 1 + 1) (w.heap.size + 3) w9 ((w9.setCell ⟨w.heap.size + 1 + 1, 0, none⟩ (.slice DA (n) dc)).setCell ⟨w.heap.size + 1 + 1, 1, none⟩ (.slice DL (m) dlc)) := out_set (out_set (Out.refl _ _ _) _ _ _ (by omega) (by omega)) _ _ _ (by omega) (by omega)
                  refine doOut_mk HD.out HN.out HLN.out (own_base (own_out O9.out h6 ?_) (Nat.le_add_right _ 3)) (own_base (own_out P9.out h6 ?_) (Nat.le_add_right _ 3)) (below_out (S9h.out.bel) h6 (by omega))
                  · intro g e
                    have := (O9.out.lt g e).1
                    omega
                  · intro g e
                    have := (P9.out.lt g e).1
                    omega
                | true =>
                  have HD := Lib.hid (HYES.out hok2)
                  clear hok2
                  go_wp2_with fail
                  have hR := ((S8h.out.res).set_ 0 (.slice NA (n2) nc)).set_ 1 (.slice NL (m) nlc)
                  have hR1 := (S8h.out.res).set_ 0 (.slice NA (n2) nc)
                  have u0 := hR1.cellAt 1 (by simp)
                  have u1 := hR.cellAt 0 (by simp)
                  have u2 := hR.cellAt 1 (by simp)
                  simp only [List.set_cons_zero, List.set_cons_succ, List.getElem_cons_zero, List.getElem_cons_succ] at u0 u1 u2
                  refine bodyPost_ret (v := .tuple #[.agg #[.slice NA (n2) nc, .slice NL (m) nlc], .bool true]) (by simp [results, Tryz.results109, go_sem, *]) rfl ?_
                  have h6 : Out (w.heap.size + 1 + 1) (w.heap.size + 3) w8 ((w8.setCell ⟨w.heap.size + 1 + 1, 0, none⟩ (.slice NA (n2) nc)).setCell ⟨w.heap.size + 1 + 1, 1, none⟩ (.slice NL (m) nlc)) := out_set (out_set (Out.refl _ _ _) _ _ _ (by omega) (by omega)) _ _ _ (by omega) (by omega)
                  refine doOut_mk HD.out HN2.out HLN.out (own_base (own_out O8.out h6 ?_) (Nat.le_add_right _ 3)) (own_base (own_out P8.out h6 ?_) (Nat.le_add_right _ 3)) (below_out (S8h.out.bel) h6 (by omega))
                  · intro g e
                    have := (O8.out.lt g e).1
                    omega
                  · intro g e
                    have := (P8.out.lt g e).1
                    omega
              · skip
                have hbb : (g / 2 % 2 == 1) = true := by have h5 := of_decide_eq_true hb; simp [powM] at h5; simp; omega
                rw [show powM 1 = 2 from by decide] at HNO HYES hpl
                clear hb
                go_wp2_with fail
                have ew1 : IntKind.i64.wrap 2 = 2 := IntWalk.i64_in _ (by omega)
                have ew2 : IntKind.i64.wrap (g - 2) = g - 2 := IntWalk.i64_in _ (by omega)
                have cSet := fun W (hW : Below w5.heap.size w5 W) => specSet HA LA n c m lc hs ls x (g - 2) W HN.out HLN.out (hr.below (below_trans S5h.out.bel hW)) (hrl.below (below_trans S5h.out.bel hW)) hm hm2 HPW.out
                unfold PapOut at cSet
                have HSL := Lib.hid (rfl : (setH hs x (g - 2)).length = (setH hs x (g - 2)).length)
                generalize hset : setH hs x (g - 2) = hs2 at *
                have hl2 : hs2.length ≤ n + 1 := by
                  have h4 := setH_len (x := x) (m := g - 2) HVAL.out
                  have h5 := HN.out
                  rw [hset] at h4
                  split at h4 <;> split at h4 <;> omega
                clear hset HSL
                dsimp only at cSet
                generalize hn2 : hs2.length = n2 at *
                have HN2 := Lib.hid hn2
                rw [HLN.out] at cSet
                clear hn2
                go_region_held3 (fun W => W.cell? ⟨w.heap.size, 0, none⟩ = some (.slice HA n c) ∧ W.cell? ⟨w.heap.size, 1, none⟩ = some (.slice LA m lc) ∧ W.cell? ⟨w.heap.size + 1, 1, none⟩ = some (.int .i64 x) ∧ W.cell? ⟨w.heap.size + 1, 2, none⟩ = some (.int .i64 1))
                  (first
                    | exact keepD S5h.out (Below.refl _ _)
                    | exact keepD S5h.out (Below.drew (Below.refl _ _))
                    | exact keepD S5h.out ka
                    | exact keepDs S5h.out ka hq6)
                  ((go_at_call 122
                    (with_reducible refine (cSet _ (Below.drew (Below.refl _ _))).mono ?_)
                    rintro e wa ⟨_, rfl, NA, nc, NL, nlc, rfl, oa, la, ba⟩
                    have ka : Below w5.heap.size w5 wa := below_trans (Below.drew (Below.refl _ _)) ba
                    have Ca := C5.later ka
                    have e0 := Ca.cellAt 0 (by simp)
                    have e1 := Ca.cellAt 1 (by simp)
                    have ef0 := Ca.frozen 0
                    have ef1 := Ca.frozen 1
                    simp only [List.getElem_cons_zero, List.getElem_cons_succ] at e0 e1))
                have hw5 : w.heap.size + 3 ≤ w5.heap.size := S5h.out.res.lt
                have hq5 : q6 < w5.heap.size := C5.lt
                have Cb := (Ca.set_ 0 (.slice NA n2 nc)).set_ 1 (.slice NL m nlc)
                simp only [List.set_cons_zero, List.set_cons_succ] at Cb
                have S7 := (S5h.out.later ka).set6 hq6 (.slice NA n2 nc) (.slice NL m nlc)
                have O7 := own_base (own_set2 oa hq5 (.slice NA n2 nc) (.slice NL m nlc)) hw5
                have P7 := own_base (own_set2 la hq5 (.slice NA n2 nc) (.slice NL m nlc)) hw5
                clear x0 x1 d0 d1 d2 r0 r1 rf0 rf1
                clear e0 e1 ef0 ef1 cSet oa la ba ka Ca c0 c1 C5
                generalize (wa.setCell ⟨q6, 0, none⟩ (.slice NA n2 nc)).setCell ⟨q6, 1, none⟩ (.slice NL m nlc) = w7 at *
                have O7h := Lib.hid O7
                have P7h := Lib.hid P7
                clear O7 P7
                have S7h := Lib.hid S7
                have HCT := Lib.hid Cb
                have y0 := (Cb).cellAt 0 (by simp)
                have y1 := (Cb).cellAt 1 (by simp)
                simp only [List.getElem_cons_zero, List.getElem_cons_succ] at y0 y1
                have x0 := (S7.box).cellAt 0 (by simp)
                have x1 := (S7.box).cellAt 1 (by simp)
                have d0 := (S7.deed).cellAt 0 (by simp)
                have d1 := (S7.deed).cellAt 1 (by simp)
                have d2 := (S7.deed).cellAt 2 (by simp)
                have r0 := (S7.res).cellAt 0 (by simp)
                have r1 := (S7.res).cellAt 1 (by simp)
                have rf0 := (S7.res).frozen 0
                have rf1 := (S7.res).frozen 1
                simp only [List.getElem_cons_zero, List.getElem_cons_succ] at x0 x1 d0 d1 d2 r0 r1
                go_wp2_with fail
                refine (specPapersValid NA NL n2 nc m nlc (hs2) (ls) w7 HN2.out HLN.out (own_rd O7h.out) (own_rd P7h.out) (by omega) (by omega)).mono ?_
                rintro e w8 ⟨rfl, b8⟩
                have S8 := S7h.out.later b8
                have S8h := Lib.hid S8
                have C8 := HCT.out.later b8
                have O8 := Lib.hid (own_later O7h.out b8)
                have P8 := Lib.hid (own_later P7h.out b8)
                clear y0 y1
                clear x0 x1 d0 d1 d2 r0 r1 rf0 rf1
                have y0 := C8.cellAt 0 (by simp)
                have y1 := C8.cellAt 1 (by simp)
                simp only [List.getElem_cons_zero, List.getElem_cons_succ] at y0 y1
                have x0 := (S8.box).cellAt 0 (by simp)
                have x1 := (S8.box).cellAt 1 (by simp)
                have d0 := (S8.deed).cellAt 0 (by simp)
                have d1 := (S8.deed).cellAt 1 (by simp)
                have d2 := (S8.deed).cellAt 2 (by simp)
                have r0 := (S8.res).cellAt 0 (by simp)
                have r1 := (S8.res).cellAt 1 (by simp)
                have rf0 := (S8.res).frozen 0
                have rf1 := (S8.res).frozen 1
                simp only [List.getElem_cons_zero, List.getElem_cons_succ] at x0 x1 d0 d1 d2 r0 r1
                cases hok2 : papOk (hs2) (ls) with
                | false =>
                  have HD := Lib.hid (HNO.out hok2)
                  clear hok2
                  go_wp2_with fail
                  refine (specClone HA LA n c m lc hs ls w8 HN.out HLN.out (hr.below S8h.out.bel) (hrl.below S8h.out.bel) hm hm2).mono ?_
                  rintro e w9 ⟨_, rfl, DA, dc, DL, dlc, rfl, oh9, ol9, b9⟩
                  dsimp only at oh9 ol9
                  rw [HN.out] at oh9
                  rw [HLN.out] at ol9
                  dsimp only
                  rw [HN.out, HLN.out]
                  have S9 := S8h.out.later b9
                  have S9h := Lib.hid S9
                  have hs8 : w.heap.size + 3 ≤ w8.heap.size := S8h.out.res.lt
                  have O9 := Lib.hid (own_base oh9 hs8)
                  have P9 := Lib.hid (own_base ol9 hs8)
                  clear y0 y1 oh9 ol9
                  clear x0 x1 d0 d1 d2 r0 r1 rf0 rf1
                  have x0 := (S9.box).cellAt 0 (by simp)
                  have x1 := (S9.box).cellAt 1 (by simp)
                  have d0 := (S9.deed).cellAt 0 (by simp)
                  have d1 := (S9.deed).cellAt 1 (by simp)
                  have d2 := (S9.deed).cellAt 2 (by simp)
                  have r0 := (S9.res).cellAt 0 (by simp)
                  have r1 := (S9.res).cellAt 1 (by simp)
                  have rf0 := (S9.res).frozen 0
                  have rf1 := (S9.res).frozen 1
                  simp only [List.getElem_cons_zero, List.getElem_cons_succ] at x0 x1 d0 d1 d2 r0 r1
                  go_wp2_with fail
                  have hR := ((S9h.out.res).set_ 0 (.slice DA (n) dc)).set_ 1 (.slice DL (m) dlc)
                  have hR1 := (S9h.out.res).set_ 0 (.slice DA (n) dc)
                  have u0 := hR1.cellAt 1 (by simp)
                  have u1 := hR.cellAt 0 (by simp)
                  have u2 := hR.cellAt 1 (by simp)
                  simp only [List.set_cons_zero, List.set_cons_succ, List.getElem_cons_zero, List.getElem_cons_succ] at u0 u1 u2
                  refine bodyPost_ret (v := .tuple #[.agg #[.slice DA (n) dc, .slice DL (m) dlc], .bool false]) (by simp [results, Tryz.results109, go_sem, *]) rfl ?_
                  have h6 : Out (w.heap.size + 1 + 1) (w.heap.size + 3) w9 ((w9.setCell ⟨w.heap.size + 1 + 1, 0, none⟩ (.slice DA (n) dc)).setCell ⟨w.heap.size + 1 + 1, 1, none⟩ (.slice DL (m) dlc)) := out_set (out_set (Out.refl _ _ _) _ _ _ (by omega) (by omega)) _ _ _ (by omega) (by omega)
                  refine doOut_mk HD.out HN.out HLN.out (own_base (own_out O9.out h6 ?_) (Nat.le_add_right _ 3)) (own_base (own_out P9.out h6 ?_) (Nat.le_add_right _ 3)) (below_out (S9h.out.bel) h6 (by omega))
                  · intro g e
                    have := (O9.out.lt g e).1
                    omega
                  · intro g e
                    have := (P9.out.lt g e).1
                    omega
                | true =>
                  have HD := Lib.hid (HYES.out hok2)
                  clear hok2
                  go_wp2_with fail
                  have hR := ((S8h.out.res).set_ 0 (.slice NA (n2) nc)).set_ 1 (.slice NL (m) nlc)
                  have hR1 := (S8h.out.res).set_ 0 (.slice NA (n2) nc)
                  have u0 := hR1.cellAt 1 (by simp)
                  have u1 := hR.cellAt 0 (by simp)
                  have u2 := hR.cellAt 1 (by simp)
                  simp only [List.set_cons_zero, List.set_cons_succ, List.getElem_cons_zero, List.getElem_cons_succ] at u0 u1 u2
                  refine bodyPost_ret (v := .tuple #[.agg #[.slice NA (n2) nc, .slice NL (m) nlc], .bool true]) (by simp [results, Tryz.results109, go_sem, *]) rfl ?_
                  have h6 : Out (w.heap.size + 1 + 1) (w.heap.size + 3) w8 ((w8.setCell ⟨w.heap.size + 1 + 1, 0, none⟩ (.slice NA (n2) nc)).setCell ⟨w.heap.size + 1 + 1, 1, none⟩ (.slice NL (m) nlc)) := out_set (out_set (Out.refl _ _ _) _ _ _ (by omega) (by omega)) _ _ _ (by omega) (by omega)
                  refine doOut_mk HD.out HN2.out HLN.out (own_base (own_out O8.out h6 ?_) (Nat.le_add_right _ 3)) (own_base (own_out P8.out h6 ?_) (Nat.le_add_right _ 3)) (below_out (S8h.out.bel) h6 (by omega))
                  · intro g e
                    have := (O8.out.lt g e).1
                    omega
                  · intro g e
                    have := (P8.out.lt g e).1
                    omega
              · skip
                have hbb : (g / 4 % 2 == 1) = true := by have h5 := of_decide_eq_true hb; simp [powM] at h5; simp; omega
                rw [show powM 2 = 4 from by decide] at HNO HYES hpl
                clear hb
                go_wp2_with fail
                have ew1 : IntKind.i64.wrap 4 = 4 := IntWalk.i64_in _ (by omega)
                have ew2 : IntKind.i64.wrap (g - 4) = g - 4 := IntWalk.i64_in _ (by omega)
                have cSet := fun W (hW : Below w5.heap.size w5 W) => specSet HA LA n c m lc hs ls x (g - 4) W HN.out HLN.out (hr.below (below_trans S5h.out.bel hW)) (hrl.below (below_trans S5h.out.bel hW)) hm hm2 HPW.out
                unfold PapOut at cSet
                have HSL := Lib.hid (rfl : (setH hs x (g - 4)).length = (setH hs x (g - 4)).length)
                generalize hset : setH hs x (g - 4) = hs2 at *
                have hl2 : hs2.length ≤ n + 1 := by
                  have h4 := setH_len (x := x) (m := g - 4) HVAL.out
                  have h5 := HN.out
                  rw [hset] at h4
                  split at h4 <;> split at h4 <;> omega
                clear hset HSL
                dsimp only at cSet
                generalize hn2 : hs2.length = n2 at *
                have HN2 := Lib.hid hn2
                rw [HLN.out] at cSet
                clear hn2
                go_region_held3 (fun W => W.cell? ⟨w.heap.size, 0, none⟩ = some (.slice HA n c) ∧ W.cell? ⟨w.heap.size, 1, none⟩ = some (.slice LA m lc) ∧ W.cell? ⟨w.heap.size + 1, 1, none⟩ = some (.int .i64 x) ∧ W.cell? ⟨w.heap.size + 1, 2, none⟩ = some (.int .i64 2))
                  (first
                    | exact keepD S5h.out (Below.refl _ _)
                    | exact keepD S5h.out (Below.drew (Below.refl _ _))
                    | exact keepD S5h.out ka
                    | exact keepDs S5h.out ka hq6)
                  ((go_at_call 122
                    (with_reducible refine (cSet _ (Below.drew (Below.refl _ _))).mono ?_)
                    rintro e wa ⟨_, rfl, NA, nc, NL, nlc, rfl, oa, la, ba⟩
                    have ka : Below w5.heap.size w5 wa := below_trans (Below.drew (Below.refl _ _)) ba
                    have Ca := C5.later ka
                    have e0 := Ca.cellAt 0 (by simp)
                    have e1 := Ca.cellAt 1 (by simp)
                    have ef0 := Ca.frozen 0
                    have ef1 := Ca.frozen 1
                    simp only [List.getElem_cons_zero, List.getElem_cons_succ] at e0 e1))
                have hw5 : w.heap.size + 3 ≤ w5.heap.size := S5h.out.res.lt
                have hq5 : q6 < w5.heap.size := C5.lt
                have Cb := (Ca.set_ 0 (.slice NA n2 nc)).set_ 1 (.slice NL m nlc)
                simp only [List.set_cons_zero, List.set_cons_succ] at Cb
                have S7 := (S5h.out.later ka).set6 hq6 (.slice NA n2 nc) (.slice NL m nlc)
                have O7 := own_base (own_set2 oa hq5 (.slice NA n2 nc) (.slice NL m nlc)) hw5
                have P7 := own_base (own_set2 la hq5 (.slice NA n2 nc) (.slice NL m nlc)) hw5
                clear x0 x1 d0 d1 d2 r0 r1 rf0 rf1
                clear e0 e1 ef0 ef1 cSet oa la ba ka Ca c0 c1 C5
                generalize (wa.setCell ⟨q6, 0, none⟩ (.slice NA n2 nc)).setCell ⟨q6, 1, none⟩ (.slice NL m nlc) = w7 at *
                have O7h := Lib.hid O7
                have P7h := Lib.hid P7
                clear O7 P7
                have S7h := Lib.hid S7
                have HCT := Lib.hid Cb
                have y0 := (Cb).cellAt 0 (by simp)
                have y1 := (Cb).cellAt 1 (by simp)
                simp only [List.getElem_cons_zero, List.getElem_cons_succ] at y0 y1
                have x0 := (S7.box).cellAt 0 (by simp)
                have x1 := (S7.box).cellAt 1 (by simp)
                have d0 := (S7.deed).cellAt 0 (by simp)
                have d1 := (S7.deed).cellAt 1 (by simp)
                have d2 := (S7.deed).cellAt 2 (by simp)
                have r0 := (S7.res).cellAt 0 (by simp)
                have r1 := (S7.res).cellAt 1 (by simp)
                have rf0 := (S7.res).frozen 0
                have rf1 := (S7.res).frozen 1
                simp only [List.getElem_cons_zero, List.getElem_cons_succ] at x0 x1 d0 d1 d2 r0 r1
                go_wp2_with fail
                refine (specPapersValid NA NL n2 nc m nlc (hs2) (ls) w7 HN2.out HLN.out (own_rd O7h.out) (own_rd P7h.out) (by omega) (by omega)).mono ?_
                rintro e w8 ⟨rfl, b8⟩
                have S8 := S7h.out.later b8
                have S8h := Lib.hid S8
                have C8 := HCT.out.later b8
                have O8 := Lib.hid (own_later O7h.out b8)
                have P8 := Lib.hid (own_later P7h.out b8)
                clear y0 y1
                clear x0 x1 d0 d1 d2 r0 r1 rf0 rf1
                have y0 := C8.cellAt 0 (by simp)
                have y1 := C8.cellAt 1 (by simp)
                simp only [List.getElem_cons_zero, List.getElem_cons_succ] at y0 y1
                have x0 := (S8.box).cellAt 0 (by simp)
                have x1 := (S8.box).cellAt 1 (by simp)
                have d0 := (S8.deed).cellAt 0 (by simp)
                have d1 := (S8.deed).cellAt 1 (by simp)
                have d2 := (S8.deed).cellAt 2 (by simp)
                have r0 := (S8.res).cellAt 0 (by simp)
                have r1 := (S8.res).cellAt 1 (by simp)
                have rf0 := (S8.res).frozen 0
                have rf1 := (S8.res).frozen 1
                simp only [List.getElem_cons_zero, List.getElem_cons_succ] at x0 x1 d0 d1 d2 r0 r1
                cases hok2 : papOk (hs2) (ls) with
                | false =>
                  have HD := Lib.hid (HNO.out hok2)
                  clear hok2
                  go_wp2_with fail
                  refine (specClone HA LA n c m lc hs ls w8 HN.out HLN.out (hr.below S8h.out.bel) (hrl.below S8h.out.bel) hm hm2).mono ?_
                  rintro e w9 ⟨_, rfl, DA, dc, DL, dlc, rfl, oh9, ol9, b9⟩
                  dsimp only at oh9 ol9
                  rw [HN.out] at oh9
                  rw [HLN.out] at ol9
                  dsimp only
                  rw [HN.out, HLN.out]
                  have S9 := S8h.out.later b9
                  have S9h := Lib.hid S9
                  have hs8 : w.heap.size + 3 ≤ w8.heap.size := S8h.out.res.lt
                  have O9 := Lib.hid (own_base oh9 hs8)
                  have P9 := Lib.hid (own_base ol9 hs8)
                  clear y0 y1 oh9 ol9
                  clear x0 x1 d0 d1 d2 r0 r1 rf0 rf1
                  have x0 := (S9.box).cellAt 0 (by simp)
                  have x1 := (S9.box).cellAt 1 (by simp)
                  have d0 := (S9.deed).cellAt 0 (by simp)
                  have d1 := (S9.deed).cellAt 1 (by simp)
                  have d2 := (S9.deed).cellAt 2 (by simp)
                  have r0 := (S9.res).cellAt 0 (by simp)
                  have r1 := (S9.res).cellAt 1 (by simp)
                  have rf0 := (S9.res).frozen 0
                  have rf1 := (S9.res).frozen 1
                  simp only [List.getElem_cons_zero, List.getElem_cons_succ] at x0 x1 d0 d1 d2 r0 r1
                  go_wp2_with fail
                  have hR := ((S9h.out.res).set_ 0 (.slice DA (n) dc)).set_ 1 (.slice DL (m) dlc)
                  have hR1 := (S9h.out.res).set_ 0 (.slice DA (n) dc)
                  have u0 := hR1.cellAt 1 (by simp)
                  have u1 := hR.cellAt 0 (by simp)
                  have u2 := hR.cellAt 1 (by simp)
                  simp only [List.set_cons_zero, List.set_cons_succ, List.getElem_cons_zero, List.getElem_cons_succ] at u0 u1 u2
                  refine bodyPost_ret (v := .tuple #[.agg #[.slice DA (n) dc, .slice DL (m) dlc], .bool false]) (by simp [results, Tryz.results109, go_sem, *]) rfl ?_
                  have h6 : Out (w.heap.size + 1 + 1) (w.heap.size + 3) w9 ((w9.setCell ⟨w.heap.size + 1 + 1, 0, none⟩ (.slice DA (n) dc)).setCell ⟨w.heap.size + 1 + 1, 1, none⟩ (.slice DL (m) dlc)) := out_set (out_set (Out.refl _ _ _) _ _ _ (by omega) (by omega)) _ _ _ (by omega) (by omega)
                  refine doOut_mk HD.out HN.out HLN.out (own_base (own_out O9.out h6 ?_) (Nat.le_add_right _ 3)) (own_base (own_out P9.out h6 ?_) (Nat.le_add_right _ 3)) (below_out (S9h.out.bel) h6 (by omega))
                  · intro g e
                    have := (O9.out.lt g e).1
                    omega
                  · intro g e
                    have := (P9.out.lt g e).1
                    omega
                | true =>
                  have HD := Lib.hid (HYES.out hok2)
                  clear hok2
                  go_wp2_with fail
                  have hR := ((S8h.out.res).set_ 0 (.slice NA (n2) nc)).set_ 1 (.slice NL (m) nlc)
                  have hR1 := (S8h.out.res).set_ 0 (.slice NA (n2) nc)
                  have u0 := hR1.cellAt 1 (by simp)
                  have u1 := hR.cellAt 0 (by simp)
                  have u2 := hR.cellAt 1 (by simp)
                  simp only [List.set_cons_zero, List.set_cons_succ, List.getElem_cons_zero, List.getElem_cons_succ] at u0 u1 u2
                  refine bodyPost_ret (v := .tuple #[.agg #[.slice NA (n2) nc, .slice NL (m) nlc], .bool true]) (by simp [results, Tryz.results109, go_sem, *]) rfl ?_
                  have h6 : Out (w.heap.size + 1 + 1) (w.heap.size + 3) w8 ((w8.setCell ⟨w.heap.size + 1 + 1, 0, none⟩ (.slice NA (n2) nc)).setCell ⟨w.heap.size + 1 + 1, 1, none⟩ (.slice NL (m) nlc)) := out_set (out_set (Out.refl _ _ _) _ _ _ (by omega) (by omega)) _ _ _ (by omega) (by omega)
                  refine doOut_mk HD.out HN2.out HLN.out (own_base (own_out O8.out h6 ?_) (Nat.le_add_right _ 3)) (own_base (own_out P8.out h6 ?_) (Nat.le_add_right _ 3)) (below_out (S8h.out.bel) h6 (by omega))
                  · intro g e
                    have := (O8.out.lt g e).1
                    omega
                  · intro g e
                    have := (P8.out.lt g e).1
                    omega
          · have hk1 : (k == 1) = false := by simpa using k1
            have HD : Hid (paperDo ⟨hs, ls⟩ k x mk = (⟨hs, ls⟩, false)) := Lib.hid (by rw [HE.out]; exact sdo_none (by rintro ⟨a, b, c, d⟩; exact k0 a) (by rintro ⟨a, b, c⟩; exact k1 a) (by rintro ⟨a, b, c⟩; exact k2 a))
            clear h3 k0 k1 k2
            go_wp2_with fail
            refine (hI _).mono ?_
            rintro e w' ⟨rfl, rfl⟩
            go_wp2_with fail
            have hR := ((S5h.out.res).set_ 0 (.slice CA (n) cc)).set_ 1 (.slice CL (m) clc)
            have hR1 := (S5h.out.res).set_ 0 (.slice CA (n) cc)
            have u0 := hR1.cellAt 1 (by simp)
            have u1 := hR.cellAt 0 (by simp)
            have u2 := hR.cellAt 1 (by simp)
            simp only [List.set_cons_zero, List.set_cons_succ, List.getElem_cons_zero, List.getElem_cons_succ] at u0 u1 u2
            refine bodyPost_ret (v := .tuple #[.agg #[.slice CA (n) cc, .slice CL (m) clc], .bool false]) (by simp [results, Tryz.results109, go_sem, *]) rfl ?_
            have h6 : Out (w.heap.size + 1 + 1) (w.heap.size + 3) w5 ((w5.setCell ⟨w.heap.size + 1 + 1, 0, none⟩ (.slice CA (n) cc)).setCell ⟨w.heap.size + 1 + 1, 1, none⟩ (.slice CL (m) clc)) := out_set (out_set (Out.refl _ _ _) _ _ _ (by omega) (by omega)) _ _ _ (by omega) (by omega)
            refine doOut_mk HD.out HN.out HLN.out (own_base (own_out O5.out h6 ?_) (Nat.le_add_right _ 3)) (own_base (own_out P5.out h6 ?_) (Nat.le_add_right _ 3)) (below_out (S5h.out.bel) h6 (by omega))
            · intro g e
              have := (O5.out.lt g e).1
              omega
            · intro g e
              have := (P5.out.lt g e).1
              omega
      · have hI := fun W => l1In_false mk 0 2 W (by omega)
        have HMK : Hid (markOk k mk = false) := Lib.hid (by cases h : markOk k mk with | false => rfl | true => exact absurd (markOk_iff.1 h) (by rintro (h | h); exact k2 h; exact hmk h))
        have HD : Hid (paperDo ⟨hs, ls⟩ k x mk = (⟨hs, ls⟩, false)) := Lib.hid (by rw [HE.out]; exact sdo_none (by rintro ⟨a, b, c, d⟩; rw [HMK.out] at b; cases b) (by rintro ⟨a, b, c⟩; rw [HMK.out] at b; cases b) (by rintro ⟨a, b, c⟩; exact k2 a))
        have hk2 : (k == 2) = false := by simpa using k2
        clear hmk
        by_cases k0 : k = 0
        · subst k0
          go_wp2_with fail
          refine (hI _).mono ?_
          rintro e w' ⟨rfl, rfl⟩
          go_wp2_with fail
          have hR := ((S5h.out.res).set_ 0 (.slice CA (n) cc)).set_ 1 (.slice CL (m) clc)
          have hR1 := (S5h.out.res).set_ 0 (.slice CA (n) cc)
          have u0 := hR1.cellAt 1 (by simp)
          have u1 := hR.cellAt 0 (by simp)
          have u2 := hR.cellAt 1 (by simp)
          simp only [List.set_cons_zero, List.set_cons_succ, List.getElem_cons_zero, List.getElem_cons_succ] at u0 u1 u2
          refine bodyPost_ret (v := .tuple #[.agg #[.slice CA (n) cc, .slice CL (m) clc], .bool false]) (by simp [results, Tryz.results109, go_sem, *]) rfl ?_
          have h6 : Out (w.heap.size + 1 + 1) (w.heap.size + 3) w5 ((w5.setCell ⟨w.heap.size + 1 + 1, 0, none⟩ (.slice CA (n) cc)).setCell ⟨w.heap.size + 1 + 1, 1, none⟩ (.slice CL (m) clc)) := out_set (out_set (Out.refl _ _ _) _ _ _ (by omega) (by omega)) _ _ _ (by omega) (by omega)
          refine doOut_mk HD.out HN.out HLN.out (own_base (own_out O5.out h6 ?_) (Nat.le_add_right _ 3)) (own_base (own_out P5.out h6 ?_) (Nat.le_add_right _ 3)) (below_out (S5h.out.bel) h6 (by omega))
          · intro g e
            have := (O5.out.lt g e).1
            omega
          · intro g e
            have := (P5.out.lt g e).1
            omega
        · have hk0 : (k == 0) = false := by simpa using k0
          by_cases k1 : k = 1
          · subst k1
            go_wp2_with fail
            refine (hI _).mono ?_
            rintro e w' ⟨rfl, rfl⟩
            go_wp2_with fail
            have hR := ((S5h.out.res).set_ 0 (.slice CA (n) cc)).set_ 1 (.slice CL (m) clc)
            have hR1 := (S5h.out.res).set_ 0 (.slice CA (n) cc)
            have u0 := hR1.cellAt 1 (by simp)
            have u1 := hR.cellAt 0 (by simp)
            have u2 := hR.cellAt 1 (by simp)
            simp only [List.set_cons_zero, List.set_cons_succ, List.getElem_cons_zero, List.getElem_cons_succ] at u0 u1 u2
            refine bodyPost_ret (v := .tuple #[.agg #[.slice CA (n) cc, .slice CL (m) clc], .bool false]) (by simp [results, Tryz.results109, go_sem, *]) rfl ?_
            have h6 : Out (w.heap.size + 1 + 1) (w.heap.size + 3) w5 ((w5.setCell ⟨w.heap.size + 1 + 1, 0, none⟩ (.slice CA (n) cc)).setCell ⟨w.heap.size + 1 + 1, 1, none⟩ (.slice CL (m) clc)) := out_set (out_set (Out.refl _ _ _) _ _ _ (by omega) (by omega)) _ _ _ (by omega) (by omega)
            refine doOut_mk HD.out HN.out HLN.out (own_base (own_out O5.out h6 ?_) (Nat.le_add_right _ 3)) (own_base (own_out P5.out h6 ?_) (Nat.le_add_right _ 3)) (below_out (S5h.out.bel) h6 (by omega))
            · intro g e
              have := (O5.out.lt g e).1
              omega
            · intro g e
              have := (P5.out.lt g e).1
              omega
          · have hk1 : (k == 1) = false := by simpa using k1
            clear k0 k1 k2
            go_wp2_with fail
            refine (hI _).mono ?_
            rintro e w' ⟨rfl, rfl⟩
            go_wp2_with fail
            have hR := ((S5h.out.res).set_ 0 (.slice CA (n) cc)).set_ 1 (.slice CL (m) clc)
            have hR1 := (S5h.out.res).set_ 0 (.slice CA (n) cc)
            have u0 := hR1.cellAt 1 (by simp)
            have u1 := hR.cellAt 0 (by simp)
            have u2 := hR.cellAt 1 (by simp)
            simp only [List.set_cons_zero, List.set_cons_succ, List.getElem_cons_zero, List.getElem_cons_succ] at u0 u1 u2
            refine bodyPost_ret (v := .tuple #[.agg #[.slice CA (n) cc, .slice CL (m) clc], .bool false]) (by simp [results, Tryz.results109, go_sem, *]) rfl ?_
            have h6 : Out (w.heap.size + 1 + 1) (w.heap.size + 3) w5 ((w5.setCell ⟨w.heap.size + 1 + 1, 0, none⟩ (.slice CA (n) cc)).setCell ⟨w.heap.size + 1 + 1, 1, none⟩ (.slice CL (m) clc)) := out_set (out_set (Out.refl _ _ _) _ _ _ (by omega) (by omega)) _ _ _ (by omega) (by omega)
            refine doOut_mk HD.out HN.out HLN.out (own_base (own_out O5.out h6 ?_) (Nat.le_add_right _ 3)) (own_base (own_out P5.out h6 ?_) (Nat.le_add_right _ 3)) (below_out (S5h.out.bel) h6 (by omega))
            · intro g e
              have := (O5.out.lt g e).1
              omega
            · intro g e
              have := (P5.out.lt g e).1
              omega
end Go.Proofs.YtbkfhcbecejomaaGreat
