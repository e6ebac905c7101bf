/- What is drawn for the laws on papers. -/
import Derived.Test.YtpkbipjnobfcdaaDrawPap
namespace Go.Proofs.Ytpkbipjnobfcdaa
open Go Go.ChangeShapes Go.WideShapes Go.ChangeAt Go.RowKit
set_option linter.unusedVariables false
set_option linter.unusedSimpArgs false
theorem codeP_below {w w' : World} {A : Option Addr} {n c : Nat} {bs : List Int} (h : Code w A n c bs) (hb : Below w.heap.size w w') : Code w' A n c bs := ⟨h.len, h.cap, h.max, h.rd.below hb, h.byte⟩
/-- papers in memory of the call's own, none great -/
def PapG (w w' : World) (u : Value) (hs : List HoldV) (ls : List Int) : Prop :=
  ∃ HA n hc LA m lc, u = .agg #[.slice HA n hc, .slice LA m lc] ∧ hs.length = n ∧ ls.length = m ∧ n ≤ 13 ∧ m ≤ 13 ∧ w'.ownsRow w.heap.size 38 2 (.slice HA n hc) n (holds hs) ∧ w'.ownsRow w.heap.size 3 1 (.slice LA m lc) m (ints ls)
def MarksD (w : World) : Ending → World → Prop := RTwo fun u v w' => ∃ hs ls, ∃ x : Int, PapG w w' u hs ls ∧ v = .int .i64 x ∧ (1 ≤ x ∧ x ≤ 7) ∧ Below w.heap.size w w'
def PaperDoD (w : World) : Ending → World → Prop := RTwo fun u v w' => ∃ hs ls, ∃ k x m : Int, PapG w w' u hs ls ∧ v = .agg #[.int .i64 k, .int .i64 x, .int .i64 m] ∧ Below w.heap.size w w'
def PaperRunD (w : World) : Ending → World → Prop := RTwo fun u v w' => ∃ hs ls, ∃ ds A d dc, PapG w w' u hs ls ∧ v = .slice A d dc ∧ ds.length = d ∧ d ≤ 16 ∧ RdV w' A (paperdeeds ds) ∧ Below w.heap.size w w'
/-- the result's cells are stored: papers stay -/
theorem papG_store {w W : World} {r : Nat} {HA LA : Option Addr} {n hc m lc : Nat} {hs : List HoldV} {ls : List Int} {x0 x1 : Value} (hb : Blk W r 26 [x0, x1]) (h1 : hs.length = n) (h2 : ls.length = m) (h3 : n ≤ 13) (h4 : m ≤ 13) (o1 : W.ownsRow w.heap.size 38 2 (.slice HA n hc) n (holds hs)) (o2 : W.ownsRow w.heap.size 3 1 (.slice LA m lc) m (ints ls)) :
    PapG w ((W.setCell ⟨r, 0, none⟩ (.slice HA n hc)).setCell ⟨r, 1, none⟩ (.slice LA m lc)) (.agg #[.slice HA n hc, .slice LA m lc]) hs ls := by
  have b1 := hb.set_ 0 (.slice HA n hc)
  exact ⟨_, _, _, _, _, _, rfl, h1, h2, h3, h4, own_setAt (own_setAt o1 hb (by decide)) b1 (by decide), own_setAt (own_setAt o2 hb (by decide)) b1 (by decide)⟩
theorem bel_setD {w W : World} {g i : Nat} {u : Value} (h : Below w.heap.size w W) (hg : w.heap.size ≤ g) : Below w.heap.size w (W.setCell ⟨g, i, none⟩ u) := h.setCell (p := ⟨g, i, none⟩) hg u
/-- then a deed's cells are stored -/
theorem papG_deed {w W : World} {r : Nat} {HA LA : Option Addr} {n hc m lc : Nat} {hs : List HoldV} {ls : List Int} {x0 x1 x2 x3 x4 x5 x6 x7 x8 : Value} {u0 u1 : Value} (hb : Blk W r 41 [x0, x1, x2]) (hb1 : Blk (W.setCell ⟨r, 0, none⟩ u0) r 41 [x3, x4, x5]) (hb2 : Blk ((W.setCell ⟨r, 0, none⟩ u0).setCell ⟨r, 1, none⟩ u1) r 41 [x6, x7, x8])
    (o1 : W.ownsRow w.heap.size 38 2 (.slice HA n hc) n (holds hs)) (o2 : W.ownsRow w.heap.size 3 1 (.slice LA m lc) m (ints ls)) (h1 : hs.length = n) (h2 : ls.length = m) (h3 : n ≤ 13) (h4 : m ≤ 13) (_ _ u2 : Value) :
    PapG w (((W.setCell ⟨r, 0, none⟩ u0).setCell ⟨r, 1, none⟩ u1).setCell ⟨r, 2, none⟩ u2) (.agg #[.slice HA n hc, .slice LA m lc]) hs ls :=
  ⟨_, _, _, _, _, _, rfl, h1, h2, h3, h4, own_setAt (own_setAt (own_setAt o1 hb (by decide)) hb1 (by decide)) hb2 (by decide), own_setAt (own_setAt (own_setAt o2 hb (by decide)) hb1 (by decide)) hb2 (by decide)⟩
/-- the drawing of deeds: papers lie in block sb, the reader has picked Q times at most -/
structure RunDr (w W : World) (sb g Q n c m lc : Nat) (HA LA : Option Addr) (hs : List HoldV) (ls : List Int) : Prop where
  res : Blk W w.heap.size 26 [.slice none 0 0, .slice none 0 0]
  blk : Blk W sb 26 [.slice HA n c, .slice LA m lc]
  hold : W.ownsRow w.heap.size 38 2 (.slice HA n c) n (holds hs)
  left : W.ownsRow w.heap.size 3 1 (.slice LA m lc) m (ints ls)
  hn : hs.length = n
  hm : ls.length = m
  rd : ∃ q, q ≤ Q ∧ Rdr W g q
  bel : Below w.heap.size w W
  hsb : w.heap.size + 1 ≤ sb
  hgw : w.heap.size < g
  hgl : g < sb
theorem RunDr.pick {w W W' : World} {sb g Q Q' q n c m lc : Nat} {HA LA : Option Addr} {hs : List HoldV} {ls : List Int} (h : RunDr w W sb g Q n c m lc HA LA hs ls) (hr : Rdr W' g q) (hq : q ≤ Q') (hg : W.grownBy W' (some g)) : RunDr w W' sb g Q' n c m lc HA LA hs ls := by
  have h1 := h.hsb
  have h2 := h.hgl
  have h3 := h.hgw
  obtain ⟨q0, _, A, n0, c0, bs, hb, _⟩ := h.rd
  exact ⟨h.res.only hg (by omega), h.blk.only hg (by omega), own_only h.hold hg (fun e => own_blk_ne h.hold hb (by decide) _ e rfl), own_only h.left hg (fun e => own_blk_ne h.left hb (by decide) _ e rfl), h.hn, h.hm, ⟨q, hq, hr⟩, below_only h.bel hg (by omega), h.hsb, h.hgw, h.hgl⟩
theorem RunDr.pick16 {w W : World} {sb g n c m lc : Nat} {HA LA : Option Addr} {hs : List HoldV} {ls : List Int} (h : RunDr w W sb g 300 n c m lc HA LA hs ls) :
    Calls Try.prog 42 #[.pointer (some ⟨g, 0, none⟩), .int .i64 16] W fun e w' => ∃ v : Int, e = .returned (.int .i64 v) ∧ (0 ≤ v ∧ v < 16) ∧ RunDr w w' sb g 301 n c m lc HA LA hs ls ∧ W.grownBy w' (some g) := by
  obtain ⟨q, h1, h2⟩ := h.rd
  exact (pick_any g q 16 W h2 (by omega) (by omega)).mono fun e w' ⟨v, he, ⟨v0, v1, _⟩, hr, hg⟩ => ⟨v, he, ⟨v0, v1 (by omega)⟩, h.pick hr (by omega) hg, hg⟩
theorem RunDr.deed {w W : World} {sb g Q n c m lc : Nat} {HA LA : Option Addr} {hs : List HoldV} {ls : List Int} (h : RunDr w W sb g Q n c m lc HA LA hs ls) (hq : Q ≤ 1000000) :
    Calls Try.prog 48 #[.pointer (some ⟨g, 0, none⟩)] W fun e w' => ∃ x0 x1 x2 : Int, e = .returned (.agg #[.int .i64 x0, .int .i64 x1, .int .i64 x2]) ∧ RunDr w w' sb g (Q + 6) n c m lc HA LA hs ls ∧ W.grownBy w' (some g) := by
  obtain ⟨q, h1, h2⟩ := h.rd
  exact (l20PaperDeed_any g q W h2 (by omega)).mono fun e w' ⟨v, he, k, x, m, hv, hr, hg⟩ => ⟨k, x, m, by rw [he, hv], h.pick hr (by omega) hg, hg⟩
theorem RunDr.grown {w W W' : World} {sb g Q n c m lc k : Nat} {HA LA : Option Addr} {hs : List HoldV} {ls : List Int} {v : Value} {xs : List Value} (h : RunDr w W sb g Q n c m lc HA LA hs ls) (ho : W.ownsRow (sb + 1) 41 3 v k xs) (hg : W.grownBy W' v.ownBlock) : RunDr w W' sb g Q n c m lc HA LA hs ls := by
  have h1 := h.hsb
  have h2 := h.hgl
  have h3 := h.hgw
  obtain ⟨q, hq, hr⟩ := h.rd
  have hlt := fun b e => (ho.lt b e).1
  exact ⟨(hg.block _ h.res.lt (fun e => by have := hlt _ e.symm; omega)).trans h.res, (hg.block _ h.blk.lt (fun e => by have := hlt _ e.symm; omega)).trans h.blk, own_own_apart ho hg h.hold (by decide), own_own_apart ho hg h.left (by decide), h.hn, h.hm, ⟨q, hq, hr.away hg (fun b e => by have := hlt b e; omega)⟩, Below.grown h.bel hg h.bel.size (fun b e => by have := hlt b e; omega), h.hsb, h.hgw, h.hgl⟩
set_option maxHeartbeats 2000000 in
theorem drawMarksOf_any (A : Option Addr) (n c : Nat) (bs : List Int) (w : World) (h : Code w A n c bs) : Calls Try.prog 9 #[.slice A n c] w (MarksD w) := by
  have hal : Below w.heap.size w (w.alloc (.cells #[.slice none 0 0, .slice none 0 0] 26)) := (Below.refl _ _).alloc (Nat.le_refl _) _
  have hR0 := Blk.new w 26 [.slice none 0 0, .slice none 0 0]
  have h1 := codeP_below h hal
  have HAL := Lib.hid hal
  clear h hal
  go_enter Try.func9, Try.ntmps9
  go_wp2_with fail
  generalize hw0 : w.alloc (.cells #[.slice none 0 0, .slice none 0 0] 26) = w0 at *
  have hs0 : w.heap.size + 1 ≤ w0.heap.size := by rw [← hw0]; simp
  clear hw0
  refine (open_any A n c bs _ h1).mono ?_
  rintro e w1 ⟨v, rfl, g, rfl, hg, hr, hb⟩
  have hR1 := hR0.later hb
  have HB1 := Lib.hid (below_trans HAL.out hb)
  have hs1 := hb.size
  clear hR0 h1 hb
  go_wp2_with fail
  refine (l20Papers_any g 0 9 w1 hr (by omega) (by omega)).mono ?_
  rintro e w2 ⟨_, rfl, HA, hn, hc, LA, m, lc, hs, ls, q2, rfl, e1, e2, e3, e4, o1, o2, hq, hr2, hg2⟩
  have hgl := hr.lt
  have hR2 := hR1.only hg2 (by omega)
  have hB2 := below_only HB1.out hg2 (by omega)
  clear hR1 hr HB1
  go_wp2_with fail
  refine (pick_any g q2 7 _ hr2 (by omega) (by omega)).mono ?_
  rintro e w3 ⟨v, rfl, ⟨v0, v1, _⟩, hr3, hg3⟩
  have hv7 := v1 (by omega)
  have hR3 := hR2.only hg3 (by omega)
  have HB3 := Lib.hid (below_only hB2 hg3 (by omega))
  have O1 := own_only o1 hg3 (own_ne o1 (by omega))
  have O2 := own_only o2 hg3 (own_ne o2 (by omega))
  have z0 := hR3.cellAt 0 (by simp)
  have z1 := hR3.cellAt 1 (by simp)
  have f0 := hR3.frozen 0
  have f1 := hR3.frozen 1
  have hR4 := hR3.set_ 0 (.slice HA hn hc)
  have hR5 := hR4.set_ 1 (.slice LA m lc)
  have u0 := hR4.cellAt 1 (by simp)
  have u1 := hR5.cellAt 0 (by simp)
  have u2 := hR5.cellAt 1 (by simp)
  simp only [List.set_cons_zero, List.set_cons_succ, List.getElem_cons_zero, List.getElem_cons_succ] at z0 z1 u0 u1 u2
  have HG := Lib.hid (papG_store (w := w) hR3 e1 e2 e3 e4 (own_base O1 (by omega)) (own_base O2 (by omega)))
  have HBF := Lib.hid (bel_setD (i := 1) (u := .slice LA m lc) (bel_setD (i := 0) (u := .slice HA hn hc) HB3.out (Nat.le_refl _)) (Nat.le_refl _))
  clear hR2 hB2 hg2 hg3 o1 o2 O1 O2 hR3 hR4 hR5 e1 e2 hr2 hr3 v1 HB3
  go_wp2_with fail
  refine bodyPost_ret (v := .tuple #[.agg #[.slice HA hn hc, .slice LA m lc], .int .i64 (1 + v)]) (by simp [results, Try.results9, go_sem, *]) rfl ?_
  exact RTwo.mk ⟨hs, ls, _, HG.out, rfl, by omega, HBF.out⟩
set_option maxHeartbeats 2000000 in
theorem drawFreeDeeds_any (A : Option Addr) (n c : Nat) (bs : List Int) (w : World) (h : Code w A n c bs) : Calls Try.prog 21 #[.slice A n c] w (MarksD w) := by
  have hal : Below w.heap.size w (w.alloc (.cells #[.slice none 0 0, .slice none 0 0] 26)) := (Below.refl _ _).alloc (Nat.le_refl _) _
  have hR0 := Blk.new w 26 [.slice none 0 0, .slice none 0 0]
  have h1 := codeP_below h hal
  have HAL := Lib.hid hal
  clear h hal
  go_enter Try.func21, Try.ntmps21
  go_wp2_with fail
  generalize hw0 : w.alloc (.cells #[.slice none 0 0, .slice none 0 0] 26) = w0 at *
  have hs0 : w.heap.size + 1 ≤ w0.heap.size := by rw [← hw0]; simp
  clear hw0
  refine (drawMarksOf_any A n c bs _ h1).mono ?_
  rintro e w1 ⟨_, _, rfl, hs, ls, x, ⟨HA, hn, hc, LA, m, lc, rfl, e1, e2, e3, e4, o1, o2⟩, rfl, hx17, hb⟩
  have hR3 := hR0.later hb
  have z0 := hR3.cellAt 0 (by simp)
  have z1 := hR3.cellAt 1 (by simp)
  have f0 := hR3.frozen 0
  have f1 := hR3.frozen 1
  have hR4 := hR3.set_ 0 (.slice HA hn hc)
  have hR5 := hR4.set_ 1 (.slice LA m lc)
  have u0 := hR4.cellAt 1 (by simp)
  have u1 := hR5.cellAt 0 (by simp)
  have u2 := hR5.cellAt 1 (by simp)
  simp only [List.set_cons_zero, List.set_cons_succ, List.getElem_cons_zero, List.getElem_cons_succ] at z0 z1 u0 u1 u2
  have HG := Lib.hid (papG_store (w := w) hR3 e1 e2 e3 e4 (own_base o1 (by omega)) (own_base o2 (by omega)))
  have HBF := Lib.hid (bel_setD (i := 1) (u := .slice LA m lc) (bel_setD (i := 0) (u := .slice HA hn hc) (below_trans HAL.out hb) (Nat.le_refl _)) (Nat.le_refl _))
  clear hR0 hb o1 o2 hR3 hR4 hR5 e1 e2 h1
  go_wp2_with fail
  refine bodyPost_ret (v := .tuple #[.agg #[.slice HA hn hc, .slice LA m lc], .int .i64 x]) (by simp [results, Try.results21, go_sem, *]) rfl ?_
  exact RTwo.mk ⟨hs, ls, _, HG.out, rfl, hx17, HBF.out⟩
set_option maxHeartbeats 2000000 in
theorem drawPaperDo_any (A : Option Addr) (n c : Nat) (bs : List Int) (w : World) (h : Code w A n c bs) : Calls Try.prog 16 #[.slice A n c] w (PaperDoD w) := by
  have hal : Below w.heap.size w ((w.alloc (.cells #[.slice none 0 0, .slice none 0 0] 26)).alloc (.cells #[.int .i64 0, .int .i64 0, .int .i64 0] 41)) := ((Below.refl _ _).alloc (Nat.le_refl _) _).alloc (by simp) _
  have hR0 := (Blk.new w 26 [.slice none 0 0, .slice none 0 0]).alloc (.cells #[.int .i64 0, .int .i64 0, .int .i64 0] 41)
  have hE0 := Blk.new (w.alloc (.cells #[.slice none 0 0, .slice none 0 0] 26)) 41 [.int .i64 0, .int .i64 0, .int .i64 0]
  simp only [World.size_alloc] at hE0
  have h1 := codeP_below h hal
  have HAL := Lib.hid hal
  clear h hal
  go_enter Try.func16, Try.ntmps16
  go_wp2_with fail
  generalize hw0 : (w.alloc (.cells #[.slice none 0 0, .slice none 0 0] 26)).alloc (.cells #[.int .i64 0, .int .i64 0, .int .i64 0] 41) = w0 at *
  have hs0 : w.heap.size + 1 + 1 ≤ w0.heap.size := by rw [← hw0]; simp
  clear hw0
  refine (open_any A n c bs _ h1).mono ?_
  rintro e w1 ⟨v, rfl, g, rfl, hg, hr, hb⟩
  have hR1 := hR0.later hb
  have hE1 := hE0.later hb
  have HB1 := Lib.hid (below_trans HAL.out hb)
  have hs1 := hb.size
  clear hR0 hE0 h1 hb
  go_wp2_with fail
  refine (l20Papers_any g 0 9 w1 hr (by omega) (by omega)).mono ?_
  rintro e w2 ⟨_, rfl, HA, hn, hc, LA, m, lc, hs, ls, q2, rfl, e1, e2, e3, e4, o1, o2, hq, hr2, hg2⟩
  have hgl := hr.lt
  have hR2 := hR1.only hg2 (by omega)
  have hE2 := hE1.only hg2 (by omega)
  have hB2 := below_only HB1.out hg2 (by omega)
  clear hR1 hE1 hr HB1
  go_wp2_with fail
  refine (l20PaperDeed_any g q2 _ hr2 (by omega)).mono ?_
  rintro e w3 ⟨_, rfl, k, x, mk, rfl, hr3, hg3⟩
  have hR3 := hR2.only hg3 (by omega)
  have hE3 := hE2.only hg3 (by omega)
  have HB3 := Lib.hid (below_only hB2 hg3 (by omega))
  have O1 := own_only o1 hg3 (own_ne o1 (by omega))
  have O2 := own_only o2 hg3 (own_ne o2 (by omega))
  have z0 := hR3.cellAt 0 (by simp)
  have z1 := hR3.cellAt 1 (by simp)
  have f0 := hR3.frozen 0
  have f1 := hR3.frozen 1
  have hR4 := hR3.set_ 0 (.slice HA hn hc)
  have hR5 := hR4.set_ 1 (.slice LA m lc)
  have hne : w.heap.size + 1 ≠ w.heap.size := by omega
  have hE5 := (hE3.far (p := ⟨w.heap.size, 0, none⟩) hne (.slice HA hn hc)).far (p := ⟨w.heap.size, 1, none⟩) hne (.slice LA m lc)
  have HG := Lib.hid (papG_store (w := w) hR3 e1 e2 e3 e4 (own_base O1 (by omega)) (own_base O2 (by omega)))
  have HBF := Lib.hid (bel_setD (i := 1) (u := .slice LA m lc) (bel_setD (i := 0) (u := .slice HA hn hc) HB3.out (Nat.le_refl _)) (Nat.le_refl _))
  clear hR2 hE2 hB2 hg2 hg3 o1 o2 O1 O2 e1 e2 hr2 hr3 HB3
  have u0 := hR4.cellAt 1 (by simp)
  simp only [List.set_cons_zero, List.set_cons_succ, List.getElem_cons_zero, List.getElem_cons_succ] at z0 z1 u0 hR5
  have t0 := hE5.cellAt 0 (by simp)
  have tf0 := hE5.frozen 0
  have tf1 := hE5.frozen 1
  have tf2 := hE5.frozen 2
  have hE6 := hE5.set_ 0 (.int .i64 k)
  have hE7 := hE6.set_ 1 (.int .i64 x)
  have hE8 := hE7.set_ 2 (.int .i64 mk)
  have hR8 := ((hR5.far (p := ⟨w.heap.size + 1, 0, none⟩) (Ne.symm hne) (.int .i64 k)).far (p := ⟨w.heap.size + 1, 1, none⟩) (Ne.symm hne) (.int .i64 x)).far (p := ⟨w.heap.size + 1, 2, none⟩) (Ne.symm hne) (.int .i64 mk)
  have t1 := hE6.cellAt 1 (by simp)
  have t2 := hE7.cellAt 2 (by simp)
  have q0 := hE8.cellAt 0 (by simp)
  have q1 := hE8.cellAt 1 (by simp)
  have q2' := hE8.cellAt 2 (by simp)
  have r0 := hR8.cellAt 0 (by simp)
  have r1 := hR8.cellAt 1 (by simp)
  simp only [List.set_cons_zero, List.set_cons_succ, List.getElem_cons_zero, List.getElem_cons_succ] at t0 t1 t2 q0 q1 q2' r0 r1
  obtain ⟨HA', hn', hc', LA', m', lc', e0, d1, d2, d3, d4, P1, P2⟩ := HG.out
  injection e0 with e0
  simp only [Array.mk.injEq, List.cons.injEq, Value.slice.injEq, and_true] at e0
  obtain ⟨⟨rfl, rfl, rfl⟩, rfl, rfl, rfl⟩ := e0
  have HG2 := Lib.hid (papG_deed hE5 hE6 hE7 P1 P2 d1 d2 d3 d4 (.int .i64 k) (.int .i64 x) (.int .i64 mk))
  have HBF2 := Lib.hid (bel_setD (i := 2) (u := .int .i64 mk) (bel_setD (i := 1) (u := .int .i64 x) (bel_setD (i := 0) (u := .int .i64 k) HBF.out (show w.heap.size ≤ w.heap.size + 1 by omega)) (show w.heap.size ≤ w.heap.size + 1 by omega)) (show w.heap.size ≤ w.heap.size + 1 by omega))
  clear hE3 hE5 hE6 hE7 hE8 hR3 hR4 hR5 hR8 P1 P2 d1 d2 HG HBF
  go_wp2_with fail
  refine bodyPost_ret (v := .tuple #[.agg #[.slice HA hn hc, .slice LA m lc], .agg #[.int .i64 k, .int .i64 x, .int .i64 mk]]) (by simp [results, Try.results16, go_sem, *]) rfl ?_
  exact RTwo.mk ⟨hs, ls, k, x, mk, HG2.out, rfl, HBF2.out⟩
set_option maxHeartbeats 2000000 in
theorem drawPaperRun_any (A : Option Addr) (n c : Nat) (bs : List Int) (w : World) (h : Code w A n c bs) : Calls Try.prog 30 #[.slice A n c] w (PaperRunD w) := by
  have hal : Below w.heap.size w (w.alloc (.cells #[.slice none 0 0, .slice none 0 0] 26)) := (Below.refl _ _).alloc (Nat.le_refl _) _
  have hR0 := Blk.new w 26 [.slice none 0 0, .slice none 0 0]
  have h1 := codeP_below h hal
  have HAL := Lib.hid hal
  clear h hal
  go_enter Try.func30, Try.ntmps30
  go_wp2_with fail
  generalize hw0 : w.alloc (.cells #[.slice none 0 0, .slice none 0 0] 26) = w0 at *
  have hs0 : w.heap.size + 1 ≤ w0.heap.size := by rw [← hw0]; simp
  clear hw0
  refine (open_any A n c bs _ h1).mono ?_
  rintro e w1 ⟨v, rfl, g, rfl, hg, hr, hb⟩
  have hR1 := hR0.later hb
  have HB1 := Lib.hid (below_trans HAL.out hb)
  have hs1 := hb.size
  clear hR0 h1 hb
  go_wp2_with fail
  refine (l20Papers_any g 0 9 w1 hr (by omega) (by omega)).mono ?_
  rintro e w2 ⟨_, rfl, HA, hn, hc, LA, m, lc, hs, ls, q2, rfl, e1, e2, e3, e4, o1, o2, hq, hr2, hg2⟩
  have hgl := hr.lt
  have hR2 := hR1.only hg2 (by omega)
  have hB2 := below_only HB1.out hg2 (by omega)
  have hs2 : w.heap.size + 1 ≤ w2.heap.size := Nat.le_trans hs0 (Nat.le_trans hs1 hg2.size)
  have hal : Below w2.heap.size w2 ((w2.alloc (.cells #[.slice HA hn hc, .slice LA m lc] 26)).alloc (.cells #[] 41)) := ((Below.refl _ _).alloc (Nat.le_refl _) _).alloc (by simp) _
  have hP3 := (Blk.new w2 26 [.slice HA hn hc, .slice LA m lc]).alloc (.cells #[] 41)
  have hE3 := Blk.new (w2.alloc (.cells #[.slice HA hn hc, .slice LA m lc] 26)) 41 []
  simp only [World.size_alloc] at hE3
  have oE := own_of_blk (base := w2.heap.size + 1) (size := 3) (n := 0) (cs := []) hE3 (Nat.le_refl _) rfl (by decide)
  have hr3 := hr2.kept hal
  have D3 : RunDr w ((w2.alloc (.cells #[.slice HA hn hc, .slice LA m lc] 26)).alloc (.cells #[] 41)) w2.heap.size g 300 hn hc m lc HA LA hs ls :=
    ⟨hR2.later hal, hP3, own_later (own_base o1 (by omega)) hal, own_later (own_base o2 (by omega)) hal, e1, e2, ⟨q2, by omega, hr3⟩, below_trans hB2 hal, hs2, by omega, by have := hr2.lt; omega⟩
  clear hR1 hr HB1 hR2 hB2 hal hP3 hE3 hr2 hr3 o1 o2 e1 e2 hg2
  have HD3 := Lib.hid D3
  have HOE := Lib.hid oE
  clear D3 oE
  go_wp2_with fail
  generalize (w2.alloc (.cells #[.slice HA hn hc, .slice LA m lc] 26)).alloc (.cells #[] 41) = w3 at *
  generalize w2.heap.size = sb at *
  refine (HD3.out.pick16).mono ?_
  rintro e w4 ⟨k0, rfl, ⟨hk0, hk1⟩, d4, hg4⟩
  have hO4 := own_only HOE.out hg4 (own_ne HOE.out (by have := d4.hgl; omega))
  have HD4 := Lib.hid d4
  clear d4 hg4 HD3 HOE
  go_wp2_with fail
  go_loopw [6, 7] (fun v i wr => ∃ (k : Nat) (ds : List PaperDeedV) (A2 : Option Addr) (c2 : Nat) (Q : Nat), i = .int .i64 k ∧ k ≤ 16 ∧ ds.length + k ≤ 16 ∧ Q + 6 * k ≤ 1000 ∧ v = .slice A2 ds.length c2 ∧ wr.ownsRow (sb + 1) 41 3 (.slice A2 ds.length c2) ds.length (paperdeeds ds) ∧ RunDr w wr sb g Q hn hc m lc HA LA hs ls) (fun _ i _ => (intOf i).toNat)
  case atStart =>
    obtain ⟨k, rfl⟩ := Int.eq_ofNat_of_zero_le hk0
    exact ⟨k, [], _, 0, 301, rfl, by omega, by simp; omega, by omega, rfl, hO4, HD4.out⟩
  case round =>
    clear HD4 hO4 hk0 hk1
    obtain ⟨k, ds, A2, c2, Q, rfl, hk, hdk, hQ, rfl, hown, hD⟩ := hrel
    have HD := Lib.hid hD
    have hgs : g ≠ sb ∧ g < sb + 1 := ⟨by have := hD.hgl; have := hD.hsb; omega, by have := hD.hgl; have := hD.hsb; omega⟩
    by_cases hlt : 0 < k
    · have hO := Lib.hid hown
      have hdl : ds.length ≤ 8589934592 := by omega
      clear hD hown
      go_wp2_with fail
      refine (HD.out.deed (by omega)).mono ?_
      rintro e w5 ⟨x0, x1, x2, rfl, d5, hg5⟩
      have O5 := own_only hO.out hg5 (own_ne hO.out hgs.2)
      have HD5 := Lib.hid d5
      have hs5 : sb + 1 ≤ w5.heap.size := d5.blk.lt
      clear d5 hg5 hO HD
      go_wp2_with (at_builtin; refine append_new rfl (.tmp 19) (.tmp 22) 35 rfl 41 _ _ _ Try.underlying35 (Info.mk' paperdeed_info rfl (by decide) (by decide)) (sb + 1) w5 (.slice A2 ds.length c2) ds.length (paperdeeds ds) rfl O5 [.int .i64 x0, .int .i64 x1, .int .i64 x2] (by first | rfl | (simp; with_unfolding_all rfl)) rfl (by simp [Value.oneCell']) hdl hs5 ?_; intro v7 w7 hown7 hg7 hblk7)
      obtain ⟨A7, c7, rfl, _, _⟩ := own_slice hown7
      have HD7 := Lib.hid (HD5.out.grown O5 hg7)
      have hrw : paperdeeds ds ++ [Value.int .i64 x0, .int .i64 x1, .int .i64 x2] = paperdeeds (ds ++ [⟨x0, x1, x2⟩]) := by rw [show paperdeeds = cellsOf paperdeedC from rfl, cellsOf_append, cellsOf_one]; rfl
      rw [hrw] at hown7
      have HO7 := Lib.hid hown7
      have hl7 : (ds ++ [(⟨x0, x1, x2⟩ : PaperDeedV)]).length = ds.length + 1 := by simp
      have HL7 := Lib.hid hl7
      clear hg7 hblk7 hown7 O5 HD5 hrw hl7
      go_wp2_with fail
      go_roundw
      case rel => exact ⟨k - 1, ds ++ [⟨x0, x1, x2⟩], A7, c7, Q + 6, by go_num, by omega, by rw [HL7.out]; omega, by omega, by rw [HL7.out], by rw [HL7.out]; exact HO7.out, HD7.out⟩
      case measure => simp [intOf]; omega
    · obtain rfl : k = 0 := by omega
      have hR3 := hD.res
      have y0 := hD.blk.cellAt 0 (by simp)
      have y1 := hD.blk.cellAt 1 (by simp)
      have z0 := hR3.cellAt 0 (by simp)
      have z1 := hR3.cellAt 1 (by simp)
      have f0 := hR3.frozen 0
      have f1 := hR3.frozen 1
      have hR4 := hR3.set_ 0 (.slice HA hn hc)
      have hR5 := hR4.set_ 1 (.slice LA m lc)
      have u0 := hR4.cellAt 1 (by simp)
      have u1 := hR5.cellAt 0 (by simp)
      have u2 := hR5.cellAt 1 (by simp)
      simp only [List.set_cons_zero, List.set_cons_succ, List.getElem_cons_zero, List.getElem_cons_succ] at z0 z1 u0 u1 u2 y0 y1
      have HG := Lib.hid (papG_store (w := w) hR3 hD.hn hD.hm e3 e4 hD.hold hD.left)
      have HBF := Lib.hid (bel_setD (i := 1) (u := .slice LA m lc) (bel_setD (i := 0) (u := .slice HA hn hc) hD.bel (Nat.le_refl _)) (Nat.le_refl _))
      have HRD := Lib.hid (own_rd (own_setAt (i := 1) (u := .slice LA m lc) (own_setAt (i := 0) (u := .slice HA hn hc) hown hR3 (by decide)) hR4 (by decide)))
      have hd16 : ds.length ≤ 16 := by omega
      clear hD hR3 hR4 hR5 hown HD hlt hk hdk hQ
      go_wp2_with fail
      refine bodyPost_ret (v := .tuple #[.agg #[.slice HA hn hc, .slice LA m lc], .slice A2 ds.length c2]) (by simp [results, Try.results30, go_sem, *]) rfl ?_
      exact RTwo.mk ⟨hs, ls, ds, A2, ds.length, c2, HG.out, rfl, rfl, hd16, HRD.out, HBF.out⟩
end Go.Proofs.Ytpkbipjnobfcdaa
