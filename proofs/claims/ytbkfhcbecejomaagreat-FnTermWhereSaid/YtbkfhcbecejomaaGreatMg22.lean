/- A box that is drawn: its weight lies within bounds; else it is whatever it is. -/
import Derived.Test.YtbkfhcbecejomaaGreatMg1
import Derived.Test.YtbkfhcbecejomaaGreatMg21
namespace Go.Proofs.YtbkfhcbecejomaaGreat
open Go Go.ChangeShapes Go.WideShapes Go.ChangeAt Go.RowKit
set_option linter.unusedVariables false
set_option linter.unusedSimpArgs false
def BxBd (x : BoxV) : Prop := 0 ≤ x.f1 ∧ x.f1 ≤ 31
theorem bxBd_mk {a b c d : Int} {e : Bool} (h0 : 0 ≤ b) (h1 : b ≤ 31) : BxBd ⟨a, b, c, d, e⟩ := ⟨h0, h1⟩
theorem bx_alloc {w W : World} {g : Nat} (h : w.grownBy W (some g)) (o : Obj) : w.grownBy (W.alloc o) (some g) := only_trans h (only_below ((Below.refl _ _).alloc (Nat.le_refl _) _) g)
theorem bx_set {w U : World} {g : Nat} (h : w.grownBy U (some g)) {p : Addr} (hp : w.heap.size ≤ p.block) (u : Value) : w.grownBy (U.setCell p u) (some g) :=
  only_own h (row := some p.block) ⟨rfl, rfl, rfl, by simp [World.setCell], fun k _ hk => Below.heap_setCell U p u k (by intro e; exact hk (by rw [e]))⟩ (fun b' e => by injection e with e; omega)
theorem bx_rd {U : World} {g q : Nat} (h : Rdr U g q) {p : Addr} (hp : g < p.block) (u : Value) : Rdr (U.setCell p u) g q :=
  h.away (row := some p.block) ⟨rfl, rfl, rfl, by simp [World.setCell], fun k _ hk => Below.heap_setCell U p u k (by intro e; exact hk (by rw [e]))⟩ (fun b' e => by injection e with e; omega)
theorem bx_rdAlloc {U : World} {g q : Nat} (h : Rdr U g q) (o : Obj) : Rdr (U.alloc o) g q := h.kept ((Below.refl _ _).alloc (Nat.le_refl _) _)
/-- the result's block r, the box in the making in block s; the reader has gone on -/
structure BxAt (w W : World) (g q r s : Nat) (x : BoxV) : Prop where
  rd : Rdr W g q
  gr : w.grownBy W (some g)
  res : Blk W r 79 [.int .i64 0, .int .i64 0, .int .i64 0, .int .i64 0, .bool false]
  blk : Blk W s 79 (boxC x)
  lt : g < r
  lt2 : r < s
  own : w.heap.size ≤ r
section
variable {w W W' : World} {g q q' r s : Nat} {x : BoxV}
theorem BxAt.alloc (h : BxAt w W g q r s x) (o : Obj) : BxAt w (W.alloc o) g q r s x := ⟨bx_rdAlloc h.rd o, bx_alloc h.gr o, h.res.alloc o, h.blk.alloc o, h.lt, h.lt2, h.own⟩
theorem BxAt.pick (h : BxAt w W g q r s x) (hr : Rdr W' g q') (hg : W.grownBy W' (some g)) : BxAt w W' g q' r s x := ⟨hr, only_trans h.gr hg, h.res.only hg (by have := h.lt; omega), h.blk.only hg (by have := h.lt; have := h.lt2; omega), h.lt, h.lt2, h.own⟩
theorem BxAt.set_ (h : BxAt w W g q r s x) (j : Nat) (u : Value) (y : BoxV) (hy : (boxC x).set j u = boxC y) : BxAt w (W.setCell ⟨s, j, none⟩ u) g q r s y :=
  ⟨bx_rd h.rd (p := ⟨s, j, none⟩) (by show g < s; have := h.lt; have := h.lt2; omega) u, bx_set h.gr (p := ⟨s, j, none⟩) (by show w.heap.size ≤ s; have := h.own; have := h.lt2; omega) u, h.res.far (p := ⟨s, j, none⟩) (by show r ≠ s; have := h.lt2; omega) u, by rw [← hy]; exact h.blk.set_ j u, h.lt, h.lt2, h.own⟩
end
theorem two_at (a b v : Int) (h0 : 0 ≤ v) (h1 : v < 2) : v = 0 ∨ v = 1 := by omega
set_option maxRecDepth 100000 in
set_option maxHeartbeats 16000000 in
theorem l20Box_any (g q : Nat) (id n : Int) (w : World) (hr : Rdr w g q) (hq : q ≤ 900000000) (hn : n ≤ 1000000000) :
    Calls Tryz.prog 85 #[.pointer (some ⟨g, 0, none⟩), .int .i64 id, .int .i64 n] w (RVal fun v w' => ∃ (x : BoxV) (q' : Nat), v = .agg #[.int .i64 x.f0, .int .i64 x.f1, .int .i64 x.f2, .int .i64 x.f3, .bool x.f4] ∧ BxBd x ∧ q ≤ q' ∧ q' ≤ q + 8 ∧ Rdr w' g q' ∧ w.grownBy w' (some g)) := by
  have hal : Below w.heap.size w (w.alloc (.cells #[.int .i64 0, .int .i64 0, .int .i64 0, .int .i64 0, .bool false] 79)) := (Below.refl _ _).alloc (Nat.le_refl _) _
  have hR0 := Blk.new w 79 [.int .i64 0, .int .i64 0, .int .i64 0, .int .i64 0, .bool false]
  have hr0 := hr.kept hal
  have hgw0 : w.grownBy (w.alloc (.cells #[.int .i64 0, .int .i64 0, .int .i64 0, .int .i64 0, .bool false] 79)) (some g) := only_below hal g
  have hgr : g < w.heap.size := hr.lt
  go_enter Tryz.func85, Tryz.ntmps85
  go_wp2_with fail
  refine (pick_any g q 30 _ hr0 (by omega) (by omega)).mono ?_
  rintro e w1 ⟨v1, rfl, ⟨hv10, hv11, _⟩, hr1, hg1⟩
  have hv11 := hv11 (by omega)
  have hR1 := hR0.only hg1 (by omega)
  have hgw1 := only_trans hgw0 hg1
  clear hR0 hr0 hgw0 hg1 hal hr
  go_wp2_with fail
  refine (pick_any g (q + 1) 7 _ hr1 (by omega) (by omega)).mono ?_
  rintro e w2 ⟨v2, rfl, _, hr2, hg2⟩
  have hR2 := hR1.only hg2 (by omega)
  have hgw2 := only_trans hgw1 hg2
  clear hR1 hr1 hgw1 hg2
  go_wp2_with fail
  refine (pick_any g (q + 1 + 1) 4 _ hr2 (by omega) (by omega)).mono ?_
  rintro e w3 ⟨v3, rfl, _, hr3, hg3⟩
  have hR3 := hR2.only hg3 (by omega)
  have hgw3 := only_trans hgw2 hg3
  have hl3 := hR3.lt
  have e1 : IntKind.i64.wrap (1 + v1) = 1 + v1 := IntWalk.i64_in _ (by omega)
  clear hR2 hr2 hgw2 hg3
  have D4 : BxAt w (w3.alloc (.cells #[.int .i64 id, .int .i64 (1 + v1), .int .i64 0, .int .i64 v2, .bool (v3 == 0)] 79)) g (q + 3) w.heap.size w3.heap.size ⟨id, 1 + v1, 0, v2, v3 == 0⟩ := ⟨bx_rdAlloc hr3 _, bx_alloc hgw3 _, hR3.alloc _, Blk.new _ _ _, hgr, hl3, Nat.le_refl _⟩
  have HD4 := Lib.hid D4
  clear D4 hr3 hgw3 hR3
  go_wp2_with fail
  generalize hb4 : (v3 == 0) = b4 at *
  clear hb4
  generalize w3.alloc (.cells #[.int .i64 id, .int .i64 (1 + v1), .int .i64 0, .int .i64 v2, .bool b4] 79) = w4 at *
  generalize hrr : w.heap.size = r at *
  generalize w3.heap.size = s at *
  have HRR := Lib.hid hrr
  clear hrr
  refine (pick_any g (q + 3) 3 _ HD4.out.rd (by omega) (by omega)).mono ?_
  rintro e w5 ⟨v5, rfl, _, hr5, hg5⟩
  have HD5 := Lib.hid (HD4.out.pick hr5 hg5)
  clear HD4 hr5 hg5
  by_cases k5 : v5 = 0
  · have t5 : (v5 == 0) = true := by simp [k5]
    clear k5
    go_wp2_with fail
    refine (pick_any g (q + 3 + 1) 4 _ HD5.out.rd (by omega) (by omega)).mono ?_
    rintro e w6 ⟨v6, rfl, _, hr6, hg6⟩
    have HD6 := Lib.hid (HD5.out.pick hr6 hg6)
    clear HD5 hr6 hg6
    have c0 := (HD6.out.blk).cellAt 0 (by simp [boxC])
    have f0 := (HD6.out.blk).frozen 0
    have r0 := (HD6.out.res).cellAt 0 (by simp)
    have e0 := (HD6.out.res).frozen 0
    have c1 := (HD6.out.blk).cellAt 1 (by simp [boxC])
    have f1 := (HD6.out.blk).frozen 1
    have r1 := (HD6.out.res).cellAt 1 (by simp)
    have e1 := (HD6.out.res).frozen 1
    have c2 := (HD6.out.blk).cellAt 2 (by simp [boxC])
    have f2 := (HD6.out.blk).frozen 2
    have r2 := (HD6.out.res).cellAt 2 (by simp)
    have e2 := (HD6.out.res).frozen 2
    have c3 := (HD6.out.blk).cellAt 3 (by simp [boxC])
    have f3 := (HD6.out.blk).frozen 3
    have r3 := (HD6.out.res).cellAt 3 (by simp)
    have e3 := (HD6.out.res).frozen 3
    have c4 := (HD6.out.blk).cellAt 4 (by simp [boxC])
    have f4 := (HD6.out.blk).frozen 4
    have r4 := (HD6.out.res).cellAt 4 (by simp)
    have e4 := (HD6.out.res).frozen 4
    simp only [boxC, List.getElem_cons_zero, List.getElem_cons_succ] at c0 r0 c1 r1 c2 r2 c3 r3 c4 r4
    have HD7 := Lib.hid (HD6.out.set_ 2 (.int .i64 v6) ⟨id, 1 + v1, v6, v2, b4⟩ rfl)
    clear HD6
    go_wp2_with fail
    clear c0 f0 r0 e0 c1 f1 r1 e1 c2 f2 r2 e2 c3 f3 r3 e3 c4 f4 r4 e4
    generalize w6.setCell ⟨s, 2, none⟩ (.int .i64 v6) = w7 at *

    refine (odd_any g (q + 3 + 1 + 1) n _ HD7.out.rd (by omega) (by omega)).mono ?_
    rintro e w8 ⟨bo, rfl, q8, hq8, hq8', hr8, hg8⟩
    have HD8 := Lib.hid (HD7.out.pick hr8 hg8)
    clear HD7 hr8 hg8
    cases bo with
    | false =>
      have c0 := (HD8.out.blk).cellAt 0 (by simp [boxC])
      have f0 := (HD8.out.blk).frozen 0
      have r0 := (HD8.out.res).cellAt 0 (by simp)
      have e0 := (HD8.out.res).frozen 0
      have c1 := (HD8.out.blk).cellAt 1 (by simp [boxC])
      have f1 := (HD8.out.blk).frozen 1
      have r1 := (HD8.out.res).cellAt 1 (by simp)
      have e1 := (HD8.out.res).frozen 1
      have c2 := (HD8.out.blk).cellAt 2 (by simp [boxC])
      have f2 := (HD8.out.blk).frozen 2
      have r2 := (HD8.out.res).cellAt 2 (by simp)
      have e2 := (HD8.out.res).frozen 2
      have c3 := (HD8.out.blk).cellAt 3 (by simp [boxC])
      have f3 := (HD8.out.blk).frozen 3
      have r3 := (HD8.out.res).cellAt 3 (by simp)
      have e3 := (HD8.out.res).frozen 3
      have c4 := (HD8.out.blk).cellAt 4 (by simp [boxC])
      have f4 := (HD8.out.blk).frozen 4
      have r4 := (HD8.out.res).cellAt 4 (by simp)
      have e4 := (HD8.out.res).frozen 4
      simp only [boxC, List.getElem_cons_zero, List.getElem_cons_succ] at c0 r0 c1 r1 c2 r2 c3 r3 c4 r4

      have hE := ((((((HD8.out.res).set_ 0 (.int .i64 id)).set_ 1 (.int .i64 (1 + v1))).set_ 2 (.int .i64 v6)).set_ 3 (.int .i64 v2)).set_ 4 (.bool b4))
      simp only [List.set_cons_zero, List.set_cons_succ] at hE
      have h0 := hE.cellAt 0 (by simp)
      have h1 := hE.cellAt 1 (by simp)
      have h2 := hE.cellAt 2 (by simp)
      have h3 := hE.cellAt 3 (by simp)
      have h4 := hE.cellAt 4 (by simp)
      simp only [List.getElem_cons_zero, List.getElem_cons_succ] at h0 h1 h2 h3 h4
      have HE := Lib.hid (And.intro h0 (And.intro h1 (And.intro h2 (And.intro h3 h4))))
      have HRD := Lib.hid (bx_rd (bx_rd (bx_rd (bx_rd (bx_rd (HD8.out.rd) (p := ⟨r, 0, none⟩) (by show g < r; exact HD8.out.lt) (.int .i64 id)) (p := ⟨r, 1, none⟩) (by show g < r; exact HD8.out.lt) (.int .i64 (1 + v1))) (p := ⟨r, 2, none⟩) (by show g < r; exact HD8.out.lt) (.int .i64 v6)) (p := ⟨r, 3, none⟩) (by show g < r; exact HD8.out.lt) (.int .i64 v2)) (p := ⟨r, 4, none⟩) (by show g < r; exact HD8.out.lt) (.bool b4))
      have HGR := Lib.hid (bx_set (bx_set (bx_set (bx_set (bx_set (HD8.out.gr) (p := ⟨r, 0, none⟩) (by show w.heap.size ≤ r; exact HD8.out.own) (.int .i64 id)) (p := ⟨r, 1, none⟩) (by show w.heap.size ≤ r; exact HD8.out.own) (.int .i64 (1 + v1))) (p := ⟨r, 2, none⟩) (by show w.heap.size ≤ r; exact HD8.out.own) (.int .i64 v6)) (p := ⟨r, 3, none⟩) (by show w.heap.size ≤ r; exact HD8.out.own) (.int .i64 v2)) (p := ⟨r, 4, none⟩) (by show w.heap.size ≤ r; exact HD8.out.own) (.bool b4))
      clear hE h0 h1 h2 h3 h4
      go_wp2_with fail
      obtain ⟨h0, h1, h2, h3, h4⟩ := HE.out
      refine bodyPost_ret (v := .agg #[.int .i64 id, .int .i64 (1 + v1), .int .i64 v6, .int .i64 v2, .bool b4]) (by simp [results, Tryz.results85, go_sem, h0, h1, h2, h3, h4]) rfl ?_
      exact RVal.mk ⟨⟨id, (1 + v1), v6, v2, b4⟩, _, rfl, bxBd_mk (by omega) (by omega), by omega, by omega, HRD.out, HGR.out⟩
    | true =>
      go_wp2_with fail
      refine (pick_any g q8 4 _ HD8.out.rd (by omega) (by omega)).mono ?_
      rintro e w9 ⟨v9, rfl, _, hr9, hg9⟩
      have HD9 := Lib.hid (HD8.out.pick hr9 hg9)
      clear HD8 hr9 hg9
      by_cases k9 : v9 = 0
      · have t9 : (v9 == 0) = true := by simp [k9]
        clear k9
        have HDa := Lib.hid (HD9.out.alloc (.cells #[.int .i64 (0), .int .i64 1000] 3))
        have hZ0 := Blk.new w9 3 [.int .i64 (0), .int .i64 1000]
        have hgz : g < w9.heap.size := HD9.out.rd.lt
        clear HD9
        go_wp2_with fail
        refine (pick_any g (q8 + 1) 2 _ HDa.out.rd (by omega) (by omega)).mono ?_
        rintro e wb ⟨vb, rfl, ⟨hvb0, hvb1, _⟩, hrb, hgb⟩
        have hvb1 := hvb1 (by omega)
        have HDb := Lib.hid (HDa.out.pick hrb hgb)
        have hZ := hZ0.only hgb (by omega)
        clear HDa hZ0 hrb hgb
        obtain rfl | rfl : vb = 0 ∨ vb = 1 := by omega
        · have g0 := hZ.cellAt 0 (by simp)
          simp only [List.getElem_cons_zero, List.getElem_cons_succ] at g0
          have c0 := (HDb.out.blk).cellAt 0 (by simp [boxC])
          have f0 := (HDb.out.blk).frozen 0
          have r0 := (HDb.out.res).cellAt 0 (by simp)
          have e0 := (HDb.out.res).frozen 0
          have c1 := (HDb.out.blk).cellAt 1 (by simp [boxC])
          have f1 := (HDb.out.blk).frozen 1
          have r1 := (HDb.out.res).cellAt 1 (by simp)
          have e1 := (HDb.out.res).frozen 1
          have c2 := (HDb.out.blk).cellAt 2 (by simp [boxC])
          have f2 := (HDb.out.blk).frozen 2
          have r2 := (HDb.out.res).cellAt 2 (by simp)
          have e2 := (HDb.out.res).frozen 2
          have c3 := (HDb.out.blk).cellAt 3 (by simp [boxC])
          have f3 := (HDb.out.blk).frozen 3
          have r3 := (HDb.out.res).cellAt 3 (by simp)
          have e3 := (HDb.out.res).frozen 3
          have c4 := (HDb.out.blk).cellAt 4 (by simp [boxC])
          have f4 := (HDb.out.blk).frozen 4
          have r4 := (HDb.out.res).cellAt 4 (by simp)
          have e4 := (HDb.out.res).frozen 4
          simp only [boxC, List.getElem_cons_zero, List.getElem_cons_succ] at c0 r0 c1 r1 c2 r2 c3 r3 c4 r4
          have HDx := Lib.hid (HDb.out.set_ 0 (.int .i64 (0)) ⟨(0), (1 + v1), v6, v2, b4⟩ rfl)
          clear HDb hZ

          have hE := ((((((HDx.out.res).set_ 0 (.int .i64 (0))).set_ 1 (.int .i64 (1 + v1))).set_ 2 (.int .i64 v6)).set_ 3 (.int .i64 v2)).set_ 4 (.bool b4))
          simp only [List.set_cons_zero, List.set_cons_succ] at hE
          have h0 := hE.cellAt 0 (by simp)
          have h1 := hE.cellAt 1 (by simp)
          have h2 := hE.cellAt 2 (by simp)
          have h3 := hE.cellAt 3 (by simp)
          have h4 := hE.cellAt 4 (by simp)
          simp only [List.getElem_cons_zero, List.getElem_cons_succ] at h0 h1 h2 h3 h4
          have HE := Lib.hid (And.intro h0 (And.intro h1 (And.intro h2 (And.intro h3 h4))))
          have HRD := Lib.hid (bx_rd (bx_rd (bx_rd (bx_rd (bx_rd (HDx.out.rd) (p := ⟨r, 0, none⟩) (by show g < r; exact HDx.out.lt) (.int .i64 (0))) (p := ⟨r, 1, none⟩) (by show g < r; exact HDx.out.lt) (.int .i64 (1 + v1))) (p := ⟨r, 2, none⟩) (by show g < r; exact HDx.out.lt) (.int .i64 v6)) (p := ⟨r, 3, none⟩) (by show g < r; exact HDx.out.lt) (.int .i64 v2)) (p := ⟨r, 4, none⟩) (by show g < r; exact HDx.out.lt) (.bool b4))
          have HGR := Lib.hid (bx_set (bx_set (bx_set (bx_set (bx_set (HDx.out.gr) (p := ⟨r, 0, none⟩) (by show w.heap.size ≤ r; exact HDx.out.own) (.int .i64 (0))) (p := ⟨r, 1, none⟩) (by show w.heap.size ≤ r; exact HDx.out.own) (.int .i64 (1 + v1))) (p := ⟨r, 2, none⟩) (by show w.heap.size ≤ r; exact HDx.out.own) (.int .i64 v6)) (p := ⟨r, 3, none⟩) (by show w.heap.size ≤ r; exact HDx.out.own) (.int .i64 v2)) (p := ⟨r, 4, none⟩) (by show w.heap.size ≤ r; exact HDx.out.own) (.bool b4))
          clear hE h0 h1 h2 h3 h4
          go_wp2_with fail
          obtain ⟨h0, h1, h2, h3, h4⟩ := HE.out
          refine bodyPost_ret (v := .agg #[.int .i64 (0), .int .i64 (1 + v1), .int .i64 v6, .int .i64 v2, .bool b4]) (by simp [results, Tryz.results85, go_sem, h0, h1, h2, h3, h4]) rfl ?_
          exact RVal.mk ⟨⟨(0), (1 + v1), v6, v2, b4⟩, _, rfl, bxBd_mk (by omega) (by omega), by omega, by omega, HRD.out, HGR.out⟩
        · have g0 := hZ.cellAt 1 (by simp)
          simp only [List.getElem_cons_zero, List.getElem_cons_succ] at g0
          have c0 := (HDb.out.blk).cellAt 0 (by simp [boxC])
          have f0 := (HDb.out.blk).frozen 0
          have r0 := (HDb.out.res).cellAt 0 (by simp)
          have e0 := (HDb.out.res).frozen 0
          have c1 := (HDb.out.blk).cellAt 1 (by simp [boxC])
          have f1 := (HDb.out.blk).frozen 1
          have r1 := (HDb.out.res).cellAt 1 (by simp)
          have e1 := (HDb.out.res).frozen 1
          have c2 := (HDb.out.blk).cellAt 2 (by simp [boxC])
          have f2 := (HDb.out.blk).frozen 2
          have r2 := (HDb.out.res).cellAt 2 (by simp)
          have e2 := (HDb.out.res).frozen 2
          have c3 := (HDb.out.blk).cellAt 3 (by simp [boxC])
          have f3 := (HDb.out.blk).frozen 3
          have r3 := (HDb.out.res).cellAt 3 (by simp)
          have e3 := (HDb.out.res).frozen 3
          have c4 := (HDb.out.blk).cellAt 4 (by simp [boxC])
          have f4 := (HDb.out.blk).frozen 4
          have r4 := (HDb.out.res).cellAt 4 (by simp)
          have e4 := (HDb.out.res).frozen 4
          simp only [boxC, List.getElem_cons_zero, List.getElem_cons_succ] at c0 r0 c1 r1 c2 r2 c3 r3 c4 r4
          have HDx := Lib.hid (HDb.out.set_ 0 (.int .i64 (1000)) ⟨(1000), (1 + v1), v6, v2, b4⟩ rfl)
          clear HDb hZ

          have hE := ((((((HDx.out.res).set_ 0 (.int .i64 (1000))).set_ 1 (.int .i64 (1 + v1))).set_ 2 (.int .i64 v6)).set_ 3 (.int .i64 v2)).set_ 4 (.bool b4))
          simp only [List.set_cons_zero, List.set_cons_succ] at hE
          have h0 := hE.cellAt 0 (by simp)
          have h1 := hE.cellAt 1 (by simp)
          have h2 := hE.cellAt 2 (by simp)
          have h3 := hE.cellAt 3 (by simp)
          have h4 := hE.cellAt 4 (by simp)
          simp only [List.getElem_cons_zero, List.getElem_cons_succ] at h0 h1 h2 h3 h4
          have HE := Lib.hid (And.intro h0 (And.intro h1 (And.intro h2 (And.intro h3 h4))))
          have HRD := Lib.hid (bx_rd (bx_rd (bx_rd (bx_rd (bx_rd (HDx.out.rd) (p := ⟨r, 0, none⟩) (by show g < r; exact HDx.out.lt) (.int .i64 (1000))) (p := ⟨r, 1, none⟩) (by show g < r; exact HDx.out.lt) (.int .i64 (1 + v1))) (p := ⟨r, 2, none⟩) (by show g < r; exact HDx.out.lt) (.int .i64 v6)) (p := ⟨r, 3, none⟩) (by show g < r; exact HDx.out.lt) (.int .i64 v2)) (p := ⟨r, 4, none⟩) (by show g < r; exact HDx.out.lt) (.bool b4))
          have HGR := Lib.hid (bx_set (bx_set (bx_set (bx_set (bx_set (HDx.out.gr) (p := ⟨r, 0, none⟩) (by show w.heap.size ≤ r; exact HDx.out.own) (.int .i64 (1000))) (p := ⟨r, 1, none⟩) (by show w.heap.size ≤ r; exact HDx.out.own) (.int .i64 (1 + v1))) (p := ⟨r, 2, none⟩) (by show w.heap.size ≤ r; exact HDx.out.own) (.int .i64 v6)) (p := ⟨r, 3, none⟩) (by show w.heap.size ≤ r; exact HDx.out.own) (.int .i64 v2)) (p := ⟨r, 4, none⟩) (by show w.heap.size ≤ r; exact HDx.out.own) (.bool b4))
          clear hE h0 h1 h2 h3 h4
          go_wp2_with fail
          obtain ⟨h0, h1, h2, h3, h4⟩ := HE.out
          refine bodyPost_ret (v := .agg #[.int .i64 (1000), .int .i64 (1 + v1), .int .i64 v6, .int .i64 v2, .bool b4]) (by simp [results, Tryz.results85, go_sem, h0, h1, h2, h3, h4]) rfl ?_
          exact RVal.mk ⟨⟨(1000), (1 + v1), v6, v2, b4⟩, _, rfl, bxBd_mk (by omega) (by omega), by omega, by omega, HRD.out, HGR.out⟩
      · have t9 : (v9 == 0) = false := by simpa using k9
        by_cases k10 : v9 = 1
        · have t10 : (v9 == 1) = true := by simp [k10]
          clear k9 k10
          have HDa := Lib.hid (HD9.out.alloc (.cells #[.int .i64 (0), .int .i64 31] 3))
          have hZ0 := Blk.new w9 3 [.int .i64 (0), .int .i64 31]
          have hgz : g < w9.heap.size := HD9.out.rd.lt
          clear HD9
          go_wp2_with fail
          refine (pick_any g (q8 + 1) 2 _ HDa.out.rd (by omega) (by omega)).mono ?_
          rintro e wb ⟨vb, rfl, ⟨hvb0, hvb1, _⟩, hrb, hgb⟩
          have hvb1 := hvb1 (by omega)
          have HDb := Lib.hid (HDa.out.pick hrb hgb)
          have hZ := hZ0.only hgb (by omega)
          clear HDa hZ0 hrb hgb
          obtain rfl | rfl : vb = 0 ∨ vb = 1 := by omega
          · have g0 := hZ.cellAt 0 (by simp)
            simp only [List.getElem_cons_zero, List.getElem_cons_succ] at g0
            have c0 := (HDb.out.blk).cellAt 0 (by simp [boxC])
            have f0 := (HDb.out.blk).frozen 0
            have r0 := (HDb.out.res).cellAt 0 (by simp)
            have e0 := (HDb.out.res).frozen 0
            have c1 := (HDb.out.blk).cellAt 1 (by simp [boxC])
            have f1 := (HDb.out.blk).frozen 1
            have r1 := (HDb.out.res).cellAt 1 (by simp)
            have e1 := (HDb.out.res).frozen 1
            have c2 := (HDb.out.blk).cellAt 2 (by simp [boxC])
            have f2 := (HDb.out.blk).frozen 2
            have r2 := (HDb.out.res).cellAt 2 (by simp)
            have e2 := (HDb.out.res).frozen 2
            have c3 := (HDb.out.blk).cellAt 3 (by simp [boxC])
            have f3 := (HDb.out.blk).frozen 3
            have r3 := (HDb.out.res).cellAt 3 (by simp)
            have e3 := (HDb.out.res).frozen 3
            have c4 := (HDb.out.blk).cellAt 4 (by simp [boxC])
            have f4 := (HDb.out.blk).frozen 4
            have r4 := (HDb.out.res).cellAt 4 (by simp)
            have e4 := (HDb.out.res).frozen 4
            simp only [boxC, List.getElem_cons_zero, List.getElem_cons_succ] at c0 r0 c1 r1 c2 r2 c3 r3 c4 r4
            have HDx := Lib.hid (HDb.out.set_ 1 (.int .i64 (0)) ⟨id, (0), v6, v2, b4⟩ rfl)
            clear HDb hZ

            have hE := ((((((HDx.out.res).set_ 0 (.int .i64 id)).set_ 1 (.int .i64 (0))).set_ 2 (.int .i64 v6)).set_ 3 (.int .i64 v2)).set_ 4 (.bool b4))
            simp only [List.set_cons_zero, List.set_cons_succ] at hE
            have h0 := hE.cellAt 0 (by simp)
            have h1 := hE.cellAt 1 (by simp)
            have h2 := hE.cellAt 2 (by simp)
            have h3 := hE.cellAt 3 (by simp)
            have h4 := hE.cellAt 4 (by simp)
            simp only [List.getElem_cons_zero, List.getElem_cons_succ] at h0 h1 h2 h3 h4
            have HE := Lib.hid (And.intro h0 (And.intro h1 (And.intro h2 (And.intro h3 h4))))
            have HRD := Lib.hid (bx_rd (bx_rd (bx_rd (bx_rd (bx_rd (HDx.out.rd) (p := ⟨r, 0, none⟩) (by show g < r; exact HDx.out.lt) (.int .i64 id)) (p := ⟨r, 1, none⟩) (by show g < r; exact HDx.out.lt) (.int .i64 (0))) (p := ⟨r, 2, none⟩) (by show g < r; exact HDx.out.lt) (.int .i64 v6)) (p := ⟨r, 3, none⟩) (by show g < r; exact HDx.out.lt) (.int .i64 v2)) (p := ⟨r, 4, none⟩) (by show g < r; exact HDx.out.lt) (.bool b4))
            have HGR := Lib.hid (bx_set (bx_set (bx_set (bx_set (bx_set (HDx.out.gr) (p := ⟨r, 0, none⟩) (by show w.heap.size ≤ r; exact HDx.out.own) (.int .i64 id)) (p := ⟨r, 1, none⟩) (by show w.heap.size ≤ r; exact HDx.out.own) (.int .i64 (0))) (p := ⟨r, 2, none⟩) (by show w.heap.size ≤ r; exact HDx.out.own) (.int .i64 v6)) (p := ⟨r, 3, none⟩) (by show w.heap.size ≤ r; exact HDx.out.own) (.int .i64 v2)) (p := ⟨r, 4, none⟩) (by show w.heap.size ≤ r; exact HDx.out.own) (.bool b4))
            clear hE h0 h1 h2 h3 h4
            go_wp2_with fail
            obtain ⟨h0, h1, h2, h3, h4⟩ := HE.out
            refine bodyPost_ret (v := .agg #[.int .i64 id, .int .i64 (0), .int .i64 v6, .int .i64 v2, .bool b4]) (by simp [results, Tryz.results85, go_sem, h0, h1, h2, h3, h4]) rfl ?_
            exact RVal.mk ⟨⟨id, (0), v6, v2, b4⟩, _, rfl, bxBd_mk (by omega) (by omega), by omega, by omega, HRD.out, HGR.out⟩
          · have g0 := hZ.cellAt 1 (by simp)
            simp only [List.getElem_cons_zero, List.getElem_cons_succ] at g0
            have c0 := (HDb.out.blk).cellAt 0 (by simp [boxC])
            have f0 := (HDb.out.blk).frozen 0
            have r0 := (HDb.out.res).cellAt 0 (by simp)
            have e0 := (HDb.out.res).frozen 0
            have c1 := (HDb.out.blk).cellAt 1 (by simp [boxC])
            have f1 := (HDb.out.blk).frozen 1
            have r1 := (HDb.out.res).cellAt 1 (by simp)
            have e1 := (HDb.out.res).frozen 1
            have c2 := (HDb.out.blk).cellAt 2 (by simp [boxC])
            have f2 := (HDb.out.blk).frozen 2
            have r2 := (HDb.out.res).cellAt 2 (by simp)
            have e2 := (HDb.out.res).frozen 2
            have c3 := (HDb.out.blk).cellAt 3 (by simp [boxC])
            have f3 := (HDb.out.blk).frozen 3
            have r3 := (HDb.out.res).cellAt 3 (by simp)
            have e3 := (HDb.out.res).frozen 3
            have c4 := (HDb.out.blk).cellAt 4 (by simp [boxC])
            have f4 := (HDb.out.blk).frozen 4
            have r4 := (HDb.out.res).cellAt 4 (by simp)
            have e4 := (HDb.out.res).frozen 4
            simp only [boxC, List.getElem_cons_zero, List.getElem_cons_succ] at c0 r0 c1 r1 c2 r2 c3 r3 c4 r4
            have HDx := Lib.hid (HDb.out.set_ 1 (.int .i64 (31)) ⟨id, (31), v6, v2, b4⟩ rfl)
            clear HDb hZ

            have hE := ((((((HDx.out.res).set_ 0 (.int .i64 id)).set_ 1 (.int .i64 (31))).set_ 2 (.int .i64 v6)).set_ 3 (.int .i64 v2)).set_ 4 (.bool b4))
            simp only [List.set_cons_zero, List.set_cons_succ] at hE
            have h0 := hE.cellAt 0 (by simp)
            have h1 := hE.cellAt 1 (by simp)
            have h2 := hE.cellAt 2 (by simp)
            have h3 := hE.cellAt 3 (by simp)
            have h4 := hE.cellAt 4 (by simp)
            simp only [List.getElem_cons_zero, List.getElem_cons_succ] at h0 h1 h2 h3 h4
            have HE := Lib.hid (And.intro h0 (And.intro h1 (And.intro h2 (And.intro h3 h4))))
            have HRD := Lib.hid (bx_rd (bx_rd (bx_rd (bx_rd (bx_rd (HDx.out.rd) (p := ⟨r, 0, none⟩) (by show g < r; exact HDx.out.lt) (.int .i64 id)) (p := ⟨r, 1, none⟩) (by show g < r; exact HDx.out.lt) (.int .i64 (31))) (p := ⟨r, 2, none⟩) (by show g < r; exact HDx.out.lt) (.int .i64 v6)) (p := ⟨r, 3, none⟩) (by show g < r; exact HDx.out.lt) (.int .i64 v2)) (p := ⟨r, 4, none⟩) (by show g < r; exact HDx.out.lt) (.bool b4))
            have HGR := Lib.hid (bx_set (bx_set (bx_set (bx_set (bx_set (HDx.out.gr) (p := ⟨r, 0, none⟩) (by show w.heap.size ≤ r; exact HDx.out.own) (.int .i64 id)) (p := ⟨r, 1, none⟩) (by show w.heap.size ≤ r; exact HDx.out.own) (.int .i64 (31))) (p := ⟨r, 2, none⟩) (by show w.heap.size ≤ r; exact HDx.out.own) (.int .i64 v6)) (p := ⟨r, 3, none⟩) (by show w.heap.size ≤ r; exact HDx.out.own) (.int .i64 v2)) (p := ⟨r, 4, none⟩) (by show w.heap.size ≤ r; exact HDx.out.own) (.bool b4))
            clear hE h0 h1 h2 h3 h4
            go_wp2_with fail
            obtain ⟨h0, h1, h2, h3, h4⟩ := HE.out
            refine bodyPost_ret (v := .agg #[.int .i64 id, .int .i64 (31), .int .i64 v6, .int .i64 v2, .bool b4]) (by simp [results, Tryz.results85, go_sem, h0, h1, h2, h3, h4]) rfl ?_
            exact RVal.mk ⟨⟨id, (31), v6, v2, b4⟩, _, rfl, bxBd_mk (by omega) (by omega), by omega, by omega, HRD.out, HGR.out⟩
        · have t10 : (v9 == 1) = false := by simpa using k10
          by_cases k11 : v9 = 2
          · have t11 : (v9 == 2) = true := by simp [k11]
            clear k9 k10 k11
            have HDa := Lib.hid (HD9.out.alloc (.cells #[.int .i64 (-1), .int .i64 4] 3))
            have hZ0 := Blk.new w9 3 [.int .i64 (-1), .int .i64 4]
            have hgz : g < w9.heap.size := HD9.out.rd.lt
            clear HD9
            go_wp2_with fail
            refine (pick_any g (q8 + 1) 2 _ HDa.out.rd (by omega) (by omega)).mono ?_
            rintro e wb ⟨vb, rfl, ⟨hvb0, hvb1, _⟩, hrb, hgb⟩
            have hvb1 := hvb1 (by omega)
            have HDb := Lib.hid (HDa.out.pick hrb hgb)
            have hZ := hZ0.only hgb (by omega)
            clear HDa hZ0 hrb hgb
            obtain rfl | rfl : vb = 0 ∨ vb = 1 := by omega
            · have g0 := hZ.cellAt 0 (by simp)
              simp only [List.getElem_cons_zero, List.getElem_cons_succ] at g0
              have c0 := (HDb.out.blk).cellAt 0 (by simp [boxC])
              have f0 := (HDb.out.blk).frozen 0
              have r0 := (HDb.out.res).cellAt 0 (by simp)
              have e0 := (HDb.out.res).frozen 0
              have c1 := (HDb.out.blk).cellAt 1 (by simp [boxC])
              have f1 := (HDb.out.blk).frozen 1
              have r1 := (HDb.out.res).cellAt 1 (by simp)
              have e1 := (HDb.out.res).frozen 1
              have c2 := (HDb.out.blk).cellAt 2 (by simp [boxC])
              have f2 := (HDb.out.blk).frozen 2
              have r2 := (HDb.out.res).cellAt 2 (by simp)
              have e2 := (HDb.out.res).frozen 2
              have c3 := (HDb.out.blk).cellAt 3 (by simp [boxC])
              have f3 := (HDb.out.blk).frozen 3
              have r3 := (HDb.out.res).cellAt 3 (by simp)
              have e3 := (HDb.out.res).frozen 3
              have c4 := (HDb.out.blk).cellAt 4 (by simp [boxC])
              have f4 := (HDb.out.blk).frozen 4
              have r4 := (HDb.out.res).cellAt 4 (by simp)
              have e4 := (HDb.out.res).frozen 4
              simp only [boxC, List.getElem_cons_zero, List.getElem_cons_succ] at c0 r0 c1 r1 c2 r2 c3 r3 c4 r4
              have HDx := Lib.hid (HDb.out.set_ 2 (.int .i64 (-1)) ⟨id, (1 + v1), (-1), v2, b4⟩ rfl)
              clear HDb hZ

              have hE := ((((((HDx.out.res).set_ 0 (.int .i64 id)).set_ 1 (.int .i64 (1 + v1))).set_ 2 (.int .i64 (-1))).set_ 3 (.int .i64 v2)).set_ 4 (.bool b4))
              simp only [List.set_cons_zero, List.set_cons_succ] at hE
              have h0 := hE.cellAt 0 (by simp)
              have h1 := hE.cellAt 1 (by simp)
              have h2 := hE.cellAt 2 (by simp)
              have h3 := hE.cellAt 3 (by simp)
              have h4 := hE.cellAt 4 (by simp)
              simp only [List.getElem_cons_zero, List.getElem_cons_succ] at h0 h1 h2 h3 h4
              have HE := Lib.hid (And.intro h0 (And.intro h1 (And.intro h2 (And.intro h3 h4))))
              have HRD := Lib.hid (bx_rd (bx_rd (bx_rd (bx_rd (bx_rd (HDx.out.rd) (p := ⟨r, 0, none⟩) (by show g < r; exact HDx.out.lt) (.int .i64 id)) (p := ⟨r, 1, none⟩) (by show g < r; exact HDx.out.lt) (.int .i64 (1 + v1))) (p := ⟨r, 2, none⟩) (by show g < r; exact HDx.out.lt) (.int .i64 (-1))) (p := ⟨r, 3, none⟩) (by show g < r; exact HDx.out.lt) (.int .i64 v2)) (p := ⟨r, 4, none⟩) (by show g < r; exact HDx.out.lt) (.bool b4))
              have HGR := Lib.hid (bx_set (bx_set (bx_set (bx_set (bx_set (HDx.out.gr) (p := ⟨r, 0, none⟩) (by show w.heap.size ≤ r; exact HDx.out.own) (.int .i64 id)) (p := ⟨r, 1, none⟩) (by show w.heap.size ≤ r; exact HDx.out.own) (.int .i64 (1 + v1))) (p := ⟨r, 2, none⟩) (by show w.heap.size ≤ r; exact HDx.out.own) (.int .i64 (-1))) (p := ⟨r, 3, none⟩) (by show w.heap.size ≤ r; exact HDx.out.own) (.int .i64 v2)) (p := ⟨r, 4, none⟩) (by show w.heap.size ≤ r; exact HDx.out.own) (.bool b4))
              clear hE h0 h1 h2 h3 h4
              go_wp2_with fail
              obtain ⟨h0, h1, h2, h3, h4⟩ := HE.out
              refine bodyPost_ret (v := .agg #[.int .i64 id, .int .i64 (1 + v1), .int .i64 (-1), .int .i64 v2, .bool b4]) (by simp [results, Tryz.results85, go_sem, h0, h1, h2, h3, h4]) rfl ?_
              exact RVal.mk ⟨⟨id, (1 + v1), (-1), v2, b4⟩, _, rfl, bxBd_mk (by omega) (by omega), by omega, by omega, HRD.out, HGR.out⟩
            · have g0 := hZ.cellAt 1 (by simp)
              simp only [List.getElem_cons_zero, List.getElem_cons_succ] at g0
              have c0 := (HDb.out.blk).cellAt 0 (by simp [boxC])
              have f0 := (HDb.out.blk).frozen 0
              have r0 := (HDb.out.res).cellAt 0 (by simp)
              have e0 := (HDb.out.res).frozen 0
              have c1 := (HDb.out.blk).cellAt 1 (by simp [boxC])
              have f1 := (HDb.out.blk).frozen 1
              have r1 := (HDb.out.res).cellAt 1 (by simp)
              have e1 := (HDb.out.res).frozen 1
              have c2 := (HDb.out.blk).cellAt 2 (by simp [boxC])
              have f2 := (HDb.out.blk).frozen 2
              have r2 := (HDb.out.res).cellAt 2 (by simp)
              have e2 := (HDb.out.res).frozen 2
              have c3 := (HDb.out.blk).cellAt 3 (by simp [boxC])
              have f3 := (HDb.out.blk).frozen 3
              have r3 := (HDb.out.res).cellAt 3 (by simp)
              have e3 := (HDb.out.res).frozen 3
              have c4 := (HDb.out.blk).cellAt 4 (by simp [boxC])
              have f4 := (HDb.out.blk).frozen 4
              have r4 := (HDb.out.res).cellAt 4 (by simp)
              have e4 := (HDb.out.res).frozen 4
              simp only [boxC, List.getElem_cons_zero, List.getElem_cons_succ] at c0 r0 c1 r1 c2 r2 c3 r3 c4 r4
              have HDx := Lib.hid (HDb.out.set_ 2 (.int .i64 (4)) ⟨id, (1 + v1), (4), v2, b4⟩ rfl)
              clear HDb hZ

              have hE := ((((((HDx.out.res).set_ 0 (.int .i64 id)).set_ 1 (.int .i64 (1 + v1))).set_ 2 (.int .i64 (4))).set_ 3 (.int .i64 v2)).set_ 4 (.bool b4))
              simp only [List.set_cons_zero, List.set_cons_succ] at hE
              have h0 := hE.cellAt 0 (by simp)
              have h1 := hE.cellAt 1 (by simp)
              have h2 := hE.cellAt 2 (by simp)
              have h3 := hE.cellAt 3 (by simp)
              have h4 := hE.cellAt 4 (by simp)
              simp only [List.getElem_cons_zero, List.getElem_cons_succ] at h0 h1 h2 h3 h4
              have HE := Lib.hid (And.intro h0 (And.intro h1 (And.intro h2 (And.intro h3 h4))))
              have HRD := Lib.hid (bx_rd (bx_rd (bx_rd (bx_rd (bx_rd (HDx.out.rd) (p := ⟨r, 0, none⟩) (by show g < r; exact HDx.out.lt) (.int .i64 id)) (p := ⟨r, 1, none⟩) (by show g < r; exact HDx.out.lt) (.int .i64 (1 + v1))) (p := ⟨r, 2, none⟩) (by show g < r; exact HDx.out.lt) (.int .i64 (4))) (p := ⟨r, 3, none⟩) (by show g < r; exact HDx.out.lt) (.int .i64 v2)) (p := ⟨r, 4, none⟩) (by show g < r; exact HDx.out.lt) (.bool b4))
              have HGR := Lib.hid (bx_set (bx_set (bx_set (bx_set (bx_set (HDx.out.gr) (p := ⟨r, 0, none⟩) (by show w.heap.size ≤ r; exact HDx.out.own) (.int .i64 id)) (p := ⟨r, 1, none⟩) (by show w.heap.size ≤ r; exact HDx.out.own) (.int .i64 (1 + v1))) (p := ⟨r, 2, none⟩) (by show w.heap.size ≤ r; exact HDx.out.own) (.int .i64 (4))) (p := ⟨r, 3, none⟩) (by show w.heap.size ≤ r; exact HDx.out.own) (.int .i64 v2)) (p := ⟨r, 4, none⟩) (by show w.heap.size ≤ r; exact HDx.out.own) (.bool b4))
              clear hE h0 h1 h2 h3 h4
              go_wp2_with fail
              obtain ⟨h0, h1, h2, h3, h4⟩ := HE.out
              refine bodyPost_ret (v := .agg #[.int .i64 id, .int .i64 (1 + v1), .int .i64 (4), .int .i64 v2, .bool b4]) (by simp [results, Tryz.results85, go_sem, h0, h1, h2, h3, h4]) rfl ?_
              exact RVal.mk ⟨⟨id, (1 + v1), (4), v2, b4⟩, _, rfl, bxBd_mk (by omega) (by omega), by omega, by omega, HRD.out, HGR.out⟩
          · have t11 : (v9 == 2) = false := by simpa using k11
            clear k9 k10 k11
            have HDa := Lib.hid (HD9.out.alloc (.cells #[.int .i64 (-1), .int .i64 7] 3))
            have hZ0 := Blk.new w9 3 [.int .i64 (-1), .int .i64 7]
            have hgz : g < w9.heap.size := HD9.out.rd.lt
            clear HD9
            go_wp2_with fail
            refine (pick_any g (q8 + 1) 2 _ HDa.out.rd (by omega) (by omega)).mono ?_
            rintro e wb ⟨vb, rfl, ⟨hvb0, hvb1, _⟩, hrb, hgb⟩
            have hvb1 := hvb1 (by omega)
            have HDb := Lib.hid (HDa.out.pick hrb hgb)
            have hZ := hZ0.only hgb (by omega)
            clear HDa hZ0 hrb hgb
            obtain rfl | rfl : vb = 0 ∨ vb = 1 := by omega
            · have g0 := hZ.cellAt 0 (by simp)
              simp only [List.getElem_cons_zero, List.getElem_cons_succ] at g0
              have c0 := (HDb.out.blk).cellAt 0 (by simp [boxC])
              have f0 := (HDb.out.blk).frozen 0
              have r0 := (HDb.out.res).cellAt 0 (by simp)
              have e0 := (HDb.out.res).frozen 0
              have c1 := (HDb.out.blk).cellAt 1 (by simp [boxC])
              have f1 := (HDb.out.blk).frozen 1
              have r1 := (HDb.out.res).cellAt 1 (by simp)
              have e1 := (HDb.out.res).frozen 1
              have c2 := (HDb.out.blk).cellAt 2 (by simp [boxC])
              have f2 := (HDb.out.blk).frozen 2
              have r2 := (HDb.out.res).cellAt 2 (by simp)
              have e2 := (HDb.out.res).frozen 2
              have c3 := (HDb.out.blk).cellAt 3 (by simp [boxC])
              have f3 := (HDb.out.blk).frozen 3
              have r3 := (HDb.out.res).cellAt 3 (by simp)
              have e3 := (HDb.out.res).frozen 3
              have c4 := (HDb.out.blk).cellAt 4 (by simp [boxC])
              have f4 := (HDb.out.blk).frozen 4
              have r4 := (HDb.out.res).cellAt 4 (by simp)
              have e4 := (HDb.out.res).frozen 4
              simp only [boxC, List.getElem_cons_zero, List.getElem_cons_succ] at c0 r0 c1 r1 c2 r2 c3 r3 c4 r4
              have HDx := Lib.hid (HDb.out.set_ 3 (.int .i64 (-1)) ⟨id, (1 + v1), v6, (-1), b4⟩ rfl)
              clear HDb hZ

              have hE := ((((((HDx.out.res).set_ 0 (.int .i64 id)).set_ 1 (.int .i64 (1 + v1))).set_ 2 (.int .i64 v6)).set_ 3 (.int .i64 (-1))).set_ 4 (.bool b4))
              simp only [List.set_cons_zero, List.set_cons_succ] at hE
              have h0 := hE.cellAt 0 (by simp)
              have h1 := hE.cellAt 1 (by simp)
              have h2 := hE.cellAt 2 (by simp)
              have h3 := hE.cellAt 3 (by simp)
              have h4 := hE.cellAt 4 (by simp)
              simp only [List.getElem_cons_zero, List.getElem_cons_succ] at h0 h1 h2 h3 h4
              have HE := Lib.hid (And.intro h0 (And.intro h1 (And.intro h2 (And.intro h3 h4))))
              have HRD := Lib.hid (bx_rd (bx_rd (bx_rd (bx_rd (bx_rd (HDx.out.rd) (p := ⟨r, 0, none⟩) (by show g < r; exact HDx.out.lt) (.int .i64 id)) (p := ⟨r, 1, none⟩) (by show g < r; exact HDx.out.lt) (.int .i64 (1 + v1))) (p := ⟨r, 2, none⟩) (by show g < r; exact HDx.out.lt) (.int .i64 v6)) (p := ⟨r, 3, none⟩) (by show g < r; exact HDx.out.lt) (.int .i64 (-1))) (p := ⟨r, 4, none⟩) (by show g < r; exact HDx.out.lt) (.bool b4))
              have HGR := Lib.hid (bx_set (bx_set (bx_set (bx_set (bx_set (HDx.out.gr) (p := ⟨r, 0, none⟩) (by show w.heap.size ≤ r; exact HDx.out.own) (.int .i64 id)) (p := ⟨r, 1, none⟩) (by show w.heap.size ≤ r; exact HDx.out.own) (.int .i64 (1 + v1))) (p := ⟨r, 2, none⟩) (by show w.heap.size ≤ r; exact HDx.out.own) (.int .i64 v6)) (p := ⟨r, 3, none⟩) (by show w.heap.size ≤ r; exact HDx.out.own) (.int .i64 (-1))) (p := ⟨r, 4, none⟩) (by show w.heap.size ≤ r; exact HDx.out.own) (.bool b4))
              clear hE h0 h1 h2 h3 h4
              go_wp2_with fail
              obtain ⟨h0, h1, h2, h3, h4⟩ := HE.out
              refine bodyPost_ret (v := .agg #[.int .i64 id, .int .i64 (1 + v1), .int .i64 v6, .int .i64 (-1), .bool b4]) (by simp [results, Tryz.results85, go_sem, h0, h1, h2, h3, h4]) rfl ?_
              exact RVal.mk ⟨⟨id, (1 + v1), v6, (-1), b4⟩, _, rfl, bxBd_mk (by omega) (by omega), by omega, by omega, HRD.out, HGR.out⟩
            · have g0 := hZ.cellAt 1 (by simp)
              simp only [List.getElem_cons_zero, List.getElem_cons_succ] at g0
              have c0 := (HDb.out.blk).cellAt 0 (by simp [boxC])
              have f0 := (HDb.out.blk).frozen 0
              have r0 := (HDb.out.res).cellAt 0 (by simp)
              have e0 := (HDb.out.res).frozen 0
              have c1 := (HDb.out.blk).cellAt 1 (by simp [boxC])
              have f1 := (HDb.out.blk).frozen 1
              have r1 := (HDb.out.res).cellAt 1 (by simp)
              have e1 := (HDb.out.res).frozen 1
              have c2 := (HDb.out.blk).cellAt 2 (by simp [boxC])
              have f2 := (HDb.out.blk).frozen 2
              have r2 := (HDb.out.res).cellAt 2 (by simp)
              have e2 := (HDb.out.res).frozen 2
              have c3 := (HDb.out.blk).cellAt 3 (by simp [boxC])
              have f3 := (HDb.out.blk).frozen 3
              have r3 := (HDb.out.res).cellAt 3 (by simp)
              have e3 := (HDb.out.res).frozen 3
              have c4 := (HDb.out.blk).cellAt 4 (by simp [boxC])
              have f4 := (HDb.out.blk).frozen 4
              have r4 := (HDb.out.res).cellAt 4 (by simp)
              have e4 := (HDb.out.res).frozen 4
              simp only [boxC, List.getElem_cons_zero, List.getElem_cons_succ] at c0 r0 c1 r1 c2 r2 c3 r3 c4 r4
              have HDx := Lib.hid (HDb.out.set_ 3 (.int .i64 (7)) ⟨id, (1 + v1), v6, (7), b4⟩ rfl)
              clear HDb hZ

              have hE := ((((((HDx.out.res).set_ 0 (.int .i64 id)).set_ 1 (.int .i64 (1 + v1))).set_ 2 (.int .i64 v6)).set_ 3 (.int .i64 (7))).set_ 4 (.bool b4))
              simp only [List.set_cons_zero, List.set_cons_succ] at hE
              have h0 := hE.cellAt 0 (by simp)
              have h1 := hE.cellAt 1 (by simp)
              have h2 := hE.cellAt 2 (by simp)
              have h3 := hE.cellAt 3 (by simp)
              have h4 := hE.cellAt 4 (by simp)
              simp only [List.getElem_cons_zero, List.getElem_cons_succ] at h0 h1 h2 h3 h4
              have HE := Lib.hid (And.intro h0 (And.intro h1 (And.intro h2 (And.intro h3 h4))))
              have HRD := Lib.hid (bx_rd (bx_rd (bx_rd (bx_rd (bx_rd (HDx.out.rd) (p := ⟨r, 0, none⟩) (by show g < r; exact HDx.out.lt) (.int .i64 id)) (p := ⟨r, 1, none⟩) (by show g < r; exact HDx.out.lt) (.int .i64 (1 + v1))) (p := ⟨r, 2, none⟩) (by show g < r; exact HDx.out.lt) (.int .i64 v6)) (p := ⟨r, 3, none⟩) (by show g < r; exact HDx.out.lt) (.int .i64 (7))) (p := ⟨r, 4, none⟩) (by show g < r; exact HDx.out.lt) (.bool b4))
              have HGR := Lib.hid (bx_set (bx_set (bx_set (bx_set (bx_set (HDx.out.gr) (p := ⟨r, 0, none⟩) (by show w.heap.size ≤ r; exact HDx.out.own) (.int .i64 id)) (p := ⟨r, 1, none⟩) (by show w.heap.size ≤ r; exact HDx.out.own) (.int .i64 (1 + v1))) (p := ⟨r, 2, none⟩) (by show w.heap.size ≤ r; exact HDx.out.own) (.int .i64 v6)) (p := ⟨r, 3, none⟩) (by show w.heap.size ≤ r; exact HDx.out.own) (.int .i64 (7))) (p := ⟨r, 4, none⟩) (by show w.heap.size ≤ r; exact HDx.out.own) (.bool b4))
              clear hE h0 h1 h2 h3 h4
              go_wp2_with fail
              obtain ⟨h0, h1, h2, h3, h4⟩ := HE.out
              refine bodyPost_ret (v := .agg #[.int .i64 id, .int .i64 (1 + v1), .int .i64 v6, .int .i64 (7), .bool b4]) (by simp [results, Tryz.results85, go_sem, h0, h1, h2, h3, h4]) rfl ?_
              exact RVal.mk ⟨⟨id, (1 + v1), v6, (7), b4⟩, _, rfl, bxBd_mk (by omega) (by omega), by omega, by omega, HRD.out, HGR.out⟩
  · have t5 : (v5 == 0) = false := by simpa using k5
    clear k5
    go_wp2_with fail
    refine (odd_any g (q + 3 + 1) n _ HD5.out.rd (by omega) (by omega)).mono ?_
    rintro e w8 ⟨bo, rfl, q8, hq8, hq8', hr8, hg8⟩
    have HD8 := Lib.hid (HD5.out.pick hr8 hg8)
    clear HD5 hr8 hg8
    cases bo with
    | false =>
      have c0 := (HD8.out.blk).cellAt 0 (by simp [boxC])
      have f0 := (HD8.out.blk).frozen 0
      have r0 := (HD8.out.res).cellAt 0 (by simp)
      have e0 := (HD8.out.res).frozen 0
      have c1 := (HD8.out.blk).cellAt 1 (by simp [boxC])
      have f1 := (HD8.out.blk).frozen 1
      have r1 := (HD8.out.res).cellAt 1 (by simp)
      have e1 := (HD8.out.res).frozen 1
      have c2 := (HD8.out.blk).cellAt 2 (by simp [boxC])
      have f2 := (HD8.out.blk).frozen 2
      have r2 := (HD8.out.res).cellAt 2 (by simp)
      have e2 := (HD8.out.res).frozen 2
      have c3 := (HD8.out.blk).cellAt 3 (by simp [boxC])
      have f3 := (HD8.out.blk).frozen 3
      have r3 := (HD8.out.res).cellAt 3 (by simp)
      have e3 := (HD8.out.res).frozen 3
      have c4 := (HD8.out.blk).cellAt 4 (by simp [boxC])
      have f4 := (HD8.out.blk).frozen 4
      have r4 := (HD8.out.res).cellAt 4 (by simp)
      have e4 := (HD8.out.res).frozen 4
      simp only [boxC, List.getElem_cons_zero, List.getElem_cons_succ] at c0 r0 c1 r1 c2 r2 c3 r3 c4 r4

      have hE := ((((((HD8.out.res).set_ 0 (.int .i64 id)).set_ 1 (.int .i64 (1 + v1))).set_ 2 (.int .i64 0)).set_ 3 (.int .i64 v2)).set_ 4 (.bool b4))
      simp only [List.set_cons_zero, List.set_cons_succ] at hE
      have h0 := hE.cellAt 0 (by simp)
      have h1 := hE.cellAt 1 (by simp)
      have h2 := hE.cellAt 2 (by simp)
      have h3 := hE.cellAt 3 (by simp)
      have h4 := hE.cellAt 4 (by simp)
      simp only [List.getElem_cons_zero, List.getElem_cons_succ] at h0 h1 h2 h3 h4
      have HE := Lib.hid (And.intro h0 (And.intro h1 (And.intro h2 (And.intro h3 h4))))
      have HRD := Lib.hid (bx_rd (bx_rd (bx_rd (bx_rd (bx_rd (HD8.out.rd) (p := ⟨r, 0, none⟩) (by show g < r; exact HD8.out.lt) (.int .i64 id)) (p := ⟨r, 1, none⟩) (by show g < r; exact HD8.out.lt) (.int .i64 (1 + v1))) (p := ⟨r, 2, none⟩) (by show g < r; exact HD8.out.lt) (.int .i64 0)) (p := ⟨r, 3, none⟩) (by show g < r; exact HD8.out.lt) (.int .i64 v2)) (p := ⟨r, 4, none⟩) (by show g < r; exact HD8.out.lt) (.bool b4))
      have HGR := Lib.hid (bx_set (bx_set (bx_set (bx_set (bx_set (HD8.out.gr) (p := ⟨r, 0, none⟩) (by show w.heap.size ≤ r; exact HD8.out.own) (.int .i64 id)) (p := ⟨r, 1, none⟩) (by show w.heap.size ≤ r; exact HD8.out.own) (.int .i64 (1 + v1))) (p := ⟨r, 2, none⟩) (by show w.heap.size ≤ r; exact HD8.out.own) (.int .i64 0)) (p := ⟨r, 3, none⟩) (by show w.heap.size ≤ r; exact HD8.out.own) (.int .i64 v2)) (p := ⟨r, 4, none⟩) (by show w.heap.size ≤ r; exact HD8.out.own) (.bool b4))
      clear hE h0 h1 h2 h3 h4
      go_wp2_with fail
      obtain ⟨h0, h1, h2, h3, h4⟩ := HE.out
      refine bodyPost_ret (v := .agg #[.int .i64 id, .int .i64 (1 + v1), .int .i64 0, .int .i64 v2, .bool b4]) (by simp [results, Tryz.results85, go_sem, h0, h1, h2, h3, h4]) rfl ?_
      exact RVal.mk ⟨⟨id, (1 + v1), 0, v2, b4⟩, _, rfl, bxBd_mk (by omega) (by omega), by omega, by omega, HRD.out, HGR.out⟩
    | true =>
      go_wp2_with fail
      refine (pick_any g q8 4 _ HD8.out.rd (by omega) (by omega)).mono ?_
      rintro e w9 ⟨v9, rfl, _, hr9, hg9⟩
      have HD9 := Lib.hid (HD8.out.pick hr9 hg9)
      clear HD8 hr9 hg9
      by_cases k9 : v9 = 0
      · have t9 : (v9 == 0) = true := by simp [k9]
        clear k9
        have HDa := Lib.hid (HD9.out.alloc (.cells #[.int .i64 (0), .int .i64 1000] 3))
        have hZ0 := Blk.new w9 3 [.int .i64 (0), .int .i64 1000]
        have hgz : g < w9.heap.size := HD9.out.rd.lt
        clear HD9
        go_wp2_with fail
        refine (pick_any g (q8 + 1) 2 _ HDa.out.rd (by omega) (by omega)).mono ?_
        rintro e wb ⟨vb, rfl, ⟨hvb0, hvb1, _⟩, hrb, hgb⟩
        have hvb1 := hvb1 (by omega)
        have HDb := Lib.hid (HDa.out.pick hrb hgb)
        have hZ := hZ0.only hgb (by omega)
        clear HDa hZ0 hrb hgb
        obtain rfl | rfl : vb = 0 ∨ vb = 1 := by omega
        · have g0 := hZ.cellAt 0 (by simp)
          simp only [List.getElem_cons_zero, List.getElem_cons_succ] at g0
          have c0 := (HDb.out.blk).cellAt 0 (by simp [boxC])
          have f0 := (HDb.out.blk).frozen 0
          have r0 := (HDb.out.res).cellAt 0 (by simp)
          have e0 := (HDb.out.res).frozen 0
          have c1 := (HDb.out.blk).cellAt 1 (by simp [boxC])
          have f1 := (HDb.out.blk).frozen 1
          have r1 := (HDb.out.res).cellAt 1 (by simp)
          have e1 := (HDb.out.res).frozen 1
          have c2 := (HDb.out.blk).cellAt 2 (by simp [boxC])
          have f2 := (HDb.out.blk).frozen 2
          have r2 := (HDb.out.res).cellAt 2 (by simp)
          have e2 := (HDb.out.res).frozen 2
          have c3 := (HDb.out.blk).cellAt 3 (by simp [boxC])
          have f3 := (HDb.out.blk).frozen 3
          have r3 := (HDb.out.res).cellAt 3 (by simp)
          have e3 := (HDb.out.res).frozen 3
          have c4 := (HDb.out.blk).cellAt 4 (by simp [boxC])
          have f4 := (HDb.out.blk).frozen 4
          have r4 := (HDb.out.res).cellAt 4 (by simp)
          have e4 := (HDb.out.res).frozen 4
          simp only [boxC, List.getElem_cons_zero, List.getElem_cons_succ] at c0 r0 c1 r1 c2 r2 c3 r3 c4 r4
          have HDx := Lib.hid (HDb.out.set_ 0 (.int .i64 (0)) ⟨(0), (1 + v1), 0, v2, b4⟩ rfl)
          clear HDb hZ

          have hE := ((((((HDx.out.res).set_ 0 (.int .i64 (0))).set_ 1 (.int .i64 (1 + v1))).set_ 2 (.int .i64 0)).set_ 3 (.int .i64 v2)).set_ 4 (.bool b4))
          simp only [List.set_cons_zero, List.set_cons_succ] at hE
          have h0 := hE.cellAt 0 (by simp)
          have h1 := hE.cellAt 1 (by simp)
          have h2 := hE.cellAt 2 (by simp)
          have h3 := hE.cellAt 3 (by simp)
          have h4 := hE.cellAt 4 (by simp)
          simp only [List.getElem_cons_zero, List.getElem_cons_succ] at h0 h1 h2 h3 h4
          have HE := Lib.hid (And.intro h0 (And.intro h1 (And.intro h2 (And.intro h3 h4))))
          have HRD := Lib.hid (bx_rd (bx_rd (bx_rd (bx_rd (bx_rd (HDx.out.rd) (p := ⟨r, 0, none⟩) (by show g < r; exact HDx.out.lt) (.int .i64 (0))) (p := ⟨r, 1, none⟩) (by show g < r; exact HDx.out.lt) (.int .i64 (1 + v1))) (p := ⟨r, 2, none⟩) (by show g < r; exact HDx.out.lt) (.int .i64 0)) (p := ⟨r, 3, none⟩) (by show g < r; exact HDx.out.lt) (.int .i64 v2)) (p := ⟨r, 4, none⟩) (by show g < r; exact HDx.out.lt) (.bool b4))
          have HGR := Lib.hid (bx_set (bx_set (bx_set (bx_set (bx_set (HDx.out.gr) (p := ⟨r, 0, none⟩) (by show w.heap.size ≤ r; exact HDx.out.own) (.int .i64 (0))) (p := ⟨r, 1, none⟩) (by show w.heap.size ≤ r; exact HDx.out.own) (.int .i64 (1 + v1))) (p := ⟨r, 2, none⟩) (by show w.heap.size ≤ r; exact HDx.out.own) (.int .i64 0)) (p := ⟨r, 3, none⟩) (by show w.heap.size ≤ r; exact HDx.out.own) (.int .i64 v2)) (p := ⟨r, 4, none⟩) (by show w.heap.size ≤ r; exact HDx.out.own) (.bool b4))
          clear hE h0 h1 h2 h3 h4
          go_wp2_with fail
          obtain ⟨h0, h1, h2, h3, h4⟩ := HE.out
          refine bodyPost_ret (v := .agg #[.int .i64 (0), .int .i64 (1 + v1), .int .i64 0, .int .i64 v2, .bool b4]) (by simp [results, Tryz.results85, go_sem, h0, h1, h2, h3, h4]) rfl ?_
          exact RVal.mk ⟨⟨(0), (1 + v1), 0, v2, b4⟩, _, rfl, bxBd_mk (by omega) (by omega), by omega, by omega, HRD.out, HGR.out⟩
        · have g0 := hZ.cellAt 1 (by simp)
          simp only [List.getElem_cons_zero, List.getElem_cons_succ] at g0
          have c0 := (HDb.out.blk).cellAt 0 (by simp [boxC])
          have f0 := (HDb.out.blk).frozen 0
          have r0 := (HDb.out.res).cellAt 0 (by simp)
          have e0 := (HDb.out.res).frozen 0
          have c1 := (HDb.out.blk).cellAt 1 (by simp [boxC])
          have f1 := (HDb.out.blk).frozen 1
          have r1 := (HDb.out.res).cellAt 1 (by simp)
          have e1 := (HDb.out.res).frozen 1
          have c2 := (HDb.out.blk).cellAt 2 (by simp [boxC])
          have f2 := (HDb.out.blk).frozen 2
          have r2 := (HDb.out.res).cellAt 2 (by simp)
          have e2 := (HDb.out.res).frozen 2
          have c3 := (HDb.out.blk).cellAt 3 (by simp [boxC])
          have f3 := (HDb.out.blk).frozen 3
          have r3 := (HDb.out.res).cellAt 3 (by simp)
          have e3 := (HDb.out.res).frozen 3
          have c4 := (HDb.out.blk).cellAt 4 (by simp [boxC])
          have f4 := (HDb.out.blk).frozen 4
          have r4 := (HDb.out.res).cellAt 4 (by simp)
          have e4 := (HDb.out.res).frozen 4
          simp only [boxC, List.getElem_cons_zero, List.getElem_cons_succ] at c0 r0 c1 r1 c2 r2 c3 r3 c4 r4
          have HDx := Lib.hid (HDb.out.set_ 0 (.int .i64 (1000)) ⟨(1000), (1 + v1), 0, v2, b4⟩ rfl)
          clear HDb hZ

          have hE := ((((((HDx.out.res).set_ 0 (.int .i64 (1000))).set_ 1 (.int .i64 (1 + v1))).set_ 2 (.int .i64 0)).set_ 3 (.int .i64 v2)).set_ 4 (.bool b4))
          simp only [List.set_cons_zero, List.set_cons_succ] at hE
          have h0 := hE.cellAt 0 (by simp)
          have h1 := hE.cellAt 1 (by simp)
          have h2 := hE.cellAt 2 (by simp)
          have h3 := hE.cellAt 3 (by simp)
          have h4 := hE.cellAt 4 (by simp)
          simp only [List.getElem_cons_zero, List.getElem_cons_succ] at h0 h1 h2 h3 h4
          have HE := Lib.hid (And.intro h0 (And.intro h1 (And.intro h2 (And.intro h3 h4))))
          have HRD := Lib.hid (bx_rd (bx_rd (bx_rd (bx_rd (bx_rd (HDx.out.rd) (p := ⟨r, 0, none⟩) (by show g < r; exact HDx.out.lt) (.int .i64 (1000))) (p := ⟨r, 1, none⟩) (by show g < r; exact HDx.out.lt) (.int .i64 (1 + v1))) (p := ⟨r, 2, none⟩) (by show g < r; exact HDx.out.lt) (.int .i64 0)) (p := ⟨r, 3, none⟩) (by show g < r; exact HDx.out.lt) (.int .i64 v2)) (p := ⟨r, 4, none⟩) (by show g < r; exact HDx.out.lt) (.bool b4))
          have HGR := Lib.hid (bx_set (bx_set (bx_set (bx_set (bx_set (HDx.out.gr) (p := ⟨r, 0, none⟩) (by show w.heap.size ≤ r; exact HDx.out.own) (.int .i64 (1000))) (p := ⟨r, 1, none⟩) (by show w.heap.size ≤ r; exact HDx.out.own) (.int .i64 (1 + v1))) (p := ⟨r, 2, none⟩) (by show w.heap.size ≤ r; exact HDx.out.own) (.int .i64 0)) (p := ⟨r, 3, none⟩) (by show w.heap.size ≤ r; exact HDx.out.own) (.int .i64 v2)) (p := ⟨r, 4, none⟩) (by show w.heap.size ≤ r; exact HDx.out.own) (.bool b4))
          clear hE h0 h1 h2 h3 h4
          go_wp2_with fail
          obtain ⟨h0, h1, h2, h3, h4⟩ := HE.out
          refine bodyPost_ret (v := .agg #[.int .i64 (1000), .int .i64 (1 + v1), .int .i64 0, .int .i64 v2, .bool b4]) (by simp [results, Tryz.results85, go_sem, h0, h1, h2, h3, h4]) rfl ?_
          exact RVal.mk ⟨⟨(1000), (1 + v1), 0, v2, b4⟩, _, rfl, bxBd_mk (by omega) (by omega), by omega, by omega, HRD.out, HGR.out⟩
      · have t9 : (v9 == 0) = false := by simpa using k9
        by_cases k10 : v9 = 1
        · have t10 : (v9 == 1) = true := by simp [k10]
          clear k9 k10
          have HDa := Lib.hid (HD9.out.alloc (.cells #[.int .i64 (0), .int .i64 31] 3))
          have hZ0 := Blk.new w9 3 [.int .i64 (0), .int .i64 31]
          have hgz : g < w9.heap.size := HD9.out.rd.lt
          clear HD9
          go_wp2_with fail
          refine (pick_any g (q8 + 1) 2 _ HDa.out.rd (by omega) (by omega)).mono ?_
          rintro e wb ⟨vb, rfl, ⟨hvb0, hvb1, _⟩, hrb, hgb⟩
          have hvb1 := hvb1 (by omega)
          have HDb := Lib.hid (HDa.out.pick hrb hgb)
          have hZ := hZ0.only hgb (by omega)
          clear HDa hZ0 hrb hgb
          obtain rfl | rfl : vb = 0 ∨ vb = 1 := by omega
          · have g0 := hZ.cellAt 0 (by simp)
            simp only [List.getElem_cons_zero, List.getElem_cons_succ] at g0
            have c0 := (HDb.out.blk).cellAt 0 (by simp [boxC])
            have f0 := (HDb.out.blk).frozen 0
            have r0 := (HDb.out.res).cellAt 0 (by simp)
            have e0 := (HDb.out.res).frozen 0
            have c1 := (HDb.out.blk).cellAt 1 (by simp [boxC])
            have f1 := (HDb.out.blk).frozen 1
            have r1 := (HDb.out.res).cellAt 1 (by simp)
            have e1 := (HDb.out.res).frozen 1
            have c2 := (HDb.out.blk).cellAt 2 (by simp [boxC])
            have f2 := (HDb.out.blk).frozen 2
            have r2 := (HDb.out.res).cellAt 2 (by simp)
            have e2 := (HDb.out.res).frozen 2
            have c3 := (HDb.out.blk).cellAt 3 (by simp [boxC])
            have f3 := (HDb.out.blk).frozen 3
            have r3 := (HDb.out.res).cellAt 3 (by simp)
            have e3 := (HDb.out.res).frozen 3
            have c4 := (HDb.out.blk).cellAt 4 (by simp [boxC])
            have f4 := (HDb.out.blk).frozen 4
            have r4 := (HDb.out.res).cellAt 4 (by simp)
            have e4 := (HDb.out.res).frozen 4
            simp only [boxC, List.getElem_cons_zero, List.getElem_cons_succ] at c0 r0 c1 r1 c2 r2 c3 r3 c4 r4
            have HDx := Lib.hid (HDb.out.set_ 1 (.int .i64 (0)) ⟨id, (0), 0, v2, b4⟩ rfl)
            clear HDb hZ

            have hE := ((((((HDx.out.res).set_ 0 (.int .i64 id)).set_ 1 (.int .i64 (0))).set_ 2 (.int .i64 0)).set_ 3 (.int .i64 v2)).set_ 4 (.bool b4))
            simp only [List.set_cons_zero, List.set_cons_succ] at hE
            have h0 := hE.cellAt 0 (by simp)
            have h1 := hE.cellAt 1 (by simp)
            have h2 := hE.cellAt 2 (by simp)
            have h3 := hE.cellAt 3 (by simp)
            have h4 := hE.cellAt 4 (by simp)
            simp only [List.getElem_cons_zero, List.getElem_cons_succ] at h0 h1 h2 h3 h4
            have HE := Lib.hid (And.intro h0 (And.intro h1 (And.intro h2 (And.intro h3 h4))))
            have HRD := Lib.hid (bx_rd (bx_rd (bx_rd (bx_rd (bx_rd (HDx.out.rd) (p := ⟨r, 0, none⟩) (by show g < r; exact HDx.out.lt) (.int .i64 id)) (p := ⟨r, 1, none⟩) (by show g < r; exact HDx.out.lt) (.int .i64 (0))) (p := ⟨r, 2, none⟩) (by show g < r; exact HDx.out.lt) (.int .i64 0)) (p := ⟨r, 3, none⟩) (by show g < r; exact HDx.out.lt) (.int .i64 v2)) (p := ⟨r, 4, none⟩) (by show g < r; exact HDx.out.lt) (.bool b4))
            have HGR := Lib.hid (bx_set (bx_set (bx_set (bx_set (bx_set (HDx.out.gr) (p := ⟨r, 0, none⟩) (by show w.heap.size ≤ r; exact HDx.out.own) (.int .i64 id)) (p := ⟨r, 1, none⟩) (by show w.heap.size ≤ r; exact HDx.out.own) (.int .i64 (0))) (p := ⟨r, 2, none⟩) (by show w.heap.size ≤ r; exact HDx.out.own) (.int .i64 0)) (p := ⟨r, 3, none⟩) (by show w.heap.size ≤ r; exact HDx.out.own) (.int .i64 v2)) (p := ⟨r, 4, none⟩) (by show w.heap.size ≤ r; exact HDx.out.own) (.bool b4))
            clear hE h0 h1 h2 h3 h4
            go_wp2_with fail
            obtain ⟨h0, h1, h2, h3, h4⟩ := HE.out
            refine bodyPost_ret (v := .agg #[.int .i64 id, .int .i64 (0), .int .i64 0, .int .i64 v2, .bool b4]) (by simp [results, Tryz.results85, go_sem, h0, h1, h2, h3, h4]) rfl ?_
            exact RVal.mk ⟨⟨id, (0), 0, v2, b4⟩, _, rfl, bxBd_mk (by omega) (by omega), by omega, by omega, HRD.out, HGR.out⟩
          · have g0 := hZ.cellAt 1 (by simp)
            simp only [List.getElem_cons_zero, List.getElem_cons_succ] at g0
            have c0 := (HDb.out.blk).cellAt 0 (by simp [boxC])
            have f0 := (HDb.out.blk).frozen 0
            have r0 := (HDb.out.res).cellAt 0 (by simp)
            have e0 := (HDb.out.res).frozen 0
            have c1 := (HDb.out.blk).cellAt 1 (by simp [boxC])
            have f1 := (HDb.out.blk).frozen 1
            have r1 := (HDb.out.res).cellAt 1 (by simp)
            have e1 := (HDb.out.res).frozen 1
            have c2 := (HDb.out.blk).cellAt 2 (by simp [boxC])
            have f2 := (HDb.out.blk).frozen 2
            have r2 := (HDb.out.res).cellAt 2 (by simp)
            have e2 := (HDb.out.res).frozen 2
            have c3 := (HDb.out.blk).cellAt 3 (by simp [boxC])
            have f3 := (HDb.out.blk).frozen 3
            have r3 := (HDb.out.res).cellAt 3 (by simp)
            have e3 := (HDb.out.res).frozen 3
            have c4 := (HDb.out.blk).cellAt 4 (by simp [boxC])
            have f4 := (HDb.out.blk).frozen 4
            have r4 := (HDb.out.res).cellAt 4 (by simp)
            have e4 := (HDb.out.res).frozen 4
            simp only [boxC, List.getElem_cons_zero, List.getElem_cons_succ] at c0 r0 c1 r1 c2 r2 c3 r3 c4 r4
            have HDx := Lib.hid (HDb.out.set_ 1 (.int .i64 (31)) ⟨id, (31), 0, v2, b4⟩ rfl)
            clear HDb hZ

            have hE := ((((((HDx.out.res).set_ 0 (.int .i64 id)).set_ 1 (.int .i64 (31))).set_ 2 (.int .i64 0)).set_ 3 (.int .i64 v2)).set_ 4 (.bool b4))
            simp only [List.set_cons_zero, List.set_cons_succ] at hE
            have h0 := hE.cellAt 0 (by simp)
            have h1 := hE.cellAt 1 (by simp)
            have h2 := hE.cellAt 2 (by simp)
            have h3 := hE.cellAt 3 (by simp)
            have h4 := hE.cellAt 4 (by simp)
            simp only [List.getElem_cons_zero, List.getElem_cons_succ] at h0 h1 h2 h3 h4
            have HE := Lib.hid (And.intro h0 (And.intro h1 (And.intro h2 (And.intro h3 h4))))
            have HRD := Lib.hid (bx_rd (bx_rd (bx_rd (bx_rd (bx_rd (HDx.out.rd) (p := ⟨r, 0, none⟩) (by show g < r; exact HDx.out.lt) (.int .i64 id)) (p := ⟨r, 1, none⟩) (by show g < r; exact HDx.out.lt) (.int .i64 (31))) (p := ⟨r, 2, none⟩) (by show g < r; exact HDx.out.lt) (.int .i64 0)) (p := ⟨r, 3, none⟩) (by show g < r; exact HDx.out.lt) (.int .i64 v2)) (p := ⟨r, 4, none⟩) (by show g < r; exact HDx.out.lt) (.bool b4))
            have HGR := Lib.hid (bx_set (bx_set (bx_set (bx_set (bx_set (HDx.out.gr) (p := ⟨r, 0, none⟩) (by show w.heap.size ≤ r; exact HDx.out.own) (.int .i64 id)) (p := ⟨r, 1, none⟩) (by show w.heap.size ≤ r; exact HDx.out.own) (.int .i64 (31))) (p := ⟨r, 2, none⟩) (by show w.heap.size ≤ r; exact HDx.out.own) (.int .i64 0)) (p := ⟨r, 3, none⟩) (by show w.heap.size ≤ r; exact HDx.out.own) (.int .i64 v2)) (p := ⟨r, 4, none⟩) (by show w.heap.size ≤ r; exact HDx.out.own) (.bool b4))
            clear hE h0 h1 h2 h3 h4
            go_wp2_with fail
            obtain ⟨h0, h1, h2, h3, h4⟩ := HE.out
            refine bodyPost_ret (v := .agg #[.int .i64 id, .int .i64 (31), .int .i64 0, .int .i64 v2, .bool b4]) (by simp [results, Tryz.results85, go_sem, h0, h1, h2, h3, h4]) rfl ?_
            exact RVal.mk ⟨⟨id, (31), 0, v2, b4⟩, _, rfl, bxBd_mk (by omega) (by omega), by omega, by omega, HRD.out, HGR.out⟩
        · have t10 : (v9 == 1) = false := by simpa using k10
          by_cases k11 : v9 = 2
          · have t11 : (v9 == 2) = true := by simp [k11]
            clear k9 k10 k11
            have HDa := Lib.hid (HD9.out.alloc (.cells #[.int .i64 (-1), .int .i64 4] 3))
            have hZ0 := Blk.new w9 3 [.int .i64 (-1), .int .i64 4]
            have hgz : g < w9.heap.size := HD9.out.rd.lt
            clear HD9
            go_wp2_with fail
            refine (pick_any g (q8 + 1) 2 _ HDa.out.rd (by omega) (by omega)).mono ?_
            rintro e wb ⟨vb, rfl, ⟨hvb0, hvb1, _⟩, hrb, hgb⟩
            have hvb1 := hvb1 (by omega)
            have HDb := Lib.hid (HDa.out.pick hrb hgb)
            have hZ := hZ0.only hgb (by omega)
            clear HDa hZ0 hrb hgb
            obtain rfl | rfl : vb = 0 ∨ vb = 1 := by omega
            · have g0 := hZ.cellAt 0 (by simp)
              simp only [List.getElem_cons_zero, List.getElem_cons_succ] at g0
              have c0 := (HDb.out.blk).cellAt 0 (by simp [boxC])
              have f0 := (HDb.out.blk).frozen 0
              have r0 := (HDb.out.res).cellAt 0 (by simp)
              have e0 := (HDb.out.res).frozen 0
              have c1 := (HDb.out.blk).cellAt 1 (by simp [boxC])
              have f1 := (HDb.out.blk).frozen 1
              have r1 := (HDb.out.res).cellAt 1 (by simp)
              have e1 := (HDb.out.res).frozen 1
              have c2 := (HDb.out.blk).cellAt 2 (by simp [boxC])
              have f2 := (HDb.out.blk).frozen 2
              have r2 := (HDb.out.res).cellAt 2 (by simp)
              have e2 := (HDb.out.res).frozen 2
              have c3 := (HDb.out.blk).cellAt 3 (by simp [boxC])
              have f3 := (HDb.out.blk).frozen 3
              have r3 := (HDb.out.res).cellAt 3 (by simp)
              have e3 := (HDb.out.res).frozen 3
              have c4 := (HDb.out.blk).cellAt 4 (by simp [boxC])
              have f4 := (HDb.out.blk).frozen 4
              have r4 := (HDb.out.res).cellAt 4 (by simp)
              have e4 := (HDb.out.res).frozen 4
              simp only [boxC, List.getElem_cons_zero, List.getElem_cons_succ] at c0 r0 c1 r1 c2 r2 c3 r3 c4 r4
              have HDx := Lib.hid (HDb.out.set_ 2 (.int .i64 (-1)) ⟨id, (1 + v1), (-1), v2, b4⟩ rfl)
              clear HDb hZ

              have hE := ((((((HDx.out.res).set_ 0 (.int .i64 id)).set_ 1 (.int .i64 (1 + v1))).set_ 2 (.int .i64 (-1))).set_ 3 (.int .i64 v2)).set_ 4 (.bool b4))
              simp only [List.set_cons_zero, List.set_cons_succ] at hE
              have h0 := hE.cellAt 0 (by simp)
              have h1 := hE.cellAt 1 (by simp)
              have h2 := hE.cellAt 2 (by simp)
              have h3 := hE.cellAt 3 (by simp)
              have h4 := hE.cellAt 4 (by simp)
              simp only [List.getElem_cons_zero, List.getElem_cons_succ] at h0 h1 h2 h3 h4
              have HE := Lib.hid (And.intro h0 (And.intro h1 (And.intro h2 (And.intro h3 h4))))
              have HRD := Lib.hid (bx_rd (bx_rd (bx_rd (bx_rd (bx_rd (HDx.out.rd) (p := ⟨r, 0, none⟩) (by show g < r; exact HDx.out.lt) (.int .i64 id)) (p := ⟨r, 1, none⟩) (by show g < r; exact HDx.out.lt) (.int .i64 (1 + v1))) (p := ⟨r, 2, none⟩) (by show g < r; exact HDx.out.lt) (.int .i64 (-1))) (p := ⟨r, 3, none⟩) (by show g < r; exact HDx.out.lt) (.int .i64 v2)) (p := ⟨r, 4, none⟩) (by show g < r; exact HDx.out.lt) (.bool b4))
              have HGR := Lib.hid (bx_set (bx_set (bx_set (bx_set (bx_set (HDx.out.gr) (p := ⟨r, 0, none⟩) (by show w.heap.size ≤ r; exact HDx.out.own) (.int .i64 id)) (p := ⟨r, 1, none⟩) (by show w.heap.size ≤ r; exact HDx.out.own) (.int .i64 (1 + v1))) (p := ⟨r, 2, none⟩) (by show w.heap.size ≤ r; exact HDx.out.own) (.int .i64 (-1))) (p := ⟨r, 3, none⟩) (by show w.heap.size ≤ r; exact HDx.out.own) (.int .i64 v2)) (p := ⟨r, 4, none⟩) (by show w.heap.size ≤ r; exact HDx.out.own) (.bool b4))
              clear hE h0 h1 h2 h3 h4
              go_wp2_with fail
              obtain ⟨h0, h1, h2, h3, h4⟩ := HE.out
              refine bodyPost_ret (v := .agg #[.int .i64 id, .int .i64 (1 + v1), .int .i64 (-1), .int .i64 v2, .bool b4]) (by simp [results, Tryz.results85, go_sem, h0, h1, h2, h3, h4]) rfl ?_
              exact RVal.mk ⟨⟨id, (1 + v1), (-1), v2, b4⟩, _, rfl, bxBd_mk (by omega) (by omega), by omega, by omega, HRD.out, HGR.out⟩
            · have g0 := hZ.cellAt 1 (by simp)
              simp only [List.getElem_cons_zero, List.getElem_cons_succ] at g0
              have c0 := (HDb.out.blk).cellAt 0 (by simp [boxC])
              have f0 := (HDb.out.blk).frozen 0
              have r0 := (HDb.out.res).cellAt 0 (by simp)
              have e0 := (HDb.out.res).frozen 0
              have c1 := (HDb.out.blk).cellAt 1 (by simp [boxC])
              have f1 := (HDb.out.blk).frozen 1
              have r1 := (HDb.out.res).cellAt 1 (by simp)
              have e1 := (HDb.out.res).frozen 1
              have c2 := (HDb.out.blk).cellAt 2 (by simp [boxC])
              have f2 := (HDb.out.blk).frozen 2
              have r2 := (HDb.out.res).cellAt 2 (by simp)
              have e2 := (HDb.out.res).frozen 2
              have c3 := (HDb.out.blk).cellAt 3 (by simp [boxC])
              have f3 := (HDb.out.blk).frozen 3
              have r3 := (HDb.out.res).cellAt 3 (by simp)
              have e3 := (HDb.out.res).frozen 3
              have c4 := (HDb.out.blk).cellAt 4 (by simp [boxC])
              have f4 := (HDb.out.blk).frozen 4
              have r4 := (HDb.out.res).cellAt 4 (by simp)
              have e4 := (HDb.out.res).frozen 4
              simp only [boxC, List.getElem_cons_zero, List.getElem_cons_succ] at c0 r0 c1 r1 c2 r2 c3 r3 c4 r4
              have HDx := Lib.hid (HDb.out.set_ 2 (.int .i64 (4)) ⟨id, (1 + v1), (4), v2, b4⟩ rfl)
              clear HDb hZ

              have hE := ((((((HDx.out.res).set_ 0 (.int .i64 id)).set_ 1 (.int .i64 (1 + v1))).set_ 2 (.int .i64 (4))).set_ 3 (.int .i64 v2)).set_ 4 (.bool b4))
              simp only [List.set_cons_zero, List.set_cons_succ] at hE
              have h0 := hE.cellAt 0 (by simp)
              have h1 := hE.cellAt 1 (by simp)
              have h2 := hE.cellAt 2 (by simp)
              have h3 := hE.cellAt 3 (by simp)
              have h4 := hE.cellAt 4 (by simp)
              simp only [List.getElem_cons_zero, List.getElem_cons_succ] at h0 h1 h2 h3 h4
              have HE := Lib.hid (And.intro h0 (And.intro h1 (And.intro h2 (And.intro h3 h4))))
              have HRD := Lib.hid (bx_rd (bx_rd (bx_rd (bx_rd (bx_rd (HDx.out.rd) (p := ⟨r, 0, none⟩) (by show g < r; exact HDx.out.lt) (.int .i64 id)) (p := ⟨r, 1, none⟩) (by show g < r; exact HDx.out.lt) (.int .i64 (1 + v1))) (p := ⟨r, 2, none⟩) (by show g < r; exact HDx.out.lt) (.int .i64 (4))) (p := ⟨r, 3, none⟩) (by show g < r; exact HDx.out.lt) (.int .i64 v2)) (p := ⟨r, 4, none⟩) (by show g < r; exact HDx.out.lt) (.bool b4))
              have HGR := Lib.hid (bx_set (bx_set (bx_set (bx_set (bx_set (HDx.out.gr) (p := ⟨r, 0, none⟩) (by show w.heap.size ≤ r; exact HDx.out.own) (.int .i64 id)) (p := ⟨r, 1, none⟩) (by show w.heap.size ≤ r; exact HDx.out.own) (.int .i64 (1 + v1))) (p := ⟨r, 2, none⟩) (by show w.heap.size ≤ r; exact HDx.out.own) (.int .i64 (4))) (p := ⟨r, 3, none⟩) (by show w.heap.size ≤ r; exact HDx.out.own) (.int .i64 v2)) (p := ⟨r, 4, none⟩) (by show w.heap.size ≤ r; exact HDx.out.own) (.bool b4))
              clear hE h0 h1 h2 h3 h4
              go_wp2_with fail
              obtain ⟨h0, h1, h2, h3, h4⟩ := HE.out
              refine bodyPost_ret (v := .agg #[.int .i64 id, .int .i64 (1 + v1), .int .i64 (4), .int .i64 v2, .bool b4]) (by simp [results, Tryz.results85, go_sem, h0, h1, h2, h3, h4]) rfl ?_
              exact RVal.mk ⟨⟨id, (1 + v1), (4), v2, b4⟩, _, rfl, bxBd_mk (by omega) (by omega), by omega, by omega, HRD.out, HGR.out⟩
          · have t11 : (v9 == 2) = false := by simpa using k11
            clear k9 k10 k11
            have HDa := Lib.hid (HD9.out.alloc (.cells #[.int .i64 (-1), .int .i64 7] 3))
            have hZ0 := Blk.new w9 3 [.int .i64 (-1), .int .i64 7]
            have hgz : g < w9.heap.size := HD9.out.rd.lt
            clear HD9
            go_wp2_with fail
            refine (pick_any g (q8 + 1) 2 _ HDa.out.rd (by omega) (by omega)).mono ?_
            rintro e wb ⟨vb, rfl, ⟨hvb0, hvb1, _⟩, hrb, hgb⟩
            have hvb1 := hvb1 (by omega)
            have HDb := Lib.hid (HDa.out.pick hrb hgb)
            have hZ := hZ0.only hgb (by omega)
            clear HDa hZ0 hrb hgb
            obtain rfl | rfl : vb = 0 ∨ vb = 1 := by omega
            · have g0 := hZ.cellAt 0 (by simp)
              simp only [List.getElem_cons_zero, List.getElem_cons_succ] at g0
              have c0 := (HDb.out.blk).cellAt 0 (by simp [boxC])
              have f0 := (HDb.out.blk).frozen 0
              have r0 := (HDb.out.res).cellAt 0 (by simp)
              have e0 := (HDb.out.res).frozen 0
              have c1 := (HDb.out.blk).cellAt 1 (by simp [boxC])
              have f1 := (HDb.out.blk).frozen 1
              have r1 := (HDb.out.res).cellAt 1 (by simp)
              have e1 := (HDb.out.res).frozen 1
              have c2 := (HDb.out.blk).cellAt 2 (by simp [boxC])
              have f2 := (HDb.out.blk).frozen 2
              have r2 := (HDb.out.res).cellAt 2 (by simp)
              have e2 := (HDb.out.res).frozen 2
              have c3 := (HDb.out.blk).cellAt 3 (by simp [boxC])
              have f3 := (HDb.out.blk).frozen 3
              have r3 := (HDb.out.res).cellAt 3 (by simp)
              have e3 := (HDb.out.res).frozen 3
              have c4 := (HDb.out.blk).cellAt 4 (by simp [boxC])
              have f4 := (HDb.out.blk).frozen 4
              have r4 := (HDb.out.res).cellAt 4 (by simp)
              have e4 := (HDb.out.res).frozen 4
              simp only [boxC, List.getElem_cons_zero, List.getElem_cons_succ] at c0 r0 c1 r1 c2 r2 c3 r3 c4 r4
              have HDx := Lib.hid (HDb.out.set_ 3 (.int .i64 (-1)) ⟨id, (1 + v1), 0, (-1), b4⟩ rfl)
              clear HDb hZ

              have hE := ((((((HDx.out.res).set_ 0 (.int .i64 id)).set_ 1 (.int .i64 (1 + v1))).set_ 2 (.int .i64 0)).set_ 3 (.int .i64 (-1))).set_ 4 (.bool b4))
              simp only [List.set_cons_zero, List.set_cons_succ] at hE
              have h0 := hE.cellAt 0 (by simp)
              have h1 := hE.cellAt 1 (by simp)
              have h2 := hE.cellAt 2 (by simp)
              have h3 := hE.cellAt 3 (by simp)
              have h4 := hE.cellAt 4 (by simp)
              simp only [List.getElem_cons_zero, List.getElem_cons_succ] at h0 h1 h2 h3 h4
              have HE := Lib.hid (And.intro h0 (And.intro h1 (And.intro h2 (And.intro h3 h4))))
              have HRD := Lib.hid (bx_rd (bx_rd (bx_rd (bx_rd (bx_rd (HDx.out.rd) (p := ⟨r, 0, none⟩) (by show g < r; exact HDx.out.lt) (.int .i64 id)) (p := ⟨r, 1, none⟩) (by show g < r; exact HDx.out.lt) (.int .i64 (1 + v1))) (p := ⟨r, 2, none⟩) (by show g < r; exact HDx.out.lt) (.int .i64 0)) (p := ⟨r, 3, none⟩) (by show g < r; exact HDx.out.lt) (.int .i64 (-1))) (p := ⟨r, 4, none⟩) (by show g < r; exact HDx.out.lt) (.bool b4))
              have HGR := Lib.hid (bx_set (bx_set (bx_set (bx_set (bx_set (HDx.out.gr) (p := ⟨r, 0, none⟩) (by show w.heap.size ≤ r; exact HDx.out.own) (.int .i64 id)) (p := ⟨r, 1, none⟩) (by show w.heap.size ≤ r; exact HDx.out.own) (.int .i64 (1 + v1))) (p := ⟨r, 2, none⟩) (by show w.heap.size ≤ r; exact HDx.out.own) (.int .i64 0)) (p := ⟨r, 3, none⟩) (by show w.heap.size ≤ r; exact HDx.out.own) (.int .i64 (-1))) (p := ⟨r, 4, none⟩) (by show w.heap.size ≤ r; exact HDx.out.own) (.bool b4))
              clear hE h0 h1 h2 h3 h4
              go_wp2_with fail
              obtain ⟨h0, h1, h2, h3, h4⟩ := HE.out
              refine bodyPost_ret (v := .agg #[.int .i64 id, .int .i64 (1 + v1), .int .i64 0, .int .i64 (-1), .bool b4]) (by simp [results, Tryz.results85, go_sem, h0, h1, h2, h3, h4]) rfl ?_
              exact RVal.mk ⟨⟨id, (1 + v1), 0, (-1), b4⟩, _, rfl, bxBd_mk (by omega) (by omega), by omega, by omega, HRD.out, HGR.out⟩
            · have g0 := hZ.cellAt 1 (by simp)
              simp only [List.getElem_cons_zero, List.getElem_cons_succ] at g0
              have c0 := (HDb.out.blk).cellAt 0 (by simp [boxC])
              have f0 := (HDb.out.blk).frozen 0
              have r0 := (HDb.out.res).cellAt 0 (by simp)
              have e0 := (HDb.out.res).frozen 0
              have c1 := (HDb.out.blk).cellAt 1 (by simp [boxC])
              have f1 := (HDb.out.blk).frozen 1
              have r1 := (HDb.out.res).cellAt 1 (by simp)
              have e1 := (HDb.out.res).frozen 1
              have c2 := (HDb.out.blk).cellAt 2 (by simp [boxC])
              have f2 := (HDb.out.blk).frozen 2
              have r2 := (HDb.out.res).cellAt 2 (by simp)
              have e2 := (HDb.out.res).frozen 2
              have c3 := (HDb.out.blk).cellAt 3 (by simp [boxC])
              have f3 := (HDb.out.blk).frozen 3
              have r3 := (HDb.out.res).cellAt 3 (by simp)
              have e3 := (HDb.out.res).frozen 3
              have c4 := (HDb.out.blk).cellAt 4 (by simp [boxC])
              have f4 := (HDb.out.blk).frozen 4
              have r4 := (HDb.out.res).cellAt 4 (by simp)
              have e4 := (HDb.out.res).frozen 4
              simp only [boxC, List.getElem_cons_zero, List.getElem_cons_succ] at c0 r0 c1 r1 c2 r2 c3 r3 c4 r4
              have HDx := Lib.hid (HDb.out.set_ 3 (.int .i64 (7)) ⟨id, (1 + v1), 0, (7), b4⟩ rfl)
              clear HDb hZ

              have hE := ((((((HDx.out.res).set_ 0 (.int .i64 id)).set_ 1 (.int .i64 (1 + v1))).set_ 2 (.int .i64 0)).set_ 3 (.int .i64 (7))).set_ 4 (.bool b4))
              simp only [List.set_cons_zero, List.set_cons_succ] at hE
              have h0 := hE.cellAt 0 (by simp)
              have h1 := hE.cellAt 1 (by simp)
              have h2 := hE.cellAt 2 (by simp)
              have h3 := hE.cellAt 3 (by simp)
              have h4 := hE.cellAt 4 (by simp)
              simp only [List.getElem_cons_zero, List.getElem_cons_succ] at h0 h1 h2 h3 h4
              have HE := Lib.hid (And.intro h0 (And.intro h1 (And.intro h2 (And.intro h3 h4))))
              have HRD := Lib.hid (bx_rd (bx_rd (bx_rd (bx_rd (bx_rd (HDx.out.rd) (p := ⟨r, 0, none⟩) (by show g < r; exact HDx.out.lt) (.int .i64 id)) (p := ⟨r, 1, none⟩) (by show g < r; exact HDx.out.lt) (.int .i64 (1 + v1))) (p := ⟨r, 2, none⟩) (by show g < r; exact HDx.out.lt) (.int .i64 0)) (p := ⟨r, 3, none⟩) (by show g < r; exact HDx.out.lt) (.int .i64 (7))) (p := ⟨r, 4, none⟩) (by show g < r; exact HDx.out.lt) (.bool b4))
              have HGR := Lib.hid (bx_set (bx_set (bx_set (bx_set (bx_set (HDx.out.gr) (p := ⟨r, 0, none⟩) (by show w.heap.size ≤ r; exact HDx.out.own) (.int .i64 id)) (p := ⟨r, 1, none⟩) (by show w.heap.size ≤ r; exact HDx.out.own) (.int .i64 (1 + v1))) (p := ⟨r, 2, none⟩) (by show w.heap.size ≤ r; exact HDx.out.own) (.int .i64 0)) (p := ⟨r, 3, none⟩) (by show w.heap.size ≤ r; exact HDx.out.own) (.int .i64 (7))) (p := ⟨r, 4, none⟩) (by show w.heap.size ≤ r; exact HDx.out.own) (.bool b4))
              clear hE h0 h1 h2 h3 h4
              go_wp2_with fail
              obtain ⟨h0, h1, h2, h3, h4⟩ := HE.out
              refine bodyPost_ret (v := .agg #[.int .i64 id, .int .i64 (1 + v1), .int .i64 0, .int .i64 (7), .bool b4]) (by simp [results, Tryz.results85, go_sem, h0, h1, h2, h3, h4]) rfl ?_
              exact RVal.mk ⟨⟨id, (1 + v1), 0, (7), b4⟩, _, rfl, bxBd_mk (by omega) (by omega), by omega, by omega, HRD.out, HGR.out⟩
end Go.Proofs.YtbkfhcbecejomaaGreat
