/- A deed that is drawn: three numbers, whatever they are. -/
import Derived.Test.YtpkbipjnobfcdaaRdr
import Derived.Test.YtpkbipjnobfcdaaDedS
import Derived.Deep.RegionLaw
import Derived.Deep.DrawnRows
import Derived.Deep.CutRange
namespace Go.Proofs.Ytpkbipjnobfcdaa
open Go Go.ChangeShapes Go.WideShapes Go.ChangeAt Go.RowKit
set_option linter.unusedVariables false
set_option linter.unusedSimpArgs false
attribute [local go_sem ↓] Go.wp_at_zero Go.wp_at_succ
def kdAt (v : Int) : Int := [0, 0, 0, 1, 1, 2, 2].getD v.toNat 0
theorem kdAt_some (v : Int) (h0 : 0 ≤ v) (h1 : v < 7) : [Value.int .i64 0, .int .i64 0, .int .i64 0, .int .i64 1, .int .i64 1, .int .i64 2, .int .i64 2][v.toNat]? = some (.int .i64 (kdAt v)) := by
  obtain rfl | rfl | rfl | rfl | rfl | rfl | rfl : v = 0 ∨ v = 1 ∨ v = 2 ∨ v = 3 ∨ v = 4 ∨ v = 5 ∨ v = 6 := by omega
  all_goals rfl
theorem kdAt_get (v : Int) (h0 : 0 ≤ v) (h1 : v < 7) : ∀ h, [Value.int .i64 0, .int .i64 0, .int .i64 0, .int .i64 1, .int .i64 1, .int .i64 2, .int .i64 2][v.toNat]'h = .int .i64 (kdAt v) := by
  obtain rfl | rfl | rfl | rfl | rfl | rfl | rfl : v = 0 ∨ v = 1 ∨ v = 2 ∨ v = 3 ∨ v = 4 ∨ v = 5 ∨ v = 6 := by omega
  all_goals exact fun _ => rfl
theorem kdAt_bd (v : Int) : 0 ≤ kdAt v ∧ kdAt v ≤ 2 := by
  unfold kdAt
  rcases hv : v.toNat with _ | _ | _ | _ | _ | _ | _ | k <;> simp
theorem Rdr.drewD {w : World} {g q : Nat} (h : Rdr w g q) : Rdr w.drew g q := h
theorem Rdr.allocD {w : World} {g q : Nat} (h : Rdr w g q) (o : Obj) : Rdr (w.alloc o) g q := h.kept ((Below.refl _ _).alloc (Nat.le_refl _) _)
theorem onlyD_alloc {w W : World} {g : Nat} (h : w.grownBy W (some g)) (o : Obj) : w.grownBy (W.alloc o) (some g) := only_trans h (only_below ((Below.refl _ _).alloc (Nat.le_refl _) _) g)
theorem onlyD_drew {w W : World} {g : Nat} (h : w.grownBy W (some g)) : w.grownBy W.drew (some g) := only_drewN h 1
/-- a deed in the making lies in block r; the reader has gone on -/
structure DeedAt (w W : World) (g q r : Nat) (z0 z1 z2 : Value) : Prop where
  rd : Rdr W g q
  gr : w.grownBy W (some g)
  blk : Blk W r 41 [z0, z1, z2]
  lt : g < r
  own : w.heap.size ≤ r
theorem DeedAt.drew {w W : World} {g q r : Nat} {z0 z1 z2 : Value} (h : DeedAt w W g q r z0 z1 z2) : DeedAt w W.drew g q r z0 z1 z2 := ⟨h.rd, onlyD_drew h.gr, h.blk, h.lt, h.own⟩
theorem DeedAt.alloc {w W : World} {g q r : Nat} {z0 z1 z2 : Value} (h : DeedAt w W g q r z0 z1 z2) (o : Obj) : DeedAt w (W.alloc o) g q r z0 z1 z2 := ⟨h.rd.allocD o, onlyD_alloc h.gr o, h.blk.alloc o, h.lt, h.own⟩
theorem DeedAt.pick {w W W' : World} {g q q' r : Nat} {z0 z1 z2 : Value} (h : DeedAt w W g q r z0 z1 z2) (hr : Rdr W' g q') (hg : W.grownBy W' (some g)) : DeedAt w W' g q' r z0 z1 z2 := ⟨hr, only_trans h.gr hg, h.blk.only hg (by have := h.lt; omega), h.lt, h.own⟩
theorem pickD {w W : World} {g q r : Nat} {z0 z1 z2 : Value} {m : Int} (h : DeedAt w W g q r z0 z1 z2) (hq : q ≤ 1000000000) (hm : 1 ≤ m ∧ m ≤ 1000000000) :
    Calls Try.prog 42 #[.pointer (some ⟨g, 0, none⟩), .int .i64 m] W (RInt fun v w' => (0 ≤ v ∧ v < m) ∧ DeedAt w w' g (q + 1) r z0 z1 z2 ∧ W.grownBy w' (some g)) :=
  (pick_any g q m W h.rd hq hm.2).mono fun e w' ⟨v, he, ⟨h0, h1, _⟩, hr, hg⟩ => ⟨v, he, ⟨h0, h1 hm.1⟩, h.pick hr hg, hg⟩
/-- what was drawn: three numbers -/
def DeedCut (w : World) (g q r : Nat) (wx : World) : Prop := ∃ k x m : Int, DeedAt w wx g q r (.int .i64 k) (.int .i64 x) (.int .i64 m)
theorem DeedAt.set {w W : World} {g q r : Nat} {z0 z1 z2 : Value} (h : DeedAt w W g q r z0 z1 z2) (k x m : Int) : DeedCut w g q r (((W.setCell ⟨r, 0, none⟩ (.int .i64 k)).setCell ⟨r, 1, none⟩ (.int .i64 x)).setCell ⟨r, 2, none⟩ (.int .i64 m)) := by
  have hs : ∀ (U : World) (i : Nat) (u : Value), w.grownBy U (some g) → w.grownBy (U.setCell ⟨r, i, none⟩ u) (some g) := fun U i u hU =>
    only_own hU (row := some r) ⟨rfl, rfl, rfl, by simp [World.setCell], fun k _ hk => Below.heap_setCell U ⟨r, i, none⟩ u k (by intro e; exact hk (by rw [e]))⟩ (fun b' e => by injection e with e; have := h.own; omega)
  have hr : ∀ (U : World) (i : Nat) (u : Value), Rdr U g q → Rdr (U.setCell ⟨r, i, none⟩ u) g q := fun U i u hU =>
    hU.away (row := some r) ⟨rfl, rfl, rfl, by simp [World.setCell], fun k _ hk => Below.heap_setCell U ⟨r, i, none⟩ u k (by intro e; exact hk (by rw [e]))⟩ (fun b' e => by injection e with e; have := h.lt; omega)
  exact ⟨k, x, m, hr _ _ _ (hr _ _ _ (hr _ _ _ h.rd)), hs _ _ _ (hs _ _ _ (hs _ _ _ h.gr)), ((h.blk.set_ 0 _).set_ 1 _).set_ 2 _, h.lt, h.own⟩
set_option maxRecDepth 100000 in
set_option maxHeartbeats 16000000 in
theorem l20PaperDeed_any (g q : Nat) (w : World) (hr : Rdr w g q) (hq : q ≤ 100000000) :
    Calls Try.prog 48 #[.pointer (some ⟨g, 0, none⟩)] w (RVal fun v w' => ∃ k x m : Int, v = .agg #[.int .i64 k, .int .i64 x, .int .i64 m] ∧ Rdr w' g (q + 6) ∧ w.grownBy w' (some g)) := by
  have D0 : DeedAt w (w.alloc (.cells #[.int .i64 0, .int .i64 0, .int .i64 0] 41)) g q w.heap.size (.int .i64 0) (.int .i64 0) (.int .i64 0) := ⟨hr.allocD _, onlyD_alloc (only_refl _ _) _, Blk.new _ _ _, hr.lt, Nat.le_refl _⟩
  have HD0 := Lib.hid D0
  clear D0 hr
  go_enter Try.func48, Try.ntmps48
  go_upto_region 1 with fail
  generalize w.alloc (.cells #[.int .i64 0, .int .i64 0, .int .i64 0] 41) = w0 at *
  generalize w.heap.size = r at *
  go_cut [] from 3 to 29 (fun wx => DeedCut w g (q + 6) r wx)
  case first =>
    go_region_law (first
      | (have _tk := HD5
         go_simp; go_at_call 42
         clear _tk
         (with_reducible refine (pickD (w := w) (g := g) (q := q + 1 + 1 + 1 + 1 + 1) (r := r) (z0 := .int .i64 0) (z1 := .int .i64 0) (z2 := .int .i64 0) (m := 40) (by (repeat (first | exact HD5.out | with_reducible refine DeedAt.drew ?_ | with_reducible refine DeedAt.alloc ?_ _))) (by omega) (by decide)).mono ?_)
         rintro e w6 ⟨v6, rfl, ⟨va6, vb6⟩, d6, hg6⟩
         have HD6 := Lib.hid d6
         (first | (have hB2 := hB.only hg6 (by omega); clear hB; have hB := hB2; clear hB2; have hx := hB.cell v1.toNat; rw [hl1] at hx) | skip)
         (first | (have _t := hB) | ((first | (have hB := (Blk.drew (Blk.new w5 3 [Value.int .i64 0, .int .i64 0, .int .i64 0, .int .i64 1, .int .i64 1, .int .i64 2, .int .i64 2])).only hg6 (by have := HD5.out.rd.lt; omega); have hbg := Nat.lt_of_lt_of_le HD5.out.rd.lt (Nat.le_refl w5.heap.size)) | (have hB := (Blk.new w5 3 [Value.int .i64 0, .int .i64 0, .int .i64 0, .int .i64 1, .int .i64 1, .int .i64 2, .int .i64 2]).only hg6 (by have := HD5.out.rd.lt; omega); have hbg := Nat.lt_of_lt_of_le HD5.out.rd.lt (Nat.le_refl w5.heap.size)) | skip); (first | (have hx := hB.cell v1.toNat; rw [hl1] at hx) | skip)))
         have zb := HD6.out.blk
         have zc := zb.alloc (.cells ([Value.int .i64 0, .int .i64 0, .int .i64 0, .int .i64 1, .int .i64 1, .int .i64 2, .int .i64 2]).toArray 3)
         have za0 := zb.cellAt 0 (by simp)
         have zaf0 := zb.frozen 0
         have za1 := zb.cellAt 1 (by simp)
         have zaf1 := zb.frozen 1
         have za2 := zb.cellAt 2 (by simp)
         have zaf2 := zb.frozen 2
         have zd0 := zc.cellAt 0 (by simp)
         have zdf0 := zc.frozen 0
         have zd1 := zc.cellAt 1 (by simp)
         have zdf1 := zc.frozen 1
         have zd2 := zc.cellAt 2 (by simp)
         have zdf2 := zc.frozen 2
         simp only [List.getElem_cons_zero, List.getElem_cons_succ] at za0 za1 za2 zd0 zd1 zd2
         clear d6 hg6)
      | (have _tk := HD4
         go_simp; go_at_call 42
         clear _tk
         (with_reducible refine (pickD (w := w) (g := g) (q := q + 1 + 1 + 1 + 1) (r := r) (z0 := .int .i64 0) (z1 := .int .i64 0) (z2 := .int .i64 0) (m := 3) (by (repeat (first | exact HD4.out | with_reducible refine DeedAt.drew ?_ | with_reducible refine DeedAt.alloc ?_ _))) (by omega) (by decide)).mono ?_)
         rintro e w5 ⟨v5, rfl, ⟨va5, vb5⟩, d5, hg5⟩
         have HD5 := Lib.hid d5
         (first | (have hB2 := hB.only hg5 (by omega); clear hB; have hB := hB2; clear hB2; have hx := hB.cell v1.toNat; rw [hl1] at hx) | skip)
         (first | (have _t := hB) | ((first | (have hB := (Blk.drew (Blk.new w4 3 [Value.int .i64 0, .int .i64 0, .int .i64 0, .int .i64 1, .int .i64 1, .int .i64 2, .int .i64 2])).only hg5 (by have := HD4.out.rd.lt; omega); have hbg := Nat.lt_of_lt_of_le HD4.out.rd.lt (Nat.le_refl w4.heap.size)) | (have hB := (Blk.new w4 3 [Value.int .i64 0, .int .i64 0, .int .i64 0, .int .i64 1, .int .i64 1, .int .i64 2, .int .i64 2]).only hg5 (by have := HD4.out.rd.lt; omega); have hbg := Nat.lt_of_lt_of_le HD4.out.rd.lt (Nat.le_refl w4.heap.size)) | skip); (first | (have hx := hB.cell v1.toNat; rw [hl1] at hx) | skip)))
         clear d5 hg5)
      | (have _tk := HD3
         go_simp; go_at_call 42
         clear _tk
         (with_reducible refine (pickD (w := w) (g := g) (q := q + 1 + 1 + 1) (r := r) (z0 := .int .i64 0) (z1 := .int .i64 0) (z2 := .int .i64 0) (m := 40) (by (repeat (first | exact HD3.out | with_reducible refine DeedAt.drew ?_ | with_reducible refine DeedAt.alloc ?_ _))) (by omega) (by decide)).mono ?_)
         rintro e w4 ⟨v4, rfl, ⟨va4, vb4⟩, d4, hg4⟩
         have HD4 := Lib.hid d4
         (first | (have hB2 := hB.only hg4 (by omega); clear hB; have hB := hB2; clear hB2; have hx := hB.cell v1.toNat; rw [hl1] at hx) | skip)
         (first | (have _t := hB) | ((first | (have hB := (Blk.drew (Blk.new w3 3 [Value.int .i64 0, .int .i64 0, .int .i64 0, .int .i64 1, .int .i64 1, .int .i64 2, .int .i64 2])).only hg4 (by have := HD3.out.rd.lt; omega); have hbg := Nat.lt_of_lt_of_le HD3.out.rd.lt (Nat.le_refl w3.heap.size)) | (have hB := (Blk.new w3 3 [Value.int .i64 0, .int .i64 0, .int .i64 0, .int .i64 1, .int .i64 1, .int .i64 2, .int .i64 2]).only hg4 (by have := HD3.out.rd.lt; omega); have hbg := Nat.lt_of_lt_of_le HD3.out.rd.lt (Nat.le_refl w3.heap.size)) | skip); (first | (have hx := hB.cell v1.toNat; rw [hl1] at hx) | skip)))
         clear d4 hg4)
      | (have _tk := HD2
         go_simp; go_at_call 42
         clear _tk
         (with_reducible refine (pickD (w := w) (g := g) (q := q + 1 + 1) (r := r) (z0 := .int .i64 0) (z1 := .int .i64 0) (z2 := .int .i64 0) (m := 6) (by (repeat (first | exact HD2.out | with_reducible refine DeedAt.drew ?_ | with_reducible refine DeedAt.alloc ?_ _))) (by omega) (by decide)).mono ?_)
         rintro e w3 ⟨v3, rfl, ⟨va3, vb3⟩, d3, hg3⟩
         have HD3 := Lib.hid d3
         (first | (have hB2 := hB.only hg3 (by omega); clear hB; have hB := hB2; clear hB2; have hx := hB.cell v1.toNat; rw [hl1] at hx) | skip)
         (first | (have _t := hB) | ((first | (have hB := (Blk.drew (Blk.new w2 3 [Value.int .i64 0, .int .i64 0, .int .i64 0, .int .i64 1, .int .i64 1, .int .i64 2, .int .i64 2])).only hg3 (by have := HD2.out.rd.lt; omega); have hbg := Nat.lt_of_lt_of_le HD2.out.rd.lt (Nat.le_refl w2.heap.size)) | (have hB := (Blk.new w2 3 [Value.int .i64 0, .int .i64 0, .int .i64 0, .int .i64 1, .int .i64 1, .int .i64 2, .int .i64 2]).only hg3 (by have := HD2.out.rd.lt; omega); have hbg := Nat.lt_of_lt_of_le HD2.out.rd.lt (Nat.le_refl w2.heap.size)) | skip); (first | (have hx := hB.cell v1.toNat; rw [hl1] at hx) | skip)))
         clear d3 hg3)
      | (have _tk := HD1
         go_simp; go_at_call 42
         clear _tk
         (with_reducible refine (pickD (w := w) (g := g) (q := q + 1) (r := r) (z0 := .int .i64 0) (z1 := .int .i64 0) (z2 := .int .i64 0) (m := 40) (by (repeat (first | exact HD1.out | with_reducible refine DeedAt.drew ?_ | with_reducible refine DeedAt.alloc ?_ _))) (by omega) (by decide)).mono ?_)
         rintro e w2 ⟨v2, rfl, ⟨va2, vb2⟩, d2, hg2⟩
         have HD2 := Lib.hid d2
         (first | (have hB2 := hB.only hg2 (by omega); clear hB; have hB := hB2; clear hB2; have hx := hB.cell v1.toNat; rw [hl1] at hx) | skip)
         (first | (have _t := hB) | ((first | (have hB := (Blk.drew (Blk.new w1 3 [Value.int .i64 0, .int .i64 0, .int .i64 0, .int .i64 1, .int .i64 1, .int .i64 2, .int .i64 2])).only hg2 (by have := HD1.out.rd.lt; omega); have hbg := Nat.lt_of_lt_of_le HD1.out.rd.lt (Nat.le_refl w1.heap.size)) | (have hB := (Blk.new w1 3 [Value.int .i64 0, .int .i64 0, .int .i64 0, .int .i64 1, .int .i64 1, .int .i64 2, .int .i64 2]).only hg2 (by have := HD1.out.rd.lt; omega); have hbg := Nat.lt_of_lt_of_le HD1.out.rd.lt (Nat.le_refl w1.heap.size)) | skip); (first | (have hx := hB.cell v1.toNat; rw [hl1] at hx) | skip)))
         clear d2 hg2)
      | (have _tk := HD0
         go_simp; go_at_call 42
         clear _tk
         (with_reducible refine (pickD (w := w) (g := g) (q := q) (r := r) (z0 := .int .i64 0) (z1 := .int .i64 0) (z2 := .int .i64 0) (m := 7) (by (repeat (first | exact HD0.out | with_reducible refine DeedAt.drew ?_ | with_reducible refine DeedAt.alloc ?_ _))) (by omega) (by decide)).mono ?_)
         rintro e w1 ⟨v1, rfl, ⟨va1, vb1⟩, d1, hg1⟩
         have HD1 := Lib.hid d1
         have hl1 := kdAt_some v1 va1 vb1
         have hl2 := kdAt_get v1 va1 vb1
         have hkb := kdAt_bd v1
         (first | (have hB := (Blk.drew (Blk.new w0 3 [Value.int .i64 0, .int .i64 0, .int .i64 0, .int .i64 1, .int .i64 1, .int .i64 2, .int .i64 2])).only hg1 (by have := HD0.out.rd.lt; omega); have hbg := Nat.lt_of_lt_of_le HD0.out.rd.lt (Nat.le_refl w0.heap.size)) | (have hB := (Blk.new w0 3 [Value.int .i64 0, .int .i64 0, .int .i64 0, .int .i64 1, .int .i64 1, .int .i64 2, .int .i64 2]).only hg1 (by have := HD0.out.rd.lt; omega); have hbg := Nat.lt_of_lt_of_le HD0.out.rd.lt (Nat.le_refl w0.heap.size)) | skip)
         (first | (have hx := hB.cell v1.toNat; rw [hl1] at hx) | skip)
         clear d1 hg1))
    all_goals (go_wp2_with fail; go_meet)
    all_goals (first | exact HD6.out.set _ _ _ | exact (HD6.out.alloc _).set _ _ _)
  case rest =>
    obtain ⟨k, x, m, D⟩ := hcut
    have u0 := D.blk.cellAt 0 (by simp)
    have u1 := D.blk.cellAt 1 (by simp)
    have u2 := D.blk.cellAt 2 (by simp)
    simp only [List.getElem_cons_zero, List.getElem_cons_succ] at u0 u1 u2
    have HD := Lib.hid D
    clear D
    go_wp2_with fail
    refine bodyPost_ret (v := .agg #[.int .i64 k, .int .i64 x, .int .i64 m]) (by simp [results, Try.results48, go_sem, *]) rfl ?_
    exact RVal.mk ⟨k, x, m, rfl, HD.out.rd, HD.out.gr⟩
end Go.Proofs.Ytpkbipjnobfcdaa
