/- Lists of Diff: their cells; copying, comparing, measuring. -/
import Derived.Test.YtbhnlooellgfaaaFlat
import Derived.Test.YtbhnlooellgfaaaBoxS
import Derived.Test.YtbhnlooellgfaaaProg
import Derived.Deep.QuietTactic
import Derived.BigQuiet
import Derived.Deep.RegionHeld3
namespace Go.Proofs.Ytbhnlooellgfaaa
open Go Go.ChangeShapes Go.WideShapes Go.ChangeAt Go.RowKit
theorem set_6 (l r : List Value) (a0 a1 a2 a3 a4 a5 c0 c1 c2 c3 c4 c5 : Value) (i : Nat) (hl : l.length = i) : ((((((l ++ ([a0, a1, a2, a3, a4, a5] ++ r)).set i c0).set (i + 1) c1).set (i + 1 + 1) c2).set (i + 1 + 1 + 1) c3).set (i + 1 + 1 + 1 + 1) c4).set (i + 1 + 1 + 1 + 1 + 1) c5 = l ++ ([c0, c1, c2, c3, c4, c5] ++ r) := by
  subst hl
  simp [Nat.add_assoc]
def diffC (x : DiffV) : List Value := [.int .i64 x.k, .int .i64 x.b.f0, .int .i64 x.b.f1, .int .i64 x.b.f2, .int .i64 x.b.f3, .bool x.b.f4]
theorem diffC_len (x : DiffV) : (diffC x).length = 6 := rfl
/-- the cells of a list -/
def diffs (zs : List DiffV) : List Value := cellsOf diffC zs
theorem diffs_len (zs : List DiffV) : (diffs zs).length = zs.length * 6 := cellsOf_len _ _ diffC_len zs
theorem RdV.diffAt {w : World} {A : Option Addr} {zs : List DiffV} (h : RdV w A (diffs zs)) {j : Nat} (hj : j < zs.length) : ∃ b o, A = some ⟨b, o, none⟩ ∧ b < w.heap.size ∧ w.cell? ⟨b, o + j * 6, none⟩ = some (.int .i64 (zs[j]).k) ∧ w.cell? ⟨b, o + j * 6 + 1, none⟩ = some (.int .i64 (zs[j]).b.f0) ∧ w.cell? ⟨b, o + j * 6 + 2, none⟩ = some (.int .i64 (zs[j]).b.f1) ∧ w.cell? ⟨b, o + j * 6 + 3, none⟩ = some (.int .i64 (zs[j]).b.f2) ∧ w.cell? ⟨b, o + j * 6 + 4, none⟩ = some (.int .i64 (zs[j]).b.f3) ∧ w.cell? ⟨b, o + j * 6 + 5, none⟩ = some (.bool (zs[j]).b.f4) := by
  obtain ⟨b, o, hA, hl, hc⟩ := RdV.fieldAt diffC_len h hj (by decide)
  exact ⟨b, o, hA, hl, hc 0 _ rfl, hc 1 _ rfl, hc 2 _ rfl, hc 3 _ rfl, hc 4 _ rfl, hc 5 _ rfl⟩
theorem diff_info : (Try.prog.info? 56).map (fun i => (i.zero, i.size, i.bytes)) = some (some (.agg #[.int .i64 0, .int .i64 0, .int .i64 0, .int .i64 0, .int .i64 0, .bool false]), 6, 48) := by kernel_rfl
set_option maxHeartbeats 1000000 in
theorem toDiff_any (x : DiffV) (w : World) : Calls Try.prog 46 #[.agg #[.int .i64 x.k, .int .i64 x.b.f0, .int .i64 x.b.f1, .int .i64 x.b.f2, .int .i64 x.b.f3, .bool x.b.f4]] w fun e w' => e = .returned (.agg #[.int .i64 x.k, .int .i64 x.b.f0, .int .i64 x.b.f1, .int .i64 x.b.f2, .int .i64 x.b.f3, .bool x.b.f4]) ∧ Below w.heap.size w w' := by
  obtain ⟨k, x0, x1, x2, x3, x4⟩ := x
  dsimp only
  go_enter Try.func46, Try.ntmps46
  have hT := toBox_any ⟨x0, x1, x2, x3, x4⟩
  dsimp only at hT
  go_wp2_with fail
  refine (hT _).mono ?_
  rintro e w2 ⟨rfl, hb2⟩
  clear hT
  have hB := (Blk.new _ 56 [.int .i64 k, .int .i64 0, .int .i64 0, .int .i64 0, .int .i64 0, .bool false]).later hb2
  simp only [World.size_alloc] at hB
  have c0 := hB.cellAt 0 (by simp)
  have c1 := hB.cellAt 1 (by simp)
  have c2 := hB.cellAt 2 (by simp)
  have c3 := hB.cellAt 3 (by simp)
  have c4 := hB.cellAt 4 (by simp)
  have c5 := hB.cellAt 5 (by simp)
  have f1 := hB.frozen 1
  have f2 := hB.frozen 2
  have f3 := hB.frozen 3
  have f4 := hB.frozen 4
  have f5 := hB.frozen 5
  simp only [List.getElem_cons_zero, List.getElem_cons_succ] at c0 c1 c2 c3 c4 c5
  have hD := (((Blk.new (w.alloc (.cells [Value.int .i64 k, .int .i64 x0, .int .i64 x1, .int .i64 x2, .int .i64 x3, .bool x4].toArray 67)) 56 [.int .i64 0, .int .i64 0, .int .i64 0, .int .i64 0, .int .i64 0, .bool false]).alloc _).later hb2)
  simp only [World.size_alloc] at hD
  have d0 := hD.cellAt 0 (by simp)
  have e0 := hD.frozen 0
  have d1 := hD.cellAt 1 (by simp)
  have e1 := hD.frozen 1
  have d2 := hD.cellAt 2 (by simp)
  have e2 := hD.frozen 2
  have d3 := hD.cellAt 3 (by simp)
  have e3 := hD.frozen 3
  have d4 := hD.cellAt 4 (by simp)
  have e4 := hD.frozen 4
  have d5 := hD.cellAt 5 (by simp)
  have e5 := hD.frozen 5
  simp only [List.getElem_cons_zero, List.getElem_cons_succ] at d0 d1 d2 d3 d4 d5
  have hbw : Below w.heap.size w w2 := below_trans ((((Below.refl _ _).alloc (Nat.le_refl _) _).alloc (by simp) _).alloc (by simp; omega) _) hb2
  have hE := (((((((((((hD.far (p := ⟨w.heap.size + 1 + 1, 1, none⟩) (by show w.heap.size + 1 ≠ w.heap.size + 1 + 1; omega) (.int .i64 x0)).far (p := ⟨w.heap.size + 1 + 1, 2, none⟩) (by show w.heap.size + 1 ≠ w.heap.size + 1 + 1; omega) (.int .i64 x1)).far (p := ⟨w.heap.size + 1 + 1, 3, none⟩) (by show w.heap.size + 1 ≠ w.heap.size + 1 + 1; omega) (.int .i64 x2)).far (p := ⟨w.heap.size + 1 + 1, 4, none⟩) (by show w.heap.size + 1 ≠ w.heap.size + 1 + 1; omega) (.int .i64 x3)).far (p := ⟨w.heap.size + 1 + 1, 5, none⟩) (by show w.heap.size + 1 ≠ w.heap.size + 1 + 1; omega) (.bool x4)).set_ 0 (.int .i64 k)).set_ 1 (.int .i64 x0)).set_ 2 (.int .i64 x1)).set_ 3 (.int .i64 x2)).set_ 4 (.int .i64 x3)).set_ 5 (.bool x4))
  simp only [List.set_cons_zero, List.set_cons_succ] at hE
  have g0 := hE.cellAt 0 (by simp)
  have g1 := hE.cellAt 1 (by simp)
  have g2 := hE.cellAt 2 (by simp)
  have g3 := hE.cellAt 3 (by simp)
  have g4 := hE.cellAt 4 (by simp)
  have g5 := hE.cellAt 5 (by simp)
  simp only [List.getElem_cons_zero, List.getElem_cons_succ] at g0 g1 g2 g3 g4 g5
  have HG := Lib.hid (And.intro g0 (And.intro g1 (And.intro g2 (And.intro g3 (And.intro g4 g5)))))
  have HBW := Lib.hid ((((((((((((hbw.setCell (p := ⟨w.heap.size + 1 + 1, 1, none⟩) (by show w.heap.size ≤ w.heap.size + 1 + 1; omega) (.int .i64 x0)).setCell (p := ⟨w.heap.size + 1 + 1, 2, none⟩) (by show w.heap.size ≤ w.heap.size + 1 + 1; omega) (.int .i64 x1)).setCell (p := ⟨w.heap.size + 1 + 1, 3, none⟩) (by show w.heap.size ≤ w.heap.size + 1 + 1; omega) (.int .i64 x2)).setCell (p := ⟨w.heap.size + 1 + 1, 4, none⟩) (by show w.heap.size ≤ w.heap.size + 1 + 1; omega) (.int .i64 x3)).setCell (p := ⟨w.heap.size + 1 + 1, 5, none⟩) (by show w.heap.size ≤ w.heap.size + 1 + 1; omega) (.bool x4)).setCell (p := ⟨w.heap.size + 1, 0, none⟩) (by show w.heap.size ≤ w.heap.size + 1; omega) (.int .i64 k)).setCell (p := ⟨w.heap.size + 1, 1, none⟩) (by show w.heap.size ≤ w.heap.size + 1; omega) (.int .i64 x0)).setCell (p := ⟨w.heap.size + 1, 2, none⟩) (by show w.heap.size ≤ w.heap.size + 1; omega) (.int .i64 x1)).setCell (p := ⟨w.heap.size + 1, 3, none⟩) (by show w.heap.size ≤ w.heap.size + 1; omega) (.int .i64 x2)).setCell (p := ⟨w.heap.size + 1, 4, none⟩) (by show w.heap.size ≤ w.heap.size + 1; omega) (.int .i64 x3)).setCell (p := ⟨w.heap.size + 1, 5, none⟩) (by show w.heap.size ≤ w.heap.size + 1; omega) (.bool x4)) : Below w.heap.size w _)
  clear hbw hB hb2 hD hE g0 g1 g2 g3 g4 g5
  go_wp2_with fail
  obtain ⟨g0, g1, g2, g3, g4, g5⟩ := HG.out
  refine bodyPost_ret (v := .agg #[.int .i64 k, .int .i64 x0, .int .i64 x1, .int .i64 x2, .int .i64 x3, .bool x4]) (by simp [results, Try.results46, go_sem, g0, g1, g2, g3, g4, g5]) rfl ⟨rfl, ?_⟩
  exact HBW.out
theorem make_diff (n : Nat) (hn : n ≤ 1048576) (w : World) : (Instr.makeSlice 30 (.int .i64 (n : Int)) (.int .i64 (n : Int))).run Try.prog w = .ok (.slice (some ⟨w.heap.size, 0, none⟩) n n) (w.alloc (.cells ((List.replicate n [.int .i64 0, .int .i64 0, .int .i64 0, .int .i64 0, .int .i64 0, .bool false]).flatten).toArray 56)) :=
  run_make_rowk (P := Try.prog) 30 56 (.agg #[.int .i64 0, .int .i64 0, .int .i64 0, .int .i64 0, .int .i64 0, .bool false]) [.int .i64 0, .int .i64 0, .int .i64 0, .int .i64 0, .int .i64 0, .bool false] 48 6 Try.underlying30 diff_info rfl rfl (by decide) n (by omega) (by omega) w
set_option maxHeartbeats 1000000 in
theorem toDiffS_any (A : Option Addr) (zs : List DiffV) (n c : Nat) (hzn : zs.length = n) (w : World) (hr : RdV w A (diffs zs)) (hn : n ≤ 1048576) :
    Calls Try.prog 28 #[.slice A n c] w fun e w' => e = .returned (.slice (some ⟨w.heap.size, 0, none⟩) n n) ∧ Blk w' w.heap.size 56 (diffs zs) ∧ Below w.heap.size w w' := by
  have hmk := make_diff n hn
  have HZ := Lib.hid hzn
  rw [← hzn, ← cpF_zero diffC [.int .i64 0, .int .i64 0, .int .i64 0, .int .i64 0, .int .i64 0, .bool false] zs] at hmk
  rw [hzn] at hmk
  clear hzn
  go_enter Try.func28, Try.ntmps28
  go_wp2
  go_loopw [4] (fun i wr => ∃ k : Nat, k ≤ n ∧ i = .int .i64 k ∧ Blk wr w.heap.size 56 (cpF diffC [.int .i64 0, .int .i64 0, .int .i64 0, .int .i64 0, .int .i64 0, .bool false] zs k) ∧ Below w.heap.size w wr) (fun i _ => n - (intOf i).toNat)
  case atStart => exact ⟨0, Nat.zero_le _, rfl, Blk.new _ _ _, (Below.refl _ _).alloc (Nat.le_refl _) _⟩
  case round =>
    obtain ⟨k, hk, rfl, hblk, hb⟩ := hrel
    by_cases hlt : k < n
    · have hkz : k < zs.length := by rw [HZ.out]; exact hlt
      obtain ⟨b, off, rfl, hlb, hc0, hc1, hc2, hc3, hc4, hc5⟩ := hr.diffAt hkz
      obtain ⟨e1, e2, e3⟩ := cpF_at diffC [.int .i64 0, .int .i64 0, .int .i64 0, .int .i64 0, .int .i64 0, .bool false] zs k 6 diffC_len hkz
      have hs0 : wr.cell? ⟨b, off + k * 6, none⟩ = some (.int .i64 (zs[k]).k) := (hb.cell (p := ⟨b, off + k * 6, none⟩) hlb).trans hc0
      have hs1 : wr.cell? ⟨b, off + k * 6 + 1, none⟩ = some (.int .i64 (zs[k]).b.f0) := (hb.cell (p := ⟨b, off + k * 6 + 1, none⟩) hlb).trans hc1
      have hs2 : wr.cell? ⟨b, off + k * 6 + 2, none⟩ = some (.int .i64 (zs[k]).b.f1) := (hb.cell (p := ⟨b, off + k * 6 + 2, none⟩) hlb).trans hc2
      have hs3 : wr.cell? ⟨b, off + k * 6 + 3, none⟩ = some (.int .i64 (zs[k]).b.f2) := (hb.cell (p := ⟨b, off + k * 6 + 3, none⟩) hlb).trans hc3
      have hs4 : wr.cell? ⟨b, off + k * 6 + 4, none⟩ = some (.int .i64 (zs[k]).b.f3) := (hb.cell (p := ⟨b, off + k * 6 + 4, none⟩) hlb).trans hc4
      have hs5 : wr.cell? ⟨b, off + k * 6 + 5, none⟩ = some (.bool (zs[k]).b.f4) := (hb.cell (p := ⟨b, off + k * 6 + 5, none⟩) hlb).trans hc5
      generalize zs[k] = x at *
      have E1 := Lib.hid e1
      have E2 := Lib.hid e2
      have E3 := Lib.hid e3
      clear e1 e2 e3 hmk hc0 hc1 hc2 hc3 hc4 hc5
      go_wp2_with fail
      refine (toDiff_any x _).mono ?_
      rintro e w2 ⟨rfl, hb2⟩
      have hblk2 := hblk.later hb2
      have hlt2 := hblk.lt
      rw [E1.out] at hblk2
      have hd0 : w2.cell? ⟨w.heap.size, k * 6, none⟩ = some (.int .i64 0) := by
        rw [hblk2.cell, List.getElem?_append_right (by rw [E3.out]; omega), E3.out]
        simp
      have hf0 : w2.frozen? ⟨w.heap.size, k * 6, none⟩ = false := hblk2.frozen _
      have hd1 : w2.cell? ⟨w.heap.size, k * 6 + 1, none⟩ = some (.int .i64 0) := by
        rw [hblk2.cell, List.getElem?_append_right (by rw [E3.out]; omega), E3.out]
        simp
      have hf1 : w2.frozen? ⟨w.heap.size, k * 6 + 1, none⟩ = false := hblk2.frozen _
      have hd2 : w2.cell? ⟨w.heap.size, k * 6 + 2, none⟩ = some (.int .i64 0) := by
        rw [hblk2.cell, List.getElem?_append_right (by rw [E3.out]; omega), E3.out]
        simp
      have hf2 : w2.frozen? ⟨w.heap.size, k * 6 + 2, none⟩ = false := hblk2.frozen _
      have hd3 : w2.cell? ⟨w.heap.size, k * 6 + 3, none⟩ = some (.int .i64 0) := by
        rw [hblk2.cell, List.getElem?_append_right (by rw [E3.out]; omega), E3.out]
        simp
      have hf3 : w2.frozen? ⟨w.heap.size, k * 6 + 3, none⟩ = false := hblk2.frozen _
      have hd4 : w2.cell? ⟨w.heap.size, k * 6 + 4, none⟩ = some (.int .i64 0) := by
        rw [hblk2.cell, List.getElem?_append_right (by rw [E3.out]; omega), E3.out]
        simp
      have hf4 : w2.frozen? ⟨w.heap.size, k * 6 + 4, none⟩ = false := hblk2.frozen _
      have hd5 : w2.cell? ⟨w.heap.size, k * 6 + 5, none⟩ = some (.bool false) := by
        rw [hblk2.cell, List.getElem?_append_right (by rw [E3.out]; omega), E3.out]
        simp
      have hf5 : w2.frozen? ⟨w.heap.size, k * 6 + 5, none⟩ = false := hblk2.frozen _
      have hset := ((((((hblk2.set_ (k * 6) (.int .i64 x.k)).set_ (k * 6 + 1) (.int .i64 x.b.f0)).set_ (k * 6 + 2) (.int .i64 x.b.f1)).set_ (k * 6 + 3) (.int .i64 x.b.f2)).set_ (k * 6 + 4) (.int .i64 x.b.f3)).set_ (k * 6 + 5) (.bool x.b.f4))
      have HSET := Lib.hid hset
      have HB := Lib.hid (hb.trans (hb2.mono hb.size))
      clear hset hblk hblk2 hb hb2
      go_wp2_with fail
      go_roundw
      case rel =>
        refine ⟨k + 1, by omega, by go_num, ?_, ((((((HB.out.setCell (p := ⟨w.heap.size, _, none⟩) (Nat.le_refl _) _).setCell (p := ⟨w.heap.size, _, none⟩) (Nat.le_refl _) _).setCell (p := ⟨w.heap.size, _, none⟩) (Nat.le_refl _) _).setCell (p := ⟨w.heap.size, _, none⟩) (Nat.le_refl _) _).setCell (p := ⟨w.heap.size, _, none⟩) (Nat.le_refl _) _).setCell (p := ⟨w.heap.size, _, none⟩) (Nat.le_refl _) _)⟩
        have h := HSET.out
        rw [set_6 _ _ _ _ _ _ _ _ _ _ _ _ _ _ _ E3.out] at h
        rw [E2.out]
        exact h
      case measure => simp [intOf]; omega
    · go_wp2_with fail
      go_ret
      obtain rfl : k = n := by omega
      rw [← HZ.out, cpF_all] at hblk
      exact ⟨rfl, hblk, hb⟩

set_option maxHeartbeats 1000000 in
theorem eqDiff_any (x : DiffV) (w : World) : Calls Try.prog 41 #[.agg #[.int .i64 x.k, .int .i64 x.b.f0, .int .i64 x.b.f1, .int .i64 x.b.f2, .int .i64 x.b.f3, .bool x.b.f4], .agg #[.int .i64 x.k, .int .i64 x.b.f0, .int .i64 x.b.f1, .int .i64 x.b.f2, .int .i64 x.b.f3, .bool x.b.f4]] w fun e w' => e = .returned (.bool true) ∧ Below w.heap.size w w' := by
  have h0 : (x.k != x.k) = false := by simp
  have h1 : (x.b.f0 != x.b.f0) = false := by simp
  have h2 : (x.b.f1 != x.b.f1) = false := by simp
  have h3 : (x.b.f2 != x.b.f2) = false := by simp
  have h4 : (x.b.f3 != x.b.f3) = false := by simp
  have h5 : (x.b.f4 != x.b.f4) = false := by simp
  go_enter Try.func41, Try.ntmps41
  go_wp2
  go_ret
  exact ⟨rfl, by repeat (first | exact Below.refl _ _ | refine Below.alloc ?_ (by simp <;> omega) _)⟩
set_option maxHeartbeats 1000000 in
theorem eqDiffS_any (A B : Option Addr) (zs : List DiffV) (n c d : Nat) (hzn : zs.length = n) (w : World) (ha : RdV w A (diffs zs)) (hb : RdV w B (diffs zs)) (hn : n ≤ 1099511627776) :
    Calls Try.prog 18 #[.slice A n c, .slice B n d] w fun e w' => e = .returned (.bool true) ∧ Below w.heap.size w w' := by
  have HZ := Lib.hid hzn
  clear hzn
  have hne : ((n : Int) != (n : Int)) = false := by simp
  go_enter Try.func18, Try.ntmps18
  go_wp2
  go_loopw [5] (fun i wr => ∃ k : Nat, k ≤ n ∧ i = .int .i64 k ∧ Below w.heap.size w wr) (fun i _ => n - (intOf i).toNat)
  case atStart => exact ⟨0, Nat.zero_le _, rfl, Below.refl _ _⟩
  case round =>
    obtain ⟨k, hk, rfl, hbl⟩ := hrel
    by_cases hlt : k < n
    · have hkz : k < zs.length := by rw [HZ.out]; exact hlt
      obtain ⟨b1, o1, rfl, hl1, hc0, hc1, hc2, hc3, hc4, hc5⟩ := ha.diffAt hkz
      obtain ⟨b2, o2, rfl, hl2, hd0, hd1, hd2, hd3, hd4, hd5⟩ := hb.diffAt hkz
      have hs0 : wr.cell? ⟨b1, o1 + k * 6, none⟩ = some (.int .i64 (zs[k]).k) := (hbl.cell (p := ⟨b1, o1 + k * 6, none⟩) hl1).trans hc0
      have ht0 : wr.cell? ⟨b2, o2 + k * 6, none⟩ = some (.int .i64 (zs[k]).k) := (hbl.cell (p := ⟨b2, o2 + k * 6, none⟩) hl2).trans hd0
      have hs1 : wr.cell? ⟨b1, o1 + k * 6 + 1, none⟩ = some (.int .i64 (zs[k]).b.f0) := (hbl.cell (p := ⟨b1, o1 + k * 6 + 1, none⟩) hl1).trans hc1
      have ht1 : wr.cell? ⟨b2, o2 + k * 6 + 1, none⟩ = some (.int .i64 (zs[k]).b.f0) := (hbl.cell (p := ⟨b2, o2 + k * 6 + 1, none⟩) hl2).trans hd1
      have hs2 : wr.cell? ⟨b1, o1 + k * 6 + 2, none⟩ = some (.int .i64 (zs[k]).b.f1) := (hbl.cell (p := ⟨b1, o1 + k * 6 + 2, none⟩) hl1).trans hc2
      have ht2 : wr.cell? ⟨b2, o2 + k * 6 + 2, none⟩ = some (.int .i64 (zs[k]).b.f1) := (hbl.cell (p := ⟨b2, o2 + k * 6 + 2, none⟩) hl2).trans hd2
      have hs3 : wr.cell? ⟨b1, o1 + k * 6 + 3, none⟩ = some (.int .i64 (zs[k]).b.f2) := (hbl.cell (p := ⟨b1, o1 + k * 6 + 3, none⟩) hl1).trans hc3
      have ht3 : wr.cell? ⟨b2, o2 + k * 6 + 3, none⟩ = some (.int .i64 (zs[k]).b.f2) := (hbl.cell (p := ⟨b2, o2 + k * 6 + 3, none⟩) hl2).trans hd3
      have hs4 : wr.cell? ⟨b1, o1 + k * 6 + 4, none⟩ = some (.int .i64 (zs[k]).b.f3) := (hbl.cell (p := ⟨b1, o1 + k * 6 + 4, none⟩) hl1).trans hc4
      have ht4 : wr.cell? ⟨b2, o2 + k * 6 + 4, none⟩ = some (.int .i64 (zs[k]).b.f3) := (hbl.cell (p := ⟨b2, o2 + k * 6 + 4, none⟩) hl2).trans hd4
      have hs5 : wr.cell? ⟨b1, o1 + k * 6 + 5, none⟩ = some (.bool (zs[k]).b.f4) := (hbl.cell (p := ⟨b1, o1 + k * 6 + 5, none⟩) hl1).trans hc5
      have ht5 : wr.cell? ⟨b2, o2 + k * 6 + 5, none⟩ = some (.bool (zs[k]).b.f4) := (hbl.cell (p := ⟨b2, o2 + k * 6 + 5, none⟩) hl2).trans hd5
      generalize zs[k] = x at *
      have hki : (k : Int) < (n : Int) := by omega
      have lw1 : b1 < wr.heap.size := Nat.lt_of_lt_of_le hl1 hbl.size
      have lw2 : b2 < wr.heap.size := Nat.lt_of_lt_of_le hl2 hbl.size
      clear hc0 hd0 hc1 hd1 hc2 hd2 hc3 hd3 hc4 hd4 hc5 hd5
      go_wp2_with fail
      go_region_held3 (fun w' => Below wr.heap.size wr w' ∧ w'.cell? ⟨b1, o1 + k * 6, none⟩ = some (.int .i64 x.k) ∧ w'.cell? ⟨b1, o1 + k * 6 + 1, none⟩ = some (.int .i64 x.b.f0) ∧ w'.cell? ⟨b1, o1 + k * 6 + 2, none⟩ = some (.int .i64 x.b.f1) ∧ w'.cell? ⟨b1, o1 + k * 6 + 3, none⟩ = some (.int .i64 x.b.f2) ∧ w'.cell? ⟨b1, o1 + k * 6 + 4, none⟩ = some (.int .i64 x.b.f3) ∧ w'.cell? ⟨b1, o1 + k * 6 + 5, none⟩ = some (.bool x.b.f4) ∧ w'.cell? ⟨b2, o2 + k * 6, none⟩ = some (.int .i64 x.k) ∧ w'.cell? ⟨b2, o2 + k * 6 + 1, none⟩ = some (.int .i64 x.b.f0) ∧ w'.cell? ⟨b2, o2 + k * 6 + 2, none⟩ = some (.int .i64 x.b.f1) ∧ w'.cell? ⟨b2, o2 + k * 6 + 3, none⟩ = some (.int .i64 x.b.f2) ∧ w'.cell? ⟨b2, o2 + k * 6 + 4, none⟩ = some (.int .i64 x.b.f3) ∧ w'.cell? ⟨b2, o2 + k * 6 + 5, none⟩ = some (.bool x.b.f4)) (first | exact ⟨Below.refl _ _, by assumption, by assumption, by assumption, by assumption, by assumption, by assumption, by assumption, by assumption, by assumption, by assumption, by assumption, by assumption⟩ | exact ⟨Below.drew (Below.refl _ _), by assumption, by assumption, by assumption, by assumption, by assumption, by assumption, by assumption, by assumption, by assumption, by assumption, by assumption, by assumption⟩ | exact ⟨hbq, (hbq.cell (p := ⟨b1, o1 + k * 6, none⟩) lw1).trans hs0, (hbq.cell (p := ⟨b1, o1 + k * 6 + 1, none⟩) lw1).trans hs1, (hbq.cell (p := ⟨b1, o1 + k * 6 + 2, none⟩) lw1).trans hs2, (hbq.cell (p := ⟨b1, o1 + k * 6 + 3, none⟩) lw1).trans hs3, (hbq.cell (p := ⟨b1, o1 + k * 6 + 4, none⟩) lw1).trans hs4, (hbq.cell (p := ⟨b1, o1 + k * 6 + 5, none⟩) lw1).trans hs5, (hbq.cell (p := ⟨b2, o2 + k * 6, none⟩) lw2).trans ht0, (hbq.cell (p := ⟨b2, o2 + k * 6 + 1, none⟩) lw2).trans ht1, (hbq.cell (p := ⟨b2, o2 + k * 6 + 2, none⟩) lw2).trans ht2, (hbq.cell (p := ⟨b2, o2 + k * 6 + 3, none⟩) lw2).trans ht3, (hbq.cell (p := ⟨b2, o2 + k * 6 + 4, none⟩) lw2).trans ht4, (hbq.cell (p := ⟨b2, o2 + k * 6 + 5, none⟩) lw2).trans ht5⟩)
        (first | (go_at_call 41; (with_reducible refine (eqDiff_any x _).mono ?_); rintro e w2 ⟨rfl, hbq0⟩; have hbq : Below wr.heap.size wr w2 := ⟨hbq0.os, hbq0.tape, hbq0.output, hbq0.size, hbq0.block⟩))
      all_goals
        go_wp2_with fail
        go_roundw
        case rel => exact ⟨k + 1, by omega, by go_num, hbl.trans (hbq.mono hbl.size)⟩
        case measure => simp [intOf]; omega
    · go_wp2_with fail
      go_ret
      exact ⟨rfl, hbl⟩
theorem szDiffS_any (A : Option Addr) (n c : Nat) (w : World) (hm : n ≤ 9223372036854775807) (l : Int) (h0 : 0 ≤ l) (h1 : l ≤ 1048576) :
    Calls Try.prog 26 #[.slice A n c, .int .i64 l] w (RInt fun r w' => r ≤ l ∧ (0 ≤ r → (n : Int) ≤ l) ∧ w = w') := by
  by_cases hn : (n : Int) ≤ l
  · go_enter Try.func26, Try.ntmps26
    go_wp2
    go_ret
    exact RInt.mk ⟨by omega, fun _ => by first | omega | trivial, rfl⟩
  · go_enter Try.func26, Try.ntmps26
    go_wp2
    go_ret
    exact RInt.mk ⟨by omega, fun h => by omega, rfl⟩
end Go.Proofs.Ytbhnlooellgfaaa
