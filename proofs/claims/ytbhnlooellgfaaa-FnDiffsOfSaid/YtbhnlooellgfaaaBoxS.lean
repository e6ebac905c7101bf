/- Lists of Box: their cells; copying, comparing, measuring. -/
import Derived.Test.YtbhnlooellgfaaaFlat
import Derived.Test.YtbhnlooellgfaaaBxP
import Derived.Test.YtbhnlooellgfaaaProg
import Derived.Deep.QuietTactic
import Derived.BigQuiet
import Derived.Deep.RegionHeld3
namespace Go.Proofs.Ytbhnlooellgfaaa
open Go Go.ChangeShapes Go.WideShapes Go.ChangeAt Go.RowKit
theorem set_5 (l r : List Value) (a0 a1 a2 a3 a4 c0 c1 c2 c3 c4 : Value) (i : Nat) (hl : l.length = i) : (((((l ++ ([a0, a1, a2, a3, a4] ++ r)).set i c0).set (i + 1) c1).set (i + 1 + 1) c2).set (i + 1 + 1 + 1) c3).set (i + 1 + 1 + 1 + 1) c4 = l ++ ([c0, c1, c2, c3, c4] ++ r) := by
  subst hl
  simp [Nat.add_assoc]
def boxC (x : BoxV) : List Value := [.int .i64 x.f0, .int .i64 x.f1, .int .i64 x.f2, .int .i64 x.f3, .bool x.f4]
theorem boxC_len (x : BoxV) : (boxC x).length = 5 := rfl
/-- the cells of a list -/
def boxs (zs : List BoxV) : List Value := cellsOf boxC zs
theorem boxs_len (zs : List BoxV) : (boxs zs).length = zs.length * 5 := cellsOf_len _ _ boxC_len zs
theorem RdV.boxAt {w : World} {A : Option Addr} {zs : List BoxV} (h : RdV w A (boxs zs)) {j : Nat} (hj : j < zs.length) : ∃ b o, A = some ⟨b, o, none⟩ ∧ b < w.heap.size ∧ w.cell? ⟨b, o + j * 5, none⟩ = some (.int .i64 (zs[j]).f0) ∧ w.cell? ⟨b, o + j * 5 + 1, none⟩ = some (.int .i64 (zs[j]).f1) ∧ w.cell? ⟨b, o + j * 5 + 2, none⟩ = some (.int .i64 (zs[j]).f2) ∧ w.cell? ⟨b, o + j * 5 + 3, none⟩ = some (.int .i64 (zs[j]).f3) ∧ w.cell? ⟨b, o + j * 5 + 4, none⟩ = some (.bool (zs[j]).f4) := by
  obtain ⟨b, o, hA, hl, hc⟩ := RdV.fieldAt boxC_len h hj (by decide)
  exact ⟨b, o, hA, hl, hc 0 _ rfl, hc 1 _ rfl, hc 2 _ rfl, hc 3 _ rfl, hc 4 _ rfl⟩
theorem box_info : (Try.prog.info? 40).map (fun i => (i.zero, i.size, i.bytes)) = some (some (.agg #[.int .i64 0, .int .i64 0, .int .i64 0, .int .i64 0, .bool false]), 5, 40) := by kernel_rfl
set_option maxHeartbeats 1000000 in
theorem toBox_any (x : BoxV) (w : World) : Calls Try.prog 35 #[.agg #[.int .i64 x.f0, .int .i64 x.f1, .int .i64 x.f2, .int .i64 x.f3, .bool x.f4]] w fun e w' => e = .returned (.agg #[.int .i64 x.f0, .int .i64 x.f1, .int .i64 x.f2, .int .i64 x.f3, .bool x.f4]) ∧ Below w.heap.size w w' := by
  go_enter Try.func35, Try.ntmps35
  go_wp2
  refine bodyPost_ret (v := .agg #[.int .i64 x.f0, .int .i64 x.f1, .int .i64 x.f2, .int .i64 x.f3, .bool x.f4]) (by simp [results, Try.results35, go_sem]) rfl ⟨rfl, ?_⟩
  exact ((((Below.refl _ _).alloc (Nat.le_refl _) _).alloc (by simp) _).alloc (by simp; omega) _)
theorem make_box (n : Nat) (hn : n ≤ 1048576) (w : World) : (Instr.makeSlice 24 (.int .i64 (n : Int)) (.int .i64 (n : Int))).run Try.prog w = .ok (.slice (some ⟨w.heap.size, 0, none⟩) n n) (w.alloc (.cells ((List.replicate n [.int .i64 0, .int .i64 0, .int .i64 0, .int .i64 0, .bool false]).flatten).toArray 40)) :=
  run_make_rowk (P := Try.prog) 24 40 (.agg #[.int .i64 0, .int .i64 0, .int .i64 0, .int .i64 0, .bool false]) [.int .i64 0, .int .i64 0, .int .i64 0, .int .i64 0, .bool false] 40 5 Try.underlying24 box_info rfl rfl (by decide) n (by omega) (by omega) w
set_option maxHeartbeats 1000000 in
theorem toBoxS_any (A : Option Addr) (zs : List BoxV) (n c : Nat) (hzn : zs.length = n) (w : World) (hr : RdV w A (boxs zs)) (hn : n ≤ 1048576) :
    Calls Try.prog 11 #[.slice A n c] w fun e w' => e = .returned (.slice (some ⟨w.heap.size, 0, none⟩) n n) ∧ Blk w' w.heap.size 40 (boxs zs) ∧ Below w.heap.size w w' := by
  have hmk := make_box n hn
  have HZ := Lib.hid hzn
  rw [← hzn, ← cpF_zero boxC [.int .i64 0, .int .i64 0, .int .i64 0, .int .i64 0, .bool false] zs] at hmk
  rw [hzn] at hmk
  clear hzn
  go_enter Try.func11, Try.ntmps11
  go_wp2
  go_loopw [4] (fun i wr => ∃ k : Nat, k ≤ n ∧ i = .int .i64 k ∧ Blk wr w.heap.size 40 (cpF boxC [.int .i64 0, .int .i64 0, .int .i64 0, .int .i64 0, .bool false] zs k) ∧ Below w.heap.size w wr) (fun i _ => n - (intOf i).toNat)
  case atStart => exact ⟨0, Nat.zero_le _, rfl, Blk.new _ _ _, (Below.refl _ _).alloc (Nat.le_refl _) _⟩
  case round =>
    obtain ⟨k, hk, rfl, hblk, hb⟩ := hrel
    by_cases hlt : k < n
    · have hkz : k < zs.length := by rw [HZ.out]; exact hlt
      obtain ⟨b, off, rfl, hlb, hc0, hc1, hc2, hc3, hc4⟩ := hr.boxAt hkz
      obtain ⟨e1, e2, e3⟩ := cpF_at boxC [.int .i64 0, .int .i64 0, .int .i64 0, .int .i64 0, .bool false] zs k 5 boxC_len hkz
      have hs0 : wr.cell? ⟨b, off + k * 5, none⟩ = some (.int .i64 (zs[k]).f0) := (hb.cell (p := ⟨b, off + k * 5, none⟩) hlb).trans hc0
      have hs1 : wr.cell? ⟨b, off + k * 5 + 1, none⟩ = some (.int .i64 (zs[k]).f1) := (hb.cell (p := ⟨b, off + k * 5 + 1, none⟩) hlb).trans hc1
      have hs2 : wr.cell? ⟨b, off + k * 5 + 2, none⟩ = some (.int .i64 (zs[k]).f2) := (hb.cell (p := ⟨b, off + k * 5 + 2, none⟩) hlb).trans hc2
      have hs3 : wr.cell? ⟨b, off + k * 5 + 3, none⟩ = some (.int .i64 (zs[k]).f3) := (hb.cell (p := ⟨b, off + k * 5 + 3, none⟩) hlb).trans hc3
      have hs4 : wr.cell? ⟨b, off + k * 5 + 4, none⟩ = some (.bool (zs[k]).f4) := (hb.cell (p := ⟨b, off + k * 5 + 4, none⟩) hlb).trans hc4
      generalize zs[k] = x at *
      have E1 := Lib.hid e1
      have E2 := Lib.hid e2
      have E3 := Lib.hid e3
      clear e1 e2 e3 hmk hc0 hc1 hc2 hc3 hc4
      go_wp2_with fail
      refine (toBox_any x _).mono ?_
      rintro e w2 ⟨rfl, hb2⟩
      have hblk2 := hblk.later hb2
      have hlt2 := hblk.lt
      rw [E1.out] at hblk2
      have hd0 : w2.cell? ⟨w.heap.size, k * 5, none⟩ = some (.int .i64 0) := by
        rw [hblk2.cell, List.getElem?_append_right (by rw [E3.out]; omega), E3.out]
        simp
      have hf0 : w2.frozen? ⟨w.heap.size, k * 5, none⟩ = false := hblk2.frozen _
      have hd1 : w2.cell? ⟨w.heap.size, k * 5 + 1, none⟩ = some (.int .i64 0) := by
        rw [hblk2.cell, List.getElem?_append_right (by rw [E3.out]; omega), E3.out]
        simp
      have hf1 : w2.frozen? ⟨w.heap.size, k * 5 + 1, none⟩ = false := hblk2.frozen _
      have hd2 : w2.cell? ⟨w.heap.size, k * 5 + 2, none⟩ = some (.int .i64 0) := by
        rw [hblk2.cell, List.getElem?_append_right (by rw [E3.out]; omega), E3.out]
        simp
      have hf2 : w2.frozen? ⟨w.heap.size, k * 5 + 2, none⟩ = false := hblk2.frozen _
      have hd3 : w2.cell? ⟨w.heap.size, k * 5 + 3, none⟩ = some (.int .i64 0) := by
        rw [hblk2.cell, List.getElem?_append_right (by rw [E3.out]; omega), E3.out]
        simp
      have hf3 : w2.frozen? ⟨w.heap.size, k * 5 + 3, none⟩ = false := hblk2.frozen _
      have hd4 : w2.cell? ⟨w.heap.size, k * 5 + 4, none⟩ = some (.bool false) := by
        rw [hblk2.cell, List.getElem?_append_right (by rw [E3.out]; omega), E3.out]
        simp
      have hf4 : w2.frozen? ⟨w.heap.size, k * 5 + 4, none⟩ = false := hblk2.frozen _
      have hset := (((((hblk2.set_ (k * 5) (.int .i64 x.f0)).set_ (k * 5 + 1) (.int .i64 x.f1)).set_ (k * 5 + 2) (.int .i64 x.f2)).set_ (k * 5 + 3) (.int .i64 x.f3)).set_ (k * 5 + 4) (.bool x.f4))
      have HSET := Lib.hid hset
      have HB := Lib.hid (hb.trans (hb2.mono hb.size))
      clear hset hblk hblk2 hb hb2
      go_wp2_with fail
      go_roundw
      case rel =>
        refine ⟨k + 1, by omega, by go_num, ?_, (((((HB.out.setCell (p := ⟨w.heap.size, _, none⟩) (Nat.le_refl _) _).setCell (p := ⟨w.heap.size, _, none⟩) (Nat.le_refl _) _).setCell (p := ⟨w.heap.size, _, none⟩) (Nat.le_refl _) _).setCell (p := ⟨w.heap.size, _, none⟩) (Nat.le_refl _) _).setCell (p := ⟨w.heap.size, _, none⟩) (Nat.le_refl _) _)⟩
        have h := HSET.out
        rw [set_5 _ _ _ _ _ _ _ _ _ _ _ _ _ E3.out] at h
        rw [E2.out]
        exact h
      case measure => simp [intOf]; omega
    · go_wp2_with fail
      go_ret
      obtain rfl : k = n := by omega
      rw [← HZ.out, cpF_all] at hblk
      exact ⟨rfl, hblk, hb⟩

set_option maxHeartbeats 1000000 in
theorem eqBox_any (x : BoxV) (w : World) : Calls Try.prog 37 #[.agg #[.int .i64 x.f0, .int .i64 x.f1, .int .i64 x.f2, .int .i64 x.f3, .bool x.f4], .agg #[.int .i64 x.f0, .int .i64 x.f1, .int .i64 x.f2, .int .i64 x.f3, .bool x.f4]] w fun e w' => e = .returned (.bool true) ∧ Below w.heap.size w w' := by
  have h0 : (x.f0 != x.f0) = false := by simp
  have h1 : (x.f1 != x.f1) = false := by simp
  have h2 : (x.f2 != x.f2) = false := by simp
  have h3 : (x.f3 != x.f3) = false := by simp
  have h4 : (x.f4 != x.f4) = false := by simp
  go_enter Try.func37, Try.ntmps37
  go_wp2
  go_ret
  exact ⟨rfl, ((Below.refl _ _).alloc (Nat.le_refl _) _).alloc (by simp) _⟩
set_option maxHeartbeats 1000000 in
theorem eqBoxS_any (A B : Option Addr) (zs : List BoxV) (n c d : Nat) (hzn : zs.length = n) (w : World) (ha : RdV w A (boxs zs)) (hb : RdV w B (boxs zs)) (hn : n ≤ 1099511627776) :
    Calls Try.prog 13 #[.slice A n c, .slice B n d] w fun e w' => e = .returned (.bool true) ∧ Below w.heap.size w w' := by
  have HZ := Lib.hid hzn
  clear hzn
  have hne : ((n : Int) != (n : Int)) = false := by simp
  go_enter Try.func13, Try.ntmps13
  go_wp2
  go_loopw [5] (fun i wr => ∃ k : Nat, k ≤ n ∧ i = .int .i64 k ∧ Below w.heap.size w wr) (fun i _ => n - (intOf i).toNat)
  case atStart => exact ⟨0, Nat.zero_le _, rfl, Below.refl _ _⟩
  case round =>
    obtain ⟨k, hk, rfl, hbl⟩ := hrel
    by_cases hlt : k < n
    · have hkz : k < zs.length := by rw [HZ.out]; exact hlt
      obtain ⟨b1, o1, rfl, hl1, hc0, hc1, hc2, hc3, hc4⟩ := ha.boxAt hkz
      obtain ⟨b2, o2, rfl, hl2, hd0, hd1, hd2, hd3, hd4⟩ := hb.boxAt hkz
      have hs0 : wr.cell? ⟨b1, o1 + k * 5, none⟩ = some (.int .i64 (zs[k]).f0) := (hbl.cell (p := ⟨b1, o1 + k * 5, none⟩) hl1).trans hc0
      have ht0 : wr.cell? ⟨b2, o2 + k * 5, none⟩ = some (.int .i64 (zs[k]).f0) := (hbl.cell (p := ⟨b2, o2 + k * 5, none⟩) hl2).trans hd0
      have hs1 : wr.cell? ⟨b1, o1 + k * 5 + 1, none⟩ = some (.int .i64 (zs[k]).f1) := (hbl.cell (p := ⟨b1, o1 + k * 5 + 1, none⟩) hl1).trans hc1
      have ht1 : wr.cell? ⟨b2, o2 + k * 5 + 1, none⟩ = some (.int .i64 (zs[k]).f1) := (hbl.cell (p := ⟨b2, o2 + k * 5 + 1, none⟩) hl2).trans hd1
      have hs2 : wr.cell? ⟨b1, o1 + k * 5 + 2, none⟩ = some (.int .i64 (zs[k]).f2) := (hbl.cell (p := ⟨b1, o1 + k * 5 + 2, none⟩) hl1).trans hc2
      have ht2 : wr.cell? ⟨b2, o2 + k * 5 + 2, none⟩ = some (.int .i64 (zs[k]).f2) := (hbl.cell (p := ⟨b2, o2 + k * 5 + 2, none⟩) hl2).trans hd2
      have hs3 : wr.cell? ⟨b1, o1 + k * 5 + 3, none⟩ = some (.int .i64 (zs[k]).f3) := (hbl.cell (p := ⟨b1, o1 + k * 5 + 3, none⟩) hl1).trans hc3
      have ht3 : wr.cell? ⟨b2, o2 + k * 5 + 3, none⟩ = some (.int .i64 (zs[k]).f3) := (hbl.cell (p := ⟨b2, o2 + k * 5 + 3, none⟩) hl2).trans hd3
      have hs4 : wr.cell? ⟨b1, o1 + k * 5 + 4, none⟩ = some (.bool (zs[k]).f4) := (hbl.cell (p := ⟨b1, o1 + k * 5 + 4, none⟩) hl1).trans hc4
      have ht4 : wr.cell? ⟨b2, o2 + k * 5 + 4, none⟩ = some (.bool (zs[k]).f4) := (hbl.cell (p := ⟨b2, o2 + k * 5 + 4, none⟩) hl2).trans hd4
      generalize zs[k] = x at *
      have hki : (k : Int) < (n : Int) := by omega
      have lw1 : b1 < wr.heap.size := Nat.lt_of_lt_of_le hl1 hbl.size
      have lw2 : b2 < wr.heap.size := Nat.lt_of_lt_of_le hl2 hbl.size
      clear hc0 hd0 hc1 hd1 hc2 hd2 hc3 hd3 hc4 hd4
      go_wp2_with fail
      go_region_held3 (fun w' => Below wr.heap.size wr w' ∧ w'.cell? ⟨b1, o1 + k * 5, none⟩ = some (.int .i64 x.f0) ∧ w'.cell? ⟨b1, o1 + k * 5 + 1, none⟩ = some (.int .i64 x.f1) ∧ w'.cell? ⟨b1, o1 + k * 5 + 2, none⟩ = some (.int .i64 x.f2) ∧ w'.cell? ⟨b1, o1 + k * 5 + 3, none⟩ = some (.int .i64 x.f3) ∧ w'.cell? ⟨b1, o1 + k * 5 + 4, none⟩ = some (.bool x.f4) ∧ w'.cell? ⟨b2, o2 + k * 5, none⟩ = some (.int .i64 x.f0) ∧ w'.cell? ⟨b2, o2 + k * 5 + 1, none⟩ = some (.int .i64 x.f1) ∧ w'.cell? ⟨b2, o2 + k * 5 + 2, none⟩ = some (.int .i64 x.f2) ∧ w'.cell? ⟨b2, o2 + k * 5 + 3, none⟩ = some (.int .i64 x.f3) ∧ w'.cell? ⟨b2, o2 + k * 5 + 4, none⟩ = some (.bool x.f4)) (first | exact ⟨Below.refl _ _, by assumption, by assumption, by assumption, by assumption, by assumption, by assumption, by assumption, by assumption, by assumption, by assumption⟩ | exact ⟨Below.drew (Below.refl _ _), by assumption, by assumption, by assumption, by assumption, by assumption, by assumption, by assumption, by assumption, by assumption, by assumption⟩ | exact ⟨hbq, (hbq.cell (p := ⟨b1, o1 + k * 5, none⟩) lw1).trans hs0, (hbq.cell (p := ⟨b1, o1 + k * 5 + 1, none⟩) lw1).trans hs1, (hbq.cell (p := ⟨b1, o1 + k * 5 + 2, none⟩) lw1).trans hs2, (hbq.cell (p := ⟨b1, o1 + k * 5 + 3, none⟩) lw1).trans hs3, (hbq.cell (p := ⟨b1, o1 + k * 5 + 4, none⟩) lw1).trans hs4, (hbq.cell (p := ⟨b2, o2 + k * 5, none⟩) lw2).trans ht0, (hbq.cell (p := ⟨b2, o2 + k * 5 + 1, none⟩) lw2).trans ht1, (hbq.cell (p := ⟨b2, o2 + k * 5 + 2, none⟩) lw2).trans ht2, (hbq.cell (p := ⟨b2, o2 + k * 5 + 3, none⟩) lw2).trans ht3, (hbq.cell (p := ⟨b2, o2 + k * 5 + 4, none⟩) lw2).trans ht4⟩)
        (first | (go_at_call 37; (with_reducible refine (eqBox_any x _).mono ?_); rintro e w2 ⟨rfl, hbq0⟩; have hbq : Below wr.heap.size wr w2 := ⟨hbq0.os, hbq0.tape, hbq0.output, hbq0.size, hbq0.block⟩))
      all_goals
        go_wp2_with fail
        go_roundw
        case rel => exact ⟨k + 1, by omega, by go_num, hbl.trans (hbq.mono hbl.size)⟩
        case measure => simp [intOf]; omega
    · go_wp2_with fail
      go_ret
      exact ⟨rfl, hbl⟩
theorem szBoxS_any (A : Option Addr) (n c : Nat) (w : World) (hm : n ≤ 9223372036854775807) (l : Int) (h0 : 0 ≤ l) (h1 : l ≤ 1048576) :
    Calls Try.prog 9 #[.slice A n c, .int .i64 l] w (RInt fun r w' => r ≤ l ∧ (0 ≤ r → (n : Int) ≤ l) ∧ w = w') := by
  by_cases hn : (n : Int) ≤ l
  · go_enter Try.func9, Try.ntmps9
    go_wp2
    go_ret
    exact RInt.mk ⟨by omega, fun _ => by first | omega | trivial, rfl⟩
  · go_enter Try.func9, Try.ntmps9
    go_wp2
    go_ret
    exact RInt.mk ⟨by omega, fun h => by omega, rfl⟩
end Go.Proofs.Ytbhnlooellgfaaa
