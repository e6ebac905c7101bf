/- The laws compare lists of boxes, of differences: true just where they are the same. -/
import Derived.Test.YtbhnlooellgfaaaBxD
import Derived.Test.YtbhnlooellgfaaaQuietB
namespace Go.Proofs.Ytbhnlooellgfaaa
open Go Go.ChangeShapes Go.WideShapes Go.ChangeAt Go.RowKit
set_option linter.unusedVariables false
set_option linter.unusedSimpArgs false
theorem takeB_eq {α : Type} {xs ys : List α} {k : Nat} (h1 : k < xs.length) (h2 : k < ys.length) (h : xs.take k = ys.take k) (e : xs[k] = ys[k]) : xs.take (k + 1) = ys.take (k + 1) := by
  rw [List.take_succ_eq_append_getElem h1, List.take_succ_eq_append_getElem h2, h, e]
theorem neB_at {α : Type} {xs ys : List α} {k : Nat} (h1 : k < xs.length) (h2 : k < ys.length) (e : xs[k] ≠ ys[k]) : xs ≠ ys := by
  intro h
  subst h
  exact e rfl
set_option maxHeartbeats 1000000 in
theorem sameBoxes_dec (A B : Option Addr) (xs ys : List BoxV) (n m c d : Nat) (hx : xs.length = n) (hy : ys.length = m) (w : World) (ha : RdV w A (boxs xs)) (hb : RdV w B (boxs ys)) (hn : n ≤ 1099511627776) (hm : m ≤ 1099511627776) :
    Calls Try.prog 22 #[.slice A n c, .slice B m d] w fun e w' => e = .returned (.bool (decide (xs = ys))) ∧ Below w.heap.size w w' := by
  have HX := Lib.hid hx
  have HY := Lib.hid hy
  clear hx hy
  by_cases hnm : n = m
  · subst hnm
    have hne : ((n : Int) != (n : Int)) = false := by simp
    go_enter Try.func22, Try.ntmps22
    go_wp2_with fail
    go_loopw [5] (fun i wr => ∃ k : Nat, k ≤ n ∧ i = .int .i64 k ∧ Hid (xs.take k = ys.take k) ∧ Below w.heap.size w wr) (fun i _ => n - (intOf i).toNat)
    case atStart => exact ⟨0, Nat.zero_le _, rfl, Lib.hid rfl, Below.refl _ _⟩
    case round =>
      obtain ⟨k, hk, rfl, HE, hbl⟩ := hrel
      by_cases hlt : k < n
      · have hkx : k < xs.length := by rw [HX.out]; exact hlt
        have hky : k < ys.length := by rw [HY.out]; exact hlt
        obtain ⟨b1, o1, rfl, hl1, xc0, xc1, xc2, xc3, xc4⟩ := ha.boxAt hkx
        obtain ⟨b2, o2, rfl, hl2, yc0, yc1, yc2, yc3, yc4⟩ := hb.boxAt hky
        have x0 : wr.cell? ⟨b1, o1 + k * 5, none⟩ = some (.int .i64 (xs[k]).f0) := (hbl.cell (p := ⟨b1, o1 + k * 5, none⟩) hl1).trans xc0
        have x1 : wr.cell? ⟨b1, o1 + k * 5 + 1, none⟩ = some (.int .i64 (xs[k]).f1) := (hbl.cell (p := ⟨b1, o1 + k * 5 + 1, none⟩) hl1).trans xc1
        have x2 : wr.cell? ⟨b1, o1 + k * 5 + 2, none⟩ = some (.int .i64 (xs[k]).f2) := (hbl.cell (p := ⟨b1, o1 + k * 5 + 2, none⟩) hl1).trans xc2
        have x3 : wr.cell? ⟨b1, o1 + k * 5 + 3, none⟩ = some (.int .i64 (xs[k]).f3) := (hbl.cell (p := ⟨b1, o1 + k * 5 + 3, none⟩) hl1).trans xc3
        have x4 : wr.cell? ⟨b1, o1 + k * 5 + 4, none⟩ = some (.bool (xs[k]).f4) := (hbl.cell (p := ⟨b1, o1 + k * 5 + 4, none⟩) hl1).trans xc4
        have y0 : wr.cell? ⟨b2, o2 + k * 5, none⟩ = some (.int .i64 (ys[k]).f0) := (hbl.cell (p := ⟨b2, o2 + k * 5, none⟩) hl2).trans yc0
        have y1 : wr.cell? ⟨b2, o2 + k * 5 + 1, none⟩ = some (.int .i64 (ys[k]).f1) := (hbl.cell (p := ⟨b2, o2 + k * 5 + 1, none⟩) hl2).trans yc1
        have y2 : wr.cell? ⟨b2, o2 + k * 5 + 2, none⟩ = some (.int .i64 (ys[k]).f2) := (hbl.cell (p := ⟨b2, o2 + k * 5 + 2, none⟩) hl2).trans yc2
        have y3 : wr.cell? ⟨b2, o2 + k * 5 + 3, none⟩ = some (.int .i64 (ys[k]).f3) := (hbl.cell (p := ⟨b2, o2 + k * 5 + 3, none⟩) hl2).trans yc3
        have y4 : wr.cell? ⟨b2, o2 + k * 5 + 4, none⟩ = some (.bool (ys[k]).f4) := (hbl.cell (p := ⟨b2, o2 + k * 5 + 4, none⟩) hl2).trans yc4
        have HST := Lib.hid (takeB_eq hkx hky HE.out)
        have HNE := Lib.hid (neB_at hkx hky)
        have hnq := fun (b : Bool) (h : decide (xs[k] = ys[k]) = b) => neq_box xs[k] ys[k] b h
        generalize xs[k] = x at *
        generalize ys[k] = y at *
        have hki : (k : Int) < (n : Int) := by omega
        have hk0 : (0 : Int) ≤ (k : Int) := by omega
        have HBL := Lib.hid hbl
        clear xc0 xc1 xc2 xc3 xc4 yc0 yc1 yc2 yc3 yc4 hbl
        by_cases hxy : x = y
        · have HS := Lib.hid (HST.out hxy)
          have hq := hnq true (decide_eq_true hxy)
          clear HST HNE hxy hnq
          go_wp2_with fail
          go_quiet (fail)
          go_wp2_with fail
          go_roundw
          case rel => exact ⟨k + 1, by omega, by go_num, HS, below_drewN HBL.out _⟩
          case measure => simp [intOf]; omega
        · have HF : Hid (decide (xs = ys) = false) := Lib.hid (by simp [HNE.out hxy])
          have hq := hnq false (decide_eq_false hxy)
          clear HST HNE hxy hnq
          go_wp2_with fail
          go_quiet (fail)
          go_wp2_with fail
          go_ret
          exact ⟨by rw [HF.out]; rfl, below_drewN HBL.out _⟩
      · obtain rfl : k = n := by omega
        have HF : Hid (decide (xs = ys) = true) := Lib.hid (by
          have h1 := HE.out
          rw [List.take_of_length_le (by rw [HX.out]; exact Nat.le_refl _), List.take_of_length_le (by rw [HY.out]; exact Nat.le_refl _)] at h1
          simp [h1])
        go_wp2_with fail
        go_ret
        exact ⟨by rw [HF.out]; rfl, hbl⟩
  · have hne : ((n : Int) != (m : Int)) = true := by simp; omega
    have HF : Hid (decide (xs = ys) = false) := Lib.hid (by
      have : xs ≠ ys := fun h => hnm (by rw [← HX.out, ← HY.out, h])
      simp [this])
    clear hnm
    go_enter Try.func22, Try.ntmps22
    go_wp2_with fail
    go_ret
    exact ⟨by rw [HF.out]; rfl, Below.refl _ _⟩
theorem sameBoxes_same (A B : Option Addr) (xs : List BoxV) (n c d : Nat) (hx : xs.length = n) (w : World) (ha : RdV w A (boxs xs)) (hb : RdV w B (boxs xs)) (hn : n ≤ 1099511627776) :
    Calls Try.prog 22 #[.slice A n c, .slice B n d] w fun e w' => e = .returned (.bool true) ∧ Below w.heap.size w w' := by
  have := sameBoxes_dec A B xs xs n n c d hx hx w ha hb hn hn
  rwa [decide_eq_true rfl] at this
end Go.Proofs.Ytbhnlooellgfaaa
