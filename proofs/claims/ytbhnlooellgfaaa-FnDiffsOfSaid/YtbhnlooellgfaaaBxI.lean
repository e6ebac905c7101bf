/- Boxes: numbers in a range, a valid box, the place of a box: both programs return the plain word. -/
import Derived.Test.YtbhnlooellgfaaaBoxS
import Derived.Test.YtbhnlooellgfaaaWithin
namespace Go.Proofs.Ytbhnlooellgfaaa
open Go Go.ChangeShapes Go.WideShapes Go.ChangeAt Go.RowKit
set_option linter.unusedVariables false
theorem within_inI (a lo hi : Int) (w : World) : Calls Try.prog 66 #[.int .i64 a, .int .i64 lo, .int .i64 hi] w fun r w' => r = .returned (.bool (inI a lo hi)) ∧ w = w' := by
  by_cases h : lo ≤ a ∧ a ≤ hi
  · rw [show inI a lo hi = true from by simp [inI, h]]; exact within_true a lo hi w h.1 h.2
  · rw [show inI a lo hi = false from by simp [inI]; omega]; exact within_false a lo hi w (by omega)
theorem l1In_inI (a lo hi : Int) (w : World) : Calls Try.prog 60 #[.int .i64 a, .int .i64 lo, .int .i64 hi] w fun r w' => r = .returned (.bool (inI a lo hi)) ∧ w = w' := by
  by_cases h : lo ≤ a ∧ a ≤ hi
  · rw [show inI a lo hi = true from by simp [inI, h]]; exact l1In_true a lo hi w h.1 h.2
  · rw [show inI a lo hi = false from by simp [inI]; omega]; exact l1In_false a lo hi w (by omega)
theorem isId_inI (a : Int) (w : World) : Calls Try.prog 65 #[.int .i64 a] w fun r w' => r = .returned (.bool (inI a 1 999)) ∧ w = w' := by
  by_cases h : 1 ≤ a ∧ a ≤ 999
  · rw [show inI a 1 999 = true from by simp [inI, h]]; exact isId_true a w h.1 h.2
  · rw [show inI a 1 999 = false from by simp [inI]; omega]; exact isId_false a w (by omega)
set_option maxHeartbeats 1000000 in
theorem specBoxValid (x : BoxV) (w : World) : Calls Try.prog 44 #[.agg #[.int .i64 x.f0, .int .i64 x.f1, .int .i64 x.f2, .int .i64 x.f3, .bool x.f4]] w fun e w' => e = .returned (.bool (bOk x)) ∧ Below w.heap.size w w' := by
  obtain ⟨y0, y1, y2, y3, y4⟩ := x
  dsimp only
  have h1 := fun W => l1In_inI y0 1 999 W
  have h2 := fun W => l1In_inI y1 1 30 W
  have h3 := fun W => l1In_inI y2 0 3 W
  have h4 := fun W => l1In_inI y3 0 6 W
  cases q1 : inI y0 1 999 with
  | false =>
    have HB : Hid (bOk ⟨y0, y1, y2, y3, y4⟩ = false) := Lib.hid (by simp [bOk, q1])
    rw [q1] at h1
    clear q1
    go_enter Try.func44, Try.ntmps44
    go_wp2_with (go_at_call 60; (first | (with_reducible refine (h1 _).mono ?_) | (with_reducible refine (h2 _).mono ?_) | (with_reducible refine (h3 _).mono ?_) | (with_reducible refine (h4 _).mono ?_)); rintro e w' ⟨rfl, rfl⟩)
    go_ret
    exact ⟨by rw [HB.out]; rfl, (Below.refl _ _).alloc (Nat.le_refl _) _⟩
  | true =>
    rw [q1] at h1
    cases q2 : inI y1 1 30 with
    | false =>
      have HB : Hid (bOk ⟨y0, y1, y2, y3, y4⟩ = false) := Lib.hid (by simp [bOk, q2])
      rw [q2] at h2
      clear q1 q2
      go_enter Try.func44, Try.ntmps44
      go_wp2_with (go_at_call 60; (first | (with_reducible refine (h1 _).mono ?_) | (with_reducible refine (h2 _).mono ?_) | (with_reducible refine (h3 _).mono ?_) | (with_reducible refine (h4 _).mono ?_)); rintro e w' ⟨rfl, rfl⟩)
      go_ret
      exact ⟨by rw [HB.out]; rfl, (Below.refl _ _).alloc (Nat.le_refl _) _⟩
    | true =>
      rw [q2] at h2
      cases q3 : inI y2 0 3 with
      | false =>
        have HB : Hid (bOk ⟨y0, y1, y2, y3, y4⟩ = false) := Lib.hid (by simp [bOk, q3])
        rw [q3] at h3
        clear q1 q2 q3
        go_enter Try.func44, Try.ntmps44
        go_wp2_with (go_at_call 60; (first | (with_reducible refine (h1 _).mono ?_) | (with_reducible refine (h2 _).mono ?_) | (with_reducible refine (h3 _).mono ?_) | (with_reducible refine (h4 _).mono ?_)); rintro e w' ⟨rfl, rfl⟩)
        go_ret
        exact ⟨by rw [HB.out]; rfl, (Below.refl _ _).alloc (Nat.le_refl _) _⟩
      | true =>
        rw [q3] at h3
        cases q4 : inI y3 0 6 with
        | false =>
          have HB : Hid (bOk ⟨y0, y1, y2, y3, y4⟩ = false) := Lib.hid (by simp [bOk, q4])
          rw [q4] at h4
          clear q1 q2 q3 q4
          go_enter Try.func44, Try.ntmps44
          go_wp2_with (go_at_call 60; (first | (with_reducible refine (h1 _).mono ?_) | (with_reducible refine (h2 _).mono ?_) | (with_reducible refine (h3 _).mono ?_) | (with_reducible refine (h4 _).mono ?_)); rintro e w' ⟨rfl, rfl⟩)
          go_ret
          exact ⟨by rw [HB.out]; rfl, (Below.refl _ _).alloc (Nat.le_refl _) _⟩
        | true =>
          have HB : Hid (bOk ⟨y0, y1, y2, y3, y4⟩ = true) := Lib.hid (by simp [bOk, q1, q2, q3, q4])
          rw [q4] at h4
          clear q1 q2 q3 q4
          go_enter Try.func44, Try.ntmps44
          go_wp2_with (go_at_call 60; (first | (with_reducible refine (h1 _).mono ?_) | (with_reducible refine (h2 _).mono ?_) | (with_reducible refine (h3 _).mono ?_) | (with_reducible refine (h4 _).mono ?_)); rintro e w' ⟨rfl, rfl⟩)
          go_ret
          exact ⟨by rw [HB.out]; rfl, (Below.refl _ _).alloc (Nat.le_refl _) _⟩
set_option maxHeartbeats 1000000 in
theorem implBoxValid (x : BoxV) (w : World) : Calls Try.prog 50 #[.agg #[.int .i64 x.f0, .int .i64 x.f1, .int .i64 x.f2, .int .i64 x.f3, .bool x.f4]] w fun e w' => e = .returned (.bool (bOk x)) ∧ Below w.heap.size w w' := by
  obtain ⟨y0, y1, y2, y3, y4⟩ := x
  dsimp only
  have h1 := fun W => isId_inI y0 W
  have h2 := fun W => within_inI y1 1 30 W
  have h3 := fun W => within_inI y2 0 3 W
  have h4 := fun W => within_inI y3 0 6 W
  cases q1 : inI y0 1 999 with
  | false =>
    have HB : Hid (bOk ⟨y0, y1, y2, y3, y4⟩ = false) := Lib.hid (by simp [bOk, q1])
    rw [q1] at h1
    clear q1
    go_enter Try.func50, Try.ntmps50
    go_wp2_with (first | (go_at_call 65; refine (h1 _).mono ?_; rintro e w' ⟨rfl, rfl⟩) | (go_at_call 66; (first | (with_reducible refine (h2 _).mono ?_) | (with_reducible refine (h3 _).mono ?_) | (with_reducible refine (h4 _).mono ?_)); rintro e w' ⟨rfl, rfl⟩))
    go_ret
    exact ⟨by rw [HB.out]; rfl, (Below.refl _ _).alloc (Nat.le_refl _) _⟩
  | true =>
    rw [q1] at h1
    cases q2 : inI y1 1 30 with
    | false =>
      have HB : Hid (bOk ⟨y0, y1, y2, y3, y4⟩ = false) := Lib.hid (by simp [bOk, q2])
      rw [q2] at h2
      clear q1 q2
      go_enter Try.func50, Try.ntmps50
      go_wp2_with (first | (go_at_call 65; refine (h1 _).mono ?_; rintro e w' ⟨rfl, rfl⟩) | (go_at_call 66; (first | (with_reducible refine (h2 _).mono ?_) | (with_reducible refine (h3 _).mono ?_) | (with_reducible refine (h4 _).mono ?_)); rintro e w' ⟨rfl, rfl⟩))
      go_ret
      exact ⟨by rw [HB.out]; rfl, (Below.refl _ _).alloc (Nat.le_refl _) _⟩
    | true =>
      rw [q2] at h2
      cases q3 : inI y2 0 3 with
      | false =>
        have HB : Hid (bOk ⟨y0, y1, y2, y3, y4⟩ = false) := Lib.hid (by simp [bOk, q3])
        rw [q3] at h3
        clear q1 q2 q3
        go_enter Try.func50, Try.ntmps50
        go_wp2_with (first | (go_at_call 65; refine (h1 _).mono ?_; rintro e w' ⟨rfl, rfl⟩) | (go_at_call 66; (first | (with_reducible refine (h2 _).mono ?_) | (with_reducible refine (h3 _).mono ?_) | (with_reducible refine (h4 _).mono ?_)); rintro e w' ⟨rfl, rfl⟩))
        go_ret
        exact ⟨by rw [HB.out]; rfl, (Below.refl _ _).alloc (Nat.le_refl _) _⟩
      | true =>
        rw [q3] at h3
        cases q4 : inI y3 0 6 with
        | false =>
          have HB : Hid (bOk ⟨y0, y1, y2, y3, y4⟩ = false) := Lib.hid (by simp [bOk, q4])
          rw [q4] at h4
          clear q1 q2 q3 q4
          go_enter Try.func50, Try.ntmps50
          go_wp2_with (first | (go_at_call 65; refine (h1 _).mono ?_; rintro e w' ⟨rfl, rfl⟩) | (go_at_call 66; (first | (with_reducible refine (h2 _).mono ?_) | (with_reducible refine (h3 _).mono ?_) | (with_reducible refine (h4 _).mono ?_)); rintro e w' ⟨rfl, rfl⟩))
          go_ret
          exact ⟨by rw [HB.out]; rfl, (Below.refl _ _).alloc (Nat.le_refl _) _⟩
        | true =>
          have HB : Hid (bOk ⟨y0, y1, y2, y3, y4⟩ = true) := Lib.hid (by simp [bOk, q1, q2, q3, q4])
          rw [q4] at h4
          clear q1 q2 q3 q4
          go_enter Try.func50, Try.ntmps50
          go_wp2_with (first | (go_at_call 65; refine (h1 _).mono ?_; rintro e w' ⟨rfl, rfl⟩) | (go_at_call 66; (first | (with_reducible refine (h2 _).mono ?_) | (with_reducible refine (h3 _).mono ?_) | (with_reducible refine (h4 _).mono ?_)); rintro e w' ⟨rfl, rfl⟩))
          go_ret
          exact ⟨by rw [HB.out]; rfl, (Below.refl _ _).alloc (Nat.le_refl _) _⟩
set_option maxHeartbeats 1000000 in
theorem l2Find_any (A : Option Addr) (n c : Nat) (zs : List BoxV) (x : Int) (w : World) (hn : zs.length = n) (hr : RdV w A (boxs zs)) (hm : n ≤ 9223372036854775806) :
    Calls Try.prog 34 #[.slice A n c, .int .i64 x] w fun e w' => e = .returned (.int .i64 (idxI (findF zs x))) ∧ w = w' := by
  have HN := Lib.hid hn
  clear hn
  go_enter Try.func34, Try.ntmps34
  go_wp2
  go_loop [5] (fun i => ∃ k : Nat, k ≤ n ∧ i = .int .i64 k ∧ Hid (∀ y ∈ zs.take k, y.f0 ≠ x)) (fun i => n - (intOf i).toNat)
  case atStart => exact ⟨0, Nat.zero_le _, rfl, Lib.hid (by simp)⟩
  case round =>
    obtain ⟨k, hk, rfl, HJ⟩ := hrel
    by_cases hlt : k < n
    · have hkz : k < zs.length := by rw [HN.out]; exact hlt
      obtain ⟨b, o, rfl, hl, c0, c1, c2, c3, c4⟩ := hr.boxAt hkz
      obtain ⟨HY, HS⟩ := findF_step hkz HJ.out
      have HY := Lib.hid HY
      have HS := Lib.hid HS
      generalize zs[k] = y at *
      clear c1 c2 c3 c4
      by_cases hxy : y.f0 = x
      · have HT := Lib.hid (HY.out hxy)
        have hd : (y.f0 == x) = true := by simp [hxy]
        clear hxy HY HS
        go_wp2
        go_ret
        exact ⟨by rw [HT.out]; rfl, rfl⟩
      · have HT := Lib.hid (HS.out hxy)
        have hd : (y.f0 == x) = false := by simpa using hxy
        clear hxy HY HS
        go_wp2
        go_round
        case rel => exact ⟨k + 1, by omega, by go_num, HT⟩
        case measure => simp [intOf]; omega
    · obtain rfl : k = n := by omega
      have HT := Lib.hid (findF_end (by rw [HN.out]; exact HJ.out))
      go_wp2
      go_ret
      exact ⟨by rw [HT.out]; rfl, rfl⟩
set_option maxHeartbeats 1000000 in
theorem boxAt1_any (x : BoxV) (B : Nat) (id : Int) (w : World) (hB : w.cell? ⟨B, 0, none⟩ = some (.int .i64 id)) (hl : B < w.heap.size) :
    Calls Try.prog 55 #[.agg #[.int .i64 x.f0, .int .i64 x.f1, .int .i64 x.f2, .int .i64 x.f3, .bool x.f4], .pointer (some ⟨B, 0, none⟩)] w fun e w' => e = .returned (.bool (isF id x)) ∧ Below w.heap.size w w' := by
  obtain ⟨y0, y1, y2, y3, y4⟩ := x
  have HB : Hid (isF id ⟨y0, y1, y2, y3, y4⟩ = (y0 == id)) := Lib.hid (by unfold isF; by_cases h : y0 = id <;> simp [h])
  dsimp only
  have hne : B ≠ w.heap.size := by omega
  go_enter Try.func55, Try.ntmps55
  go_wp2
  go_ret
  exact ⟨by rw [HB.out]; rfl, (Below.refl _ _).alloc (Nat.le_refl _) _⟩
set_option maxHeartbeats 1000000 in
theorem indexBox_any (A : Option Addr) (n c B : Nat) (zs : List BoxV) (id : Int) (w : World) (hn : zs.length = n) (hr : RdV w A (boxs zs)) (hB : w.cell? ⟨B, 0, none⟩ = some (.int .i64 id)) (hBl : B < w.heap.size) (hm : n ≤ 9223372036854775806) :
    Calls Try.prog 54 #[.slice A n c, .func (.func 55) #[] #[.pointer (some ⟨B, 0, none⟩)]] w fun e w' => e = .returned (.int .i64 (idxI (findF zs id))) ∧ Below w.heap.size w w' := by
  have HN := Lib.hid hn
  clear hn
  go_enter Try.func54, Try.ntmps54
  go_wp2_with fail
  go_loopw [8, 5] (fun i _ wr => ∃ k : Nat, k ≤ n ∧ i = .int .i64 k ∧ Hid (∀ y ∈ zs.take k, y.f0 ≠ id) ∧ Below w.heap.size w wr) (fun i _ _ => n - (intOf i).toNat)
  case atStart => exact ⟨0, Nat.zero_le _, rfl, Lib.hid (by simp), Below.refl _ _⟩
  case round =>
    obtain ⟨k, hk, rfl, HJ, hb⟩ := hrel
    by_cases hlt : k < n
    · have hkz : k < zs.length := by rw [HN.out]; exact hlt
      obtain ⟨b, o, rfl, hl, c0, c1, c2, c3, c4⟩ := (hr.below hb).boxAt hkz
      obtain ⟨HY, HS⟩ := findF_step hkz HJ.out
      have HY := Lib.hid HY
      have HS := Lib.hid HS
      have hcall := boxAt1_any (zs[k]) B id wr ((hb.cell (p := ⟨B, 0, none⟩) hBl).trans hB) (Nat.lt_of_lt_of_le hBl hb.size)
      generalize zs[k] = y at *
      obtain ⟨y0, y1, y2, y3, y4⟩ := y
      dsimp only at c0 c1 c2 c3 c4 HY HS hcall
      by_cases hxy : y0 = id
      · have HT := Lib.hid (HY.out hxy)
        rw [show isF id ⟨y0, y1, y2, y3, y4⟩ = true from isF_iff.2 hxy] at hcall
        clear hxy HY HS
        go_wp2_with (go_at_call 55; refine hcall.mono ?_; rintro e w2 ⟨rfl, hb2⟩)
        go_ret
        exact ⟨by rw [HT.out]; rfl, below_trans hb hb2⟩
      · have HT := Lib.hid (HS.out hxy)
        rw [show isF id ⟨y0, y1, y2, y3, y4⟩ = false from decide_eq_false hxy] at hcall
        clear hxy HY HS
        go_wp2_with (go_at_call 55; refine hcall.mono ?_; rintro e w2 ⟨rfl, hb2⟩)
        go_roundw
        case rel => exact ⟨k + 1, by omega, by go_num, HT, below_trans hb hb2⟩
        case measure => simp [intOf]; omega
    · obtain rfl : k = n := by omega
      have HT := Lib.hid (findF_end (by rw [HN.out]; exact HJ.out))
      go_wp2_with fail
      go_ret
      exact ⟨by rw [HT.out]; rfl, hb⟩
theorem boxAt_any (A : Option Addr) (n c : Nat) (zs : List BoxV) (id : Int) (w : World) (hn : zs.length = n) (hr : RdV w A (boxs zs)) (hm : n ≤ 9223372036854775806) :
    Calls Try.prog 38 #[.slice A n c, .int .i64 id] w fun e w' => e = .returned (.int .i64 (idxI (findF zs id))) ∧ Below w.heap.size w w' := by
  have hal : Below w.heap.size w (w.alloc (.cells #[.int .i64 id] 3)) := (Below.refl _ _).alloc (Nat.le_refl _) _
  have hB : (w.alloc (.cells #[.int .i64 id] 3)).cell? ⟨w.heap.size, 0, none⟩ = some (.int .i64 id) := (Blk.new w 3 [.int .i64 id]).cellAt 0 (by simp)
  have hcall := indexBox_any A n c w.heap.size zs id _ hn (hr.below hal) hB (by simp) hm
  clear hB hn hr
  go_enter Try.func38, Try.ntmps38
  go_wp2_with (go_at_call 54; refine hcall.mono ?_; rintro e w2 ⟨rfl, hb2⟩)
  go_ret
  exact ⟨rfl, below_trans hal hb2⟩
end Go.Proofs.Ytbhnlooellgfaaa
