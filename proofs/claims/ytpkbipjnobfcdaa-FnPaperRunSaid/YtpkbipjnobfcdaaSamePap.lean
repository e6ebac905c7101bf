/- The laws compare papers: true just where they are the same. -/
import Derived.Test.YtpkbipjnobfcdaaHldS
import Derived.Test.YtpkbipjnobfcdaaQuietB
import Derived.Test.YtpkbipjnobfcdaaPapP
import Derived.Deep.QuietTactic
import Derived.BigQuiet
import Derived.Laws.StructEq
namespace Go.Proofs.Ytpkbipjnobfcdaa
open Go Go.ChangeShapes Go.WideShapes Go.ChangeAt Go.RowKit
set_option linter.unusedVariables false
set_option linter.unusedSimpArgs false
theorem neq_hold (a b c d : Int) (w : World) : (binOp .neq 38 (.agg #[.int .i64 a, .int .i64 b]) (.agg #[.int .i64 c, .int .i64 d])).run Try.prog w = .ok (.bool (!(a == c && b == d))) w := by
  have hu : Try.prog.underlying 38 = some (.struct (Try.prog.fieldsOf 38)) := by kernel_rfl
  have hp : Try.prog.stoodInHeld 38 = false := by kernel_rfl
  rw [run_neq_struct, run_equalIn_struct _ _ _ _ _ hu hp]
  by_cases h1 : a = c
  · by_cases h2 : b = d
    · simp [go_sem, Try.underlying38, Try.underlying3, h1, h2]
    · simp [go_sem, Try.underlying38, Try.underlying3, h1, h2]
  · simp [go_sem, Try.underlying38, Try.underlying3, h1]
theorem take_eq {α : Type} {xs ys : List α} {k : Nat} (h1 : k < xs.length) (h2 : k < ys.length) (h : xs.take k = ys.take k) (e : xs[k] = ys[k]) : xs.take (k + 1) = ys.take (k + 1) := by
  rw [List.take_succ_eq_append_getElem h1, List.take_succ_eq_append_getElem h2, h, e]
theorem ne_at {α : Type} {xs ys : List α} {k : Nat} (h1 : k < xs.length) (h2 : k < ys.length) (e : xs[k] ≠ ys[k]) : xs ≠ ys := by
  intro h
  subst h
  exact e rfl
theorem holdEq_iff (x y : HoldV) : x = y ↔ x.f0 = y.f0 ∧ x.f1 = y.f1 := by
  cases x; cases y; simp
instance : DecidableEq HoldV := fun x y => decidable_of_iff _ (holdEq_iff x y).symm
theorem sameInts_dec (A B : Option Addr) (xs ys : List Int) (n m c d : Nat) (hx : xs.length = n) (hy : ys.length = m) (w : World) (ha : RdV w A (ints xs)) (hb : RdV w B (ints ys)) (hn : n ≤ 1099511627776) (hm : m ≤ 1099511627776) :
    Calls Try.prog 53 #[.slice A n c, .slice B m d] w fun e w' => e = .returned (.bool (decide (xs = ys))) ∧ Below w.heap.size w w' := by
  have HX := Lib.hid hx
  have HY := Lib.hid hy
  clear hx hy
  by_cases hnm : n = m
  · subst hnm
    have hne : ((n : Int) != (n : Int)) = false := by simp
    go_enter Try.func53, Try.ntmps53
    go_wp2_with fail
    go_loopw [5] (fun i wr => ∃ k : Nat, k ≤ n ∧ i = .int .i64 k ∧ Hid (xs.take k = ys.take k) ∧ Below w.heap.size w wr) (fun i _ => n - (intOf i).toNat)
    case atStart => exact ⟨0, Nat.zero_le _, rfl, Lib.hid rfl, Below.refl _ _⟩
    case round =>
      obtain ⟨k, hk, rfl, HE, hbl⟩ := hrel
      by_cases hlt : k < n
      · have hkx : k < xs.length := by rw [HX.out]; exact hlt
        have hky : k < ys.length := by rw [HY.out]; exact hlt
        obtain ⟨b1, o1, rfl, hl1, hc1⟩ := ha.pos (show k < (ints xs).length by rw [ints_len]; exact hkx)
        obtain ⟨b2, o2, rfl, hl2, hc2⟩ := hb.pos (show k < (ints ys).length by rw [ints_len]; exact hky)
        have h1 := (hbl.cell (p := ⟨b1, o1 + k, none⟩) hl1).trans (hc1 k (by rw [ints_len]; exact hkx))
        have h2 := (hbl.cell (p := ⟨b2, o2 + k, none⟩) hl2).trans (hc2 k (by rw [ints_len]; exact hky))
        rw [ints_at] at h1 h2
        have HST := Lib.hid (take_eq hkx hky HE.out)
        have HNE := Lib.hid (ne_at hkx hky)
        generalize xs[k] = x at *
        generalize ys[k] = y at *
        have hki : (k : Int) < (n : Int) := by omega
        have HBL := Lib.hid hbl
        clear hc1 hc2 hbl
        by_cases hxy : x = y
        · subst hxy
          have hq : (x != x) = false := by simp
          have HS := Lib.hid (HST.out rfl)
          clear HST HNE
          go_wp2_with fail
          go_quiet (fail)
          go_wp2_with fail
          go_roundw
          case rel => exact ⟨k + 1, by omega, by go_num, HS, below_drewN HBL.out _⟩
          case measure => simp [intOf]; omega
        · have hq : (x != y) = true := by simp [hxy]
          have HF : Hid (decide (xs = ys) = false) := Lib.hid (by simp [HNE.out hxy])
          clear HST HNE hxy
          go_wp2_with fail
          go_quiet (fail)
          go_wp2_with fail
          go_ret
          exact ⟨by rw [HF.out]; rfl, below_drewN HBL.out _⟩
      · obtain rfl : k = n := by omega
        have HF : Hid (decide (xs = ys) = true) := Lib.hid (by
          have h1 := HE.out
          rw [List.take_of_length_le (by rw [HX.out]; exact Nat.le_refl _), List.take_of_length_le (by rw [HY.out]; exact Nat.le_refl _)] at h1
          simp [h1])
        go_wp2_with fail
        go_ret
        exact ⟨by rw [HF.out]; rfl, hbl⟩
  · have hne : ((n : Int) != (m : Int)) = true := by simp; omega
    have HF : Hid (decide (xs = ys) = false) := Lib.hid (by
      have : xs ≠ ys := fun h => hnm (by rw [← HX.out, ← HY.out, h])
      simp [this])
    clear hnm
    go_enter Try.func53, Try.ntmps53
    go_wp2_with fail
    go_ret
    exact ⟨by rw [HF.out]; rfl, Below.refl _ _⟩
theorem sameHolds_dec (A B : Option Addr) (xs ys : List HoldV) (n m c d : Nat) (hx : xs.length = n) (hy : ys.length = m) (w : World) (ha : RdV w A (holds xs)) (hb : RdV w B (holds ys)) (hn : n ≤ 1099511627776) (hm : m ≤ 1099511627776) :
    Calls Try.prog 52 #[.slice A n c, .slice B m d] w fun e w' => e = .returned (.bool (decide (xs = ys))) ∧ Below w.heap.size w w' := by
  have HX := Lib.hid hx
  have HY := Lib.hid hy
  clear hx hy
  by_cases hnm : n = m
  · subst hnm
    have hne : ((n : Int) != (n : Int)) = false := by simp
    go_enter Try.func52, Try.ntmps52
    go_wp2_with fail
    go_loopw [5] (fun i wr => ∃ k : Nat, k ≤ n ∧ i = .int .i64 k ∧ Hid (xs.take k = ys.take k) ∧ Below w.heap.size w wr) (fun i _ => n - (intOf i).toNat)
    case atStart => exact ⟨0, Nat.zero_le _, rfl, Lib.hid rfl, Below.refl _ _⟩
    case round =>
      obtain ⟨k, hk, rfl, HE, hbl⟩ := hrel
      by_cases hlt : k < n
      · have hkx : k < xs.length := by rw [HX.out]; exact hlt
        have hky : k < ys.length := by rw [HY.out]; exact hlt
        obtain ⟨b1, o1, rfl, hl1, hc1, hd1⟩ := ha.holdAt hkx
        obtain ⟨b2, o2, rfl, hl2, hc2, hd2⟩ := hb.holdAt hky
        have h1 : wr.cell? ⟨b1, o1 + k * 2, none⟩ = some (.int .i64 (xs[k]).f0) := (hbl.cell (p := ⟨b1, o1 + k * 2, none⟩) hl1).trans hc1
        have h2 : wr.cell? ⟨b1, o1 + k * 2 + 1, none⟩ = some (.int .i64 (xs[k]).f1) := (hbl.cell (p := ⟨b1, o1 + k * 2 + 1, none⟩) hl1).trans hd1
        have h3 : wr.cell? ⟨b2, o2 + k * 2, none⟩ = some (.int .i64 (ys[k]).f0) := (hbl.cell (p := ⟨b2, o2 + k * 2, none⟩) hl2).trans hc2
        have h4 : wr.cell? ⟨b2, o2 + k * 2 + 1, none⟩ = some (.int .i64 (ys[k]).f1) := (hbl.cell (p := ⟨b2, o2 + k * 2 + 1, none⟩) hl2).trans hd2
        have HST := Lib.hid (take_eq hkx hky HE.out)
        have HNE := Lib.hid (ne_at hkx hky)
        generalize xs[k] = x at *
        generalize ys[k] = y at *
        obtain ⟨x0, x1⟩ := x
        obtain ⟨y0, y1⟩ := y
        dsimp only at h1 h2 h3 h4
        have hki : (k : Int) < (n : Int) := by omega
        have hk0 : (0 : Int) ≤ (k : Int) := by omega
        have HBL := Lib.hid hbl
        have hnq := fun W => neq_hold x0 x1 y0 y1 W
        clear hc1 hc2 hd1 hd2 hbl
        by_cases hxy : x0 = y0 ∧ x1 = y1
        · have HS := Lib.hid (HST.out (by rw [hxy.1, hxy.2]))
          have hq : (!(x0 == y0 && x1 == y1)) = false := by simp [hxy.1, hxy.2]
          rw [hq] at hnq
          clear HST HNE hxy hq
          go_wp2_with fail
          go_quiet (fail)
          go_wp2_with fail
          go_roundw
          case rel => exact ⟨k + 1, by omega, by go_num, HS, below_drewN HBL.out _⟩
          case measure => simp [intOf]; omega
        · have HF : Hid (decide (xs = ys) = false) := Lib.hid (by simp [HNE.out (fun e => hxy (by injection e with e1 e2; exact ⟨e1, e2⟩))])
          have hq : (!(x0 == y0 && x1 == y1)) = true := by
            by_cases h5 : x0 = y0
            · have h6 : ¬ x1 = y1 := fun e => hxy ⟨h5, e⟩
              simp [h5, h6]
            · simp [h5]
          rw [hq] at hnq
          clear HST HNE hxy hq
          go_wp2_with fail
          go_quiet (fail)
          go_wp2_with fail
          go_ret
          exact ⟨by rw [HF.out]; rfl, below_drewN HBL.out _⟩
      · obtain rfl : k = n := by omega
        have HF : Hid (decide (xs = ys) = true) := Lib.hid (by
          have h1 := HE.out
          rw [List.take_of_length_le (by rw [HX.out]; exact Nat.le_refl _), List.take_of_length_le (by rw [HY.out]; exact Nat.le_refl _)] at h1
          simp [h1])
        go_wp2_with fail
        go_ret
        exact ⟨by rw [HF.out]; rfl, hbl⟩
  · have hne : ((n : Int) != (m : Int)) = true := by simp; omega
    have HF : Hid (decide (xs = ys) = false) := Lib.hid (by
      have : xs ≠ ys := fun h => hnm (by rw [← HX.out, ← HY.out, h])
      simp [this])
    clear hnm
    go_enter Try.func52, Try.ntmps52
    go_wp2_with fail
    go_ret
    exact ⟨by rw [HF.out]; rfl, Below.refl _ _⟩
theorem samePapers_any (HA LA HB LB : Option Addr) (hs hs2 : List HoldV) (ls ls2 : List Int) (n c m lc n2 c2 m2 lc2 : Nat) (h1 : hs.length = n) (h2 : ls.length = m) (h3 : hs2.length = n2) (h4 : ls2.length = m2) (w : World) (r1 : RdV w HA (holds hs)) (r2 : RdV w LA (ints ls)) (r3 : RdV w HB (holds hs2)) (r4 : RdV w LB (ints ls2)) (b1 : n ≤ 1099511627776) (b2 : m ≤ 1099511627776) (b3 : n2 ≤ 1099511627776) (b4 : m2 ≤ 1099511627776) :
    Calls Try.prog 19 #[.agg #[.slice HA n c, .slice LA m lc], .agg #[.slice HB n2 c2, .slice LB m2 lc2]] w fun e w' => e = .returned (.bool (decide (hs = hs2) && decide (ls = ls2))) ∧ Below w.heap.size w w' := by
  have hbl : Below w.heap.size w ((w.alloc (.cells #[.slice HA n c, .slice LA m lc] 26)).alloc (.cells #[.slice HB n2 c2, .slice LB m2 lc2] 26)) := ((Below.refl _ _).alloc (Nat.le_refl _) _).alloc (by simp) _
  have a0 := (Blk.new w 26 [.slice HA n c, .slice LA m lc]).alloc (.cells #[.slice HB n2 c2, .slice LB m2 lc2] 26)
  have a1 := Blk.new (w.alloc (.cells #[.slice HA n c, .slice LA m lc] 26)) 26 [.slice HB n2 c2, .slice LB m2 lc2]
  simp only [World.size_alloc] at a1
  have H1 := Lib.hid (sameHolds_dec HA HB hs hs2 n n2 c c2 h1 h3 _ (r1.below hbl) (r3.below hbl) b1 b3)
  have H2 := Lib.hid (fun W (hW : Below w.heap.size w W) => sameInts_dec LA LB ls ls2 m m2 lc lc2 h2 h4 W (r2.below hW) (r4.below hW) b2 b4)
  have HBL := Lib.hid hbl
  clear h1 h2 h3 h4 r1 r2 r3 r4 hbl
  go_enter Try.func19, Try.ntmps19
  go_wp2_with fail
  generalize (w.alloc (.cells #[.slice HA n c, .slice LA m lc] 26)).alloc (.cells #[.slice HB n2 c2, .slice LB m2 lc2] 26) = w2 at *
  generalize hd1 : decide (hs = hs2) = d1 at *
  have HD1 := Lib.hid hd1
  clear hd1
  refine H1.out.mono ?_
  rintro e w3 ⟨rfl, hb3⟩
  have x1 := (a0.later hb3).cellAt 1 (by simp)
  have y1 := (a1.later hb3).cellAt 1 (by simp)
  simp only [List.getElem_cons_zero, List.getElem_cons_succ] at x1 y1
  have HB3 := Lib.hid (below_trans HBL.out hb3)
  clear hb3 a0 a1
  cases d1 with
  | false =>
    go_wp2_with fail
    go_ret
    exact ⟨by rw [HD1.out]; rfl, HB3.out⟩
  | true =>
    go_wp2_with fail
    refine (H2.out _ HB3.out).mono ?_
    rintro e w4 ⟨rfl, hb4⟩
    have HB4 := Lib.hid (below_trans HB3.out hb4)
    generalize hd2 : decide (ls = ls2) = d2 at *
    have HD2 := Lib.hid hd2
    clear hb4 hd2
    go_wp2_with fail
    go_ret
    exact ⟨by rw [HD1.out, HD2.out]; rfl, HB4.out⟩
end Go.Proofs.Ytpkbipjnobfcdaa
