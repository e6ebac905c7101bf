/- The laws compare lists of differences. -/
import Derived.Test.YtbhnlooellgfaaaSameBx
namespace Go.Proofs.Ytbhnlooellgfaaa
open Go Go.ChangeShapes Go.WideShapes Go.ChangeAt Go.RowKit
set_option linter.unusedVariables false
set_option linter.unusedSimpArgs false
theorem neq_diff (x : DiffV) (w : World) : (binOp .neq 56 (.agg #[.int .i64 x.k, .int .i64 x.b.f0, .int .i64 x.b.f1, .int .i64 x.b.f2, .int .i64 x.b.f3, .bool x.b.f4]) (.agg #[.int .i64 x.k, .int .i64 x.b.f0, .int .i64 x.b.f1, .int .i64 x.b.f2, .int .i64 x.b.f3, .bool x.b.f4])).run Try.prog w = .ok (.bool false) w := by
  have hu : Try.prog.underlying 56 = some (.struct (Try.prog.fieldsOf 56)) := by kernel_rfl
  have hp : Try.prog.stoodInHeld 56 = false := by kernel_rfl
  have hb := fun W => boxEq_runD 9997 x.b x.b W
  rw [run_neq_struct, run_equalIn_struct _ _ _ _ _ hu hp]
  simp [go_sem, Try.underlying56, Try.underlying3, hb]
set_option maxHeartbeats 1000000 in
theorem sameDiffs_same (A B : Option Addr) (xs : List DiffV) (n c d : Nat) (hx : xs.length = n) (w : World) (ha : RdV w A (diffs xs)) (hb : RdV w B (diffs xs)) (hn : n ≤ 1099511627776) :
    Calls Try.prog 31 #[.slice A n c, .slice B n d] w fun e w' => e = .returned (.bool true) ∧ Below w.heap.size w w' := by
  have HX := Lib.hid hx
  clear hx
  have hne : ((n : Int) != (n : Int)) = false := by simp
  go_enter Try.func31, Try.ntmps31
  go_wp2_with fail
  go_loopw [5] (fun i wr => ∃ k : Nat, k ≤ n ∧ i = .int .i64 k ∧ Below w.heap.size w wr) (fun i _ => n - (intOf i).toNat)
  case atStart => exact ⟨0, Nat.zero_le _, rfl, Below.refl _ _⟩
  case round =>
    obtain ⟨k, hk, rfl, hbl⟩ := hrel
    by_cases hlt : k < n
    · have hkx : k < xs.length := by rw [HX.out]; exact hlt
      obtain ⟨b1, o1, rfl, hl1, xc0, xc1, xc2, xc3, xc4, xc5⟩ := ha.diffAt hkx
      obtain ⟨b2, o2, rfl, hl2, yc0, yc1, yc2, yc3, yc4, yc5⟩ := hb.diffAt hkx
      have x0 : wr.cell? ⟨b1, o1 + k * 6, none⟩ = some (.int .i64 (xs[k]).k) := (hbl.cell (p := ⟨b1, o1 + k * 6, none⟩) hl1).trans xc0
      have x1 : wr.cell? ⟨b1, o1 + k * 6 + 1, none⟩ = some (.int .i64 (xs[k]).b.f0) := (hbl.cell (p := ⟨b1, o1 + k * 6 + 1, none⟩) hl1).trans xc1
      have x2 : wr.cell? ⟨b1, o1 + k * 6 + 2, none⟩ = some (.int .i64 (xs[k]).b.f1) := (hbl.cell (p := ⟨b1, o1 + k * 6 + 2, none⟩) hl1).trans xc2
      have x3 : wr.cell? ⟨b1, o1 + k * 6 + 3, none⟩ = some (.int .i64 (xs[k]).b.f2) := (hbl.cell (p := ⟨b1, o1 + k * 6 + 3, none⟩) hl1).trans xc3
      have x4 : wr.cell? ⟨b1, o1 + k * 6 + 4, none⟩ = some (.int .i64 (xs[k]).b.f3) := (hbl.cell (p := ⟨b1, o1 + k * 6 + 4, none⟩) hl1).trans xc4
      have x5 : wr.cell? ⟨b1, o1 + k * 6 + 5, none⟩ = some (.bool (xs[k]).b.f4) := (hbl.cell (p := ⟨b1, o1 + k * 6 + 5, none⟩) hl1).trans xc5
      have y0 : wr.cell? ⟨b2, o2 + k * 6, none⟩ = some (.int .i64 (xs[k]).k) := (hbl.cell (p := ⟨b2, o2 + k * 6, none⟩) hl2).trans yc0
      have y1 : wr.cell? ⟨b2, o2 + k * 6 + 1, none⟩ = some (.int .i64 (xs[k]).b.f0) := (hbl.cell (p := ⟨b2, o2 + k * 6 + 1, none⟩) hl2).trans yc1
      have y2 : wr.cell? ⟨b2, o2 + k * 6 + 2, none⟩ = some (.int .i64 (xs[k]).b.f1) := (hbl.cell (p := ⟨b2, o2 + k * 6 + 2, none⟩) hl2).trans yc2
      have y3 : wr.cell? ⟨b2, o2 + k * 6 + 3, none⟩ = some (.int .i64 (xs[k]).b.f2) := (hbl.cell (p := ⟨b2, o2 + k * 6 + 3, none⟩) hl2).trans yc3
      have y4 : wr.cell? ⟨b2, o2 + k * 6 + 4, none⟩ = some (.int .i64 (xs[k]).b.f3) := (hbl.cell (p := ⟨b2, o2 + k * 6 + 4, none⟩) hl2).trans yc4
      have y5 : wr.cell? ⟨b2, o2 + k * 6 + 5, none⟩ = some (.bool (xs[k]).b.f4) := (hbl.cell (p := ⟨b2, o2 + k * 6 + 5, none⟩) hl2).trans yc5
      have hnq := fun W => neq_diff xs[k] W
      generalize xs[k] = x at *
      have hki : (k : Int) < (n : Int) := by omega
      have hk0 : (0 : Int) ≤ (k : Int) := by omega
      have HBL := Lib.hid hbl
      clear xc0 xc1 xc2 xc3 xc4 xc5 yc0 yc1 yc2 yc3 yc4 yc5 hbl
      go_wp2_with fail
      go_quiet (fail)
      go_wp2_with fail
      go_roundw
      case rel => exact ⟨k + 1, by omega, by go_num, below_drewN HBL.out _⟩
      case measure => simp [intOf]; omega
    · go_wp2_with fail
      go_ret
      exact ⟨rfl, hbl⟩
end Go.Proofs.Ytbhnlooellgfaaa
