/- The laws compare inboxes. -/
import Derived.Test.YtehaacpeamhamaaQueM
import Derived.Deep.QuietTactic
import Derived.BigQuiet
import Derived.Laws.StructEq
namespace Go.Proofs.Ytehaacpeamhamaa
open Go Go.ChangeShapes Go.WideShapes Go.ChangeAt Go.RowKit
theorem neq_msg (a b : Int) (w : World) : (binOp .neq 35 (.agg #[.int .i64 a, .int .i64 b]) (.agg #[.int .i64 a, .int .i64 b])).run Try.prog w = .ok (.bool false) w := by
  have hu : Try.prog.underlying 35 = some (.struct (Try.prog.fieldsOf 35)) := by kernel_rfl
  have hp : Try.prog.stoodInHeld 35 = false := by kernel_rfl
  rw [run_neq_struct, run_equalIn_struct _ _ _ _ _ hu hp]
  simp [go_sem, Try.underlying35, Try.underlying3]
theorem sameInbox_any (next : Int) (A B : Option Addr) (zs : List MessageV) (n c d : Nat) (hzn : zs.length = n) (w : World) (ha : RdV w A (messages zs)) (hb : RdV w B (messages zs)) (hn : n ≤ 1099511627776) :
    Calls Try.prog 8 #[.agg #[.int .i64 next, .slice A n c], .agg #[.int .i64 next, .slice B n d]] w fun e w' => e = .returned (.bool true) ∧ Below w.heap.size w w' := by
  have HZ := Lib.hid hzn
  clear hzn
  have hbl : Below w.heap.size w ((w.alloc (.cells #[.int .i64 next, .slice A n c] 25)).alloc (.cells #[.int .i64 next, .slice B n d] 25)) := ((Below.refl _ _).alloc (Nat.le_refl _) _).alloc (by simp) _
  have hP : Blk ((w.alloc (.cells #[.int .i64 next, .slice A n c] 25)).alloc (.cells #[.int .i64 next, .slice B n d] 25)) w.heap.size 25 [.int .i64 next, .slice A n c] := (Blk.new _ _ _).alloc _
  have hQ : Blk ((w.alloc (.cells #[.int .i64 next, .slice A n c] 25)).alloc (.cells #[.int .i64 next, .slice B n d] 25)) (w.heap.size + 1) 25 [.int .i64 next, .slice B n d] := by simpa using Blk.new (w.alloc (.cells #[.int .i64 next, .slice A n c] 25)) 25 [.int .i64 next, .slice B n d]
  have hne : ((n : Int) != (n : Int)) = false := by simp
  have hnx : (next != next) = false := by simp
  go_enter Try.func8, Try.ntmps8
  go_wp2_with fail
  generalize (w.alloc (.cells #[.int .i64 next, .slice A n c] 25)).alloc (.cells #[.int .i64 next, .slice B n d] 25) = w0 at *
  go_loopw [5] (fun i wr => ∃ k : Nat, k ≤ n ∧ i = .int .i64 k ∧ Blk wr w.heap.size 25 [.int .i64 next, .slice A n c] ∧ Blk wr (w.heap.size + 1) 25 [.int .i64 next, .slice B n d] ∧ Below w.heap.size w wr) (fun i _ => n - (intOf i).toNat)
  case atStart => exact ⟨0, Nat.zero_le _, rfl, hP, hQ, hbl⟩
  case round =>
    clear hP hQ hbl
    obtain ⟨k, hk, rfl, hP, hQ, hbl⟩ := hrel
    have p1 := hP.cellAt 1 (by simp)
    have q1 := hQ.cellAt 1 (by simp)
    simp only [List.getElem_cons_zero, List.getElem_cons_succ] at p1 q1
    have HP := Lib.hid hP
    have HQ := Lib.hid hQ
    have HB := Lib.hid hbl
    clear hP hQ
    by_cases hlt : k < n
    · have hke : k < zs.length := by rw [HZ.out]; exact hlt
      obtain ⟨b1, o1, rfl, hl1, ha0, ha1⟩ := ha.messageAt hke
      obtain ⟨b2, o2, rfl, hl2, hb0, hb1⟩ := hb.messageAt hke
      have x0 : wr.cell? ⟨b1, o1 + k * 2, none⟩ = some (.int .i64 (zs[k]).f0) := (hbl.cell (p := ⟨b1, o1 + k * 2, none⟩) hl1).trans ha0
      have x1 : wr.cell? ⟨b1, o1 + k * 2 + 1, none⟩ = some (.int .i64 (zs[k]).f1) := (hbl.cell (p := ⟨b1, o1 + k * 2 + 1, none⟩) hl1).trans ha1
      have y0 : wr.cell? ⟨b2, o2 + k * 2, none⟩ = some (.int .i64 (zs[k]).f0) := (hbl.cell (p := ⟨b2, o2 + k * 2, none⟩) hl2).trans hb0
      have y1 : wr.cell? ⟨b2, o2 + k * 2 + 1, none⟩ = some (.int .i64 (zs[k]).f1) := (hbl.cell (p := ⟨b2, o2 + k * 2 + 1, none⟩) hl2).trans hb1
      have heq := neq_msg (zs[k]).f0 (zs[k]).f1
      generalize (zs[k]).f0 = u0 at *
      generalize (zs[k]).f1 = u1 at *
      have hki : (k : Int) < (n : Int) := by omega
      have hk0 : (0 : Int) ≤ (k : Int) := by omega
      clear ha0 ha1 hb0 hb1 hbl
      go_wp2_with fail
      go_quiet (fail)
      go_wp2
      go_roundw
      case rel => exact ⟨k + 1, by omega, by go_num, HP.out.drewN _, HQ.out.drewN _, below_drewN HB.out _⟩
      case measure => simp [intOf]; omega
    · go_wp2_with fail
      go_ret
      exact ⟨rfl, HB.out⟩
end Go.Proofs.Ytehaacpeamhamaa
