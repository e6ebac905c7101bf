/- Lists of Message: their cells; copying, comparing, measuring. -/
import Derived.Test.YtehaacpeamhamaaFlat
import Derived.Test.YtehaacpeamhamaaProg
import Derived.Deep.QuietTactic
import Derived.BigQuiet
import Derived.Deep.RegionHeld3
namespace Go.Proofs.Ytehaacpeamhamaa
open Go Go.ChangeShapes Go.WideShapes Go.ChangeAt Go.RowKit
structure MessageV where
  f0 : Int
  f1 : Int
def messageC (x : MessageV) : List Value := [.int .i64 x.f0, .int .i64 x.f1]
theorem messageC_len (x : MessageV) : (messageC x).length = 2 := rfl
/-- the cells of a list -/
def messages (zs : List MessageV) : List Value := cellsOf messageC zs
theorem messages_len (zs : List MessageV) : (messages zs).length = zs.length * 2 := cellsOf_len _ _ messageC_len zs
theorem RdV.messageAt {w : World} {A : Option Addr} {zs : List MessageV} (h : RdV w A (messages zs)) {j : Nat} (hj : j < zs.length) : ∃ b o, A = some ⟨b, o, none⟩ ∧ b < w.heap.size ∧ w.cell? ⟨b, o + j * 2, none⟩ = some (.int .i64 (zs[j]).f0) ∧ w.cell? ⟨b, o + j * 2 + 1, none⟩ = some (.int .i64 (zs[j]).f1) := by
  obtain ⟨b, o, hA, hl, hc⟩ := RdV.fieldAt messageC_len h hj (by decide)
  exact ⟨b, o, hA, hl, hc 0 _ rfl, hc 1 _ rfl⟩
theorem message_info : (Try.prog.info? 35).map (fun i => (i.zero, i.size, i.bytes)) = some (some (.agg #[.int .i64 0, .int .i64 0]), 2, 16) := by kernel_rfl
theorem make_message (n : Nat) (hn : n ≤ 1048576) (w : World) : (Instr.makeSlice 23 (.int .i64 (n : Int)) (.int .i64 (n : Int))).run Try.prog w = .ok (.slice (some ⟨w.heap.size, 0, none⟩) n n) (w.alloc (.cells ((List.replicate n [.int .i64 0, .int .i64 0]).flatten).toArray 35)) :=
  run_make_rowk (P := Try.prog) 23 35 (.agg #[.int .i64 0, .int .i64 0]) [.int .i64 0, .int .i64 0] 16 2 Try.underlying23 message_info rfl rfl (by decide) n (by omega) (by omega) w
end Go.Proofs.Ytehaacpeamhamaa
