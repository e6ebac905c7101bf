/- The program's clone of an inbox and its taking of a message in place. -/
import Derived.Test.YtehaacpeamhamaaMsgI
import Derived.Test.YtehaacpeamhamaaInbI
namespace Go.Proofs.Ytehaacpeamhamaa
open Go Go.ChangeShapes Go.WideShapes Go.ChangeAt Go.RowKit
set_option maxHeartbeats 2000000 in
theorem inbClone_any (next : Int) (A : Option Addr) (n c : Nat) (held : List MessageV) (w : World) (hn : held.length = n) (hr : RdV w A (messages held)) (hm : n ≤ 1048576) :
    Calls Try.prog 22 #[.agg #[.int .i64 next, .slice A n c]] w (InbOut w next n held) := by
  have HN := Lib.hid hn
  clear hn
  go_enter Try.func22, Try.ntmps22
  go_wp2_with fail
  have hP : Blk ((w.alloc (.cells #[.int .i64 next, .slice A n c] 25)).alloc (.cells #[.int .i64 0, .slice none 0 0] 25)) w.heap.size 25 [.int .i64 next, .slice A n c] := (Blk.new _ _ _).alloc _
  have hQ : Blk ((w.alloc (.cells #[.int .i64 next, .slice A n c] 25)).alloc (.cells #[.int .i64 0, .slice none 0 0] 25)) (w.heap.size + 1) 25 [.int .i64 0, .slice none 0 0] := by simpa using Blk.new (w.alloc (.cells #[.int .i64 next, .slice A n c] 25)) 25 [.int .i64 0, .slice none 0 0]
  have hB : Below w.heap.size w ((w.alloc (.cells #[.int .i64 next, .slice A n c] 25)).alloc (.cells #[.int .i64 0, .slice none 0 0] 25)) := ((Below.refl _ _).alloc (Nat.le_refl _) _).alloc (by simp) _
  have hsz : ((w.alloc (.cells #[.int .i64 next, .slice A n c] 25)).alloc (.cells #[.int .i64 0, .slice none 0 0] 25)).heap.size = w.heap.size + 2 := by simp
  generalize (w.alloc (.cells #[.int .i64 next, .slice A n c] 25)).alloc (.cells #[.int .i64 0, .slice none 0 0] 25) = w2 at *
  have c0 := hP.cellAt 0 (by simp)
  have c1 := hP.cellAt 1 (by simp)
  simp only [List.getElem_cons_zero, List.getElem_cons_succ] at c0 c1
  have HP := Lib.hid hP
  have HQ := Lib.hid hQ
  have HB := Lib.hid hB
  have lp := hP.lt
  have lq := hQ.lt
  have hr2 := hr.below hB
  have hsz2 : w.heap.size + 2 ≤ w2.heap.size := by omega
  clear hP hQ hB hsz
  go_region_held3 (fun W => Below w.heap.size w W ∧ W.cell? ⟨w.heap.size, 0, none⟩ = some (.int .i64 next) ∧ W.cell? ⟨w.heap.size, 1, none⟩ = some (.slice A n c))
    (first
      | exact keep3t HB.out (Below.refl _ _) lp c0 c1
      | exact keep3t HB.out (Below.drew (Below.refl _ _)) lp c0 c1
      | exact keep3t HB.out kb5 lp c0 c1
      | exact keep3s (below_trans HB.out kb5) (Nat.le_succ _) (HP.out.later kb5) (Nat.ne_of_lt (Nat.lt_succ_self _)))
    ((
         go_at_call 31
         (with_reducible refine (clone_msg A n c held _ HN.out (hr2.below (Below.drew (Below.refl _ _))) hm).mono ?_)
         rintro e w5 ⟨_, rfl, A5, c5, rfl, hown5, hb5⟩
         have kb5 : Below w2.heap.size w2 w5 := ⟨hb5.os, hb5.tape, hb5.output, hb5.size, hb5.block⟩
         have e0 := ((HQ.out.later kb5).cellAt 0 (by simp))
         have e1 := ((HQ.out.later kb5).cellAt 1 (by simp))
         simp only [List.getElem_cons_zero, List.getElem_cons_succ] at e0 e1
         have f0 := (HQ.out.later kb5).frozen 0
         have f1 := (HQ.out.later kb5).frozen 1
         have HO5 := Lib.hid hown5
         clear hown5 hb5))
  go_wp2_with fail
  refine bodyPost_ret (v := .agg #[.int .i64 next, .slice A5 n c5]) (by simp [results, Try.results22, go_sem, *]) rfl ?_
  have h6 : Out w.heap.size (w.heap.size + 2) w5 ((w5.setCell ⟨w.heap.size + 1, 0, none⟩ (.int .i64 next)).setCell ⟨w.heap.size + 1, 1, none⟩ (.slice A5 n c5)) := out_set (out_set (Out.refl _ _ _) _ _ _ (by omega) (by omega)) _ _ _ (by omega) (by omega)
  have hO : OwnI w5 w2.heap.size w5.heap.size 35 2 (.slice A5 n c5) n (messages held) := OwnI.of HO5.out
  have h7 := hO.out h6 (.inr hsz2)
  exact RVal.mk ⟨A5, c5, rfl, ⟨own_base h7.row (by omega), fun g e => Nat.lt_of_lt_of_le (h7.lt g e) h6.size, Nat.le_refl _⟩, below_out (below_trans HB.out kb5) h6 (Nat.le_refl _)⟩
end Go.Proofs.Ytehaacpeamhamaa
