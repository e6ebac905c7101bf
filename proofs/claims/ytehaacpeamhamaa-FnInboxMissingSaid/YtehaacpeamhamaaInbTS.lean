/- The reference's copies of an inbox, and its taking of a message. -/
import Derived.Test.YtehaacpeamhamaaInbTP
import Derived.Test.YtehaacpeamhamaaInbMS
import Derived.Test.YtehaacpeamhamaaOwnSrc
import Derived.Test.YtehaacpeamhamaaOwnStep
import Derived.Deep.RegionHeld3
namespace Go.Proofs.Ytehaacpeamhamaa
open Go Go.ChangeShapes Go.WideShapes Go.ChangeAt Go.RowKit
theorem message_infoD : Info Try.prog 35 (.agg #[.int .i64 0, .int .i64 0]) 2 16 := Info.mk' message_info rfl (by decide) (by decide)
theorem messages_cell (zs : List MessageV) : ∀ u ∈ messages zs, u.oneCell' = true := by
  intro u hu
  simp only [messages, cellsOf, List.mem_flatMap, messageC, List.mem_cons, List.not_mem_nil, or_false] at hu
  obtain ⟨z, _, rfl | rfl⟩ := hu <;> rfl
theorem keep3m {w W : World} {a : Nat} {t : Int} {v : Value} (hb : Below w.heap.size w W) (lx : a < w.heap.size) (x0 : w.cell? ⟨a, 0, none⟩ = some (.int .i64 t)) (x1 : w.cell? ⟨a, 1, none⟩ = some v) :
    Below w.heap.size w W ∧ W.cell? ⟨a, 0, none⟩ = some (.int .i64 t) ∧ W.cell? ⟨a, 1, none⟩ = some v :=
  ⟨hb, (hb.cell (p := ⟨a, 0, none⟩) lx).trans x0, (hb.cell (p := ⟨a, 1, none⟩) lx).trans x1⟩
theorem keep3t {w0 w W : World} {a : Nat} {t : Int} {v : Value} (h0 : Below w0.heap.size w0 w) (hb : Below w.heap.size w W) (lx : a < w.heap.size) (x0 : w.cell? ⟨a, 0, none⟩ = some (.int .i64 t)) (x1 : w.cell? ⟨a, 1, none⟩ = some v) :
    Below w0.heap.size w0 W ∧ W.cell? ⟨a, 0, none⟩ = some (.int .i64 t) ∧ W.cell? ⟨a, 1, none⟩ = some v :=
  ⟨below_trans h0 hb, (hb.cell (p := ⟨a, 0, none⟩) lx).trans x0, (hb.cell (p := ⟨a, 1, none⟩) lx).trans x1⟩
theorem keep3s {w0 W : World} {a q : Nat} {ty : TypeId} {t : Int} {v u1 u2 : Value} (hb : Below w0.heap.size w0 W) (hq : w0.heap.size ≤ q) (hP : Blk W a ty [.int .i64 t, v]) (hne : a ≠ q) :
    Below w0.heap.size w0 ((W.setCell ⟨q, 0, none⟩ u1).setCell ⟨q, 1, none⟩ u2) ∧ ((W.setCell ⟨q, 0, none⟩ u1).setCell ⟨q, 1, none⟩ u2).cell? ⟨a, 0, none⟩ = some (.int .i64 t) ∧ ((W.setCell ⟨q, 0, none⟩ u1).setCell ⟨q, 1, none⟩ u2).cell? ⟨a, 1, none⟩ = some v := by
  have h2 : Blk ((W.setCell ⟨q, 0, none⟩ u1).setCell ⟨q, 1, none⟩ u2) a ty [.int .i64 t, v] := (Below.heap_setCell _ ⟨q, 1, none⟩ _ a hne).trans ((Below.heap_setCell _ ⟨q, 0, none⟩ _ a hne).trans hP)
  exact ⟨(hb.setCell hq _).setCell hq _, h2.cellAt 0 (by simp), h2.cellAt 1 (by simp)⟩
theorem below_fresh {w W w' : World} {row : Option Nat} (hg : W.grownBy w' row) (hb : Below w.heap.size w W) (hr : row = some w.heap.size) : Below w.heap.size w w' :=
  ⟨hg.os.trans hb.os, hg.tape.trans hb.tape, hg.output.trans hb.output, Nat.le_trans hb.size hg.size, fun i hi => (hg.block i (Nat.lt_of_lt_of_le hi hb.size) (fun e => by rw [hr] at e; injection e with e; omega)).trans (hb.block i hi)⟩
set_option maxHeartbeats 2000000 in
theorem l29Copy_any (next : Int) (A : Option Addr) (n c : Nat) (held : List MessageV) (w : World) (hn : held.length = n) (hr : RdV w A (messages held)) (hm : n ≤ 1048576) :
    Calls Try.prog 24 #[.agg #[.int .i64 next, .slice A n c]] w (InbOut w next n held) := by
  have HN := Lib.hid hn
  clear hn
  have hml : (messages held).length = n * 2 := by rw [messages_len, HN.out]
  have HML := Lib.hid hml
  clear hml
  have hone := Lib.hid (messages_cell held)
  go_enter Try.func24, Try.ntmps24
  go_wp2_with fail
  have hP : Blk ((w.alloc (.cells #[.int .i64 next, .slice A n c] 25)).alloc (.cells #[.int .i64 0, .slice none 0 0] 25)) w.heap.size 25 [.int .i64 next, .slice A n c] := (Blk.new _ _ _).alloc _
  have hQ : Blk ((w.alloc (.cells #[.int .i64 next, .slice A n c] 25)).alloc (.cells #[.int .i64 0, .slice none 0 0] 25)) (w.heap.size + 1) 25 [.int .i64 0, .slice none 0 0] := by simpa using Blk.new (w.alloc (.cells #[.int .i64 next, .slice A n c] 25)) 25 [.int .i64 0, .slice none 0 0]
  have hB : Below w.heap.size w ((w.alloc (.cells #[.int .i64 next, .slice A n c] 25)).alloc (.cells #[.int .i64 0, .slice none 0 0] 25)) := ((Below.refl _ _).alloc (Nat.le_refl _) _).alloc (by simp) _
  have hsz : ((w.alloc (.cells #[.int .i64 next, .slice A n c] 25)).alloc (.cells #[.int .i64 0, .slice none 0 0] 25)).heap.size = w.heap.size + 2 := by simp
  generalize (w.alloc (.cells #[.int .i64 next, .slice A n c] 25)).alloc (.cells #[.int .i64 0, .slice none 0 0] 25) = w2 at *
  have c0 := hP.cellAt 0 (by simp)
  have c1 := hP.cellAt 1 (by simp)
  simp only [List.getElem_cons_zero, List.getElem_cons_succ] at c0 c1
  have HP := Lib.hid hP
  have HQ := Lib.hid hQ
  have HB := Lib.hid hB
  have lp := hP.lt
  have lq := hQ.lt
  have hr2 := hr.below hB
  have hsz2 : w.heap.size + 2 ≤ w2.heap.size := by omega
  clear hP hQ hB hsz
  go_region_held3 (fun W => Below w.heap.size w W ∧ W.cell? ⟨w.heap.size, 0, none⟩ = some (.int .i64 next) ∧ W.cell? ⟨w.heap.size, 1, none⟩ = some (.slice A n c))
    (first
      | exact keep3t HB.out (Below.refl _ _) lp c0 c1
      | exact keep3t HB.out (Below.drew (Below.refl _ _)) lp c0 c1
      | exact keep3t HB.out (Below.drew ((Below.refl _ _).alloc (Nat.le_refl _) _)) lp c0 c1
      | exact keep3t HB.out kb5 lp c0 c1
      | exact keep3s (below_trans HB.out kb5) (Nat.le_succ _) (HP.out.later kb5) (Nat.ne_of_lt (Nat.lt_succ_self _)))
    ((
         refine step_append_src rfl (.tmp 5) (.tmp 7) 23 rfl 35 _ _ _ Try.underlying23 message_infoD w2.heap.size _ _ 0 [] rfl ?own1 A n c (messages held) rfl HML.out ?rd1 hone.out (by omega) ?le1 ?_
         case own1 => exact own_of_blk (cs := []) (by (try refine Blk.drew ?_); exact Blk.new _ _ _) (Nat.le_refl _) rfl (by decide)
         case rd1 => exact hr2.below (Below.drew ((Below.refl _ _).alloc (Nat.le_refl _) _))
         case le1 => simp
         intro v1 w5 hown5 hg5 hb5
         obtain ⟨A5, c5, rfl, _, _⟩ := own_slice hown5
         have kb5 : Below w2.heap.size w2 w5 := below_fresh hg5 (Below.drew ((Below.refl _ _).alloc (Nat.le_refl _) _)) rfl
         have e0 := ((HQ.out.later kb5).cellAt 0 (by simp))
         have e1 := ((HQ.out.later kb5).cellAt 1 (by simp))
         simp only [List.getElem_cons_zero, List.getElem_cons_succ] at e0 e1
         have f0 := (HQ.out.later kb5).frozen 0
         have f1 := (HQ.out.later kb5).frozen 1
         have HO5 := Lib.hid hown5
         clear hown5 hg5 hb5))
  go_wp2_with fail
  refine bodyPost_ret (v := .agg #[.int .i64 next, .slice A5 n c5]) (by simp [results, Try.results24, go_sem, *]) rfl ?_
  have h6 : Out w.heap.size (w.heap.size + 2) w5 ((w5.setCell ⟨w.heap.size + 1, 0, none⟩ (.int .i64 next)).setCell ⟨w.heap.size + 1, 1, none⟩ (.slice A5 n c5)) := out_set (out_set (Out.refl _ _ _) _ _ _ (by omega) (by omega)) _ _ _ (by omega) (by omega)
  have hO : OwnI w5 w2.heap.size w5.heap.size 35 2 (.slice A5 n c5) n (messages held) := by simpa using OwnI.of HO5.out
  have h7 := hO.out h6 (.inr hsz2)
  exact RVal.mk ⟨A5, c5, rfl, ⟨own_base h7.row (by omega), fun g e => Nat.lt_of_lt_of_le (h7.lt g e) h6.size, Nat.le_refl _⟩, below_out (below_trans HB.out kb5) h6 (Nat.le_refl _)⟩
end Go.Proofs.Ytehaacpeamhamaa
