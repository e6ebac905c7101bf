/- A yard that is drawn for RoomLeft. -/
import Derived.Test.YtcbeoaedccdppaaDrawYardT
namespace Go.Proofs.Ytcbeoaedccdppaa
open Go Go.ChangeShapes Go.WideShapes Go.ChangeAt Go.RowKit
set_option linter.unusedVariables false
set_option linter.unusedSimpArgs false
/-- a yard that was drawn -/
def RoomD (w : World) : Ending → World → Prop :=
  RVal fun u w' => ∃ high A c rows, u = .agg #[.int .i64 high, .slice A rows.length c] ∧ RdRR w' A (intss rows) ∧ YardLow rows ∧ Below w.heap.size w w'
set_option maxHeartbeats 2000000 in
theorem drawRoomLeft_any (A : Option Addr) (n c : Nat) (bs : List Int) (w : World) (h : Code w A n c bs) : Calls Try.prog 11 #[.slice A n c] w (RoomD w) := by
  have hal : Below w.heap.size w (w.alloc (.cells #[.int .i64 0, .slice none 0 0] 27)) := (Below.refl _ _).alloc (Nat.le_refl _) _
  have hR0 : Blk (w.alloc (.cells #[.int .i64 0, .slice none 0 0] 27)) w.heap.size 27 [.int .i64 0, .slice none 0 0] := Blk.new _ _ _
  have h1 := codeY_below h hal
  have HAL := Lib.hid hal
  clear h hal
  go_enter Try.func11, Try.ntmps11
  go_wp2_with fail
  refine (open_any A n c bs _ h1).mono ?_
  rintro e w1 ⟨v, rfl, g, rfl, hg, hr, hb⟩
  have hg : w.heap.size + 1 ≤ g := by simpa using hg
  have hR1 := hR0.later hb
  have HB1 := Lib.hid (HAL.out.trans (hb.mono (by simp)))
  have hs1 : w.heap.size + 1 ≤ w1.heap.size := by have := hb.size; simpa using this
  clear hR0 h1 hb
  go_wp2_with fail
  refine (l20Yard_any g 0 6 w1 hr (by omega) (by omega)).mono ?_
  rintro e w2 ⟨_, rfl, high, A2, c2, rows, q2, rfl, ⟨lo, hlo, hO⟩, hL, hq, hr2, hg2⟩
  have hR2 := hR1.only hg2 (by omega)
  have hgl := hr.lt
  have HB2 := Lib.hid (HB1.out.grown hg2 (by omega) (fun k e => by injection e with e; omega))
  have f0 := hR2.frozen 0
  have f1 := hR2.frozen 1
  have z0 := hR2.cellAt 0 (by simp)
  have z1 := hR2.cellAt 1 (by simp)
  simp only [List.getElem_cons_zero, List.getElem_cons_succ] at z0 z1
  have hR := (hR2.set_ 0 (.int .i64 high)).set_ 1 (.slice A2 rows.length c2)
  have hR3 := hR2.set_ 0 (.int .i64 high)
  have u0 := hR3.cellAt 0 (by simp)
  have u0' := hR.cellAt 0 (by simp)
  have u1 := hR.cellAt 1 (by simp)
  simp only [List.set_cons_zero, List.set_cons_succ, List.getElem_cons_zero, List.getElem_cons_succ] at u0 u0' u1
  have HO := Lib.hid hO
  have HL := Lib.hid hL
  have hlo2 : w.heap.size < lo := by omega
  clear hg2 hR1 hr hr2 hO hL
  go_wp2_with fail
  refine bodyPost_ret (v := .agg #[.int .i64 high, .slice A2 rows.length c2]) (by simp [results, Try.results11, go_sem, *]) rfl ?_
  exact RVal.mk ⟨high, A2, c2, rows, rfl, ((HO.out.set hlo2 _).set hlo2 _).rd, HL.out, (HB2.out.setCell (p := ⟨w.heap.size, 0, none⟩) (Nat.le_refl _) _).setCell (p := ⟨w.heap.size, 1, none⟩) (Nat.le_refl _) _⟩
end Go.Proofs.Ytcbeoaedccdppaa
