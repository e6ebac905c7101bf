/- Yards and texts of yards that are drawn. -/
import Derived.Test.YtcdjgbechigepaaDoorDrawYardT
import Derived.Test.YtcdjgbechigepaaDoorYtS
namespace Go.Proofs.YtcdjgbechigepaaDoor
open Go Go.ChangeShapes Go.WideShapes Go.ChangeAt Go.RowKit
set_option linter.unusedVariables false
set_option linter.unusedSimpArgs false
/-- a yard that was drawn -/
def YardTextD (w : World) : Ending → World → Prop :=
  RVal fun u w' => ∃ high A c rows, u = .agg #[.int .i64 high, .slice A rows.length c] ∧ RdRR w' A (intss rows) ∧ YardLow rows ∧ Below w.heap.size w w'
theorem drawYardText_any (A : Option Addr) (n c : Nat) (bs : List Int) (w : World) (h : Code w A n c bs) : Calls Tryd.prog 16 #[.slice A n c] w (YardTextD w) := by
  have hal : Below w.heap.size w (w.alloc (.cells #[.int .i64 0, .slice none 0 0] 24)) := (Below.refl _ _).alloc (Nat.le_refl _) _
  have hR0 : Blk (w.alloc (.cells #[.int .i64 0, .slice none 0 0] 24)) w.heap.size 24 [.int .i64 0, .slice none 0 0] := Blk.new _ _ _
  have h1 := codeY_below h hal
  have HAL := Lib.hid hal
  clear h hal
  go_enter Tryd.func16, Tryd.ntmps16
  go_wp2_with fail
  refine (open_any A n c bs _ h1).mono ?_
  rintro e w1 ⟨v, rfl, g, rfl, hg, hr, hb⟩
  have hg : w.heap.size + 1 ≤ g := by simpa using hg
  have hR1 := hR0.later hb
  have HB1 := Lib.hid (HAL.out.trans (hb.mono (by simp)))
  have hs1 : w.heap.size + 1 ≤ w1.heap.size := by have := hb.size; simpa using this
  clear hR0 h1 hb
  go_wp2_with fail
  refine (l20Yard_any g 0 6 w1 hr (by omega) (by omega)).mono ?_
  rintro e w2 ⟨_, rfl, high, A2, c2, rows, q2, rfl, ⟨lo, hlo, hO⟩, hL, hq, hr2, hg2⟩
  have hR2 := hR1.only hg2 (by omega)
  have hgl := hr.lt
  have HB2 := Lib.hid (HB1.out.grown hg2 (by omega) (fun k e => by injection e with e; omega))
  have hlo2 : w.heap.size < lo := by omega
  have HO2 := Lib.hid hO
  have z0 := hR2.cellAt 0 (by simp)
  have z1 := hR2.cellAt 1 (by simp)
  have f0 := hR2.frozen 0
  have f1 := hR2.frozen 1
  simp only [List.getElem_cons_zero, List.getElem_cons_succ] at z0 z1
  have hR := (hR2.set_ 0 (.int .i64 high)).set_ 1 (.slice A2 rows.length c2)
  have u0' := hR.cellAt 0 (by simp)
  have u1 := hR.cellAt 1 (by simp)
  simp only [List.set_cons_zero, List.set_cons_succ, List.getElem_cons_zero, List.getElem_cons_succ] at u0' u1
  clear hg2 hR1 hr hr2 hO HB1
  go_wp2_with fail
  refine bodyPost_ret (v := .agg #[.int .i64 high, .slice A2 rows.length c2]) (by simp [results, Tryd.results16, go_sem, *]) rfl ?_
  exact RVal.mk ⟨high, A2, c2, rows, rfl, ((HO2.out.set hlo2 _).set hlo2 _).rd, hL, (HB2.out.setCell (p := ⟨w.heap.size, 0, none⟩) (Nat.le_refl _) _).setCell (p := ⟨w.heap.size, 1, none⟩) (Nat.le_refl _) _⟩
theorem yardT_len (high : Int) (rows : List (List Int)) : (yardT high rows).length ≤ 110 := by
  unfold yardT
  split
  · rename_i h
    obtain ⟨h1, h2, h3⟩ := yard_each h
    have := join_len (sep := [32]) (m := 21) (xs := rows.map rowT) (fun y hy => by
      obtain ⟨s, hs, rfl⟩ := List.mem_map.1 hy
      exact rowT_len (h3 s hs) (h2 s hs))
    rw [List.length_map] at this
    simp only [List.length_cons, List.length_nil] at this
    omega
  · simp
end Go.Proofs.YtcdjgbechigepaaDoor
