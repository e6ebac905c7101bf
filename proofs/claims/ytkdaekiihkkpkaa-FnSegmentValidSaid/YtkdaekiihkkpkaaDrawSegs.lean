/- The segments that are drawn for the laws. -/
import Derived.Test.YtkdaekiihkkpkaaDrawSeg
namespace Go.Proofs.Ytkdaekiihkkpkaa
open Go Go.ChangeShapes Go.WideShapes Go.ChangeAt Go.RowKit
theorem code_below {w w' : World} {A : Option Addr} {n c : Nat} {bs : List Int} (h : Code w A n c bs) (hb : Below w.heap.size w w') : Code w' A n c bs := ⟨h.len, h.cap, h.max, h.rd.below hb, h.byte⟩
/-- a segment that was drawn, in memory of the call's own -/
def SegOf (w : World) : Ending → World → Prop :=
  RVal fun u w' => ∃ tag A c ess, u = .agg #[.string tag, .slice A ess.length c] ∧ OwnRR w' w.heap.size w'.heap.size 28 9 (.slice A ess.length c) (strss ess) ∧ SegLow tag ess ∧ Below w.heap.size w w'
theorem drawSegmentValid_any (A : Option Addr) (n c : Nat) (bs : List Int) (w : World) (h : Code w A n c bs) : Calls Try.prog 4 #[.slice A n c] w (SegOf w) := by
  have hal : Below w.heap.size w (w.alloc (.cells #[.string ⟨#[]⟩, .slice none 0 0] 25)) := (Below.refl _ _).alloc (Nat.le_refl _) _
  have hR0 : Blk (w.alloc (.cells #[.string ⟨#[]⟩, .slice none 0 0] 25)) w.heap.size 25 [.string ⟨#[]⟩, .slice none 0 0] := Blk.new _ _ _
  have h1 := code_below h hal
  have HAL := Lib.hid hal
  clear h hal
  go_enter Try.func4, Try.ntmps4
  go_wp2_with fail
  refine (open_any A n c bs _ h1).mono ?_
  rintro e w1 ⟨v, rfl, g, rfl, hg, hr, hb⟩
  have hg : w.heap.size + 1 ≤ g := by simpa using hg
  have hR1 := hR0.later hb
  have HB1 := Lib.hid (HAL.out.trans (hb.mono (by simp)))
  have hs1 : w.heap.size + 1 ≤ w1.heap.size := by have := hb.size; simpa using this
  clear hR0 h1 hb
  go_wp2_with fail
  refine (l20Segment_any g 0 2 w1 hr (by omega) (by omega)).mono ?_
  rintro e w2 ⟨_, rfl, tag, A', c', ess, q', rfl, hO, hL, hq, hr2, hg2⟩
  have hR2 := hR1.only hg2 (by omega)
  have HO := Lib.hid hO
  have HB := Lib.hid (HB1.out.grown hg2 (by omega) (fun k e => by injection e with e; omega))
  have fR0 := hR2.cellAt 0 (by simp)
  have fR1 := hR2.cellAt 1 (by simp)
  simp only [List.getElem_cons_zero, List.getElem_cons_succ] at fR0 fR1
  have zR0 := hR2.frozen 0
  have zR1 := hR2.frozen 1
  have hlt := hR2.lt
  clear hO hg2 hR1 hR2 hr hr2
  go_wp2_with fail
  refine bodyPost_ret (v := .agg #[.string tag, .slice A' ess.length c']) (by simp [results, Try.results4, go_sem, *]) rfl ?_
  refine RVal.mk ⟨tag, A', c', ess, rfl, ?_, hL, (HB.out.setCell (p := ⟨w.heap.size, 0, none⟩) (Nat.le_refl _) _).setCell (p := ⟨w.heap.size, 1, none⟩) (Nat.le_refl _) _⟩
  exact ((HO.out.set_far w.heap.size 0 _ (by omega) (Nat.le_refl _)).set_far w.heap.size 1 _ (by omega) (Nat.le_refl _)).base (by omega)
end Go.Proofs.Ytkdaekiihkkpkaa
