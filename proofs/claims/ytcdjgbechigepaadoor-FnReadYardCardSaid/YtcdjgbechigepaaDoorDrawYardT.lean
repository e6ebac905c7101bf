/- A yard and a stack that are drawn. -/
import Derived.Test.YtcdjgbechigepaaDoorDrawYard
import Derived.Deep.RegionHeld3
namespace Go.Proofs.YtcdjgbechigepaaDoor
open Go Go.ChangeShapes Go.WideShapes Go.ChangeAt Go.RowKit
set_option linter.unusedVariables false
set_option linter.unusedSimpArgs false
theorem codeY_below {w w' : World} {A : Option Addr} {n c : Nat} {bs : List Int} (h : Code w A n c bs) (hb : Below w.heap.size w w') : Code w' A n c bs := ⟨h.len, h.cap, h.max, h.rd.below hb, h.byte⟩
theorem RowsAt.only {w w' : World} {lo g : Nat} {te ti : TypeId} {v : Value} {xss : List (List Value)} (h : RowsAt w lo te ti v xss) (hg : w.grownBy w' (some g)) (hb : g < lo) : RowsAt w' lo te ti v xss := by
  obtain ⟨hs, h1, h2⟩ := h
  refine ⟨hs, own_only h1 hg (own_ne h1 hb), fun j hj => ?_⟩
  obtain ⟨a, ea, ha⟩ := h2 j hj
  exact ⟨a, ea, own_only ha hg (own_ne ha hb)⟩
theorem RowsAt.later {w w' : World} {lo : Nat} {te ti : TypeId} {v : Value} {xss : List (List Value)} (h : RowsAt w lo te ti v xss) (hb : Below w.heap.size w w') : RowsAt w' lo te ti v xss := by
  obtain ⟨hs, h1, h2⟩ := h
  refine ⟨hs, own_later h1 hb, fun j hj => ?_⟩
  obtain ⟨a, ea, ha⟩ := h2 j hj
  exact ⟨a, ea, own_later ha hb⟩
theorem far_cellY {W : World} {x y i j : Nat} {u v : Value} (h : W.cell? ⟨x, i, none⟩ = some v) (hne : x ≠ y) : (W.setCell ⟨y, j, none⟩ u).cell? ⟨x, i, none⟩ = some v :=
  (World.cell?_of_block (Below.heap_setCell W ⟨y, j, none⟩ u x hne)).trans h
/-- a yard and a number that were drawn -/
def YardTakeD (w : World) : Ending → World → Prop :=
  RVal fun u w' => ∃ high A c rows, ∃ i : Int, u = .tuple #[.agg #[.int .i64 high, .slice A rows.length c], .int .i64 i] ∧ RdRR w' A (intss rows) ∧ YardLow rows ∧ Below w.heap.size w w'
end Go.Proofs.YtcdjgbechigepaaDoor
