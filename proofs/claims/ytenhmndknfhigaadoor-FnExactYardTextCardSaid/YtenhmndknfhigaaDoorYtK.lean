/- The cells of two yards, behind a call. -/
import Derived.Test.YtenhmndknfhigaaDoorBase
namespace Go.Proofs.YtenhmndknfhigaaDoor
open Go Go.ChangeShapes Go.WideShapes Go.ChangeAt Go.RowKit
theorem keepYK {w W : World} {q r : Nat} {a b e f : Value} (h : Below w.heap.size w W) (lq : q < w.heap.size) (lr : r < w.heap.size) (x0 : w.cell? ⟨q, 0, none⟩ = some a) (x1 : w.cell? ⟨q, 1, none⟩ = some b) (x2 : w.cell? ⟨r, 0, none⟩ = some e) (x3 : w.cell? ⟨r, 1, none⟩ = some f) :
    Below w.heap.size w W ∧ W.cell? ⟨q, 0, none⟩ = some a ∧ W.cell? ⟨q, 1, none⟩ = some b ∧ W.cell? ⟨r, 0, none⟩ = some e ∧ W.cell? ⟨r, 1, none⟩ = some f :=
  ⟨h, (h.cell (p := ⟨q, 0, none⟩) lq).trans x0, (h.cell (p := ⟨q, 1, none⟩) lq).trans x1, (h.cell (p := ⟨r, 0, none⟩) lr).trans x2, (h.cell (p := ⟨r, 1, none⟩) lr).trans x3⟩
end Go.Proofs.YtenhmndknfhigaaDoor
