/- Differences that came in, read. -/
import Derived.Test.YtbhnlooellgfaaaBxX
import Derived.Test.YtbhnlooellgfaaaDifM
namespace Go.Proofs.Ytbhnlooellgfaaa
open Go Go.ChangeShapes Go.WideShapes Go.ChangeAt Go.RowKit Go.Deep
set_option linter.unusedVariables false
section
variable {H : Type} {enc : TypeId × Value → H} {w : World} {base : Nat} {spare : Nat → Bool} {held : Bool}
set_option maxRecDepth 100000 in
theorem diff_one {cs : List Value} {n : Nat} {y : DataW H × List MemPlace} (hy : DataW.trod enc Try.prog w base spare held n 67 cs = some y) : ∃ z : DiffV, cs = diffC z := by
  obtain ⟨q0, q1, m, _, hl, t0, t1⟩ := trod_struct2 Try.underlying67 hy
  rw [show Try.prog.cellsOf 67 = 6 from by kernel_rfl] at hl
  rw [show Try.prog.cellsOf _ = 1 from by kernel_rfl] at t0
  rw [show Try.prog.cellsOf _ = 5 from by kernel_rfl] at t1
  obtain ⟨c0, c1, c2, c3, c4, c5, rfl⟩ : ∃ a b c d e f, cs = [a, b, c, d, e, f] := by
    match cs, hl with
    | [a, b, c, d, e, f], _ => exact ⟨a, b, c, d, e, f, rfl⟩
  obtain ⟨a0, e0, _⟩ := DataW.trod_int (t := 3) Try.underlying3 t0
  obtain ⟨z, e1⟩ := box_one t1
  simp at e0
  have e2 : [c1, c2, c3, c4, c5] = boxC z := e1
  exact ⟨⟨a0, z⟩, by rw [e0, e2]; rfl⟩
/-- differences that came in -/
structure DifsD where
  A : Option Addr
  c : Nat
  ds : List DiffV
def IsDifs (w : World) (v : Value) (d : DifsD) : Prop := v = .slice d.A d.ds.length d.c ∧ RdV w d.A (diffs d.ds) ∧ d.ds.length ≤ maxLen
set_option maxRecDepth 100000 in
theorem read_diffs {b0 : Nat} {r : Reach} {v : Value} {d : DataW H} {p : List MemPlace}
    (hv : Value.okWide Try.prog w r b0 42 v) (h : DataW.Trod enc Try.prog w base spare held 42 v d p) : ∃ a, IsDifs w v a := by
  obtain ⟨A, n, c, rfl⟩ := okWide_slice Try.underlying42 hv
  obtain ⟨fuel, h⟩ := h
  obtain ⟨A', n', c', ds, e, rfl, g1, g2, g3⟩ := read_list (α := DiffV) (ec := diffC) diffC_len (by decide) Try.underlying42 (by kernel_rfl) (fun cs n y hy => diff_one hy) h
  injection e with e1 e2 e3
  subst e1 e2 e3
  exact ⟨⟨A, c, ds⟩, rfl, g3, Nat.le_trans g1 g2⟩
end
end Go.Proofs.Ytbhnlooellgfaaa
