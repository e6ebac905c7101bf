/- Boxes and differences that came in, read. -/
import Derived.Test.YtbhnlooellgfaaaFlatR
import Derived.Test.YtbhnlooellgfaaaBxT
import Derived.Deep.Strs
import Derived.Lib.SmallJoins
namespace Go.Proofs.Ytbhnlooellgfaaa
open Go Go.ChangeShapes Go.WideShapes Go.ChangeAt Go.RowKit Go.Deep
set_option linter.unusedVariables false
section
variable {H : Type} {enc : TypeId × Value → H} {P : Program} {w : World} {base : Nat} {spare : Nat → Bool} {held : Bool}
theorem trod_struct5 {t : TypeId} {f0 f1 f2 f3 f4 : Field} {fuel : Nat} {cs : List Value} {x : DataW H × List MemPlace} (ht : P.underlying t = some (.struct #[f0, f1, f2, f3, f4])) (h : DataW.trod enc P w base spare held fuel t cs = some x) :
    ∃ y0 y1 y2 y3 y4 n, cs.length = P.cellsOf t ∧ DataW.trod enc P w base spare held n f0.type ((cs.drop f0.offset).take (P.cellsOf f0.type)) = some y0 ∧ DataW.trod enc P w base spare held n f1.type ((cs.drop f1.offset).take (P.cellsOf f1.type)) = some y1 ∧
      DataW.trod enc P w base spare held n f2.type ((cs.drop f2.offset).take (P.cellsOf f2.type)) = some y2 ∧ DataW.trod enc P w base spare held n f3.type ((cs.drop f3.offset).take (P.cellsOf f3.type)) = some y3 ∧ DataW.trod enc P w base spare held n f4.type ((cs.drop f4.offset).take (P.cellsOf f4.type)) = some y4 := by
  obtain ⟨xs, n, _, rfl, hl, hlen, hf⟩ := DataW.trod_struct ht h
  match xs, hlen with
  | [y0, y1, y2, y3, y4], _ => exact ⟨y0, y1, y2, y3, y4, n, hl, by simpa using hf 0 f0 rfl, by simpa using hf 1 f1 rfl, by simpa using hf 2 f2 rfl, by simpa using hf 3 f3 rfl, by simpa using hf 4 f4 rfl⟩
end
section
variable {H : Type} {enc : TypeId × Value → H} {w : World} {base : Nat} {spare : Nat → Bool} {held : Bool}
set_option maxRecDepth 100000 in
theorem box_one {cs : List Value} {n : Nat} {y : DataW H × List MemPlace} (hy : DataW.trod enc Try.prog w base spare held n 53 cs = some y) : ∃ z : BoxV, cs = boxC z := by
  obtain ⟨q0, q1, q2, q3, q4, m, hl, t0, t1, t2, t3, t4⟩ := trod_struct5 Try.underlying53 hy
  rw [show Try.prog.cellsOf 53 = 5 from by kernel_rfl] at hl
  rw [show Try.prog.cellsOf _ = 1 from by kernel_rfl] at t0 t1 t2 t3 t4
  obtain ⟨c0, c1, c2, c3, c4, rfl⟩ : ∃ a b c d e, cs = [a, b, c, d, e] := by
    match cs, hl with
    | [a, b, c, d, e], _ => exact ⟨a, b, c, d, e, rfl⟩
  obtain ⟨a0, e0, _⟩ := DataW.trod_int (t := 3) Try.underlying3 t0
  obtain ⟨a1, e1, _⟩ := DataW.trod_int (t := 3) Try.underlying3 t1
  obtain ⟨a2, e2, _⟩ := DataW.trod_int (t := 3) Try.underlying3 t2
  obtain ⟨a3, e3, _⟩ := DataW.trod_int (t := 3) Try.underlying3 t3
  obtain ⟨a4, e4, _⟩ := DataW.trod_bool (t := 4) Try.underlying4 t4
  simp at e0 e1 e2 e3 e4
  exact ⟨⟨a0, a1, a2, a3, a4⟩, by rw [e0, e1, e2, e3, e4]; rfl⟩
/-- boxes that came in -/
structure BoxsD where
  A : Option Addr
  c : Nat
  zs : List BoxV
def IsBoxs (w : World) (v : Value) (d : BoxsD) : Prop := v = .slice d.A d.zs.length d.c ∧ RdV w d.A (boxs d.zs) ∧ d.zs.length ≤ maxLen
set_option maxRecDepth 100000 in
theorem read_boxes {b0 : Nat} {r : Reach} {v : Value} {d : DataW H} {p : List MemPlace}
    (hv : Value.okWide Try.prog w r b0 22 v) (h : DataW.Trod enc Try.prog w base spare held 22 v d p) : ∃ a, IsBoxs w v a := by
  obtain ⟨A, n, c, rfl⟩ := okWide_slice Try.underlying22 hv
  obtain ⟨fuel, h⟩ := h
  obtain ⟨A', n', c', ds, e, rfl, g1, g2, g3⟩ := read_list (α := BoxV) (ec := boxC) boxC_len (by decide) Try.underlying22 (by kernel_rfl) (fun cs n y hy => box_one hy) h
  injection e with e1 e2 e3
  subst e1 e2 e3
  exact ⟨⟨A, c, ds⟩, rfl, g3, Nat.le_trans g1 g2⟩
end
end Go.Proofs.Ytbhnlooellgfaaa
