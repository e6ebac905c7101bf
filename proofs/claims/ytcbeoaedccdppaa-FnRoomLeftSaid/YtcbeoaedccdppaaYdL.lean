/- What the walks of the exact laws on yards share. -/
import Derived.Test.YtcbeoaedccdppaaYdX
import Derived.Test.YtcbeoaedccdppaaYdU
namespace Go.Proofs.Ytcbeoaedccdppaa
open Go Go.ChangeShapes Go.WideShapes Go.ChangeAt Go.RowKit
set_option linter.unusedVariables false
/-- a yard and a further value, in memory of the call's own -/
def YTRd (w : World) (high : Int) (rows : List (List Int)) (m : Nat) (r : Value) : Ending → World → Prop :=
  RVal fun u w' => ∃ A c, u = .tuple #[.agg #[.int .i64 high, .slice A m c], r] ∧ OwnRR w' w.heap.size w'.heap.size 37 3 (.slice A m c) (intss rows) ∧ Below w.heap.size w w'
theorem yt_use {w : World} {f : FuncId} {args : Array Value} {high r : Int} {rows : List (List Int)} {m : Nat} (h : Calls Try.prog f args w (YTOut w (high, rows, r))) (hm : rows.length = m) : Calls Try.prog f args w (YTRd w high rows m (.int .i64 r)) := by
  subst hm
  exact h
theorem totI_set {rows : List (List Int)} {k : Nat} (hk : k < rows.length) (y : List Int) : totI (rows.set k y) + (rows[k]).length = totI rows + y.length := by
  induction rows generalizing k with
  | nil => simp at hk
  | cons a l ih =>
    cases k with
    | zero => simp [totI]; omega
    | succ k =>
      have := ih (k := k) (by simpa using hk)
      simp only [List.set_cons_succ, List.getElem_cons_succ] at *
      have e1 : ∀ (b : List Int) (l : List (List Int)), totI (b :: l) = b.length + totI l := fun b l => by simp [totI]
      rw [e1, e1]
      omega
theorem ytake_small (high : Int) (rows : List (List Int)) (i : Int) : (ytake high rows i).2.1.length ≤ rows.length ∧ totI (ytake high rows i).2.1 ≤ totI rows := by
  unfold ytake
  split
  · simp [totI]
  · split
    · rename_i h
      have hk : i.toNat < rows.length := by omega
      have e : rows.getD i.toNat [] = rows[i.toNat] := by rw [List.getD_eq_getElem?_getD, List.getElem?_eq_getElem hk]; rfl
      have := totI_set hk (rows.getD i.toNat []).dropLast
      rw [List.length_dropLast, e] at this
      simp only [List.length_set]
      rw [e]
      omega
    · simp
theorem keepXX {w W : World} {q r : Nat} {a b e f : Value} (h : Below w.heap.size w W) (lq : q < w.heap.size) (lr : r < w.heap.size) (x0 : w.cell? ⟨q, 0, none⟩ = some a) (x1 : w.cell? ⟨q, 1, none⟩ = some b) (x2 : w.cell? ⟨r, 0, none⟩ = some e) (x3 : w.cell? ⟨r, 1, none⟩ = some f) :
    Below w.heap.size w W ∧ W.cell? ⟨q, 0, none⟩ = some a ∧ W.cell? ⟨q, 1, none⟩ = some b ∧ W.cell? ⟨r, 0, none⟩ = some e ∧ W.cell? ⟨r, 1, none⟩ = some f :=
  ⟨h, (h.cell (p := ⟨q, 0, none⟩) lq).trans x0, (h.cell (p := ⟨q, 1, none⟩) lq).trans x1, (h.cell (p := ⟨r, 0, none⟩) lr).trans x2, (h.cell (p := ⟨r, 1, none⟩) lr).trans x3⟩
end Go.Proofs.Ytcbeoaedccdppaa
