/- Boxes of the call's own: an element stored over; a slice's ends read; what ApplyDiffs returns. -/
import Derived.Test.YtbhnlooellgfaaaBxQ
import Derived.Test.YtbhnlooellgfaaaBxD
namespace Go.Proofs.Ytbhnlooellgfaaa
open Go Go.ChangeShapes Go.WideShapes Go.ChangeAt Go.RowKit
set_option linter.unusedVariables false
theorem boxs_mid (a b : List BoxV) (x : BoxV) : boxs (a ++ x :: b) = boxs a ++ ([.int .i64 x.f0, .int .i64 x.f1, .int .i64 x.f2, .int .i64 x.f3, .bool x.f4] ++ boxs b) := by
  rw [boxs_append]
  rfl
theorem boxs_split (L : List BoxV) (i : Nat) (hi : i < L.length) : boxs L = boxs (L.take i) ++ ([.int .i64 (L[i]).f0, .int .i64 (L[i]).f1, .int .i64 (L[i]).f2, .int .i64 (L[i]).f3, .bool (L[i]).f4] ++ boxs (L.drop (i + 1))) := by
  conv => lhs; rw [← List.take_append_drop i L, List.drop_eq_getElem_cons hi]
  rw [boxs_mid]
theorem boxs_set (L : List BoxV) (i : Nat) (hi : i < L.length) (y : BoxV) : boxs (L.set i y) = boxs (L.take i) ++ ([.int .i64 y.f0, .int .i64 y.f1, .int .i64 y.f2, .int .i64 y.f3, .bool y.f4] ++ boxs (L.drop (i + 1))) := by
  rw [List.set_eq_take_append_cons_drop, if_pos hi, boxs_mid]
theorem own_storeBox {w : World} {base g n c i : Nat} {L : List BoxV} (h : w.ownsRow base 40 5 (.slice (some ⟨g, 0, none⟩) n c) n (boxs L)) (hl : L.length = n) (hi : i < n) (y : BoxV) :
    (((((w.setCell ⟨g, i * 5, none⟩ (.int .i64 y.f0)).setCell ⟨g, i * 5 + 1, none⟩ (.int .i64 y.f1)).setCell ⟨g, i * 5 + 2, none⟩ (.int .i64 y.f2)).setCell ⟨g, i * 5 + 3, none⟩ (.int .i64 y.f3)).setCell ⟨g, i * 5 + 4, none⟩ (.bool y.f4)).ownsRow base 40 5 (.slice (some ⟨g, 0, none⟩) n c) n (boxs (L.set i y)) ∧
    w.grownBy (((((w.setCell ⟨g, i * 5, none⟩ (.int .i64 y.f0)).setCell ⟨g, i * 5 + 1, none⟩ (.int .i64 y.f1)).setCell ⟨g, i * 5 + 2, none⟩ (.int .i64 y.f2)).setCell ⟨g, i * 5 + 3, none⟩ (.int .i64 y.f3)).setCell ⟨g, i * 5 + 4, none⟩ (.bool y.f4)) (some g) ∧
    w.cell? ⟨g, i * 5, none⟩ = some (.int .i64 (L[i]'(by omega)).f0) ∧ w.cell? ⟨g, i * 5 + 1, none⟩ = some (.int .i64 (L[i]'(by omega)).f1) ∧ w.cell? ⟨g, i * 5 + 2, none⟩ = some (.int .i64 (L[i]'(by omega)).f2) ∧ w.cell? ⟨g, i * 5 + 3, none⟩ = some (.int .i64 (L[i]'(by omega)).f3) ∧ w.cell? ⟨g, i * 5 + 4, none⟩ = some (.bool (L[i]'(by omega)).f4) ∧
    w.frozen? ⟨g, i * 5, none⟩ = false ∧ w.frozen? ⟨g, i * 5 + 1, none⟩ = false ∧ w.frozen? ⟨g, i * 5 + 2, none⟩ = false ∧ w.frozen? ⟨g, i * 5 + 3, none⟩ = false ∧ w.frozen? ⟨g, i * 5 + 4, none⟩ = false := by
  have hml : (boxs (L.take i)).length = i * 5 := by rw [boxs_len, List.length_take, Nat.min_eq_left (by omega)]
  have f0 := h.frozenAt (i * 5)
  have f1 := h.frozenAt (i * 5 + 1)
  have f2 := h.frozenAt (i * 5 + 2)
  have f3 := h.frozenAt (i * 5 + 3)
  have f4 := h.frozenAt (i * 5 + 4)
  rw [boxs_split L i (by omega)] at h
  have q0 := h.cellAt (i * 5) (by omega)
  rw [List.getElem?_append_right (by omega), hml, show i * 5 - i * 5 = 0 from by omega] at q0
  have q1 := h.cellAt (i * 5 + 1) (by omega)
  rw [List.getElem?_append_right (by omega), hml, show i * 5 + 1 - i * 5 = 1 from by omega] at q1
  have q2 := h.cellAt (i * 5 + 2) (by omega)
  rw [List.getElem?_append_right (by omega), hml, show i * 5 + 2 - i * 5 = 2 from by omega] at q2
  have q3 := h.cellAt (i * 5 + 3) (by omega)
  rw [List.getElem?_append_right (by omega), hml, show i * 5 + 3 - i * 5 = 3 from by omega] at q3
  have q4 := h.cellAt (i * 5 + 4) (by omega)
  rw [List.getElem?_append_right (by omega), hml, show i * 5 + 4 - i * 5 = 4 from by omega] at q4
  simp only [List.cons_append, List.getElem?_cons_zero, List.getElem?_cons_succ] at q0 q1 q2 q3 q4
  obtain ⟨hst0, hgt0⟩ := h.stored (i * 5) (.int .i64 y.f0)
  obtain ⟨hst1, hgt1⟩ := hst0.stored (i * 5 + 1) (.int .i64 y.f1)
  obtain ⟨hst2, hgt2⟩ := hst1.stored (i * 5 + 2) (.int .i64 y.f2)
  obtain ⟨hst3, hgt3⟩ := hst2.stored (i * 5 + 3) (.int .i64 y.f3)
  obtain ⟨hst4, hgt4⟩ := hst3.stored (i * 5 + 4) (.bool y.f4)
  rw [set_f5 _ _ _ _ _ _ _ _ _ _ _ _ _ hml, ← boxs_set L i (by omega) y] at hst4
  exact ⟨hst4, (((hgt0.trans hgt1).trans hgt2).trans hgt3).trans hgt4, q0, q1, q2, q3, q4, f0, f1, f2, f3, f4⟩
theorem RdV.boxDrop {w : World} {b o : Nat} {zs : List BoxV} (h : RdV w (some ⟨b, o, none⟩) (boxs zs)) (k : Nat) (hk : k ≤ zs.length) : RdV w (some ⟨b, o + k * 5, none⟩) (boxs (zs.drop k)) := by
  rcases h with h | ⟨b', o', he, hl, hc⟩
  · left
    have hz : zs = [] := by
      have := boxs_len zs
      rw [h] at this
      simp at this
      exact List.eq_nil_of_length_eq_zero (by omega)
    rw [hz]; simp [boxs, cellsOf]
  · injection he with he
    injection he with e1 e2
    subst e1 e2
    refine .inr ⟨b, o + k * 5, rfl, hl, fun j hj => ?_⟩
    have he : boxs zs = boxs (zs.take k) ++ boxs (zs.drop k) := by rw [← boxs_append, List.take_append_drop]
    have hT : (boxs (zs.take k)).length = k * 5 := by rw [boxs_len, List.length_take, Nat.min_eq_left hk]
    have hj2 : k * 5 + j < (boxs zs).length := by rw [he, List.length_append]; omega
    rw [Nat.add_assoc, hc _ hj2]
    congr 1
    have : (boxs zs)[k * 5 + j]? = (boxs (zs.drop k))[j]? := by rw [he, List.getElem?_append_right (by omega), hT, Nat.add_sub_cancel_left]
    rw [List.getElem?_eq_getElem hj2, List.getElem?_eq_getElem hj] at this
    injection this
/-- boxes and whether they could be had -/
def ApOut (w : World) (base : Nat) (r : List BoxV × Bool) : Ending → World → Prop :=
  RVal fun u w' => ∃ A n c, u = .tuple #[.slice A n c, .bool r.2] ∧ r.1.length = n ∧ w'.ownsRow base 40 5 (.slice A n c) n (boxs r.1) ∧ Below w.heap.size w w'
theorem ApOut.mk {w w' : World} {base : Nat} {r : List BoxV × Bool} {L : List BoxV} {b : Bool} {A : Option Addr} {n c : Nat} (hr : r = (L, b)) (hl : L.length = n) (ho : w'.ownsRow base 40 5 (.slice A n c) n (boxs L)) (hb : Below w.heap.size w w') : ApOut w base r (.returned (.tuple #[.slice A n c, .bool b])) w' := by
  subst hr
  exact RVal.mk ⟨A, n, c, rfl, hl, ho, hb⟩
theorem ApOut.no {w wx : World} {r : List BoxV × Bool} (hr : r = ([], false)) (hb : Below w.heap.size w wx) : ApOut w w.heap.size r (.returned (.tuple #[.slice (some ⟨wx.heap.size, 0, none⟩) 0 0, .bool false])) (wx.alloc (.cells #[] 40)) :=
  ApOut.mk hr rfl (own_of_blk (cs := []) (Blk.new _ _ _) hb.size rfl (by decide)) (hb.alloc hb.size _)
theorem ApOut.no_nil {w wx : World} {r : List BoxV × Bool} (hr : r = ([], false)) (hb : Below w.heap.size w wx) : ApOut w w.heap.size r (.returned (.tuple #[.slice none 0 0, .bool false])) wx :=
  ApOut.mk hr rfl (World.ownsRow_nil _ _ _ _) hb
end Go.Proofs.Ytbhnlooellgfaaa
