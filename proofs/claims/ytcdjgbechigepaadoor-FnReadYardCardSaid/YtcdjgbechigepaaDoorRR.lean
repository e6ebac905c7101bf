/- Rows of rows: an outer row of slices whose cells are known. -/
import Derived.Test.YtcdjgbechigepaaDoorOwn
namespace Go.Proofs.YtcdjgbechigepaaDoor
open Go Go.ChangeShapes Go.WideShapes Go.ChangeAt Go.RowKit
theorem RdV.drew {w : World} {A : Option Addr} {cs : List Value} (h : RdV w A cs) : RdV w.drew A cs := h
/-- each cell of the outer row is a slice whose cells are known -/
def RdRR (w : World) (A : Option Addr) (xss : List (List Value)) : Prop :=
  ∃ hs : List Value, hs.length = xss.length ∧ RdV w A hs ∧ ∀ i (h : i < xss.length), ∃ B c, hs[i]? = some (.slice B (xss[i]).length c) ∧ (xss[i]).length ≤ c ∧ c ≤ maxLen ∧ RdV w B xss[i]
theorem RdRR.below {w w' : World} {A : Option Addr} {xss : List (List Value)} (h : RdRR w A xss) (hb : Below w.heap.size w w') : RdRR w' A xss := by
  obtain ⟨hs, h1, h2, h3⟩ := h
  refine ⟨hs, h1, h2.below hb, fun i hi => ?_⟩
  obtain ⟨B, c, e, e1, e2, hr⟩ := h3 i hi
  exact ⟨B, c, e, e1, e2, hr.below hb⟩
theorem RdRR.pos {w : World} {A : Option Addr} {xss : List (List Value)} (h : RdRR w A xss) {k : Nat} (hk : k < xss.length) :
    ∃ b o, A = some ⟨b, o, none⟩ ∧ b < w.heap.size ∧ ∃ B c, w.cell? ⟨b, o + k, none⟩ = some (.slice B (xss[k]).length c) ∧ (xss[k]).length ≤ c ∧ c ≤ maxLen ∧ RdV w B xss[k] := by
  obtain ⟨hs, h1, h2, h3⟩ := h
  obtain ⟨b, o, hA, hl, hc⟩ := h2.pos (k := k) (by omega)
  obtain ⟨B, c, e, e1, e2, hr⟩ := h3 k hk
  refine ⟨b, o, hA, hl, B, c, ?_, e1, e2, hr⟩
  rw [hc k (by omega)]
  rw [List.getElem?_eq_getElem (by omega)] at e
  exact e
theorem RdRR.nil_ {w : World} {A : Option Addr} : RdRR w A [] := ⟨[], rfl, RdV.nil_, fun i h => by simp at h⟩
/-- texts as cells -/
def strs (ss : List ByteArray) : List Value := ss.map .string
theorem strs_len (ss : List ByteArray) : (strs ss).length = ss.length := by simp [strs]
theorem strs_at (ss : List ByteArray) (k : Nat) (h : k < (strs ss).length) : (strs ss)[k] = .string (ss[k]'(by simpa [strs] using h)) := by simp [strs]
/-- lists of texts as cells -/
def strss (ess : List (List ByteArray)) : List (List Value) := ess.map strs
theorem strss_len (ess : List (List ByteArray)) : (strss ess).length = ess.length := by simp [strss]
theorem strss_at (ess : List (List ByteArray)) (k : Nat) (h : k < (strss ess).length) : (strss ess)[k] = strs (ess[k]'(by simpa [strss] using h)) := by simp [strss]
end Go.Proofs.YtcdjgbechigepaaDoor
