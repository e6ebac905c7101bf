/- Texts with a question mark before each byte that has a meaning, in plain words. -/
import Derived.Lib.Hide
namespace Go.Proofs.Ytljbbhipdfnppaa
/-- a byte that has a meaning in segments, as a number -/
def mkI (c : Int) : Bool := c == 43 || c == 58 || c == 39 || c == 63
def mk8 (c : UInt8) : Bool := mkI c.toNat
def relL (l : List UInt8) : List UInt8 := l.flatMap fun c => if mk8 c then [63, c] else [c]
theorem relL_nil : relL [] = [] := rfl
theorem relL_append (a b : List UInt8) : relL (a ++ b) = relL a ++ relL b := by simp [relL]
theorem relL_snoc (l : List UInt8) (c : UInt8) : relL (l ++ [c]) = relL l ++ (if mk8 c then [63, c] else [c]) := by
  rw [relL_append]
  simp [relL]
/-- how many bytes have a meaning -/
def mkN (l : List UInt8) : Nat := l.countP mk8
theorem relL_len (l : List UInt8) : (relL l).length = l.length + mkN l := by
  induction l with
  | nil => rfl
  | cons c l ih =>
    show (relL (c :: l)).length = _
    rw [show c :: l = [c] ++ l from rfl, relL_append, List.length_append, ih]
    by_cases h : mk8 c = true
    · simp [relL, mkN, h]; omega
    · simp [relL, mkN, h]; omega
theorem mkN_le (l : List UInt8) : mkN l ≤ l.length := List.countP_le_length
theorem mkN_snoc (l : List UInt8) (c : UInt8) : mkN (l ++ [c]) = mkN l + (if mk8 c then 1 else 0) := by
  simp [mkN, List.countP_append, List.countP_cons]
theorem mkI_cases (c : Int) : (mkI c = true ∧ (c = 43 ∨ c = 58 ∨ c = 39 ∨ c = 63)) ∨ (mkI c = false ∧ (c == 43) = false ∧ (c == 58) = false ∧ (c == 39) = false ∧ (c == 63) = false) := by
  by_cases h1 : c = 43
  · exact .inl ⟨by simp [mkI, h1], .inl h1⟩
  · by_cases h2 : c = 58
    · exact .inl ⟨by simp [mkI, h2], .inr (.inl h2)⟩
    · by_cases h3 : c = 39
      · exact .inl ⟨by simp [mkI, h3], .inr (.inr (.inl h3))⟩
      · by_cases h4 : c = 63
        · exact .inl ⟨by simp [mkI, h4], .inr (.inr (.inr h4))⟩
        · exact .inr ⟨by simp [mkI, h1, h2, h3, h4], by simp [h1], by simp [h2], by simp [h3], by simp [h4]⟩
theorem take_snoc8 (l : List UInt8) (k : Nat) (h : k < l.length) : l.take (k + 1) = l.take k ++ [l[k]] := List.take_succ_eq_append_getElem h
theorem relL_take (l : List UInt8) (k : Nat) (h : k < l.length) : relL (l.take (k + 1)) = relL (l.take k) ++ (if mk8 l[k] then [63, l[k]] else [l[k]]) := by
  rw [take_snoc8 l k h, relL_snoc]
theorem mkN_take (l : List UInt8) (k : Nat) (h : k < l.length) : mkN (l.take (k + 1)) = mkN (l.take k) + (if mk8 l[k] then 1 else 0) := by
  rw [take_snoc8 l k h, mkN_snoc]
end Go.Proofs.Ytljbbhipdfnppaa
