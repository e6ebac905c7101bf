/- Yards: the plain words. -/
import Derived.Test.YtcdjgbechigepaaDoorBase
namespace Go.Proofs.YtcdjgbechigepaaDoor
/-- whether a number is in a list -/
def hasI (zs : List Int) (x : Int) : Bool := zs.contains x
def idI (x : Int) : Bool := decide (1 ≤ x) && decide (x ≤ 999)
def sOk : List Int → List Int → Bool
  | _, [] => true
  | p, x :: r => (idI x && !hasI p x) && sOk (p ++ [x]) r
def stackOk (s : List Int) (high : Int) : Bool := sOk [] s && ((decide (1 ≤ high) && decide (high ≤ 5)) && decide ((s.length : Int) ≤ high))
def dOk : List Int → List Int → Bool
  | _, [] => true
  | p, x :: r => !hasI p x && dOk (p ++ [x]) r
def yOk (high : Int) : List Int → List (List Int) → Bool
  | _, [] => true
  | p, s :: r => stackOk s high && (dOk p s && yOk high (p ++ s) r)
def yardOk (high : Int) (rows : List (List Int)) : Bool := (decide (1 ≤ (rows.length : Int)) && decide ((rows.length : Int) ≤ 5)) && yOk high [] rows
theorem sOk_step {s p : List Int} {k : Nat} (h : k < s.length) : sOk (p ++ s.take k) (s.drop k) = ((idI s[k] && !hasI (p ++ s.take k) s[k]) && sOk (p ++ s.take (k + 1)) (s.drop (k + 1))) := by
  rw [List.drop_eq_getElem_cons h, sOk, List.take_succ_eq_append_getElem h, List.append_assoc]
theorem sOk_end {s p : List Int} {k : Nat} (h : s.length ≤ k) : sOk (p ++ s.take k) (s.drop k) = true := by
  rw [List.drop_of_length_le h, sOk]
theorem dOk_step {s p : List Int} {k : Nat} (h : k < s.length) : dOk (p ++ s.take k) (s.drop k) = (!hasI (p ++ s.take k) s[k] && dOk (p ++ s.take (k + 1)) (s.drop (k + 1))) := by
  rw [List.drop_eq_getElem_cons h, dOk, List.take_succ_eq_append_getElem h, List.append_assoc]
theorem dOk_end {s p : List Int} {k : Nat} (h : s.length ≤ k) : dOk (p ++ s.take k) (s.drop k) = true := by
  rw [List.drop_of_length_le h, dOk]
theorem yOk_step {high : Int} {l : List (List Int)} {k : Nat} (h : k < l.length) : yOk high ((l.take k).flatten) (l.drop k) = (stackOk l[k] high && (dOk ((l.take k).flatten) l[k] && yOk high ((l.take (k + 1)).flatten) (l.drop (k + 1)))) := by
  rw [List.drop_eq_getElem_cons h, yOk, List.take_succ_eq_append_getElem h, List.flatten_append]
  simp
theorem yOk_end {high : Int} {l : List (List Int)} {k : Nat} (h : l.length ≤ k) : yOk high ((l.take k).flatten) (l.drop k) = true := by
  rw [List.drop_of_length_le h, yOk]
theorem has_step {s : List Int} {k : Nat} {x : Int} (h : k < s.length) (h0 : hasI (s.take k) x = false) (hx : s[k] ≠ x) : hasI (s.take (k + 1)) x = false := by
  rw [List.take_succ_eq_append_getElem h]
  simp only [hasI, List.contains_eq_mem, List.mem_append, List.mem_singleton, decide_eq_false_iff_not] at *
  rintro (h | h)
  · exact h0 h
  · exact hx h.symm
theorem has_yes {s : List Int} {k : Nat} {x : Int} (h : k < s.length) (hx : s[k] = x) : hasI s x = true := by
  simp only [hasI, List.contains_eq_mem, decide_eq_true_eq]
  rw [← hx]
  exact List.getElem_mem h
theorem stackOk_parts {s : List Int} {high : Int} (h : stackOk s high = true) : sOk [] s = true ∧ 1 ≤ high ∧ high ≤ 5 ∧ (s.length : Int) ≤ high := by
  simp only [stackOk, Bool.and_eq_true, decide_eq_true_eq] at h
  exact ⟨h.1, h.2.1.1, h.2.1.2, h.2.2⟩
theorem sOk_ids {p s : List Int} (h : sOk p s = true) : ∀ x ∈ s, 1 ≤ x ∧ x ≤ 999 := by
  induction s generalizing p with
  | nil => intro x hx; simp at hx
  | cons a s ih =>
    simp only [sOk, Bool.and_eq_true, idI, decide_eq_true_eq] at h
    intro x hx
    rcases List.mem_cons.1 hx with rfl | hx
    · exact h.1.1
    · exact ih h.2 x hx
theorem yOk_in {high : Int} {p : List Int} {l : List (List Int)} (h : yOk high p l = true) : ∀ s ∈ l, stackOk s high = true := by
  induction l generalizing p with
  | nil => intro s hs; simp at hs
  | cons a l ih =>
    simp only [yOk, Bool.and_eq_true] at h
    intro s hs
    rcases List.mem_cons.1 hs with rfl | hs
    · exact h.1
    · exact ih h.2.2 s hs
theorem yardOk_parts {high : Int} {rows : List (List Int)} (h : yardOk high rows = true) : 1 ≤ rows.length ∧ rows.length ≤ 5 ∧ 1 ≤ high ∧ high ≤ 5 ∧ (∀ s ∈ rows, s.length ≤ 5) ∧ (∀ s ∈ rows, ∀ x ∈ s, 1 ≤ x ∧ x ≤ 999) := by
  simp only [yardOk, Bool.and_eq_true, decide_eq_true_eq] at h
  obtain ⟨⟨h1, h2⟩, h3⟩ := h
  have hs := yOk_in h3
  have h4 : 1 ≤ high ∧ high ≤ 5 := by
    obtain ⟨a, r, rfl⟩ : ∃ a r, rows = a :: r := by cases rows with
      | nil => simp at h1
      | cons a r => exact ⟨a, r, rfl⟩
    have := stackOk_parts (hs a (List.mem_cons_self ..))
    omega
  refine ⟨by omega, by omega, h4.1, h4.2, fun s hm => ?_, fun s hm => sOk_ids (stackOk_parts (hs s hm)).1⟩
  have := stackOk_parts (hs s hm)
  omega
end Go.Proofs.YtcdjgbechigepaaDoor
