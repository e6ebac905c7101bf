/- When a segment is valid, in plain words. -/
import Derived.Lib.Hide
namespace Go.Proofs.Ytkdaekiihkkpkaa
/-- a byte from A to Z, as a number -/
def capI (c : Int) : Bool := decide (65 ≤ c) && decide (c ≤ 90)
def tagOk (l : List UInt8) : Bool := match l with
  | [a, b, c] => capI a.toNat && capI b.toNat && capI c.toNat
  | _ => false
def partsOk (ps : List ByteArray) : Bool := decide (1 ≤ ps.length) && decide (ps.length ≤ 4) && ps.all fun p => decide (p.size ≤ 8)
def segOk (tag : ByteArray) (ess : List (List ByteArray)) : Bool := tagOk tag.data.toList && decide (ess.length ≤ 5) && ess.all partsOk
theorem capI_cases (c : Int) : (capI c = true ∧ 65 ≤ c ∧ c ≤ 90) ∨ (capI c = false ∧ (c < 65 ∨ 90 < c)) := by
  by_cases h1 : 65 ≤ c
  · by_cases h2 : c ≤ 90
    · exact .inl ⟨by simp [capI, h1, h2], h1, h2⟩
    · exact .inr ⟨by simp [capI, h2], by omega⟩
  · exact .inr ⟨by simp [capI, h1], by omega⟩
theorem tagOk_len {l : List UInt8} (h : l.length ≠ 3) : tagOk l = false := by
  unfold tagOk
  split
  · simp at h
  · rfl
theorem tagOk_three {l : List UInt8} (h : l.length = 3) : tagOk l = (capI (l[0].toNat) && capI (l[1].toNat) && capI (l[2].toNat)) := by
  match l, h with
  | [a, b, c], _ => rfl
theorem segOk_tag {tag : ByteArray} {ess : List (List ByteArray)} (h : tagOk tag.data.toList = false) : segOk tag ess = false := by simp [segOk, h]
theorem segOk_many {tag : ByteArray} {ess : List (List ByteArray)} (h : 5 < ess.length) : segOk tag ess = false := by
  have : decide (ess.length ≤ 5) = false := by simp; omega
  simp [segOk, this]
theorem segOk_bad {tag : ByteArray} {ess : List (List ByteArray)} {k : Nat} (hk : k < ess.length) (h : partsOk ess[k] = false) : segOk tag ess = false := by
  have : ess.all partsOk = false := by
    rw [List.all_eq_false]
    exact ⟨_, List.getElem_mem hk, by simp [h]⟩
  simp [segOk, this]
theorem segOk_good {tag : ByteArray} {ess : List (List ByteArray)} (h : tagOk tag.data.toList = true) (h5 : ess.length ≤ 5) (hp : ∀ k (hk : k < ess.length), partsOk ess[k] = true) : segOk tag ess = true := by
  have : ess.all partsOk = true := by
    rw [List.all_eq_true]
    intro x hx
    obtain ⟨k, hk, rfl⟩ := List.getElem_of_mem hx
    exact hp k hk
  simp [segOk, this, h, h5]
theorem partsOk_len {ps : List ByteArray} (h : ps.length < 1 ∨ 4 < ps.length) : partsOk ps = false := by
  rcases h with h | h
  · have : decide (1 ≤ ps.length) = false := decide_eq_false (by omega)
    simp [partsOk, this]
  · have : decide (ps.length ≤ 4) = false := decide_eq_false (by omega)
    simp [partsOk, this]
theorem partsOk_bad {ps : List ByteArray} {k : Nat} (hk : k < ps.length) (h : 8 < (ps[k]).size) : partsOk ps = false := by
  have h8 : decide ((ps[k]).size ≤ 8) = false := by simpa using h
  have : (ps.all fun p => decide (p.size ≤ 8)) = false := by
    rw [List.all_eq_false]
    exact ⟨_, List.getElem_mem hk, by rw [h8]; simp⟩
  simp [partsOk, this]
theorem partsOk_good {ps : List ByteArray} (h1 : 1 ≤ ps.length) (h4 : ps.length ≤ 4) (hp : ∀ k (hk : k < ps.length), (ps[k]).size ≤ 8) : partsOk ps = true := by
  have : (ps.all fun p => decide (p.size ≤ 8)) = true := by
    rw [List.all_eq_true]
    intro x hx
    obtain ⟨k, hk, rfl⟩ := List.getElem_of_mem hx
    simpa using hp k hk
  simp [partsOk, this, h1, h4]
/-- where the first text of more than eight bytes is; -1 if there is none -/
def longAt (ps : List ByteArray) : Int := match ps.findIdx? (fun p => decide (8 < p.size)) with
  | none => -1
  | some k => k
theorem longAt_none {ps : List ByteArray} (h : ∀ k (hk : k < ps.length), (ps[k]).size ≤ 8) : longAt ps = -1 := by
  have : ps.findIdx? (fun p => decide (8 < p.size)) = none := by
    rw [List.findIdx?_eq_none_iff]
    intro x hx
    obtain ⟨k, hk, rfl⟩ := List.getElem_of_mem hx
    simpa using h k hk
  simp [longAt, this]
theorem longAt_some {ps : List ByteArray} {k : Nat} (hk : k < ps.length) (h8 : 8 < (ps[k]).size) (h : ∀ j (hj : j < k), (ps[j]'(by omega)).size ≤ 8) : longAt ps = k := by
  have : ps.findIdx? (fun p => decide (8 < p.size)) = some k := by
    rw [List.findIdx?_eq_some_iff_getElem]
    exact ⟨hk, by simpa using h8, fun j hj => by simpa using h j hj⟩
  simp [longAt, this]
/-- the parts are as they should be, by their number and the first one that is too long -/
theorem partsOk_eq (ps : List ByteArray) : partsOk ps = (decide (1 ≤ ps.length) && decide (ps.length ≤ 4) && !decide (0 ≤ longAt ps)) := by
  by_cases h : ∃ k, ∃ hk : k < ps.length, 8 < (ps[k]).size
  · obtain ⟨k, hk, h8⟩ := h
    have h0 : 0 ≤ longAt ps := by
      unfold longAt
      cases hf : ps.findIdx? (fun p => decide (8 < p.size)) with
      | none =>
        rw [List.findIdx?_eq_none_iff] at hf
        have := hf _ (List.getElem_mem hk)
        simp at this
        omega
      | some j => simp
    rw [partsOk_bad hk h8]
    simp [h0]
  · have h1 : ∀ k (hk : k < ps.length), (ps[k]).size ≤ 8 := fun k hk => by
      rcases Nat.lt_or_ge 8 (ps[k]).size with h2 | h2
      · exact absurd ⟨k, hk, h2⟩ h
      · exact h2
    have : (ps.all fun p => decide (p.size ≤ 8)) = true := by
      rw [List.all_eq_true]
      intro x hx
      obtain ⟨k, hk, rfl⟩ := List.getElem_of_mem hx
      simpa using h1 k hk
    simp [partsOk, longAt_none h1, this]
end Go.Proofs.Ytkdaekiihkkpkaa
