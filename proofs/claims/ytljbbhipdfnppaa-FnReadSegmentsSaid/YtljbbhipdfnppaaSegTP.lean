/- The text of a segment, in plain words. -/
import Derived.Test.YtljbbhipdfnppaaSegP
import Derived.Test.YtljbbhipdfnppaaRelP
import Derived.Lib.Join
namespace Go.Proofs.Ytljbbhipdfnppaa
/-- a part, behind a plus sign or a colon -/
def elPart (j : Nat) (p : ByteArray) : List UInt8 := (if j = 0 then 43 else 58) :: relL p.data.toList
/-- the first j parts -/
def elUpto (ps : List ByteArray) : Nat → List UInt8
  | 0 => []
  | j + 1 => elUpto ps j ++ elPart j (ps.getD j ⟨#[]⟩)
def elText (ps : List ByteArray) : List UInt8 := elUpto ps ps.length
/-- the tag and the first k elements -/
def segUpto (tag : ByteArray) (ess : List (List ByteArray)) : Nat → List UInt8
  | 0 => tag.data.toList
  | k + 1 => segUpto tag ess k ++ elText (ess.getD k [])
def segText (tag : ByteArray) (ess : List (List ByteArray)) : List UInt8 := if segOk tag ess = true then segUpto tag ess ess.length ++ [39] else []
theorem elPart_len (j : Nat) (p : ByteArray) (h : p.size ≤ 8) : (elPart j p).length ≤ 17 := by
  unfold elPart
  have h1 := relL_len p.data.toList
  have h2 := mkN_le p.data.toList
  have h3 : p.data.toList.length = p.size := by simp
  simp only [List.length_cons]
  omega
theorem elUpto_len (ps : List ByteArray) (h : ∀ k (hk : k < ps.length), (ps[k]).size ≤ 8) (j : Nat) (hj : j ≤ ps.length) : (elUpto ps j).length ≤ 17 * j := by
  induction j with
  | zero => simp [elUpto]
  | succ j ih =>
    have h1 := ih (by omega)
    have h2 := elPart_len j (ps.getD j ⟨#[]⟩) (by rw [List.getD_eq_getElem?_getD, List.getElem?_eq_getElem (by omega)]; exact h j (by omega))
    simp only [elUpto, List.length_append]
    omega
theorem partsOk_size {ps : List ByteArray} (h : partsOk ps = true) : 1 ≤ ps.length ∧ ps.length ≤ 4 ∧ ∀ k (hk : k < ps.length), (ps[k]).size ≤ 8 := by
  simp only [partsOk, Bool.and_eq_true, decide_eq_true_eq, List.all_eq_true] at h
  exact ⟨h.1.1, h.1.2, fun k hk => h.2 _ (List.getElem_mem hk)⟩
theorem elText_len {ps : List ByteArray} (h : partsOk ps = true) : (elText ps).length ≤ 68 := by
  obtain ⟨_, h2, h3⟩ := partsOk_size h
  have := elUpto_len ps h3 ps.length (Nat.le_refl _)
  unfold elText
  omega
theorem segOk_parts {tag : ByteArray} {ess : List (List ByteArray)} (h : segOk tag ess = true) : tag.data.toList.length = 3 ∧ ess.length ≤ 5 ∧ ∀ k (hk : k < ess.length), partsOk ess[k] = true := by
  simp only [segOk, Bool.and_eq_true, decide_eq_true_eq, List.all_eq_true] at h
  refine ⟨?_, h.1.2, fun k hk => h.2 _ (List.getElem_mem hk)⟩
  have h1 := h.1.1
  rcases Nat.decEq tag.data.toList.length 3 with hne | he
  · rw [tagOk_len hne] at h1; cases h1
  · exact he
theorem segUpto_len {tag : ByteArray} {ess : List (List ByteArray)} (h : segOk tag ess = true) (k : Nat) (hk : k ≤ ess.length) : (segUpto tag ess k).length ≤ 3 + 68 * k := by
  obtain ⟨h1, h2, h3⟩ := segOk_parts h
  induction k with
  | zero => simp only [segUpto]; omega
  | succ k ih =>
    have h4 := ih (by omega)
    have h5 := elText_len (h3 k (by omega))
    simp only [segUpto, List.length_append, List.getD_eq_getElem?_getD, List.getElem?_eq_getElem (show k < ess.length by omega), Option.getD_some]
    omega
theorem join_upto (ps : List ByteArray) (j : Nat) (hj : j < ps.length) : 43 :: Lib.join ((ps.take (j + 1)).map fun p => relL p.data.toList) [58] = elUpto ps (j + 1) := by
  induction j with
  | zero =>
    match ps, hj with
    | p :: ps, _ => simp [Lib.join_one, elUpto, elPart]
  | succ j ih =>
    have h := ih (by omega)
    show _ = elUpto ps (j + 1) ++ elPart (j + 1) (ps.getD (j + 1) ⟨#[]⟩)
    rw [← h, List.take_succ_eq_append_getElem hj, List.map_append, List.getD_eq_getElem?_getD, List.getElem?_eq_getElem hj]
    match ps, hj with
    | p :: ps, hj =>
      simp only [List.take_succ_cons, List.map_cons, List.cons_append, Lib.join_cons]
      simp [Lib.joinTail, elPart]
theorem join_all (ps : List ByteArray) (h : 1 ≤ ps.length) : 43 :: Lib.join (ps.map fun p => relL p.data.toList) [58] = elText ps := by
  have := join_upto ps (ps.length - 1) (by omega)
  rw [show ps.length - 1 + 1 = ps.length from by omega, List.take_length] at this
  exact this
theorem elUpto_succ (ps : List ByteArray) (j : Nat) (hj : j < ps.length) : elUpto ps (j + 1) = elUpto ps j ++ elPart j ps[j] := by
  simp only [elUpto, List.getD_eq_getElem?_getD, List.getElem?_eq_getElem hj, Option.getD_some]
theorem segUpto_succ (tag : ByteArray) (ess : List (List ByteArray)) (k : Nat) (hk : k < ess.length) : segUpto tag ess (k + 1) = segUpto tag ess k ++ elText ess[k] := by
  simp only [segUpto, List.getD_eq_getElem?_getD, List.getElem?_eq_getElem hk, Option.getD_some]
end Go.Proofs.Ytljbbhipdfnppaa
