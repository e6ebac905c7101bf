/- Reading segments, in plain words: the reference's way, the program's way; they read the same. -/
import Derived.Test.YtljbbhipdfnppaaSegTP
namespace Go.Proofs.Ytljbbhipdfnppaa
/-- the last one is turned -/
def modLast {α : Type} (f : α → α) : List α → List α
  | [] => []
  | [x] => [f x]
  | x :: y :: r => x :: modLast f (y :: r)
theorem modLast_snoc {α : Type} (f : α → α) (l : List α) (x : α) : modLast f (l ++ [x]) = l ++ [f x] := by
  induction l with
  | nil => rfl
  | cons a l ih =>
    cases l with
    | nil => rfl
    | cons b l => exact congrArg (a :: ·) ih
theorem modLast_len {α : Type} (f : α → α) (l : List α) : (modLast f l).length = l.length := by
  rcases List.eq_nil_or_concat l with rfl | ⟨l', x, rfl⟩
  · rfl
  · rw [List.concat_eq_append, modLast_snoc]; simp
theorem modLast_set {α : Type} (f : α → α) (l : List α) (h : l.length - 1 < l.length) : modLast f l = l.set (l.length - 1) (f l[l.length - 1]) := by
  rcases List.eq_nil_or_concat l with rfl | ⟨l', x, rfl⟩
  · simp at h
  · simp only [List.concat_eq_append] at h ⊢
    rw [modLast_snoc]
    simp
/-- how many bytes a text has up to and with the first apostrophe that is not released; k were counted -/
def endAux : List UInt8 → Nat → Nat
  | [], _ => 0
  | c :: r, k => if c = 63 then (match r with | [] => 0 | _ :: r' => endAux r' (k + 2)) else if c = 39 then k + 1 else endAux r (k + 1)
/-- the elements of a text -/
def partsAux : List UInt8 → List (List (List UInt8)) → List (List (List UInt8))
  | [], out => out
  | c :: r, out =>
    if c = 43 then partsAux r (out ++ [[[]]])
    else if out = [] then []
    else if c = 58 then partsAux r (modLast (· ++ [[]]) out)
    else if c = 63 then (match r with | [] => out | d :: r' => partsAux r' (modLast (modLast (· ++ [d])) out))
    else partsAux r (modLast (modLast (· ++ [c])) out)
/-- the program's way -/
def rdI : List UInt8 → List (List (List UInt8)) → List UInt8 → Nat → Option (List (List (List UInt8)) × Nat)
  | [], _, _, _ => none
  | c :: r, E, p, at_ =>
    if (c ≠ 43 ∧ E = [] ∧ c ≠ 39) ∨ 8 < p.length ∨ 5 < E.length then none
    else if c = 39 then some (modLast (· ++ [p]) E, at_ + 1)
    else if c = 43 then rdI r (modLast (· ++ [p]) E ++ [[]]) [] (at_ + 1)
    else if c = 58 then rdI r (modLast (· ++ [p]) E) [] (at_ + 1)
    else if c = 63 then (match r with | [] => none | d :: r' => rdI r' E (p ++ [d]) (at_ + 2))
    else rdI r E (p ++ [c]) (at_ + 1)
def bA (l : List UInt8) : ByteArray := ⟨l.toArray⟩
theorem bA_data (l : List UInt8) : (bA l).data.toList = l := rfl
def tx (E : List (List (List UInt8))) : List (List ByteArray) := E.map (·.map bA)
/-- what is read: tag, elements, how many bytes -/
def rdSeg (l : List UInt8) : Option (List (List (List UInt8)) × Nat) :=
  if endAux l 0 < 4 then none
  else if segText (bA (l.take 3)) (tx (partsAux ((l.take (endAux l 0 - 1)).drop 3) [])) = l.take (endAux l 0) then some (partsAux ((l.take (endAux l 0 - 1)).drop 3) [], endAux l 0) else none
def rdSegI (l : List UInt8) : Option (List (List (List UInt8)) × Nat) :=
  if l.length < 4 then none
  else match rdI (l.drop 3) [] [] 3 with
    | none => none
    | some (E, n) => if segText (bA (l.take 3)) (tx E) = l.take n then some (E, n) else none
theorem mk8_63 : mk8 63 = true := by decide
theorem mk8_not {c : UInt8} (h : mk8 c = false) : c ≠ 43 ∧ c ≠ 58 ∧ c ≠ 39 ∧ c ≠ 63 := by
  refine ⟨?_, ?_, ?_, ?_⟩ <;> (rintro rfl; revert h; decide)
theorem relL_cons (c : UInt8) (l : List UInt8) : relL (c :: l) = (if mk8 c then [63, c] else [c]) ++ relL l := by simp [relL]
theorem e_nil (k : Nat) : endAux [] k = 0 := endAux.eq_def _ _
theorem e_63 (d : UInt8) (r : List UInt8) (k : Nat) : endAux (63 :: d :: r) k = endAux r (k + 2) := (endAux.eq_def _ _).trans (if_pos rfl)
theorem e_631 (k : Nat) : endAux [63] k = 0 := (endAux.eq_def _ _).trans (if_pos rfl)
theorem e_39 (r : List UInt8) (k : Nat) : endAux (39 :: r) k = k + 1 := (endAux.eq_def _ _).trans ((if_neg (by decide)).trans (if_pos rfl))
theorem endAux_one {c : UInt8} (h1 : c ≠ 63) (h2 : c ≠ 39) (r : List UInt8) (k : Nat) : endAux (c :: r) k = endAux r (k + 1) := (endAux.eq_def _ _).trans ((if_neg h1).trans (if_neg h2))
theorem p_nil (out : List (List (List UInt8))) : partsAux [] out = out := partsAux.eq_def _ _
theorem p_43 (r : List UInt8) (out : List (List (List UInt8))) : partsAux (43 :: r) out = partsAux r (out ++ [[[]]]) := (partsAux.eq_def _ _).trans (if_pos rfl)
theorem p_none {c : UInt8} (h : c ≠ 43) (r : List UInt8) : partsAux (c :: r) [] = [] := (partsAux.eq_def _ _).trans ((if_neg h).trans (if_pos rfl))
theorem p_58 (r : List UInt8) {out : List (List (List UInt8))} (h : out ≠ []) : partsAux (58 :: r) out = partsAux r (modLast (· ++ [[]]) out) := (partsAux.eq_def _ _).trans ((if_neg (by decide)).trans ((if_neg h).trans (if_pos rfl)))
theorem p_63 (d : UInt8) (r : List UInt8) {out : List (List (List UInt8))} (h : out ≠ []) : partsAux (63 :: d :: r) out = partsAux r (modLast (modLast (· ++ [d])) out) := (partsAux.eq_def _ _).trans ((if_neg (by decide)).trans ((if_neg h).trans ((if_neg (by decide)).trans (if_pos rfl))))
theorem p_631 {out : List (List (List UInt8))} (h : out ≠ []) : partsAux [63] out = out := (partsAux.eq_def _ _).trans ((if_neg (by decide)).trans ((if_neg h).trans ((if_neg (by decide)).trans (if_pos rfl))))
theorem p_one {c : UInt8} (h1 : c ≠ 43) (h2 : c ≠ 58) (h3 : c ≠ 63) (r : List UInt8) {out : List (List (List UInt8))} (h : out ≠ []) : partsAux (c :: r) out = partsAux r (modLast (modLast (· ++ [c])) out) := (partsAux.eq_def _ _).trans ((if_neg h1).trans ((if_neg h).trans ((if_neg h2).trans (if_neg h3))))
section
variable {E : List (List (List UInt8))} {p : List UInt8}
/-- the program goes no further -/
def rStop (c : UInt8) (E : List (List (List UInt8))) (p : List UInt8) : Prop := (c ≠ 43 ∧ E = [] ∧ c ≠ 39) ∨ 8 < p.length ∨ 5 < E.length
theorem r_nil (k : Nat) : rdI [] E p k = none := rdI.eq_def _ _ _ _
theorem r_stop {c : UInt8} (h : rStop c E p) (r : List UInt8) (k : Nat) : rdI (c :: r) E p k = none := (rdI.eq_def _ _ _ _).trans (if_pos h)
theorem r_39 (h : ¬ rStop 39 E p) (r : List UInt8) (k : Nat) : rdI (39 :: r) E p k = some (modLast (· ++ [p]) E, k + 1) := (rdI.eq_def _ _ _ _).trans ((if_neg h).trans (if_pos rfl))
theorem r_43 (h : ¬ rStop 43 E p) (r : List UInt8) (k : Nat) : rdI (43 :: r) E p k = rdI r (modLast (· ++ [p]) E ++ [[]]) [] (k + 1) := (rdI.eq_def _ _ _ _).trans ((if_neg h).trans ((if_neg (by decide)).trans (if_pos rfl)))
theorem r_58 (h : ¬ rStop 58 E p) (r : List UInt8) (k : Nat) : rdI (58 :: r) E p k = rdI r (modLast (· ++ [p]) E) [] (k + 1) := (rdI.eq_def _ _ _ _).trans ((if_neg h).trans ((if_neg (by decide)).trans ((if_neg (by decide)).trans (if_pos rfl))))
theorem r_63 (h : ¬ rStop 63 E p) (d : UInt8) (r : List UInt8) (k : Nat) : rdI (63 :: d :: r) E p k = rdI r E (p ++ [d]) (k + 2) := (rdI.eq_def _ _ _ _).trans ((if_neg h).trans ((if_neg (by decide)).trans ((if_neg (by decide)).trans ((if_neg (by decide)).trans (if_pos rfl)))))
theorem r_631 (h : ¬ rStop 63 E p) (k : Nat) : rdI [63] E p k = none := (rdI.eq_def _ _ _ _).trans ((if_neg h).trans ((if_neg (by decide)).trans ((if_neg (by decide)).trans ((if_neg (by decide)).trans (if_pos rfl)))))
theorem r_one {c : UInt8} (h : ¬ rStop c E p) (h1 : c ≠ 39) (h2 : c ≠ 43) (h3 : c ≠ 58) (h4 : c ≠ 63) (r : List UInt8) (k : Nat) : rdI (c :: r) E p k = rdI r E (p ++ [c]) (k + 1) := (rdI.eq_def _ _ _ _).trans ((if_neg h).trans ((if_neg h1).trans ((if_neg h2).trans ((if_neg h3).trans (if_neg h4)))))
end
theorem endAux_rel (p r : List UInt8) (k : Nat) : endAux (relL p ++ r) k = endAux r (k + (relL p).length) := by
  induction p generalizing k with
  | nil => rfl
  | cons c p ih =>
    rw [relL_cons]
    by_cases h : mk8 c = true
    · rw [if_pos h]
      simp only [List.cons_append, List.nil_append]
      rw [e_63, ih]
      congr 1
      simp; omega
    · have h' := Bool.eq_false_iff.2 h
      obtain ⟨_, _, h3, h4⟩ := mk8_not h'
      rw [if_neg h]
      simp only [List.cons_append, List.nil_append]
      rw [endAux_one h4 h3, ih]
      congr 1
      simp; omega
theorem partsAux_rel (p r : List UInt8) (O : List (List (List UInt8))) (L : List (List UInt8)) (q : List UInt8) : partsAux (relL p ++ r) (O ++ [L ++ [q]]) = partsAux r (O ++ [L ++ [q ++ p]]) := by
  induction p generalizing q with
  | nil => simp [relL_nil]
  | cons c p ih =>
    have hne : O ++ [L ++ [q]] ≠ [] := by simp
    rw [relL_cons]
    by_cases h : mk8 c = true
    · rw [if_pos h]
      simp only [List.cons_append, List.nil_append]
      rw [p_63 _ _ hne, modLast_snoc, modLast_snoc, ih]
      simp
    · have h' := Bool.eq_false_iff.2 h
      obtain ⟨h1, h2, _, h4⟩ := mk8_not h'
      rw [if_neg h]
      simp only [List.cons_append, List.nil_append]
      rw [p_one h1 h2 h4 _ hne, modLast_snoc, modLast_snoc, ih]
      simp
theorem rdI_rel (p r : List UInt8) (E : List (List (List UInt8))) (q : List UInt8) (k : Nat) (hE : E ≠ []) (h5 : E.length ≤ 5) (h8 : q.length + p.length ≤ 8) : rdI (relL p ++ r) E q k = rdI r E (q ++ p) (k + (relL p).length) := by
  induction p generalizing q k with
  | nil => simp [relL_nil]
  | cons c p ih =>
    have h8' : q.length + (p.length + 1) ≤ 8 := by simpa using h8
    have hno : ∀ c : UInt8, ¬ rStop c E q := by
      intro c hc
      rcases hc with ⟨_, h, _⟩ | h | h
      · exact hE h
      · omega
      · omega
    rw [relL_cons]
    by_cases h : mk8 c = true
    · rw [if_pos h]
      simp only [List.cons_append, List.nil_append]
      rw [r_63 (hno _), ih (q ++ [c]) (k + 2) (by simp; omega)]
      congr 1
      · simp
      · simp; omega
    · have h' := Bool.eq_false_iff.2 h
      obtain ⟨h1, h2, h3, h4⟩ := mk8_not h'
      rw [if_neg h]
      simp only [List.cons_append, List.nil_append]
      rw [r_one (hno _) h3 h1 h2 h4, ih (q ++ [c]) (k + 1) (by simp; omega)]
      congr 1
      · simp
      · simp; omega
/-- an element's text -/
def elL (ps : List (List UInt8)) : List UInt8 := match ps with
  | [] => []
  | p :: r => 43 :: (relL p ++ r.flatMap fun q => 58 :: relL q)
theorem elText_bA (ps : List (List UInt8)) : elText (ps.map bA) = elL ps := by
  cases ps with
  | nil => rfl
  | cons p r =>
    have := join_all ((p :: r).map bA) (by simp)
    rw [← this]
    simp only [elL, List.map_cons, Lib.join_cons, Lib.joinTail, bA_data, List.map_map]
    congr 2
theorem segUpto_flat (tag : ByteArray) (ess : List (List ByteArray)) (k : Nat) (hk : k ≤ ess.length) : segUpto tag ess k = tag.data.toList ++ (ess.take k).flatMap elText := by
  induction k with
  | zero => simp [segUpto]
  | succ k ih =>
    rw [segUpto_succ tag ess k (by omega), ih (by omega), List.take_succ_eq_append_getElem (by omega), List.flatMap_append]
    simp
theorem segUpto_tx (tag : List UInt8) (E : List (List (List UInt8))) : segUpto (bA tag) (tx E) (tx E).length = tag ++ E.flatMap elL := by
  rw [segUpto_flat _ _ _ (Nat.le_refl _), List.take_length, bA_data]
  congr 1
  simp only [tx, List.flatMap_map]
  congr 1
  funext ps
  exact elText_bA ps
theorem endAux_tail (qs : List (List UInt8)) (r : List UInt8) (k : Nat) : endAux ((qs.flatMap fun q => 58 :: relL q) ++ r) k = endAux r (k + (qs.flatMap fun q => 58 :: relL q).length) := by
  induction qs generalizing k with
  | nil => rfl
  | cons q qs ih =>
    simp only [List.flatMap_cons, List.cons_append, List.append_assoc]
    rw [endAux_one (by decide) (by decide), endAux_rel, ih]
    congr 1
    simp; omega
theorem endAux_els (E : List (List (List UInt8))) (r : List UInt8) (k : Nat) : endAux (E.flatMap elL ++ r) k = endAux r (k + (E.flatMap elL).length) := by
  induction E generalizing k with
  | nil => rfl
  | cons ps E ih =>
    cases ps with
    | nil => simp only [List.flatMap_cons, elL, List.nil_append]; exact ih k
    | cons p ps =>
      simp only [List.flatMap_cons, elL, List.cons_append, List.append_assoc]
      rw [endAux_one (by decide) (by decide), endAux_rel, endAux_tail, ih]
      congr 1
      simp; omega
theorem partsAux_tail (qs : List (List UInt8)) (r : List UInt8) (O : List (List (List UInt8))) (L : List (List UInt8)) : partsAux ((qs.flatMap fun q => 58 :: relL q) ++ r) (O ++ [L]) = partsAux r (O ++ [L ++ qs]) := by
  induction qs generalizing L with
  | nil => simp
  | cons q qs ih =>
    have hne : O ++ [L] ≠ [] := by simp
    simp only [List.flatMap_cons, List.cons_append, List.append_assoc]
    rw [p_58 _ hne, modLast_snoc, partsAux_rel, List.nil_append, ih]
    simp
theorem partsAux_els (E : List (List (List UInt8))) (r : List UInt8) (O : List (List (List UInt8))) (hE : ∀ ps ∈ E, ps ≠ []) : partsAux (E.flatMap elL ++ r) O = partsAux r (O ++ E) := by
  induction E generalizing O with
  | nil => simp
  | cons ps E ih =>
    cases ps with
    | nil => exact absurd rfl (hE [] (by simp))
    | cons p ps =>
      simp only [List.flatMap_cons, elL, List.cons_append, List.append_assoc]
      rw [p_43]
      have h1 := partsAux_rel p ((ps.flatMap fun q => 58 :: relL q) ++ (E.flatMap elL ++ r)) O [] []
      simp only [List.nil_append] at h1
      rw [h1, partsAux_tail, ih _ (fun qs hq => hE qs (by simp [hq]))]
      simp
theorem rdI_tail (qs : List (List UInt8)) (r : List UInt8) (O : List (List (List UInt8))) (L : List (List UInt8)) (p : List UInt8) (k : Nat) (h5 : O.length + 1 ≤ 5) (hp : p.length ≤ 8) (h8 : ∀ q ∈ qs, q.length ≤ 8) :
    ∃ L' p', rdI ((qs.flatMap fun q => 58 :: relL q) ++ r) (O ++ [L]) p k = rdI r (O ++ [L']) p' (k + (qs.flatMap fun q => 58 :: relL q).length) ∧ L' ++ [p'] = L ++ p :: qs ∧ p'.length ≤ 8 := by
  induction qs generalizing L p k with
  | nil => exact ⟨L, p, by simp, by simp, hp⟩
  | cons q qs ih =>
    have hno : ¬ rStop 58 (O ++ [L]) p := by
      intro hc
      rcases hc with ⟨_, h, _⟩ | h | h
      · simp at h
      · omega
      · simp at h; omega
    simp only [List.flatMap_cons, List.cons_append, List.append_assoc]
    rw [r_58 hno, modLast_snoc, rdI_rel q _ _ [] _ (by simp) (by simp; omega) (by simpa using h8 q (by simp)), List.nil_append]
    obtain ⟨L', p', e1, e2, e3⟩ := ih (L ++ [p]) q (k + 1 + (relL q).length) (h8 q (by simp)) (fun x hx => h8 x (by simp [hx]))
    refine ⟨L', p', ?_, by rw [e2]; simp, e3⟩
    rw [e1]
    congr 1
    simp; omega
theorem rdI_els (E : List (List (List UInt8))) (r : List UInt8) (O : List (List (List UInt8))) (L : List (List UInt8)) (p : List UInt8) (k : Nat) (h5 : O.length + 1 + E.length ≤ 5) (hp : p.length ≤ 8) (hE : ∀ ps ∈ E, ps ≠ [] ∧ ∀ q ∈ ps, q.length ≤ 8) :
    rdI (E.flatMap elL ++ 39 :: r) (O ++ [L]) p k = some (O ++ [L ++ [p]] ++ E, k + (E.flatMap elL).length + 1) := by
  induction E generalizing O L p k with
  | nil =>
    have hno : ¬ rStop 39 (O ++ [L]) p := by
      intro hc
      rcases hc with ⟨_, h, _⟩ | h | h
      · simp at h
      · omega
      · simp at h h5; omega
    simp only [List.flatMap_nil, List.nil_append]
    rw [r_39 hno, modLast_snoc]
    simp
  | cons ps E ih =>
    obtain ⟨h1, h2⟩ := hE ps (by simp)
    cases ps with
    | nil => exact absurd rfl h1
    | cons q qs =>
      have hno : ¬ rStop 43 (O ++ [L]) p := by
        intro hc
        rcases hc with ⟨h, _⟩ | h | h
        · exact h rfl
        · omega
        · simp at h h5; omega
      simp only [List.flatMap_cons, elL, List.cons_append, List.append_assoc]
      simp only [List.length_cons] at h5
      rw [r_43 hno, modLast_snoc, rdI_rel q _ _ [] _ (by simp) (by simp; omega) (by simpa using h2 q (by simp)), List.nil_append]
      obtain ⟨L', p', e1, e2, e3⟩ := rdI_tail qs (E.flatMap elL ++ 39 :: r) (O ++ [L ++ [p]]) [] q (k + 1 + (relL q).length) (by simp; omega) (h2 q (by simp)) (fun x hx => h2 x (by simp [hx]))
      rw [e1, ih (O ++ [L ++ [p]]) L' p' _ (by simp; omega) e3 (fun x hx => hE x (by simp [hx])), e2]
      simp
      omega
/-- what is valid -/
theorem segOk_tx {tag : List UInt8} {E : List (List (List UInt8))} (h : segOk (bA tag) (tx E) = true) : tag.length = 3 ∧ (∀ c ∈ tag, c ≠ 63 ∧ c ≠ 39) ∧ E.length ≤ 5 ∧ ∀ ps ∈ E, ps ≠ [] ∧ ∀ q ∈ ps, q.length ≤ 8 := by
  obtain ⟨h1, h2, h3⟩ := segOk_parts h
  rw [bA_data] at h1
  have ht : tagOk tag = true := by
    simp only [segOk, Bool.and_eq_true] at h
    exact h.1.1
  refine ⟨h1, ?_, by simpa [tx] using h2, fun ps hp => ?_⟩
  · match tag, h1 with
    | [a, b, c], _ =>
      simp only [tagOk, capI, Bool.and_eq_true, decide_eq_true_eq] at ht
      intro x hx
      constructor
      · rintro rfl
        simp only [List.mem_cons, List.not_mem_nil, or_false] at hx
        rcases hx with rfl | rfl | rfl <;> simp at ht
      · rintro rfl
        simp only [List.mem_cons, List.not_mem_nil, or_false] at hx
        rcases hx with rfl | rfl | rfl <;> simp at ht
  · obtain ⟨k, hk, rfl⟩ := List.getElem_of_mem hp
    have h4 := h3 k (by simpa [tx] using hk)
    obtain ⟨h5, _, h7⟩ := partsOk_size h4
    have e : (tx E)[k]'(by simpa [tx] using hk) = (E[k]).map bA := by simp [tx]
    rw [e] at h5
    refine ⟨fun hn => ?_, fun q hq => ?_⟩
    · rw [hn] at h5; simp at h5
    · obtain ⟨j, hj, rfl⟩ := List.getElem_of_mem hq
      have := h7 j (by rw [e]; simpa using hj)
      simp only [e, List.getElem_map] at this
      simpa [bA, ByteArray.size] using this
theorem segText_tx {tag : List UInt8} {E : List (List (List UInt8))} (h : segOk (bA tag) (tx E) = true) : segText (bA tag) (tx E) = tag ++ (E.flatMap elL ++ [39]) := by
  unfold segText
  rw [if_pos h, segUpto_tx, List.append_assoc]
theorem endAux_skip (t r : List UInt8) (k : Nat) (h : ∀ c ∈ t, c ≠ 63 ∧ c ≠ 39) : endAux (t ++ r) k = endAux r (k + t.length) := by
  induction t generalizing k with
  | nil => rfl
  | cons c t ih =>
    obtain ⟨h1, h2⟩ := h c (by simp)
    rw [List.cons_append, endAux_one h1 h2, ih _ (fun x hx => h x (by simp [hx]))]
    congr 1
    simp; omega
theorem rdSeg_text {tag : List UInt8} {E : List (List (List UInt8))} (h : segOk (bA tag) (tx E) = true) (r : List UInt8) : rdSeg (segText (bA tag) (tx E) ++ r) = some (E, (segText (bA tag) (tx E)).length) := by
  obtain ⟨h1, h2, h3, h4⟩ := segOk_tx h
  have hT := segText_tx h
  have hl : (segText (bA tag) (tx E)).length = 3 + (E.flatMap elL).length + 1 := by rw [hT]; simp; omega
  have hn : endAux (segText (bA tag) (tx E) ++ r) 0 = 3 + (E.flatMap elL).length + 1 := by
    rw [hT, List.append_assoc, endAux_skip _ _ _ h2, List.append_assoc, endAux_els, List.singleton_append, e_39]
    omega
  have ht3 : (segText (bA tag) (tx E) ++ r).take 3 = tag := by
    rw [hT, List.append_assoc, ← h1, List.take_left]
  have hmid : ((segText (bA tag) (tx E) ++ r).take (3 + (E.flatMap elL).length + 1 - 1)).drop 3 = E.flatMap elL := by
    rw [hT, List.append_assoc, List.append_assoc, Nat.add_sub_cancel, ← h1, List.take_length_add_append, List.drop_left, List.take_left]
  have hall : (segText (bA tag) (tx E) ++ r).take (3 + (E.flatMap elL).length + 1) = segText (bA tag) (tx E) := by
    rw [← hl, List.take_left]
  have hp : partsAux (E.flatMap elL) [] = E := by
    have := partsAux_els E [] [] (fun ps hp => (h4 ps hp).1)
    rw [List.append_nil, List.nil_append] at this
    rw [this]
    rfl
  unfold rdSeg
  rw [hn, if_neg (by omega), ht3, hmid, hp, hall, if_pos rfl, hl]
theorem rdI_all {E : List (List (List UInt8))} (h5 : E.length ≤ 5) (h4 : ∀ ps ∈ E, ps ≠ [] ∧ ∀ q ∈ ps, q.length ≤ 8) (r : List UInt8) (k : Nat) : rdI (E.flatMap elL ++ 39 :: r) [] [] k = some (E, k + (E.flatMap elL).length + 1) := by
  cases E with
  | nil =>
    simp only [List.flatMap_nil, List.nil_append]
    rw [r_39 (by simp [rStop])]
    rfl
  | cons ps E =>
    obtain ⟨h1, h2⟩ := h4 ps (by simp)
    cases ps with
    | nil => exact absurd rfl h1
    | cons q qs =>
      simp only [List.flatMap_cons, elL, List.cons_append, List.append_assoc]
      simp only [List.length_cons] at h5
      rw [r_43 (by simp [rStop])]
      have e0 : modLast (· ++ [([] : List UInt8)]) ([] : List (List (List UInt8))) ++ [[]] = [] ++ [[]] := rfl
      rw [e0, rdI_rel q _ _ [] _ (by simp) (by simp) (by simpa using h2 q (by simp)), List.nil_append]
      obtain ⟨L', p', e1, e2, e3⟩ := rdI_tail qs (E.flatMap elL ++ 39 :: r) [] [] q (k + 1 + (relL q).length) (by simp) (h2 q (by simp)) (fun x hx => h2 x (by simp [hx]))
      have h9 := rdI_els E r [] L' p' (k + 1 + (relL q).length + (qs.flatMap fun q => 58 :: relL q).length) (by simp; omega) e3 (fun x hx => h4 x (by simp [hx]))
      simp only [List.nil_append] at e1 e2 h9 ⊢
      rw [e1, h9, e2]
      simp
      omega
theorem rdSegI_text {tag : List UInt8} {E : List (List (List UInt8))} (h : segOk (bA tag) (tx E) = true) (r : List UInt8) : rdSegI (segText (bA tag) (tx E) ++ r) = some (E, (segText (bA tag) (tx E)).length) := by
  obtain ⟨h1, h2, h3, h4⟩ := segOk_tx h
  have hT := segText_tx h
  have hl : (segText (bA tag) (tx E)).length = 3 + (E.flatMap elL).length + 1 := by rw [hT]; simp; omega
  have ht3 : (segText (bA tag) (tx E) ++ r).take 3 = tag := by
    rw [hT, List.append_assoc, ← h1, List.take_left]
  have hd3 : (segText (bA tag) (tx E) ++ r).drop 3 = E.flatMap elL ++ 39 :: r := by
    rw [hT, List.append_assoc, ← h1, List.drop_left]
    simp
  have hall : (segText (bA tag) (tx E) ++ r).take (3 + (E.flatMap elL).length + 1) = segText (bA tag) (tx E) := by
    rw [← hl, List.take_left]
  unfold rdSegI
  rw [if_neg (by rw [List.length_append]; omega), hd3, rdI_all h3 h4]
  simp only
  rw [ht3, hall, if_pos rfl, hl]
/-- what is read is the text of a valid segment -/
theorem text_ok {tag : List UInt8} {E : List (List (List UInt8))} {l : List UInt8} {n : Nat} (h : segText (bA tag) (tx E) = l.take n) (hn : 1 ≤ n) (hl : 1 ≤ l.length) : segOk (bA tag) (tx E) = true := by
  by_cases hk : segOk (bA tag) (tx E) = true
  · exact hk
  · unfold segText at h
    rw [if_neg hk] at h
    have := congrArg List.length h
    simp at this
    omega
theorem endAux_pos : ∀ (n : Nat) (l : List UInt8) (k : Nat), l.length ≤ n → endAux l k = 0 ∨ endAux l k ≤ k + l.length := by
  intro n
  induction n with
  | zero =>
    intro l k hl
    obtain rfl := List.eq_nil_of_length_eq_zero (Nat.le_zero.1 hl)
    exact .inl (e_nil k)
  | succ n ih =>
    intro l k hl
    match l, hl with
    | [], _ => exact .inl (e_nil k)
    | c :: r, hl =>
      simp only [List.length_cons] at hl
      by_cases h : c = 63
      · subst h
        match r, hl with
        | [], _ => exact .inl (e_631 k)
        | d :: r, hl =>
          simp only [List.length_cons] at hl
          rw [e_63]
          rcases ih r (k + 2) (by omega) with h | h
          · exact .inl h
          · right; simp only [List.length_cons]; omega
      · by_cases h2 : c = 39
        · subst h2
          rw [e_39]
          right; simp
        · rw [endAux_one h h2]
          rcases ih r (k + 1) (by omega) with h | h
          · exact .inl h
          · right; simp only [List.length_cons]; omega
theorem rdI_at : ∀ (m : Nat) (l : List UInt8) (E : List (List (List UInt8))) (p : List UInt8) (k : Nat) (E' : List (List (List UInt8))) (n : Nat), l.length ≤ m → rdI l E p k = some (E', n) → k + 1 ≤ n ∧ n ≤ k + l.length := by
  intro m
  induction m with
  | zero =>
    intro l E p k E' n hl h
    obtain rfl := List.eq_nil_of_length_eq_zero (Nat.le_zero.1 hl)
    rw [r_nil] at h; cases h
  | succ m ih =>
    intro l E p k E' n hl h
    match l, hl with
    | [], _ => rw [r_nil] at h; cases h
    | c :: r, hl =>
      simp only [List.length_cons] at hl ⊢
      by_cases hs : rStop c E p
      · rw [r_stop hs] at h; cases h
      · by_cases h1 : c = 39
        · subst h1
          rw [r_39 hs] at h
          simp only [Option.some.injEq, Prod.mk.injEq] at h
          omega
        · by_cases h2 : c = 43
          · subst h2
            rw [r_43 hs] at h
            have := ih _ _ _ _ _ _ (by omega) h
            omega
          · by_cases h3 : c = 58
            · subst h3
              rw [r_58 hs] at h
              have := ih _ _ _ _ _ _ (by omega) h
              omega
            · by_cases h4 : c = 63
              · subst h4
                match r, hl with
                | [], _ => rw [r_631 hs] at h; cases h
                | d :: r, hl =>
                  simp only [List.length_cons] at hl ⊢
                  rw [r_63 hs] at h
                  have := ih _ _ _ _ _ _ (by omega) h
                  omega
              · rw [r_one hs h1 h2 h3 h4] at h
                have := ih _ _ _ _ _ _ (by omega) h
                omega
/-- both read the same -/
theorem rdSeg_eq (l : List UInt8) : rdSegI l = rdSeg l := by
  cases hs : rdSeg l with
  | some x =>
    obtain ⟨E, n⟩ := x
    unfold rdSeg at hs
    by_cases h4 : endAux l 0 < 4
    · rw [if_pos h4] at hs; cases hs
    · rw [if_neg h4] at hs
      by_cases ht : segText (bA (l.take 3)) (tx (partsAux ((l.take (endAux l 0 - 1)).drop 3) [])) = l.take (endAux l 0)
      · rw [if_pos ht] at hs
        simp only [Option.some.injEq, Prod.mk.injEq] at hs
        obtain ⟨hE, hn⟩ := hs
        rw [hE, hn] at ht
        rw [hn] at h4
        have hle := endAux_pos _ l 0 (Nat.le_refl _)
        rw [hn] at hle
        have hok := text_ok ht (by omega) (by omega)
        have hl : l = segText (bA (l.take 3)) (tx E) ++ l.drop n := by rw [ht, List.take_append_drop]
        have := rdSegI_text hok (l.drop n)
        rw [← hl] at this
        rw [this, ht, List.length_take]
        congr 2
        omega
      · rw [if_neg ht] at hs; cases hs
  | none =>
    cases hi : rdSegI l with
    | none => rfl
    | some x =>
      obtain ⟨E, n⟩ := x
      unfold rdSegI at hi
      by_cases h4 : l.length < 4
      · rw [if_pos h4] at hi; cases hi
      · rw [if_neg h4] at hi
        cases hr : rdI (l.drop 3) [] [] 3 with
        | none => rw [hr] at hi; cases hi
        | some y =>
          obtain ⟨E', n'⟩ := y
          rw [hr] at hi
          simp only at hi
          by_cases ht : segText (bA (l.take 3)) (tx E') = l.take n'
          · have hat := rdI_at _ _ _ _ _ _ _ (Nat.le_refl _) hr
            have hok := text_ok ht (by omega) (by omega)
            have hl : l = segText (bA (l.take 3)) (tx E') ++ l.drop n' := by rw [ht, List.take_append_drop]
            have := rdSeg_text hok (l.drop n')
            rw [← hl, hs] at this
            cases this
          · rw [if_neg ht] at hi; cases hi
end Go.Proofs.Ytljbbhipdfnppaa
