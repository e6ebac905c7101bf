/- Putting a box onto a stack: the plain words. -/
import Derived.Test.YtcbeoaedccdppaaYdP
namespace Go.Proofs.Ytcbeoaedccdppaa
theorem hasI_iff {p : List Int} {x : Int} : hasI p x = true ↔ x ∈ p := by simp [hasI]
theorem hasI_no {p : List Int} {x : Int} : hasI p x = false ↔ x ∉ p := by simp [hasI]
theorem idI_iff {x : Int} : idI x = true ↔ 1 ≤ x ∧ x ≤ 999 := by simp [idI]
theorem sOk_iff {p s : List Int} : sOk p s = true ↔ (∀ x ∈ s, idI x = true) ∧ s.Nodup ∧ ∀ x ∈ s, x ∉ p := by
  induction s generalizing p with
  | nil => simp [sOk]
  | cons a s ih =>
    simp only [sOk, Bool.and_eq_true, Bool.not_eq_true', ih, hasI_no, List.mem_append, List.mem_cons, List.not_mem_nil, or_false, List.nodup_cons]
    constructor
    · rintro ⟨⟨h1, h2⟩, h3, h4, h5⟩
      refine ⟨?_, ⟨fun ha => (h5 a ha) (.inr rfl), h4⟩, ?_⟩
      · rintro x (rfl | hx)
        · exact h1
        · exact h3 x hx
      · rintro x (rfl | hx)
        · exact h2
        · exact fun hp => h5 x hx (.inl hp)
    · rintro ⟨h1, ⟨h2, h3⟩, h4⟩
      refine ⟨⟨h1 a (.inl rfl), h4 a (.inl rfl)⟩, fun x hx => h1 x (.inr hx), h3, fun x hx => ?_⟩
      rintro (hp | rfl)
      · exact h4 x (.inr hx) hp
      · exact h2 hx
theorem dOk_iff {p s : List Int} : dOk p s = true ↔ s.Nodup ∧ ∀ x ∈ s, x ∉ p := by
  induction s generalizing p with
  | nil => simp [dOk]
  | cons a s ih =>
    simp only [dOk, Bool.and_eq_true, Bool.not_eq_true', ih, hasI_no, List.mem_append, List.mem_cons, List.not_mem_nil, or_false, List.nodup_cons]
    constructor
    · rintro ⟨h2, h4, h5⟩
      refine ⟨⟨fun ha => (h5 a ha) (.inr rfl), h4⟩, ?_⟩
      rintro x (rfl | hx)
      · exact h2
      · exact fun hp => h5 x hx (.inl hp)
    · rintro ⟨⟨h2, h3⟩, h4⟩
      refine ⟨h4 a (.inl rfl), h3, fun x hx => ?_⟩
      rintro (hp | rfl)
      · exact h4 x (.inr hx) hp
      · exact h2 hx
/-- one stack -/
def Stk (high : Int) (s : List Int) : Prop := (1 ≤ high ∧ high ≤ 5) ∧ (s.length : Int) ≤ high ∧ ∀ x ∈ s, idI x = true
theorem stackOk_iff {s : List Int} {high : Int} : stackOk s high = true ↔ Stk high s ∧ s.Nodup := by
  simp only [stackOk, Bool.and_eq_true, decide_eq_true_eq, sOk_iff, Stk]
  constructor
  · rintro ⟨⟨h1, h2, _⟩, h3, h4⟩
    exact ⟨⟨h3, h4, h1⟩, h2⟩
  · rintro ⟨⟨h3, h4, h1⟩, h2⟩
    exact ⟨⟨h1, h2, by simp⟩, h3, h4⟩
theorem yOk_iff {high : Int} {p : List Int} {l : List (List Int)} : yOk high p l = true ↔ (∀ s ∈ l, Stk high s) ∧ l.flatten.Nodup ∧ ∀ x ∈ l.flatten, x ∉ p := by
  induction l generalizing p with
  | nil => simp [yOk]
  | cons a l ih =>
    simp only [yOk, Bool.and_eq_true, ih, stackOk_iff, dOk_iff, List.flatten_cons, List.nodup_append, List.mem_append, List.mem_cons]
    constructor
    · rintro ⟨⟨h1, h2⟩, ⟨_, h3⟩, h4, h5, h6⟩
      refine ⟨?_, ⟨h2, h5, fun x hx y hy e => h6 y hy (.inr (e ▸ hx))⟩, ?_⟩
      · rintro s (rfl | hs)
        · exact h1
        · exact h4 s hs
      · rintro x (hx | hx)
        · exact h3 x hx
        · exact fun hp => h6 x hx (.inl hp)
    · rintro ⟨h1, ⟨h2, h3, h4⟩, h5⟩
      refine ⟨⟨h1 a (.inl rfl), h2⟩, ⟨h2, fun x hx => h5 x (.inl hx)⟩, fun s hs => h1 s (.inr hs), h3, fun x hx => ?_⟩
      rintro (hp | ha)
      · exact h5 x (.inr hx) hp
      · exact h4 x ha x hx rfl
/-- is a box anywhere -/
def anyI (l : List (List Int)) (x : Int) : Bool := hasI l.flatten x
/-- pushing keeps a yard valid exactly if the box is new and there is room -/
theorem yardOk_push {high : Int} {rows : List (List Int)} {k : Nat} {x : Int} (h : yardOk high rows = true) (hk : k < rows.length) :
    yardOk high (rows.set k (rows[k] ++ [x])) = (idI x && (!(anyI rows x) && decide ((rows[k].length : Int) ≠ high))) := by
  simp only [yardOk, Bool.and_eq_true, decide_eq_true_eq, yOk_iff] at h
  obtain ⟨⟨h1, h2⟩, hs, hn, _⟩ := h
  have e1 : rows = rows.take k ++ rows[k] :: rows.drop (k + 1) := by rw [← List.drop_eq_getElem_cons hk, List.take_append_drop]
  have e2 : rows.set k (rows[k] ++ [x]) = rows.take k ++ (rows[k] ++ [x]) :: rows.drop (k + 1) := by
    rw [List.set_eq_take_append_cons_drop, if_pos hk]
  have hp : (rows.set k (rows[k] ++ [x])).flatten.Perm (x :: rows.flatten) := by
    rw [e2]
    conv => rhs; rw [e1]
    simp only [List.flatten_append, List.flatten_cons, List.append_assoc]
    have := List.perm_middle (a := x) (l₁ := (rows.take k).flatten ++ rows[k]) (l₂ := (rows.drop (k + 1)).flatten)
    simpa [List.append_assoc] using this
  have hmem : rows[k] ∈ rows := List.getElem_mem hk
  apply Bool.eq_iff_iff.2
  simp only [yardOk, Bool.and_eq_true, decide_eq_true_eq, yOk_iff, List.length_set, Bool.not_eq_true', hp.nodup_iff, List.nodup_cons, anyI, hasI_no]
  constructor
  · rintro ⟨_, a1, ⟨a2, _⟩, _⟩
    have hm : rows[k] ++ [x] ∈ rows.set k (rows[k] ++ [x]) := List.mem_iff_getElem.2 ⟨k, by simpa using hk, by simp⟩
    obtain ⟨_, b1, b2⟩ := a1 _ hm
    refine ⟨b2 x (by simp), a2, ?_⟩
    rw [List.length_append, List.length_singleton] at b1
    omega
  · rintro ⟨a1, a2, a3⟩
    refine ⟨⟨h1, h2⟩, fun s hsm => ?_, ⟨a2, hn⟩, by simp⟩
    rcases List.mem_or_eq_of_mem_set hsm with hsm | rfl
    · exact hs s hsm
    · obtain ⟨b0, b1, b2⟩ := hs _ hmem
      refine ⟨b0, ?_, fun y hy => ?_⟩
      · rw [List.length_append, List.length_singleton]; omega
      · rcases List.mem_append.1 hy with hy | hy
        · exact b2 y hy
        · rw [List.mem_singleton.1 hy]; exact a1
/-- which yard a putting gives, and whether the box was put -/
def yput (high : Int) (rows : List (List Int)) (i x : Int) : Int × List (List Int) × Bool :=
  if yardOk high rows = false then (0, [], false)
  else if (0 ≤ i ∧ i < rows.length) ∧ yardOk high (rows.set i.toNat ((rows.getD i.toNat []) ++ [x])) = true then (high, rows.set i.toNat ((rows.getD i.toNat []) ++ [x]), true)
  else (high, rows, false)
theorem getD_at {rows : List (List Int)} {k : Nat} (hk : k < rows.length) : rows.getD k [] = rows[k] := by rw [List.getD_eq_getElem?_getD, List.getElem?_eq_getElem hk]; rfl
theorem yput_bad {high : Int} {rows : List (List Int)} (i x : Int) (h : yardOk high rows = false) : yput high rows i x = (0, [], false) := by rw [yput, if_pos h]
theorem yput_out {high : Int} {rows : List (List Int)} {i : Int} (x : Int) (h : yardOk high rows = true) (h2 : ¬ (0 ≤ i ∧ i < rows.length)) : yput high rows i x = (high, rows, false) := by
  rw [yput, if_neg (by simp [h]), if_neg (fun h => h2 h.1)]
theorem yput_no {high : Int} {rows : List (List Int)} {k : Nat} {x : Int} (h : yardOk high rows = true) (hk : k < rows.length) (h2 : yardOk high (rows.set k (rows[k] ++ [x])) = false) : yput high rows (k : Int) x = (high, rows, false) := by
  rw [yput, if_neg (by simp [h]), Int.toNat_natCast, getD_at hk, if_neg (by simp [h2])]
theorem yput_yes {high : Int} {rows : List (List Int)} {k : Nat} {x : Int} (h : yardOk high rows = true) (hk : k < rows.length) (h2 : yardOk high (rows.set k (rows[k] ++ [x])) = true) : yput high rows (k : Int) x = (high, rows.set k (rows[k] ++ [x]), true) := by
  rw [yput, if_neg (by simp [h]), Int.toNat_natCast, getD_at hk, if_pos ⟨by omega, h2⟩]
end Go.Proofs.Ytcbeoaedccdppaa
