/- Differences applied, in plain words. -/
import Derived.Test.YtbhnlooellgfaaaBxP
namespace Go.Proofs.Ytbhnlooellgfaaa
set_option linter.unusedVariables false
/-- what a difference makes of the boxes, if it fits -/
def newOf (now : List BoxV) (d : DiffV) : Option (List BoxV) :=
  match findF now d.b.f0 with
  | none => if d.k = 1 then some (now ++ [d.b]) else none
  | some i => if d.k = 0 ∧ now[i]? = some d.b then some (now.take i ++ now.drop (i + 1)) else if d.k = 2 ∧ now[i]? ≠ some d.b then some (now.set i d.b) else none
def step1 (now : List BoxV) (d : DiffV) : Option (List BoxV) :=
  match newOf now d with
  | some l => if boxesOk l then some l else none
  | none => none
def applyGo : List BoxV → List DiffV → Option (List BoxV)
  | now, [] => some now
  | now, d :: r => match step1 now d with
    | some l => applyGo l r
    | none => none
def applyB (told : List BoxV) (ds : List DiffV) : List BoxV × Bool :=
  if boxesOk told then (match applyGo told ds with | some l => (collB l, true) | none => ([], false)) else ([], false)
theorem applyGo_step {now : List BoxV} {ds : List DiffV} {k : Nat} (hk : k < ds.length) : applyGo now (ds.drop k) = (match step1 now ds[k] with | some l => applyGo l (ds.drop (k + 1)) | none => none) := by
  rw [List.drop_eq_getElem_cons hk]; rfl
theorem applyGo_end {now : List BoxV} {ds : List DiffV} {k : Nat} (hk : ds.length ≤ k) : applyGo now (ds.drop k) = some now := by
  rw [List.drop_of_length_le hk]; rfl
theorem newOf_add {now : List BoxV} {d : DiffV} (h : findF now d.b.f0 = none) (hk : d.k = 1) : newOf now d = some (now ++ [d.b]) := by unfold newOf; rw [h]; simp [hk]
theorem newOf_no {now : List BoxV} {d : DiffV} (h : findF now d.b.f0 = none) (hk : d.k ≠ 1) : newOf now d = none := by unfold newOf; rw [h]; simp [hk]
theorem newOf_del {now : List BoxV} {d : DiffV} {i : Nat} (h : findF now d.b.f0 = some i) (hi : i < now.length) (hk : d.k = 0) (he : now[i] = d.b) : newOf now d = some (now.take i ++ now.drop (i + 1)) := by
  unfold newOf; rw [h]; simp [hk, List.getElem?_eq_getElem hi, he]
theorem newOf_set {now : List BoxV} {d : DiffV} {i : Nat} (h : findF now d.b.f0 = some i) (hi : i < now.length) (hk : d.k = 2) (he : now[i] ≠ d.b) : newOf now d = some (now.set i d.b) := by
  unfold newOf; rw [h]; simp [hk, List.getElem?_eq_getElem hi, he]
theorem newOf_bad {now : List BoxV} {d : DiffV} {i : Nat} (h : findF now d.b.f0 = some i) (hi : i < now.length) (h0 : ¬ (d.k = 0 ∧ now[i] = d.b)) (h2 : ¬ (d.k = 2 ∧ now[i] ≠ d.b)) : newOf now d = none := by
  unfold newOf
  rw [h]
  simp only [List.getElem?_eq_getElem hi, ne_eq, Option.some.injEq]
  rw [if_neg h0, if_neg h2]
theorem take_drop_perm {α : Type} (a : List α) (i : Nat) (hi : i < a.length) : a.Perm (a[i] :: (a.take i ++ a.drop (i + 1))) := by
  have h : a = a.take i ++ a[i] :: a.drop (i + 1) := by rw [← List.drop_eq_getElem_cons, List.take_append_drop]
  have h2 : (a.take i ++ a[i] :: a.drop (i + 1)).Perm (a[i] :: (a.take i ++ a.drop (i + 1))) := List.perm_middle
  rw [← h] at h2
  exact h2
theorem set_perm {α : Type} (a : List α) (i : Nat) (hi : i < a.length) (v : α) : (a.set i v).Perm (v :: (a.take i ++ a.drop (i + 1))) := by
  rw [List.set_eq_take_append_cons_drop, if_pos hi]
  exact List.perm_middle
theorem newOf_perm {a b : List BoxV} {d : DiffV} (h : a.Perm b) (ha : boxesOk a = true) : (newOf a d = none ∧ newOf b d = none) ∨ ∃ x y, newOf a d = some x ∧ newOf b d = some y ∧ x.Perm y := by
  obtain ⟨h1, h2, h3⟩ := boxesOk_iff.1 ha
  have hf := find_perm h h2 d.b.f0
  cases ea : findF a d.b.f0 with
  | none =>
    have eb : findF b d.b.f0 = none := by rw [findF_find, ← hf, ← findF_find]; exact ea
    by_cases hk : d.k = 1
    · exact .inr ⟨_, _, newOf_add ea hk, newOf_add eb hk, h.append_right _⟩
    · exact .inl ⟨newOf_no ea hk, newOf_no eb hk⟩
  | some i =>
    obtain ⟨hi, hie, hif⟩ := findF_some ea
    cases eb : findF b d.b.f0 with
    | none => rw [hif, findF_find.1 eb] at hf; cases hf
    | some j =>
      obtain ⟨hj, hje, hjf⟩ := findF_some eb
      rw [hif, hjf] at hf
      injection hf with hf
      have p1 := take_drop_perm a i hi
      have p2 := take_drop_perm b j hj
      have hd : (a.take i ++ a.drop (i + 1)).Perm (b.take j ++ b.drop (j + 1)) := by
        have := (p1.symm.trans h).trans p2
        rw [hf] at this
        exact this.cons_inv
      by_cases q0 : d.k = 0 ∧ a[i] = d.b
      · exact .inr ⟨_, _, newOf_del ea hi q0.1 q0.2, newOf_del eb hj q0.1 (hf ▸ q0.2), hd⟩
      · by_cases q2 : d.k = 2 ∧ a[i] ≠ d.b
        · exact .inr ⟨_, _, newOf_set ea hi q2.1 q2.2, newOf_set eb hj q2.1 (hf ▸ q2.2), (set_perm a i hi d.b).trans ((hd.cons d.b).trans (set_perm b j hj d.b).symm)⟩
        · exact .inl ⟨newOf_bad ea hi q0 q2, newOf_bad eb hj (by rw [← hf]; exact q0) (by rw [← hf]; exact q2)⟩
theorem step1_perm {a b : List BoxV} {d : DiffV} (h : a.Perm b) (ha : boxesOk a = true) : (step1 a d = none ∧ step1 b d = none) ∨ ∃ x y, step1 a d = some x ∧ step1 b d = some y ∧ x.Perm y ∧ boxesOk x = true := by
  unfold step1
  rcases newOf_perm (d := d) h ha with ⟨e1, e2⟩ | ⟨x, y, e1, e2, hp⟩
  · rw [e1, e2]; exact .inl ⟨rfl, rfl⟩
  · rw [e1, e2]
    have hxy := boxesOk_perm hp
    cases hx : boxesOk x with
    | false =>
      have hy : boxesOk y = false := by rw [← hxy]; exact hx
      exact .inl ⟨by simp [hx], by simp [hy]⟩
    | true =>
      have hy : boxesOk y = true := by rw [← hxy]; exact hx
      exact .inr ⟨x, y, by simp [hx], by simp [hy], hp, hx⟩
theorem applyGo_perm {ds : List DiffV} : ∀ {a b : List BoxV}, a.Perm b → boxesOk a = true → (applyGo a ds = none ∧ applyGo b ds = none) ∨ ∃ x y, applyGo a ds = some x ∧ applyGo b ds = some y ∧ x.Perm y ∧ boxesOk x = true := by
  induction ds with
  | nil => intro a b h ha; exact .inr ⟨a, b, rfl, rfl, h, ha⟩
  | cons d r ih =>
    intro a b h ha
    rcases step1_perm (d := d) h ha with ⟨e1, e2⟩ | ⟨x, y, e1, e2, hp, hx⟩
    · exact .inl ⟨by simp [applyGo, e1], by simp [applyGo, e2]⟩
    · rcases ih hp hx with ⟨f1, f2⟩ | ⟨u, v, f1, f2, hq⟩
      · exact .inl ⟨by simp [applyGo, e1, f1], by simp [applyGo, e2, f2]⟩
      · exact .inr ⟨u, v, by simp [applyGo, e1, f1], by simp [applyGo, e2, f2], hq⟩
theorem applyGo_ok {ds : List DiffV} {a x : List BoxV} (ha : boxesOk a = true) (h : applyGo a ds = some x) : boxesOk x = true := by
  rcases applyGo_perm (ds := ds) (List.Perm.refl a) ha with ⟨e, _⟩ | ⟨u, v, e, _, _, hu⟩
  · rw [h] at e; cases e
  · rw [h] at e; injection e with e; rw [e]; exact hu
/-- the program begins with the sorted boxes: the same comes out -/
theorem applyB_sorted {told : List BoxV} {ds : List DiffV} (ht : boxesOk told = true) : applyB told ds = (match applyGo (collB told) ds with | some l => (collB l, true) | none => ([], false)) := by
  unfold applyB
  rw [if_pos ht]
  rcases applyGo_perm (ds := ds) (collB_perm ht).symm ht with ⟨e1, e2⟩ | ⟨x, y, e1, e2, hp, hx⟩
  · rw [e1, e2]
  · rw [e1, e2]
    show (collB x, true) = (collB y, true)
    rw [collB_eq hp hx]
theorem apply_yes {start L L' : List BoxV} {ds : List DiffV} {k : Nat} (hk : k < ds.length) (hj : applyGo start ds = applyGo L (ds.drop k)) (hn : newOf L ds[k] = some L') (hv : boxesOk L' = true) : applyGo start ds = applyGo L' (ds.drop (k + 1)) := by
  rw [hj, applyGo_step hk]
  unfold step1
  rw [hn]
  simp [hv]
theorem go_no {start L L' : List BoxV} {ds : List DiffV} {k : Nat} (hk : k < ds.length) (hj : applyGo start ds = applyGo L (ds.drop k)) (hn : newOf L ds[k] = some L') (hv : boxesOk L' = false) : applyGo start ds = none := by
  rw [hj, applyGo_step hk]
  unfold step1
  rw [hn]
  simp [hv]
theorem go_bad {start L : List BoxV} {ds : List DiffV} {k : Nat} (hk : k < ds.length) (hj : applyGo start ds = applyGo L (ds.drop k)) (hn : newOf L ds[k] = none) : applyGo start ds = none := by
  rw [hj, applyGo_step hk]
  unfold step1
  rw [hn]
theorem applyB_none {told : List BoxV} {ds : List DiffV} (h : applyGo told ds = none) : applyB told ds = ([], false) := by
  unfold applyB
  rw [h]
  split <;> rfl
theorem applyB_some {told L : List BoxV} {ds : List DiffV} (ht : boxesOk told = true) (h : applyGo told ds = some L) : applyB told ds = (collB L, true) := by
  unfold applyB
  rw [h, if_pos ht]
theorem applyB_none2 {told : List BoxV} {ds : List DiffV} (ht : boxesOk told = true) (h : applyGo (collB told) ds = none) : applyB told ds = ([], false) := by
  rw [applyB_sorted ht, h]
theorem applyB_some2 {told L : List BoxV} {ds : List DiffV} (ht : boxesOk told = true) (h : applyGo (collB told) ds = some L) : applyB told ds = (collB L, true) := by
  rw [applyB_sorted ht, h]
theorem applyB_len (told : List BoxV) (ds : List DiffV) : (applyB told ds).1.length ≤ 10 := by
  unfold applyB
  split
  · next h =>
    cases e : applyGo told ds with
    | none => simp
    | some l =>
      have h2 := applyGo_ok h e
      have h3 := (boxesOk_iff.1 h2).2.2
      have h4 := collB_len h2
      have h5 : (collB l).length ≤ 10 := by omega
      simpa only using h5
  · simp
end Go.Proofs.Ytbhnlooellgfaaa
