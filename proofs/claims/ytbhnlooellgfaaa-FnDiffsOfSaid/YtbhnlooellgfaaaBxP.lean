/- Boxes and differences in plain words, no program in sight. -/
namespace Go.Proofs.Ytbhnlooellgfaaa
set_option linter.unusedVariables false
structure BoxV where
  f0 : Int
  f1 : Int
  f2 : Int
  f3 : Int
  f4 : Bool
deriving DecidableEq
instance : Inhabited BoxV := ⟨⟨0, 0, 0, 0, false⟩⟩
structure DiffV where
  k : Int
  b : BoxV
deriving DecidableEq
instance : Inhabited DiffV := ⟨⟨0, default⟩⟩
def inI (a lo hi : Int) : Bool := decide (lo ≤ a) && decide (a ≤ hi)
theorem inI_iff {a lo hi : Int} : inI a lo hi = true ↔ lo ≤ a ∧ a ≤ hi := by simp [inI]
def bOk (x : BoxV) : Bool := ((inI x.f0 1 999 && inI x.f1 1 30) && inI x.f2 0 3) && inI x.f3 0 6
theorem bOk_id {x : BoxV} (h : bOk x = true) : 1 ≤ x.f0 ∧ x.f0 ≤ 999 := by
  simp only [bOk, Bool.and_eq_true, inI_iff] at h
  omega
def isF (id : Int) (x : BoxV) : Bool := decide (x.f0 = id)
theorem isF_iff {id : Int} {x : BoxV} : isF id x = true ↔ x.f0 = id := by simp [isF]
/-- is there a box with the id -/
def hasF (zs : List BoxV) (id : Int) : Bool := zs.any (isF id)
theorem hasF_iff {zs : List BoxV} {id : Int} : hasF zs id = true ↔ ∃ x ∈ zs, x.f0 = id := by simp [hasF, isF]
/-- where the first box with the id stands -/
def findF (zs : List BoxV) (id : Int) : Option Nat := zs.findIdx? (isF id)
def idxI (o : Option Nat) : Int := match o with | some i => i | none => -1
theorem findF_none {zs : List BoxV} {id : Int} : findF zs id = none ↔ ∀ x ∈ zs, x.f0 ≠ id := by
  simp [findF, List.findIdx?_eq_none_iff, isF]
theorem findF_some {zs : List BoxV} {id : Int} {i : Nat} (h : findF zs id = some i) : ∃ hi : i < zs.length, zs[i].f0 = id ∧ zs.find? (isF id) = some zs[i] := by
  unfold findF at h
  obtain ⟨hi, h1, h2⟩ := List.findIdx?_eq_some_iff_getElem.1 h
  refine ⟨hi, isF_iff.1 h1, ?_⟩
  rw [List.find?_eq_some_iff_getElem]
  exact ⟨h1, i, hi, rfl, fun j hj => by simpa using h2 j hj⟩
theorem findF_find {zs : List BoxV} {id : Int} : findF zs id = none ↔ zs.find? (isF id) = none := by
  rw [findF_none, List.find?_eq_none]
  simp [isF]
theorem findF_has {zs : List BoxV} {id : Int} : decide (0 ≤ idxI (findF zs id)) = hasF zs id := by
  cases h : findF zs id with
  | none =>
    have : hasF zs id = false := by
      cases h2 : hasF zs id with
      | false => rfl
      | true =>
        obtain ⟨x, hx, he⟩ := hasF_iff.1 h2
        exact absurd he (findF_none.1 h x hx)
    rw [this]; rfl
  | some i =>
    obtain ⟨hi, he, _⟩ := findF_some h
    have : hasF zs id = true := hasF_iff.2 ⟨_, List.getElem_mem hi, he⟩
    rw [this]
    simp [idxI]
/-- a find that steps: behind k boxes that are not it -/
theorem findF_step {zs : List BoxV} {id : Int} {k : Nat} (hk : k < zs.length) (h : ∀ x ∈ zs.take k, x.f0 ≠ id) : (zs[k].f0 = id → findF zs id = some k) ∧ (zs[k].f0 ≠ id → ∀ x ∈ zs.take (k + 1), x.f0 ≠ id) := by
  constructor
  · intro he
    unfold findF
    rw [List.findIdx?_eq_some_iff_getElem]
    refine ⟨hk, isF_iff.2 he, fun j hj => ?_⟩
    have : zs[j]'(by omega) ∈ zs.take k := List.mem_take_iff_getElem.2 ⟨j, by omega, rfl⟩
    have := h _ this
    simpa [isF] using this
  · intro he x hx
    rw [List.take_succ_eq_append_getElem hk, List.mem_append] at hx
    rcases hx with hx | hx
    · exact h x hx
    · rw [List.mem_singleton] at hx; subst hx; exact he
theorem findF_end {zs : List BoxV} {id : Int} (h : ∀ x ∈ zs.take zs.length, x.f0 ≠ id) : findF zs id = none := by
  rw [List.take_length] at h
  exact findF_none.2 h
/-- valid boxes: from behind the boxes p on -/
def okGo : List BoxV → List BoxV → Bool
  | _, [] => true
  | p, x :: r => (bOk x && !hasF p x.f0) && okGo (p ++ [x]) r
def boxesOk (zs : List BoxV) : Bool := okGo [] zs && decide (zs.length ≤ 10)
theorem okGo_step {zs p : List BoxV} {k : Nat} (h : k < zs.length) : okGo (p ++ zs.take k) (zs.drop k) = ((bOk zs[k] && !hasF (p ++ zs.take k) zs[k].f0) && okGo (p ++ zs.take (k + 1)) (zs.drop (k + 1))) := by
  rw [List.drop_eq_getElem_cons h, okGo, List.take_succ_eq_append_getElem h, List.append_assoc]
theorem okGo_at {zs : List BoxV} {k : Nat} (h : k < zs.length) : okGo (zs.take k) (zs.drop k) = ((bOk zs[k] && !hasF (zs.take k) zs[k].f0) && okGo (zs.take (k + 1)) (zs.drop (k + 1))) := by
  have := okGo_step (p := []) h
  simpa using this
/-- in the whole list the box k stands first at k or ahead of it -/
theorem findF_lt {zs : List BoxV} {k : Nat} (h : k < zs.length) : decide (idxI (findF zs zs[k].f0) < (k : Int)) = hasF (zs.take k) zs[k].f0 := by
  have hle : hasF (zs.take k) zs[k].f0 = true ↔ idxI (findF zs zs[k].f0) < (k : Int) := by
    cases hf : findF zs zs[k].f0 with
    | none => exact absurd rfl (findF_none.1 hf _ (List.getElem_mem h))
    | some i =>
      obtain ⟨hi, he, _⟩ := findF_some hf
      unfold findF at hf
      obtain ⟨_, _, h2⟩ := List.findIdx?_eq_some_iff_getElem.1 hf
      constructor
      · intro ha
        obtain ⟨x, hx, hxe⟩ := hasF_iff.1 ha
        obtain ⟨j, hj, rfl⟩ := List.mem_take_iff_getElem.1 hx
        rcases Nat.lt_or_ge j i with hlt | hge
        · have := h2 j hlt
          simp only [isF, decide_eq_true_eq] at this
          exact absurd hxe this
        · simp only [idxI]; omega
      · intro hlt
        simp only [idxI] at hlt
        exact hasF_iff.2 ⟨zs[i], List.mem_take_iff_getElem.2 ⟨i, by omega, rfl⟩, he⟩
  cases hh : hasF (zs.take k) zs[k].f0 with
  | true => rw [decide_eq_true_eq]; exact hle.1 hh
  | false =>
    rw [decide_eq_false_iff_not]
    intro h2
    rw [hle.2 h2] at hh
    cases hh
theorem okGo_iff {zs p : List BoxV} : okGo p zs = true ↔ (∀ x ∈ zs, bOk x = true ∧ ∀ y ∈ p, y.f0 ≠ x.f0) ∧ zs.Pairwise (fun a b => a.f0 ≠ b.f0) := by
  induction zs generalizing p with
  | nil => simp [okGo]
  | cons z zs ih =>
    have hh : hasF p z.f0 = false ↔ ∀ y ∈ p, y.f0 ≠ z.f0 := by
      rw [← Bool.not_eq_true, hasF_iff]
      simp
    simp only [okGo, Bool.and_eq_true, Bool.not_eq_true', ih, hh, List.mem_cons, List.pairwise_cons, List.mem_append, List.not_mem_nil, or_false]
    constructor
    · rintro ⟨⟨h1, h2⟩, h3, h4⟩
      refine ⟨fun x hx => ?_, fun x hx => ?_, h4⟩
      · rcases hx with rfl | hx
        · exact ⟨h1, h2⟩
        · exact ⟨(h3 x hx).1, fun y hy => (h3 x hx).2 y (.inl hy)⟩
      · exact (h3 x hx).2 z (.inr rfl)
    · rintro ⟨h1, h2, h3⟩
      refine ⟨⟨(h1 z (.inl rfl)).1, (h1 z (.inl rfl)).2⟩, fun x hx => ⟨(h1 x (.inr hx)).1, fun y hy => ?_⟩, h3⟩
      rcases hy with hy | rfl
      · exact (h1 x (.inr hx)).2 y hy
      · exact h2 x hx
theorem boxesOk_iff {zs : List BoxV} : boxesOk zs = true ↔ (∀ x ∈ zs, bOk x = true) ∧ zs.Pairwise (fun a b => a.f0 ≠ b.f0) ∧ zs.length ≤ 10 := by
  simp only [boxesOk, Bool.and_eq_true, decide_eq_true_eq, okGo_iff, List.not_mem_nil]
  constructor
  · rintro ⟨⟨h1, h2⟩, h3⟩; exact ⟨fun x hx => (h1 x hx).1, h2, h3⟩
  · rintro ⟨h1, h2, h3⟩; exact ⟨⟨fun x hx => ⟨h1 x hx, fun y hy => by cases hy⟩, h2⟩, h3⟩
theorem boxesOk_perm {a b : List BoxV} (h : a.Perm b) : boxesOk a = boxesOk b := by
  have key : ∀ {a b : List BoxV}, a.Perm b → boxesOk a = true → boxesOk b = true := by
    intro a b h ha
    obtain ⟨h1, h2, h3⟩ := boxesOk_iff.1 ha
    exact boxesOk_iff.2 ⟨fun x hx => h1 x (h.mem_iff.2 hx), h.pairwise h2 (fun hab e => hab e.symm), by rw [← h.length_eq]; exact h3⟩
  cases ha : boxesOk a with
  | true => exact (key h ha).symm
  | false =>
    cases hb : boxesOk b with
    | false => rfl
    | true => rw [key h.symm hb] at ha; cases ha
/-- two boxes of valid boxes with one id are one -/
theorem box_uniq {zs : List BoxV} (h : zs.Pairwise (fun a b => a.f0 ≠ b.f0)) {x y : BoxV} (hx : x ∈ zs) (hy : y ∈ zs) (e : x.f0 = y.f0) : x = y := by
  induction zs with
  | nil => cases hx
  | cons z zs ih =>
    obtain ⟨h1, h2⟩ := List.pairwise_cons.1 h
    rcases List.mem_cons.1 hx with ex | mx
    · rcases List.mem_cons.1 hy with ey | my
      · rw [ex, ey]
      · exact absurd (by rw [← ex]; exact e) (h1 y my)
    · rcases List.mem_cons.1 hy with ey | my
      · exact absurd (by rw [← ey]; exact e.symm) (h1 x mx)
      · exact ih h2 mx my
theorem find_mem {zs : List BoxV} (h : zs.Pairwise (fun a b => a.f0 ≠ b.f0)) {x : BoxV} {id : Int} : zs.find? (isF id) = some x ↔ x ∈ zs ∧ x.f0 = id := by
  constructor
  · intro hf
    exact ⟨List.mem_of_find?_eq_some hf, isF_iff.1 (List.find?_some hf)⟩
  · rintro ⟨hx, he⟩
    cases hf : zs.find? (isF id) with
    | none =>
      have := List.find?_eq_none.1 hf x hx
      exact absurd (isF_iff.2 he) this
    | some y =>
      have hy := List.mem_of_find?_eq_some hf
      have hye := isF_iff.1 (List.find?_some hf)
      rw [box_uniq h hx hy (he.trans hye.symm)]
theorem find_none {zs : List BoxV} {id : Int} : zs.find? (isF id) = none ↔ ∀ x ∈ zs, x.f0 ≠ id := by rw [← findF_find, findF_none]
theorem find_perm {a b : List BoxV} (h : a.Perm b) (ha : a.Pairwise (fun a b => a.f0 ≠ b.f0)) (id : Int) : a.find? (isF id) = b.find? (isF id) := by
  have hb := h.pairwise ha (fun hab e => hab e.symm)
  cases hf : b.find? (isF id) with
  | none => exact find_none.2 (fun x hx => find_none.1 hf x (h.mem_iff.1 hx))
  | some x =>
    obtain ⟨h1, h2⟩ := (find_mem hb).1 hf
    exact (find_mem ha).2 ⟨h.mem_iff.2 h1, h2⟩
/-- lists by ascending keys that have the same members are one -/
theorem asc_ext {α : Type} (key : α → Int) {a b : List α} (ha : a.Pairwise (fun x y => key x < key y)) (hb : b.Pairwise (fun x y => key x < key y)) (h : ∀ x, x ∈ a ↔ x ∈ b) : a = b := by
  induction a generalizing b with
  | nil =>
    cases b with
    | nil => rfl
    | cons y b => exact absurd ((h y).2 (List.mem_cons_self ..)) (by simp)
  | cons x a ih =>
    cases b with
    | nil => exact absurd ((h x).1 (List.mem_cons_self ..)) (by simp)
    | cons y b =>
      obtain ⟨a1, a2⟩ := List.pairwise_cons.1 ha
      obtain ⟨b1, b2⟩ := List.pairwise_cons.1 hb
      have hxy : x = y := by
        rcases List.mem_cons.1 ((h x).1 (List.mem_cons_self ..)) with e | hx
        · exact e
        · rcases List.mem_cons.1 ((h y).2 (List.mem_cons_self ..)) with e | hy
          · exact e.symm
          · have q1 := a1 y hy; have q2 := b1 x hx; omega
      subst hxy
      congr 1
      refine ih a2 b2 fun z => ?_
      constructor
      · intro hz
        rcases List.mem_cons.1 ((h z).1 (List.mem_cons_of_mem _ hz)) with rfl | hz'
        · have := a1 z hz; omega
        · exact hz'
      · intro hz
        rcases List.mem_cons.1 ((h z).2 (List.mem_cons_of_mem _ hz)) with rfl | hz'
        · have := b1 z hz; omega
        · exact hz'
/-- what f gives for the ids 1 to k -/
def coll {α : Type} (f : Int → Option α) (k : Nat) : List α := (List.range k).filterMap (fun (i : Nat) => f ((i : Int) + 1))
theorem coll_zero {α : Type} (f : Int → Option α) : coll f 0 = [] := rfl
theorem coll_succ {α : Type} (f : Int → Option α) (k : Nat) : coll f (k + 1) = coll f k ++ (f ((k : Int) + 1)).toList := by
  unfold coll
  rw [List.range_succ, List.filterMap_append]
  cases h : f ((k : Int) + 1) <;> simp [h]
theorem coll_mem {α : Type} {f : Int → Option α} {k : Nat} {x : α} : x ∈ coll f k ↔ ∃ i : Nat, i < k ∧ f ((i : Int) + 1) = some x := by
  simp [coll, List.mem_filterMap]
theorem coll_asc {α : Type} (key : α → Int) {f : Int → Option α} (hf : ∀ id x, f id = some x → key x = id) (k : Nat) : (coll f k).Pairwise (fun x y => key x < key y) := by
  induction k with
  | zero => exact List.Pairwise.nil
  | succ k ih =>
    rw [coll_succ, List.pairwise_append]
    refine ⟨ih, ?_, fun a ha b hb => ?_⟩
    · cases f ((k : Int) + 1) <;> simp
    · obtain ⟨i, hi, h1⟩ := coll_mem.1 ha
      rw [Option.mem_toList] at hb
      have e1 := hf _ _ h1
      have e2 := hf _ _ hb
      omega
theorem coll_len {α : Type} (f : Int → Option α) (k : Nat) : (coll f k).length ≤ k := by
  unfold coll
  have := List.length_filterMap_le (fun (i : Nat) => f ((i : Int) + 1)) (List.range k)
  simpa using this
/-- the boxes by ascending ids -/
def collB (zs : List BoxV) : List BoxV := coll (fun id => zs.find? (isF id)) 999
def sortB (zs : List BoxV) : List BoxV := if boxesOk zs then collB zs else []
theorem collB_asc (zs : List BoxV) : (collB zs).Pairwise (fun x y => x.f0 < y.f0) := coll_asc BoxV.f0 (fun id x h => isF_iff.1 (List.find?_some h)) 999
theorem collB_mem {zs : List BoxV} (h : boxesOk zs = true) {x : BoxV} : x ∈ collB zs ↔ x ∈ zs := by
  obtain ⟨h1, h2, h3⟩ := boxesOk_iff.1 h
  unfold collB
  rw [coll_mem]
  constructor
  · rintro ⟨i, _, hf⟩; exact List.mem_of_find?_eq_some hf
  · intro hx
    have := bOk_id (h1 x hx)
    refine ⟨(x.f0 - 1).toNat, by omega, (find_mem h2).2 ⟨hx, by omega⟩⟩
/-- whatever is a permutation and ascends is it -/
theorem collB_uniq {zs ys : List BoxV} (h : boxesOk zs = true) (hp : ys.Perm zs) (ha : ys.Pairwise (fun x y => x.f0 ≤ y.f0)) : ys = collB zs := by
  obtain ⟨h1, h2, h3⟩ := boxesOk_iff.1 h
  have hn := hp.symm.pairwise h2 (fun hab e => hab e.symm)
  have ha' : ys.Pairwise (fun x y => x.f0 < y.f0) := by
    have := ha.and hn
    exact this.imp (fun ⟨a, b⟩ => by omega)
  exact asc_ext BoxV.f0 ha' (collB_asc zs) (fun x => by rw [collB_mem h, hp.mem_iff])
theorem perm_of_mem {α : Type} [DecidableEq α] {a b : List α} (ha : a.Nodup) (hb : b.Nodup) (h : ∀ x, x ∈ a ↔ x ∈ b) : a.Perm b := by
  rw [List.perm_iff_count]
  intro x
  rw [ha.count, hb.count]
  simp only [h]
theorem ne_nodup {α : Type} {key : α → Int} {a : List α} (h : a.Pairwise (fun x y => key x ≠ key y)) : a.Nodup := h.imp (fun h e => h (by rw [e]))
theorem lt_nodup {α : Type} {key : α → Int} {a : List α} (h : a.Pairwise (fun x y => key x < key y)) : a.Nodup := ne_nodup (key := key) (h.imp (fun h e => by omega))
theorem collB_perm {zs : List BoxV} (h : boxesOk zs = true) : (collB zs).Perm zs :=
  perm_of_mem (lt_nodup (collB_asc zs)) (ne_nodup (key := BoxV.f0) (boxesOk_iff.1 h).2.1) (fun x => collB_mem h)
theorem collB_len {zs : List BoxV} (h : boxesOk zs = true) : (collB zs).length = zs.length := (collB_perm h).length_eq
theorem collB_ok {zs : List BoxV} (h : boxesOk zs = true) : boxesOk (collB zs) = true := by rw [boxesOk_perm (collB_perm h)]; exact h
theorem collB_eq {a b : List BoxV} (hp : a.Perm b) (h : boxesOk a = true) : collB a = collB b := by
  have hb : boxesOk b = true := by rw [← boxesOk_perm hp]; exact h
  exact collB_uniq hb ((collB_perm h).trans hp) ((collB_asc a).imp (fun h => by omega))
theorem collB_idem {zs : List BoxV} (h : boxesOk zs = true) : collB (collB zs) = collB zs := collB_eq (collB_perm h) (collB_ok h)
theorem sortB_len (zs : List BoxV) : (sortB zs).length ≤ 10 := by
  unfold sortB
  split
  · next h => rw [collB_len h]; exact (boxesOk_iff.1 h).2.2
  · simp
/-- what there is to tell of an id -/
def diffAt (told seen : List BoxV) (id : Int) : Option DiffV :=
  match told.find? (isF id), seen.find? (isF id) with
  | some a, none => some ⟨0, a⟩
  | none, some b => some ⟨1, b⟩
  | some a, some b => if a = b then none else some ⟨2, b⟩
  | none, none => none
theorem diffAt_id {told seen : List BoxV} {id : Int} {d : DiffV} (h : diffAt told seen id = some d) : d.b.f0 = id := by
  unfold diffAt at h
  split at h
  · next h1 h2 => cases h; exact isF_iff.1 (List.find?_some h1)
  · next h1 h2 => cases h; exact isF_iff.1 (List.find?_some h2)
  · next h1 h2 =>
    split at h
    · cases h
    · cases h; exact isF_iff.1 (List.find?_some h2)
  · cases h
def collD (told seen : List BoxV) : List DiffV := coll (diffAt told seen) 999
def diffsB (told seen : List BoxV) : List DiffV := if (boxesOk told && boxesOk seen) then collD told seen else []
theorem collD_asc (told seen : List BoxV) : (collD told seen).Pairwise (fun x y => x.b.f0 < y.b.f0) := coll_asc (fun d : DiffV => d.b.f0) (fun _ _ h => diffAt_id h) 999
/-- what the first loop tells -/
def goneOr (seen : List BoxV) (b : BoxV) : Option DiffV :=
  match seen.find? (isF b.f0) with
  | none => some ⟨0, b⟩
  | some c => if c = b then none else some ⟨2, c⟩
/-- what the second loop tells -/
def newOr (told : List BoxV) (b : BoxV) : Option DiffV := if hasF told b.f0 then none else some ⟨1, b⟩
theorem goneOr_id {seen : List BoxV} {b : BoxV} {d : DiffV} (h : goneOr seen b = some d) : d.b.f0 = b.f0 := by
  unfold goneOr at h
  split at h
  · cases h; rfl
  · next c hc =>
    split at h
    · cases h
    · cases h; exact isF_iff.1 (List.find?_some hc)
theorem newOr_id {told : List BoxV} {b : BoxV} {d : DiffV} (h : newOr told b = some d) : d.b.f0 = b.f0 := by
  unfold newOr at h
  split at h
  · cases h
  · cases h; rfl
def rawD (told seen : List BoxV) : List DiffV := told.filterMap (goneOr seen) ++ seen.filterMap (newOr told)
theorem rawD_len (told seen : List BoxV) : (rawD told seen).length ≤ told.length + seen.length := by
  unfold rawD
  rw [List.length_append]
  have h1 := List.length_filterMap_le (goneOr seen) told
  have h2 := List.length_filterMap_le (newOr told) seen
  omega
theorem rawD_mem {told seen : List BoxV} (ht : boxesOk told = true) (hs : boxesOk seen = true) {d : DiffV} : d ∈ rawD told seen ↔ d ∈ collD told seen := by
  obtain ⟨t1, t2, _⟩ := boxesOk_iff.1 ht
  obtain ⟨s1, s2, _⟩ := boxesOk_iff.1 hs
  unfold rawD collD
  rw [List.mem_append, List.mem_filterMap, List.mem_filterMap, coll_mem]
  have nat : ∀ x : BoxV, bOk x = true → ∃ i : Nat, i < 999 ∧ (i : Int) + 1 = x.f0 := fun x hx => ⟨(x.f0 - 1).toNat, by have := bOk_id hx; omega, by have := bOk_id hx; omega⟩
  constructor
  · rintro (⟨b, hb, hd⟩ | ⟨b, hb, hd⟩)
    · obtain ⟨i, hi, e⟩ := nat b (t1 b hb)
      refine ⟨i, hi, ?_⟩
      rw [e]
      unfold diffAt
      rw [(find_mem t2).2 ⟨hb, rfl⟩]
      unfold goneOr at hd
      cases hf : seen.find? (isF b.f0) with
      | none => rw [hf] at hd; exact hd
      | some c =>
        rw [hf] at hd
        show (if b = c then none else some (⟨2, c⟩ : DiffV)) = some d
        change (if c = b then none else some (⟨2, c⟩ : DiffV)) = some d at hd
        by_cases hcb : c = b
        · rw [if_pos hcb] at hd; cases hd
        · rw [if_neg hcb] at hd
          rw [if_neg (fun e => hcb e.symm)]; exact hd
    · obtain ⟨i, hi, e⟩ := nat b (s1 b hb)
      refine ⟨i, hi, ?_⟩
      rw [e]
      unfold diffAt
      rw [(find_mem s2).2 ⟨hb, rfl⟩]
      unfold newOr at hd
      by_cases hh : hasF told b.f0 = true
      · rw [if_pos hh] at hd; cases hd
      · rw [if_neg hh] at hd
        have : told.find? (isF b.f0) = none := find_none.2 (fun x hx he => hh (hasF_iff.2 ⟨x, hx, he⟩))
        rw [this]
        exact hd
  · rintro ⟨i, hi, hd⟩
    unfold diffAt at hd
    split at hd
    · next a h1 h2 =>
      cases hd
      obtain ⟨m1, m2⟩ := (find_mem t2).1 h1
      refine .inl ⟨a, m1, ?_⟩
      unfold goneOr
      rw [m2, h2]
    · next b h1 h2 =>
      cases hd
      obtain ⟨m1, m2⟩ := (find_mem s2).1 h2
      refine .inr ⟨b, m1, ?_⟩
      unfold newOr
      have : ¬ hasF told b.f0 = true := fun hh => by
        obtain ⟨x, hx, he⟩ := hasF_iff.1 hh
        exact find_none.1 h1 x hx (he.trans m2)
      rw [if_neg this]
    · next a b h1 h2 =>
      by_cases hab : a = b
      · rw [if_pos hab] at hd; cases hd
      · rw [if_neg hab] at hd
        cases hd
        obtain ⟨m1, m2⟩ := (find_mem t2).1 h1
        refine .inl ⟨a, m1, ?_⟩
        unfold goneOr
        rw [m2, h2]
        show (if b = a then none else some (⟨2, b⟩ : DiffV)) = _
        rw [if_neg (fun e => hab e.symm)]
    · cases hd
theorem filterMap_ne {α : Type} {f : BoxV → Option α} {key : α → Int} (hf : ∀ b d, f b = some d → key d = b.f0) {zs : List BoxV} (h : zs.Pairwise (fun a b => a.f0 ≠ b.f0)) : (zs.filterMap f).Pairwise (fun x y => key x ≠ key y) := by
  rw [List.pairwise_filterMap]
  exact h.imp (fun hab d hd d' hd' => by rw [hf _ _ hd, hf _ _ hd']; exact hab)
theorem rawD_ne {told seen : List BoxV} (ht : boxesOk told = true) (hs : boxesOk seen = true) : (rawD told seen).Pairwise (fun x y => x.b.f0 ≠ y.b.f0) := by
  obtain ⟨t1, t2, _⟩ := boxesOk_iff.1 ht
  obtain ⟨s1, s2, _⟩ := boxesOk_iff.1 hs
  unfold rawD
  rw [List.pairwise_append]
  refine ⟨filterMap_ne (key := fun d : DiffV => d.b.f0) (fun b d h => goneOr_id h) t2, filterMap_ne (key := fun d : DiffV => d.b.f0) (fun b d h => newOr_id h) s2, fun a ha b hb e => ?_⟩
  rw [List.mem_filterMap] at ha hb
  obtain ⟨x, hx, hxd⟩ := ha
  obtain ⟨y, hy, hyd⟩ := hb
  have e1 := goneOr_id hxd
  have e2 := newOr_id hyd
  unfold newOr at hyd
  have : hasF told y.f0 = true := hasF_iff.2 ⟨x, hx, by omega⟩
  rw [if_pos this] at hyd
  cases hyd
theorem collD_uniq {told seen : List BoxV} {ys : List DiffV} (ht : boxesOk told = true) (hs : boxesOk seen = true) (hp : ys.Perm (rawD told seen)) (ha : ys.Pairwise (fun x y => x.b.f0 ≤ y.b.f0)) : ys = collD told seen := by
  have hn := hp.symm.pairwise (rawD_ne ht hs) (fun hab e => hab e.symm)
  have ha' : ys.Pairwise (fun x y => x.b.f0 < y.b.f0) := (ha.and hn).imp (fun ⟨a, b⟩ => by omega)
  exact asc_ext (fun d : DiffV => d.b.f0) ha' (collD_asc told seen) (fun x => by rw [hp.mem_iff, rawD_mem ht hs])
theorem diffsB_len (told seen : List BoxV) : (diffsB told seen).length ≤ 20 := by
  unfold diffsB
  split
  · next h =>
    rw [Bool.and_eq_true] at h
    have hp : (collD told seen).Perm (rawD told seen) := perm_of_mem (lt_nodup (key := fun d : DiffV => d.b.f0) (collD_asc told seen)) (ne_nodup (key := fun d : DiffV => d.b.f0) (rawD_ne h.1 h.2)) (fun x => (rawD_mem h.1 h.2).symm)
    rw [hp.length_eq]
    have := rawD_len told seen
    have := (boxesOk_iff.1 h.1).2.2
    have := (boxesOk_iff.1 h.2).2.2
    omega
  · simp
end Go.Proofs.Ytbhnlooellgfaaa
