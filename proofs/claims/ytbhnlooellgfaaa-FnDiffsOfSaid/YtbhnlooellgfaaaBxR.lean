/- Differences, applied, lead from what was told to what was seen: plain laws. -/
import Derived.Test.YtbhnlooellgfaaaBxQ
namespace Go.Proofs.Ytbhnlooellgfaaa
set_option linter.unusedVariables false
def DistB (zs : List BoxV) : Prop := zs.Pairwise (fun a b => a.f0 ≠ b.f0)
theorem distB_perm {a b : List BoxV} (h : a.Perm b) (ha : DistB a) : DistB b := h.pairwise ha (fun hab e => hab e.symm)
theorem find_cons_ne {a : BoxV} {rest : List BoxV} {id : Int} (h : a.f0 ≠ id) : (a :: rest).find? (isF id) = rest.find? (isF id) := by
  rw [List.find?_cons]
  have : isF id a = false := by simp [isF, h]
  rw [this]
theorem find_cons_eq {a : BoxV} {rest : List BoxV} : (a :: rest).find? (isF a.f0) = some a := by
  rw [List.find?_cons]
  have : isF a.f0 a = true := by simp [isF]
  rw [this]
theorem sub_len {a b : List Int} (ha : a.Nodup) (h : ∀ x ∈ a, x ∈ b) : a.length ≤ b.length := by
  induction a generalizing b with
  | nil => simp
  | cons x a ih =>
    obtain ⟨h1, h2⟩ := List.nodup_cons.1 ha
    have hx : x ∈ b := h x (List.mem_cons_self ..)
    have := ih (b := b.erase x) h2 (fun y hy => (List.mem_erase_of_ne (show y ≠ x from fun e => h1 (by rw [← e]; exact hy))).2 (h y (List.mem_cons_of_mem _ hy)))
    rw [List.length_erase_of_mem hx] at this
    have hb := List.length_pos_of_mem hx
    rw [List.length_cons]
    omega
theorem distB_ids {zs : List BoxV} (h : DistB zs) : (zs.map BoxV.f0).Nodup := by
  unfold List.Nodup
  rw [List.pairwise_map]
  exact h
/-- what a difference does: the other boxes stay -/
theorem newOf_parts {L L' : List BoxV} {d : DiffV} (hL : DistB L) (h : newOf L d = some L') : ∃ rest : List BoxV, (∀ x ∈ rest, x.f0 ≠ d.b.f0) ∧
    ((L.Perm rest ∧ L'.Perm (d.b :: rest)) ∨ (∃ a, a.f0 = d.b.f0 ∧ L.Perm (a :: rest) ∧ (L'.Perm rest ∨ L'.Perm (d.b :: rest)))) := by
  unfold newOf at h
  cases hf : findF L d.b.f0 with
  | none =>
    rw [hf] at h
    simp only at h
    split at h
    · injection h with h
      subst h
      exact ⟨L, fun x hx => findF_none.1 hf x hx, .inl ⟨List.Perm.refl _, List.perm_append_singleton _ _⟩⟩
    · cases h
  | some i =>
    rw [hf] at h
    obtain ⟨hi, hie, _⟩ := findF_some hf
    have hp := take_drop_perm L i hi
    have hr : ∀ x ∈ L.take i ++ L.drop (i + 1), x.f0 ≠ d.b.f0 := by
      have := distB_perm hp hL
      intro x hx e
      exact (List.pairwise_cons.1 this).1 x hx (hie.trans e.symm)
    simp only at h
    split at h
    · injection h with h
      subst h
      exact ⟨_, hr, .inr ⟨L[i], hie, hp, .inl (List.Perm.refl _)⟩⟩
    · split at h
      · injection h with h
        subst h
        exact ⟨_, hr, .inr ⟨L[i], hie, hp, .inr (set_perm L i hi d.b)⟩⟩
      · cases h
theorem newOf_other {L L' : List BoxV} {d : DiffV} (hL : DistB L) (h : newOf L d = some L') : DistB L' ∧ ∀ id, id ≠ d.b.f0 → L'.find? (isF id) = L.find? (isF id) := by
  obtain ⟨rest, hr, hc⟩ := newOf_parts hL h
  have hdr : DistB rest := by
    rcases hc with ⟨p, _⟩ | ⟨a, _, p, _⟩
    · exact distB_perm p hL
    · exact (List.pairwise_cons.1 (distB_perm p hL)).2
  have hdc : DistB (d.b :: rest) := List.pairwise_cons.2 ⟨fun x hx e => hr x hx e.symm, hdr⟩
  have hL' : DistB L' := by
    rcases hc with ⟨_, p⟩ | ⟨a, _, _, p | p⟩
    · exact distB_perm p.symm hdc
    · exact distB_perm p.symm hdr
    · exact distB_perm p.symm hdc
  refine ⟨hL', fun id hid => ?_⟩
  have e1 : L.find? (isF id) = rest.find? (isF id) := by
    rcases hc with ⟨p, _⟩ | ⟨a, ha, p, _⟩
    · exact find_perm p hL id
    · rw [find_perm p hL id, find_cons_ne (by rw [ha]; exact fun e => hid e.symm)]
  have e2 : L'.find? (isF id) = rest.find? (isF id) := by
    rcases hc with ⟨_, p⟩ | ⟨a, _, _, p | p⟩
    · rw [find_perm p hL' id, find_cons_ne (fun e => hid e.symm)]
    · exact find_perm p hL' id
    · rw [find_perm p hL' id, find_cons_ne (fun e => hid e.symm)]
  rw [e1, e2]
theorem boxesOk_dist {zs : List BoxV} (h : boxesOk zs = true) : DistB zs := (boxesOk_iff.1 h).2.1
/-- what was applied touches no other id -/
theorem applyGo_other {ds : List DiffV} : ∀ {L L' : List BoxV}, boxesOk L = true → applyGo L ds = some L' → ∀ id, (∀ d ∈ ds, d.b.f0 ≠ id) → L'.find? (isF id) = L.find? (isF id) := by
  induction ds with
  | nil => intro L L' _ h id _; simp only [applyGo, Option.some.injEq] at h; rw [h]
  | cons d r ih =>
    intro L L' hL h id hid
    simp only [applyGo] at h
    cases hs : step1 L d with
    | none => rw [hs] at h; cases h
    | some M =>
      rw [hs] at h
      unfold step1 at hs
      cases hn : newOf L d with
      | none => rw [hn] at hs; cases hs
      | some N =>
        rw [hn] at hs
        simp only at hs
        split at hs
        · next hok =>
          injection hs with hs
          subst hs
          rw [ih hok h id (fun x hx => hid x (List.mem_cons_of_mem _ hx)), (newOf_other (boxesOk_dist hL) hn).2 id (fun e => hid d (List.mem_cons_self ..) e.symm)]
        · cases hs
theorem collD_at {told seen : List BoxV} {d : DiffV} (h : d ∈ collD told seen) : diffAt told seen d.b.f0 = some d := by
  unfold collD at h
  obtain ⟨i, _, hd⟩ := coll_mem.1 h
  rw [diffAt_id hd]
  exact hd
theorem diffAt_same {told seen : List BoxV} {id : Int} (h : told.find? (isF id) = seen.find? (isF id)) : diffAt told seen id = none := by
  unfold diffAt
  rw [h]
  cases seen.find? (isF id) <;> simp
theorem diffAt_none {told seen : List BoxV} {id : Int} (h : diffAt told seen id = none) : told.find? (isF id) = seen.find? (isF id) := by
  unfold diffAt at h
  split at h
  · cases h
  · cases h
  · next a b h1 h2 =>
    split at h
    · next e => rw [h1, h2, e]
    · cases h
  · next h1 h2 => rw [h1, h2]
/-- there are no more differences than were applied -/
theorem back_len {told : List BoxV} {ds : List DiffV} {L : List BoxV} (ht : boxesOk told = true) (h : applyGo told ds = some L) : (diffsB told (collB L)).length ≤ ds.length := by
  have hL := applyGo_ok ht h
  have hC := collB_ok hL
  unfold diffsB
  rw [ht, hC]
  show (collD told (collB L)).length ≤ ds.length
  have h1 : ((collD told (collB L)).map (fun d => d.b.f0)).Nodup := by
    unfold List.Nodup
    rw [List.pairwise_map]
    exact (collD_asc told (collB L)).imp (fun h e => by omega)
  have h2 := sub_len (b := ds.map (fun d => d.b.f0)) h1 (fun x hx => by
    obtain ⟨d, hd, rfl⟩ := List.mem_map.1 hx
    have hda := collD_at hd
    apply Classical.byContradiction
    intro hn
    have hn2 : ∀ e ∈ ds, e.b.f0 ≠ d.b.f0 := fun e he h' => hn (List.mem_map.2 ⟨e, he, h'⟩)
    have e1 := applyGo_other ht h d.b.f0 hn2
    have e2 := find_perm (collB_perm hL) (boxesOk_dist hC) d.b.f0
    rw [diffAt_same (by rw [e2, e1])] at hda
    cases hda)
  simpa using h2
/-- how many ids both have together -/
def unionN (told seen : List BoxV) : Nat := seen.length + (told.filter (fun b => !hasF seen b.f0)).length
theorem union_le {told seen L : List BoxV} (hL : DistB L) (h : ∀ x ∈ L, (∃ y ∈ told, y.f0 = x.f0) ∨ (∃ y ∈ seen, y.f0 = x.f0)) : L.length ≤ unionN told seen := by
  have := sub_len (b := seen.map BoxV.f0 ++ (told.filter (fun b => !hasF seen b.f0)).map BoxV.f0) (distB_ids hL) (fun x hx => by
    obtain ⟨b, hb, rfl⟩ := List.mem_map.1 hx
    rw [List.mem_append]
    by_cases hs : hasF seen b.f0 = true
    · obtain ⟨y, hy, e⟩ := hasF_iff.1 hs
      exact .inl (List.mem_map.2 ⟨y, hy, e⟩)
    · rcases h b hb with ⟨y, hy, e⟩ | ⟨y, hy, e⟩
      · refine .inr (List.mem_map.2 ⟨y, List.mem_filter.2 ⟨hy, ?_⟩, e⟩)
        rw [e]
        simpa using hs
      · exact absurd (hasF_iff.2 ⟨y, hy, e⟩) hs)
  simpa [unionN] using this
/-- as told, but for the ids in T as seen -/
def mixB (told seen : List BoxV) (T : List Int) (id : Int) : Option BoxV := if id ∈ T then seen.find? (isF id) else told.find? (isF id)
theorem mix_mem {told seen L : List BoxV} {T : List Int} (hL : DistB L) (h : ∀ id, L.find? (isF id) = mixB told seen T id) {x : BoxV} (hx : x ∈ L) : x ∈ told ∨ x ∈ seen := by
  have h1 := (find_mem hL).2 ⟨hx, rfl⟩
  rw [h x.f0] at h1
  unfold mixB at h1
  split at h1
  · exact .inr (List.mem_of_find?_eq_some h1)
  · exact .inl (List.mem_of_find?_eq_some h1)
/-- one difference applied -/
theorem mix_step {told seen L : List BoxV} {T : List Int} {d : DiffV} (hL : boxesOk L = true) (h : ∀ id, L.find? (isF id) = mixB told seen T id) (hd : diffAt told seen d.b.f0 = some d) (hT : d.b.f0 ∉ T) :
    ∃ L', newOf L d = some L' ∧ DistB L' ∧ ∀ id, L'.find? (isF id) = mixB told seen (d.b.f0 :: T) id := by
  have hLd := boxesOk_dist hL
  have h0 := h d.b.f0
  unfold mixB at h0
  rw [if_neg hT] at h0
  have fin : ∀ L', newOf L d = some L' → L'.find? (isF d.b.f0) = seen.find? (isF d.b.f0) → ∃ L', newOf L d = some L' ∧ DistB L' ∧ ∀ id, L'.find? (isF id) = mixB told seen (d.b.f0 :: T) id := by
    intro L' hn hf
    obtain ⟨q1, q2⟩ := newOf_other hLd hn
    refine ⟨L', hn, q1, fun id => ?_⟩
    by_cases hid : id = d.b.f0
    · subst hid
      unfold mixB
      rw [if_pos (List.mem_cons_self ..)]
      exact hf
    · rw [q2 id hid, h id]
      unfold mixB
      simp [hid]
  unfold diffAt at hd
  cases ht : told.find? (isF d.b.f0) with
  | none =>
    rw [ht] at hd h0
    have hfn := findF_find.2 h0
    cases hs : seen.find? (isF d.b.f0) with
    | none => rw [hs] at hd; cases hd
    | some b =>
      rw [hs] at hd
      simp only [Option.some.injEq] at hd
      have hk : d.k = 1 := by rw [← hd]
      have hb : d.b = b := by rw [← hd]
      have hn := newOf_add (now := L) hfn hk
      refine fin _ hn ?_
      have hp : (L ++ [d.b]).Perm (d.b :: L) := List.perm_append_singleton _ _
      rw [find_perm hp (newOf_other hLd hn).1, find_cons_eq, hs, hb]
  | some a =>
    rw [ht] at hd h0
    obtain ⟨i, hfi⟩ : ∃ i, findF L d.b.f0 = some i := by
      cases hh : findF L d.b.f0 with
      | none => rw [findF_find.1 hh] at h0; cases h0
      | some i => exact ⟨i, rfl⟩
    obtain ⟨hi, hie, hif⟩ := findF_some hfi
    have hLi : L[i] = a := by rw [hif] at h0; injection h0
    have hp := take_drop_perm L i hi
    have hrd := (List.pairwise_cons.1 (distB_perm hp hLd))
    cases hs : seen.find? (isF d.b.f0) with
    | none =>
      rw [hs] at hd
      simp only [Option.some.injEq] at hd
      have hk : d.k = 0 := by rw [← hd]
      have hb : d.b = a := by rw [← hd]
      have hn := newOf_del hfi hi hk (by rw [hLi, hb])
      refine fin _ hn ?_
      rw [hs]
      exact find_none.2 (fun x hx e => hrd.1 x hx (hie.trans e.symm))
    | some b =>
      rw [hs] at hd
      simp only at hd
      split at hd
      · cases hd
      · next hab =>
        simp only [Option.some.injEq] at hd
        have hk : d.k = 2 := by rw [← hd]
        have hb : d.b = b := by rw [← hd]
        have hn := newOf_set hfi hi hk (by rw [hLi, hb]; exact hab)
        refine fin _ hn ?_
        rw [find_perm (set_perm L i hi d.b) (newOf_other hLd hn).1, find_cons_eq, hs, hb]
theorem diff_run {told seen : List BoxV} (ht : boxesOk told = true) (hs : boxesOk seen = true) {ds : List DiffV} : ∀ {L : List BoxV} {T : List Int}, boxesOk L = true → (∀ id, L.find? (isF id) = mixB told seen T id) →
    (∀ d ∈ ds, diffAt told seen d.b.f0 = some d ∧ d.b.f0 ∉ T) → ds.Pairwise (fun x y => x.b.f0 < y.b.f0) →
    (applyGo L ds = none ∧ 10 < unionN told seen) ∨ ∃ L' T', applyGo L ds = some L' ∧ boxesOk L' = true ∧ (∀ id, L'.find? (isF id) = mixB told seen T' id) ∧ (∀ d ∈ ds, d.b.f0 ∈ T') ∧ ∀ id ∈ T, id ∈ T' := by
  induction ds with
  | nil => intro L T hL h _ _; exact .inr ⟨L, T, rfl, hL, h, by simp, fun id h => h⟩
  | cons d r ih =>
    intro L T hL h hd hp
    obtain ⟨p1, p2⟩ := List.pairwise_cons.1 hp
    obtain ⟨d1, d2⟩ := hd d (List.mem_cons_self ..)
    obtain ⟨M, hM, hMd, hMf⟩ := mix_step hL h d1 d2
    have hmem : ∀ x ∈ M, x ∈ told ∨ x ∈ seen := fun x hx => mix_mem hMd hMf hx
    cases hok : boxesOk M with
    | false =>
      refine .inl ⟨by simp [applyGo, step1, hM, hok], ?_⟩
      have hle := union_le (told := told) (seen := seen) hMd (fun x hx => (hmem x hx).elim (fun h => .inl ⟨x, h, rfl⟩) (fun h => .inr ⟨x, h, rfl⟩))
      apply Classical.byContradiction
      intro hn
      have : boxesOk M = true := boxesOk_iff.2 ⟨fun x hx => (hmem x hx).elim ((boxesOk_iff.1 ht).1 x) ((boxesOk_iff.1 hs).1 x), hMd, by omega⟩
      rw [hok] at this
      cases this
    | true =>
      have e : applyGo L (d :: r) = applyGo M r := by simp [applyGo, step1, hM, hok]
      rw [e]
      rcases ih hok hMf (fun x hx => ⟨(hd x (List.mem_cons_of_mem _ hx)).1, fun hm => by
        rcases List.mem_cons.1 hm with e | hm
        · have := p1 x hx; omega
        · exact (hd x (List.mem_cons_of_mem _ hx)).2 hm⟩) p2 with hl | ⟨L', T', q1, q2, q3, q4, q5⟩
      · exact .inl hl
      · refine .inr ⟨L', T', q1, q2, q3, fun x hx => ?_, fun id hid => q5 id (List.mem_cons_of_mem _ hid)⟩
        rcases List.mem_cons.1 hx with rfl | hx
        · exact q5 _ (List.mem_cons_self ..)
        · exact q4 x hx
theorem find_range {zs : List BoxV} (h : boxesOk zs = true) {id : Int} (hid : id < 1 ∨ 999 < id) : zs.find? (isF id) = none := by
  refine find_none.2 (fun x hx e => ?_)
  have := bOk_id ((boxesOk_iff.1 h).1 x hx)
  omega
theorem coll_congr {α : Type} {f g : Int → Option α} (h : ∀ id, 1 ≤ id → id ≤ 999 → f id = g id) : coll f 999 = coll g 999 := by
  have : ∀ k, k ≤ 999 → coll f k = coll g k := by
    intro k
    induction k with
    | zero => intro _; rfl
    | succ k ih => intro hk; rw [coll_succ, coll_succ, ih (by omega), h _ (by omega) (by omega)]
  exact this 999 (Nat.le_refl _)
theorem find_of_collD {told seen : List BoxV} {id : Int} (h1 : 1 ≤ id) (h2 : id ≤ 999) (h : ∀ d ∈ collD told seen, d.b.f0 ≠ id) : told.find? (isF id) = seen.find? (isF id) := by
  cases hd : diffAt told seen id with
  | none => exact diffAt_none hd
  | some d =>
    exfalso
    have he := diffAt_id hd
    refine h d ?_ he
    unfold collD
    exact coll_mem.2 ⟨(id - 1).toNat, by omega, by rw [show (((id - 1).toNat : Nat) : Int) + 1 = id from by omega]; exact hd⟩
/-- the differences lead to what was seen, or there are too many ids -/
theorem diffs_lead {told seen : List BoxV} (ht : boxesOk told = true) (hs : boxesOk seen = true) : (applyB told (diffsB told seen) = ([], false) ∧ 10 < unionN told seen) ∨ applyB told (diffsB told seen) = (collB seen, true) := by
  have hD : diffsB told seen = collD told seen := by unfold diffsB; rw [ht, hs]; rfl
  rw [hD]
  rcases diff_run ht hs (ds := collD told seen) (L := told) (T := []) ht (fun id => by unfold mixB; simp) (fun d hd => ⟨collD_at hd, by simp⟩) (collD_asc told seen) with ⟨e, hu⟩ | ⟨L', T', e, hok, hf, hT, _⟩
  · exact .inl ⟨applyB_none e, hu⟩
  · refine .inr ?_
    rw [applyB_some ht e]
    have : collB L' = collB seen := by
      unfold collB
      refine coll_congr (fun id h1 h2 => ?_)
      rw [hf id]
      unfold mixB
      split
      · rfl
      · next hid => exact find_of_collD h1 h2 (fun d hd e => hid (e ▸ hT d hd))
    rw [this]
theorem diffs_none {told seen : List BoxV} (ht : boxesOk told = true) (hs : boxesOk seen = true) : (diffsB told seen = []) ↔ sortB told = sortB seen := by
  have hD : diffsB told seen = collD told seen := by unfold diffsB; rw [ht, hs]; rfl
  have h1 : sortB told = collB told := by unfold sortB; rw [if_pos ht]
  have h2 : sortB seen = collB seen := by unfold sortB; rw [if_pos hs]
  rw [hD, h1, h2]
  constructor
  · intro h
    unfold collB
    exact coll_congr (fun id q1 q2 => find_of_collD q1 q2 (by rw [h]; simp))
  · intro h
    apply List.eq_nil_iff_forall_not_mem.2
    intro d hd
    have hda := collD_at hd
    have e1 := find_perm (collB_perm ht) (boxesOk_dist (collB_ok ht)) d.b.f0
    have e2 := find_perm (collB_perm hs) (boxesOk_dist (collB_ok hs)) d.b.f0
    rw [diffAt_same (by rw [← e1, ← e2, h])] at hda
    cases hda
theorem applyB_ok {told x : List BoxV} {ds : List DiffV} (h : applyB told ds = (x, true)) : ∃ L, boxesOk told = true ∧ applyGo told ds = some L ∧ x = collB L ∧ boxesOk x = true ∧ sortB x = x ∧ (diffsB told x).length ≤ ds.length := by
  unfold applyB at h
  split at h
  · next ht =>
    cases e : applyGo told ds with
    | none => rw [e] at h; simp at h
    | some L =>
      rw [e] at h
      simp only [Prod.mk.injEq, and_true] at h
      have hL := applyGo_ok ht e
      subst h
      exact ⟨L, ht, rfl, rfl, collB_ok hL, by unfold sortB; rw [if_pos (collB_ok hL), collB_idem hL], back_len ht e⟩
  · simp at h
theorem applyB_bad {told x : List BoxV} {ds : List DiffV} (h : applyB told ds = (x, false)) : x = [] := by
  unfold applyB at h
  split at h
  · cases e : applyGo told ds with
    | none => rw [e] at h; simp at h; exact h
    | some L => rw [e] at h; simp at h
  · simp at h; exact h
end Go.Proofs.Ytbhnlooellgfaaa
