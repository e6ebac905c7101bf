/- Rows of rows of the call's own: each row in a block of its own. -/
import Derived.Test.YtcdjgbechigepaaDoorRR
import Derived.Test.YtcdjgbechigepaaDoorOut
namespace Go.Proofs.YtcdjgbechigepaaDoor
open Go Go.ChangeShapes Go.WideShapes Go.ChangeAt Go.RowKit
/-- outer row and inner rows lie in blocks lo to hi, each in a block of its own -/
def OwnRR (w : World) (lo hi : Nat) (te ti : TypeId) (v : Value) (xss : List (List Value)) : Prop :=
  ∃ hs : List Value, OwnI w lo hi te 1 v xss.length hs ∧
    (∀ i (h : i < xss.length), ∃ u, hs[i]? = some u ∧ OwnI w lo hi ti 1 u (xss[i]).length xss[i] ∧ (∀ g, u.ownBlock = some g → v.ownBlock ≠ some g)) ∧
    (∀ (i j : Nat) (u u' : Value) (g : Nat), i < j → hs[i]? = some u → hs[j]? = some u' → u.ownBlock = some g → u'.ownBlock ≠ some g)
theorem OwnRR.len {w : World} {lo hi : Nat} {te ti : TypeId} {v : Value} {xss : List (List Value)} (h : OwnRR w lo hi te ti v xss) : ∃ A c, v = .slice A xss.length c ∧ xss.length ≤ c ∧ c ≤ maxLen := by
  obtain ⟨hs, h1, _⟩ := h
  exact own_slice h1.row
theorem OwnRR.out {w w' : World} {lo hi lo' hi' : Nat} {te ti : TypeId} {v : Value} {xss : List (List Value)} (h : OwnRR w lo hi te ti v xss) (ho : Out lo' hi' w w') (hd : hi ≤ lo' ∨ hi' ≤ lo) : OwnRR w' lo hi te ti v xss := by
  obtain ⟨hs, h1, h2, h3⟩ := h
  refine ⟨hs, h1.out ho hd, fun i hi => ?_, h3⟩
  obtain ⟨u, e, hu, hne⟩ := h2 i hi
  exact ⟨u, e, hu.out ho hd, hne⟩
theorem OwnRR.later {w w' : World} {lo hi : Nat} {te ti : TypeId} {v : Value} {xss : List (List Value)} (h : OwnRR w lo hi te ti v xss) (hb : Below w.heap.size w w') : OwnRR w' lo hi te ti v xss :=
  h.out (Below.out hb lo lo) (.inr (Nat.le_refl _))
theorem OwnRR.rd {w : World} {lo hi n c : Nat} {te ti : TypeId} {A : Option Addr} {xss : List (List Value)} (h : OwnRR w lo hi te ti (.slice A n c) xss) : RdRR w A xss := by
  obtain ⟨hs, h1, h2, _⟩ := h
  obtain ⟨A', c', e, _, _⟩ := own_slice h1.row
  injection e with e1 e2 e3
  subst e1 e2
  have hl := h1.row.1
  rw [Nat.mul_one] at hl
  refine ⟨hs, hl, h1.rd, fun i hi => ?_⟩
  obtain ⟨u, e, hu, _⟩ := h2 i hi
  obtain ⟨B, c2, rfl, hc1, hc2⟩ := own_slice hu.row
  exact ⟨B, c2, e, hc1, hc2, hu.rd⟩
theorem OwnRR.base {w : World} {lo hi lo' : Nat} {te ti : TypeId} {v : Value} {xss : List (List Value)} (h : OwnRR w lo hi te ti v xss) (hb : lo' ≤ lo) : OwnRR w lo' hi te ti v xss := by
  obtain ⟨hs, h1, h2, h3⟩ := h
  refine ⟨hs, ⟨own_base h1.row hb, h1.lt, h1.top⟩, fun i hi => ?_, h3⟩
  obtain ⟨u, e, hu, hne⟩ := h2 i hi
  exact ⟨u, e, ⟨own_base hu.row hb, hu.lt, hu.top⟩, hne⟩
/-- what the inner row i is, and what turning it leaves -/
theorem OwnRR.row {w : World} {lo hi : Nat} {te ti : TypeId} {v : Value} {xss : List (List Value)} (h : OwnRR w lo hi te ti v xss) {i : Nat} (hi' : i < xss.length) :
    ∃ A c B c', v = .slice A xss.length c ∧ OwnI w lo hi ti 1 (.slice B (xss[i]).length c') (xss[i]).length xss[i] ∧ (∃ b, A = some ⟨b, 0, none⟩ ∧ b < w.heap.size ∧ w.cell? ⟨b, i, none⟩ = some (.slice B (xss[i]).length c') ∧ w.frozen? ⟨b, i, none⟩ = false) ∧
      ∀ (w' : World) (ys : List Value), ys.length = (xss[i]).length → w'.ownsRow lo ti 1 (.slice B (xss[i]).length c') (xss[i]).length ys → w.grownBy w' (Value.ownBlock (.slice B (xss[i]).length c')) → OwnRR w' lo hi te ti v (xss.set i ys) ∧ Out lo hi w w' := by
  obtain ⟨hs, h1, h2, h3⟩ := h
  obtain ⟨u, eu, hu, hne⟩ := h2 i hi'
  obtain ⟨B, c', rfl, _, _⟩ := own_slice hu.row
  have hl := h1.row.1
  rw [Nat.mul_one] at hl
  rcases own_form h1.row with ⟨_, h0, _⟩ | ⟨g, c, rfl, hg1, hg2, hg3⟩
  · omega
  refine ⟨_, _, B, c', rfl, hu, ⟨g, rfl, hg2, ?_, ?_⟩, fun w' ys hys hown hgr => ?_⟩
  · rw [h1.row.cellAt i (by omega)]
    exact eu
  · exact h1.row.frozenAt i
  · have ho : Out lo hi w w' := out_of_grown hgr (fun g e => ⟨(hu.row.lt g e).1, hu.lt g e⟩)
    refine ⟨⟨hs, ⟨?_, h1.lt, Nat.le_trans h1.top hgr.size⟩, fun j hj => ?_, h3⟩, ho⟩
    · rw [List.length_set]
      refine h1.row.kept hgr ?_
      cases hub : Value.ownBlock (.slice B (xss[i]).length c') with
      | none => right; simp [Value.ownBlock]
      | some g' => right; exact hne g' hub
    · rw [List.length_set] at hj
      by_cases hij : i = j
      · subst hij
        rw [List.getElem_set_self]
        refine ⟨_, eu, ⟨by rw [hys]; exact hown, hu.lt, Nat.le_trans hu.top hgr.size⟩, hne⟩
      · rw [List.getElem_set_ne hij]
        obtain ⟨u2, e2, hu2, hne2⟩ := h2 j hj
        refine ⟨u2, e2, ⟨hu2.row.kept hgr ?_, hu2.lt, Nat.le_trans hu2.top hgr.size⟩, hne2⟩
        cases hub2 : u2.ownBlock with
        | none => exact .inl rfl
        | some g' =>
          right
          intro e
          rcases Nat.lt_or_gt_of_ne hij with hlt | hgt
          · exact h3 i j _ _ g' hlt eu e2 e.symm hub2
          · exact h3 j i _ _ g' hgt e2 eu hub2 e.symm
/-- behind a call: what was there ahead reads as before (two rules for the walk) -/
theorem bcell {W w1 : World} (hb : Below W.heap.size W w1) : (∀ b o, b < W.heap.size → w1.cell? ⟨b, o, none⟩ = W.cell? ⟨b, o, none⟩) ∧ (∀ b o, b < W.heap.size → w1.frozen? ⟨b, o, none⟩ = W.frozen? ⟨b, o, none⟩) :=
  ⟨fun b o h => hb.cell (p := ⟨b, o, none⟩) h, fun b o h => hb.frozen (p := ⟨b, o, none⟩) h⟩
theorem out_set {lo hi : Nat} {w0 w : World} (h : Out lo hi w0 w) (b i : Nat) (v : Value) (h1 : lo ≤ b) (h2 : b < hi) : Out lo hi w0 (w.setCell ⟨b, i, none⟩ v) :=
  h.trans ⟨rfl, rfl, rfl, by simp [World.setCell], fun k _ hn => Below.heap_setCell w ⟨b, i, none⟩ v k (by show k ≠ b; omega)⟩
theorem OwnRR.hi {w : World} {lo hi hi' : Nat} {te ti : TypeId} {v : Value} {xss : List (List Value)} (h : OwnRR w lo hi te ti v xss) (h1 : hi ≤ hi') (h2 : hi' ≤ w.heap.size) : OwnRR w lo hi' te ti v xss := by
  obtain ⟨hs, a, b, c⟩ := h
  refine ⟨hs, ⟨a.row, fun g e => Nat.lt_of_lt_of_le (a.lt g e) h1, h2⟩, fun i hi => ?_, c⟩
  obtain ⟨u, e, hu, hne⟩ := b i hi
  exact ⟨u, e, ⟨hu.row, fun g e => Nat.lt_of_lt_of_le (hu.lt g e) h1, h2⟩, hne⟩
/-- inner rows that were made one after the other behind block g0 -/
def FreshRows (w : World) (g0 : Nat) (ti : TypeId) (hs : List Value) (xss : List (List Value)) : Prop :=
  hs.length = xss.length ∧ ∀ i (h : i < xss.length), (xss[i]).length ≤ maxLen ∧ ∃ g, hs[i]? = some (.slice (some ⟨g, 0, none⟩) (xss[i]).length (xss[i]).length) ∧ g0 < g ∧ Blk w g ti xss[i] ∧ ∀ j u g', j < i → hs[j]? = some u → u.ownBlock = some g' → g' < g
theorem FreshRows.nil_ (w : World) (g0 : Nat) (ti : TypeId) : FreshRows w g0 ti [] [] := ⟨rfl, fun i h => by simp at h⟩
theorem FreshRows.later {w w' : World} {g0 : Nat} {ti : TypeId} {hs : List Value} {xss : List (List Value)} (h : FreshRows w g0 ti hs xss) (hb : Below w.heap.size w w') : FreshRows w' g0 ti hs xss := by
  refine ⟨h.1, fun i hi => ?_⟩
  obtain ⟨hm, g, e, hg, hblk, hj⟩ := h.2 i hi
  exact ⟨hm, g, e, hg, hblk.later hb, hj⟩
theorem FreshRows.far {w : World} {g0 : Nat} {ti : TypeId} {hs : List Value} {xss : List (List Value)} (h : FreshRows w g0 ti hs xss) (i : Nat) (v : Value) : FreshRows (w.setCell ⟨g0, i, none⟩ v) g0 ti hs xss := by
  refine ⟨h.1, fun j hj => ?_⟩
  obtain ⟨hm, g, e, hg, hblk, hk⟩ := h.2 j hj
  exact ⟨hm, g, e, hg, hblk.far (by show g ≠ g0; omega) v, hk⟩
theorem FreshRows.lt {w : World} {g0 : Nat} {ti : TypeId} {hs : List Value} {xss : List (List Value)} (h : FreshRows w g0 ti hs xss) {j : Nat} {u : Value} {g : Nat} (hj : hs[j]? = some u) (hg : u.ownBlock = some g) : g < w.heap.size := by
  have hjl : j < xss.length := by rw [← h.1]; exact (List.getElem?_eq_some_iff.1 hj).1
  obtain ⟨_, g', e, _, hblk, _⟩ := h.2 j hjl
  rw [hj] at e
  injection e with e
  rw [e] at hg
  simp [Value.ownBlock] at hg
  subst hg
  exact hblk.lt
theorem FreshRows.snoc {w w' : World} {g0 : Nat} {ti : TypeId} {hs : List Value} {xss : List (List Value)} {ys : List Value} (h : FreshRows w g0 ti hs xss) (hb : Below w.heap.size w w') (hg0 : g0 < w.heap.size) (hy : Blk w' w.heap.size ti ys) (hm : ys.length ≤ maxLen) :
    FreshRows w' g0 ti (hs ++ [.slice (some ⟨w.heap.size, 0, none⟩) ys.length ys.length]) (xss ++ [ys]) := by
  have hl := h.1
  refine ⟨by simp [h.1], fun i hi => ?_⟩
  rw [List.length_append, List.length_singleton] at hi
  by_cases hlt : i < xss.length
  · obtain ⟨hm, g, e, hg, hblk, hj⟩ := h.2 i hlt
    rw [List.getElem_append_left hlt]
    refine ⟨hm, g, ?_, hg, hblk.later hb, fun j u g' hji hu hg' => ?_⟩
    · rw [List.getElem?_append_left (by omega)]; exact e
    · rw [List.getElem?_append_left (by omega)] at hu
      exact hj j u g' hji hu hg'
  · obtain rfl : i = xss.length := by omega
    have e1 : (xss ++ [ys])[xss.length]'(by simp) = ys := by simp
    rw [e1]
    refine ⟨hm, w.heap.size, ?_, hg0, hy, fun j u g' hji hu hg' => ?_⟩
    · rw [List.getElem?_append_right (by omega), hl, Nat.sub_self]; rfl
    · rw [List.getElem?_append_left (by omega)] at hu
      exact h.lt hu hg'
theorem own_of_fresh {w : World} {g0 : Nat} {te ti : TypeId} {hs : List Value} {xss : List (List Value)} (h : FreshRows w g0 ti hs xss) (hb : Blk w g0 te hs) (hm : xss.length ≤ maxLen) :
    OwnRR w g0 w.heap.size te ti (.slice (some ⟨g0, 0, none⟩) xss.length xss.length) xss := by
  refine ⟨hs, blk_ownI hb (Nat.le_refl _) (by rw [h.1, Nat.mul_one]) hm, fun i hi => ?_, fun i j u u' g hij hu hu' hg e => ?_⟩
  · obtain ⟨hm2, g, e, hg, hblk, _⟩ := h.2 i hi
    refine ⟨_, e, blk_ownI hblk (by omega) (by rw [Nat.mul_one]) hm2, fun g' hg' => ?_⟩
    simp [Value.ownBlock] at hg' ⊢
    omega
  · have hj : j < xss.length := by rw [← h.1]; exact (List.getElem?_eq_some_iff.1 hu').1
    obtain ⟨_, g2, e2, _, _, hk⟩ := h.2 j hj
    have := hk i u g hij hu hg
    rw [hu'] at e2
    injection e2 with e2
    rw [e2] at e
    simp [Value.ownBlock] at e
    omega
theorem OwnRR.set_far {w : World} {lo hi : Nat} {te ti : TypeId} {v : Value} {xss : List (List Value)} (h : OwnRR w lo hi te ti v xss) (b i : Nat) (u : Value) (hb : b < lo) (ht : hi ≤ w.heap.size) : OwnRR (w.setCell ⟨b, i, none⟩ u) lo (w.setCell ⟨b, i, none⟩ u).heap.size te ti v xss :=
  (h.out (out_set (Out.refl b (b + 1) w) b i u (Nat.le_refl _) (by omega)) (.inr (by omega))).hi (by simp [World.setCell]; exact ht) (Nat.le_refl _)
/-- behind append(rows, row): the new row's block lies behind all others (from hi on) -/
theorem own_snoc {w w' : World} {lo hi : Nat} {te ti : TypeId} {v v' u : Value} {xss : List (List Value)} {ys hs : List Value} (h1 : OwnI w lo hi te 1 v xss.length hs)
    (h2 : ∀ i (h : i < xss.length), ∃ u, hs[i]? = some u ∧ OwnI w lo hi ti 1 u (xss[i]).length xss[i] ∧ (∀ g, u.ownBlock = some g → v.ownBlock ≠ some g))
    (h3 : ∀ (i j : Nat) (u u' : Value) (g : Nat), i < j → hs[i]? = some u → hs[j]? = some u' → u.ownBlock = some g → u'.ownBlock ≠ some g)
    (hu : w.ownsRow lo ti 1 u ys.length ys) (hge : ∀ g, u.ownBlock = some g → hi ≤ g)
    (hown : w'.ownsRow lo te 1 v' (xss.length + 1) (hs ++ [u])) (hg : w.grownBy w' v.ownBlock) (hb : v'.ownBlock = v.ownBlock ∨ v'.ownBlock = some (w.heap.size + 1)) :
    OwnRR w' lo w'.heap.size te ti v' (xss ++ [ys]) := by
  have hl := h1.row.1
  rw [Nat.mul_one] at hl
  have hvu : ∀ g, u.ownBlock = some g → v.ownBlock ≠ some g := fun g e e2 => by have := hge g e; have := h1.lt g e2; omega
  refine ⟨hs ++ [u], ⟨by rw [List.length_append]; exact hown, fun g e => (hown.lt g e).2, Nat.le_refl _⟩, fun i hi' => ?_, fun i j a b g hij ha hb' hga => ?_⟩
  · rw [List.length_append, List.length_singleton] at hi'
    by_cases hlt : i < xss.length
    · obtain ⟨a, ea, ha, hne⟩ := h2 i hlt
      rw [List.getElem_append_left hlt]
      refine ⟨a, by rw [List.getElem?_append_left (by omega)]; exact ea, ⟨ha.row.kept hg ?_, fun g e => Nat.lt_of_lt_of_le (ha.lt g e) (Nat.le_trans ha.top hg.size), Nat.le_refl _⟩, fun g e => ?_⟩
      · cases hab : a.ownBlock with
        | none => exact .inl rfl
        | some g => exact .inr fun e => hne g hab e.symm
      · rcases hb with h | h
        · rw [h]; exact hne g e
        · rw [h]
          have := ha.lt g e
          have := ha.top
          simp
          omega
    · obtain rfl : i = xss.length := by omega
      have e1 : (xss ++ [ys])[xss.length]'(by simp) = ys := by simp
      rw [e1]
      refine ⟨u, by rw [List.getElem?_append_right (by omega), hl, Nat.sub_self]; rfl, ⟨hu.kept hg ?_, fun g e => Nat.lt_of_lt_of_le (hu.lt g e).2 hg.size, Nat.le_refl _⟩, fun g e => ?_⟩
      · cases hab : u.ownBlock with
        | none => exact .inl rfl
        | some g => exact .inr fun e => hvu g hab e.symm
      · rcases hb with h | h
        · rw [h]; exact hvu g e
        · rw [h]
          have := (hu.lt g e).2
          simp
          omega
  · by_cases hjl : j < xss.length
    · rw [List.getElem?_append_left (by omega)] at ha
      rw [List.getElem?_append_left (by omega)] at hb'
      exact h3 i j a b g hij ha hb' hga
    · have hj2 : j < (hs ++ [u]).length := (List.getElem?_eq_some_iff.1 hb').1
      rw [List.length_append, List.length_singleton] at hj2
      obtain rfl : j = xss.length := by omega
      rw [List.getElem?_append_left (by omega)] at ha
      rw [List.getElem?_append_right (by omega), hl, Nat.sub_self] at hb'
      simp at hb'
      subst hb'
      intro e
      obtain ⟨a', ea, ha', _⟩ := h2 i (by omega)
      rw [ha] at ea
      injection ea with ea
      rw [← ea] at ha'
      have := ha'.lt g hga
      have := hge g e
      omega
theorem ownRR_nil {w : World} {lo hi g0 : Nat} {te ti : TypeId} (hb : Blk w g0 te []) (hlo : lo ≤ g0) (hhi : g0 < hi) (ht : hi ≤ w.heap.size) : OwnRR w lo hi te ti (.slice (some ⟨g0, 0, none⟩) 0 0) [] :=
  ⟨[], ⟨own_of_blk hb hlo rfl (by decide), fun g e => by simp [Value.ownBlock] at e; omega, ht⟩, fun i h => by simp at h, fun i j u u' g _ hi => by simp at hi⟩
theorem ownRR_none (w : World) (lo : Nat) (te ti : TypeId) : OwnRR w lo w.heap.size te ti (.slice none 0 0) [] :=
  ⟨[], ⟨World.ownsRow_nil _ _ _ _, fun g e => by simp [Value.ownBlock] at e, Nat.le_refl _⟩, fun i h => by simp at h, fun i j u u' g _ hi => by simp at hi⟩
end Go.Proofs.YtcdjgbechigepaaDoor
