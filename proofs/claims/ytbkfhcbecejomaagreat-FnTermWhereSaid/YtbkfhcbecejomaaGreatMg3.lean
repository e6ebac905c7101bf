/- Several texts of the proof in one; each says at its head what it proves; no condition. -/
import Derived.Test.YtbkfhcbecejomaaGreatMg2
import Derived.Test.YtbkfhcbecejomaaGreatMg1
import Derived.Deep.RegionHeld3
import Derived.Test.YtbkfhcbecejomaaGreatProg
import Derived.Deep.QuietTactic
import Derived.BigQuiet
import Derived.Deep.RegionLaw
section
/- Rows of rows of the call's own: each row in a block of its own. -/
namespace Go.Proofs.YtbkfhcbecejomaaGreat
open Go Go.ChangeShapes Go.WideShapes Go.ChangeAt Go.RowKit
/-- outer row and inner rows lie in blocks lo to hi, each in a block of its own -/
def OwnRR (w : World) (lo hi : Nat) (te ti : TypeId) (v : Value) (xss : List (List Value)) : Prop :=
  ∃ hs : List Value, OwnI w lo hi te 1 v xss.length hs ∧
    (∀ i (h : i < xss.length), ∃ u, hs[i]? = some u ∧ OwnI w lo hi ti 1 u (xss[i]).length xss[i] ∧ (∀ g, u.ownBlock = some g → v.ownBlock ≠ some g)) ∧
    (∀ (i j : Nat) (u u' : Value) (g : Nat), i < j → hs[i]? = some u → hs[j]? = some u' → u.ownBlock = some g → u'.ownBlock ≠ some g)
theorem OwnRR.len {w : World} {lo hi : Nat} {te ti : TypeId} {v : Value} {xss : List (List Value)} (h : OwnRR w lo hi te ti v xss) : ∃ A c, v = .slice A xss.length c ∧ xss.length ≤ c ∧ c ≤ maxLen := by
  obtain ⟨hs, h1, _⟩ := h
  exact own_slice h1.row
theorem OwnRR.out {w w' : World} {lo hi lo' hi' : Nat} {te ti : TypeId} {v : Value} {xss : List (List Value)} (h : OwnRR w lo hi te ti v xss) (ho : Out lo' hi' w w') (hd : hi ≤ lo' ∨ hi' ≤ lo) : OwnRR w' lo hi te ti v xss := by
  obtain ⟨hs, h1, h2, h3⟩ := h
  refine ⟨hs, h1.out ho hd, fun i hi => ?_, h3⟩
  obtain ⟨u, e, hu, hne⟩ := h2 i hi
  exact ⟨u, e, hu.out ho hd, hne⟩
theorem OwnRR.later {w w' : World} {lo hi : Nat} {te ti : TypeId} {v : Value} {xss : List (List Value)} (h : OwnRR w lo hi te ti v xss) (hb : Below w.heap.size w w') : OwnRR w' lo hi te ti v xss :=
  h.out (Below.out hb lo lo) (.inr (Nat.le_refl _))
theorem OwnRR.rd {w : World} {lo hi n c : Nat} {te ti : TypeId} {A : Option Addr} {xss : List (List Value)} (h : OwnRR w lo hi te ti (.slice A n c) xss) : RdRR w A xss := by
  obtain ⟨hs, h1, h2, _⟩ := h
  obtain ⟨A', c', e, _, _⟩ := own_slice h1.row
  injection e with e1 e2 e3
  subst e1 e2
  have hl := h1.row.1
  rw [Nat.mul_one] at hl
  refine ⟨hs, hl, h1.rd, fun i hi => ?_⟩
  obtain ⟨u, e, hu, _⟩ := h2 i hi
  obtain ⟨B, c2, rfl, hc1, hc2⟩ := own_slice hu.row
  exact ⟨B, c2, e, hc1, hc2, hu.rd⟩
theorem OwnRR.base {w : World} {lo hi lo' : Nat} {te ti : TypeId} {v : Value} {xss : List (List Value)} (h : OwnRR w lo hi te ti v xss) (hb : lo' ≤ lo) : OwnRR w lo' hi te ti v xss := by
  obtain ⟨hs, h1, h2, h3⟩ := h
  refine ⟨hs, ⟨own_base h1.row hb, h1.lt, h1.top⟩, fun i hi => ?_, h3⟩
  obtain ⟨u, e, hu, hne⟩ := h2 i hi
  exact ⟨u, e, ⟨own_base hu.row hb, hu.lt, hu.top⟩, hne⟩
/-- what the inner row i is, and what turning it leaves -/
theorem OwnRR.row {w : World} {lo hi : Nat} {te ti : TypeId} {v : Value} {xss : List (List Value)} (h : OwnRR w lo hi te ti v xss) {i : Nat} (hi' : i < xss.length) :
    ∃ A c B c', v = .slice A xss.length c ∧ OwnI w lo hi ti 1 (.slice B (xss[i]).length c') (xss[i]).length xss[i] ∧ (∃ b, A = some ⟨b, 0, none⟩ ∧ b < w.heap.size ∧ w.cell? ⟨b, i, none⟩ = some (.slice B (xss[i]).length c') ∧ w.frozen? ⟨b, i, none⟩ = false) ∧
      ∀ (w' : World) (ys : List Value), ys.length = (xss[i]).length → w'.ownsRow lo ti 1 (.slice B (xss[i]).length c') (xss[i]).length ys → w.grownBy w' (Value.ownBlock (.slice B (xss[i]).length c')) → OwnRR w' lo hi te ti v (xss.set i ys) ∧ Out lo hi w w' := by
  obtain ⟨hs, h1, h2, h3⟩ := h
  obtain ⟨u, eu, hu, hne⟩ := h2 i hi'
  obtain ⟨B, c', rfl, _, _⟩ := own_slice hu.row
  have hl := h1.row.1
  rw [Nat.mul_one] at hl
  rcases own_form h1.row with ⟨_, h0, _⟩ | ⟨g, c, rfl, hg1, hg2, hg3⟩
  · omega
  refine ⟨_, _, B, c', rfl, hu, ⟨g, rfl, hg2, ?_, ?_⟩, fun w' ys hys hown hgr => ?_⟩
  · rw [h1.row.cellAt i (by omega)]
    exact eu
  · exact h1.row.frozenAt i
  · have ho : Out lo hi w w' := out_of_grown hgr (fun g e => ⟨(hu.row.lt g e).1, hu.lt g e⟩)
    refine ⟨⟨hs, ⟨?_, h1.lt, Nat.le_trans h1.top hgr.size⟩, fun j hj => ?_, h3⟩, ho⟩
    · rw [List.length_set]
      refine h1.row.kept hgr ?_
      cases hub : Value.ownBlock (.slice B (xss[i]).length c') with
      | none => right; simp [Value.ownBlock]
      | some g' => right; exact hne g' hub
    · rw [List.length_set] at hj
      by_cases hij : i = j
      · subst hij
        rw [List.getElem_set_self]
        refine ⟨_, eu, ⟨by rw [hys]; exact hown, hu.lt, Nat.le_trans hu.top hgr.size⟩, hne⟩
      · rw [List.getElem_set_ne hij]
        obtain ⟨u2, e2, hu2, hne2⟩ := h2 j hj
        refine ⟨u2, e2, ⟨hu2.row.kept hgr ?_, hu2.lt, Nat.le_trans hu2.top hgr.size⟩, hne2⟩
        cases hub2 : u2.ownBlock with
        | none => exact .inl rfl
        | some g' =>
          right
          intro e
          rcases Nat.lt_or_gt_of_ne hij with hlt | hgt
          · exact h3 i j _ _ g' hlt eu e2 e.symm hub2
          · exact h3 j i _ _ g' hgt e2 eu hub2 e.symm
/-- behind a call: what was there ahead reads as before (two rules for the walk) -/
theorem bcell {W w1 : World} (hb : Below W.heap.size W w1) : (∀ b o, b < W.heap.size → w1.cell? ⟨b, o, none⟩ = W.cell? ⟨b, o, none⟩) ∧ (∀ b o, b < W.heap.size → w1.frozen? ⟨b, o, none⟩ = W.frozen? ⟨b, o, none⟩) :=
  ⟨fun b o h => hb.cell (p := ⟨b, o, none⟩) h, fun b o h => hb.frozen (p := ⟨b, o, none⟩) h⟩
theorem out_set {lo hi : Nat} {w0 w : World} (h : Out lo hi w0 w) (b i : Nat) (v : Value) (h1 : lo ≤ b) (h2 : b < hi) : Out lo hi w0 (w.setCell ⟨b, i, none⟩ v) :=
  h.trans ⟨rfl, rfl, rfl, by simp [World.setCell], fun k _ hn => Below.heap_setCell w ⟨b, i, none⟩ v k (by show k ≠ b; omega)⟩
theorem OwnRR.hi {w : World} {lo hi hi' : Nat} {te ti : TypeId} {v : Value} {xss : List (List Value)} (h : OwnRR w lo hi te ti v xss) (h1 : hi ≤ hi') (h2 : hi' ≤ w.heap.size) : OwnRR w lo hi' te ti v xss := by
  obtain ⟨hs, a, b, c⟩ := h
  refine ⟨hs, ⟨a.row, fun g e => Nat.lt_of_lt_of_le (a.lt g e) h1, h2⟩, fun i hi => ?_, c⟩
  obtain ⟨u, e, hu, hne⟩ := b i hi
  exact ⟨u, e, ⟨hu.row, fun g e => Nat.lt_of_lt_of_le (hu.lt g e) h1, h2⟩, hne⟩
/-- inner rows that were made one after the other behind block g0 -/
def FreshRows (w : World) (g0 : Nat) (ti : TypeId) (hs : List Value) (xss : List (List Value)) : Prop :=
  hs.length = xss.length ∧ ∀ i (h : i < xss.length), (xss[i]).length ≤ maxLen ∧ ∃ g, hs[i]? = some (.slice (some ⟨g, 0, none⟩) (xss[i]).length (xss[i]).length) ∧ g0 < g ∧ Blk w g ti xss[i] ∧ ∀ j u g', j < i → hs[j]? = some u → u.ownBlock = some g' → g' < g
theorem FreshRows.nil_ (w : World) (g0 : Nat) (ti : TypeId) : FreshRows w g0 ti [] [] := ⟨rfl, fun i h => by simp at h⟩
theorem FreshRows.later {w w' : World} {g0 : Nat} {ti : TypeId} {hs : List Value} {xss : List (List Value)} (h : FreshRows w g0 ti hs xss) (hb : Below w.heap.size w w') : FreshRows w' g0 ti hs xss := by
  refine ⟨h.1, fun i hi => ?_⟩
  obtain ⟨hm, g, e, hg, hblk, hj⟩ := h.2 i hi
  exact ⟨hm, g, e, hg, hblk.later hb, hj⟩
theorem FreshRows.far {w : World} {g0 : Nat} {ti : TypeId} {hs : List Value} {xss : List (List Value)} (h : FreshRows w g0 ti hs xss) (i : Nat) (v : Value) : FreshRows (w.setCell ⟨g0, i, none⟩ v) g0 ti hs xss := by
  refine ⟨h.1, fun j hj => ?_⟩
  obtain ⟨hm, g, e, hg, hblk, hk⟩ := h.2 j hj
  exact ⟨hm, g, e, hg, hblk.far (by show g ≠ g0; omega) v, hk⟩
theorem FreshRows.lt {w : World} {g0 : Nat} {ti : TypeId} {hs : List Value} {xss : List (List Value)} (h : FreshRows w g0 ti hs xss) {j : Nat} {u : Value} {g : Nat} (hj : hs[j]? = some u) (hg : u.ownBlock = some g) : g < w.heap.size := by
  have hjl : j < xss.length := by rw [← h.1]; exact (List.getElem?_eq_some_iff.1 hj).1
  obtain ⟨_, g', e, _, hblk, _⟩ := h.2 j hjl
  rw [hj] at e
  injection e with e
  rw [e] at hg
  simp [Value.ownBlock] at hg
  subst hg
  exact hblk.lt
theorem FreshRows.snoc {w w' : World} {g0 : Nat} {ti : TypeId} {hs : List Value} {xss : List (List Value)} {ys : List Value} (h : FreshRows w g0 ti hs xss) (hb : Below w.heap.size w w') (hg0 : g0 < w.heap.size) (hy : Blk w' w.heap.size ti ys) (hm : ys.length ≤ maxLen) :
    FreshRows w' g0 ti (hs ++ [.slice (some ⟨w.heap.size, 0, none⟩) ys.length ys.length]) (xss ++ [ys]) := by
  have hl := h.1
  refine ⟨by simp [h.1], fun i hi => ?_⟩
  rw [List.length_append, List.length_singleton] at hi
  by_cases hlt : i < xss.length
  · obtain ⟨hm, g, e, hg, hblk, hj⟩ := h.2 i hlt
    rw [List.getElem_append_left hlt]
    refine ⟨hm, g, ?_, hg, hblk.later hb, fun j u g' hji hu hg' => ?_⟩
    · rw [List.getElem?_append_left (by omega)]; exact e
    · rw [List.getElem?_append_left (by omega)] at hu
      exact hj j u g' hji hu hg'
  · obtain rfl : i = xss.length := by omega
    have e1 : (xss ++ [ys])[xss.length]'(by simp) = ys := by simp
    rw [e1]
    refine ⟨hm, w.heap.size, ?_, hg0, hy, fun j u g' hji hu hg' => ?_⟩
    · rw [List.getElem?_append_right (by omega), hl, Nat.sub_self]; rfl
    · rw [List.getElem?_append_left (by omega)] at hu
      exact h.lt hu hg'
theorem own_of_fresh {w : World} {g0 : Nat} {te ti : TypeId} {hs : List Value} {xss : List (List Value)} (h : FreshRows w g0 ti hs xss) (hb : Blk w g0 te hs) (hm : xss.length ≤ maxLen) :
    OwnRR w g0 w.heap.size te ti (.slice (some ⟨g0, 0, none⟩) xss.length xss.length) xss := by
  refine ⟨hs, blk_ownI hb (Nat.le_refl _) (by rw [h.1, Nat.mul_one]) hm, fun i hi => ?_, fun i j u u' g hij hu hu' hg e => ?_⟩
  · obtain ⟨hm2, g, e, hg, hblk, _⟩ := h.2 i hi
    refine ⟨_, e, blk_ownI hblk (by omega) (by rw [Nat.mul_one]) hm2, fun g' hg' => ?_⟩
    simp [Value.ownBlock] at hg' ⊢
    omega
  · have hj : j < xss.length := by rw [← h.1]; exact (List.getElem?_eq_some_iff.1 hu').1
    obtain ⟨_, g2, e2, _, _, hk⟩ := h.2 j hj
    have := hk i u g hij hu hg
    rw [hu'] at e2
    injection e2 with e2
    rw [e2] at e
    simp [Value.ownBlock] at e
    omega
theorem OwnRR.set_far {w : World} {lo hi : Nat} {te ti : TypeId} {v : Value} {xss : List (List Value)} (h : OwnRR w lo hi te ti v xss) (b i : Nat) (u : Value) (hb : b < lo) (ht : hi ≤ w.heap.size) : OwnRR (w.setCell ⟨b, i, none⟩ u) lo (w.setCell ⟨b, i, none⟩ u).heap.size te ti v xss :=
  (h.out (out_set (Out.refl b (b + 1) w) b i u (Nat.le_refl _) (by omega)) (.inr (by omega))).hi (by simp [World.setCell]; exact ht) (Nat.le_refl _)
/-- behind append(rows, row): the new row's block lies behind all others (from hi on) -/
theorem own_snoc {w w' : World} {lo hi : Nat} {te ti : TypeId} {v v' u : Value} {xss : List (List Value)} {ys hs : List Value} (h1 : OwnI w lo hi te 1 v xss.length hs)
    (h2 : ∀ i (h : i < xss.length), ∃ u, hs[i]? = some u ∧ OwnI w lo hi ti 1 u (xss[i]).length xss[i] ∧ (∀ g, u.ownBlock = some g → v.ownBlock ≠ some g))
    (h3 : ∀ (i j : Nat) (u u' : Value) (g : Nat), i < j → hs[i]? = some u → hs[j]? = some u' → u.ownBlock = some g → u'.ownBlock ≠ some g)
    (hu : w.ownsRow lo ti 1 u ys.length ys) (hge : ∀ g, u.ownBlock = some g → hi ≤ g)
    (hown : w'.ownsRow lo te 1 v' (xss.length + 1) (hs ++ [u])) (hg : w.grownBy w' v.ownBlock) (hb : v'.ownBlock = v.ownBlock ∨ v'.ownBlock = some (w.heap.size + 1)) :
    OwnRR w' lo w'.heap.size te ti v' (xss ++ [ys]) := by
  have hl := h1.row.1
  rw [Nat.mul_one] at hl
  have hvu : ∀ g, u.ownBlock = some g → v.ownBlock ≠ some g := fun g e e2 => by have := hge g e; have := h1.lt g e2; omega
  refine ⟨hs ++ [u], ⟨by rw [List.length_append]; exact hown, fun g e => (hown.lt g e).2, Nat.le_refl _⟩, fun i hi' => ?_, fun i j a b g hij ha hb' hga => ?_⟩
  · rw [List.length_append, List.length_singleton] at hi'
    by_cases hlt : i < xss.length
    · obtain ⟨a, ea, ha, hne⟩ := h2 i hlt
      rw [List.getElem_append_left hlt]
      refine ⟨a, by rw [List.getElem?_append_left (by omega)]; exact ea, ⟨ha.row.kept hg ?_, fun g e => Nat.lt_of_lt_of_le (ha.lt g e) (Nat.le_trans ha.top hg.size), Nat.le_refl _⟩, fun g e => ?_⟩
      · cases hab : a.ownBlock with
        | none => exact .inl rfl
        | some g => exact .inr fun e => hne g hab e.symm
      · rcases hb with h | h
        · rw [h]; exact hne g e
        · rw [h]
          have := ha.lt g e
          have := ha.top
          simp
          omega
    · obtain rfl : i = xss.length := by omega
      have e1 : (xss ++ [ys])[xss.length]'(by simp) = ys := by simp
      rw [e1]
      refine ⟨u, by rw [List.getElem?_append_right (by omega), hl, Nat.sub_self]; rfl, ⟨hu.kept hg ?_, fun g e => Nat.lt_of_lt_of_le (hu.lt g e).2 hg.size, Nat.le_refl _⟩, fun g e => ?_⟩
      · cases hab : u.ownBlock with
        | none => exact .inl rfl
        | some g => exact .inr fun e => hvu g hab e.symm
      · rcases hb with h | h
        · rw [h]; exact hvu g e
        · rw [h]
          have := (hu.lt g e).2
          simp
          omega
  · by_cases hjl : j < xss.length
    · rw [List.getElem?_append_left (by omega)] at ha
      rw [List.getElem?_append_left (by omega)] at hb'
      exact h3 i j a b g hij ha hb' hga
    · have hj2 : j < (hs ++ [u]).length := (List.getElem?_eq_some_iff.1 hb').1
      rw [List.length_append, List.length_singleton] at hj2
      obtain rfl : j = xss.length := by omega
      rw [List.getElem?_append_left (by omega)] at ha
      rw [List.getElem?_append_right (by omega), hl, Nat.sub_self] at hb'
      simp at hb'
      subst hb'
      intro e
      obtain ⟨a', ea, ha', _⟩ := h2 i (by omega)
      rw [ha] at ea
      injection ea with ea
      rw [← ea] at ha'
      have := ha'.lt g hga
      have := hge g e
      omega
theorem ownRR_nil {w : World} {lo hi g0 : Nat} {te ti : TypeId} (hb : Blk w g0 te []) (hlo : lo ≤ g0) (hhi : g0 < hi) (ht : hi ≤ w.heap.size) : OwnRR w lo hi te ti (.slice (some ⟨g0, 0, none⟩) 0 0) [] :=
  ⟨[], ⟨own_of_blk hb hlo rfl (by decide), fun g e => by simp [Value.ownBlock] at e; omega, ht⟩, fun i h => by simp at h, fun i j u u' g _ hi => by simp at hi⟩
theorem ownRR_none (w : World) (lo : Nat) (te ti : TypeId) : OwnRR w lo w.heap.size te ti (.slice none 0 0) [] :=
  ⟨[], ⟨World.ownsRow_nil _ _ _ _, fun g e => by simp [Value.ownBlock] at e, Nat.le_refl _⟩, fun i h => by simp at h, fun i j u u' g _ hi => by simp at hi⟩
end Go.Proofs.YtbkfhcbecejomaaGreat
end
section
/- Lists of lists of numbers: copying, comparing, their size, marking, reading the marks. -/
namespace Go.Proofs.YtbkfhcbecejomaaGreat
open Go Go.ChangeShapes Go.WideShapes Go.ChangeAt Go.RowKit
set_option linter.unusedVariables false
/-- lists of numbers as cells -/
def intss (ess : List (List Int)) : List (List Value) := ess.map ints
theorem intss_len (ess : List (List Int)) : (intss ess).length = ess.length := by simp [intss]
theorem intss_at (ess : List (List Int)) (k : Nat) (h : k < (intss ess).length) : (intss ess)[k] = ints (ess[k]'(by simpa [intss] using h)) := by simp [intss]
theorem ints_app (a b : List Int) : ints (a ++ b) = ints a ++ ints b := by simp [ints]
theorem ints_info : (Tryz.prog.info? 29).map (fun i => (i.zero, i.size, i.bytes)) = some (some (.slice none 0 0), 1, 24) := by kernel_rfl
theorem cp_snoc (z : Value) (hs : List Value) (k n : Nat) (h : hs.length = k) (hk : k < n) (u : Value) : (hs ++ List.replicate (n - k) z).set k u = (hs ++ [u]) ++ List.replicate (n - (k + 1)) z := by
  rw [List.set_append_right _ _ (by omega), h, Nat.sub_self]
  obtain ⟨m, hm⟩ : ∃ m, n - k = m + 1 := ⟨n - k - 1, by omega⟩
  have hm' : n - (k + 1) = m := by omega
  rw [hm, hm', List.replicate_succ, List.set_cons_zero, List.append_assoc]
  rfl
def totI (l : List (List Int)) : Nat := (l.map List.length).sum
theorem totI_snoc (l : List (List Int)) (r : List Int) : totI (l ++ [r]) = totI l + r.length := by simp [totI]
/-- marked rows -/
def mkRI : Nat → List (List Int) → List (List Int)
  | _, [] => []
  | k, r :: rs => marksI (k : Int) r.length :: mkRI (k + r.length) rs
theorem mkRI_len (k : Nat) (l : List (List Int)) : (mkRI k l).length = l.length := by
  induction l generalizing k with
  | nil => rfl
  | cons r rs ih => simp [mkRI, ih]
theorem totI_cons (r : List Int) (l : List (List Int)) : totI (r :: l) = r.length + totI l := by simp [totI]
theorem mkRI_snoc (k : Nat) (l : List (List Int)) (r : List Int) : mkRI k (l ++ [r]) = mkRI k l ++ [marksI ((k + totI l : Nat) : Int) r.length] := by
  induction l generalizing k with
  | nil => simp [mkRI, totI]
  | cons a l ih =>
    simp only [List.cons_append, mkRI, ih, totI_cons]
    rw [Nat.add_assoc]
theorem totI_take (l : List (List Int)) (j : Nat) : totI (l.take j) ≤ totI l := by
  induction l generalizing j with
  | nil => simp
  | cons a l ih =>
    cases j with
    | zero => simp [totI]
    | succ j =>
      simp only [List.take_succ_cons, totI_cons]
      have := ih j
      omega
theorem mkRI_at (k : Nat) (l : List (List Int)) (j : Nat) (h : j < (mkRI k l).length) (h' : j < l.length) : (mkRI k l)[j] = marksI ((k + totI (l.take j) : Nat) : Int) (l[j]).length := by
  induction l generalizing k j with
  | nil => simp at h'
  | cons a l ih =>
    cases j with
    | zero => simp [mkRI, totI]
    | succ j =>
      simp only [mkRI, List.getElem_cons_succ, List.take_succ_cons, totI_cons]
      rw [ih (k + a.length) j (by simpa [mkRI] using h) (by simpa using h')]
      rw [Nat.add_assoc]
theorem intss_app (a b : List (List Int)) : intss (a ++ b) = intss a ++ intss b := by simp [intss]
end Go.Proofs.YtbkfhcbecejomaaGreat
end
section
/- Numbers in a range, numbers that are ids. -/
namespace Go.Proofs.YtbkfhcbecejomaaGreat
open Go Go.ChangeShapes Go.WideShapes Go.ChangeAt Go.RowKit
theorem within_true (a lo hi : Int) (w : World) (h1 : lo ≤ a) (h2 : a ≤ hi) : Calls Tryz.prog 56 #[.int .i64 a, .int .i64 lo, .int .i64 hi] w fun r w' => r = .returned (.bool true) ∧ w = w' := by
  go_enter Tryz.func56, Tryz.ntmps56
  go_wp2
  go_ret
  exact ⟨rfl, rfl⟩
theorem within_false (a lo hi : Int) (w : World) (h : a < lo ∨ hi < a) : Calls Tryz.prog 56 #[.int .i64 a, .int .i64 lo, .int .i64 hi] w fun r w' => r = .returned (.bool false) ∧ w = w' := by
  by_cases h1 : lo ≤ a
  · have h2 : decide (a ≤ hi) = false := decide_eq_false (by omega)
    clear h
    go_enter Tryz.func56, Tryz.ntmps56
    go_wp2
    go_ret
    exact ⟨rfl, rfl⟩
  · clear h
    go_enter Tryz.func56, Tryz.ntmps56
    go_wp2
    go_ret
    exact ⟨rfl, rfl⟩
theorem l1In_true (a lo hi : Int) (w : World) (h1 : lo ≤ a) (h2 : a ≤ hi) : Calls Tryz.prog 63 #[.int .i64 a, .int .i64 lo, .int .i64 hi] w fun r w' => r = .returned (.bool true) ∧ w = w' := by
  go_enter Tryz.func63, Tryz.ntmps63
  go_wp2
  go_ret
  exact ⟨rfl, rfl⟩
theorem l1In_false (a lo hi : Int) (w : World) (h : a < lo ∨ hi < a) : Calls Tryz.prog 63 #[.int .i64 a, .int .i64 lo, .int .i64 hi] w fun r w' => r = .returned (.bool false) ∧ w = w' := by
  by_cases h1 : lo ≤ a
  · have h2 : decide (a ≤ hi) = false := decide_eq_false (by omega)
    clear h
    go_enter Tryz.func63, Tryz.ntmps63
    go_wp2
    go_ret
    exact ⟨rfl, rfl⟩
  · clear h
    go_enter Tryz.func63, Tryz.ntmps63
    go_wp2
    go_ret
    exact ⟨rfl, rfl⟩
theorem isId_true (a : Int) (w : World) (h1 : 1 ≤ a) (h2 : a ≤ 999) : Calls Tryz.prog 58 #[.int .i64 a] w fun r w' => r = .returned (.bool true) ∧ w = w' := by
  go_enter Tryz.func58, Tryz.ntmps58
  go_wp2_with (go_at_call 56; refine (within_true _ _ _ _ h1 h2).mono ?_; rintro e w' ⟨rfl, rfl⟩)
  go_ret
  exact ⟨rfl, rfl⟩
theorem isId_false (a : Int) (w : World) (h : a < 1 ∨ 999 < a) : Calls Tryz.prog 58 #[.int .i64 a] w fun r w' => r = .returned (.bool false) ∧ w = w' := by
  have H := Lib.hid h
  clear h
  go_enter Tryz.func58, Tryz.ntmps58
  go_wp2_with (go_at_call 56; refine (within_false _ _ _ _ H.out).mono ?_; rintro e w' ⟨rfl, rfl⟩)
  go_ret
  exact ⟨rfl, rfl⟩
theorem within_some (a lo hi : Int) (w : World) : Calls Tryz.prog 56 #[.int .i64 a, .int .i64 lo, .int .i64 hi] w (RBool fun _ w' => w = w') := by
  by_cases h : lo ≤ a ∧ a ≤ hi
  · exact (within_true a lo hi w h.1 h.2).mono (by rintro e w' ⟨rfl, rfl⟩; exact RBool.mk rfl)
  · exact (within_false a lo hi w (by omega)).mono (by rintro e w' ⟨rfl, rfl⟩; exact RBool.mk rfl)
theorem isId_some (a : Int) (w : World) : Calls Tryz.prog 58 #[.int .i64 a] w (RBool fun _ w' => w = w') := by
  by_cases h : 1 ≤ a ∧ a ≤ 999
  · exact (isId_true a w h.1 h.2).mono (by rintro e w' ⟨rfl, rfl⟩; exact RBool.mk rfl)
  · exact (isId_false a w (by omega)).mono (by rintro e w' ⟨rfl, rfl⟩; exact RBool.mk rfl)
end Go.Proofs.YtbkfhcbecejomaaGreat
end
section
/- Lists of ids, stacks: both programs return the plain word. -/
namespace Go.Proofs.YtbkfhcbecejomaaGreat
open Go Go.ChangeShapes Go.WideShapes Go.ChangeAt Go.RowKit
theorem within_any (a lo hi : Int) (w : World) : Calls Tryz.prog 56 #[.int .i64 a, .int .i64 lo, .int .i64 hi] w fun r w' => r = .returned (.bool (inI a lo hi)) ∧ w = w' := by
  by_cases h : lo ≤ a ∧ a ≤ hi
  · rw [show inI a lo hi = true from by simp [inI, h]]; exact within_true a lo hi w h.1 h.2
  · rw [show inI a lo hi = false from by simp [inI]; omega]; exact within_false a lo hi w (by omega)
theorem l1In_any (a lo hi : Int) (w : World) : Calls Tryz.prog 63 #[.int .i64 a, .int .i64 lo, .int .i64 hi] w fun r w' => r = .returned (.bool (inI a lo hi)) ∧ w = w' := by
  by_cases h : lo ≤ a ∧ a ≤ hi
  · rw [show inI a lo hi = true from by simp [inI, h]]; exact l1In_true a lo hi w h.1 h.2
  · rw [show inI a lo hi = false from by simp [inI]; omega]; exact l1In_false a lo hi w (by omega)
theorem isId_any (a : Int) (w : World) : Calls Tryz.prog 58 #[.int .i64 a] w fun r w' => r = .returned (.bool (idI a)) ∧ w = w' := by
  by_cases h : 1 ≤ a ∧ a ≤ 999
  · rw [show idI a = true from by simp [idI, h]]; exact isId_true a w h.1 h.2
  · rw [show idI a = false from by simp [idI]; omega]; exact isId_false a w (by omega)
set_option maxHeartbeats 1000000 in
theorem index_int (A : Option Addr) (n c : Nat) (zs : List Int) (x : Int) (w : World) (hn : zs.length = n) (hr : RdV w A (ints zs)) (hm : n ≤ 9223372036854775807) :
    Calls Tryz.prog 49 #[.slice A n c, .int .i64 x] w fun e w' => (∃ i : Int, e = .returned (.int .i64 i) ∧ decide (0 ≤ i) = hasI zs x) ∧ w = w' := by
  have HN := Lib.hid hn
  clear hn
  go_enter Tryz.func49, Tryz.ntmps49
  go_wp2
  go_loop [8, 5] (fun i _ => ∃ k : Nat, k ≤ n ∧ i = .int .i64 k ∧ Hid (hasI (zs.take k) x = false)) (fun i _ => n - (intOf i).toNat)
  case atStart => exact ⟨0, Nat.zero_le _, rfl, Lib.hid (by simp [hasI])⟩
  case round =>
    obtain ⟨k, hk, rfl, HJ⟩ := hrel
    by_cases hlt : k < n
    · have hkz : k < zs.length := by rw [HN.out]; exact hlt
      have hkl : k < (ints zs).length := by rw [ints_len]; exact hkz
      obtain ⟨b, o, rfl, hl, hc⟩ := hr.pos hkl
      have h1 := hc k hkl
      rw [ints_at] at h1
      have HY := Lib.hid (has_yes (x := x) hkz)
      have HS := Lib.hid (has_step (x := x) hkz HJ.out)
      generalize zs[k] = y at *
      clear hc
      by_cases hxy : y = x
      · have HT := Lib.hid (HY.out hxy)
        have hd : (x == y) = true := by simp [hxy]
        clear hxy
        go_wp2
        go_ret
        exact ⟨⟨_, rfl, by rw [HT.out]; simp⟩, rfl⟩
      · have HT := Lib.hid (HS.out hxy)
        have hd : (x == y) = false := by simpa using fun h => hxy h.symm
        clear hxy
        go_wp2
        go_round
        case rel => exact ⟨k + 1, by omega, by go_num, HT⟩
        case measure => simp [intOf]; omega
    · obtain rfl : k = n := by omega
      have htl : zs.take k = zs := List.take_of_length_le (by rw [HN.out]; exact Nat.le_refl _)
      rw [htl] at HJ
      clear htl
      go_wp2
      go_ret
      exact ⟨⟨_, rfl, by rw [HJ.out]; decide⟩, rfl⟩
theorem contains_int (A : Option Addr) (n c : Nat) (zs : List Int) (x : Int) (w : World) (hn : zs.length = n) (hr : RdV w A (ints zs)) (hm : n ≤ 9223372036854775807) :
    Calls Tryz.prog 23 #[.slice A n c, .int .i64 x] w fun e w' => e = .returned (.bool (hasI zs x)) ∧ w = w' := by
  have HN := Lib.hid hn
  clear hn
  go_enter Tryz.func23, Tryz.ntmps23
  go_wp2_with fail
  refine (index_int A n c zs x w HN.out hr hm).mono ?_
  rintro e w' ⟨⟨i, rfl, hi⟩, rfl⟩
  have HI := Lib.hid hi
  clear hi
  go_wp2_with fail
  go_ret
  exact ⟨by rw [← HI.out]; rfl, rfl⟩
set_option maxHeartbeats 1000000 in
theorem l1Has_any (A : Option Addr) (n c : Nat) (zs : List Int) (x : Int) (w : World) (hn : zs.length = n) (hr : RdV w A (ints zs)) (hm : n ≤ 9223372036854775806) :
    Calls Tryz.prog 32 #[.slice A n c, .int .i64 x] w fun e w' => e = .returned (.bool (hasI zs x)) ∧ w = w' := by
  have HN := Lib.hid hn
  clear hn
  go_enter Tryz.func32, Tryz.ntmps32
  go_wp2
  go_loop [5] (fun i => ∃ k : Nat, k ≤ n ∧ i = .int .i64 k ∧ Hid (hasI (zs.take k) x = false)) (fun i => n - (intOf i).toNat)
  case atStart => exact ⟨0, Nat.zero_le _, rfl, Lib.hid (by simp [hasI])⟩
  case round =>
    obtain ⟨k, hk, rfl, HJ⟩ := hrel
    by_cases hlt : k < n
    · have hkz : k < zs.length := by rw [HN.out]; exact hlt
      have hkl : k < (ints zs).length := by rw [ints_len]; exact hkz
      obtain ⟨b, o, rfl, hl, hc⟩ := hr.pos hkl
      have h1 := hc k hkl
      rw [ints_at] at h1
      have HY := Lib.hid (has_yes (x := x) hkz)
      have HS := Lib.hid (has_step (x := x) hkz HJ.out)
      generalize zs[k] = y at *
      clear hc
      by_cases hxy : y = x
      · have HT := Lib.hid (HY.out hxy)
        have hd : (y == x) = true := by simp [hxy]
        clear hxy
        go_wp2
        go_ret
        exact ⟨by rw [HT.out]; rfl, rfl⟩
      · have HT := Lib.hid (HS.out hxy)
        have hd : (y == x) = false := by simpa using hxy
        clear hxy
        go_wp2
        go_round
        case rel => exact ⟨k + 1, by omega, by go_num, HT⟩
        case measure => simp [intOf]; omega
    · obtain rfl : k = n := by omega
      have htl : zs.take k = zs := List.take_of_length_le (by rw [HN.out]; exact Nat.le_refl _)
      rw [htl] at HJ
      clear htl
      go_wp2
      go_ret
      exact ⟨by rw [HJ.out]; rfl, rfl⟩
theorem RdV.takeI {w : World} {b o : Nat} {zs : List Int} (hl : b < w.heap.size) (hc : ∀ k (h : k < (ints zs).length), w.cell? ⟨b, o + k, none⟩ = some (ints zs)[k]) (i : Nat) : RdV w (some ⟨b, o, none⟩) (ints (zs.take i)) := by
  refine .inr ⟨b, o, rfl, hl, fun k hk => ?_⟩
  have hk2 : k < (ints zs).length := by rw [ints_len] at hk ⊢; rw [List.length_take] at hk; omega
  rw [hc k hk2, ints_at, ints_at, List.getElem_take]
set_option maxHeartbeats 1000000 in
theorem implStackValid (A : Option Addr) (n c : Nat) (zs : List Int) (high : Int) (w : World) (hn : zs.length = n) (hr : RdV w A (ints zs)) (hnc : n ≤ c) (hm : c ≤ 9223372036854775807) :
    Calls Tryz.prog 57 #[.slice A n c, .int .i64 high] w fun e w' => e = .returned (.bool (stackOk zs high)) ∧ w = w' := by
  have HN := Lib.hid hn
  clear hn
  go_enter Tryz.func57, Tryz.ntmps57
  go_wp2
  go_loop [9, 5, 6] (fun i _ _ => ∃ k : Nat, k ≤ n ∧ i = .int .i64 k ∧ Hid (sOk [] zs = sOk (zs.take k) (zs.drop k))) (fun i _ _ => n - (intOf i).toNat)
  case atStart => exact ⟨0, Nat.zero_le _, rfl, Lib.hid (by simp)⟩
  case round =>
    obtain ⟨k, hk, rfl, HJ⟩ := hrel
    by_cases hlt : k < n
    · have hkz : k < zs.length := by rw [HN.out]; exact hlt
      have hkl : k < (ints zs).length := by rw [ints_len]; exact hkz
      obtain ⟨b, o, rfl, hl, hc⟩ := hr.pos hkl
      have h1 := hc k hkl
      rw [ints_at] at h1
      have hst := sOk_step (p := []) hkz
      rw [List.nil_append, List.nil_append, ← HJ.out] at hst
      have HST := Lib.hid hst
      have HTL : Hid ((zs.take k).length = k) := Lib.hid (by rw [List.length_take]; omega)
      have hrt := RdV.takeI hl hc k
      have hkc : (k : Int) ≤ (c : Int) := by omega
      generalize zs[k] = y at *
      generalize zs.take k = pre at *
      clear hc hst
      go_wp2_with fail
      refine (isId_any y _).mono ?_
      rintro e w' ⟨rfl, rfl⟩
      cases hid : idI y with
      | false =>
        rw [hid] at HST
        clear hid
        go_wp2_with fail
        go_ret
        exact ⟨by rw [stackOk, HST.out]; simp, rfl⟩
      | true =>
        rw [hid] at HST
        clear hid
        go_wp2_with fail
        refine (contains_int (some ⟨b, o, none⟩) k _ pre y _ HTL.out hrt (by omega)).mono ?_
        rintro e w' ⟨rfl, rfl⟩
        cases hhas : hasI pre y with
        | true =>
          rw [hhas] at HST
          clear hhas
          go_wp2_with fail
          go_ret
          exact ⟨by rw [stackOk, HST.out]; simp, rfl⟩
        | false =>
          rw [hhas] at HST
          clear hhas
          go_wp2_with fail
          go_round
          case rel => exact ⟨k + 1, by omega, by go_num, Lib.hid (by rw [HST.out]; simp)⟩
          case measure => simp [intOf]; omega
    · have hend : sOk (zs.take k) (zs.drop k) = true := by have := sOk_end (s := zs) (p := []) (k := k) (by rw [HN.out]; omega); rwa [List.nil_append] at this
      have HE := Lib.hid (HJ.out.trans hend)
      clear hend
      go_wp2_with fail
      refine (within_any high 1 5 _).mono ?_
      rintro e w' ⟨rfl, rfl⟩
      cases hi : inI high 1 5 with
      | false =>
        have HI := Lib.hid hi
        clear hi
        go_wp2_with fail
        go_ret
        exact ⟨by rw [stackOk, HE.out, show (decide (1 ≤ high) && decide (high ≤ 5)) = inI high 1 5 from rfl, HI.out]; rfl, rfl⟩
      | true =>
        have HI := Lib.hid hi
        clear hi
        go_wp2_with fail
        go_ret
        exact ⟨by rw [stackOk, HE.out, show (decide (1 ≤ high) && decide (high ≤ 5)) = inI high 1 5 from rfl, HI.out, HN.out]; rfl, rfl⟩
end Go.Proofs.YtbkfhcbecejomaaGreat
end
section
/- The reference's StackValid and YardValid return the plain words. -/
namespace Go.Proofs.YtbkfhcbecejomaaGreat
open Go Go.ChangeShapes Go.WideShapes Go.ChangeAt Go.RowKit
set_option linter.unusedVariables false
set_option maxHeartbeats 2000000 in
theorem specStackValid (A : Option Addr) (n c : Nat) (zs : List Int) (high : Int) (w : World) (hn : zs.length = n) (hr : RdV w A (ints zs)) (hnc : n ≤ c) (hm : c ≤ 9223372036854775807) :
    Calls Tryz.prog 62 #[.slice A n c, .int .i64 high] w fun e w' => e = .returned (.bool (stackOk zs high)) ∧ ∃ q, w' = w.drewN q := by
  have HN := Lib.hid hn
  clear hn
  go_enter Tryz.func62, Tryz.ntmps62
  go_wp2_with fail
  go_loopw [5] (fun i wr => ∃ k : Nat, k ≤ n ∧ i = .int .i64 k ∧ Hid (sOk [] zs = sOk (zs.take k) (zs.drop k)) ∧ ∃ q, wr = w.drewN q) (fun i _ => n - (intOf i).toNat)
  case atStart => exact ⟨0, Nat.zero_le _, rfl, Lib.hid (by simp), 0, rfl⟩
  case round =>
    obtain ⟨k, hk, rfl, HJ, q, hq⟩ := hrel
    by_cases hlt : k < n
    · have hkz : k < zs.length := by rw [HN.out]; exact hlt
      have hkl : k < (ints zs).length := by rw [ints_len]; exact hkz
      have hrw : RdV wr A (ints zs) := by rw [hq]; exact hr
      obtain ⟨b, o, rfl, hl, hc⟩ := hrw.pos hkl
      have h1 := hc k hkl
      rw [ints_at] at h1
      have hst := sOk_step (p := []) hkz
      rw [List.nil_append, List.nil_append, ← HJ.out] at hst
      have HST := Lib.hid hst
      have HTL : Hid ((zs.take k).length = k) := Lib.hid (by rw [List.length_take]; omega)
      have hrt := RdV.takeI hl hc k
      have hkc : (k : Int) ≤ (c : Int) := by omega
      have hki : (k : Int) < (n : Int) := by omega
      have hcI : ∀ w0 : World, Calls Tryz.prog 63 #[.int .i64 zs[k], .int .i64 1, .int .i64 999] w0 fun r w' => r = .returned (.bool (idI zs[k])) ∧ w' = w0 := fun w0 => (l1In_any _ _ _ w0).mono (fun _ _ h => ⟨h.1, h.2.symm⟩)
      have hcH : ∀ q0 : Nat, Calls Tryz.prog 32 #[.slice (some ⟨b, o, none⟩) k c, .int .i64 zs[k]] (wr.drewN q0) fun r w' => r = .returned (.bool (hasI (zs.take k) zs[k])) ∧ w' = wr.drewN q0 := fun q0 => (l1Has_any _ k c (zs.take k) zs[k] (wr.drewN q0) HTL.out hrt (by omega)).mono (fun _ _ h => ⟨h.1, h.2.symm⟩)
      generalize zs[k] = y at *
      generalize zs.take k = pre at *
      have HQ := Lib.hid hq
      clear hc hst hq hrw
      cases hid : idI y with
      | false =>
        rw [hid] at HST hcI
        clear hid
        go_wp2_with fail
        go_quiet ((first | (go_at_call 63; exact Calls.quiet_of_same (hcI _)) | (go_at_call 32; exact Calls.quiet_of_same (hcH _))))
        clear hcI hcH
        go_wp2_with fail
        go_ret
        exact ⟨by rw [stackOk, HST.out]; simp, q + nq, by rw [HQ.out]; exact World.drewN_drewN _ _ _⟩
      | true =>
        rw [hid] at HST hcI
        clear hid
        cases hhas : hasI pre y with
        | true =>
          rw [hhas] at HST hcH
          clear hhas
          go_wp2_with fail
          go_quiet ((first | (go_at_call 63; exact Calls.quiet_of_same (hcI _)) | (go_at_call 32; exact Calls.quiet_of_same (hcH _))))
          clear hcI hcH
          go_wp2_with fail
          go_ret
          exact ⟨by rw [stackOk, HST.out]; simp, q + nq, by rw [HQ.out]; exact World.drewN_drewN _ _ _⟩
        | false =>
          rw [hhas] at HST hcH
          clear hhas
          go_wp2_with fail
          go_quiet ((first | (go_at_call 63; exact Calls.quiet_of_same (hcI _)) | (go_at_call 32; exact Calls.quiet_of_same (hcH _))))
          clear hcI hcH
          go_wp2_with fail
          go_roundw
          case rel => exact ⟨k + 1, by omega, by go_num, Lib.hid (by rw [HST.out]; simp), q + nq, by rw [HQ.out]; exact World.drewN_drewN _ _ _⟩
          case measure => simp [intOf]; omega
    · have hend : sOk (zs.take k) (zs.drop k) = true := by have := sOk_end (s := zs) (p := []) (k := k) (by rw [HN.out]; omega); rwa [List.nil_append] at this
      have HE := Lib.hid (HJ.out.trans hend)
      have HQ := Lib.hid hq
      clear hend hq
      go_wp2_with fail
      refine (l1In_any high 1 5 _).mono ?_
      rintro e w' ⟨rfl, rfl⟩
      cases hi : inI high 1 5 with
      | false =>
        have HI := Lib.hid hi
        clear hi
        go_wp2_with fail
        go_ret
        exact ⟨by rw [stackOk, HE.out, show (decide (1 ≤ high) && decide (high ≤ 5)) = inI high 1 5 from rfl, HI.out]; rfl, q, HQ.out⟩
      | true =>
        have HI := Lib.hid hi
        clear hi
        go_wp2_with fail
        go_ret
        exact ⟨by rw [stackOk, HE.out, show (decide (1 ≤ high) && decide (high ≤ 5)) = inI high 1 5 from rfl, HI.out, HN.out]; rfl, q, HQ.out⟩
theorem int_infoY : Info Tryz.prog 3 (.int .i64 0) 1 8 := Info.mk' int_info rfl (by decide) (by decide)
set_option maxHeartbeats 4000000 in
theorem specYardValid (high : Int) (A : Option Addr) (n c : Nat) (rows : List (List Int)) (w : World) (hn : rows.length = n) (hr : RdRR w A (intss rows)) (hm : n ≤ 2097152) :
    Calls Tryz.prog 26 #[.agg #[.int .i64 high, .slice A n c]] w fun e w' => e = .returned (.bool (yardOk high rows)) ∧ Below w.heap.size w w' := by
  have HN := Lib.hid hn
  have HOK : Hid (yardOk high rows = (inI (n : Int) 1 5 && yOk high [] rows)) := Lib.hid (by subst hn; rfl)
  clear hn
  go_enter Tryz.func26, Tryz.ntmps26
  go_wp2_with fail
  go_loopw [3, 4, 5] (fun all i _ wr => ∃ (k m : Nat) (v : Value), k ≤ n ∧ i = .int .i64 k ∧ all = v ∧ m ≤ 5 * k ∧ Hid (yOk high [] rows = yOk high ((rows.take k).flatten) (rows.drop k)) ∧ wr.ownsRow (w.heap.size + 1) 3 1 v m (ints (rows.take k).flatten) ∧ Blk wr w.heap.size 25 [.int .i64 high, .slice A n c] ∧ Below w.heap.size w wr) (fun _ i _ _ => n - (intOf i).toNat)
  case atStart =>
    refine ⟨0, 0, _, Nat.zero_le _, rfl, rfl, Nat.zero_le _, Lib.hid rfl, ?_, ?_, ?_⟩
    · have := Blk.new (w.alloc (.cells #[.int .i64 high, .slice A n c] 25)) 3 []
      simp only [World.size_alloc] at this
      exact own_of_blk this (Nat.le_refl _) rfl (by decide)
    · exact (Blk.new _ _ _).alloc _
    · exact ((Below.refl _ _).alloc (Nat.le_refl _) _).alloc (by simp) _
  case round =>
    obtain ⟨k, m, v, hk, rfl, rfl, hmk, HY, hO, P1, hb⟩ := hrel
    have c0 := P1.cellAt 0 (by simp)
    have c1 := P1.cellAt 1 (by simp)
    simp only [List.getElem_cons_zero, List.getElem_cons_succ] at c0 c1
    have hPlt := P1.lt
    have HP1 := Lib.hid P1
    by_cases hlt : k < n
    · have hkz : k < rows.length := by rw [HN.out]; exact hlt
      have hkl : k < (intss rows).length := by rw [intss_len]; exact hkz
      obtain ⟨b, o, rfl, hl0, B, c', hcell0, hle, hmx, hrB0⟩ := hr.pos hkl
      have hl : b < wr.heap.size := Nat.lt_of_lt_of_le hl0 hb.size
      have hcell := (hb.cell (p := ⟨b, o + k, none⟩) hl0).trans hcell0
      have hrB := hrB0.below hb
      rw [intss_at] at hrB hrB0
      simp only [intss_at, ints_len] at hcell hle hcell0
      have hst := yOk_step (high := high) hkz
      rw [← HY.out] at hst
      have HST := Lib.hid hst
      have HFL : Hid ((rows.take (k + 1)).flatten = (rows.take k).flatten ++ rows[k]) := Lib.hid (by rw [List.take_succ_eq_append_getElem hkz, List.flatten_append]; simp)
      unfold maxLen at hmx
      have HR := Lib.hid hr
      generalize rows[k] = zs at *
      generalize (rows.take k).flatten = fl at *
      generalize hz : zs.length = p at *
      have HZ := Lib.hid hz
      have HRB := Lib.hid hrB0
      have HC0 := Lib.hid hcell0
      have HO := Lib.hid hO
      have HRW := Lib.hid hrB
      have hki : (k : Int) < (n : Int) := by omega
      have e1 : IntKind.i64.wrap ((k : Int) + 1) = (k : Int) + 1 := IntWalk.i64_in _ (by omega)
      by_cases hso : stackOk zs high = true
      · have hS := fun w0 h => specStackValid B p c' zs high w0 HZ.out h hle (by omega)
        rw [hso] at hS
        have HS2 : Hid (yOk high [] rows = (dOk fl zs && yOk high ((rows.take (k + 1)).flatten) (rows.drop (k + 1)))) := Lib.hid (by rw [HST.out, hso]; rfl)
        have hp5 : p ≤ 5 := by have := stackOk_parts hso; have := HZ.out; omega
        have HB := Lib.hid hb
        have HBL := Lib.hid hl0
        clear hst hz hr hrB0 hcell0 hl0 hO hso
        go_wp2_with fail
        go_quiet ((go_at_call 62; exact Calls.quiet_of (hS _ hrB)))
        have P2 := P1.drewN nq
        have hb2 := below_drewN hb nq
        have O2 := own_drewN HO.out nq
        clear hS c0 c1 hcell hrB hb P1 hPlt hl
        generalize wr.drewN nq = w2 at *
        go_wp2_with fail
        go_loopw [3, 5] (fun all i wr2 => ∃ (j m2 : Nat) (v2 : Value), j ≤ p ∧ i = .int .i64 j ∧ all = v2 ∧ m2 ≤ 5 * k + j ∧ Hid (dOk fl zs = dOk (fl ++ zs.take j) (zs.drop j)) ∧ wr2.ownsRow (w.heap.size + 1) 3 1 v2 m2 (ints (fl ++ zs.take j)) ∧ Blk wr2 w.heap.size 25 [.int .i64 high, .slice (some ⟨b, o, none⟩) n c] ∧ Below w.heap.size w wr2) (fun _ i _ => p - (intOf i).toNat)
        case atStart => exact ⟨0, m, _, Nat.zero_le _, rfl, rfl, by omega, Lib.hid (by simp), by simpa using O2, P2, hb2⟩
        case round =>
          clear O2 P2 hb2
          obtain ⟨j, m2, v2, hj, rfl, rfl, hm2, HD, hO2, P2, hb2⟩ := hrel
          have c0 := P2.cellAt 0 (by simp)
          have c1 := P2.cellAt 1 (by simp)
          simp only [List.getElem_cons_zero, List.getElem_cons_succ] at c0 c1
          have hPlt := P2.lt
          have hbl : b < w.heap.size := HBL.out
          have hl : b < wr.heap.size := Nat.lt_of_lt_of_le hbl hb2.size
          have hcell := (hb2.cell (p := ⟨b, o + k, none⟩) hbl).trans HC0.out
          have hrB := HRB.out.below hb2
          by_cases hltj : j < p
          · have hjz : j < zs.length := by rw [HZ.out]; exact hltj
            have hjl : j < (ints zs).length := by rw [ints_len]; exact hjz
            obtain ⟨b2, o2, rfl, hl2, hc2⟩ := hrB.pos hjl
            have h1 := hc2 j hjl
            rw [ints_at] at h1
            have hst := dOk_step (p := fl) hjz
            rw [← HD.out] at hst
            have HST2 := Lib.hid hst
            have HTK : Hid (ints (fl ++ zs.take (j + 1)) = ints (fl ++ zs.take j) ++ [.int .i64 zs[j]]) := Lib.hid (by rw [List.take_succ_eq_append_getElem hjz, ← List.append_assoc, ints_app]; rfl)
            have hal : (ints (fl ++ zs.take j)).length = m2 := by have := hO2.1; omega
            obtain ⟨A3, c3, rfl, hA3, hA4⟩ := own_slice hO2
            have hrd := own_rd hO2
            rw [ints_len] at hal
            have hH := fun y => l1Has_any A3 m2 c3 (fl ++ zs.take j) y wr hal hrd (by omega)
            generalize zs[j] = y at *
            have hji : (j : Int) < (p : Int) := by omega
            clear hc2 hst hrd hal
            go_wp2_with fail
            refine (hH y).mono ?_
            rintro e w' ⟨rfl, rfl⟩
            cases hhas : hasI (fl ++ zs.take j) y with
            | true =>
              have HF : Hid (yardOk high rows = false) := Lib.hid (by rw [HOK.out, HS2.out, HST2.out, hhas]; simp)
              clear hhas hH
              go_wp2_with fail
              go_ret
              exact ⟨by rw [HF.out]; rfl, hb2⟩
            | false =>
              have HD2 : Hid (dOk fl zs = dOk (fl ++ zs.take (j + 1)) (zs.drop (j + 1))) := Lib.hid (by rw [HST2.out, hhas]; rfl)
              clear hhas hH
              have HO2 := Lib.hid hO2
              have HB2 := Lib.hid hb2
              have HP2 := Lib.hid P2
              have hsz : w.heap.size + 1 ≤ wr.heap.size := hPlt
              go_wp2_with (at_builtin; refine append_new rfl (.tmp 43) (.tmp 52) 29 rfl 3 _ _ _ Tryz.underlying29 int_infoY (w.heap.size + 1) wr (.slice A3 m2 c3) m2 _ rfl HO2.out [.int .i64 y] (by first | rfl | (simp; with_unfolding_all rfl)) rfl (by simp [Value.oneCell']) (by omega) hsz ?_; intro v4 w4 hown4 hg4 hblk4)
              rw [← HTK.out] at hown4
              have hb4 : Below w.heap.size w w4 := hb2.grown hg4 hb2.size (fun g e => by have := (hO2.lt g e).1; omega)
              have P4 : Blk w4 w.heap.size 25 [.int .i64 high, .slice (some ⟨b, o, none⟩) n c] := (hg4.block _ hPlt (fun e => own_ne hO2 (Nat.lt_succ_self _) e.symm)).trans P2
              clear hg4 hblk4
              go_wp2_with fail
              go_roundw
              case rel => exact ⟨j + 1, m2 + 1, _, by omega, by go_num, rfl, by omega, HD2, hown4, P4, hb4⟩
              case measure => simp [intOf]; omega
          · have hend : dOk (fl ++ zs.take j) (zs.drop j) = true := dOk_end (by rw [HZ.out]; omega)
            have HE : Hid (yOk high [] rows = yOk high ((rows.take (k + 1)).flatten) (rows.drop (k + 1))) := Lib.hid (by rw [HS2.out, HD.out, hend]; rfl)
            have htl : zs.take j = zs := List.take_of_length_le (by rw [HZ.out]; omega)
            rw [htl, ← HFL.out] at hO2
            clear hend htl
            have HO2 := Lib.hid hO2
            clear hO2
            go_wp2_with fail
            go_roundw
            case rel => exact ⟨k + 1, m2, _, by omega, by go_num, rfl, by omega, HE, HO2.out, P2, hb2⟩
            case measure => simp [intOf]; omega
      · have hso2 : stackOk zs high = false := by simpa using hso
        have hS := fun w0 h => specStackValid B p c' zs high w0 HZ.out h hle (by omega)
        have HF : Hid (yardOk high rows = false) := Lib.hid (by rw [HOK.out, HST.out, hso2]; simp)
        rw [hso2] at hS
        clear hst hz hr hrB0 hcell0 hl0 hO hso hso2
        go_wp2_with fail
        go_quiet ((go_at_call 62; exact Calls.quiet_of (hS _ hrB)))
        go_wp2_with fail
        go_ret
        exact ⟨by rw [HF.out]; rfl, below_drewN hb _⟩
    · have hend : yOk high ((rows.take k).flatten) (rows.drop k) = true := yOk_end (by rw [HN.out]; omega)
      have HE : Hid (yardOk high rows = inI (n : Int) 1 5) := Lib.hid (by rw [HOK.out, HY.out.trans hend]; simp)
      clear hend
      go_wp2_with fail
      refine (l1In_any n 1 5 _).mono ?_
      rintro e w' ⟨rfl, rfl⟩
      cases hi : inI (n : Int) 1 5 with
      | false =>
        have HF := Lib.hid (HE.out.trans hi)
        clear hi
        go_wp2_with fail
        go_ret
        exact ⟨by rw [HF.out]; rfl, hb⟩
      | true =>
        have HF := Lib.hid (HE.out.trans hi)
        obtain ⟨_, _, g1, g2, _, _⟩ := yardOk_parts HF.out
        clear hi
        go_wp2_with fail
        refine (l1In_true high 1 5 _ g1 g2).mono ?_
        rintro e w' ⟨rfl, rfl⟩
        go_wp2_with fail
        go_ret
        exact ⟨by rw [HF.out]; rfl, hb⟩
end Go.Proofs.YtbkfhcbecejomaaGreat
end
section
/- A number put at its place in a list: the reference's l4Sorted. -/
namespace Go.Proofs.YtbkfhcbecejomaaGreat
open Go Go.ChangeShapes Go.WideShapes Go.ChangeAt Go.RowKit
set_option linter.unusedVariables false
/-- a number at its place -/
def insL : List Int → Int → List Int
  | [], x => [x]
  | y :: r, x => if y < x then y :: insL r x else x :: y :: r
theorem insL_mem {ls : List Int} {x b : Int} : b ∈ insL ls x ↔ b = x ∨ b ∈ ls := by
  induction ls with
  | nil => simp [insL]
  | cons a r ih =>
    unfold insL
    by_cases h : a < x
    · rw [if_pos h, List.mem_cons, ih, List.mem_cons]
      constructor
      · rintro (h | h | h)
        · exact .inr (.inl h)
        · exact .inl h
        · exact .inr (.inr h)
      · rintro (h | h | h)
        · exact .inr (.inl h)
        · exact .inl h
        · exact .inr (.inr h)
    · rw [if_neg h, List.mem_cons]
theorem insL_len (ls : List Int) (x : Int) : (insL ls x).length = ls.length + 1 := by
  induction ls with
  | nil => rfl
  | cons a r ih =>
    unfold insL
    by_cases h : a < x
    · rw [if_pos h, List.length_cons, ih, List.length_cons]
    · rw [if_neg h]; rfl
theorem insL_asc {ls : List Int} {x : Int} (hp : ls.Pairwise (· < ·)) (hx : x ∉ ls) : (insL ls x).Pairwise (· < ·) := by
  induction ls with
  | nil => simp [insL]
  | cons a r ih =>
    have hr := (List.pairwise_cons.1 hp).2
    have ha := (List.pairwise_cons.1 hp).1
    have h1 : x ≠ a := fun e => hx (by rw [e]; exact List.mem_cons_self ..)
    have h2 : x ∉ r := fun e => hx (List.mem_cons_of_mem _ e)
    unfold insL
    by_cases h : a < x
    · rw [if_pos h, List.pairwise_cons]
      refine ⟨fun b hb => ?_, ih hr h2⟩
      rcases insL_mem.1 hb with rfl | hb
      · exact h
      · exact ha b hb
    · rw [if_neg h, List.pairwise_cons]
      refine ⟨fun b hb => ?_, hp⟩
      rcases List.mem_cons.1 hb with rfl | hb
      · omega
      · have := ha b hb; omega
theorem insL_step {zs : List Int} {x : Int} {k : Nat} (hk : k < zs.length) (h : insL zs x = zs.take k ++ insL (zs.drop k) x) (hx : zs[k] < x) : insL zs x = zs.take (k + 1) ++ insL (zs.drop (k + 1)) x := by
  rw [h, List.drop_eq_getElem_cons hk, insL, if_pos hx, List.take_succ_eq_append_getElem hk, List.append_assoc]
  rfl
theorem insL_stop {zs : List Int} {x : Int} {k : Nat} (hk : k < zs.length) (h : insL zs x = zs.take k ++ insL (zs.drop k) x) (hx : ¬ zs[k] < x) : insL zs x = zs.take k ++ (x :: zs.drop k) := by
  rw [h, List.drop_eq_getElem_cons hk, insL, if_neg hx]
theorem insL_out {zs : List Int} {x : Int} {k : Nat} (hk : zs.length ≤ k) (h : insL zs x = zs.take k ++ insL (zs.drop k) x) : insL zs x = zs.take k ++ (x :: zs.drop k) := by
  rw [h, List.drop_of_length_le hk]
  rfl
theorem rdInts_drop {w : World} {b o : Nat} {zs : List Int} (h : RdV w (some ⟨b, o, none⟩) (ints zs)) (k : Nat) : RdV w (some ⟨b, o + k, none⟩) (ints (zs.drop k)) := by
  rcases h with h | ⟨b', o', e, hl, hc⟩
  · have : zs = [] := by simpa [ints] using h
    subst this
    simp [ints, RdV]
  · injection e with e
    injection e with e1 e2
    subst e1 e2
    refine .inr ⟨b, o + k, rfl, hl, fun j hj => ?_⟩
    rw [ints_len, List.length_drop] at hj
    have := hc (k + j) (by rw [ints_len]; omega)
    rw [Nat.add_assoc, this]
    simp [ints]
set_option maxRecDepth 100000 in
set_option maxHeartbeats 4000000 in
theorem l4Sorted_any (A : Option Addr) (n c : Nat) (zs : List Int) (x : Int) (w : World) (hn : zs.length = n) (hnc : n ≤ c) (hr : RdV w A (ints zs)) (hm : n ≤ 1048576) :
    Calls Tryz.prog 71 #[.slice A n c, .int .i64 x] w (RVal fun u w' => ∃ B d, u = .slice B (n + 1) d ∧ w'.ownsRow w.heap.size 3 1 (.slice B (n + 1) d) (n + 1) (ints (insL zs x)) ∧ Below w.heap.size w w') := by
  have HN := Lib.hid hn
  clear hn
  go_enter Tryz.func71, Tryz.ntmps71
  go_wp2_with fail
  go_loopw [5, 6] (fun o i wr => ∃ (k : Nat) (B : Option Addr) (d : Nat), k ≤ n ∧ i = .int .i64 k ∧ o = .slice B k d ∧ Hid (insL zs x = zs.take k ++ insL (zs.drop k) x) ∧ wr.ownsRow w.heap.size 3 1 (.slice B k d) k (ints (zs.take k)) ∧ Below w.heap.size w wr) (fun _ i _ => n - (intOf i).toNat)
  case atStart =>
    exact ⟨0, _, _, Nat.zero_le _, rfl, rfl, Lib.hid rfl, own_of_blk (cs := []) (Blk.new w 3 []) (Nat.le_refl _) rfl (by decide), (Below.refl _ _).alloc (Nat.le_refl _) _⟩
  case round =>
    obtain ⟨k, B, d, hk, rfl, rfl, HJ, hown, hb⟩ := hrel
    have hrd0 := hr.below hb
    by_cases hlt : k < n
    · have hkz : k < zs.length := by rw [HN.out]; exact hlt
      have hkl : k < (ints zs).length := by rw [ints_len]; exact hkz
      obtain ⟨b, oo, rfl, hl, hc⟩ := hrd0.pos hkl
      have h1 := hc k hkl
      rw [ints_at] at h1
      clear hc
      have hki : (k : Int) < (n : Int) := by omega
      by_cases hx : zs[k] < x
      · have HS := Lib.hid (insL_step hkz HJ.out hx)
        have HTK : Hid (ints (zs.take (k + 1)) = ints (zs.take k) ++ [.int .i64 zs[k]]) := Lib.hid (by rw [List.take_succ_eq_append_getElem hkz, ints_app]; rfl)
        generalize zs[k] = y at *
        have hd : decide (y < x) = true := decide_eq_true hx
        have HO := Lib.hid hown
        have hsz := hb.size
        have HB := Lib.hid hb
        clear hown hb hx
        go_wp2_with (at_builtin; refine append_new rfl (.tmp 20) (.tmp 25) 29 rfl 3 _ _ _ Tryz.underlying29 int_infoY w.heap.size wr (.slice B k d) k _ rfl HO.out [.int .i64 y] (by first | rfl | (simp; with_unfolding_all rfl)) rfl (by simp [Value.oneCell']) (by omega) hsz ?_; intro v4 w4 hown4 hg4 hblk4)
        obtain ⟨B4, d4, rfl, _, _⟩ := own_slice hown4
        rw [← HTK.out] at hown4
        have hb4 := below_append HB.out hg4 HO.out rfl
        clear hg4 hblk4
        go_wp2_with fail
        go_roundw
        case rel => exact ⟨k + 1, B4, d4, by omega, by go_num, rfl, HS, hown4, hb4⟩
        case measure => simp [intOf]; omega
      · have HI := Lib.hid (insL_stop hkz HJ.out hx)
        generalize zs[k] = y at *
        have hd : decide (y < x) = false := decide_eq_false hx
        have hck : ¬ c = k := by omega
        have HRD : Hid (∀ W, Below w.heap.size w W → RdV W (some ⟨b, oo + k, none⟩) (ints (zs.drop k))) := Lib.hid (fun W hW => rdInts_drop (hr.below hW) k)
        clear hrd0
        have HR := Lib.hid hr
        have HB := Lib.hid hb
        have HO := Lib.hid hown
        have hsz := hb.size
        have hle := hk
        clear hr hb hown
        go_wp2_with fail
        go_region_law (first
          | (refine step_append_new rfl (.tmp 29) (.tmp 31) 29 rfl 3 _ _ _ Tryz.underlying29 int_infoY w.heap.size wr.drew (.slice B k d) k (ints (zs.take k)) rfl HO.out [.int .i64 x] (by first | rfl | (simp; with_unfolding_all rfl)) rfl (by simp [Value.oneCell']) (by omega) hsz ?_
             intro v7 w7 hown7 hg7 hb7
             obtain ⟨A7, c7, rfl, hA7, hA8⟩ := own_slice hown7
             have hb8 : Below w.heap.size w w7 := below_append (Below.drew HB.out) hg7 HO.out rfl
             have hsz8 := hb8.size)
          | (refine step_append_src rfl (.tmp 32) (.tmp 35) 29 rfl 3 _ _ _ Tryz.underlying29 int_infoY w.heap.size w7 (.slice A7 (k + 1) c7) (k + 1) (ints (zs.take k) ++ [.int .i64 x]) rfl hown7 _ (n - k) _ (ints (zs.drop k)) (by first | rfl | (simp; with_unfolding_all rfl)) (by simp [ints, HN.out]) (HRD.out _ hb8) (ints_one _) (by omega) hsz8 ?_
             intro v9 w9 hown9 hg9 hb9
             rw [show k + 1 + (n - k) = n + 1 from by omega] at hown9
             obtain ⟨A9, c9, rfl, hA9, hA10⟩ := own_slice hown9
             have hb10 : Below w.heap.size w w9 := below_append hb8 hg9 hown7 rfl))
        all_goals
          go_wp2_with fail
          go_ret
          exact RVal.mk ⟨_, _, rfl, by rw [show ints (insL zs x) = ints (zs.take k) ++ [.int .i64 x] ++ ints (zs.drop k) from by rw [HI.out, ints_app, List.append_assoc]; rfl]; exact hown9, hb10⟩
    · obtain rfl : k = n := by omega
      have HI := Lib.hid (insL_out (by rw [HN.out]; exact Nat.le_refl _) HJ.out)
      have HNL : Hid (ints (zs.drop k) = []) := Lib.hid (by rw [List.drop_of_length_le (by rw [HN.out]; exact Nat.le_refl _)]; rfl)
      clear hrd0
      by_cases hck0 : k = c
      · subst hck0
        have HR := Lib.hid hr
        have HB := Lib.hid hb
        have HO := Lib.hid hown
        have hsz := hb.size
        have hle := hk
        clear hr hb hown
        go_wp2_with fail
        go_region_law (first
          | (refine step_append_new rfl (.tmp 29) (.tmp 31) 29 rfl 3 _ _ _ Tryz.underlying29 int_infoY w.heap.size wr.drew (.slice B k d) k (ints (zs.take k)) rfl HO.out [.int .i64 x] (by first | rfl | (simp; with_unfolding_all rfl)) rfl (by simp [Value.oneCell']) (by omega) hsz ?_
             intro v7 w7 hown7 hg7 hb7
             obtain ⟨A7, c7, rfl, hA7, hA8⟩ := own_slice hown7
             have hb8 : Below w.heap.size w w7 := below_append (Below.drew HB.out) hg7 HO.out rfl
             have hsz8 := hb8.size)
          | (refine step_append_src rfl (.tmp 32) (.tmp 35) 29 rfl 3 _ _ _ Tryz.underlying29 int_infoY w.heap.size w7 (.slice A7 (k + 1) c7) (k + 1) (ints (zs.take k) ++ [.int .i64 x]) rfl hown7 _ 0 _ (ints (zs.drop k)) (by first | rfl | (simp; with_unfolding_all rfl)) (by simp [ints, HN.out]) (by rw [HNL.out]; exact RdV.nil_) (ints_one _) (by omega) hsz8 ?_
             intro v9 w9 hown9 hg9 hb9
             rw [show k + 1 + 0 = k + 1 from by omega] at hown9
             obtain ⟨A9, c9, rfl, hA9, hA10⟩ := own_slice hown9
             have hb10 : Below w.heap.size w w9 := below_append hb8 hg9 hown7 rfl))
        all_goals
          go_wp2_with fail
          go_ret
          exact RVal.mk ⟨_, _, rfl, by rw [show ints (insL zs x) = ints (zs.take k) ++ [.int .i64 x] ++ ints (zs.drop k) from by rw [HI.out, ints_app, List.append_assoc]; rfl]; exact hown9, hb10⟩
      · have hck : ¬ c = k := fun e => hck0 e.symm
        have HR := Lib.hid hr
        have HB := Lib.hid hb
        have HO := Lib.hid hown
        have hsz := hb.size
        have hle := hk
        clear hr hb hown
        go_wp2_with fail
        go_region_law (first
          | (refine step_append_new rfl (.tmp 29) (.tmp 31) 29 rfl 3 _ _ _ Tryz.underlying29 int_infoY w.heap.size wr.drew (.slice B k d) k (ints (zs.take k)) rfl HO.out [.int .i64 x] (by first | rfl | (simp; with_unfolding_all rfl)) rfl (by simp [Value.oneCell']) (by omega) hsz ?_
             intro v7 w7 hown7 hg7 hb7
             obtain ⟨A7, c7, rfl, hA7, hA8⟩ := own_slice hown7
             have hb8 : Below w.heap.size w w7 := below_append (Below.drew HB.out) hg7 HO.out rfl
             have hsz8 := hb8.size)
          | (refine step_append_src rfl (.tmp 32) (.tmp 35) 29 rfl 3 _ _ _ Tryz.underlying29 int_infoY w.heap.size w7 (.slice A7 (k + 1) c7) (k + 1) (ints (zs.take k) ++ [.int .i64 x]) rfl hown7 _ 0 _ (ints (zs.drop k)) (by first | rfl | (simp; with_unfolding_all rfl)) (by simp [ints, HN.out]) (by rw [HNL.out]; exact RdV.nil_) (ints_one _) (by omega) hsz8 ?_
             intro v9 w9 hown9 hg9 hb9
             rw [show k + 1 + 0 = k + 1 from by omega] at hown9
             obtain ⟨A9, c9, rfl, hA9, hA10⟩ := own_slice hown9
             have hb10 : Below w.heap.size w w9 := below_append hb8 hg9 hown7 rfl))
        all_goals
          go_wp2_with fail
          go_ret
          exact RVal.mk ⟨_, _, rfl, by rw [show ints (insL zs x) = ints (zs.take k) ++ [.int .i64 x] ++ ints (zs.drop k) from by rw [HI.out, ints_app, List.append_assoc]; rfl]; exact hown9, hb10⟩
end Go.Proofs.YtbkfhcbecejomaaGreat
end
