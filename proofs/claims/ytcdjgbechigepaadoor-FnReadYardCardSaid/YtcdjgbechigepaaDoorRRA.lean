/- Rows of rows: an inner row is replaced by another. -/
import Derived.Test.YtcdjgbechigepaaDoorRRO
namespace Go.Proofs.YtcdjgbechigepaaDoor
open Go Go.ChangeShapes Go.WideShapes Go.ChangeAt Go.RowKit
theorem grown_set (w : World) (g i : Nat) (u : Value) : w.grownBy (w.setCell ⟨g, i, none⟩ u) (some g) :=
  ⟨rfl, rfl, rfl, by simp [World.setCell], fun k _ hn => Below.heap_setCell w ⟨g, i, none⟩ u k (by show k ≠ g; intro e; exact hn (by rw [e]))⟩
theorem own_kept' {w w' : World} {base : Nat} {e : TypeId} {size n : Nat} {u : Value} {xs : List Value} {row : Option Nat} (h : w.ownsRow base e size u n xs) (hg : w.grownBy w' row) (hne : ∀ g, u.ownBlock = some g → row ≠ some g) : w'.ownsRow base e size u n xs :=
  h.kept hg (by
    cases hb : u.ownBlock with
    | none => exact .inl rfl
    | some g => exact .inr fun e => hne g hb e.symm)
theorem OwnRR.put {w : World} {lo hi : Nat} {te ti : TypeId} {v : Value} {xss : List (List Value)} (h : OwnRR w lo hi te ti v xss) {i : Nat} (hi' : i < xss.length) :
    ∃ g c B c', v = .slice (some ⟨g, 0, none⟩) xss.length c ∧ lo ≤ g ∧ g < hi ∧ w.cell? ⟨g, i, none⟩ = some (.slice B (xss[i]).length c') ∧ w.frozen? ⟨g, i, none⟩ = false ∧ OwnI w lo hi ti 1 (.slice B (xss[i]).length c') (xss[i]).length xss[i] ∧ (∀ b, Value.ownBlock (.slice B (xss[i]).length c') = some b → b ≠ g) ∧
      ∀ (w2 : World) (u : Value) (ys : List Value), w.grownBy w2 (Value.ownBlock (.slice B (xss[i]).length c')) → w2.ownsRow lo ti 1 u ys.length ys → (u.ownBlock = Value.ownBlock (.slice B (xss[i]).length c') ∨ ∃ b, u.ownBlock = some b ∧ hi ≤ b) →
        OwnRR (w2.setCell ⟨g, i, none⟩ u) lo (w2.setCell ⟨g, i, none⟩ u).heap.size te ti v (xss.set i ys) ∧ Out lo hi w (w2.setCell ⟨g, i, none⟩ u) := by
  obtain ⟨hs, h1, h2, h3⟩ := h
  obtain ⟨u0, eu, hu, hne⟩ := h2 i hi'
  obtain ⟨B, c', rfl, _, _⟩ := own_slice hu.row
  have hl := h1.row.1
  rw [Nat.mul_one] at hl
  rcases own_form h1.row with ⟨_, h0, _⟩ | ⟨g, c, rfl, hg1, hg2, hg3⟩
  · omega
  have hgo : Value.ownBlock (.slice (some ⟨g, 0, none⟩) xss.length c) = some g := rfl
  have hgh := h1.lt g hgo
  refine ⟨g, c, B, c', rfl, hg1, hgh, ?_, h1.row.frozenAt i, hu, fun b hb e => hne b hb (by rw [e]; rfl), fun w2 u ys hgr hown hub => ?_⟩
  · rw [h1.row.cellAt i (by omega)]
    exact eu
  · generalize hu0 : Value.slice B (xss[i]).length c' = u0 at *
    have hneg : ∀ b, u.ownBlock = some b → b ≠ g := by
      intro b hb e
      rcases hub with hub | ⟨b', hb', hge⟩
      · rw [hub] at hb
        exact hne b hb (by rw [hgo, e])
      · rw [hb'] at hb
        injection hb with hb
        omega
    have hset := grown_set w2 g i u
    have hsz : (w2.setCell ⟨g, i, none⟩ u).heap.size = w2.heap.size := by simp [World.setCell]
    have ho1 : Out lo hi w w2 := out_of_grown hgr (fun b e => ⟨(hu.row.lt b e).1, hu.lt b e⟩)
    have ho : Out lo hi w (w2.setCell ⟨g, i, none⟩ u) := out_set ho1 g i u hg1 hgh
    have hrow2 := own_kept' h1.row hgr (fun b hb e => by rw [hgo] at hb; exact hne g (by rw [e, ← hb]) hgo)
    have hle := hgr.size
    refine ⟨⟨hs.set i u, ⟨?_, fun b hb => by rw [hsz]; have := h1.lt b hb; have := h1.top; omega, Nat.le_refl _⟩, fun j hj => ?_, fun a b x y d hab hx hy hd e => ?_⟩, ho⟩
    · have := (hrow2.stored i u).1
      rw [List.length_set]
      exact this
    · rw [List.length_set] at hj
      by_cases hij : i = j
      · subst hij
        rw [List.getElem_set_self]
        refine ⟨u, ?_, ⟨own_kept' hown hset (fun b hb e => hneg b hb (by injection e with e; exact e.symm)), fun b hb => ?_, Nat.le_refl _⟩, fun b hb e => hneg b hb (by rw [hgo] at e; injection e with e; exact e.symm)⟩
        · rw [List.getElem?_set_self (by omega)]
        · rw [hsz]; exact (hown.lt b hb).2
      · rw [List.getElem_set_ne hij]
        obtain ⟨u2, e2, hu2, hne2⟩ := h2 j hj
        refine ⟨u2, by rw [List.getElem?_set_ne hij]; exact e2, ⟨?_, fun b hb => by rw [hsz]; have := hu2.lt b hb; have := hu2.top; omega, Nat.le_refl _⟩, hne2⟩
        refine own_kept' (own_kept' hu2.row hgr (fun b hb e => ?_)) hset (fun b hb e => hne2 b hb (by rw [hgo]; exact e))
        rcases Nat.lt_or_gt_of_ne hij with hlt | hgt
        · exact h3 i j _ _ b hlt eu e2 e hb
        · exact h3 j i _ _ b hgt e2 eu hb e
    · have ha : a < hs.length := by have := (List.getElem?_eq_some_iff.1 hx).1; rwa [List.length_set] at this
      have hb : b < hs.length := by have := (List.getElem?_eq_some_iff.1 hy).1; rwa [List.length_set] at this
      have old : ∀ (j : Nat) (z : Value), hs[j]? = some z → ∀ d, z.ownBlock = some d → d < hi := by
        intro j z hz d hd
        have hj : j < xss.length := by rw [← hl]; exact (List.getElem?_eq_some_iff.1 hz).1
        obtain ⟨z', ez, hz', _⟩ := h2 j hj
        rw [hz] at ez
        injection ez with ez
        rw [ez] at hd
        exact hz'.lt d hd
      by_cases hia : i = a
      · subst hia
        rw [List.getElem?_set_self ha] at hx
        injection hx with hx
        subst hx
        rw [List.getElem?_set_ne (by omega)] at hy
        rcases hub with hub | ⟨b', hb', hge⟩
        · rw [hub] at hd
          exact h3 i b _ _ d hab eu hy hd e
        · rw [hb'] at hd
          injection hd with hd
          have := old b y hy d e
          omega
      · rw [List.getElem?_set_ne hia] at hx
        by_cases hib : i = b
        · subst hib
          rw [List.getElem?_set_self hb] at hy
          injection hy with hy
          subst hy
          rcases hub with hub | ⟨b', hb', hge⟩
          · rw [hub] at e
            exact h3 a i _ _ d hab hx eu hd e
          · rw [hb'] at e
            injection e with e
            have := old a x hx d hd
            omega
        · rw [List.getElem?_set_ne hib] at hy
          exact h3 a b x y d hab hx hy hd e
/-- an inner row's own cell is turned -/
theorem OwnRR.turn {w : World} {lo hi : Nat} {te ti : TypeId} {v : Value} {xss : List (List Value)} (h : OwnRR w lo hi te ti v xss) {i j : Nat} (hi' : i < xss.length) (hj : j < (xss[i]).length) (x : Value) :
    ∃ g c b c', v = .slice (some ⟨g, 0, none⟩) xss.length c ∧ lo ≤ g ∧ g < w.heap.size ∧ lo ≤ b ∧ b < w.heap.size ∧ w.cell? ⟨g, i, none⟩ = some (.slice (some ⟨b, 0, none⟩) (xss[i]).length c') ∧ w.cell? ⟨b, j, none⟩ = some ((xss[i])[j]) ∧ w.frozen? ⟨b, j, none⟩ = false ∧
      OwnRR (w.setCell ⟨b, j, none⟩ x) lo hi te ti v (xss.set i ((xss[i]).set j x)) ∧ Out lo hi w (w.setCell ⟨b, j, none⟩ x) := by
  obtain ⟨A, c, B, c', rfl, hu, ⟨g, rfl, hg2, hc, hf⟩, hput⟩ := h.row hi'
  obtain ⟨hs, h1, _, _⟩ := h
  have hg1 := (h1.row.lt g rfl).1
  rcases own_form hu.row with ⟨e, h0, _⟩ | ⟨b, c2, e, hb1, hb2, hb3⟩
  · omega
  · injection e with e1 e2 e3
    subst e1
    refine ⟨g, c, b, c', rfl, hg1, hg2, hb1, hb2, hc, ?_, hu.row.frozenAt j, ?_⟩
    · have := hu.row.cellAt j (by rw [Nat.mul_one]; exact hj)
      rw [this, List.getElem?_eq_getElem hj]
    · obtain ⟨s1, s2⟩ := hu.row.stored j x
      exact hput _ _ (by simp) s1 s2
end Go.Proofs.YtcdjgbechigepaaDoor
