/- A slice of messages that lies anywhere in a block of its own, with room behind it up to its capacity. -/
import Derived.Test.YtehaacpeamhamaaInbTH
import Derived.ArgAppend
import Derived.Laws.OwnMore
namespace Go.Proofs.Ytehaacpeamhamaa
open Go Go.ChangeShapes Go.WideShapes Go.ChangeAt Go.RowKit
/-- the list zs at v, in a block between lo and hi -/
def QueM (w : World) (lo hi : Nat) (A : Option Addr) (n c : Nat) (zs : List MessageV) : Prop :=
  zs.length = n ∧ n ≤ c ∧ c ≤ maxLen ∧ hi ≤ w.heap.size ∧ ((A = none ∧ c = 0) ∨ ∃ g d, A = some ⟨g, d, none⟩ ∧ lo ≤ g ∧ g < hi ∧
    (∀ j (h : j < (messages zs).length), w.cell? ⟨g, d + j, none⟩ = some (messages zs)[j]) ∧
    (∀ j, n * 2 ≤ j → j < c * 2 → (w.cell? ⟨g, d + j, none⟩).isSome = true ∧ w.frozen? ⟨g, d + j, none⟩ = false))
section
variable {w w' : World} {lo hi : Nat} {A : Option Addr} {n c : Nat} {zs : List MessageV}
theorem QueM.len (h : QueM w lo hi A n c zs) : zs.length = n := h.1
theorem QueM.rd (h : QueM w lo hi A n c zs) : RdV w A (messages zs) := by
  obtain ⟨h1, h2, h3, ht, ⟨rfl, rfl⟩ | ⟨g, d, rfl, hl, hh, hc, _⟩⟩ := h
  · have : zs = [] := List.eq_nil_of_length_eq_zero (by omega)
    subst this
    exact .inl rfl
  · exact .inr ⟨g, d, rfl, by omega, fun j hj => hc j hj⟩
theorem QueM.out {lo' hi' : Nat} (h : QueM w lo hi A n c zs) (ho : Out lo' hi' w w') (hd : hi ≤ lo' ∨ hi' ≤ lo) : QueM w' lo hi A n c zs := by
  obtain ⟨h1, h2, h3, ht, hn | ⟨g, d, rfl, hl, hh, hc, hf⟩⟩ := h
  · exact ⟨h1, h2, h3, Nat.le_trans ht ho.size, .inl hn⟩
  · have hb := ho.block g (by omega) (by omega)
    have hcc : ∀ i, w'.cell? ⟨g, i, none⟩ = w.cell? ⟨g, i, none⟩ := fun i => World.cell?_of_block hb
    have hff : ∀ i, w'.frozen? ⟨g, i, none⟩ = w.frozen? ⟨g, i, none⟩ := fun i => World.frozen?_of_block hb
    exact ⟨h1, h2, h3, Nat.le_trans ht ho.size, .inr ⟨g, d, rfl, hl, hh, fun j hj => (hcc _).trans (hc j hj), fun j hj hj2 => by rw [hcc, hff]; exact hf j hj hj2⟩⟩
theorem QueM.later (h : QueM w lo hi A n c zs) (hb : Below w.heap.size w w') : QueM w' lo hi A n c zs := h.out (Below.out hb lo lo) (.inr (Nat.le_refl _))
theorem QueM.wide {lo' hi' : Nat} (h : QueM w lo hi A n c zs) (h1 : lo' ≤ lo) (h2 : hi ≤ hi') (h3 : hi' ≤ w.heap.size) : QueM w lo' hi' A n c zs := by
  obtain ⟨h1', h2', h3', _, hn | ⟨g, d, rfl, hl, hh, r⟩⟩ := h
  · exact ⟨h1', h2', h3', h3, .inl hn⟩
  · exact ⟨h1', h2', h3', h3, .inr ⟨g, d, rfl, by omega, by omega, r⟩⟩
theorem OwnI.queM (h : OwnI w lo hi 35 2 (.slice A n c) n (messages zs)) : QueM w lo hi A n c zs := by
  have hl := h.row.1
  have hzn : zs.length = n := by rw [messages_len] at hl; omega
  obtain ⟨_, _, e, hnc, hcm⟩ := own_slice h.row
  injection e with e1 _ e3
  subst e1 e3
  refine ⟨hzn, hnc, hcm, h.top, ?_⟩
  rcases h.row.2 with ⟨e, hx⟩ | ⟨g, cap, cur, e, hb, hg, h1, h2, h3, h4⟩
  · injection e with e1 _ e3
    exact .inl ⟨e1, e3⟩
  · injection e with e1 _ e3
    subst e1 e3
    have hrow := h.row
    refine .inr ⟨g, 0, rfl, hb, h.lt g rfl, fun j hj => ?_, fun j _ hj => ⟨?_, hrow.frozenAt _⟩⟩
    · rw [Nat.zero_add, hrow.cellAt j (by omega)]
      exact List.getElem?_eq_getElem hj
    · rw [Nat.zero_add, cell_of_row w g j cur _ (0, 0) hg, Array.getElem?_eq_getElem (by omega)]
      rfl
end
end Go.Proofs.Ytehaacpeamhamaa
