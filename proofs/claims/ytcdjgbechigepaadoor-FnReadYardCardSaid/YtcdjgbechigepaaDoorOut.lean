/- What lies in blocks lo to hi (without hi): objects that a call has made, and calls that turn such blocks alone. -/
import Derived.Test.YtcdjgbechigepaaDoorOwn
namespace Go.Proofs.YtcdjgbechigepaaDoor
open Go.ChangeShapes Go.WideShapes Go.ChangeAt Go.RowKit

/-- outside the blocks lo to hi (and but for new blocks) the world is as it was -/
structure Out (lo hi : Nat) (w w' : World) : Prop where
  os : w'.os = w.os
  tape : w'.tape = w.tape
  output : w'.output = w.output
  size : w.heap.size ≤ w'.heap.size
  block : ∀ k, k < w.heap.size → (k < lo ∨ hi ≤ k) → w'.heap[k]? = w.heap[k]?
theorem Out.refl (lo hi : Nat) (w : World) : Out lo hi w w := ⟨rfl, rfl, rfl, Nat.le_refl _, fun _ _ _ => rfl⟩
theorem Out.trans {lo hi : Nat} {a b c : World} (h : Out lo hi a b) (k : Out lo hi b c) : Out lo hi a c :=
  ⟨k.os.trans h.os, k.tape.trans h.tape, k.output.trans h.output, Nat.le_trans h.size k.size, fun i hi hn => (k.block i (Nat.lt_of_lt_of_le hi h.size) hn).trans (h.block i hi hn)⟩
theorem Out.mono {lo hi lo' hi' : Nat} {a b : World} (h : Out lo hi a b) (h1 : lo' ≤ lo) (h2 : hi ≤ hi') : Out lo' hi' a b :=
  ⟨h.os, h.tape, h.output, h.size, fun k hk hn => h.block k hk (by omega)⟩
theorem Below.out {w w' : World} (h : Below w.heap.size w w') (lo hi : Nat) : Out lo hi w w' := ⟨h.os, h.tape, h.output, h.size, fun k hk _ => h.block k hk⟩
theorem out_of_grown {w w' : World} {row : Option Nat} {lo hi : Nat} (h : w.grownBy w' row) (hr : ∀ g, row = some g → lo ≤ g ∧ g < hi) : Out lo hi w w' :=
  ⟨h.os, h.tape, h.output, h.size, fun k hk hn => h.block k hk (fun e => by have := hr k e.symm; omega)⟩
theorem below_out {w w1 w2 : World} {lo hi : Nat} (h : Below w.heap.size w w1) (k : Out lo hi w1 w2) (hlo : w.heap.size ≤ lo) : Below w.heap.size w w2 :=
  h.trans ⟨k.os, k.tape, k.output, k.size, fun i hi => k.block i (Nat.lt_of_lt_of_le hi h.size) (.inl (by omega))⟩

/-- a slice of the call's own whose block lies between lo and hi -/
structure OwnI (w : World) (lo hi : Nat) (e : TypeId) (size : Nat) (v : Value) (n : Nat) (xs : List Value) : Prop where
  row : w.ownsRow lo e size v n xs
  lt : ∀ g, v.ownBlock = some g → g < hi
  top : hi ≤ w.heap.size
theorem OwnI.of {w : World} {lo : Nat} {e : TypeId} {size n : Nat} {v : Value} {xs : List Value} (h : w.ownsRow lo e size v n xs) : OwnI w lo w.heap.size e size v n xs :=
  ⟨h, fun g hg => (h.lt g hg).2, Nat.le_refl _⟩
theorem OwnI.out {w w' : World} {lo hi lo' hi' : Nat} {e : TypeId} {size n : Nat} {v : Value} {xs : List Value} (h : OwnI w lo hi e size v n xs) (ho : Out lo' hi' w w') (hd : hi ≤ lo' ∨ hi' ≤ lo) : OwnI w' lo hi e size v n xs := by
  refine ⟨⟨h.row.1, ?_⟩, h.lt, Nat.le_trans h.top ho.size⟩
  rcases h.row.2 with hn | ⟨g, cap, cur, rfl, hb, hg, rest⟩
  · exact .inl hn
  · have := h.lt g rfl
    exact .inr ⟨g, cap, cur, rfl, hb, (ho.block g (Array.getElem?_eq_some_iff.1 hg).1 (by omega)).trans hg, rest⟩
theorem OwnI.later {w w' : World} {lo hi : Nat} {e : TypeId} {size n : Nat} {v : Value} {xs : List Value} (h : OwnI w lo hi e size v n xs) (hb : Below w.heap.size w w') : OwnI w' lo hi e size v n xs :=
  h.out (Below.out hb lo lo) (.inr (Nat.le_refl _))
theorem OwnI.rd {w : World} {lo hi : Nat} {e : TypeId} {size n c : Nat} {A : Option Addr} {xs : List Value} (h : OwnI w lo hi e size (.slice A n c) n xs) : RdV w A xs := own_rd h.row
/-- behind a call that has turned the object's own block alone -/
theorem OwnI.turned {w w' : World} {lo hi : Nat} {e : TypeId} {size n : Nat} {v : Value} {xs ys : List Value} (h : OwnI w lo hi e size v n xs) (h' : w'.ownsRow lo e size v n ys) (hg : w.grownBy w' v.ownBlock) : OwnI w' lo hi e size v n ys ∧ Out lo hi w w' :=
  ⟨⟨h', h.lt, Nat.le_trans h.top hg.size⟩, out_of_grown hg (fun g e => ⟨(h.row.lt g e).1, h.lt g e⟩)⟩
theorem blk_ownI {w : World} {lo g : Nat} {e : TypeId} {size n : Nat} {cs : List Value} (h : Blk w g e cs) (hlo : lo ≤ g) (hn : cs.length = n * size) (hm : n ≤ maxLen) : OwnI w lo w.heap.size e size (.slice (some ⟨g, 0, none⟩) n n) n cs :=
  OwnI.of (own_of_blk h hlo hn hm)
end Go.Proofs.YtcdjgbechigepaaDoor
