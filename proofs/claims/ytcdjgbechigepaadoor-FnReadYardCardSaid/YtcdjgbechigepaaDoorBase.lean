/- Plain words for memory, no program in sight: cells that can be read, a block that is known whole, the frame of a call. -/
import Derived.WalkKit
import Derived.ProofKit
import Derived.OpenShut
import Derived.ShutString
import Derived.ChangeOld
import Derived.Below
import Derived.Lib.Hide
import Derived.Laws.MakeOwn
import Derived.Deep.OwnRows
import Derived.Deep.Draws
import Derived.Laws.OwnMore
namespace Go.Proofs.YtcdjgbechigepaaDoor
open Go.ChangeShapes Go.WideShapes Go.ChangeAt Go.RowKit

theorem ret_int {k : IntKind} {a b : Int} (h : a = b) : Ending.returned (.int k a) = .returned (.int k b) := by rw [h]
theorem ret_bool {a b : Bool} (h : a = b) : Ending.returned (.bool a) = .returned (.bool b) := by rw [h]

/-- two calls, one behind the other: what was there ahead of the first is as it was -/
theorem below_trans {w w1 w2 : World} (h : Below w.heap.size w w1) (k : Below w1.heap.size w1 w2) : Below w.heap.size w w2 := h.trans (k.mono h.size)

theorem below_drewN {B : Nat} {a w : World} (h : Below B a w) (n : Nat) : Below B a (w.drewN n) := ⟨h.os, h.tape, h.output, h.size, h.block⟩

/-- the cells cs can be read from the slice address A on -/
def RdV (w : World) (A : Option Addr) (cs : List Value) : Prop :=
  cs = [] ∨ ∃ b off, A = some ⟨b, off, none⟩ ∧ b < w.heap.size ∧ ∀ k (h : k < cs.length), w.cell? ⟨b, off + k, none⟩ = some cs[k]
theorem RdV.below {w w' : World} {A : Option Addr} {cs : List Value} (h : RdV w A cs) (hb : Below w.heap.size w w') : RdV w' A cs := by
  rcases h with h | ⟨b, off, rfl, hlt, hc⟩
  · exact .inl h
  · exact .inr ⟨b, off, rfl, Nat.lt_of_lt_of_le hlt hb.size, fun k hk => (hb.cell (p := ⟨b, off + k, none⟩) hlt).trans (hc k hk)⟩
theorem RdV.drewN {w : World} {A : Option Addr} {cs : List Value} (h : RdV w A cs) (n : Nat) : RdV (w.drewN n) A cs := h
theorem RdV.nil_ {w : World} {A : Option Addr} : RdV w A [] := .inl rfl
theorem RdV.pos {w : World} {A : Option Addr} {cs : List Value} (h : RdV w A cs) {k : Nat} (hk : k < cs.length) :
    ∃ b off, A = some ⟨b, off, none⟩ ∧ b < w.heap.size ∧ ∀ k (h : k < cs.length), w.cell? ⟨b, off + k, none⟩ = some cs[k] := by
  rcases h with h | h
  · subst h; simp at hk
  · exact h

/-- block g is just the cells cs of element type t, none frozen -/
def Blk (w : World) (g : Nat) (t : TypeId) (cs : List Value) : Prop := w.heap[g]? = some (.cells cs.toArray t (0, 0))
section
variable {w w' : World} {g : Nat} {t : TypeId} {cs : List Value}
theorem Blk.lt (h : Blk w g t cs) : g < w.heap.size := by
  rcases Nat.lt_or_ge g w.heap.size with hlt | hge
  · exact hlt
  · unfold Blk at h; rw [Array.getElem?_eq_none hge] at h; cases h
theorem Blk.cell (h : Blk w g t cs) (i : Nat) : w.cell? ⟨g, i, none⟩ = cs[i]? := by
  have := cell_of_row w g i cs.toArray t (0, 0) h
  simpa using this
theorem Blk.cellAt (h : Blk w g t cs) (i : Nat) (hi : i < cs.length) : w.cell? ⟨g, i, none⟩ = some cs[i] := by
  rw [h.cell, List.getElem?_eq_getElem hi]
theorem Blk.frozen (h : Blk w g t cs) (i : Nat) : w.frozen? ⟨g, i, none⟩ = false := by
  unfold Blk at h
  simp [World.frozen?, h]
theorem Blk.new (w : World) (t : TypeId) (cs : List Value) : Blk (w.alloc (.cells cs.toArray t)) w.heap.size t cs := heap_alloc_new w _
theorem Blk.set_ (h : Blk w g t cs) (i : Nat) (u : Value) : Blk (w.setCell ⟨g, i, none⟩ u) g t (cs.set i u) := by
  unfold Blk at h ⊢
  simp [World.setCell, Array.getElem?_modify, h]
theorem Blk.far (h : Blk w g t cs) {p : Addr} (hp : g ≠ p.block) (u : Value) : Blk (w.setCell p u) g t cs := (Below.heap_setCell w p u g hp).trans h
theorem Blk.alloc (h : Blk w g t cs) (o : Obj) : Blk (w.alloc o) g t cs := (Below.heap_alloc w o g h.lt).trans h
theorem Blk.below {B : Nat} (h : Blk w g t cs) (hb : Below B w w') (hg : g < B) : Blk w' g t cs := (hb.block g hg).trans h
theorem Blk.later (h : Blk w g t cs) (hb : Below w.heap.size w w') : Blk w' g t cs := h.below hb h.lt
theorem Blk.drew (h : Blk w g t cs) : Blk w.drew g t cs := h
theorem Blk.drewN (h : Blk w g t cs) (n : Nat) : Blk (w.drewN n) g t cs := h
theorem Blk.rd (h : Blk w g t cs) : RdV w (some ⟨g, 0, none⟩) cs :=
  .inr ⟨g, 0, rfl, h.lt, fun k hk => by rw [Nat.zero_add]; exact h.cellAt k hk⟩
theorem Blk.rdTake (h : Blk w g t cs) (n : Nat) : RdV w (some ⟨g, 0, none⟩) (cs.take n) :=
  .inr ⟨g, 0, rfl, h.lt, fun k hk => by
    rw [Nat.zero_add, List.getElem_take]
    exact h.cellAt k (by rw [List.length_take] at hk; omega)⟩
end

def ints (zs : List Int) : List Value := zs.map (.int .i64)
def bools (bs : List Bool) : List Value := bs.map .bool
theorem ints_len (zs : List Int) : (ints zs).length = zs.length := by simp [ints]
theorem bools_len (bs : List Bool) : (bools bs).length = bs.length := by simp [bools]
theorem ints_at (zs : List Int) (k : Nat) (h : k < (ints zs).length) : (ints zs)[k] = .int .i64 (zs[k]'(by simpa [ints] using h)) := by simp [ints]
theorem bools_at (bs : List Bool) (k : Nat) (h : k < (bools bs).length) : (bools bs)[k] = .bool (bs[k]'(by simpa [bools] using h)) := by simp [bools]

theorem made_one (z : Value) (n : Nat) : madeCells #[z] n = (List.replicate n z).toArray := by
  apply Array.ext'
  simp [madeCells]
  apply List.ext_getElem <;> simp [Nat.mod_one]

/-- a copy of the cells cs after k cells: the rest is still the zero value z -/
def cpV (z : Value) (cs : List Value) (k : Nat) : List Value := cs.take k ++ List.replicate (cs.length - k) z
theorem cpV_zero (z : Value) (cs : List Value) : cpV z cs 0 = List.replicate cs.length z := by simp [cpV]
theorem cpV_all (z : Value) (cs : List Value) : cpV z cs cs.length = cs := by simp [cpV]
theorem cpV_len (z : Value) (cs : List Value) (k : Nat) (h : k ≤ cs.length) : (cpV z cs k).length = cs.length := by simp [cpV]; omega
theorem cpV_set (z : Value) (cs : List Value) (k : Nat) (h : k < cs.length) : (cpV z cs k).set k cs[k] = cpV z cs (k + 1) := by
  have hl : (cs.take k).length = k := by simp; omega
  unfold cpV
  rw [List.set_append_right _ _ (by omega), hl, Nat.sub_self]
  obtain ⟨m, hm⟩ : ∃ m, cs.length - k = m + 1 := ⟨cs.length - k - 1, by omega⟩
  have hm' : cs.length - (k + 1) = m := by omega
  rw [hm, hm', List.replicate_succ, List.set_cons_zero, List.take_succ_eq_append_getElem h, List.append_assoc]
  rfl
end Go.Proofs.YtcdjgbechigepaaDoor
