/- Several texts of the proof in one; each says at its head what it proves; no condition. -/
import Derived.WalkKit
import Derived.ProofKit
import Derived.OpenShut
import Derived.ShutString
import Derived.ChangeOld
import Derived.Below
import Derived.Lib.Hide
import Derived.Laws.MakeOwn
import Derived.Deep.OwnRows
import Derived.Deep.Draws
import Derived.Laws.OwnMore
import Derived.Test.YtbllbpjlkechdaaGreatChecked
import Derived.Maps.AppendAt
import Derived.OwnWalk
section
/- Plain words for memory, no program in sight: cells that can be read, a block that is known whole, the frame of a call. -/
namespace Go.Proofs.YtbllbpjlkechdaaGreat
open Go.ChangeShapes Go.WideShapes Go.ChangeAt Go.RowKit

theorem ret_int {k : IntKind} {a b : Int} (h : a = b) : Ending.returned (.int k a) = .returned (.int k b) := by rw [h]
theorem ret_bool {a b : Bool} (h : a = b) : Ending.returned (.bool a) = .returned (.bool b) := by rw [h]

/-- two calls, one behind the other: what was there ahead of the first is as it was -/
theorem below_trans {w w1 w2 : World} (h : Below w.heap.size w w1) (k : Below w1.heap.size w1 w2) : Below w.heap.size w w2 := h.trans (k.mono h.size)

theorem below_drewN {B : Nat} {a w : World} (h : Below B a w) (n : Nat) : Below B a (w.drewN n) := ⟨h.os, h.tape, h.output, h.size, h.block⟩

/-- the cells cs can be read from the slice address A on -/
def RdV (w : World) (A : Option Addr) (cs : List Value) : Prop :=
  cs = [] ∨ ∃ b off, A = some ⟨b, off, none⟩ ∧ b < w.heap.size ∧ ∀ k (h : k < cs.length), w.cell? ⟨b, off + k, none⟩ = some cs[k]
theorem RdV.below {w w' : World} {A : Option Addr} {cs : List Value} (h : RdV w A cs) (hb : Below w.heap.size w w') : RdV w' A cs := by
  rcases h with h | ⟨b, off, rfl, hlt, hc⟩
  · exact .inl h
  · exact .inr ⟨b, off, rfl, Nat.lt_of_lt_of_le hlt hb.size, fun k hk => (hb.cell (p := ⟨b, off + k, none⟩) hlt).trans (hc k hk)⟩
theorem RdV.drewN {w : World} {A : Option Addr} {cs : List Value} (h : RdV w A cs) (n : Nat) : RdV (w.drewN n) A cs := h
theorem RdV.nil_ {w : World} {A : Option Addr} : RdV w A [] := .inl rfl
theorem RdV.pos {w : World} {A : Option Addr} {cs : List Value} (h : RdV w A cs) {k : Nat} (hk : k < cs.length) :
    ∃ b off, A = some ⟨b, off, none⟩ ∧ b < w.heap.size ∧ ∀ k (h : k < cs.length), w.cell? ⟨b, off + k, none⟩ = some cs[k] := by
  rcases h with h | h
  · subst h; simp at hk
  · exact h

/-- block g is just the cells cs of element type t, none frozen -/
def Blk (w : World) (g : Nat) (t : TypeId) (cs : List Value) : Prop := w.heap[g]? = some (.cells cs.toArray t (0, 0))
section
variable {w w' : World} {g : Nat} {t : TypeId} {cs : List Value}
theorem Blk.lt (h : Blk w g t cs) : g < w.heap.size := by
  rcases Nat.lt_or_ge g w.heap.size with hlt | hge
  · exact hlt
  · unfold Blk at h; rw [Array.getElem?_eq_none hge] at h; cases h
theorem Blk.cell (h : Blk w g t cs) (i : Nat) : w.cell? ⟨g, i, none⟩ = cs[i]? := by
  have := cell_of_row w g i cs.toArray t (0, 0) h
  simpa using this
theorem Blk.cellAt (h : Blk w g t cs) (i : Nat) (hi : i < cs.length) : w.cell? ⟨g, i, none⟩ = some cs[i] := by
  rw [h.cell, List.getElem?_eq_getElem hi]
theorem Blk.frozen (h : Blk w g t cs) (i : Nat) : w.frozen? ⟨g, i, none⟩ = false := by
  unfold Blk at h
  simp [World.frozen?, h]
theorem Blk.new (w : World) (t : TypeId) (cs : List Value) : Blk (w.alloc (.cells cs.toArray t)) w.heap.size t cs := heap_alloc_new w _
theorem Blk.set_ (h : Blk w g t cs) (i : Nat) (u : Value) : Blk (w.setCell ⟨g, i, none⟩ u) g t (cs.set i u) := by
  unfold Blk at h ⊢
  simp [World.setCell, Array.getElem?_modify, h]
theorem Blk.far (h : Blk w g t cs) {p : Addr} (hp : g ≠ p.block) (u : Value) : Blk (w.setCell p u) g t cs := (Below.heap_setCell w p u g hp).trans h
theorem Blk.alloc (h : Blk w g t cs) (o : Obj) : Blk (w.alloc o) g t cs := (Below.heap_alloc w o g h.lt).trans h
theorem Blk.below {B : Nat} (h : Blk w g t cs) (hb : Below B w w') (hg : g < B) : Blk w' g t cs := (hb.block g hg).trans h
theorem Blk.later (h : Blk w g t cs) (hb : Below w.heap.size w w') : Blk w' g t cs := h.below hb h.lt
theorem Blk.drew (h : Blk w g t cs) : Blk w.drew g t cs := h
theorem Blk.drewN (h : Blk w g t cs) (n : Nat) : Blk (w.drewN n) g t cs := h
theorem Blk.rd (h : Blk w g t cs) : RdV w (some ⟨g, 0, none⟩) cs :=
  .inr ⟨g, 0, rfl, h.lt, fun k hk => by rw [Nat.zero_add]; exact h.cellAt k hk⟩
theorem Blk.rdTake (h : Blk w g t cs) (n : Nat) : RdV w (some ⟨g, 0, none⟩) (cs.take n) :=
  .inr ⟨g, 0, rfl, h.lt, fun k hk => by
    rw [Nat.zero_add, List.getElem_take]
    exact h.cellAt k (by rw [List.length_take] at hk; omega)⟩
end

def ints (zs : List Int) : List Value := zs.map (.int .i64)
def bools (bs : List Bool) : List Value := bs.map .bool
theorem ints_len (zs : List Int) : (ints zs).length = zs.length := by simp [ints]
theorem bools_len (bs : List Bool) : (bools bs).length = bs.length := by simp [bools]
theorem ints_at (zs : List Int) (k : Nat) (h : k < (ints zs).length) : (ints zs)[k] = .int .i64 (zs[k]'(by simpa [ints] using h)) := by simp [ints]
theorem bools_at (bs : List Bool) (k : Nat) (h : k < (bools bs).length) : (bools bs)[k] = .bool (bs[k]'(by simpa [bools] using h)) := by simp [bools]

theorem made_one (z : Value) (n : Nat) : madeCells #[z] n = (List.replicate n z).toArray := by
  apply Array.ext'
  simp [madeCells]
  apply List.ext_getElem <;> simp [Nat.mod_one]

/-- a copy of the cells cs after k cells: the rest is still the zero value z -/
def cpV (z : Value) (cs : List Value) (k : Nat) : List Value := cs.take k ++ List.replicate (cs.length - k) z
theorem cpV_zero (z : Value) (cs : List Value) : cpV z cs 0 = List.replicate cs.length z := by simp [cpV]
theorem cpV_all (z : Value) (cs : List Value) : cpV z cs cs.length = cs := by simp [cpV]
theorem cpV_len (z : Value) (cs : List Value) (k : Nat) (h : k ≤ cs.length) : (cpV z cs k).length = cs.length := by simp [cpV]; omega
theorem cpV_set (z : Value) (cs : List Value) (k : Nat) (h : k < cs.length) : (cpV z cs k).set k cs[k] = cpV z cs (k + 1) := by
  have hl : (cs.take k).length = k := by simp; omega
  unfold cpV
  rw [List.set_append_right _ _ (by omega), hl, Nat.sub_self]
  obtain ⟨m, hm⟩ : ∃ m, cs.length - k = m + 1 := ⟨cs.length - k - 1, by omega⟩
  have hm' : cs.length - (k + 1) = m := by omega
  rw [hm, hm', List.replicate_succ, List.set_cons_zero, List.take_succ_eq_append_getElem h, List.append_assoc]
  rfl
end Go.Proofs.YtbllbpjlkechdaaGreat
end
section
/- What a row's reading of its arguments gives to a walk. -/
namespace Go.Proofs.YtbllbpjlkechdaaGreat
open Go.ChangeShapes Go.WideShapes Go.ChangeAt Go.RowKit

theorem own : ownKnob Tryz.prog.godebug = none := by kernel_rfl
theorem laidOut : laidOutB Tryz.prog = true := by kernel_rfl

/-- a slice of numbers of kind k that came in: it reads as zs -/
def IsRow (k : IntKind) (w : World) (A : Option Addr) (n : Nat) (zs : List Int) : Prop :=
  zs.length = n ∧ n ≤ maxLen ∧ RdV w A (zs.map (.int k)) ∧ ∀ z ∈ zs, (Lit.int k z).wf = true

section
variable {H : Type} {enc : TypeId × Value → H} {P : Program} {w : World} {base : Nat} {spare : Nat → Bool} {held : Bool}
theorem row_of_cells {k : IntKind} {x : Addr} {zs : List Int} (n : Nat) (hn : n ≤ zs.length) (hc : ∀ i, i < zs.length → w.cell? (x.add i) = some (.int k (zs.getD i 0))) :
    RdV w (some x) ((zs.take n).map (.int k)) := by
  rcases Nat.eq_zero_or_pos n with h0 | h0
  · subst h0; exact .inl (by simp)
  · obtain ⟨b, off, spot⟩ := x
    have h1 := hc 0 (by omega)
    have hs : spot = none := by simpa [Addr.add] using World.cell?_spot h1
    subst hs
    have hlt : b < w.heap.size := by
      have := World.block_lt_of_cell? w _ h1
      simpa [Addr.add] using this
    refine .inr ⟨b, off, rfl, hlt, fun j hj => ?_⟩
    simp only [List.length_map, List.length_take] at hj
    have h2 := hc j (by omega)
    have he : (⟨b, off, none⟩ : Addr).add j = ⟨b, off + j, none⟩ := by
      unfold Addr.add; split <;> simp_all
    rw [he] at h2
    rw [h2]
    have : j < zs.length := by omega
    simp [this]

theorem read_row {t e : TypeId} {k : IntKind} {A : Option Addr} {n c : Nat} {d : DataW H} {p : List MemPlace} (ht : P.underlying t = some (.slice e)) (he : P.underlying e = some (.int k)) (hC : P.cellsOf e = 1)
    (h : DataW.Trod enc P w base spare held t (.slice A n c) d p) : ∃ zs, IsRow k w A n zs := by
  obtain ⟨fuel, hf⟩ := h
  rcases open_ints ht he hC hf with ⟨hcs, _⟩ | ⟨x, l, c', zs, hcs, _, hl, hm, hz, _, hcell, hwz⟩
  · simp [Value.cells] at hcs
    obtain ⟨rfl, rfl, rfl⟩ := hcs
    exact ⟨[], rfl, by decide, .inl rfl, by simp⟩
  · simp [Value.cells] at hcs
    obtain ⟨rfl, rfl, rfl⟩ := hcs
    have hz' : n ≤ zs.length := by rw [hz]; split <;> omega
    exact ⟨zs.take n, by simp; omega, by omega, row_of_cells n (by omega) hcell, fun z hz => hwz z (List.mem_of_mem_take hz)⟩
end
end Go.Proofs.YtbllbpjlkechdaaGreat
end
section
/- A number within bounds, as a Boolean. -/
namespace Go.Proofs.YtbllbpjlkechdaaGreat
def inI (a lo hi : Int) : Bool := decide (lo ≤ a) && decide (a ≤ hi)
end Go.Proofs.YtbllbpjlkechdaaGreat
end
section
/- Boxes and differences in plain words, no program in sight. -/
namespace Go.Proofs.YtbllbpjlkechdaaGreat
set_option linter.unusedVariables false
structure BoxV where
  f0 : Int
  f1 : Int
  f2 : Int
  f3 : Int
  f4 : Bool
deriving DecidableEq
instance : Inhabited BoxV := ⟨⟨0, 0, 0, 0, false⟩⟩
structure DiffV where
  k : Int
  b : BoxV
deriving DecidableEq
instance : Inhabited DiffV := ⟨⟨0, default⟩⟩
theorem inI_iff {a lo hi : Int} : inI a lo hi = true ↔ lo ≤ a ∧ a ≤ hi := by simp [inI]
def bOk (x : BoxV) : Bool := ((inI x.f0 1 999 && inI x.f1 1 30) && inI x.f2 0 3) && inI x.f3 0 6
theorem bOk_id {x : BoxV} (h : bOk x = true) : 1 ≤ x.f0 ∧ x.f0 ≤ 999 := by
  simp only [bOk, Bool.and_eq_true, inI_iff] at h
  omega
def isF (id : Int) (x : BoxV) : Bool := decide (x.f0 = id)
theorem isF_iff {id : Int} {x : BoxV} : isF id x = true ↔ x.f0 = id := by simp [isF]
/-- is there a box with the id -/
def hasF (zs : List BoxV) (id : Int) : Bool := zs.any (isF id)
theorem hasF_iff {zs : List BoxV} {id : Int} : hasF zs id = true ↔ ∃ x ∈ zs, x.f0 = id := by simp [hasF, isF]
/-- where the first box with the id stands -/
def findF (zs : List BoxV) (id : Int) : Option Nat := zs.findIdx? (isF id)
def idxI (o : Option Nat) : Int := match o with | some i => i | none => -1
theorem findF_none {zs : List BoxV} {id : Int} : findF zs id = none ↔ ∀ x ∈ zs, x.f0 ≠ id := by
  simp [findF, List.findIdx?_eq_none_iff, isF]
theorem findF_some {zs : List BoxV} {id : Int} {i : Nat} (h : findF zs id = some i) : ∃ hi : i < zs.length, zs[i].f0 = id ∧ zs.find? (isF id) = some zs[i] := by
  unfold findF at h
  obtain ⟨hi, h1, h2⟩ := List.findIdx?_eq_some_iff_getElem.1 h
  refine ⟨hi, isF_iff.1 h1, ?_⟩
  rw [List.find?_eq_some_iff_getElem]
  exact ⟨h1, i, hi, rfl, fun j hj => by simpa using h2 j hj⟩
theorem findF_find {zs : List BoxV} {id : Int} : findF zs id = none ↔ zs.find? (isF id) = none := by
  rw [findF_none, List.find?_eq_none]
  simp [isF]
theorem findF_has {zs : List BoxV} {id : Int} : decide (0 ≤ idxI (findF zs id)) = hasF zs id := by
  cases h : findF zs id with
  | none =>
    have : hasF zs id = false := by
      cases h2 : hasF zs id with
      | false => rfl
      | true =>
        obtain ⟨x, hx, he⟩ := hasF_iff.1 h2
        exact absurd he (findF_none.1 h x hx)
    rw [this]; rfl
  | some i =>
    obtain ⟨hi, he, _⟩ := findF_some h
    have : hasF zs id = true := hasF_iff.2 ⟨_, List.getElem_mem hi, he⟩
    rw [this]
    simp [idxI]
/-- a find that steps: behind k boxes that are not it -/
theorem findF_step {zs : List BoxV} {id : Int} {k : Nat} (hk : k < zs.length) (h : ∀ x ∈ zs.take k, x.f0 ≠ id) : (zs[k].f0 = id → findF zs id = some k) ∧ (zs[k].f0 ≠ id → ∀ x ∈ zs.take (k + 1), x.f0 ≠ id) := by
  constructor
  · intro he
    unfold findF
    rw [List.findIdx?_eq_some_iff_getElem]
    refine ⟨hk, isF_iff.2 he, fun j hj => ?_⟩
    have : zs[j]'(by omega) ∈ zs.take k := List.mem_take_iff_getElem.2 ⟨j, by omega, rfl⟩
    have := h _ this
    simpa [isF] using this
  · intro he x hx
    rw [List.take_succ_eq_append_getElem hk, List.mem_append] at hx
    rcases hx with hx | hx
    · exact h x hx
    · rw [List.mem_singleton] at hx; subst hx; exact he
theorem findF_end {zs : List BoxV} {id : Int} (h : ∀ x ∈ zs.take zs.length, x.f0 ≠ id) : findF zs id = none := by
  rw [List.take_length] at h
  exact findF_none.2 h
/-- valid boxes: from behind the boxes p on -/
def okGo : List BoxV → List BoxV → Bool
  | _, [] => true
  | p, x :: r => (bOk x && !hasF p x.f0) && okGo (p ++ [x]) r
def boxesOk (zs : List BoxV) : Bool := okGo [] zs && decide (zs.length ≤ 10)
theorem okGo_step {zs p : List BoxV} {k : Nat} (h : k < zs.length) : okGo (p ++ zs.take k) (zs.drop k) = ((bOk zs[k] && !hasF (p ++ zs.take k) zs[k].f0) && okGo (p ++ zs.take (k + 1)) (zs.drop (k + 1))) := by
  rw [List.drop_eq_getElem_cons h, okGo, List.take_succ_eq_append_getElem h, List.append_assoc]
theorem okGo_at {zs : List BoxV} {k : Nat} (h : k < zs.length) : okGo (zs.take k) (zs.drop k) = ((bOk zs[k] && !hasF (zs.take k) zs[k].f0) && okGo (zs.take (k + 1)) (zs.drop (k + 1))) := by
  have := okGo_step (p := []) h
  simpa using this
/-- in the whole list the box k stands first at k or ahead of it -/
theorem findF_lt {zs : List BoxV} {k : Nat} (h : k < zs.length) : decide (idxI (findF zs zs[k].f0) < (k : Int)) = hasF (zs.take k) zs[k].f0 := by
  have hle : hasF (zs.take k) zs[k].f0 = true ↔ idxI (findF zs zs[k].f0) < (k : Int) := by
    cases hf : findF zs zs[k].f0 with
    | none => exact absurd rfl (findF_none.1 hf _ (List.getElem_mem h))
    | some i =>
      obtain ⟨hi, he, _⟩ := findF_some hf
      unfold findF at hf
      obtain ⟨_, _, h2⟩ := List.findIdx?_eq_some_iff_getElem.1 hf
      constructor
      · intro ha
        obtain ⟨x, hx, hxe⟩ := hasF_iff.1 ha
        obtain ⟨j, hj, rfl⟩ := List.mem_take_iff_getElem.1 hx
        rcases Nat.lt_or_ge j i with hlt | hge
        · have := h2 j hlt
          simp only [isF, decide_eq_true_eq] at this
          exact absurd hxe this
        · simp only [idxI]; omega
      · intro hlt
        simp only [idxI] at hlt
        exact hasF_iff.2 ⟨zs[i], List.mem_take_iff_getElem.2 ⟨i, by omega, rfl⟩, he⟩
  cases hh : hasF (zs.take k) zs[k].f0 with
  | true => rw [decide_eq_true_eq]; exact hle.1 hh
  | false =>
    rw [decide_eq_false_iff_not]
    intro h2
    rw [hle.2 h2] at hh
    cases hh
theorem okGo_iff {zs p : List BoxV} : okGo p zs = true ↔ (∀ x ∈ zs, bOk x = true ∧ ∀ y ∈ p, y.f0 ≠ x.f0) ∧ zs.Pairwise (fun a b => a.f0 ≠ b.f0) := by
  induction zs generalizing p with
  | nil => simp [okGo]
  | cons z zs ih =>
    have hh : hasF p z.f0 = false ↔ ∀ y ∈ p, y.f0 ≠ z.f0 := by
      rw [← Bool.not_eq_true, hasF_iff]
      simp
    simp only [okGo, Bool.and_eq_true, Bool.not_eq_true', ih, hh, List.mem_cons, List.pairwise_cons, List.mem_append, List.not_mem_nil, or_false]
    constructor
    · rintro ⟨⟨h1, h2⟩, h3, h4⟩
      refine ⟨fun x hx => ?_, fun x hx => ?_, h4⟩
      · rcases hx with rfl | hx
        · exact ⟨h1, h2⟩
        · exact ⟨(h3 x hx).1, fun y hy => (h3 x hx).2 y (.inl hy)⟩
      · exact (h3 x hx).2 z (.inr rfl)
    · rintro ⟨h1, h2, h3⟩
      refine ⟨⟨(h1 z (.inl rfl)).1, (h1 z (.inl rfl)).2⟩, fun x hx => ⟨(h1 x (.inr hx)).1, fun y hy => ?_⟩, h3⟩
      rcases hy with hy | rfl
      · exact (h1 x (.inr hx)).2 y hy
      · exact h2 x hx
theorem boxesOk_iff {zs : List BoxV} : boxesOk zs = true ↔ (∀ x ∈ zs, bOk x = true) ∧ zs.Pairwise (fun a b => a.f0 ≠ b.f0) ∧ zs.length ≤ 10 := by
  simp only [boxesOk, Bool.and_eq_true, decide_eq_true_eq, okGo_iff, List.not_mem_nil]
  constructor
  · rintro ⟨⟨h1, h2⟩, h3⟩; exact ⟨fun x hx => (h1 x hx).1, h2, h3⟩
  · rintro ⟨h1, h2, h3⟩; exact ⟨⟨fun x hx => ⟨h1 x hx, fun y hy => by cases hy⟩, h2⟩, h3⟩
theorem boxesOk_perm {a b : List BoxV} (h : a.Perm b) : boxesOk a = boxesOk b := by
  have key : ∀ {a b : List BoxV}, a.Perm b → boxesOk a = true → boxesOk b = true := by
    intro a b h ha
    obtain ⟨h1, h2, h3⟩ := boxesOk_iff.1 ha
    exact boxesOk_iff.2 ⟨fun x hx => h1 x (h.mem_iff.2 hx), h.pairwise h2 (fun hab e => hab e.symm), by rw [← h.length_eq]; exact h3⟩
  cases ha : boxesOk a with
  | true => exact (key h ha).symm
  | false =>
    cases hb : boxesOk b with
    | false => rfl
    | true => rw [key h.symm hb] at ha; cases ha
/-- two boxes of valid boxes with one id are one -/
theorem box_uniq {zs : List BoxV} (h : zs.Pairwise (fun a b => a.f0 ≠ b.f0)) {x y : BoxV} (hx : x ∈ zs) (hy : y ∈ zs) (e : x.f0 = y.f0) : x = y := by
  induction zs with
  | nil => cases hx
  | cons z zs ih =>
    obtain ⟨h1, h2⟩ := List.pairwise_cons.1 h
    rcases List.mem_cons.1 hx with ex | mx
    · rcases List.mem_cons.1 hy with ey | my
      · rw [ex, ey]
      · exact absurd (by rw [← ex]; exact e) (h1 y my)
    · rcases List.mem_cons.1 hy with ey | my
      · exact absurd (by rw [← ey]; exact e.symm) (h1 x mx)
      · exact ih h2 mx my
theorem find_mem {zs : List BoxV} (h : zs.Pairwise (fun a b => a.f0 ≠ b.f0)) {x : BoxV} {id : Int} : zs.find? (isF id) = some x ↔ x ∈ zs ∧ x.f0 = id := by
  constructor
  · intro hf
    exact ⟨List.mem_of_find?_eq_some hf, isF_iff.1 (List.find?_some hf)⟩
  · rintro ⟨hx, he⟩
    cases hf : zs.find? (isF id) with
    | none =>
      have := List.find?_eq_none.1 hf x hx
      exact absurd (isF_iff.2 he) this
    | some y =>
      have hy := List.mem_of_find?_eq_some hf
      have hye := isF_iff.1 (List.find?_some hf)
      rw [box_uniq h hx hy (he.trans hye.symm)]
theorem find_none {zs : List BoxV} {id : Int} : zs.find? (isF id) = none ↔ ∀ x ∈ zs, x.f0 ≠ id := by rw [← findF_find, findF_none]
theorem find_perm {a b : List BoxV} (h : a.Perm b) (ha : a.Pairwise (fun a b => a.f0 ≠ b.f0)) (id : Int) : a.find? (isF id) = b.find? (isF id) := by
  have hb := h.pairwise ha (fun hab e => hab e.symm)
  cases hf : b.find? (isF id) with
  | none => exact find_none.2 (fun x hx => find_none.1 hf x (h.mem_iff.1 hx))
  | some x =>
    obtain ⟨h1, h2⟩ := (find_mem hb).1 hf
    exact (find_mem ha).2 ⟨h.mem_iff.2 h1, h2⟩
/-- lists by ascending keys that have the same members are one -/
theorem asc_ext {α : Type} (key : α → Int) {a b : List α} (ha : a.Pairwise (fun x y => key x < key y)) (hb : b.Pairwise (fun x y => key x < key y)) (h : ∀ x, x ∈ a ↔ x ∈ b) : a = b := by
  induction a generalizing b with
  | nil =>
    cases b with
    | nil => rfl
    | cons y b => exact absurd ((h y).2 (List.mem_cons_self ..)) (by simp)
  | cons x a ih =>
    cases b with
    | nil => exact absurd ((h x).1 (List.mem_cons_self ..)) (by simp)
    | cons y b =>
      obtain ⟨a1, a2⟩ := List.pairwise_cons.1 ha
      obtain ⟨b1, b2⟩ := List.pairwise_cons.1 hb
      have hxy : x = y := by
        rcases List.mem_cons.1 ((h x).1 (List.mem_cons_self ..)) with e | hx
        · exact e
        · rcases List.mem_cons.1 ((h y).2 (List.mem_cons_self ..)) with e | hy
          · exact e.symm
          · have q1 := a1 y hy; have q2 := b1 x hx; omega
      subst hxy
      congr 1
      refine ih a2 b2 fun z => ?_
      constructor
      · intro hz
        rcases List.mem_cons.1 ((h z).1 (List.mem_cons_of_mem _ hz)) with rfl | hz'
        · have := a1 z hz; omega
        · exact hz'
      · intro hz
        rcases List.mem_cons.1 ((h z).2 (List.mem_cons_of_mem _ hz)) with rfl | hz'
        · have := b1 z hz; omega
        · exact hz'
/-- what f gives for the ids 1 to k -/
def coll {α : Type} (f : Int → Option α) (k : Nat) : List α := (List.range k).filterMap (fun (i : Nat) => f ((i : Int) + 1))
theorem coll_zero {α : Type} (f : Int → Option α) : coll f 0 = [] := rfl
theorem coll_succ {α : Type} (f : Int → Option α) (k : Nat) : coll f (k + 1) = coll f k ++ (f ((k : Int) + 1)).toList := by
  unfold coll
  rw [List.range_succ, List.filterMap_append]
  cases h : f ((k : Int) + 1) <;> simp [h]
theorem coll_mem {α : Type} {f : Int → Option α} {k : Nat} {x : α} : x ∈ coll f k ↔ ∃ i : Nat, i < k ∧ f ((i : Int) + 1) = some x := by
  simp [coll, List.mem_filterMap]
theorem coll_asc {α : Type} (key : α → Int) {f : Int → Option α} (hf : ∀ id x, f id = some x → key x = id) (k : Nat) : (coll f k).Pairwise (fun x y => key x < key y) := by
  induction k with
  | zero => exact List.Pairwise.nil
  | succ k ih =>
    rw [coll_succ, List.pairwise_append]
    refine ⟨ih, ?_, fun a ha b hb => ?_⟩
    · cases f ((k : Int) + 1) <;> simp
    · obtain ⟨i, hi, h1⟩ := coll_mem.1 ha
      rw [Option.mem_toList] at hb
      have e1 := hf _ _ h1
      have e2 := hf _ _ hb
      omega
theorem coll_len {α : Type} (f : Int → Option α) (k : Nat) : (coll f k).length ≤ k := by
  unfold coll
  have := List.length_filterMap_le (fun (i : Nat) => f ((i : Int) + 1)) (List.range k)
  simpa using this
/-- the boxes by ascending ids -/
def collB (zs : List BoxV) : List BoxV := coll (fun id => zs.find? (isF id)) 999
def sortB (zs : List BoxV) : List BoxV := if boxesOk zs then collB zs else []
theorem collB_asc (zs : List BoxV) : (collB zs).Pairwise (fun x y => x.f0 < y.f0) := coll_asc BoxV.f0 (fun id x h => isF_iff.1 (List.find?_some h)) 999
theorem collB_mem {zs : List BoxV} (h : boxesOk zs = true) {x : BoxV} : x ∈ collB zs ↔ x ∈ zs := by
  obtain ⟨h1, h2, h3⟩ := boxesOk_iff.1 h
  unfold collB
  rw [coll_mem]
  constructor
  · rintro ⟨i, _, hf⟩; exact List.mem_of_find?_eq_some hf
  · intro hx
    have := bOk_id (h1 x hx)
    refine ⟨(x.f0 - 1).toNat, by omega, (find_mem h2).2 ⟨hx, by omega⟩⟩
/-- whatever is a permutation and ascends is it -/
theorem collB_uniq {zs ys : List BoxV} (h : boxesOk zs = true) (hp : ys.Perm zs) (ha : ys.Pairwise (fun x y => x.f0 ≤ y.f0)) : ys = collB zs := by
  obtain ⟨h1, h2, h3⟩ := boxesOk_iff.1 h
  have hn := hp.symm.pairwise h2 (fun hab e => hab e.symm)
  have ha' : ys.Pairwise (fun x y => x.f0 < y.f0) := by
    have := ha.and hn
    exact this.imp (fun ⟨a, b⟩ => by omega)
  exact asc_ext BoxV.f0 ha' (collB_asc zs) (fun x => by rw [collB_mem h, hp.mem_iff])
theorem perm_of_mem {α : Type} [DecidableEq α] {a b : List α} (ha : a.Nodup) (hb : b.Nodup) (h : ∀ x, x ∈ a ↔ x ∈ b) : a.Perm b := by
  rw [List.perm_iff_count]
  intro x
  rw [ha.count, hb.count]
  simp only [h]
theorem ne_nodup {α : Type} {key : α → Int} {a : List α} (h : a.Pairwise (fun x y => key x ≠ key y)) : a.Nodup := h.imp (fun h e => h (by rw [e]))
theorem lt_nodup {α : Type} {key : α → Int} {a : List α} (h : a.Pairwise (fun x y => key x < key y)) : a.Nodup := ne_nodup (key := key) (h.imp (fun h e => by omega))
theorem collB_perm {zs : List BoxV} (h : boxesOk zs = true) : (collB zs).Perm zs :=
  perm_of_mem (lt_nodup (collB_asc zs)) (ne_nodup (key := BoxV.f0) (boxesOk_iff.1 h).2.1) (fun x => collB_mem h)
theorem collB_len {zs : List BoxV} (h : boxesOk zs = true) : (collB zs).length = zs.length := (collB_perm h).length_eq
theorem collB_ok {zs : List BoxV} (h : boxesOk zs = true) : boxesOk (collB zs) = true := by rw [boxesOk_perm (collB_perm h)]; exact h
theorem collB_eq {a b : List BoxV} (hp : a.Perm b) (h : boxesOk a = true) : collB a = collB b := by
  have hb : boxesOk b = true := by rw [← boxesOk_perm hp]; exact h
  exact collB_uniq hb ((collB_perm h).trans hp) ((collB_asc a).imp (fun h => by omega))
theorem collB_idem {zs : List BoxV} (h : boxesOk zs = true) : collB (collB zs) = collB zs := collB_eq (collB_perm h) (collB_ok h)
theorem sortB_len (zs : List BoxV) : (sortB zs).length ≤ 10 := by
  unfold sortB
  split
  · next h => rw [collB_len h]; exact (boxesOk_iff.1 h).2.2
  · simp
/-- what there is to tell of an id -/
def diffAt (told seen : List BoxV) (id : Int) : Option DiffV :=
  match told.find? (isF id), seen.find? (isF id) with
  | some a, none => some ⟨0, a⟩
  | none, some b => some ⟨1, b⟩
  | some a, some b => if a = b then none else some ⟨2, b⟩
  | none, none => none
theorem diffAt_id {told seen : List BoxV} {id : Int} {d : DiffV} (h : diffAt told seen id = some d) : d.b.f0 = id := by
  unfold diffAt at h
  split at h
  · next h1 h2 => cases h; exact isF_iff.1 (List.find?_some h1)
  · next h1 h2 => cases h; exact isF_iff.1 (List.find?_some h2)
  · next h1 h2 =>
    split at h
    · cases h
    · cases h; exact isF_iff.1 (List.find?_some h2)
  · cases h
def collD (told seen : List BoxV) : List DiffV := coll (diffAt told seen) 999
def diffsB (told seen : List BoxV) : List DiffV := if (boxesOk told && boxesOk seen) then collD told seen else []
theorem collD_asc (told seen : List BoxV) : (collD told seen).Pairwise (fun x y => x.b.f0 < y.b.f0) := coll_asc (fun d : DiffV => d.b.f0) (fun _ _ h => diffAt_id h) 999
/-- what the first loop tells -/
def goneOr (seen : List BoxV) (b : BoxV) : Option DiffV :=
  match seen.find? (isF b.f0) with
  | none => some ⟨0, b⟩
  | some c => if c = b then none else some ⟨2, c⟩
/-- what the second loop tells -/
def newOr (told : List BoxV) (b : BoxV) : Option DiffV := if hasF told b.f0 then none else some ⟨1, b⟩
theorem goneOr_id {seen : List BoxV} {b : BoxV} {d : DiffV} (h : goneOr seen b = some d) : d.b.f0 = b.f0 := by
  unfold goneOr at h
  split at h
  · cases h; rfl
  · next c hc =>
    split at h
    · cases h
    · cases h; exact isF_iff.1 (List.find?_some hc)
theorem newOr_id {told : List BoxV} {b : BoxV} {d : DiffV} (h : newOr told b = some d) : d.b.f0 = b.f0 := by
  unfold newOr at h
  split at h
  · cases h
  · cases h; rfl
def rawD (told seen : List BoxV) : List DiffV := told.filterMap (goneOr seen) ++ seen.filterMap (newOr told)
theorem rawD_len (told seen : List BoxV) : (rawD told seen).length ≤ told.length + seen.length := by
  unfold rawD
  rw [List.length_append]
  have h1 := List.length_filterMap_le (goneOr seen) told
  have h2 := List.length_filterMap_le (newOr told) seen
  omega
theorem rawD_mem {told seen : List BoxV} (ht : boxesOk told = true) (hs : boxesOk seen = true) {d : DiffV} : d ∈ rawD told seen ↔ d ∈ collD told seen := by
  obtain ⟨t1, t2, _⟩ := boxesOk_iff.1 ht
  obtain ⟨s1, s2, _⟩ := boxesOk_iff.1 hs
  unfold rawD collD
  rw [List.mem_append, List.mem_filterMap, List.mem_filterMap, coll_mem]
  have nat : ∀ x : BoxV, bOk x = true → ∃ i : Nat, i < 999 ∧ (i : Int) + 1 = x.f0 := fun x hx => ⟨(x.f0 - 1).toNat, by have := bOk_id hx; omega, by have := bOk_id hx; omega⟩
  constructor
  · rintro (⟨b, hb, hd⟩ | ⟨b, hb, hd⟩)
    · obtain ⟨i, hi, e⟩ := nat b (t1 b hb)
      refine ⟨i, hi, ?_⟩
      rw [e]
      unfold diffAt
      rw [(find_mem t2).2 ⟨hb, rfl⟩]
      unfold goneOr at hd
      cases hf : seen.find? (isF b.f0) with
      | none => rw [hf] at hd; exact hd
      | some c =>
        rw [hf] at hd
        show (if b = c then none else some (⟨2, c⟩ : DiffV)) = some d
        change (if c = b then none else some (⟨2, c⟩ : DiffV)) = some d at hd
        by_cases hcb : c = b
        · rw [if_pos hcb] at hd; cases hd
        · rw [if_neg hcb] at hd
          rw [if_neg (fun e => hcb e.symm)]; exact hd
    · obtain ⟨i, hi, e⟩ := nat b (s1 b hb)
      refine ⟨i, hi, ?_⟩
      rw [e]
      unfold diffAt
      rw [(find_mem s2).2 ⟨hb, rfl⟩]
      unfold newOr at hd
      by_cases hh : hasF told b.f0 = true
      · rw [if_pos hh] at hd; cases hd
      · rw [if_neg hh] at hd
        have : told.find? (isF b.f0) = none := find_none.2 (fun x hx he => hh (hasF_iff.2 ⟨x, hx, he⟩))
        rw [this]
        exact hd
  · rintro ⟨i, hi, hd⟩
    unfold diffAt at hd
    split at hd
    · next a h1 h2 =>
      cases hd
      obtain ⟨m1, m2⟩ := (find_mem t2).1 h1
      refine .inl ⟨a, m1, ?_⟩
      unfold goneOr
      rw [m2, h2]
    · next b h1 h2 =>
      cases hd
      obtain ⟨m1, m2⟩ := (find_mem s2).1 h2
      refine .inr ⟨b, m1, ?_⟩
      unfold newOr
      have : ¬ hasF told b.f0 = true := fun hh => by
        obtain ⟨x, hx, he⟩ := hasF_iff.1 hh
        exact find_none.1 h1 x hx (he.trans m2)
      rw [if_neg this]
    · next a b h1 h2 =>
      by_cases hab : a = b
      · rw [if_pos hab] at hd; cases hd
      · rw [if_neg hab] at hd
        cases hd
        obtain ⟨m1, m2⟩ := (find_mem t2).1 h1
        refine .inl ⟨a, m1, ?_⟩
        unfold goneOr
        rw [m2, h2]
        show (if b = a then none else some (⟨2, b⟩ : DiffV)) = _
        rw [if_neg (fun e => hab e.symm)]
    · cases hd
theorem filterMap_ne {α : Type} {f : BoxV → Option α} {key : α → Int} (hf : ∀ b d, f b = some d → key d = b.f0) {zs : List BoxV} (h : zs.Pairwise (fun a b => a.f0 ≠ b.f0)) : (zs.filterMap f).Pairwise (fun x y => key x ≠ key y) := by
  rw [List.pairwise_filterMap]
  exact h.imp (fun hab d hd d' hd' => by rw [hf _ _ hd, hf _ _ hd']; exact hab)
theorem rawD_ne {told seen : List BoxV} (ht : boxesOk told = true) (hs : boxesOk seen = true) : (rawD told seen).Pairwise (fun x y => x.b.f0 ≠ y.b.f0) := by
  obtain ⟨t1, t2, _⟩ := boxesOk_iff.1 ht
  obtain ⟨s1, s2, _⟩ := boxesOk_iff.1 hs
  unfold rawD
  rw [List.pairwise_append]
  refine ⟨filterMap_ne (key := fun d : DiffV => d.b.f0) (fun b d h => goneOr_id h) t2, filterMap_ne (key := fun d : DiffV => d.b.f0) (fun b d h => newOr_id h) s2, fun a ha b hb e => ?_⟩
  rw [List.mem_filterMap] at ha hb
  obtain ⟨x, hx, hxd⟩ := ha
  obtain ⟨y, hy, hyd⟩ := hb
  have e1 := goneOr_id hxd
  have e2 := newOr_id hyd
  unfold newOr at hyd
  have : hasF told y.f0 = true := hasF_iff.2 ⟨x, hx, by omega⟩
  rw [if_pos this] at hyd
  cases hyd
theorem collD_uniq {told seen : List BoxV} {ys : List DiffV} (ht : boxesOk told = true) (hs : boxesOk seen = true) (hp : ys.Perm (rawD told seen)) (ha : ys.Pairwise (fun x y => x.b.f0 ≤ y.b.f0)) : ys = collD told seen := by
  have hn := hp.symm.pairwise (rawD_ne ht hs) (fun hab e => hab e.symm)
  have ha' : ys.Pairwise (fun x y => x.b.f0 < y.b.f0) := (ha.and hn).imp (fun ⟨a, b⟩ => by omega)
  exact asc_ext (fun d : DiffV => d.b.f0) ha' (collD_asc told seen) (fun x => by rw [hp.mem_iff, rawD_mem ht hs])
theorem diffsB_len (told seen : List BoxV) : (diffsB told seen).length ≤ 20 := by
  unfold diffsB
  split
  · next h =>
    rw [Bool.and_eq_true] at h
    have hp : (collD told seen).Perm (rawD told seen) := perm_of_mem (lt_nodup (key := fun d : DiffV => d.b.f0) (collD_asc told seen)) (ne_nodup (key := fun d : DiffV => d.b.f0) (rawD_ne h.1 h.2)) (fun x => (rawD_mem h.1 h.2).symm)
    rw [hp.length_eq]
    have := rawD_len told seen
    have := (boxesOk_iff.1 h.1).2.2
    have := (boxesOk_iff.1 h.2).2.2
    omega
  · simp
end Go.Proofs.YtbllbpjlkechdaaGreat
end
section
/- Yards: the plain words. -/
namespace Go.Proofs.YtbllbpjlkechdaaGreat
/-- whether a number is in a list -/
def hasI (zs : List Int) (x : Int) : Bool := zs.contains x
def idI (x : Int) : Bool := decide (1 ≤ x) && decide (x ≤ 999)
def sOk : List Int → List Int → Bool
  | _, [] => true
  | p, x :: r => (idI x && !hasI p x) && sOk (p ++ [x]) r
def stackOk (s : List Int) (high : Int) : Bool := sOk [] s && ((decide (1 ≤ high) && decide (high ≤ 5)) && decide ((s.length : Int) ≤ high))
def dOk : List Int → List Int → Bool
  | _, [] => true
  | p, x :: r => !hasI p x && dOk (p ++ [x]) r
def yOk (high : Int) : List Int → List (List Int) → Bool
  | _, [] => true
  | p, s :: r => stackOk s high && (dOk p s && yOk high (p ++ s) r)
def yardOk (high : Int) (rows : List (List Int)) : Bool := (decide (1 ≤ (rows.length : Int)) && decide ((rows.length : Int) ≤ 5)) && yOk high [] rows
theorem sOk_step {s p : List Int} {k : Nat} (h : k < s.length) : sOk (p ++ s.take k) (s.drop k) = ((idI s[k] && !hasI (p ++ s.take k) s[k]) && sOk (p ++ s.take (k + 1)) (s.drop (k + 1))) := by
  rw [List.drop_eq_getElem_cons h, sOk, List.take_succ_eq_append_getElem h, List.append_assoc]
theorem sOk_end {s p : List Int} {k : Nat} (h : s.length ≤ k) : sOk (p ++ s.take k) (s.drop k) = true := by
  rw [List.drop_of_length_le h, sOk]
theorem dOk_step {s p : List Int} {k : Nat} (h : k < s.length) : dOk (p ++ s.take k) (s.drop k) = (!hasI (p ++ s.take k) s[k] && dOk (p ++ s.take (k + 1)) (s.drop (k + 1))) := by
  rw [List.drop_eq_getElem_cons h, dOk, List.take_succ_eq_append_getElem h, List.append_assoc]
theorem dOk_end {s p : List Int} {k : Nat} (h : s.length ≤ k) : dOk (p ++ s.take k) (s.drop k) = true := by
  rw [List.drop_of_length_le h, dOk]
theorem yOk_step {high : Int} {l : List (List Int)} {k : Nat} (h : k < l.length) : yOk high ((l.take k).flatten) (l.drop k) = (stackOk l[k] high && (dOk ((l.take k).flatten) l[k] && yOk high ((l.take (k + 1)).flatten) (l.drop (k + 1)))) := by
  rw [List.drop_eq_getElem_cons h, yOk, List.take_succ_eq_append_getElem h, List.flatten_append]
  simp
theorem yOk_end {high : Int} {l : List (List Int)} {k : Nat} (h : l.length ≤ k) : yOk high ((l.take k).flatten) (l.drop k) = true := by
  rw [List.drop_of_length_le h, yOk]
theorem has_step {s : List Int} {k : Nat} {x : Int} (h : k < s.length) (h0 : hasI (s.take k) x = false) (hx : s[k] ≠ x) : hasI (s.take (k + 1)) x = false := by
  rw [List.take_succ_eq_append_getElem h]
  simp only [hasI, List.contains_eq_mem, List.mem_append, List.mem_singleton, decide_eq_false_iff_not] at *
  rintro (h | h)
  · exact h0 h
  · exact hx h.symm
theorem has_yes {s : List Int} {k : Nat} {x : Int} (h : k < s.length) (hx : s[k] = x) : hasI s x = true := by
  simp only [hasI, List.contains_eq_mem, decide_eq_true_eq]
  rw [← hx]
  exact List.getElem_mem h
theorem stackOk_parts {s : List Int} {high : Int} (h : stackOk s high = true) : sOk [] s = true ∧ 1 ≤ high ∧ high ≤ 5 ∧ (s.length : Int) ≤ high := by
  simp only [stackOk, Bool.and_eq_true, decide_eq_true_eq] at h
  exact ⟨h.1, h.2.1.1, h.2.1.2, h.2.2⟩
theorem sOk_ids {p s : List Int} (h : sOk p s = true) : ∀ x ∈ s, 1 ≤ x ∧ x ≤ 999 := by
  induction s generalizing p with
  | nil => intro x hx; simp at hx
  | cons a s ih =>
    simp only [sOk, Bool.and_eq_true, idI, decide_eq_true_eq] at h
    intro x hx
    rcases List.mem_cons.1 hx with rfl | hx
    · exact h.1.1
    · exact ih h.2 x hx
theorem yOk_in {high : Int} {p : List Int} {l : List (List Int)} (h : yOk high p l = true) : ∀ s ∈ l, stackOk s high = true := by
  induction l generalizing p with
  | nil => intro s hs; simp at hs
  | cons a l ih =>
    simp only [yOk, Bool.and_eq_true] at h
    intro s hs
    rcases List.mem_cons.1 hs with rfl | hs
    · exact h.1
    · exact ih h.2.2 s hs
theorem yardOk_parts {high : Int} {rows : List (List Int)} (h : yardOk high rows = true) : 1 ≤ rows.length ∧ rows.length ≤ 5 ∧ 1 ≤ high ∧ high ≤ 5 ∧ (∀ s ∈ rows, s.length ≤ 5) ∧ (∀ s ∈ rows, ∀ x ∈ s, 1 ≤ x ∧ x ≤ 999) := by
  simp only [yardOk, Bool.and_eq_true, decide_eq_true_eq] at h
  obtain ⟨⟨h1, h2⟩, h3⟩ := h
  have hs := yOk_in h3
  have h4 : 1 ≤ high ∧ high ≤ 5 := by
    obtain ⟨a, r, rfl⟩ : ∃ a r, rows = a :: r := by cases rows with
      | nil => simp at h1
      | cons a r => exact ⟨a, r, rfl⟩
    have := stackOk_parts (hs a (List.mem_cons_self ..))
    omega
  refine ⟨by omega, by omega, h4.1, h4.2, fun s hm => ?_, fun s hm => sOk_ids (stackOk_parts (hs s hm)).1⟩
  have := stackOk_parts (hs s hm)
  omega
end Go.Proofs.YtbllbpjlkechdaaGreat
end
section
/- Ships and plans, in plain words. -/
namespace Go.Proofs.YtbllbpjlkechdaaGreat
set_option linter.unusedVariables false
/-- a ship: bays, rows, tiers -/
structure HullV where
  f0 : Int
  f1 : Int
  f2 : Int
def hullOk (h : HullV) : Bool := (inI h.f0 1 4 && inI h.f1 1 3) && inI h.f2 1 3
theorem hullOk_iff {h : HullV} : hullOk h = true ↔ (1 ≤ h.f0 ∧ h.f0 ≤ 4) ∧ (1 ≤ h.f1 ∧ h.f1 ≤ 3) ∧ 1 ≤ h.f2 ∧ h.f2 ≤ 3 := by
  simp only [hullOk, Bool.and_eq_true, inI_iff, and_assoc]
def slotsH (h : HullV) : Int := h.f0 * h.f1 * h.f2
theorem slots_le {h : HullV} (hh : hullOk h = true) : 1 ≤ h.f0 * h.f1 ∧ h.f0 * h.f1 ≤ 12 ∧ 1 ≤ slotsH h ∧ slotsH h ≤ 36 := by
  obtain ⟨⟨a1, a2⟩, ⟨b1, b2⟩, c1, c2⟩ := hullOk_iff.1 hh
  unfold slotsH
  obtain ⟨a, b, c⟩ := h
  dsimp only at *
  obtain rfl | rfl | rfl | rfl : a = 1 ∨ a = 2 ∨ a = 3 ∨ a = 4 := by omega
  all_goals (obtain rfl | rfl | rfl : b = 1 ∨ b = 2 ∨ b = 3 := by omega)
  all_goals omega
/-- the slot below, as the reference reckons it -/
theorem below_eq {k R T : Int} (hT : 0 < T) (hR : 0 < R) : (k / T / R * R + k / T % R) * T + (k % T - 1) = k - 1 := by
  have h1 : k / T / R * R + k / T % R = k / T := by rw [Int.mul_comm]; exact Int.mul_ediv_add_emod (k / T) R
  rw [h1]
  have h2 : k / T * T + k % T = k := by rw [Int.mul_comm]; exact Int.mul_ediv_add_emod k T
  omega
theorem bay_lt {k B R T : Int} (hT : 0 < T) (hR : 0 < R) (h0 : 0 ≤ k) (h : k < B * R * T) : 0 ≤ k / T / R ∧ k / T / R < B ∧ 0 ≤ k / T := by
  have h1 : k / T < B * R := Int.ediv_lt_of_lt_mul hT h
  have h2 : 0 ≤ k / T := Int.ediv_nonneg h0 (by omega)
  exact ⟨Int.ediv_nonneg h2 (by omega), Int.ediv_lt_of_lt_mul hR h1, h2⟩
/-- two slots of one bay and one row lie in one stack -/
theorem stack_iff {x y R : Int} : (x / R = y / R ∧ x % R = y % R) ↔ x = y := by
  constructor
  · rintro ⟨h1, h2⟩
    have e1 := Int.mul_ediv_add_emod x R
    have e2 := Int.mul_ediv_add_emod y R
    rw [h1, h2] at e1
    omega
  · rintro rfl
    exact ⟨rfl, rfl⟩
/-- may this slot hold what the plan says -/
def slotOk (h : HullV) (bs : List BoxV) (plan : List Int) (k : Nat) : Bool :=
  decide (plan.getD k 0 = 0) || ((hasF bs (plan.getD k 0) && !hasI (plan.take k) (plan.getD k 0)) && !(decide (0 < (k : Int) % h.f2) && decide (plan.getD (k - 1) 0 = 0)))
def planOk (h : HullV) (bs : List BoxV) (plan : List Int) : Bool :=
  ((hullOk h && boxesOk bs) && decide ((plan.length : Int) = slotsH h)) && (List.range plan.length).all (slotOk h bs plan)
theorem planOk_bad {h : HullV} {bs : List BoxV} {plan : List Int} {k : Nat} (hk : k < plan.length) (hb : slotOk h bs plan k = false) : planOk h bs plan = false := by
  have : (List.range plan.length).all (slotOk h bs plan) = false := by
    rw [List.all_eq_false]
    exact ⟨k, List.mem_range.2 hk, by simp [hb]⟩
  simp [planOk, this]
theorem planOk_good {h : HullV} {bs : List BoxV} {plan : List Int} (h1 : hullOk h = true) (h2 : boxesOk bs = true) (h3 : (plan.length : Int) = slotsH h) (h4 : ∀ k, k < plan.length → slotOk h bs plan k = true) : planOk h bs plan = true := by
  have : (List.range plan.length).all (slotOk h bs plan) = true := by
    rw [List.all_eq_true]
    intro k hk
    exact h4 k (List.mem_range.1 hk)
  simp [planOk, h1, h2, h3, this]
theorem planOk_hull {h : HullV} {bs : List BoxV} {plan : List Int} (hh : hullOk h = false) : planOk h bs plan = false := by simp [planOk, hh]
theorem planOk_boxes {h : HullV} {bs : List BoxV} {plan : List Int} (hh : boxesOk bs = false) : planOk h bs plan = false := by simp [planOk, hh]
theorem planOk_len {h : HullV} {bs : List BoxV} {plan : List Int} (hh : (plan.length : Int) ≠ slotsH h) : planOk h bs plan = false := by simp [planOk, hh]
theorem planOk_parts {h : HullV} {bs : List BoxV} {plan : List Int} (hp : planOk h bs plan = true) : hullOk h = true ∧ boxesOk bs = true ∧ (plan.length : Int) = slotsH h ∧ ∀ k, k < plan.length → slotOk h bs plan k = true := by
  simp only [planOk, Bool.and_eq_true, decide_eq_true_eq, List.all_eq_true, List.mem_range] at hp
  exact ⟨hp.1.1.1, hp.1.1.2, hp.1.2, hp.2⟩
/-- every box of a valid plan is known -/
theorem planOk_has {h : HullV} {bs : List BoxV} {plan : List Int} (hp : planOk h bs plan = true) {k : Nat} (hk : k < plan.length) (h0 : plan.getD k 0 ≠ 0) : hasF bs (plan.getD k 0) = true := by
  have := (planOk_parts hp).2.2.2 k hk
  simp only [slotOk, Bool.or_eq_true, Bool.and_eq_true, decide_eq_true_eq] at this
  rcases this with h1 | h1
  · exact absurd h1 h0
  · exact h1.1.1
/-- how far boxes of two classes in 0..3 have to be apart -/
def needC (a b : Int) : Int :=
  if a = 0 ∨ b = 0 then 0 else if a = b then (if a = 3 then 1 else 0) else if (a = 1 ∧ b = 2) ∨ (a = 2 ∧ b = 1) then 1 else if (a = 1 ∧ b = 3) ∨ (a = 3 ∧ b = 1) then 2 else 3
/-- how far two slots are apart -/
def apartH (h : HullV) (a b : Int) : Int :=
  if a / h.f2 = b / h.f2 then 0 else if a / h.f2 / h.f1 = b / h.f2 / h.f1 then 1 else if a / h.f2 / h.f1 - b / h.f2 / h.f1 = 1 ∨ a / h.f2 / h.f1 - b / h.f2 / h.f1 = -1 then 2 else 3
theorem apartH_nonneg (h : HullV) (a b : Int) : 0 ≤ apartH h a b := by
  unfold apartH
  repeat (first | split | omega)
/-- the class of the box with an id -/
def clsB (bs : List BoxV) (id : Int) : Int := match bs.find? (isF id) with | some b => b.f2 | none => 0
/-- the class in a slot, 0 where it is empty -/
def clsP (bs : List BoxV) (plan : List Int) (k : Nat) : Int := if plan.getD k 0 = 0 then 0 else clsB bs (plan.getD k 0)
def nearB (h : HullV) (bs : List BoxV) (plan : List Int) (a b : Nat) : Bool := decide (apartH h a b < needC (clsP bs plan a) (clsP bs plan b))
theorem nearB_empty {h : HullV} {bs : List BoxV} {plan : List Int} {a b : Nat} (h0 : plan.getD a 0 = 0 ∨ plan.getD b 0 = 0) : nearB h bs plan a b = false := by
  have hn : needC (clsP bs plan a) (clsP bs plan b) = 0 := by
    have : clsP bs plan a = 0 ∨ clsP bs plan b = 0 := by
      unfold clsP
      rcases h0 with h0 | h0
      · exact .inl (if_pos h0)
      · exact .inr (if_pos h0)
    unfold needC
    rw [if_pos this]
  have := apartH_nonneg h a b
  rw [nearB, hn, decide_eq_false_iff_not]
  omega
/-- how many of the slots behind a, ahead of b, are too near to a -/
def nearRow (h : HullV) (bs : List BoxV) (plan : List Int) (a : Nat) : Nat → Nat
  | 0 => 0
  | b + 1 => nearRow h bs plan a b + (if a < b ∧ nearB h bs plan a b = true then 1 else 0)
theorem nearRow_low (h : HullV) (bs : List BoxV) (plan : List Int) (a : Nat) : ∀ b, b ≤ a + 1 → nearRow h bs plan a b = 0
  | 0, _ => rfl
  | b + 1, hb => by rw [nearRow, nearRow_low h bs plan a b (by omega), if_neg (by omega)]
theorem nearRow_le (h : HullV) (bs : List BoxV) (plan : List Int) (a : Nat) : ∀ b, nearRow h bs plan a b ≤ b
  | 0 => Nat.le_refl _
  | b + 1 => by
    have := nearRow_le h bs plan a b
    rw [nearRow]
    split <;> omega
theorem nearRow_empty {h : HullV} {bs : List BoxV} {plan : List Int} {a : Nat} (h0 : plan.getD a 0 = 0) : ∀ b, nearRow h bs plan a b = 0
  | 0 => rfl
  | b + 1 => by rw [nearRow, nearRow_empty h0 b, nearB_empty (.inl h0)]; simp
/-- how many pairs are too near whose lesser slot is ahead of k -/
def nearUp (h : HullV) (bs : List BoxV) (plan : List Int) : Nat → Nat
  | 0 => 0
  | a + 1 => nearUp h bs plan a + nearRow h bs plan a plan.length
theorem nearUp_le (h : HullV) (bs : List BoxV) (plan : List Int) : ∀ k, nearUp h bs plan k ≤ k * plan.length
  | 0 => by simp [nearUp]
  | k + 1 => by
    have h1 := nearUp_le h bs plan k
    have h2 := nearRow_le h bs plan k plan.length
    rw [nearUp, Nat.add_mul]
    omega
def nearN (h : HullV) (bs : List BoxV) (plan : List Int) : Nat := if planOk h bs plan then nearUp h bs plan plan.length else 0
/-- the slots that are full, ahead of k -/
def fullTo (plan : List Int) : Nat → List Int
  | 0 => []
  | k + 1 => if plan.getD k 0 = 0 then fullTo plan k else fullTo plan k ++ [(k : Int)]
theorem fullTo_len (plan : List Int) : ∀ k, (fullTo plan k).length ≤ k
  | 0 => Nat.le_refl _
  | k + 1 => by
    have := fullTo_len plan k
    rw [fullTo]
    split
    · omega
    · rw [List.length_append]; simp; omega
theorem fullTo_mem (plan : List Int) : ∀ k x, x ∈ fullTo plan k → ∃ j : Nat, x = (j : Int) ∧ j < k ∧ plan.getD j 0 ≠ 0
  | 0, x, h => by simp [fullTo] at h
  | k + 1, x, h => by
    rw [fullTo] at h
    split at h
    · obtain ⟨j, e, hj, h0⟩ := fullTo_mem plan k x h
      exact ⟨j, e, by omega, h0⟩
    · rename_i hne
      rw [List.mem_append, List.mem_singleton] at h
      rcases h with h | rfl
      · obtain ⟨j, e, hj, h0⟩ := fullTo_mem plan k x h
        exact ⟨j, e, by omega, h0⟩
      · exact ⟨k, rfl, by omega, hne⟩
/-- the pairs that are too near, summed over a list of slots -/
def nearL (h : HullV) (bs : List BoxV) (plan : List Int) : List Int → Nat
  | [] => 0
  | a :: r => nearRow h bs plan a.toNat plan.length + nearL h bs plan r
theorem nearL_app (h : HullV) (bs : List BoxV) (plan : List Int) (x y : List Int) : nearL h bs plan (x ++ y) = nearL h bs plan x + nearL h bs plan y := by
  induction x with
  | nil => simp [nearL]
  | cons a r ih => rw [List.cons_append, nearL, nearL, ih]; omega
theorem nearL_full (h : HullV) (bs : List BoxV) (plan : List Int) : ∀ k, nearL h bs plan (fullTo plan k) = nearUp h bs plan k
  | 0 => rfl
  | k + 1 => by
    rw [fullTo, nearUp]
    split
    · rename_i h0
      rw [nearL_full h bs plan k, nearRow_empty h0, Nat.add_zero]
    · rw [nearL_app, nearL_full h bs plan k]
      simp [nearL]
end Go.Proofs.YtbllbpjlkechdaaGreat
end
section
/- Posts of calls, kept behind names so that the walk does not take them apart. -/
namespace Go.Proofs.YtbllbpjlkechdaaGreat
open Go.ChangeShapes Go.WideShapes Go.ChangeAt Go.RowKit
/-- it returns an int / a bool / some value of which P holds -/
def RInt (P : Int → World → Prop) : Ending → World → Prop := fun e w' => ∃ v, e = .returned (.int .i64 v) ∧ P v w'
def RBool (P : Bool → World → Prop) : Ending → World → Prop := fun e w' => ∃ v, e = .returned (.bool v) ∧ P v w'
def RVal (P : Value → World → Prop) : Ending → World → Prop := fun e w' => ∃ v, e = .returned v ∧ P v w'
def RTwo (P : Value → Value → World → Prop) : Ending → World → Prop := fun e w' => ∃ u v, e = .returned (.tuple #[u, v]) ∧ P u v w'
def RThree (P : Value → Value → Value → World → Prop) : Ending → World → Prop := fun e w' => ∃ u v x, e = .returned (.tuple #[u, v, x]) ∧ P u v x w'
theorem RInt.mk {P : Int → World → Prop} {v : Int} {w : World} (h : P v w) : RInt P (.returned (.int .i64 v)) w := ⟨v, rfl, h⟩
theorem RBool.mk {P : Bool → World → Prop} {v : Bool} {w : World} (h : P v w) : RBool P (.returned (.bool v)) w := ⟨v, rfl, h⟩
theorem RVal.mk {P : Value → World → Prop} {v : Value} {w : World} (h : P v w) : RVal P (.returned v) w := ⟨v, rfl, h⟩
theorem RTwo.mk {P : Value → Value → World → Prop} {u v : Value} {w : World} (h : P u v w) : RTwo P (.returned (.tuple #[u, v])) w := ⟨u, v, rfl, h⟩
theorem RThree.mk {P : Value → Value → Value → World → Prop} {u v x : Value} {w : World} (h : P u v x w) : RThree P (.returned (.tuple #[u, v, x])) w := ⟨u, v, x, rfl, h⟩

/-- only block g (and what is new) has turned: steps -/
theorem only_refl (w : World) (g : Nat) : w.grownBy w (some g) := World.grownBy.refl w _
theorem only_trans {a b c : World} {g : Nat} (h : a.grownBy b (some g)) (k : b.grownBy c (some g)) : a.grownBy c (some g) :=
  ⟨k.os.trans h.os, k.tape.trans h.tape, k.output.trans h.output, Nat.le_trans h.size k.size, fun i hi hn => (k.block i (Nat.lt_of_lt_of_le hi h.size) hn).trans (h.block i hi hn)⟩
theorem only_below {a b : World} (h : Below a.heap.size a b) (g : Nat) : a.grownBy b (some g) := ⟨h.os, h.tape, h.output, h.size, fun i hi _ => h.block i hi⟩
theorem only_drewN {a w : World} {row : Option Nat} (h : a.grownBy w row) (n : Nat) : a.grownBy (w.drewN n) row := ⟨h.os, h.tape, h.output, h.size, h.block⟩
theorem below_only {a b c : World} {g : Nat} (h : Below a.heap.size a b) (k : b.grownBy c (some g)) (hg : a.heap.size ≤ g) : Below a.heap.size a c :=
  h.trans ⟨k.os, k.tape, k.output, k.size, fun i hi => k.block i (Nat.lt_of_lt_of_le hi h.size) (fun e => by injection e with e; omega)⟩
theorem RdV.only {w w' : World} {b off g : Nat} {cs : List Value} (h : RdV w (some ⟨b, off, none⟩) cs) (hg : w.grownBy w' (some g)) (hne : b ≠ g) : RdV w' (some ⟨b, off, none⟩) cs := by
  rcases h with h | ⟨b', off', he, hlt, hc⟩
  · exact .inl h
  · injection he with he
    injection he with e1 e2
    subst e1; subst e2
    refine .inr ⟨b, off, rfl, Nat.lt_of_lt_of_le hlt hg.size, fun k hk => ?_⟩
    exact (World.cell?_of_block (hg.block b hlt (fun e => hne (by injection e)))).trans (hc k hk)
theorem Blk.only {w w' : World} {b g : Nat} {t : TypeId} {cs : List Value} (h : Blk w b t cs) (hg : w.grownBy w' (some g)) (hne : b ≠ g) : Blk w' b t cs :=
  (hg.block b h.lt (fun e => hne (by injection e))).trans h
end Go.Proofs.YtbllbpjlkechdaaGreat
end
section
/- Slices of the call's own: what they give, how an element is appended. -/
namespace Go.Proofs.YtbllbpjlkechdaaGreat
open Go.ChangeShapes Go.WideShapes Go.ChangeAt Go.RowKit

/-- what the program's table says of an element type -/
def Info (P : Program) (e : TypeId) (z : Value) (size bytes : Nat) : Prop :=
  ∃ i, P.info? e = some i ∧ i.zero = some z ∧ i.size = size ∧ i.bytes = bytes ∧ z.cells.size = size ∧ 0 < size ∧ bytes ≤ 1024
theorem Info.mk' {P : Program} {e : TypeId} {z : Value} {size bytes : Nat} (h : (P.info? e).map (fun i => (i.zero, i.size, i.bytes)) = some (some z, size, bytes)) (hz : z.cells.size = size) (hs : 0 < size) (hb : bytes ≤ 1024) : Info P e z size bytes := by
  obtain ⟨i, h1, h2, h3, h4⟩ := info_parts h
  exact ⟨i, h1, h2, h3, h4, hz, hs, hb⟩

section
variable {w w' : World} {base : Nat} {e : TypeId} {size n : Nat} {v : Value} {xs : List Value}
theorem own_slice (h : w.ownsRow base e size v n xs) : ∃ A c, v = .slice A n c ∧ n ≤ c ∧ c ≤ maxLen := by
  rcases h.2 with ⟨rfl, rfl⟩ | ⟨g, cap, cur, rfl, _, _, h1, h2, _⟩
  · exact ⟨none, 0, rfl, Nat.le_refl _, by decide⟩
  · exact ⟨_, cap, rfl, h1, h2⟩
theorem own_form (h : w.ownsRow base e size v n xs) : (v = .slice none 0 0 ∧ n = 0 ∧ xs = []) ∨ ∃ g c, v = .slice (some ⟨g, 0, none⟩) n c ∧ base ≤ g ∧ g < w.heap.size ∧ n ≤ c := by
  rcases h.2 with ⟨rfl, rfl⟩ | ⟨g, cap, cur, rfl, hb, hg, h1, h2, _⟩
  · exact .inl ⟨rfl, rfl, List.eq_nil_of_length_eq_zero (by simpa using h.1)⟩
  · exact .inr ⟨g, cap, rfl, hb, (Array.getElem?_eq_some_iff.1 hg).1, h1⟩
theorem own_rd {A : Option Addr} {c : Nat} (h : w.ownsRow base e size (.slice A n c) n xs) : RdV w A xs := by
  rcases own_form h with ⟨_, _, hx⟩ | ⟨g, c', hv, _, hlt, _⟩
  · exact .inl hx
  · injection hv with hA _ _
    subst hA
    refine .inr ⟨g, 0, rfl, hlt, fun k hk => ?_⟩
    have := h.cells (g := g) rfl k _ (List.getElem?_eq_getElem hk)
    rw [Nat.zero_add]
    have he : (⟨g, 0, none⟩ : Addr).add k = ⟨g, k, none⟩ := by unfold Addr.add; split <;> simp_all
    rw [he] at this
    exact this
theorem own_later (h : w.ownsRow base e size v n xs) (hb : Below w.heap.size w w') : w'.ownsRow base e size v n xs :=
  h.kept (row := none) ⟨hb.os, hb.tape, hb.output, hb.size, fun k hk _ => hb.block k hk⟩ (by cases v.ownBlock <;> simp)
theorem own_only {g : Nat} (h : w.ownsRow base e size v n xs) (hg : w.grownBy w' (some g)) (hne : v.ownBlock ≠ some g) : w'.ownsRow base e size v n xs := h.kept hg (.inr hne)
theorem own_base {base' : Nat} (h : w.ownsRow base e size v n xs) (hb : base' ≤ base) : w.ownsRow base' e size v n xs := by
  refine ⟨h.1, ?_⟩
  rcases h.2 with hn | ⟨g, cap, cur, hv, hg, rest⟩
  · exact .inl hn
  · exact .inr ⟨g, cap, cur, hv, Nat.le_trans hb hg, rest⟩
theorem own_drewN (h : w.ownsRow base e size v n xs) (k : Nat) : (w.drewN k).ownsRow base e size v n xs := h
/-- a slice made by make or a literal -/
theorem own_of_blk {g : Nat} {cs : List Value} (h : Blk w g e cs) (hb : base ≤ g) (hn : cs.length = n * size) (hm : n ≤ maxLen) : w.ownsRow base e size (.slice (some ⟨g, 0, none⟩) n n) n cs :=
  ⟨hn, .inr ⟨g, n, cs.toArray, rfl, hb, h, Nat.le_refl _, hm, by simpa using hn, by rw [← hn]; simp⟩⟩
/-- behind a law on append: what was there ahead is as it was -/
theorem below_append {w0 w1 : World} {row : Option Nat} (hb : Below w0.heap.size w0 w) (hg : w.grownBy w1 row) (h : w.ownsRow w0.heap.size e size v n xs) (hr : row = v.ownBlock) : Below w0.heap.size w0 w1 := by
  subst hr
  exact hb.grown hg hb.size (fun k hk => (h.lt k hk).1)
end

theorem own_ne {w : World} {base g : Nat} {e : TypeId} {size n : Nat} {v : Value} {xs : List Value} (h : w.ownsRow base e size v n xs) (hg : g < base) : v.ownBlock ≠ some g :=
  fun e => by have := (h.lt g e).1; omega
/-- 'out = append(out, x)': the one element lies in a new block (news: its cells) -/
theorem append_new {P : Program} {ops : Array Oper} {rest : List Oper} {o : Oper} {a : Act} {Q : Exit → Act → World → Prop} (hgd : o.guard = none) (s x : Operand) (t : TypeId)
    (ho : o.op = .call { callee := .builtin .append, args := #[s, x], argTypes := #[t, t] })
    (e : TypeId) (z : Value) (size bytes : Nat) (ht : P.underlying t = some (.slice e)) (hi : Info P e z size bytes)
    (base : Nat) (w : World) (v : Value) (n : Nat) (xs : List Value) (hs : a.eval s = v) (hown : w.ownsRow base e size v n xs)
    (news : List Value) (hx : a.eval x = .slice (some ⟨w.heap.size, 0, none⟩) 1 1) (hl : news.length = size) (h1 : ∀ u ∈ news, u.oneCell' = true)
    (hn : n ≤ 8589934592) (hbase : base ≤ w.heap.size)
    (h : ∀ v' w', w'.ownsRow base e size v' (n + 1) (xs ++ news) → w.grownBy w' v.ownBlock → (v'.ownBlock = v.ownBlock ∨ v'.ownBlock = some (w.heap.size + 1)) → wpList P ops Q rest (a.put o.dst v') w') :
    wpList P ops Q (o :: rest) a (w.alloc (.cells news.toArray e)) := by
  obtain ⟨i, hi1, hz, h3, h4, h5, h6, h7⟩ := hi
  have hcells : ∀ j u, news[j]? = some u → (w.alloc (.cells news.toArray e)).cell? ((⟨w.heap.size, 0, none⟩ : Addr).add j) = some u := by
    intro j u hu
    have hb := (Blk.new w e news).cell j
    have he : (⟨w.heap.size, 0, none⟩ : Addr).add j = ⟨w.heap.size, j, none⟩ := by unfold Addr.add; split <;> simp_all
    rw [he, hb, hu]
  have hbytes : (n + 1) * bytes ≤ 140737488355328 := Nat.le_trans (Nat.mul_le_mul (show n + 1 ≤ 8589934593 by omega) h7) (by decide)
  refine wpList_append_own_at (P := P) (w.alloc (.cells news.toArray e)) hgd s x t ho base e i z size bytes ht hi1 hz h3 h4 h5 h6 v n xs hs (hown.alloc _) _ 1 1 news hx (by omega) hcells h1 (by unfold maxLen; omega) hbytes (by simp; omega) ?_
  intro v' w' ho' hg' _ hb'
  refine h v' w' ho' ?_ ?_
  · exact ⟨hg'.os, hg'.tape, hg'.output, by have := hg'.size; simp at this; omega, fun k hk hne => (hg'.block k (by simp; omega) hne).trans (Below.heap_alloc _ _ _ hk)⟩
  · simpa using hb'
end Go.Proofs.YtbllbpjlkechdaaGreat
end
section
/- What lies in blocks lo to hi (without hi): objects that a call has made, and calls that turn such blocks alone. -/
namespace Go.Proofs.YtbllbpjlkechdaaGreat
open Go.ChangeShapes Go.WideShapes Go.ChangeAt Go.RowKit

/-- outside the blocks lo to hi (and but for new blocks) the world is as it was -/
structure Out (lo hi : Nat) (w w' : World) : Prop where
  os : w'.os = w.os
  tape : w'.tape = w.tape
  output : w'.output = w.output
  size : w.heap.size ≤ w'.heap.size
  block : ∀ k, k < w.heap.size → (k < lo ∨ hi ≤ k) → w'.heap[k]? = w.heap[k]?
theorem Out.refl (lo hi : Nat) (w : World) : Out lo hi w w := ⟨rfl, rfl, rfl, Nat.le_refl _, fun _ _ _ => rfl⟩
theorem Out.trans {lo hi : Nat} {a b c : World} (h : Out lo hi a b) (k : Out lo hi b c) : Out lo hi a c :=
  ⟨k.os.trans h.os, k.tape.trans h.tape, k.output.trans h.output, Nat.le_trans h.size k.size, fun i hi hn => (k.block i (Nat.lt_of_lt_of_le hi h.size) hn).trans (h.block i hi hn)⟩
theorem Out.mono {lo hi lo' hi' : Nat} {a b : World} (h : Out lo hi a b) (h1 : lo' ≤ lo) (h2 : hi ≤ hi') : Out lo' hi' a b :=
  ⟨h.os, h.tape, h.output, h.size, fun k hk hn => h.block k hk (by omega)⟩
theorem Below.out {w w' : World} (h : Below w.heap.size w w') (lo hi : Nat) : Out lo hi w w' := ⟨h.os, h.tape, h.output, h.size, fun k hk _ => h.block k hk⟩
theorem out_of_grown {w w' : World} {row : Option Nat} {lo hi : Nat} (h : w.grownBy w' row) (hr : ∀ g, row = some g → lo ≤ g ∧ g < hi) : Out lo hi w w' :=
  ⟨h.os, h.tape, h.output, h.size, fun k hk hn => h.block k hk (fun e => by have := hr k e.symm; omega)⟩
theorem below_out {w w1 w2 : World} {lo hi : Nat} (h : Below w.heap.size w w1) (k : Out lo hi w1 w2) (hlo : w.heap.size ≤ lo) : Below w.heap.size w w2 :=
  h.trans ⟨k.os, k.tape, k.output, k.size, fun i hi => k.block i (Nat.lt_of_lt_of_le hi h.size) (.inl (by omega))⟩

/-- a slice of the call's own whose block lies between lo and hi -/
structure OwnI (w : World) (lo hi : Nat) (e : TypeId) (size : Nat) (v : Value) (n : Nat) (xs : List Value) : Prop where
  row : w.ownsRow lo e size v n xs
  lt : ∀ g, v.ownBlock = some g → g < hi
  top : hi ≤ w.heap.size
theorem OwnI.of {w : World} {lo : Nat} {e : TypeId} {size n : Nat} {v : Value} {xs : List Value} (h : w.ownsRow lo e size v n xs) : OwnI w lo w.heap.size e size v n xs :=
  ⟨h, fun g hg => (h.lt g hg).2, Nat.le_refl _⟩
theorem OwnI.out {w w' : World} {lo hi lo' hi' : Nat} {e : TypeId} {size n : Nat} {v : Value} {xs : List Value} (h : OwnI w lo hi e size v n xs) (ho : Out lo' hi' w w') (hd : hi ≤ lo' ∨ hi' ≤ lo) : OwnI w' lo hi e size v n xs := by
  refine ⟨⟨h.row.1, ?_⟩, h.lt, Nat.le_trans h.top ho.size⟩
  rcases h.row.2 with hn | ⟨g, cap, cur, rfl, hb, hg, rest⟩
  · exact .inl hn
  · have := h.lt g rfl
    exact .inr ⟨g, cap, cur, rfl, hb, (ho.block g (Array.getElem?_eq_some_iff.1 hg).1 (by omega)).trans hg, rest⟩
theorem OwnI.later {w w' : World} {lo hi : Nat} {e : TypeId} {size n : Nat} {v : Value} {xs : List Value} (h : OwnI w lo hi e size v n xs) (hb : Below w.heap.size w w') : OwnI w' lo hi e size v n xs :=
  h.out (Below.out hb lo lo) (.inr (Nat.le_refl _))
theorem OwnI.rd {w : World} {lo hi : Nat} {e : TypeId} {size n c : Nat} {A : Option Addr} {xs : List Value} (h : OwnI w lo hi e size (.slice A n c) n xs) : RdV w A xs := own_rd h.row
/-- behind a call that has turned the object's own block alone -/
theorem OwnI.turned {w w' : World} {lo hi : Nat} {e : TypeId} {size n : Nat} {v : Value} {xs ys : List Value} (h : OwnI w lo hi e size v n xs) (h' : w'.ownsRow lo e size v n ys) (hg : w.grownBy w' v.ownBlock) : OwnI w' lo hi e size v n ys ∧ Out lo hi w w' :=
  ⟨⟨h', h.lt, Nat.le_trans h.top hg.size⟩, out_of_grown hg (fun g e => ⟨(h.row.lt g e).1, h.lt g e⟩)⟩
theorem blk_ownI {w : World} {lo g : Nat} {e : TypeId} {size n : Nat} {cs : List Value} (h : Blk w g e cs) (hlo : lo ≤ g) (hn : cs.length = n * size) (hm : n ≤ maxLen) : OwnI w lo w.heap.size e size (.slice (some ⟨g, 0, none⟩) n n) n cs :=
  OwnI.of (own_of_blk h hlo hn hm)
end Go.Proofs.YtbllbpjlkechdaaGreat
end
