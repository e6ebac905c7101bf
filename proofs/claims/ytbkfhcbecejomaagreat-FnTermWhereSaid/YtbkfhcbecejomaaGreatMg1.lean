/- Several texts of the proof in one; each says at its head what it proves; no condition. -/
import Derived.WalkKit
import Derived.ProofKit
import Derived.OpenShut
import Derived.ShutString
import Derived.ChangeOld
import Derived.Below
import Derived.Lib.Hide
import Derived.Laws.MakeOwn
import Derived.Deep.OwnRows
import Derived.Deep.Draws
import Derived.Laws.OwnMore
import Derived.Test.YtbkfhcbecejomaaGreatChecked
import Derived.Test.YtbkfhcbecejomaaGreatProg
import Derived.Deep.QuietTactic
import Derived.BigQuiet
import Derived.IntWalk
import Derived.Laws.BitsAllLaws
import Derived.Laws.BitsLemmas
import Derived.Maps.AppendAt
import Derived.OwnWalk
import Derived.RegionTactic
import Derived.Deep.AppendSrc
import Derived.Deep.Upon
section
/- Plain words for memory, no program in sight: cells that can be read, a block that is known whole, the frame of a call. -/
namespace Go.Proofs.YtbkfhcbecejomaaGreat
open Go.ChangeShapes Go.WideShapes Go.ChangeAt Go.RowKit

theorem ret_int {k : IntKind} {a b : Int} (h : a = b) : Ending.returned (.int k a) = .returned (.int k b) := by rw [h]
theorem ret_bool {a b : Bool} (h : a = b) : Ending.returned (.bool a) = .returned (.bool b) := by rw [h]

/-- two calls, one behind the other: what was there ahead of the first is as it was -/
theorem below_trans {w w1 w2 : World} (h : Below w.heap.size w w1) (k : Below w1.heap.size w1 w2) : Below w.heap.size w w2 := h.trans (k.mono h.size)

theorem below_drewN {B : Nat} {a w : World} (h : Below B a w) (n : Nat) : Below B a (w.drewN n) := ⟨h.os, h.tape, h.output, h.size, h.block⟩

/-- the cells cs can be read from the slice address A on -/
def RdV (w : World) (A : Option Addr) (cs : List Value) : Prop :=
  cs = [] ∨ ∃ b off, A = some ⟨b, off, none⟩ ∧ b < w.heap.size ∧ ∀ k (h : k < cs.length), w.cell? ⟨b, off + k, none⟩ = some cs[k]
theorem RdV.below {w w' : World} {A : Option Addr} {cs : List Value} (h : RdV w A cs) (hb : Below w.heap.size w w') : RdV w' A cs := by
  rcases h with h | ⟨b, off, rfl, hlt, hc⟩
  · exact .inl h
  · exact .inr ⟨b, off, rfl, Nat.lt_of_lt_of_le hlt hb.size, fun k hk => (hb.cell (p := ⟨b, off + k, none⟩) hlt).trans (hc k hk)⟩
theorem RdV.drewN {w : World} {A : Option Addr} {cs : List Value} (h : RdV w A cs) (n : Nat) : RdV (w.drewN n) A cs := h
theorem RdV.nil_ {w : World} {A : Option Addr} : RdV w A [] := .inl rfl
theorem RdV.pos {w : World} {A : Option Addr} {cs : List Value} (h : RdV w A cs) {k : Nat} (hk : k < cs.length) :
    ∃ b off, A = some ⟨b, off, none⟩ ∧ b < w.heap.size ∧ ∀ k (h : k < cs.length), w.cell? ⟨b, off + k, none⟩ = some cs[k] := by
  rcases h with h | h
  · subst h; simp at hk
  · exact h

/-- block g is just the cells cs of element type t, none frozen -/
def Blk (w : World) (g : Nat) (t : TypeId) (cs : List Value) : Prop := w.heap[g]? = some (.cells cs.toArray t (0, 0))
section
variable {w w' : World} {g : Nat} {t : TypeId} {cs : List Value}
theorem Blk.lt (h : Blk w g t cs) : g < w.heap.size := by
  rcases Nat.lt_or_ge g w.heap.size with hlt | hge
  · exact hlt
  · unfold Blk at h; rw [Array.getElem?_eq_none hge] at h; cases h
theorem Blk.cell (h : Blk w g t cs) (i : Nat) : w.cell? ⟨g, i, none⟩ = cs[i]? := by
  have := cell_of_row w g i cs.toArray t (0, 0) h
  simpa using this
theorem Blk.cellAt (h : Blk w g t cs) (i : Nat) (hi : i < cs.length) : w.cell? ⟨g, i, none⟩ = some cs[i] := by
  rw [h.cell, List.getElem?_eq_getElem hi]
theorem Blk.frozen (h : Blk w g t cs) (i : Nat) : w.frozen? ⟨g, i, none⟩ = false := by
  unfold Blk at h
  simp [World.frozen?, h]
theorem Blk.new (w : World) (t : TypeId) (cs : List Value) : Blk (w.alloc (.cells cs.toArray t)) w.heap.size t cs := heap_alloc_new w _
theorem Blk.set_ (h : Blk w g t cs) (i : Nat) (u : Value) : Blk (w.setCell ⟨g, i, none⟩ u) g t (cs.set i u) := by
  unfold Blk at h ⊢
  simp [World.setCell, Array.getElem?_modify, h]
theorem Blk.far (h : Blk w g t cs) {p : Addr} (hp : g ≠ p.block) (u : Value) : Blk (w.setCell p u) g t cs := (Below.heap_setCell w p u g hp).trans h
theorem Blk.alloc (h : Blk w g t cs) (o : Obj) : Blk (w.alloc o) g t cs := (Below.heap_alloc w o g h.lt).trans h
theorem Blk.below {B : Nat} (h : Blk w g t cs) (hb : Below B w w') (hg : g < B) : Blk w' g t cs := (hb.block g hg).trans h
theorem Blk.later (h : Blk w g t cs) (hb : Below w.heap.size w w') : Blk w' g t cs := h.below hb h.lt
theorem Blk.drew (h : Blk w g t cs) : Blk w.drew g t cs := h
theorem Blk.drewN (h : Blk w g t cs) (n : Nat) : Blk (w.drewN n) g t cs := h
theorem Blk.rd (h : Blk w g t cs) : RdV w (some ⟨g, 0, none⟩) cs :=
  .inr ⟨g, 0, rfl, h.lt, fun k hk => by rw [Nat.zero_add]; exact h.cellAt k hk⟩
theorem Blk.rdTake (h : Blk w g t cs) (n : Nat) : RdV w (some ⟨g, 0, none⟩) (cs.take n) :=
  .inr ⟨g, 0, rfl, h.lt, fun k hk => by
    rw [Nat.zero_add, List.getElem_take]
    exact h.cellAt k (by rw [List.length_take] at hk; omega)⟩
end

def ints (zs : List Int) : List Value := zs.map (.int .i64)
def bools (bs : List Bool) : List Value := bs.map .bool
theorem ints_len (zs : List Int) : (ints zs).length = zs.length := by simp [ints]
theorem bools_len (bs : List Bool) : (bools bs).length = bs.length := by simp [bools]
theorem ints_at (zs : List Int) (k : Nat) (h : k < (ints zs).length) : (ints zs)[k] = .int .i64 (zs[k]'(by simpa [ints] using h)) := by simp [ints]
theorem bools_at (bs : List Bool) (k : Nat) (h : k < (bools bs).length) : (bools bs)[k] = .bool (bs[k]'(by simpa [bools] using h)) := by simp [bools]

theorem made_one (z : Value) (n : Nat) : madeCells #[z] n = (List.replicate n z).toArray := by
  apply Array.ext'
  simp [madeCells]
  apply List.ext_getElem <;> simp [Nat.mod_one]

/-- a copy of the cells cs after k cells: the rest is still the zero value z -/
def cpV (z : Value) (cs : List Value) (k : Nat) : List Value := cs.take k ++ List.replicate (cs.length - k) z
theorem cpV_zero (z : Value) (cs : List Value) : cpV z cs 0 = List.replicate cs.length z := by simp [cpV]
theorem cpV_all (z : Value) (cs : List Value) : cpV z cs cs.length = cs := by simp [cpV]
theorem cpV_len (z : Value) (cs : List Value) (k : Nat) (h : k ≤ cs.length) : (cpV z cs k).length = cs.length := by simp [cpV]; omega
theorem cpV_set (z : Value) (cs : List Value) (k : Nat) (h : k < cs.length) : (cpV z cs k).set k cs[k] = cpV z cs (k + 1) := by
  have hl : (cs.take k).length = k := by simp; omega
  unfold cpV
  rw [List.set_append_right _ _ (by omega), hl, Nat.sub_self]
  obtain ⟨m, hm⟩ : ∃ m, cs.length - k = m + 1 := ⟨cs.length - k - 1, by omega⟩
  have hm' : cs.length - (k + 1) = m := by omega
  rw [hm, hm', List.replicate_succ, List.set_cons_zero, List.take_succ_eq_append_getElem h, List.append_assoc]
  rfl
end Go.Proofs.YtbkfhcbecejomaaGreat
end
section
/- What a row's reading of its arguments gives to a walk. -/
namespace Go.Proofs.YtbkfhcbecejomaaGreat
open Go.ChangeShapes Go.WideShapes Go.ChangeAt Go.RowKit

theorem own : ownKnob Tryz.prog.godebug = none := by kernel_rfl
theorem laidOut : laidOutB Tryz.prog = true := by kernel_rfl

/-- a slice of numbers of kind k that came in: it reads as zs -/
def IsRow (k : IntKind) (w : World) (A : Option Addr) (n : Nat) (zs : List Int) : Prop :=
  zs.length = n ∧ n ≤ maxLen ∧ RdV w A (zs.map (.int k)) ∧ ∀ z ∈ zs, (Lit.int k z).wf = true

section
variable {H : Type} {enc : TypeId × Value → H} {P : Program} {w : World} {base : Nat} {spare : Nat → Bool} {held : Bool}
theorem row_of_cells {k : IntKind} {x : Addr} {zs : List Int} (n : Nat) (hn : n ≤ zs.length) (hc : ∀ i, i < zs.length → w.cell? (x.add i) = some (.int k (zs.getD i 0))) :
    RdV w (some x) ((zs.take n).map (.int k)) := by
  rcases Nat.eq_zero_or_pos n with h0 | h0
  · subst h0; exact .inl (by simp)
  · obtain ⟨b, off, spot⟩ := x
    have h1 := hc 0 (by omega)
    have hs : spot = none := by simpa [Addr.add] using World.cell?_spot h1
    subst hs
    have hlt : b < w.heap.size := by
      have := World.block_lt_of_cell? w _ h1
      simpa [Addr.add] using this
    refine .inr ⟨b, off, rfl, hlt, fun j hj => ?_⟩
    simp only [List.length_map, List.length_take] at hj
    have h2 := hc j (by omega)
    have he : (⟨b, off, none⟩ : Addr).add j = ⟨b, off + j, none⟩ := by
      unfold Addr.add; split <;> simp_all
    rw [he] at h2
    rw [h2]
    have : j < zs.length := by omega
    simp [this]

theorem read_row {t e : TypeId} {k : IntKind} {A : Option Addr} {n c : Nat} {d : DataW H} {p : List MemPlace} (ht : P.underlying t = some (.slice e)) (he : P.underlying e = some (.int k)) (hC : P.cellsOf e = 1)
    (h : DataW.Trod enc P w base spare held t (.slice A n c) d p) : ∃ zs, IsRow k w A n zs := by
  obtain ⟨fuel, hf⟩ := h
  rcases open_ints ht he hC hf with ⟨hcs, _⟩ | ⟨x, l, c', zs, hcs, _, hl, hm, hz, _, hcell, hwz⟩
  · simp [Value.cells] at hcs
    obtain ⟨rfl, rfl, rfl⟩ := hcs
    exact ⟨[], rfl, by decide, .inl rfl, by simp⟩
  · simp [Value.cells] at hcs
    obtain ⟨rfl, rfl, rfl⟩ := hcs
    have hz' : n ≤ zs.length := by rw [hz]; split <;> omega
    exact ⟨zs.take n, by simp; omega, by omega, row_of_cells n (by omega) hcell, fun z hz => hwz z (List.mem_of_mem_take hz)⟩
end
end Go.Proofs.YtbkfhcbecejomaaGreat
end
section
/- Posts of calls, kept behind names so that the walk does not take them apart. -/
namespace Go.Proofs.YtbkfhcbecejomaaGreat
open Go.ChangeShapes Go.WideShapes Go.ChangeAt Go.RowKit
/-- it returns an int / a bool / some value of which P holds -/
def RInt (P : Int → World → Prop) : Ending → World → Prop := fun e w' => ∃ v, e = .returned (.int .i64 v) ∧ P v w'
def RBool (P : Bool → World → Prop) : Ending → World → Prop := fun e w' => ∃ v, e = .returned (.bool v) ∧ P v w'
def RVal (P : Value → World → Prop) : Ending → World → Prop := fun e w' => ∃ v, e = .returned v ∧ P v w'
def RTwo (P : Value → Value → World → Prop) : Ending → World → Prop := fun e w' => ∃ u v, e = .returned (.tuple #[u, v]) ∧ P u v w'
def RThree (P : Value → Value → Value → World → Prop) : Ending → World → Prop := fun e w' => ∃ u v x, e = .returned (.tuple #[u, v, x]) ∧ P u v x w'
theorem RInt.mk {P : Int → World → Prop} {v : Int} {w : World} (h : P v w) : RInt P (.returned (.int .i64 v)) w := ⟨v, rfl, h⟩
theorem RBool.mk {P : Bool → World → Prop} {v : Bool} {w : World} (h : P v w) : RBool P (.returned (.bool v)) w := ⟨v, rfl, h⟩
theorem RVal.mk {P : Value → World → Prop} {v : Value} {w : World} (h : P v w) : RVal P (.returned v) w := ⟨v, rfl, h⟩
theorem RTwo.mk {P : Value → Value → World → Prop} {u v : Value} {w : World} (h : P u v w) : RTwo P (.returned (.tuple #[u, v])) w := ⟨u, v, rfl, h⟩
theorem RThree.mk {P : Value → Value → Value → World → Prop} {u v x : Value} {w : World} (h : P u v x w) : RThree P (.returned (.tuple #[u, v, x])) w := ⟨u, v, x, rfl, h⟩

/-- only block g (and what is new) has turned: steps -/
theorem only_refl (w : World) (g : Nat) : w.grownBy w (some g) := World.grownBy.refl w _
theorem only_trans {a b c : World} {g : Nat} (h : a.grownBy b (some g)) (k : b.grownBy c (some g)) : a.grownBy c (some g) :=
  ⟨k.os.trans h.os, k.tape.trans h.tape, k.output.trans h.output, Nat.le_trans h.size k.size, fun i hi hn => (k.block i (Nat.lt_of_lt_of_le hi h.size) hn).trans (h.block i hi hn)⟩
theorem only_below {a b : World} (h : Below a.heap.size a b) (g : Nat) : a.grownBy b (some g) := ⟨h.os, h.tape, h.output, h.size, fun i hi _ => h.block i hi⟩
theorem only_drewN {a w : World} {row : Option Nat} (h : a.grownBy w row) (n : Nat) : a.grownBy (w.drewN n) row := ⟨h.os, h.tape, h.output, h.size, h.block⟩
theorem below_only {a b c : World} {g : Nat} (h : Below a.heap.size a b) (k : b.grownBy c (some g)) (hg : a.heap.size ≤ g) : Below a.heap.size a c :=
  h.trans ⟨k.os, k.tape, k.output, k.size, fun i hi => k.block i (Nat.lt_of_lt_of_le hi h.size) (fun e => by injection e with e; omega)⟩
theorem RdV.only {w w' : World} {b off g : Nat} {cs : List Value} (h : RdV w (some ⟨b, off, none⟩) cs) (hg : w.grownBy w' (some g)) (hne : b ≠ g) : RdV w' (some ⟨b, off, none⟩) cs := by
  rcases h with h | ⟨b', off', he, hlt, hc⟩
  · exact .inl h
  · injection he with he
    injection he with e1 e2
    subst e1; subst e2
    refine .inr ⟨b, off, rfl, Nat.lt_of_lt_of_le hlt hg.size, fun k hk => ?_⟩
    exact (World.cell?_of_block (hg.block b hlt (fun e => hne (by injection e)))).trans (hc k hk)
theorem Blk.only {w w' : World} {b g : Nat} {t : TypeId} {cs : List Value} (h : Blk w b t cs) (hg : w.grownBy w' (some g)) (hne : b ≠ g) : Blk w' b t cs :=
  (hg.block b h.lt (fun e => hne (by injection e))).trans h
end Go.Proofs.YtbkfhcbecejomaaGreat
end
section
/- The drawing of inputs: a reader of bytes, its pick, its odd. Whatever it draws lies in its range; it turns its own block alone. -/
namespace Go.Proofs.YtbkfhcbecejomaaGreat
open Go.ChangeShapes Go.WideShapes Go.ChangeAt Go.RowKit

def u8s (zs : List Int) : List Value := zs.map (.int .u8)
theorem u8s_len (zs : List Int) : (u8s zs).length = zs.length := by simp [u8s]
theorem u8s_at (zs : List Int) (k : Nat) (h : k < (u8s zs).length) : (u8s zs)[k] = .int .u8 (zs[k]'(by simpa [u8s] using h)) := by simp [u8s]

/-- block g is a reader that has picked q times, over bytes that lie elsewhere -/
def Rdr (w : World) (g q : Nat) : Prop :=
  ∃ A n c bs, Blk w g 84 [.slice A n c, .int .i64 q] ∧ n ≤ 2000 ∧ bs.length = n ∧ RdV w A (u8s bs) ∧ (∀ z ∈ bs, 0 ≤ z ∧ z ≤ 255) ∧ (0 < n → ∀ b off, A = some ⟨b, off, none⟩ → b < g)

theorem Rdr.drewN {w : World} {g q : Nat} (h : Rdr w g q) (n : Nat) : Rdr (w.drewN n) g q := h
theorem Rdr.lt {w : World} {g q : Nat} (h : Rdr w g q) : g < w.heap.size := by
  obtain ⟨_, _, _, _, hblk, _⟩ := h
  exact hblk.lt
theorem Rdr.kept {w w' : World} {g q : Nat} (h : Rdr w g q) (hb : Below w.heap.size w w') : Rdr w' g q := by
  obtain ⟨A, n, c, bs, hblk, hn, hbn, hbs, hby, hA⟩ := h
  exact ⟨A, n, c, bs, hblk.later hb, hn, hbn, hbs.below hb, hby, hA⟩

/-- a call that turns a younger block alone leaves the reader as it is -/
theorem Rdr.away {w w' : World} {g q : Nat} {row : Option Nat} (h : Rdr w g q) (hg : w.grownBy w' row) (hne : ∀ b, row = some b → g < b) : Rdr w' g q := by
  obtain ⟨A, n, c, bs, hblk, hn, hbn, hbs, hby, hA⟩ := h
  refine ⟨A, n, c, bs, (hg.block g hblk.lt (fun e => by have := hne g e.symm; omega)).trans hblk, hn, hbn, ?_, hby, hA⟩
  by_cases hn0 : n = 0
  · refine .inl (List.eq_nil_of_length_eq_zero ?_)
    rw [u8s_len, hbn, hn0]
  rcases hbs with h | ⟨b, off, rfl, hlt, hc⟩
  · exact .inl h
  · have hbg := hA (by omega) b off rfl
    exact .inr ⟨b, off, rfl, Nat.lt_of_lt_of_le hlt hg.size, fun k hk => (World.cell?_of_block (a := ⟨b, off + k, none⟩) (hg.block b hlt (fun e => by have := hne b e.symm; omega))).trans (hc k hk)⟩
theorem only_own {w w3 w4 : World} {g : Nat} {row : Option Nat} (h : w.grownBy w3 (some g)) (hg : w3.grownBy w4 row) (hr : ∀ b, row = some b → w.heap.size ≤ b) : w.grownBy w4 (some g) :=
  ⟨hg.os.trans h.os, hg.tape.trans h.tape, hg.output.trans h.output, Nat.le_trans h.size hg.size, fun i hi hn => (hg.block i (Nat.lt_of_lt_of_le hi h.size) (fun e => by have := hr i e.symm; omega)).trans (h.block i hi hn)⟩

theorem xor_nonneg (x : Int) (h0 : 0 ≤ x) (h1 : x < 9223372036854775808) : 0 ≤ bits .xor .i64 x (x / 64) ∧ bits .xor .i64 x (x / 64) < 9223372036854775808 := by
  obtain ⟨a, rfl⟩ := Int.eq_ofNat_of_zero_le h0
  have ha : a < 9223372036854775808 := by omega
  have hb : a / 64 < 9223372036854775808 := by omega
  have e : bits .xor .i64 (a : Int) ((a : Int) / 64) = ((a ^^^ (a / 64) : Nat) : Int) := by
    have h1 : (a : Int) / 64 = ((a / 64 : Nat) : Int) := by omega
    rw [h1]
    have hx : a ^^^ (a / 64) < 2 ^ 63 := Nat.xor_lt_two_pow (by omega) (by omega)
    have o : ∀ a : Nat, a < 9223372036854775808 → (BitVec.ofInt 64 (a : Int)).toNat = a := by
      intro a ha
      rw [BitVec.ofInt_natCast, BitVec.toNat_ofNat]; exact Nat.mod_eq_of_lt (by omega)
    show IntKind.i64.wrap ((BitVec.ofInt 64 (a : Int) ^^^ BitVec.ofInt 64 ((a / 64 : Nat) : Int)).toNat : Int) = _
    rw [BitVec.toNat_xor, o a ha, o _ hb, IntKind.wrap_i64]
    omega
  rw [e]
  have hx : a ^^^ (a / 64) < 2 ^ 63 := Nat.xor_lt_two_pow (by omega) (by omega)
  omega

/-- what a pick of m may give -/
def Picked (m v : Int) : Prop := 0 ≤ v ∧ (1 ≤ m → v < m) ∧ (m < 1 → v = 0)

theorem pick_any (g q : Nat) (m : Int) (w : World) (hr : Rdr w g q) (hq : q ≤ 1000000000) (hm : m ≤ 1000000000) :
    Calls Tryz.prog 45 #[.pointer (some ⟨g, 0, none⟩), .int .i64 m] w (RInt fun v w' => Picked m v ∧ Rdr w' g (q + 1) ∧ w.grownBy w' (some g)) := by
  obtain ⟨A, n, c, bs, hblk, hn, hbn, hbs, hby, hA⟩ := hr
  have c0 := hblk.cell 0
  have c1 := hblk.cell 1
  have f1 := hblk.frozen 1
  simp only [List.getElem?_cons_zero, List.getElem?_cons_succ] at c0 c1
  have fin : Rdr (w.setCell ⟨g, 1, none⟩ (.int .i64 (q + 1))) g (q + 1) := by
    refine ⟨A, n, c, bs, hblk.set_ 1 _, hn, hbn, ?_, hby, hA⟩
    by_cases hn0 : n = 0
    · refine .inl (List.eq_nil_of_length_eq_zero ?_)
      rw [u8s_len, hbn, hn0]
    rcases hbs with h | ⟨b, off, rfl, hlt, hc⟩
    · exact .inl h
    · have hne : b ≠ g := Nat.ne_of_lt (hA (by omega) b off rfl)
      exact .inr ⟨b, off, rfl, by simpa [World.setCell] using hlt, fun k hk => (World.cell?_setCell_other w _ _ _ (fun e => hne (by injection e with e1; exact e1.symm))).trans (hc k hk)⟩
  have frm : w.grownBy (w.setCell ⟨g, 1, none⟩ (.int .i64 (q + 1))) (some g) :=
    ⟨rfl, rfl, rfl, by simp [World.setCell], fun k hk hne => Below.heap_setCell w _ _ k (fun e => hne (by rw [e]))⟩
  have HB := Lib.hid hbn
  have FIN := Lib.hid fin
  have FRM := Lib.hid frm
  clear hbn fin frm
  by_cases h1 : m < 1
  · go_enter Tryz.func45, Tryz.ntmps45
    go_wp2
    go_ret
    exact RInt.mk ⟨⟨by omega, by omega, by omega⟩, FIN.out, FRM.out⟩
  by_cases h2 : n = 0
  · subst h2
    go_enter Tryz.func45, Tryz.ntmps45
    go_wp2
    go_ret
    exact RInt.mk ⟨⟨by omega, by omega, by omega⟩, FIN.out, FRM.out⟩
  have h2b : ((n : Int) == 0) = false := by simp; omega
  have hm1 : 1 ≤ m := by omega
  by_cases h3 : q < n
  · have hql : q < (u8s bs).length := by rw [u8s_len, HB.out]; exact h3
    obtain ⟨b, off, rfl, hlt, hc⟩ := hbs.pos hql
    have hne : b ≠ g := Nat.ne_of_lt (hA (by omega) b off rfl)
    have hx := hc q hql
    rw [u8s_at] at hx
    have hbd := hby _ (List.getElem_mem (by rw [HB.out]; exact h3 : q < bs.length))
    generalize (bs[q]'(by rw [HB.out]; exact h3)) = x at hx hbd
    obtain ⟨hx0, hx1⟩ := hbd
    have hx' : (w.setCell ⟨g, 1, none⟩ (.int .i64 (q + 1))).cell? ⟨b, off + q, none⟩ = some (.int .u8 x) := (World.cell?_setCell_other w _ _ _ (fun e => hne (by injection e with e1; exact e1.symm))).trans hx
    clear hc
    go_enter Tryz.func45, Tryz.ntmps45
    go_wp2
    go_ret
    exact RInt.mk ⟨⟨Int.emod_nonneg _ (by omega), fun _ => Int.emod_lt_of_pos _ (by omega), by omega⟩, FIN.out, FRM.out⟩
  · have hpos : 0 < n := by omega
    have hql : 0 < (u8s bs).length := by rw [u8s_len, HB.out]; exact hpos
    obtain ⟨b, off, rfl, hlt, hc⟩ := hbs.pos hql
    have hne : b ≠ g := Nat.ne_of_lt (hA (by omega) b off rfl)
    have hc' : ∀ k, k < n → ∃ x, 0 ≤ x ∧ x ≤ 255 ∧ (w.setCell ⟨g, 1, none⟩ (.int .i64 (q + 1))).cell? ⟨b, off + k, none⟩ = some (.int .u8 x) := by
      intro k hk
      have hx := hc k (by rw [u8s_len, HB.out]; exact hk)
      rw [u8s_at] at hx
      have hbd := hby _ (List.getElem_mem (by rw [HB.out]; exact hk : k < bs.length))
      exact ⟨_, hbd.1, hbd.2, (World.cell?_setCell_other w _ _ _ (fun e => hne (by injection e with e1; exact e1.symm))).trans hx⟩
    have hn0 : (0 : Int) < (n : Int) := by omega
    have a1 : (0 : Int) ≤ (q : Int) % (n : Int) := Int.emod_nonneg _ (by omega)
    have a2 : (q : Int) % (n : Int) < (n : Int) := Int.emod_lt_of_pos _ hn0
    have a3 : ((q : Int) % (n : Int)).toNat = q % n := by rw [← Int.natCast_emod, Int.toNat_natCast]
    have b1 : (0 : Int) ≤ ((q : Int) * 7 + 3) % (n : Int) := Int.emod_nonneg _ (by omega)
    have b2 : ((q : Int) * 7 + 3) % (n : Int) < (n : Int) := Int.emod_lt_of_pos _ hn0
    have b3 : (((q : Int) * 7 + 3) % (n : Int)).toNat = (q * 7 + 3) % n := by
      have : ((q : Int) * 7 + 3) = ((q * 7 + 3 : Nat) : Int) := by omega
      rw [this, ← Int.natCast_emod, Int.toNat_natCast]
    obtain ⟨x, hx0, hx1, hx⟩ := hc' (q % n) (Nat.mod_lt _ hpos)
    obtain ⟨y, hy0, hy1, hy⟩ := hc' ((q * 7 + 3) % n) (Nat.mod_lt _ hpos)
    have d0 : (0 : Int) ≤ (q : Int) / (n : Int) := Int.ediv_nonneg (by omega) (by omega)
    have d1 : (q : Int) / (n : Int) ≤ (q : Int) := Int.ediv_le_self _ (by omega)
    have e1 : IntKind.i64.wrap (x * 131) = x * 131 := IntWalk.i64_in _ (by omega)
    have e2 : IntKind.i64.wrap ((q : Int) * 7) = (q : Int) * 7 := IntWalk.i64_in _ (by omega)
    have e3 : IntKind.i64.wrap ((q : Int) * 7 + 3) = (q : Int) * 7 + 3 := IntWalk.i64_in _ (by omega)
    have e4 : IntKind.i64.wrap (y * 1117) = y * 1117 := IntWalk.i64_in _ (by omega)
    have e5 : IntKind.i64.wrap (x * 131 + y * 1117) = x * 131 + y * 1117 := IntWalk.i64_in _ (by omega)
    have e6 : IntKind.i64.wrap ((q : Int) * 29) = (q : Int) * 29 := IntWalk.i64_in _ (by omega)
    have e7 : IntKind.i64.wrap (x * 131 + y * 1117 + (q : Int) * 29) = x * 131 + y * 1117 + (q : Int) * 29 := IntWalk.i64_in _ (by omega)
    have e8 : IntKind.i64.wrap ((q : Int) / (n : Int) * 53) = (q : Int) / (n : Int) * 53 := IntWalk.i64_in _ (by omega)
    have e9 : IntKind.i64.wrap (x * 131 + y * 1117 + (q : Int) * 29 + (q : Int) / (n : Int) * 53) = x * 131 + y * 1117 + (q : Int) * 29 + (q : Int) / (n : Int) * 53 := IntWalk.i64_in _ (by omega)
    clear hc hc'
    go_enter Tryz.func45, Tryz.ntmps45
    go_wp2
    go_quiet (fail)
    have hX : 0 ≤ x * 131 + y * 1117 + (q : Int) * 29 + (q : Int) / (n : Int) * 53 ∧ x * 131 + y * 1117 + (q : Int) * 29 + (q : Int) / (n : Int) * 53 < 9223372036854775808 := by omega
    have hxor := xor_nonneg _ hX.1 hX.2
    clear e1 e2 e3 e4 e5 e6 e7 e8 e9 a1 a2 a3 b1 b2 b3
    generalize x * 131 + y * 1117 + (q : Int) * 29 + (q : Int) / (n : Int) * 53 = X at *
    obtain ⟨hX0, _⟩ := hX
    obtain ⟨hz0, _⟩ := hxor
    go_wp2
    go_ret
    generalize bits BinOp.xor IntKind.i64 X (X / 64) = Z at *
    refine RInt.mk ⟨⟨Int.emod_nonneg _ (by omega), fun _ => Int.emod_lt_of_pos _ (by omega), by omega⟩, ?_, ?_⟩
    · exact FIN.out.drewN _
    · exact ⟨rfl, rfl, rfl, FRM.out.size, FRM.out.block⟩

theorem odd_any (g q : Nat) (m : Int) (w : World) (hr : Rdr w g q) (hq : q ≤ 1000000000) (hm : m ≤ 1000000000) :
    Calls Tryz.prog 55 #[.pointer (some ⟨g, 0, none⟩), .int .i64 m] w (RBool fun _ w' => ∃ q', q ≤ q' ∧ q' ≤ q + 1 ∧ Rdr w' g q' ∧ w.grownBy w' (some g)) := by
  by_cases h0 : 0 < m
  · go_enter Tryz.func55, Tryz.ntmps55
    go_wp2_with fail
    refine (pick_any g q m w hr hq hm).mono ?_
    rintro e w1 ⟨v, rfl, hv, hr1, hg1⟩
    go_wp2_with fail
    go_ret
    exact RBool.mk ⟨q + 1, by omega, by omega, hr1, hg1⟩
  · go_enter Tryz.func55, Tryz.ntmps55
    go_wp2_with fail
    go_ret
    exact RBool.mk ⟨q, by omega, by omega, hr, only_refl w _⟩

/-- the bytes that come in -/
structure Code (w : World) (A : Option Addr) (n c : Nat) (bs : List Int) : Prop where
  len : bs.length = n
  cap : n ≤ c
  max : c ≤ 9223372036854775807
  rd : RdV w A (u8s bs)
  byte : ∀ z ∈ bs, 0 ≤ z ∧ z ≤ 255

theorem open_any (A : Option Addr) (n c : Nat) (bs : List Int) (w : World) (h : Code w A n c bs) :
    Calls Tryz.prog 19 #[.slice A n c] w (RVal fun v w' => ∃ g, v = .pointer (some ⟨g, 0, none⟩) ∧ w.heap.size ≤ g ∧ Rdr w' g 0 ∧ Below w.heap.size w w') := by
  obtain ⟨hbn, hcap, hmax, hr, hby⟩ := h
  have hold : 0 < n → ∀ b off, A = some ⟨b, off, none⟩ → b < w.heap.size := by
    intro h0 b off e
    obtain ⟨b', off', e', hlt, _⟩ := hr.pos (k := 0) (by rw [u8s_len, hbn]; exact h0)
    rw [e'] at e
    injection e with e
    injection e with e1 _
    omega
  have HB := Lib.hid hbn
  clear hbn
  by_cases h : n ≤ 2000
  · go_enter Tryz.func19, Tryz.ntmps19
    go_wp2
    go_ret
    exact RVal.mk ⟨w.heap.size, rfl, Nat.le_refl _, ⟨A, n, c, bs, Blk.new _ _ [_, _], h, HB.out, hr.below ((Below.refl _ _).alloc (Nat.le_refl _) _), hby, fun h0 b off e => hold h0 b off e⟩, (Below.refl _ _).alloc (Nat.le_refl _) _⟩
  · have h2 : (2000 : Int) ≤ (c : Int) := by omega
    have h3 : (2000 : Int) < (n : Int) := by omega
    go_enter Tryz.func19, Tryz.ntmps19
    go_wp2
    go_ret
    have hp : 2000 ≤ (u8s bs).length := by rw [u8s_len, HB.out]; omega
    obtain ⟨b, off, rfl, hlt, hc⟩ := hr.pos (k := 0) (by omega)
    refine RVal.mk ⟨w.heap.size, rfl, Nat.le_refl _, ⟨some ⟨b, off, none⟩, 2000, c, bs.take 2000, Blk.new _ _ [_, _], by omega, ?_, ?_, fun z hz => hby z (List.mem_of_mem_take hz), fun _ b off e => hold (by omega) b off e⟩, (Below.refl _ _).alloc (Nat.le_refl _) _⟩
    · rw [List.length_take]; rw [u8s_len] at hp; omega
    · refine RdV.below (.inr ⟨b, off, rfl, hlt, fun k hk => ?_⟩) ((Below.refl _ _).alloc (Nat.le_refl _) _)
      have hk' : k < (u8s bs).length := by simp only [u8s, List.length_map, List.length_take] at hk ⊢; omega
      rw [hc k hk']
      simp [u8s]
end Go.Proofs.YtbkfhcbecejomaaGreat
end
section
/- What a row's reading of a slice of bytes gives to a walk. -/
namespace Go.Proofs.YtbkfhcbecejomaaGreat
open Go.ChangeShapes Go.WideShapes Go.ChangeAt Go.RowKit
theorem read_code {H : Type} {enc : TypeId × Value → H} {w : World} {base : Nat} {spare : Nat → Bool} {held : Bool} {A : Option Addr} {n c : Nat} {d : DataW H} {p : List MemPlace}
    (h : DataW.Trod enc Tryz.prog w base spare held 22 (.slice A n c) d p) : ∃ bs, Code w A n c bs := by
  have h0 := h
  obtain ⟨fuel, hf⟩ := h
  rcases open_ints Tryz.underlying22 Tryz.underlying5 (by kernel_rfl) hf with ⟨hcs, _⟩ | ⟨x, l, c', zs, hcs, hb, hl, hm, hz, hx, hcell, hwz⟩
  · simp [Value.cells] at hcs
    obtain ⟨rfl, rfl, rfl⟩ := hcs
    exact ⟨[], rfl, Nat.le_refl _, by decide, .inl rfl, by simp⟩
  · simp [Value.cells] at hcs
    obtain ⟨rfl, rfl, rfl⟩ := hcs
    have hz' : n ≤ zs.length := by rw [hz]; split <;> omega
    refine ⟨zs.take n, by simp; omega, hl, by unfold maxLen at hm; exact hm, row_of_cells n hz' hcell, fun z hz => ?_⟩
    · have hw := hwz z (List.mem_of_mem_take hz)
      have := bounds_u8 hw
      omega
end Go.Proofs.YtbkfhcbecejomaaGreat
end
section
/- Slices of the call's own: what they give, how an element is appended. -/
namespace Go.Proofs.YtbkfhcbecejomaaGreat
open Go.ChangeShapes Go.WideShapes Go.ChangeAt Go.RowKit

/-- what the program's table says of an element type -/
def Info (P : Program) (e : TypeId) (z : Value) (size bytes : Nat) : Prop :=
  ∃ i, P.info? e = some i ∧ i.zero = some z ∧ i.size = size ∧ i.bytes = bytes ∧ z.cells.size = size ∧ 0 < size ∧ bytes ≤ 1024
theorem Info.mk' {P : Program} {e : TypeId} {z : Value} {size bytes : Nat} (h : (P.info? e).map (fun i => (i.zero, i.size, i.bytes)) = some (some z, size, bytes)) (hz : z.cells.size = size) (hs : 0 < size) (hb : bytes ≤ 1024) : Info P e z size bytes := by
  obtain ⟨i, h1, h2, h3, h4⟩ := info_parts h
  exact ⟨i, h1, h2, h3, h4, hz, hs, hb⟩

section
variable {w w' : World} {base : Nat} {e : TypeId} {size n : Nat} {v : Value} {xs : List Value}
theorem own_slice (h : w.ownsRow base e size v n xs) : ∃ A c, v = .slice A n c ∧ n ≤ c ∧ c ≤ maxLen := by
  rcases h.2 with ⟨rfl, rfl⟩ | ⟨g, cap, cur, rfl, _, _, h1, h2, _⟩
  · exact ⟨none, 0, rfl, Nat.le_refl _, by decide⟩
  · exact ⟨_, cap, rfl, h1, h2⟩
theorem own_form (h : w.ownsRow base e size v n xs) : (v = .slice none 0 0 ∧ n = 0 ∧ xs = []) ∨ ∃ g c, v = .slice (some ⟨g, 0, none⟩) n c ∧ base ≤ g ∧ g < w.heap.size ∧ n ≤ c := by
  rcases h.2 with ⟨rfl, rfl⟩ | ⟨g, cap, cur, rfl, hb, hg, h1, h2, _⟩
  · exact .inl ⟨rfl, rfl, List.eq_nil_of_length_eq_zero (by simpa using h.1)⟩
  · exact .inr ⟨g, cap, rfl, hb, (Array.getElem?_eq_some_iff.1 hg).1, h1⟩
theorem own_rd {A : Option Addr} {c : Nat} (h : w.ownsRow base e size (.slice A n c) n xs) : RdV w A xs := by
  rcases own_form h with ⟨_, _, hx⟩ | ⟨g, c', hv, _, hlt, _⟩
  · exact .inl hx
  · injection hv with hA _ _
    subst hA
    refine .inr ⟨g, 0, rfl, hlt, fun k hk => ?_⟩
    have := h.cells (g := g) rfl k _ (List.getElem?_eq_getElem hk)
    rw [Nat.zero_add]
    have he : (⟨g, 0, none⟩ : Addr).add k = ⟨g, k, none⟩ := by unfold Addr.add; split <;> simp_all
    rw [he] at this
    exact this
theorem own_later (h : w.ownsRow base e size v n xs) (hb : Below w.heap.size w w') : w'.ownsRow base e size v n xs :=
  h.kept (row := none) ⟨hb.os, hb.tape, hb.output, hb.size, fun k hk _ => hb.block k hk⟩ (by cases v.ownBlock <;> simp)
theorem own_only {g : Nat} (h : w.ownsRow base e size v n xs) (hg : w.grownBy w' (some g)) (hne : v.ownBlock ≠ some g) : w'.ownsRow base e size v n xs := h.kept hg (.inr hne)
theorem own_base {base' : Nat} (h : w.ownsRow base e size v n xs) (hb : base' ≤ base) : w.ownsRow base' e size v n xs := by
  refine ⟨h.1, ?_⟩
  rcases h.2 with hn | ⟨g, cap, cur, hv, hg, rest⟩
  · exact .inl hn
  · exact .inr ⟨g, cap, cur, hv, Nat.le_trans hb hg, rest⟩
theorem own_drewN (h : w.ownsRow base e size v n xs) (k : Nat) : (w.drewN k).ownsRow base e size v n xs := h
/-- a slice made by make or a literal -/
theorem own_of_blk {g : Nat} {cs : List Value} (h : Blk w g e cs) (hb : base ≤ g) (hn : cs.length = n * size) (hm : n ≤ maxLen) : w.ownsRow base e size (.slice (some ⟨g, 0, none⟩) n n) n cs :=
  ⟨hn, .inr ⟨g, n, cs.toArray, rfl, hb, h, Nat.le_refl _, hm, by simpa using hn, by rw [← hn]; simp⟩⟩
/-- behind a law on append: what was there ahead is as it was -/
theorem below_append {w0 w1 : World} {row : Option Nat} (hb : Below w0.heap.size w0 w) (hg : w.grownBy w1 row) (h : w.ownsRow w0.heap.size e size v n xs) (hr : row = v.ownBlock) : Below w0.heap.size w0 w1 := by
  subst hr
  exact hb.grown hg hb.size (fun k hk => (h.lt k hk).1)
end

theorem own_ne {w : World} {base g : Nat} {e : TypeId} {size n : Nat} {v : Value} {xs : List Value} (h : w.ownsRow base e size v n xs) (hg : g < base) : v.ownBlock ≠ some g :=
  fun e => by have := (h.lt g e).1; omega
/-- 'out = append(out, x)': the one element lies in a new block (news: its cells) -/
theorem append_new {P : Program} {ops : Array Oper} {rest : List Oper} {o : Oper} {a : Act} {Q : Exit → Act → World → Prop} (hgd : o.guard = none) (s x : Operand) (t : TypeId)
    (ho : o.op = .call { callee := .builtin .append, args := #[s, x], argTypes := #[t, t] })
    (e : TypeId) (z : Value) (size bytes : Nat) (ht : P.underlying t = some (.slice e)) (hi : Info P e z size bytes)
    (base : Nat) (w : World) (v : Value) (n : Nat) (xs : List Value) (hs : a.eval s = v) (hown : w.ownsRow base e size v n xs)
    (news : List Value) (hx : a.eval x = .slice (some ⟨w.heap.size, 0, none⟩) 1 1) (hl : news.length = size) (h1 : ∀ u ∈ news, u.oneCell' = true)
    (hn : n ≤ 8589934592) (hbase : base ≤ w.heap.size)
    (h : ∀ v' w', w'.ownsRow base e size v' (n + 1) (xs ++ news) → w.grownBy w' v.ownBlock → (v'.ownBlock = v.ownBlock ∨ v'.ownBlock = some (w.heap.size + 1)) → wpList P ops Q rest (a.put o.dst v') w') :
    wpList P ops Q (o :: rest) a (w.alloc (.cells news.toArray e)) := by
  obtain ⟨i, hi1, hz, h3, h4, h5, h6, h7⟩ := hi
  have hcells : ∀ j u, news[j]? = some u → (w.alloc (.cells news.toArray e)).cell? ((⟨w.heap.size, 0, none⟩ : Addr).add j) = some u := by
    intro j u hu
    have hb := (Blk.new w e news).cell j
    have he : (⟨w.heap.size, 0, none⟩ : Addr).add j = ⟨w.heap.size, j, none⟩ := by unfold Addr.add; split <;> simp_all
    rw [he, hb, hu]
  have hbytes : (n + 1) * bytes ≤ 140737488355328 := Nat.le_trans (Nat.mul_le_mul (show n + 1 ≤ 8589934593 by omega) h7) (by decide)
  refine wpList_append_own_at (P := P) (w.alloc (.cells news.toArray e)) hgd s x t ho base e i z size bytes ht hi1 hz h3 h4 h5 h6 v n xs hs (hown.alloc _) _ 1 1 news hx (by omega) hcells h1 (by unfold maxLen; omega) hbytes (by simp; omega) ?_
  intro v' w' ho' hg' _ hb'
  refine h v' w' ho' ?_ ?_
  · exact ⟨hg'.os, hg'.tape, hg'.output, by have := hg'.size; simp at this; omega, fun k hk hne => (hg'.block k (by simp; omega) hne).trans (Below.heap_alloc _ _ _ hk)⟩
  · simpa using hb'
end Go.Proofs.YtbkfhcbecejomaaGreat
end
section
/- 'out = append(out, x)' inside a statement whose order is open. -/
namespace Go.Proofs.YtbkfhcbecejomaaGreat
open Go.ChangeShapes Go.WideShapes Go.ChangeAt Go.RowKit
theorem step_append_new {P : Program} {ops : Array Oper} {o : Oper} {a : Act} {K : Act → World → Prop} {Q : Exit → Act → World → Prop} {E : Prop} (hgd : o.guard = none) (s x : Operand) (t : TypeId)
    (ho : o.op = .call { callee := .builtin .append, args := #[s, x], argTypes := #[t, t] })
    (e : TypeId) (z : Value) (size bytes : Nat) (ht : P.underlying t = some (.slice e)) (hi : Info P e z size bytes)
    (base : Nat) (w : World) (v : Value) (n : Nat) (xs : List Value) (hs : a.eval s = v) (hown : w.ownsRow base e size v n xs)
    (news : List Value) (hx : a.eval x = .slice (some ⟨w.heap.size, 0, none⟩) 1 1) (hl : news.length = size) (h1 : ∀ u ∈ news, u.oneCell' = true)
    (hn : n ≤ 8589934592) (hbase : base ≤ w.heap.size)
    (h : ∀ v' w', w'.ownsRow base e size v' (n + 1) (xs ++ news) → w.grownBy w' v.ownBlock → (v'.ownBlock = v.ownBlock ∨ v'.ownBlock = some (w.heap.size + 1)) → K (a.put o.dst v') w') :
    if Region.wanted o (yielded ops a.tmps) = true then Oper.wp P o a (w.alloc (.cells news.toArray e)) K Q else E := by
  have hw : Region.wanted o (yielded ops a.tmps) = true := by simp [Region.wanted, hgd]
  rw [if_pos hw]
  obtain ⟨i, hi1, hz, h3, h4, h5, h6, h7⟩ := hi
  have hcells : ∀ j u, news[j]? = some u → (w.alloc (.cells news.toArray e)).cell? ((⟨w.heap.size, 0, none⟩ : Addr).add j) = some u := by
    intro j u hu
    have hb := (Blk.new w e news).cell j
    have he : (⟨w.heap.size, 0, none⟩ : Addr).add j = ⟨w.heap.size, j, none⟩ := by unfold Addr.add; split <;> simp_all
    rw [he, hb, hu]
  have hbytes : (n + 1) * bytes ≤ 140737488355328 := Nat.le_trans (Nat.mul_le_mul (show n + 1 ≤ 8589934593 by omega) h7) (by decide)
  obtain ⟨v', w', hr, ho', hg', _, hb'⟩ := run_append_own_at (P := P) (w.alloc (.cells news.toArray e)) base t o.type e i z size bytes ht hi1 hz h3 h4 h5 h6 v n xs (hown.alloc _) ⟨w.heap.size, 0, none⟩ 1 1 news (by omega) hcells h1 (by unfold maxLen; omega) hbytes (by simp; omega)
  unfold Oper.wp execOp
  simp only [ho, resolve, invoke, builtin, Sem.run_bind, Sem.run_pure, Result.andThen_ok, List.map_toArray, List.map_cons, List.map_nil, hs, hx, hr]
  refine h v' w' ho' ?_ ?_
  · exact ⟨hg'.os, hg'.tape, hg'.output, by have := hg'.size; simp at this; omega, fun k hk hne => (hg'.block k (by simp; omega) hne).trans (Below.heap_alloc _ _ _ hk)⟩
  · simpa using hb'
end Go.Proofs.YtbkfhcbecejomaaGreat
end
section
/- 'append(xs, ys...)' onto a slice of the call's own, whatever ys is. -/
namespace Go.Proofs.YtbkfhcbecejomaaGreat
open Go.ChangeShapes Go.WideShapes Go.ChangeAt Go.RowKit
theorem run_append_of_nil {P : Program} (w : World) (base : Nat) (t ty e : TypeId) (i : TypeInfo) (size : Nat) (ht : P.underlying t = some (.slice e)) (hi : P.info? e = some i)
    (v : Value) (n : Nat) (xs : List Value) (hown : w.ownsRow base e size v n xs) (c : Nat) : (Builtin.append_ #[t, t] ty #[v, .slice none 0 c]).run P w = .ok v w := by
  rcases hown.2 with ⟨rfl, rfl⟩ | ⟨g, cap, cur, rfl, _, _, hnc, _⟩
  · simp [Builtin.append_, run_underlying ht, sizeOf, typeInfo, hi, Builtin.lenOf, Builtin.firstCells]
  · simp [Builtin.append_, run_underlying ht, sizeOf, typeInfo, hi, Builtin.lenOf, Builtin.firstCells, hnc, storeCells]

theorem run_append_src {P : Program} (w : World) (base : Nat) (t ty e : TypeId) (z : Value) (size bytes : Nat) (ht : P.underlying t = some (.slice e)) (hi : Info P e z size bytes)
    (v : Value) (n : Nat) (xs : List Value) (hown : w.ownsRow base e size v n xs)
    (A : Option Addr) (m c : Nat) (news : List Value) (hl : news.length = m * size) (hr : RdV w A news) (h1 : ∀ u ∈ news, u.oneCell' = true)
    (hn : n + m ≤ 8589934593) (hbase : base ≤ w.heap.size) :
    ∃ v' w', (Builtin.append_ #[t, t] ty #[v, .slice A m c]).run P w = .ok v' w' ∧ w'.ownsRow base e size v' (n + m) (xs ++ news) ∧ w.grownBy w' v.ownBlock ∧
      (v'.ownBlock = v.ownBlock ∨ v'.ownBlock = some w.heap.size) := by
  obtain ⟨i, hi1, hz, h3, h4, h5, h6, h7⟩ := hi
  have hbytes : (n + m) * bytes ≤ 140737488355328 := Nat.le_trans (Nat.mul_le_mul hn h7) (by decide)
  rcases A with _ | ad
  · have hnil : news = [] := by
      rcases hr with h | ⟨b, off, h, _⟩
      · exact h
      · cases h
    subst hnil
    have hm : m = 0 := by
      rcases Nat.eq_zero_or_pos m with h | h
      · exact h
      · have := Nat.mul_pos h h6
        simp at hl
        omega
    subst hm
    exact ⟨v, w, run_append_of_nil w base t ty e i size ht hi1 v n xs hown c, by simpa using hown, World.grownBy.refl w _, .inl rfl⟩
  · have hcells : ∀ j u, news[j]? = some u → w.cell? (ad.add j) = some u := by
      intro j u hu
      obtain ⟨hj, rfl⟩ := List.getElem?_eq_some_iff.1 hu
      obtain ⟨b, off, he, _, hc⟩ := hr.pos hj
      injection he with he
      subst he
      have hadd : (⟨b, off, none⟩ : Addr).add j = ⟨b, off + j, none⟩ := by unfold Addr.add; split <;> simp_all
      rw [hadd]
      exact hc j hj
    obtain ⟨v', w', hrun, h2, h3', _, h5'⟩ := run_append_own_at (P := P) w base t ty e i z size bytes ht hi1 hz h3 h4 h5 h6 v n xs hown ad m c news hl hcells h1 (by unfold maxLen; omega) hbytes hbase
    exact ⟨v', w', hrun, h2, h3', h5'⟩

theorem append_src {P : Program} {ops : Array Oper} {rest : List Oper} {o : Oper} {a : Act} {Q : Exit → Act → World → Prop} (hgd : o.guard = none) (s x : Operand) (t : TypeId)
    (ho : o.op = .call { callee := .builtin .append, args := #[s, x], argTypes := #[t, t] })
    (e : TypeId) (z : Value) (size bytes : Nat) (ht : P.underlying t = some (.slice e)) (hi : Info P e z size bytes)
    (base : Nat) (w : World) (v : Value) (n : Nat) (xs : List Value) (hs : a.eval s = v) (hown : w.ownsRow base e size v n xs)
    (A : Option Addr) (m c : Nat) (news : List Value) (hx : a.eval x = .slice A m c) (hl : news.length = m * size) (hr : RdV w A news) (h1 : ∀ u ∈ news, u.oneCell' = true)
    (hn : n + m ≤ 8589934593) (hbase : base ≤ w.heap.size)
    (h : ∀ v' w', w'.ownsRow base e size v' (n + m) (xs ++ news) → w.grownBy w' v.ownBlock → (v'.ownBlock = v.ownBlock ∨ v'.ownBlock = some w.heap.size) → wpList P ops Q rest (a.put o.dst v') w') :
    wpList P ops Q (o :: rest) a w := by
  refine wpList_plain hgd fun K hK => ?_
  obtain ⟨v', w', hrun, h2, h3, h4⟩ := run_append_src (P := P) w base t o.type e z size bytes ht hi v n xs hown A m c news hl hr h1 hn hbase
  unfold Oper.wp execOp
  simp only [ho, resolve, invoke, builtin, Sem.run_bind, Sem.run_pure, Result.andThen_ok, List.map_toArray, List.map_cons, List.map_nil, hs, hx, hrun]
  exact hK _ _ (h v' w' h2 h3 h4)
theorem step_append_src {P : Program} {ops : Array Oper} {o : Oper} {a : Act} {K : Act → World → Prop} {Q : Exit → Act → World → Prop} {E : Prop} (hgd : o.guard = none) (s x : Operand) (t : TypeId)
    (ho : o.op = .call { callee := .builtin .append, args := #[s, x], argTypes := #[t, t] })
    (e : TypeId) (z : Value) (size bytes : Nat) (ht : P.underlying t = some (.slice e)) (hi : Info P e z size bytes)
    (base : Nat) (w : World) (v : Value) (n : Nat) (xs : List Value) (hs : a.eval s = v) (hown : w.ownsRow base e size v n xs)
    (A : Option Addr) (m c : Nat) (news : List Value) (hx : a.eval x = .slice A m c) (hl : news.length = m * size) (hr : RdV w A news) (h1 : ∀ u ∈ news, u.oneCell' = true)
    (hn : n + m ≤ 8589934593) (hbase : base ≤ w.heap.size)
    (h : ∀ v' w', w'.ownsRow base e size v' (n + m) (xs ++ news) → w.grownBy w' v.ownBlock → (v'.ownBlock = v.ownBlock ∨ v'.ownBlock = some w.heap.size) → K (a.put o.dst v') w') :
    if Region.wanted o (yielded ops a.tmps) = true then Oper.wp P o a w K Q else E := by
  have hw : Region.wanted o (yielded ops a.tmps) = true := by simp [Region.wanted, hgd]
  rw [if_pos hw]
  obtain ⟨v', w', hrun, h2, h3, h4⟩ := run_append_src (P := P) w base t o.type e z size bytes ht hi v n xs hown A m c news hl hr h1 hn hbase
  unfold Oper.wp execOp
  simp only [ho, resolve, invoke, builtin, Sem.run_bind, Sem.run_pure, Result.andThen_ok, List.map_toArray, List.map_cons, List.map_nil, hs, hx, hrun]
  exact h v' w' h2 h3 h4
theorem ints_one (zs : List Int) : ∀ u ∈ ints zs, u.oneCell' = true := by
  intro u hu
  simp only [ints, List.mem_map] at hu
  obtain ⟨z, _, rfl⟩ := hu
  rfl
end Go.Proofs.YtbkfhcbecejomaaGreat
end
section
/- 'append([]T{}, xs...)': the copy lies in a block of its own, nothing else turns. -/
namespace Go.Proofs.YtbkfhcbecejomaaGreat
open Go Go.ChangeShapes Go.WideShapes Go.ChangeAt Go.RowKit
set_option linter.unusedVariables false
theorem run_append_same {P : Program} (w : World) (t ty e : TypeId) (z : Value) (size bytes : Nat) (ht : P.underlying t = some (.slice e)) (hi : Info P e z size bytes) (b : Addr) (A : Option Addr) (m k : Nat) (news : List Value)
    (hl : news.length = m * size) (hr : RdV w A news) (h1 : ∀ u ∈ news, u.oneCell' = true) (hm : 0 < m) (hn : m ≤ 8589934593) :
    (Builtin.append_ #[t, t] ty #[.slice (some b) 0 0, .slice A m k]).run P w = (Builtin.append_ #[t, t] ty #[.slice none 0 0, .slice A m k]).run P w := by
  obtain ⟨i, hi1, hz, h3, h4, h5, h6, h7⟩ := hi
  have hbytes : m * bytes ≤ 140737488355328 := Nat.le_trans (Nat.mul_le_mul hn h7) (by decide)
  have hpos : 0 < news.length := by rw [hl]; exact Nat.mul_pos hm h6
  obtain ⟨b2, off, rfl, _, hc⟩ := hr.pos hpos
  have hcells : ∀ j u, news[j]? = some u → w.cell? ((⟨b2, off, none⟩ : Addr).add j) = some u := by
    intro j u hu
    obtain ⟨hj, rfl⟩ := List.getElem?_eq_some_iff.1 hu
    have hadd : (⟨b2, off, none⟩ : Addr).add j = ⟨b2, off + j, none⟩ := by unfold Addr.add; split <;> simp_all
    rw [hadd]
    exact hc j hj
  have hS : Src P i.size t (.slice (some ⟨b2, off, none⟩) m k) m news w := Src.ofSlice (P := P) w ht ⟨b2, off, none⟩ m k news (by rw [h3]; exact hl) hcells h1
  have hold : ∀ B : Option Addr, (Builtin.firstCells i.size 0 (.slice B 0 0)).run P w.drew = .ok ([] : List Value).toArray w.drew := fun B => by
    cases B with
    | none => exact run_firstCells_none w.drew i.size 0 0 0
    | some a => exact run_firstCells_some w.drew i.size 0 a 0 0 [] (by simp) (by simp)
  have hfit : Builtin.nextslicecap (0 + m) 0 * i.bytes ≤ 281474976710656 := by
    rw [h4]
    exact growslice_fits (by omega) (by rw [Nat.zero_add]; exact hbytes)
  rw [run_append_grow_src (P := P) w t t ty e i z ht hi1 hz (some b) 0 0 [] (hold _) _ m news hS (by omega) (by omega) hfit, run_append_grow_src (P := P) w t t ty e i z ht hi1 hz none 0 0 [] (hold _) _ m news hS (by omega) (by omega) hfit]
theorem run_append_fresh {P : Program} (w : World) (t ty e : TypeId) (z : Value) (size bytes : Nat) (ht : P.underlying t = some (.slice e)) (hi : Info P e z size bytes) (b : Addr) (A : Option Addr) (m k : Nat) (news : List Value)
    (hl : news.length = m * size) (hr : RdV w A news) (h1 : ∀ u ∈ news, u.oneCell' = true) (hn : m ≤ 8589934593) :
    ∃ B c w', (Builtin.append_ #[t, t] ty #[.slice (some b) 0 0, .slice A m k]).run P w = .ok (.slice B m c) w' ∧ (0 < m → w'.ownsRow w.heap.size e size (.slice B m c) m news) ∧ Below w.heap.size w w' := by
  rcases Nat.eq_zero_or_pos m with h0 | h0
  · subst h0
    obtain ⟨i, hi1, hz, h3, h4, h5, h6, h7⟩ := hi
    have hnil : news = [] := List.eq_nil_of_length_eq_zero (by simpa using hl)
    subst hnil
    have hS : Src P i.size t (.slice A 0 k) 0 [] w := by
      cases A with
      | none => exact Src.ofNil (P := P) w ht k
      | some a => exact Src.ofSlice (P := P) w ht a 0 k [] (by simp) (by simp) (by simp)
    exact ⟨some b, 0, w, run_append_nothing w t t ty e i ht hi1 (some b) 0 0 (Nat.le_refl _) _ hS, fun h => absurd h (by omega), Below.refl _ _⟩
  · rw [run_append_same w t ty e z size bytes ht hi b A m k news hl hr h1 h0 hn]
    obtain ⟨v', w', hrun, h2, h3, _⟩ := run_append_src (P := P) w w.heap.size t ty e z size bytes ht hi (.slice none 0 0) 0 [] (World.ownsRow_nil _ _ _ _) A m k news hl hr h1 (by omega) (Nat.le_refl _)
    rw [Nat.zero_add, List.nil_append] at h2
    obtain ⟨B, c, rfl, _, _⟩ := own_slice h2
    exact ⟨B, c, w', hrun, fun _ => h2, ⟨h3.os, h3.tape, h3.output, h3.size, fun i hi => h3.block i hi (by simp [Value.ownBlock])⟩⟩
/-- the copy, in a region -/
theorem step_append_fresh {P : Program} {ops : Array Oper} {o : Oper} {a : Act} {K : Act → World → Prop} {Q : Exit → Act → World → Prop} {E : Prop} (hgd : o.guard = none) (s x : Operand) (t : TypeId)
    (ho : o.op = .call { callee := .builtin .append, args := #[s, x], argTypes := #[t, t] })
    (e : TypeId) (z : Value) (size bytes : Nat) (ht : P.underlying t = some (.slice e)) (hi : Info P e z size bytes)
    (w : World) (b : Addr) (hs : a.eval s = .slice (some b) 0 0)
    (A : Option Addr) (m c : Nat) (news : List Value) (hx : a.eval x = .slice A m c) (hl : news.length = m * size) (hr : RdV w A news) (h1 : ∀ u ∈ news, u.oneCell' = true)
    (hn : m ≤ 8589934593)
    (h : ∀ B d w', (0 < m → w'.ownsRow w.heap.size e size (.slice B m d) m news) → Below w.heap.size w w' → K (a.put o.dst (.slice B m d)) w') :
    if Region.wanted o (yielded ops a.tmps) = true then Oper.wp P o a w K Q else E := by
  have hw : Region.wanted o (yielded ops a.tmps) = true := by simp [Region.wanted, hgd]
  rw [if_pos hw]
  obtain ⟨B, d, w', hrun, h2, h3⟩ := run_append_fresh (P := P) w t o.type e z size bytes ht hi b A m c news hl hr h1 hn
  unfold Oper.wp execOp
  simp only [ho, resolve, invoke, builtin, Sem.run_bind, Sem.run_pure, Result.andThen_ok, List.map_toArray, List.map_cons, List.map_nil, hs, hx, hrun]
  exact h B d w' h2 h3
end Go.Proofs.YtbkfhcbecejomaaGreat
end
section
/- What lies in blocks lo to hi (without hi): objects that a call has made, and calls that turn such blocks alone. -/
namespace Go.Proofs.YtbkfhcbecejomaaGreat
open Go.ChangeShapes Go.WideShapes Go.ChangeAt Go.RowKit

/-- outside the blocks lo to hi (and but for new blocks) the world is as it was -/
structure Out (lo hi : Nat) (w w' : World) : Prop where
  os : w'.os = w.os
  tape : w'.tape = w.tape
  output : w'.output = w.output
  size : w.heap.size ≤ w'.heap.size
  block : ∀ k, k < w.heap.size → (k < lo ∨ hi ≤ k) → w'.heap[k]? = w.heap[k]?
theorem Out.refl (lo hi : Nat) (w : World) : Out lo hi w w := ⟨rfl, rfl, rfl, Nat.le_refl _, fun _ _ _ => rfl⟩
theorem Out.trans {lo hi : Nat} {a b c : World} (h : Out lo hi a b) (k : Out lo hi b c) : Out lo hi a c :=
  ⟨k.os.trans h.os, k.tape.trans h.tape, k.output.trans h.output, Nat.le_trans h.size k.size, fun i hi hn => (k.block i (Nat.lt_of_lt_of_le hi h.size) hn).trans (h.block i hi hn)⟩
theorem Out.mono {lo hi lo' hi' : Nat} {a b : World} (h : Out lo hi a b) (h1 : lo' ≤ lo) (h2 : hi ≤ hi') : Out lo' hi' a b :=
  ⟨h.os, h.tape, h.output, h.size, fun k hk hn => h.block k hk (by omega)⟩
theorem Below.out {w w' : World} (h : Below w.heap.size w w') (lo hi : Nat) : Out lo hi w w' := ⟨h.os, h.tape, h.output, h.size, fun k hk _ => h.block k hk⟩
theorem out_of_grown {w w' : World} {row : Option Nat} {lo hi : Nat} (h : w.grownBy w' row) (hr : ∀ g, row = some g → lo ≤ g ∧ g < hi) : Out lo hi w w' :=
  ⟨h.os, h.tape, h.output, h.size, fun k hk hn => h.block k hk (fun e => by have := hr k e.symm; omega)⟩
theorem below_out {w w1 w2 : World} {lo hi : Nat} (h : Below w.heap.size w w1) (k : Out lo hi w1 w2) (hlo : w.heap.size ≤ lo) : Below w.heap.size w w2 :=
  h.trans ⟨k.os, k.tape, k.output, k.size, fun i hi => k.block i (Nat.lt_of_lt_of_le hi h.size) (.inl (by omega))⟩

/-- a slice of the call's own whose block lies between lo and hi -/
structure OwnI (w : World) (lo hi : Nat) (e : TypeId) (size : Nat) (v : Value) (n : Nat) (xs : List Value) : Prop where
  row : w.ownsRow lo e size v n xs
  lt : ∀ g, v.ownBlock = some g → g < hi
  top : hi ≤ w.heap.size
theorem OwnI.of {w : World} {lo : Nat} {e : TypeId} {size n : Nat} {v : Value} {xs : List Value} (h : w.ownsRow lo e size v n xs) : OwnI w lo w.heap.size e size v n xs :=
  ⟨h, fun g hg => (h.lt g hg).2, Nat.le_refl _⟩
theorem OwnI.out {w w' : World} {lo hi lo' hi' : Nat} {e : TypeId} {size n : Nat} {v : Value} {xs : List Value} (h : OwnI w lo hi e size v n xs) (ho : Out lo' hi' w w') (hd : hi ≤ lo' ∨ hi' ≤ lo) : OwnI w' lo hi e size v n xs := by
  refine ⟨⟨h.row.1, ?_⟩, h.lt, Nat.le_trans h.top ho.size⟩
  rcases h.row.2 with hn | ⟨g, cap, cur, rfl, hb, hg, rest⟩
  · exact .inl hn
  · have := h.lt g rfl
    exact .inr ⟨g, cap, cur, rfl, hb, (ho.block g (Array.getElem?_eq_some_iff.1 hg).1 (by omega)).trans hg, rest⟩
theorem OwnI.later {w w' : World} {lo hi : Nat} {e : TypeId} {size n : Nat} {v : Value} {xs : List Value} (h : OwnI w lo hi e size v n xs) (hb : Below w.heap.size w w') : OwnI w' lo hi e size v n xs :=
  h.out (Below.out hb lo lo) (.inr (Nat.le_refl _))
theorem OwnI.rd {w : World} {lo hi : Nat} {e : TypeId} {size n c : Nat} {A : Option Addr} {xs : List Value} (h : OwnI w lo hi e size (.slice A n c) n xs) : RdV w A xs := own_rd h.row
/-- behind a call that has turned the object's own block alone -/
theorem OwnI.turned {w w' : World} {lo hi : Nat} {e : TypeId} {size n : Nat} {v : Value} {xs ys : List Value} (h : OwnI w lo hi e size v n xs) (h' : w'.ownsRow lo e size v n ys) (hg : w.grownBy w' v.ownBlock) : OwnI w' lo hi e size v n ys ∧ Out lo hi w w' :=
  ⟨⟨h', h.lt, Nat.le_trans h.top hg.size⟩, out_of_grown hg (fun g e => ⟨(h.row.lt g e).1, h.lt g e⟩)⟩
theorem blk_ownI {w : World} {lo g : Nat} {e : TypeId} {size n : Nat} {cs : List Value} (h : Blk w g e cs) (hlo : lo ≤ g) (hn : cs.length = n * size) (hm : n ≤ maxLen) : OwnI w lo w.heap.size e size (.slice (some ⟨g, 0, none⟩) n n) n cs :=
  OwnI.of (own_of_blk h hlo hn hm)
end Go.Proofs.YtbkfhcbecejomaaGreat
end
section
/- Rows of structs, by their cells: k cells an element. -/
namespace Go.Proofs.YtbkfhcbecejomaaGreat
open Go Go.ChangeShapes Go.WideShapes Go.ChangeAt Go.RowKit
section
variable {α : Type} (enc : α → List Value) (k : Nat)
/-- the cells of a list -/
def cellsOf (zs : List α) : List Value := zs.flatMap enc
theorem cellsOf_len (hk : ∀ x, (enc x).length = k) (zs : List α) : (cellsOf enc zs).length = zs.length * k := by
  induction zs with
  | nil => simp [cellsOf]
  | cons z zs ih =>
    show (enc z ++ cellsOf enc zs).length = _
    rw [List.length_append, ih, hk, List.length_cons, Nat.succ_mul]
    omega
theorem cellsOf_append (a b : List α) : cellsOf enc (a ++ b) = cellsOf enc a ++ cellsOf enc b := by simp [cellsOf]
theorem cellsOf_one (a : α) : cellsOf enc [a] = enc a := by simp [cellsOf]
theorem cellsOf_at (hk : ∀ x, (enc x).length = k) (zs : List α) (i : Nat) (hi : i < zs.length) (j : Nat) (hj : j < k) : (cellsOf enc zs)[i * k + j]? = (enc zs[i])[j]? := by
  induction zs generalizing i with
  | nil => simp at hi
  | cons z zs ih =>
    show (enc z ++ cellsOf enc zs)[i * k + j]? = _
    cases i with
    | zero =>
      rw [Nat.zero_mul, Nat.zero_add, List.getElem?_append_left (by rw [hk]; exact hj)]
      rfl
    | succ i =>
      have e : (i + 1) * k = i * k + k := Nat.succ_mul i k
      rw [List.getElem?_append_right (by rw [hk]; omega), hk, show (i + 1) * k + j - k = i * k + j from by omega, ih i (by simpa using hi)]
      rfl
theorem cellsOf_lt {n i j : Nat} (hi : i < n) (hj : j < k) : i * k + j < n * k := by
  have h1 : (i + 1) * k ≤ n * k := Nat.mul_le_mul_right k hi
  have h2 : (i + 1) * k = i * k + k := Nat.succ_mul i k
  omega
end
/-- a cell of an element -/
theorem RdV.fieldAt {α : Type} {enc : α → List Value} {k : Nat} {w : World} {A : Option Addr} {zs : List α} (hk : ∀ x, (enc x).length = k) (h : RdV w A (cellsOf enc zs)) {i : Nat} (hi : i < zs.length) (h0 : 0 < k) :
    ∃ b o, A = some ⟨b, o, none⟩ ∧ b < w.heap.size ∧ ∀ (j : Nat) (v : Value), (enc zs[i])[j]? = some v → w.cell? ⟨b, o + (i * k + j), none⟩ = some v := by
  have hlt : i * k + 0 < (cellsOf enc zs).length := by rw [cellsOf_len enc k hk]; exact cellsOf_lt k hi h0
  obtain ⟨b, o, hA, hl, hc⟩ := h.pos hlt
  refine ⟨b, o, hA, hl, fun j v hv => ?_⟩
  have hj : j < k := by rw [← hk zs[i]]; exact (List.getElem?_eq_some_iff.1 hv).1
  have hlt2 : i * k + j < (cellsOf enc zs).length := by rw [cellsOf_len enc k hk]; exact cellsOf_lt k hi hj
  rw [hc _ hlt2, ← List.getElem?_eq_getElem hlt2, cellsOf_at enc k hk zs i hi j hj, hv]
/-- a copy after i elements: the rest is still zero -/
def cpF {α : Type} (enc : α → List Value) (z : List Value) (zs : List α) (i : Nat) : List Value := cellsOf enc (zs.take i) ++ (List.replicate (zs.length - i) z).flatten
theorem cpF_zero {α : Type} (enc : α → List Value) (z : List Value) (zs : List α) : cpF enc z zs 0 = (List.replicate zs.length z).flatten := by simp [cpF, cellsOf]
theorem cpF_all {α : Type} (enc : α → List Value) (z : List Value) (zs : List α) : cpF enc z zs zs.length = cellsOf enc zs := by simp [cpF]
theorem cpF_at {α : Type} (enc : α → List Value) (z : List Value) (zs : List α) (i k : Nat) (hk : ∀ x, (enc x).length = k) (hi : i < zs.length) :
    cpF enc z zs i = cellsOf enc (zs.take i) ++ (z ++ (List.replicate (zs.length - (i + 1)) z).flatten) ∧ cpF enc z zs (i + 1) = cellsOf enc (zs.take i) ++ (enc zs[i] ++ (List.replicate (zs.length - (i + 1)) z).flatten) ∧ (cellsOf enc (zs.take i)).length = i * k := by
  refine ⟨?_, ?_, ?_⟩
  · unfold cpF
    obtain ⟨m, hm⟩ : ∃ m, zs.length - i = m + 1 := ⟨zs.length - i - 1, by omega⟩
    have hm' : zs.length - (i + 1) = m := by omega
    rw [hm, hm', List.replicate_succ, List.flatten_cons]
  · unfold cpF
    rw [List.take_succ_eq_append_getElem hi, cellsOf_append, cellsOf_one, List.append_assoc]
  · rw [cellsOf_len enc k hk, List.length_take, Nat.min_eq_left (by omega)]
theorem flat_at (z : List Value) (n i j : Nat) (hi : i < n) (hj : j < z.length) : ((List.replicate n z).flatten)[i * z.length + j]? = z[j]? := by
  have h := cellsOf_at (fun _ : Unit => z) z.length (fun _ => rfl) (List.replicate n ()) i (by simpa using hi) j hj
  have e : cellsOf (fun _ : Unit => z) (List.replicate n ()) = (List.replicate n z).flatten := by simp [cellsOf, List.flatMap_def]
  rw [e] at h
  exact h
theorem made_k (z : List Value) (n : Nat) (hz : 0 < z.length) : madeCells z.toArray (n * z.length) = ((List.replicate n z).flatten).toArray := by
  apply Array.ext'
  apply List.ext_getElem?
  intro i
  have hl : ((List.replicate n z).flatten).length = n * z.length := by simp
  by_cases hi : i < n * z.length
  · have hd := Nat.div_add_mod i z.length
    have hm := Nat.mod_lt i hz
    have hq : i / z.length < n := Nat.div_lt_of_lt_mul (by rw [Nat.mul_comm]; exact hi)
    have h1 := flat_at z n (i / z.length) (i % z.length) hq hm
    rw [Nat.mul_comm, hd] at h1
    rw [h1]
    simp [madeCells, hi]
    rw [List.getElem?_eq_getElem hm]
    rfl
  · rw [List.getElem?_eq_none (by simp [madeCells]; omega), List.getElem?_eq_none (by rw [hl]; omega)]
theorem run_make_rowk {P : Program} (t e : TypeId) (z : Value) (zc : List Value) (bytes k : Nat) (ht : P.underlying t = some (.slice e)) (hinfo : (P.info? e).map (fun i => (i.zero, i.size, i.bytes)) = some (some z, k, bytes)) (hz : z.cells = zc.toArray) (hk : zc.length = k) (h0 : 0 < k)
    (n : Nat) (hbytes : bytes * n ≤ 281474976710656) (h63 : n ≤ 9223372036854775807) (w : World) :
    (Instr.makeSlice t (.int .i64 (n : Int)) (.int .i64 (n : Int))).run P w = .ok (.slice (some ⟨w.heap.size, 0, none⟩) n n) (w.alloc (.cells ((List.replicate n zc).flatten).toArray e)) := by
  obtain ⟨i, hi, hzz⟩ := Option.map_eq_some_iff.1 hinfo
  simp only [Prod.mk.injEq] at hzz
  obtain ⟨h1, h2, h3⟩ := hzz
  have hb2 : ((bytes * n : Nat) : Int) ≤ 281474976710656 := by omega
  rw [Int.natCast_mul] at hb2
  have := run_make (P := P) w t e i z ht hi h1 .i64 .i64 n n (by omega) (Int.le_refl _) (by rw [h3]; exact hb2) (by omega)
  rw [Int.toNat_natCast, h2, hz, ← hk, made_k zc n (by omega)] at this
  exact this
/-- an element of two cells, stored -/
theorem set_2 (l r : List Value) (a b c d : Value) (i : Nat) (hl : l.length = i) : ((l ++ ([a, b] ++ r)).set i c).set (i + 1) d = l ++ ([c, d] ++ r) := by
  rw [List.set_append_right _ _ (by omega), hl, Nat.sub_self, List.set_append_right _ _ (by omega), hl, Nat.add_sub_cancel_left]
  rfl
end Go.Proofs.YtbkfhcbecejomaaGreat
end
