/- Yards: copying. -/
import Derived.Test.YtcdjgbechigepaaDoorYdS
import Derived.Test.YtcdjgbechigepaaDoorOwnSrc
import Derived.Test.YtcdjgbechigepaaDoorClone
import Derived.Test.YtcdjgbechigepaaDoorRRA
import Derived.Deep.CutRange
import Derived.Deep.RegionLaw
namespace Go.Proofs.YtcdjgbechigepaaDoor
open Go Go.ChangeShapes Go.WideShapes Go.ChangeAt Go.RowKit
set_option linter.unusedVariables false
theorem own_snoc2 {w w' : World} {lo hi : Nat} {te ti : TypeId} {v v' u : Value} {xss : List (List Value)} {ys hs : List Value} (h1 : OwnI w lo hi te 1 v xss.length hs)
    (h2 : ∀ i (h : i < xss.length), ∃ u, hs[i]? = some u ∧ OwnI w lo hi ti 1 u (xss[i]).length xss[i] ∧ (∀ g, u.ownBlock = some g → v.ownBlock ≠ some g))
    (h3 : ∀ (i j : Nat) (u u' : Value) (g : Nat), i < j → hs[i]? = some u → hs[j]? = some u' → u.ownBlock = some g → u'.ownBlock ≠ some g)
    (hu : w.ownsRow lo ti 1 u ys.length ys) (hge : ∀ g, u.ownBlock = some g → hi ≤ g)
    (hown : w'.ownsRow lo te 1 v' (xss.length + 1) (hs ++ [u])) (hg : w.grownBy w' v.ownBlock) (hb : v'.ownBlock = v.ownBlock ∨ ∃ b, v'.ownBlock = some b ∧ w.heap.size ≤ b) :
    OwnRR w' lo w'.heap.size te ti v' (xss ++ [ys]) := by
  have hl := h1.row.1
  rw [Nat.mul_one] at hl
  have hvu : ∀ g, u.ownBlock = some g → v.ownBlock ≠ some g := fun g e e2 => by have := hge g e; have := h1.lt g e2; omega
  refine ⟨hs ++ [u], ⟨by rw [List.length_append]; exact hown, fun g e => (hown.lt g e).2, Nat.le_refl _⟩, fun i hi' => ?_, fun i j a b g hij ha hb' hga => ?_⟩
  · rw [List.length_append, List.length_singleton] at hi'
    by_cases hlt : i < xss.length
    · obtain ⟨a, ea, ha, hne⟩ := h2 i hlt
      rw [List.getElem_append_left hlt]
      refine ⟨a, by rw [List.getElem?_append_left (by omega)]; exact ea, ⟨ha.row.kept hg ?_, fun g e => Nat.lt_of_lt_of_le (ha.lt g e) (Nat.le_trans ha.top hg.size), Nat.le_refl _⟩, fun g e => ?_⟩
      · cases hab : a.ownBlock with
        | none => exact .inl rfl
        | some g => exact .inr fun e => hne g hab e.symm
      · rcases hb with h | ⟨b', h, hb'⟩
        · rw [h]; exact hne g e
        · rw [h]
          have := ha.lt g e
          have := ha.top
          simp
          omega
    · obtain rfl : i = xss.length := by omega
      have e1 : (xss ++ [ys])[xss.length]'(by simp) = ys := by simp
      rw [e1]
      refine ⟨u, by rw [List.getElem?_append_right (by omega), hl, Nat.sub_self]; rfl, ⟨hu.kept hg ?_, fun g e => Nat.lt_of_lt_of_le (hu.lt g e).2 hg.size, Nat.le_refl _⟩, fun g e => ?_⟩
      · cases hab : u.ownBlock with
        | none => exact .inl rfl
        | some g => exact .inr fun e => hvu g hab e.symm
      · rcases hb with h | ⟨b', h, hb'⟩
        · rw [h]; exact hvu g e
        · rw [h]
          have := (hu.lt g e).2
          simp
          omega
  · by_cases hjl : j < xss.length
    · rw [List.getElem?_append_left (by omega)] at ha
      rw [List.getElem?_append_left (by omega)] at hb'
      exact h3 i j a b g hij ha hb' hga
    · have hj2 : j < (hs ++ [u]).length := (List.getElem?_eq_some_iff.1 hb').1
      rw [List.length_append, List.length_singleton] at hj2
      obtain rfl : j = xss.length := by omega
      rw [List.getElem?_append_left (by omega)] at ha
      rw [List.getElem?_append_right (by omega), hl, Nat.sub_self] at hb'
      simp at hb'
      subst hb'
      intro e
      obtain ⟨a', ea, ha', _⟩ := h2 i (by omega)
      rw [ha] at ea
      injection ea with ea
      rw [← ea] at ha'
      have := ha'.lt g hga
      have := hge g e
      omega
/-- a yard in memory of the call's own -/
def YardOut (w : World) (high : Int) (n : Nat) (rows : List (List Int)) : Ending → World → Prop :=
  RVal fun u w' => ∃ A c, u = .agg #[.int .i64 high, .slice A n c] ∧ OwnRR w' w.heap.size w'.heap.size 40 3 (.slice A n c) (intss rows) ∧ Below w.heap.size w w'

theorem ints_infoD : Info Tryd.prog 40 (.slice none 0 0) 1 24 := Info.mk' ints_info rfl (by decide) (by decide)

theorem intss_snoc {rows : List (List Int)} {k : Nat} (h : k < rows.length) : intss (rows.take (k + 1)) = intss (rows.take k) ++ [ints rows[k]] := by
  rw [List.take_succ_eq_append_getElem h, intss_app]; rfl
theorem below_freshY {w W w' : World} {row : Option Nat} (hg : W.grownBy w' row) (hb : Below w.heap.size w W) (hr : row = some w.heap.size) : Below w.heap.size w w' :=
  ⟨hg.os.trans hb.os, hg.tape.trans hb.tape, hg.output.trans hb.output, Nat.le_trans hb.size hg.size, fun i hi => (hg.block i (Nat.lt_of_lt_of_le hi hb.size) (fun e => by rw [hr] at e; injection e with e; omega)).trans (hb.block i hi)⟩
/-- a row of its own is put behind the others -/
theorem OwnRR.add {wr : World} {lo : Nat} {te ti : TypeId} {v : Value} {xss : List (List Value)} (h : OwnRR wr lo wr.heap.size te ti v xss) (hlo : lo ≤ wr.heap.size) :
    ∃ hs, ∀ (w5 : World) (u : Value) (ys : List Value), Below wr.heap.size wr w5 → w5.ownsRow wr.heap.size ti 1 u ys.length ys →
      (w5.alloc (.cells #[u] te)).ownsRow lo te 1 v xss.length hs ∧ Blk (w5.alloc (.cells #[u] te)) w5.heap.size te [u] ∧
      ∀ (v' : Value) (w7 : World), w7.ownsRow lo te 1 v' (xss.length + 1) (hs ++ [u]) → (w5.alloc (.cells #[u] te)).grownBy w7 v.ownBlock → (v'.ownBlock = v.ownBlock ∨ v'.ownBlock = some (w5.alloc (.cells #[u] te)).heap.size) →
        OwnRR w7 lo w7.heap.size te ti v' (xss ++ [ys]) ∧ Out lo wr.heap.size wr w7 := by
  obtain ⟨hs, h1, h2, h3⟩ := h
  refine ⟨hs, fun w5 u ys hb hu => ?_⟩
  have hal : Below w5.heap.size w5 (w5.alloc (.cells #[u] te)) := (Below.refl _ _).alloc (Nat.le_refl _) _
  have hba := below_trans hb hal
  have h1' := h1.later hba
  refine ⟨h1'.row, Blk.new _ _ _, fun v' w7 hown hg hbk => ?_⟩
  refine ⟨own_snoc2 h1' (fun i hi => ?_) h3 (own_base (own_later hu hal) hlo) (fun g e => (hu.lt g e).1) hown hg (hbk.imp id fun e => ⟨_, e, Nat.le_refl _⟩), ?_⟩
  · obtain ⟨a, ea, ha, hne⟩ := h2 i hi
    exact ⟨a, ea, ha.later hba, hne⟩
  · exact (Below.out hba _ _).trans (out_of_grown hg (fun g e => ⟨(h1.row.lt g e).1, h1.lt g e⟩))
/-- the copy so far -/
def YCut (w : World) (q : Nat) (high : Int) (k : Nat) (X : List (List Value)) (wx : World) : Prop :=
  ∃ A c, Blk wx q 24 [.int .i64 high, .slice A k c] ∧ OwnRR wx (q + 1) wx.heap.size 40 3 (.slice A k c) X ∧ q + 1 ≤ wx.heap.size ∧ Below w.heap.size w wx
theorem ycut_store {w wr w7 : World} {q k : Nat} {high : Int} {A1 A7 : Option Addr} {c1 c7 : Nat} {X : List (List Value)} (hq : w.heap.size ≤ q) (hb : Below w.heap.size w wr) (hP : Blk wr q 24 [.int .i64 high, .slice A1 k c1]) (hO : OwnRR w7 (q + 1) w7.heap.size 40 3 (.slice A7 (k + 1) c7) X) (ho : Out (q + 1) wr.heap.size wr w7) :
    YCut w q high (k + 1) X (w7.setCell ⟨q, 1, none⟩ (.slice A7 (k + 1) c7)) := by
  have hP7 : Blk w7 q 24 [.int .i64 high, .slice A1 k c1] := (ho.block q hP.lt (.inl (by omega))).trans hP
  have hs := hP7.lt
  refine ⟨A7, c7, hP7.set_ 1 _, ?_, ?_, ?_⟩
  · exact hO.set_far q 1 _ (by omega) (Nat.le_refl _)
  · simp [World.setCell]; omega
  · exact (below_out hb ho (by omega)).setCell hq _
end Go.Proofs.YtcdjgbechigepaaDoor
