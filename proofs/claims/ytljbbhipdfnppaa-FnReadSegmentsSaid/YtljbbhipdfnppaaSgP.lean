/- Texts of many segments, in plain words. -/
import Derived.Test.YtljbbhipdfnppaaSegW
namespace Go.Proofs.Ytljbbhipdfnppaa
open Go Go.ChangeShapes Go.WideShapes Go.ChangeAt Go.RowKit
set_option linter.unusedVariables false
def untx (ess : List (List ByteArray)) : List (List (List UInt8)) := ess.map (·.map (·.data.toList))
theorem bA_of (s : ByteArray) : bA s.data.toList = s := by cases s; simp [bA]
theorem tx_untx (ess : List (List ByteArray)) : tx (untx ess) = ess := by
  simp only [tx, untx, List.map_map]
  conv => rhs; rw [← List.map_id ess]
  congr 1
  funext ps
  simp only [Function.comp, List.map_map, id]
  conv => rhs; rw [← List.map_id ps]
  congr 1
theorem rd_text {tag : ByteArray} {ess : List (List ByteArray)} (h : segOk tag ess = true) (r : List UInt8) : rdSeg (segText tag ess ++ r) = some (untx ess, (segText tag ess).length) := by
  have := rdSeg_text (tag := tag.data.toList) (E := untx ess) (by rw [bA_of, tx_untx]; exact h) r
  rw [bA_of, tx_untx] at this
  exact this
theorem segText_pos {tag : ByteArray} {ess : List (List ByteArray)} (h : segOk tag ess = true) : 4 ≤ (segText tag ess).length ∧ (segText tag ess).take 3 = tag.data.toList := by
  obtain ⟨h1, _, _⟩ := segOk_parts h
  have e : segText tag ess = segUpto tag ess ess.length ++ [39] := by unfold segText; rw [if_pos h]
  have e2 := segUpto_flat tag ess ess.length (Nat.le_refl _)
  rw [e, e2]
  refine ⟨by simp only [List.length_append, List.length_singleton]; omega, ?_⟩
  rw [List.append_assoc, List.take_append_of_le_length (by omega), List.take_of_length_le (by omega)]

structure SegV where
  tag : ByteArray
  ess : List (List ByteArray)
/-- the segments that a text has, one behind the other -/
def rdSegs : Nat → List UInt8 → Option (List SegV)
  | 0, l => if l = [] then some [] else none
  | k + 1, l => if l = [] then some [] else match rdSeg l with
    | none => none
    | some (E, n) => (rdSegs k (l.drop n)).map (⟨bA (l.take 3), tx E⟩ :: ·)
theorem rdSegs_nil (k : Nat) : rdSegs k [] = some [] := by cases k <;> rfl
theorem rdSegs_none {k : Nat} {l : List UInt8} (h : l ≠ []) (hs : rdSeg l = none) : rdSegs (k + 1) l = none := by
  rw [rdSegs, if_neg h, hs]
theorem rdSegs_some {k : Nat} {l : List UInt8} {E : List (List (List UInt8))} {n : Nat} (h : l ≠ []) (hs : rdSeg l = some (E, n)) : rdSegs (k + 1) l = (rdSegs k (l.drop n)).map (⟨bA (l.take 3), tx E⟩ :: ·) := by
  rw [rdSegs, if_neg h, hs]
def SegV.text (s : SegV) : List UInt8 := segText s.tag s.ess
theorem rdSegs_text : ∀ (k : Nat) (l : List UInt8) (L : List SegV), rdSegs k l = some L → L.flatMap SegV.text = l ∧ ∀ s ∈ L, segOk s.tag s.ess = true := by
  intro k
  induction k with
  | zero =>
    intro l L h
    by_cases hl : l = []
    · subst hl
      rw [rdSegs_nil] at h
      injection h with h
      subst h
      exact ⟨rfl, fun s hs => by cases hs⟩
    · rw [rdSegs, if_neg hl] at h; cases h
  | succ k ih =>
    intro l L h
    by_cases hl : l = []
    · subst hl
      rw [rdSegs_nil] at h
      injection h with h
      subst h
      exact ⟨rfl, fun s hs => by cases hs⟩
    · cases hs : rdSeg l with
      | none => rw [rdSegs_none hl hs] at h; cases h
      | some x =>
        obtain ⟨E, n⟩ := x
        rw [rdSegs_some hl hs] at h
        cases hr : rdSegs k (l.drop n) with
        | none => rw [hr] at h; cases h
        | some R =>
          rw [hr] at h
          injection h with h
          subst h
          obtain ⟨t1, t2⟩ := ih _ _ hr
          obtain ⟨h1, _, _, h4⟩ := rdSeg_ok hs
          refine ⟨?_, fun s hs => ?_⟩
          · rw [List.flatMap_cons, t1]
            show segText (bA (l.take 3)) (tx E) ++ l.drop n = l
            rw [h1, List.take_append_drop]
          · rcases List.mem_cons.1 hs with rfl | hs
            · exact h4
            · exact t2 s hs
theorem rdSegs_of : ∀ (L : List SegV) (k : Nat), (∀ s ∈ L, segOk s.tag s.ess = true) → L.length ≤ k → rdSegs k (L.flatMap SegV.text) = some L := by
  intro L
  induction L with
  | nil => intro k _ _; exact rdSegs_nil k
  | cons s L ih =>
    intro k hok hk
    obtain ⟨k, rfl⟩ : ∃ j, k = j + 1 := ⟨k - 1, by simp at hk; omega⟩
    have h1 := hok s (List.mem_cons_self ..)
    obtain ⟨p1, p2⟩ := segText_pos h1
    have h2 := rd_text h1 (L.flatMap SegV.text)
    have hne : s.text ++ L.flatMap SegV.text ≠ [] := by
      intro h
      have this : (s.text ++ L.flatMap SegV.text).length = 0 := by rw [h]; rfl
      rw [List.length_append] at this
      have e : s.text.length = (segText s.tag s.ess).length := rfl
      omega
    rw [List.flatMap_cons]
    have h3 := rdSegs_some (k := k) hne h2
    rw [h3]
    have hd : (s.text ++ L.flatMap SegV.text).drop (segText s.tag s.ess).length = L.flatMap SegV.text := by
      show (segText s.tag s.ess ++ L.flatMap SegV.text).drop (segText s.tag s.ess).length = _
      rw [List.drop_left]
    have ht : bA ((s.text ++ L.flatMap SegV.text).take 3) = s.tag := by
      show bA ((segText s.tag s.ess ++ L.flatMap SegV.text).take 3) = s.tag
      rw [List.take_append_of_le_length (by omega), p2, bA_of]
    rw [hd, ih k (fun x hx => hok x (List.mem_cons_of_mem _ hx)) (by simp at hk; omega), ht, tx_untx]
    rfl
theorem segText_big {tag : ByteArray} {ess : List (List ByteArray)} (h : segOk tag ess = true) : (segText tag ess).length ≤ 344 ∧ ess.length ≤ 5 ∧ (∀ zs ∈ ess, zs.length ≤ 4) ∧ totR ess ≤ 20 := by
  obtain ⟨_, h5, hp⟩ := segOk_parts h
  have h1 := segUpto_len h ess.length (Nat.le_refl _)
  have h4 : ∀ zs ∈ ess, zs.length ≤ 4 := by
    intro zs hz
    obtain ⟨k, hk, rfl⟩ := List.getElem_of_mem hz
    exact (partsOk_size (hp k hk)).2.1
  refine ⟨?_, h5, h4, ?_⟩
  · unfold segText
    rw [if_pos h, List.length_append]
    simp
    omega
  · have gen : ∀ (L : List (List ByteArray)), (∀ zs ∈ L, zs.length ≤ 4) → totR L ≤ 4 * L.length := by
      intro L
      induction L with
      | nil => intro _; simp [totR]
      | cons a L ih =>
        intro ha
        have := ih (fun z hz => ha z (List.mem_cons_of_mem _ hz))
        have := ha a (List.mem_cons_self ..)
        rw [totR_cons, List.length_cons]
        omega
    have := gen ess h4
    omega
/-- what was read: nothing if not the whole text -/
def rdAll (l : List UInt8) : List SegV := (rdSegs l.length l).getD []
def rdFine (l : List UInt8) : Bool := (rdSegs l.length l).isSome
theorem flat_len (L : List SegV) (h : ∀ s ∈ L, segOk s.tag s.ess = true) : 4 * L.length ≤ (L.flatMap SegV.text).length := by
  induction L with
  | nil => simp
  | cons s L ih =>
    have := ih (fun x hx => h x (List.mem_cons_of_mem _ hx))
    have h1 := (segText_pos (h s (List.mem_cons_self ..))).1
    have e : s.text.length = (segText s.tag s.ess).length := rfl
    rw [List.flatMap_cons, List.length_append, List.length_cons]
    omega
theorem rdAll_ok (l : List UInt8) : (∀ s ∈ rdAll l, segOk s.tag s.ess = true) ∧ 4 * (rdAll l).length ≤ l.length := by
  unfold rdAll
  cases h : rdSegs l.length l with
  | none => exact ⟨fun s hs => (by cases hs), by simp⟩
  | some L =>
    obtain ⟨h1, h2⟩ := rdSegs_text _ _ _ h
    have := flat_len L h2
    rw [h1] at this
    exact ⟨h2, this⟩
theorem rdAll_bad {l : List UInt8} (h : rdFine l = false) : rdAll l = [] := by
  unfold rdFine at h
  unfold rdAll
  cases hs : rdSegs l.length l with
  | none => rfl
  | some L => rw [hs] at h; cases h
theorem rdAll_text {l : List UInt8} (h : rdFine l = true) : (rdAll l).flatMap SegV.text = l := by
  unfold rdFine at h
  unfold rdAll
  cases hs : rdSegs l.length l with
  | none => rw [hs] at h; cases h
  | some L => exact (rdSegs_text _ _ _ hs).1
/-- one more segment behind them is read, too -/
theorem rdAll_more {l : List UInt8} (h : rdFine l = true) {s : SegV} (hs : segOk s.tag s.ess = true) : rdFine (l ++ s.text) = true ∧ rdAll (l ++ s.text) = rdAll l ++ [s] := by
  have h1 := rdAll_text h
  have h2 := (rdAll_ok l).1
  have hall : ∀ x ∈ rdAll l ++ [s], segOk x.tag x.ess = true := by
    intro x hx
    rcases List.mem_append.1 hx with hx | hx
    · exact h2 x hx
    · rw [List.mem_singleton.1 hx]; exact hs
  have e : (rdAll l ++ [s]).flatMap SegV.text = l ++ s.text := by
    rw [List.flatMap_append, h1]; simp
  have h3 := rdSegs_of (rdAll l ++ [s]) (l ++ s.text).length hall (by
    have := flat_len _ hall
    rw [e] at this
    omega)
  rw [e] at h3
  exact ⟨by unfold rdFine; rw [h3]; rfl, by conv => lhs; unfold rdAll; rw [h3, Option.getD_some]⟩
end Go.Proofs.Ytljbbhipdfnppaa
