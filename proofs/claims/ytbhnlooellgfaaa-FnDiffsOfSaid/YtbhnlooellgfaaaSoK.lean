/- A slice of structs of the call's own, sorted by the library: from the words of append's laws to those of the sort's and back. -/
import Derived.Test.YtbhnlooellgfaaaFlat
import Derived.Shelf.SlSortCmp.WholeK
namespace Go.Proofs.Ytbhnlooellgfaaa
open Go Go.ChangeShapes Go.WideShapes Go.ChangeAt Go.RowKit Go.Sort Go.Shelf
variable {α : Type} [Inhabited α]
theorem flatK_cells (enc : α → List Value) (k : Nat) (hk : ∀ x, (enc x).length = k) (h0 : 0 < k) (zs : List α) : flatK enc k zs.toArray = (cellsOf enc zs).toArray := by
  refine ext_get! (by simp [flatK, cellsOf_len enc k hk]) fun t ht => ?_
  have ht2 : t < zs.length * k := by simpa [flatK] using ht
  rw [get_flatK enc k _ t (by simpa using ht2)]
  have hq : t / k < zs.length := Nat.div_lt_of_lt_mul (by rw [Nat.mul_comm]; exact ht2)
  have hm : t % k < k := Nat.mod_lt _ h0
  have e : t / k * k + t % k = t := Nat.div_add_mod' t k
  have h2 := cellsOf_at enc k hk zs (t / k) hq (t % k) hm
  rw [e] at h2
  have hz : zs.toArray[t / k]! = zs[t / k] := by simp [hq]
  rw [hz]
  simp only [List.getElem!_eq_getElem?_getD, ← h2]
  have h4 : (cellsOf enc zs).toArray[t]! = (cellsOf enc zs)[t]?.getD default := by simp
  rw [h4]
theorem holdsK_own {w : World} {base g n cap : Nat} {e : TypeId} (enc : α → List Value) (k : Nat) (hk : ∀ x, (enc x).length = k) (h0 : 0 < k) {zs : List α} (h : w.ownsRow base e k (.slice (some ⟨g, 0, none⟩) n cap) n (cellsOf enc zs)) :
    HoldsK enc k w g 0 zs.toArray ∧ g < w.heap.size := by
  rcases h.2 with ⟨hnil, _⟩ | ⟨g', cap', cur, hv, hb, hg, h1, h2, h3, h4⟩
  · cases hnil
  · injection hv with e1 _ _
    injection e1 with e1
    injection e1 with e1 _
    subst e1
    have hlt : g < w.heap.size := (Array.getElem?_eq_some_iff.1 hg).1
    refine ⟨?_, hlt⟩
    unfold HoldsK
    rw [flatK_cells enc k hk h0]
    intro j hj
    have hj' : j < (cellsOf enc zs).length := by simpa using hj
    refine ⟨?_, by simp [World.frozen?, hg]⟩
    have hl := h.1
    have h5 : (cur.toList.take (n * k))[j]? = (cellsOf enc zs)[j]? := by rw [h4]
    rw [List.getElem?_take_of_lt (by omega)] at h5
    simp only [World.cell?, hg, Nat.zero_add]
    simp only [Option.isSome_none, Bool.false_eq_true, if_false]
    rw [← Array.getElem?_toList, h5]
    simp [hj']
theorem take_putCellsF (cur : Array Value) (F : List Value) (h : F.length ≤ cur.size) : (putCells id 0 F.toArray cur).toList.take F.length = F := by
  apply List.ext_getElem?
  intro j
  by_cases hj : j < F.length
  · rw [List.getElem?_take_of_lt hj, Array.getElem?_toList]
    simp [putCells, hj, show j < cur.size by omega]
  · rw [List.getElem?_take_eq_none (by omega), List.getElem?_eq_none (by omega)]
theorem own_sortedK {w : World} {base g n cap m : Nat} {e : TypeId} {os : Array Obj} (enc : α → List Value) (k : Nat) (hk : ∀ x, (enc x).length = k) (h0 : 0 < k) {xs : List Value} {ys : List α} (h : w.ownsRow base e k (.slice (some ⟨g, 0, none⟩) n cap) n xs) (hl : ys.length = n) :
    (sortWorldK enc k w g 0 m ys.toArray os).ownsRow base e k (.slice (some ⟨g, 0, none⟩) n cap) n (cellsOf enc ys) ∧ w.grownBy (sortWorldK enc k w g 0 m ys.toArray os) (some g) := by
  rcases h.2 with ⟨hnil, _⟩ | ⟨g', cap', cur, hv, hb, hg, h1, h2, h3, h4⟩
  · cases hnil
  · injection hv with e1 _ e3
    injection e1 with e1
    injection e1 with e1 _
    subst e1 e3
    have hlt : g < w.heap.size := (Array.getElem?_eq_some_iff.1 hg).1
    unfold sortWorldK putRowK
    rw [flatK_cells enc k hk h0]
    have hF : (cellsOf enc ys).length = n * k := by rw [cellsOf_len enc k hk, hl]
    have hnk : n * k ≤ cap * k := Nat.mul_le_mul_right k h1
    generalize cellsOf enc ys = F at *
    constructor
    · refine ⟨hF, .inr ⟨g, cap, putCells id 0 F.toArray cur, rfl, hb, ?_, h1, h2, by simp [putCells, h3], by rw [← hF]; exact take_putCellsF cur F (by omega)⟩⟩
      rw [heap_grow_old _ _ (by simpa using hlt)]
      simp [putRow, mapBlock, Sort.ahead, Array.getElem?_modify, hg, onCells]
    · refine ⟨rfl, rfl, rfl, by simp, fun j hj hne => ?_⟩
      rw [heap_grow_old _ _ (by simpa using hj)]
      have : g ≠ j := fun e => hne (by rw [e])
      simp [putRow, mapBlock, Sort.ahead, Array.getElem?_modify, this]
theorem sorted_list {lt : α → α → Bool} {d d' : Array α} (hp : PermIn 0 d.size d d') (hs : SortedIn lt 0 d.size d') : d'.toList.Perm d.toList ∧ d'.toList.Pairwise (fun x y => lt y x = false) := by
  obtain ⟨hsz, _, hperm⟩ := hp
  have e1 : d'.extract 0 d.size = d' := by rw [← hsz]; exact Array.extract_size
  rw [e1, Array.extract_size] at hperm
  refine ⟨hperm, ?_⟩
  rw [List.pairwise_iff_getElem]
  intro i j hi hj hij
  have hi' : i < d'.size := by simpa using hi
  have hj' : j < d'.size := by simpa using hj
  have := hs i j (Nat.zero_le _) hij (by omega)
  rw [getElem!_pos d' j hj', getElem!_pos d' i hi'] at this
  simpa using this
end Go.Proofs.Ytbhnlooellgfaaa
