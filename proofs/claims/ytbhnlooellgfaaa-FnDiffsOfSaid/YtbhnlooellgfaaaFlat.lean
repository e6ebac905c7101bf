/- Rows of structs, by their cells: k cells an element. -/
import Derived.Test.YtbhnlooellgfaaaOwn
import Derived.Test.YtbhnlooellgfaaaOut
namespace Go.Proofs.Ytbhnlooellgfaaa
open Go Go.ChangeShapes Go.WideShapes Go.ChangeAt Go.RowKit
section
variable {α : Type} (enc : α → List Value) (k : Nat)
/-- the cells of a list -/
def cellsOf (zs : List α) : List Value := zs.flatMap enc
theorem cellsOf_len (hk : ∀ x, (enc x).length = k) (zs : List α) : (cellsOf enc zs).length = zs.length * k := by
  induction zs with
  | nil => simp [cellsOf]
  | cons z zs ih =>
    show (enc z ++ cellsOf enc zs).length = _
    rw [List.length_append, ih, hk, List.length_cons, Nat.succ_mul]
    omega
theorem cellsOf_append (a b : List α) : cellsOf enc (a ++ b) = cellsOf enc a ++ cellsOf enc b := by simp [cellsOf]
theorem cellsOf_one (a : α) : cellsOf enc [a] = enc a := by simp [cellsOf]
theorem cellsOf_at (hk : ∀ x, (enc x).length = k) (zs : List α) (i : Nat) (hi : i < zs.length) (j : Nat) (hj : j < k) : (cellsOf enc zs)[i * k + j]? = (enc zs[i])[j]? := by
  induction zs generalizing i with
  | nil => simp at hi
  | cons z zs ih =>
    show (enc z ++ cellsOf enc zs)[i * k + j]? = _
    cases i with
    | zero =>
      rw [Nat.zero_mul, Nat.zero_add, List.getElem?_append_left (by rw [hk]; exact hj)]
      rfl
    | succ i =>
      have e : (i + 1) * k = i * k + k := Nat.succ_mul i k
      rw [List.getElem?_append_right (by rw [hk]; omega), hk, show (i + 1) * k + j - k = i * k + j from by omega, ih i (by simpa using hi)]
      rfl
theorem cellsOf_lt {n i j : Nat} (hi : i < n) (hj : j < k) : i * k + j < n * k := by
  have h1 : (i + 1) * k ≤ n * k := Nat.mul_le_mul_right k hi
  have h2 : (i + 1) * k = i * k + k := Nat.succ_mul i k
  omega
end
/-- a cell of an element -/
theorem RdV.fieldAt {α : Type} {enc : α → List Value} {k : Nat} {w : World} {A : Option Addr} {zs : List α} (hk : ∀ x, (enc x).length = k) (h : RdV w A (cellsOf enc zs)) {i : Nat} (hi : i < zs.length) (h0 : 0 < k) :
    ∃ b o, A = some ⟨b, o, none⟩ ∧ b < w.heap.size ∧ ∀ (j : Nat) (v : Value), (enc zs[i])[j]? = some v → w.cell? ⟨b, o + (i * k + j), none⟩ = some v := by
  have hlt : i * k + 0 < (cellsOf enc zs).length := by rw [cellsOf_len enc k hk]; exact cellsOf_lt k hi h0
  obtain ⟨b, o, hA, hl, hc⟩ := h.pos hlt
  refine ⟨b, o, hA, hl, fun j v hv => ?_⟩
  have hj : j < k := by rw [← hk zs[i]]; exact (List.getElem?_eq_some_iff.1 hv).1
  have hlt2 : i * k + j < (cellsOf enc zs).length := by rw [cellsOf_len enc k hk]; exact cellsOf_lt k hi hj
  rw [hc _ hlt2, ← List.getElem?_eq_getElem hlt2, cellsOf_at enc k hk zs i hi j hj, hv]
/-- a copy after i elements: the rest is still zero -/
def cpF {α : Type} (enc : α → List Value) (z : List Value) (zs : List α) (i : Nat) : List Value := cellsOf enc (zs.take i) ++ (List.replicate (zs.length - i) z).flatten
theorem cpF_zero {α : Type} (enc : α → List Value) (z : List Value) (zs : List α) : cpF enc z zs 0 = (List.replicate zs.length z).flatten := by simp [cpF, cellsOf]
theorem cpF_all {α : Type} (enc : α → List Value) (z : List Value) (zs : List α) : cpF enc z zs zs.length = cellsOf enc zs := by simp [cpF]
theorem cpF_at {α : Type} (enc : α → List Value) (z : List Value) (zs : List α) (i k : Nat) (hk : ∀ x, (enc x).length = k) (hi : i < zs.length) :
    cpF enc z zs i = cellsOf enc (zs.take i) ++ (z ++ (List.replicate (zs.length - (i + 1)) z).flatten) ∧ cpF enc z zs (i + 1) = cellsOf enc (zs.take i) ++ (enc zs[i] ++ (List.replicate (zs.length - (i + 1)) z).flatten) ∧ (cellsOf enc (zs.take i)).length = i * k := by
  refine ⟨?_, ?_, ?_⟩
  · unfold cpF
    obtain ⟨m, hm⟩ : ∃ m, zs.length - i = m + 1 := ⟨zs.length - i - 1, by omega⟩
    have hm' : zs.length - (i + 1) = m := by omega
    rw [hm, hm', List.replicate_succ, List.flatten_cons]
  · unfold cpF
    rw [List.take_succ_eq_append_getElem hi, cellsOf_append, cellsOf_one, List.append_assoc]
  · rw [cellsOf_len enc k hk, List.length_take, Nat.min_eq_left (by omega)]
theorem flat_at (z : List Value) (n i j : Nat) (hi : i < n) (hj : j < z.length) : ((List.replicate n z).flatten)[i * z.length + j]? = z[j]? := by
  have h := cellsOf_at (fun _ : Unit => z) z.length (fun _ => rfl) (List.replicate n ()) i (by simpa using hi) j hj
  have e : cellsOf (fun _ : Unit => z) (List.replicate n ()) = (List.replicate n z).flatten := by simp [cellsOf, List.flatMap_def]
  rw [e] at h
  exact h
theorem made_k (z : List Value) (n : Nat) (hz : 0 < z.length) : madeCells z.toArray (n * z.length) = ((List.replicate n z).flatten).toArray := by
  apply Array.ext'
  apply List.ext_getElem?
  intro i
  have hl : ((List.replicate n z).flatten).length = n * z.length := by simp
  by_cases hi : i < n * z.length
  · have hd := Nat.div_add_mod i z.length
    have hm := Nat.mod_lt i hz
    have hq : i / z.length < n := Nat.div_lt_of_lt_mul (by rw [Nat.mul_comm]; exact hi)
    have h1 := flat_at z n (i / z.length) (i % z.length) hq hm
    rw [Nat.mul_comm, hd] at h1
    rw [h1]
    simp [madeCells, hi]
    rw [List.getElem?_eq_getElem hm]
    rfl
  · rw [List.getElem?_eq_none (by simp [madeCells]; omega), List.getElem?_eq_none (by rw [hl]; omega)]
theorem run_make_rowk {P : Program} (t e : TypeId) (z : Value) (zc : List Value) (bytes k : Nat) (ht : P.underlying t = some (.slice e)) (hinfo : (P.info? e).map (fun i => (i.zero, i.size, i.bytes)) = some (some z, k, bytes)) (hz : z.cells = zc.toArray) (hk : zc.length = k) (h0 : 0 < k)
    (n : Nat) (hbytes : bytes * n ≤ 281474976710656) (h63 : n ≤ 9223372036854775807) (w : World) :
    (Instr.makeSlice t (.int .i64 (n : Int)) (.int .i64 (n : Int))).run P w = .ok (.slice (some ⟨w.heap.size, 0, none⟩) n n) (w.alloc (.cells ((List.replicate n zc).flatten).toArray e)) := by
  obtain ⟨i, hi, hzz⟩ := Option.map_eq_some_iff.1 hinfo
  simp only [Prod.mk.injEq] at hzz
  obtain ⟨h1, h2, h3⟩ := hzz
  have hb2 : ((bytes * n : Nat) : Int) ≤ 281474976710656 := by omega
  rw [Int.natCast_mul] at hb2
  have := run_make (P := P) w t e i z ht hi h1 .i64 .i64 n n (by omega) (Int.le_refl _) (by rw [h3]; exact hb2) (by omega)
  rw [Int.toNat_natCast, h2, hz, ← hk, made_k zc n (by omega)] at this
  exact this
/-- an element of two cells, stored -/
theorem set_2 (l r : List Value) (a b c d : Value) (i : Nat) (hl : l.length = i) : ((l ++ ([a, b] ++ r)).set i c).set (i + 1) d = l ++ ([c, d] ++ r) := by
  rw [List.set_append_right _ _ (by omega), hl, Nat.sub_self, List.set_append_right _ _ (by omega), hl, Nat.add_sub_cancel_left]
  rfl
end Go.Proofs.Ytbhnlooellgfaaa
