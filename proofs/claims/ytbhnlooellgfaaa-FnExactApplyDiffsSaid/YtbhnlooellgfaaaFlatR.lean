/- A slice of structs that came in, read: whatever its elements are. -/
import Derived.Test.YtbhnlooellgfaaaFlat
import Derived.Test.YtbhnlooellgfaaaFrame
import Derived.Deep.Slices
import Derived.ChangeSame
namespace Go.Proofs.Ytbhnlooellgfaaa
open Go Go.ChangeShapes Go.WideShapes Go.ChangeAt Go.RowKit Go.Deep
theorem rdVF_of_cells {w : World} {x : Addr} {cs : List Value} (hc : ∀ i (h : i < cs.length), w.cell? (x.add i) = some cs[i]) : RdV w (some x) cs := by
  rcases Nat.eq_zero_or_pos cs.length with h0 | h0
  · exact .inl (List.eq_nil_of_length_eq_zero h0)
  · obtain ⟨b, off, spot⟩ := x
    have h1 := hc 0 h0
    have hs : spot = none := by simpa [Addr.add] using World.cell?_spot h1
    subst hs
    have hlt : b < w.heap.size := by
      have := World.block_lt_of_cell? w _ h1
      simpa [Addr.add] using this
    refine .inr ⟨b, off, rfl, hlt, fun j hj => ?_⟩
    have h2 := hc j hj
    have he : (⟨b, off, none⟩ : Addr).add j = ⟨b, off + j, none⟩ := by
      unfold Addr.add; split <;> simp_all
    rw [he] at h2
    exact h2
section
variable {H : Type} {enc : TypeId × Value → H} {P : Program} {w : World} {base : Nat} {spare : Nat → Bool} {held : Bool}
theorem read_list {α : Type} [Inhabited α] {ec : α → List Value} {k : Nat} (hk : ∀ x, (ec x).length = k) (h0 : 0 < k) {t e : TypeId} {v : Value} {fuel : Nat} {x : DataW H × List MemPlace} (ht : P.underlying t = some (.slice e)) (ce : P.cellsOf e = k)
    (one : ∀ (cs : List Value) (n : Nat) (y : DataW H × List MemPlace), DataW.trod enc P w base spare held n e cs = some y → ∃ z : α, cs = ec z) (h : DataW.trod enc P w base spare held fuel t [v] = some x) :
    ∃ (A : Option Addr) (n c : Nat) (zs : List α), v = .slice A n c ∧ zs.length = n ∧ n ≤ c ∧ c ≤ maxLen ∧ RdV w A (cellsOf ec zs) := by
  rcases open_slice ht h with ⟨hcs, _⟩ | ⟨a, len, cap, m, n, D, Pl, hcs, hb, hl, hm, hmm, rfl, hx⟩
  · simp at hcs
    exact ⟨none, 0, 0, [], hcs, rfl, Nat.le_refl _, by decide, RdV.nil_⟩
  · simp at hcs
    have hlm : len ≤ m := by rw [hmm]; split <;> omega
    have each : ∀ i, i < len → ∃ z : α, ∀ j, j < k → w.cell? (a.add (i * k + j)) = (ec z)[j]? := fun i hi => by
      obtain ⟨cs', h1, h2⟩ := hx i (by omega)
      rw [ce] at h1
      obtain ⟨_, hlen, hcell⟩ := World.cells?_some h1
      obtain ⟨z, rfl⟩ := one _ _ _ h2
      refine ⟨z, fun j hj => ?_⟩
      have := hcell j hj
      rw [add_add] at this
      exact this
    obtain ⟨F, hF⟩ := choose_lt each
    refine ⟨some a, len, cap, (List.range len).map F, hcs, by simp, hl, hm, rdVF_of_cells fun i hi => ?_⟩
    have hi' : i < len * k := by rw [cellsOf_len ec k hk] at hi; simpa using hi
    have hq : i / k < len := Nat.div_lt_of_lt_mul (by rw [Nat.mul_comm]; exact hi')
    have hr : i % k < k := Nat.mod_lt _ h0
    have e : i / k * k + i % k = i := Nat.div_add_mod' i k
    have h2 := cellsOf_at ec k hk ((List.range len).map F) (i / k) (by simpa using hq) (i % k) hr
    rw [e] at h2
    rw [← List.getElem?_eq_getElem hi, h2]
    have h3 := hF (i / k) hq (i % k) hr
    rw [e] at h3
    rw [h3]
    simp
theorem ints_flat (zs : List Int) : ints zs = cellsOf (fun z : Int => [Value.int .i64 z]) zs := by
  induction zs with
  | nil => rfl
  | cons a r ih =>
    show Value.int .i64 a :: ints r = [Value.int .i64 a] ++ cellsOf _ r
    rw [ih]; rfl
theorem read_intlist {t e : TypeId} {v : Value} {fuel : Nat} {x : DataW H × List MemPlace} (ht : P.underlying t = some (.slice e)) (he : P.underlying e = some (.int .i64)) (ce : P.cellsOf e = 1)
    (h : DataW.trod enc P w base spare held fuel t [v] = some x) : ∃ (A : Option Addr) (n c : Nat) (zs : List Int), v = .slice A n c ∧ zs.length = n ∧ n ≤ c ∧ c ≤ maxLen ∧ RdV w A (ints zs) := by
  obtain ⟨A, n, c, zs, h1, h2, h3, h4, h5⟩ := read_list (α := Int) (ec := fun z : Int => [Value.int .i64 z]) (k := 1) (fun _ => rfl) (by decide) ht ce (fun cs n y hy => by
    obtain ⟨z, hz, _⟩ := DataW.trod_int he hy
    exact ⟨z, hz⟩) h
  exact ⟨A, n, c, zs, h1, h2, h3, h4, by rw [ints_flat]; exact h5⟩
end
end Go.Proofs.Ytbhnlooellgfaaa
