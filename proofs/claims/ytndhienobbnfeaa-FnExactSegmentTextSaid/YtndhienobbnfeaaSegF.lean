/- What a row's reading of a segment gives to a walk. -/
import Derived.Test.YtndhienobbnfeaaFrame
import Derived.Test.YtndhienobbnfeaaSegX
import Derived.Lib.SmallJoins
import Derived.Deep.Strs
import Derived.Deep.Slices
namespace Go.Proofs.Ytndhienobbnfeaa
open Go Go.ChangeShapes Go.WideShapes Go.ChangeAt Go.RowKit Go.Deep
theorem rdV_of_cells {w : World} {x : Addr} {cs : List Value} (hc : ∀ i (h : i < cs.length), w.cell? (x.add i) = some cs[i]) : RdV w (some x) cs := by
  rcases Nat.eq_zero_or_pos cs.length with h0 | h0
  · exact .inl (List.eq_nil_of_length_eq_zero h0)
  · obtain ⟨b, off, spot⟩ := x
    have h1 := hc 0 h0
    have hs : spot = none := by simpa [Addr.add] using World.cell?_spot h1
    subst hs
    have hlt : b < w.heap.size := by
      have := World.block_lt_of_cell? w _ h1
      simpa [Addr.add] using this
    refine .inr ⟨b, off, rfl, hlt, fun j hj => ?_⟩
    have h2 := hc j hj
    have he : (⟨b, off, none⟩ : Addr).add j = ⟨b, off + j, none⟩ := by
      unfold Addr.add; split <;> simp_all
    rw [he] at h2
    exact h2
section
variable {H : Type} {enc : TypeId × Value → H} {P : Program} {w : World} {base : Nat} {spare : Nat → Bool} {held : Bool}
theorem read_strs {t e : TypeId} {v : Value} {fuel : Nat} {x : DataW H × List MemPlace} (ht : P.underlying t = some (.slice e)) (he : P.underlying e = some .string) (hC : P.cellsOf e = 1)
    (h : DataW.trod enc P w base spare held fuel t [v] = some x) : ∃ (A : Option Addr) (n c : Nat) (ss : List ByteArray), v = .slice A n c ∧ ss.length = n ∧ n ≤ c ∧ c ≤ maxLen ∧ RdV w A (strs ss) ∧ ∀ p ∈ ss, p.size ≤ maxLen := by
  rcases open_strs ht he hC h with ⟨hcs, _⟩ | ⟨a, len, cap, m, Sx, hcs, _, hl, hm, hmm, _, hx⟩
  · simp at hcs
    exact ⟨none, 0, 0, [], hcs, rfl, Nat.le_refl _, by decide, RdV.nil_, by simp⟩
  · simp at hcs
    have hlm : len ≤ m := by rw [hmm]; split <;> omega
    refine ⟨some a, len, cap, (List.range len).map Sx, hcs, by simp, hl, hm, rdV_of_cells fun i hi => ?_, fun p hp => ?_⟩
    · have hi' : i < len := by simpa [strs] using hi
      rw [(hx i (by omega)).1]
      simp [strs]
    · simp only [List.mem_map, List.mem_range] at hp
      obtain ⟨i, hi, rfl⟩ := hp
      exact (hx i (by omega)).2
theorem read_strss {t e q : TypeId} {v : Value} {fuel : Nat} {x : DataW H × List MemPlace} (ht : P.underlying t = some (.slice e)) (he : P.underlying e = some (.slice q)) (hq : P.underlying q = some .string) (ce : P.cellsOf e = 1) (cq : P.cellsOf q = 1)
    (h : DataW.trod enc P w base spare held fuel t [v] = some x) : ∃ (A : Option Addr) (n c : Nat) (ess : List (List ByteArray)), v = .slice A n c ∧ ess.length = n ∧ n ≤ c ∧ c ≤ maxLen ∧ RdRR w A (strss ess) ∧ ∀ zs ∈ ess, ∀ p ∈ zs, p.size ≤ maxLen := by
  rcases open_slice1 ht ce h with ⟨hcs, _⟩ | ⟨a, len, cap, m, n, V, D, Pl, hcs, _, hl, hm, hmm, _, hx⟩
  · simp at hcs
    exact ⟨none, 0, 0, [], hcs, rfl, Nat.le_refl _, by decide, RdRR.nil_, by simp⟩
  · simp at hcs
    have hlm : len ≤ m := by rw [hmm]; split <;> omega
    have each : ∀ i, i < len → ∃ ss : List ByteArray, ∃ A c, V i = .slice A ss.length c ∧ ss.length ≤ c ∧ c ≤ maxLen ∧ RdV w A (strs ss) ∧ ∀ p ∈ ss, p.size ≤ maxLen := fun i hi => by
      obtain ⟨A, n', c, ss, h1, h2, h3, h4, h5, h6⟩ := read_strs he hq cq (hx i (by omega)).2
      subst h2
      exact ⟨ss, A, c, h1, h3, h4, h5, h6⟩
    obtain ⟨F, hF⟩ := choose_lt each
    refine ⟨some a, len, cap, (List.range len).map F, hcs, by simp, hl, hm, ⟨(List.range len).map V, by simp [strss], rdV_of_cells fun i hi => ?_, fun i hi => ?_⟩, fun zs hz p hp => ?_⟩
    · have hi' : i < len := by simpa using hi
      rw [(hx i (by omega)).1]
      simp
    · have hi' : i < len := by simpa [strss] using hi
      obtain ⟨A, c, h1, h3, h4, h5, _⟩ := hF i hi'
      have e : (strss ((List.range len).map F))[i]'hi = strs (F i) := by simp [strss]
      rw [e, strs_len]
      exact ⟨A, c, by simp [hi', h1], h3, h4, h5⟩
    · simp only [List.mem_map, List.mem_range] at hz
      obtain ⟨i, hi, rfl⟩ := hz
      obtain ⟨_, _, _, _, _, _, h6⟩ := hF i hi
      exact h6 p hp
end
/-- a segment that came in -/
structure SegD where
  tag : ByteArray
  A : Option Addr
  n : Nat
  c : Nat
  ess : List (List ByteArray)
def IsSeg (w : World) (v : Value) (d : SegD) : Prop := v = .agg #[.string d.tag, .slice d.A d.n d.c] ∧ SegIn w d.tag d.A d.n d.c d.ess
theorem read_segment {H : Type} {enc : TypeId × Value → H} {w : World} {base b0 : Nat} {spare : Nat → Bool} {held : Bool} {r : Reach} {v : Value} {d : DataW H} {p : List MemPlace}
    (hv : Value.okWide Try.prog w r b0 30 v) (h : DataW.Trod enc Try.prog w base spare held 30 v d p) : ∃ a, IsSeg w v a := by
  obtain ⟨v0, v1, y0, y1, n, rfl, _, _, h0, h1⟩ := Joins.open_agg2 Try.underlying30 (by kernel_rfl) (by kernel_rfl) hv h
  obtain ⟨s, e0, _, hs⟩ := DataW.trod_string (t := 9) Try.underlying9 h0
  simp at e0
  subst e0
  obtain ⟨A, n', c, ess, rfl, h2, h3, h4, h5, h6⟩ := read_strss (t := 28) (e := 38) (q := 9) Try.underlying28 Try.underlying38 Try.underlying9 (by kernel_rfl) (by kernel_rfl) h1
  unfold maxLen at hs h4 h6
  exact ⟨⟨s, A, n', c, ess⟩, rfl, hs, h2, h5, by show n' ≤ _; omega, h6⟩
end Go.Proofs.Ytndhienobbnfeaa
