/- What a row's reading of an inbox gives to a walk. -/
import Derived.Test.YtnbppfgfmhfgdaaInbX
namespace Go.Proofs.Ytnbppfgfmhfgdaa
open Go Go.ChangeShapes Go.WideShapes Go.ChangeAt Go.RowKit Go.Deep
instance : Inhabited MessageV := ⟨⟨0, 0⟩⟩
theorem rdV_of_cells {w : World} {x : Addr} {cs : List Value} (hc : ∀ i (h : i < cs.length), w.cell? (x.add i) = some cs[i]) : RdV w (some x) cs := by
  rcases Nat.eq_zero_or_pos cs.length with h0 | h0
  · exact .inl (List.eq_nil_of_length_eq_zero h0)
  · obtain ⟨b, off, spot⟩ := x
    have h1 := hc 0 h0
    have hs : spot = none := by simpa [Addr.add] using World.cell?_spot h1
    subst hs
    have hlt : b < w.heap.size := by
      have := World.block_lt_of_cell? w _ h1
      simpa [Addr.add] using this
    refine .inr ⟨b, off, rfl, hlt, fun j hj => ?_⟩
    have h2 := hc j hj
    have he : (⟨b, off, none⟩ : Addr).add j = ⟨b, off + j, none⟩ := by
      unfold Addr.add; split <;> simp_all
    rw [he] at h2
    exact h2
section
variable {H : Type} {enc : TypeId × Value → H} {w : World} {base : Nat} {spare : Nat → Bool} {held : Bool}
theorem read_messages {v : Value} {fuel : Nat} {x : DataW H × List MemPlace} (h : DataW.trod enc Try.prog w base spare held fuel 22 [v] = some x) :
    ∃ (A : Option Addr) (n c : Nat) (zs : List MessageV), v = .slice A n c ∧ zs.length = n ∧ n ≤ c ∧ c ≤ maxLen ∧ RdV w A (messages zs) := by
  rcases open_slice_pairs Try.underlying22 Try.underlying44 (by kernel_rfl) rfl rfl (by kernel_rfl) (by kernel_rfl) h with ⟨hcs, _⟩ | ⟨a, len, cap, m, n, V0, V1, D0, D1, P0, P1, hcs, _, hl, hm, hmm, _, hx⟩
  · simp at hcs
    exact ⟨none, 0, 0, [], hcs, rfl, Nat.le_refl _, by decide, RdV.nil_⟩
  · simp at hcs
    have hlm : len ≤ m := by rw [hmm]; split <;> omega
    have each : ∀ i, i < len → ∃ z : MessageV, V0 i = .int .i64 z.f0 ∧ V1 i = .int .i64 z.f1 := fun i hi => by
      obtain ⟨_, _, t0, t1⟩ := hx i (by omega)
      obtain ⟨a0, e0, _⟩ := DataW.trod_int (t := 3) Try.underlying3 t0
      obtain ⟨a1, e1, _⟩ := DataW.trod_int (t := 3) Try.underlying3 t1
      exact ⟨⟨a0, a1⟩, by simpa using e0, by simpa using e1⟩
    obtain ⟨F, hF⟩ := choose_lt each
    refine ⟨some a, len, cap, (List.range len).map F, hcs, by simp, hl, hm, rdV_of_cells fun i hi => ?_⟩
    rw [messages_len] at hi
    simp only [List.length_map, List.length_range] at hi
    have hq : i / 2 < len := by omega
    have hc2 := cellsOf_at messageC 2 messageC_len ((List.range len).map F) (i / 2) (by simpa using hq) (i % 2) (by omega)
    have e : i / 2 * 2 + i % 2 = i := by omega
    rw [e] at hc2
    have hlt : i < (messages ((List.range len).map F)).length := by rw [messages_len]; simpa using hi
    have e2 : (messages ((List.range len).map F))[i]? = (messageC (F (i / 2)))[i % 2]? := by rw [show messages = cellsOf messageC from rfl, hc2]; simp
    rw [List.getElem?_eq_getElem hlt] at e2
    obtain ⟨q0, q1, _, _⟩ := hx (i / 2) (by omega)
    obtain ⟨f0, f1⟩ := hF (i / 2) hq
    rcases Nat.mod_two_eq_zero_or_one i with h0 | h1
    · rw [h0] at e2
      simp [messageC] at e2
      rw [e2, show i = i / 2 * 2 from by omega, q0, f0]
      simp
    · rw [h1] at e2
      simp [messageC] at e2
      rw [e2, show a.add i = a.add (i / 2 * 2 + 1) from by rw [show i / 2 * 2 + 1 = i from by omega], q1, f1]
end
/-- an inbox that came in -/
structure InbD where
  next : Int
  A : Option Addr
  n : Nat
  c : Nat
  held : List MessageV
def IsInb (w : World) (v : Value) (d : InbD) : Prop := v = .agg #[.int .i64 d.next, .slice d.A d.n d.c] ∧ InbIn w d.A d.n d.c d.held
theorem read_inbox {H : Type} {enc : TypeId × Value → H} {w : World} {base b0 : Nat} {spare : Nat → Bool} {held : Bool} {r : Reach} {v : Value} {d : DataW H} {p : List MemPlace}
    (hv : Value.okWide Try.prog w r b0 24 v) (h : DataW.Trod enc Try.prog w base spare held 24 v d p) : ∃ a, IsInb w v a := by
  obtain ⟨v0, v1, y0, y1, n, rfl, _, _, h0, h1⟩ := Joins.open_agg2 Try.underlying24 (by kernel_rfl) (by kernel_rfl) hv h
  obtain ⟨a0, e0, _⟩ := DataW.trod_int (t := 3) Try.underlying3 h0
  simp at e0
  subst e0
  obtain ⟨A, n', c, zs, rfl, h2, h3, h4, h5⟩ := read_messages h1
  unfold maxLen at h4
  exact ⟨⟨a0, A, n', c, zs⟩, rfl, h2, h5, by show n' ≤ _; omega⟩
/-- a message that came in -/
def IsMsg (_ : World) (v : Value) (m : MessageV) : Prop := v = .agg #[.int .i64 m.f0, .int .i64 m.f1]
theorem read_message {H : Type} {enc : TypeId × Value → H} {w : World} {base b0 : Nat} {spare : Nat → Bool} {held : Bool} {r : Reach} {v : Value} {d : DataW H} {p : List MemPlace}
    (hv : Value.okWide Try.prog w r b0 44 v) (h : DataW.Trod enc Try.prog w base spare held 44 v d p) : ∃ a, IsMsg w v a := by
  obtain ⟨v0, v1, y0, y1, n, rfl, _, _, h0, h1⟩ := Joins.open_agg2 Try.underlying44 (by kernel_rfl) (by kernel_rfl) hv h
  obtain ⟨a0, e0, _⟩ := DataW.trod_int (t := 3) Try.underlying3 h0
  obtain ⟨a1, e1, _⟩ := DataW.trod_int (t := 3) Try.underlying3 h1
  simp at e0 e1
  subst e0 e1
  exact ⟨⟨a0, a1⟩, rfl⟩
end Go.Proofs.Ytnbppfgfmhfgdaa
