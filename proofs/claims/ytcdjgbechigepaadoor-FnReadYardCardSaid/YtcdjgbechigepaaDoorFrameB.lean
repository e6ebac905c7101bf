/- What a row's reading of a slice of bytes gives to a walk. -/
import Derived.Test.YtcdjgbechigepaaDoorFrame
import Derived.Test.YtcdjgbechigepaaDoorRdr
namespace Go.Proofs.YtcdjgbechigepaaDoor
open Go.ChangeShapes Go.WideShapes Go.ChangeAt Go.RowKit
theorem read_code {H : Type} {enc : TypeId × Value → H} {w : World} {base : Nat} {spare : Nat → Bool} {held : Bool} {A : Option Addr} {n c : Nat} {d : DataW H} {p : List MemPlace}
    (h : DataW.Trod enc Tryd.prog w base spare held 30 (.slice A n c) d p) : ∃ bs, Code w A n c bs := by
  have h0 := h
  obtain ⟨fuel, hf⟩ := h
  rcases open_ints Tryd.underlying30 Tryd.underlying5 (by kernel_rfl) hf with ⟨hcs, _⟩ | ⟨x, l, c', zs, hcs, hb, hl, hm, hz, hx, hcell, hwz⟩
  · simp [Value.cells] at hcs
    obtain ⟨rfl, rfl, rfl⟩ := hcs
    exact ⟨[], rfl, Nat.le_refl _, by decide, .inl rfl, by simp⟩
  · simp [Value.cells] at hcs
    obtain ⟨rfl, rfl, rfl⟩ := hcs
    have hz' : n ≤ zs.length := by rw [hz]; split <;> omega
    refine ⟨zs.take n, by simp; omega, hl, by unfold maxLen at hm; exact hm, row_of_cells n hz' hcell, fun z hz => ?_⟩
    · have hw := hwz z (List.mem_of_mem_take hz)
      have := bounds_u8 hw
      omega
end Go.Proofs.YtcdjgbechigepaaDoor
