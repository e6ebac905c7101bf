/- Lists of numbers that are drawn, in memory of the call's own; the reader goes on. -/
import Derived.Test.YtadkplonknlfbaaDrawVisit
import Derived.Test.YtadkplonknlfbaaOwn
namespace Go.Proofs.Ytadkplonknlfbaa
open Go.ChangeShapes Go.WideShapes Go.ChangeAt Go.RowKit
theorem int_infoD : Info Try.prog 3 (.int .i64 0) 1 8 := Info.mk' (by kernel_rfl) rfl (by decide) (by decide)

theorem lit_cell {w : World} {g : Nat} {t : TypeId} (zs : List Int) (h : Blk w g t (ints zs)) (v : Int) (h0 : 0 ≤ v) (h1 : v < zs.length) : w.cell? ⟨g, v.toNat, none⟩ = some (.int .i64 (zs.getD v.toNat 0)) := by
  have hl : v.toNat < zs.length := by omega
  rw [h.cell]
  simp [ints, hl]

theorem own_ne {w : World} {base g : Nat} {e : TypeId} {size n : Nat} {v : Value} {xs : List Value} (h : w.ownsRow base e size v n xs) (hg : g < base) : v.ownBlock ≠ some g :=
  fun e => by have := (h.lt g e).1; omega
/-- a list of numbers that was drawn: v owns it; the reader g stands at q' -/
def Drawn (w : World) (g q : Nat) (most : Nat) : Ending → World → Prop :=
  RVal fun v w' => ∃ zs q', w'.ownsRow w.heap.size 3 1 v zs.length (ints zs) ∧ zs.length ≤ 64 ∧ q' ≤ q + most ∧ Rdr w' g q' ∧ w.grownBy w' (some g)

end Go.Proofs.Ytadkplonknlfbaa
