/- Lists of Hold and what is kept: plain words for memory. -/
import Derived.Test.YtpkbipjnobfcdaaHldS
namespace Go.Proofs.Ytpkbipjnobfcdaa
open Go Go.ChangeShapes Go.WideShapes Go.ChangeAt Go.RowKit
theorem own_out {w w' : World} {lo hi base : Nat} {e : TypeId} {size n : Nat} {v : Value} {xs : List Value} (h : w.ownsRow base e size v n xs) (ho : Out lo hi w w') (hd : ∀ g, v.ownBlock = some g → g < lo ∨ hi ≤ g) : w'.ownsRow base e size v n xs := by
  refine ⟨h.1, ?_⟩
  rcases h.2 with hn | ⟨g, cap, cur, rfl, hb, hg, rest⟩
  · exact .inl hn
  · exact .inr ⟨g, cap, cur, rfl, hb, (ho.block g (Array.getElem?_eq_some_iff.1 hg).1 (hd g rfl)).trans hg, rest⟩
theorem Blk.offO {w w' : World} {g lo hi : Nat} {t : TypeId} {cs : List Value} (h : Blk w g t cs) (ho : Out lo hi w w') (hd : g < lo ∨ hi ≤ g) : Blk w' g t cs := (ho.block g h.lt hd).trans h
theorem Blk.offG {w w' : World} {g : Nat} {row : Option Nat} {t : TypeId} {cs : List Value} (h : Blk w g t cs) (hg : w.grownBy w' row) (hd : ∀ b, row = some b → b ≠ g) : Blk w' g t cs := (hg.block g h.lt (fun e => hd g e.symm rfl)).trans h
theorem Below.drewN_ (w : World) (n : Nat) : Below w.heap.size w (w.drewN n) := ⟨rfl, rfl, rfl, Nat.le_refl _, fun _ _ => rfl⟩
theorem hold_infoD : Info Try.prog 38 (.agg #[.int .i64 0, .int .i64 0]) 2 16 := Info.mk' hold_info rfl (by decide) (by decide)
theorem holds_cell (zs : List HoldV) : ∀ u ∈ holds zs, u.oneCell' = true := by
  intro u hu
  simp only [holds, cellsOf, List.mem_flatMap, holdC, List.mem_cons, List.not_mem_nil, or_false] at hu
  obtain ⟨z, _, rfl | rfl⟩ := hu <;> rfl
theorem holds_app (a b : List HoldV) : holds (a ++ b) = holds a ++ holds b := cellsOf_append _ _ _
end Go.Proofs.Ytpkbipjnobfcdaa
