/- A region that draws its order, whose operations only read and whose callees leave what lay there as it was: one walk serves every order. -/
import Derived.Test.YtbhnlooellgfaaaPost
import Derived.BigQuiet
import Derived.Deep.Quiet
namespace Go.Proofs.Ytbhnlooellgfaaa
open Go Go.ChangeShapes Go.WideShapes Go.ChangeAt Go.RowKit
/-- a later world: nothing has turned that lay in w -/
structure BelW (w : World) where
  W : World
  ok : Below w.heap.size w W
instance (w : World) : Inhabited (BelW w) := ⟨⟨w, Below.refl _ _⟩⟩
theorem wp_region_below {P : Program} {id : Nat} {Q : Exit → Act → World → Prop} {a : Act} {w : World} {l : List Oper} (hm : P.follows .mixedOrders = true) (hB : Region.lexB .any l.toArray = true)
    (h : wpQuiet P l.toArray (fun w' => ∃ p : BelW w, w' = p.W) (fun a' => ∀ w', (∃ p : BelW w, w' = p.W) → Q .normal a' w') l a) : (Code.region id l.toArray true).wp P Q a w :=
  wp_region_quiet (C := fun w' => ∃ p : BelW w, w' = p.W) hm hB ⟨⟨_, Below.drew (Below.refl _ _)⟩, rfl⟩ (by simpa using h)
theorem calls_below {P : Program} {f : FuncId} {args : Array Value} {w : World} {p : BelW w} {v : Value} (h : Calls P f args p.W fun e w' => e = .returned v ∧ Below p.W.heap.size p.W w') :
    Calls P f args p.W fun e w'' => e = .returned v ∧ ∃ p' : BelW w, w'' = p'.W :=
  h.mono fun _ _ ⟨he, hb⟩ => ⟨he, ⟨_, below_trans p.ok hb⟩, rfl⟩
theorem calls_same {P : Program} {f : FuncId} {args : Array Value} {w : World} {p : BelW w} {v : Value} (h : Calls P f args p.W fun e w' => e = .returned v ∧ p.W = w') :
    Calls P f args p.W fun e w'' => e = .returned v ∧ ∃ p' : BelW w, w'' = p'.W :=
  h.mono fun _ _ ⟨he, hb⟩ => ⟨he, p, hb.symm⟩
theorem BelW.cell {w : World} (p : BelW w) {a : Addr} {v : Value} (hl : a.block < w.heap.size) (h : w.cell? a = some v) : p.W.cell? a = some v := (p.ok.cell (p := a) hl).trans h
theorem Blk.belw {w : World} {g : Nat} {t : TypeId} {cs : List Value} (h : Blk w g t cs) (p : BelW w) : Blk p.W g t cs := h.later p.ok
end Go.Proofs.Ytbhnlooellgfaaa
