/- Posts of calls, kept behind names so that the walk does not take them apart. -/
import Derived.Test.YtcdjgbechigepaaDoorBase
namespace Go.Proofs.YtcdjgbechigepaaDoor
open Go.ChangeShapes Go.WideShapes Go.ChangeAt Go.RowKit
/-- it returns an int / a bool / some value of which P holds -/
def RInt (P : Int → World → Prop) : Ending → World → Prop := fun e w' => ∃ v, e = .returned (.int .i64 v) ∧ P v w'
def RBool (P : Bool → World → Prop) : Ending → World → Prop := fun e w' => ∃ v, e = .returned (.bool v) ∧ P v w'
def RVal (P : Value → World → Prop) : Ending → World → Prop := fun e w' => ∃ v, e = .returned v ∧ P v w'
def RTwo (P : Value → Value → World → Prop) : Ending → World → Prop := fun e w' => ∃ u v, e = .returned (.tuple #[u, v]) ∧ P u v w'
def RThree (P : Value → Value → Value → World → Prop) : Ending → World → Prop := fun e w' => ∃ u v x, e = .returned (.tuple #[u, v, x]) ∧ P u v x w'
theorem RInt.mk {P : Int → World → Prop} {v : Int} {w : World} (h : P v w) : RInt P (.returned (.int .i64 v)) w := ⟨v, rfl, h⟩
theorem RBool.mk {P : Bool → World → Prop} {v : Bool} {w : World} (h : P v w) : RBool P (.returned (.bool v)) w := ⟨v, rfl, h⟩
theorem RVal.mk {P : Value → World → Prop} {v : Value} {w : World} (h : P v w) : RVal P (.returned v) w := ⟨v, rfl, h⟩
theorem RTwo.mk {P : Value → Value → World → Prop} {u v : Value} {w : World} (h : P u v w) : RTwo P (.returned (.tuple #[u, v])) w := ⟨u, v, rfl, h⟩
theorem RThree.mk {P : Value → Value → Value → World → Prop} {u v x : Value} {w : World} (h : P u v x w) : RThree P (.returned (.tuple #[u, v, x])) w := ⟨u, v, x, rfl, h⟩

/-- only block g (and what is new) has turned: steps -/
theorem only_refl (w : World) (g : Nat) : w.grownBy w (some g) := World.grownBy.refl w _
theorem only_trans {a b c : World} {g : Nat} (h : a.grownBy b (some g)) (k : b.grownBy c (some g)) : a.grownBy c (some g) :=
  ⟨k.os.trans h.os, k.tape.trans h.tape, k.output.trans h.output, Nat.le_trans h.size k.size, fun i hi hn => (k.block i (Nat.lt_of_lt_of_le hi h.size) hn).trans (h.block i hi hn)⟩
theorem only_below {a b : World} (h : Below a.heap.size a b) (g : Nat) : a.grownBy b (some g) := ⟨h.os, h.tape, h.output, h.size, fun i hi _ => h.block i hi⟩
theorem only_drewN {a w : World} {row : Option Nat} (h : a.grownBy w row) (n : Nat) : a.grownBy (w.drewN n) row := ⟨h.os, h.tape, h.output, h.size, h.block⟩
theorem below_only {a b c : World} {g : Nat} (h : Below a.heap.size a b) (k : b.grownBy c (some g)) (hg : a.heap.size ≤ g) : Below a.heap.size a c :=
  h.trans ⟨k.os, k.tape, k.output, k.size, fun i hi => k.block i (Nat.lt_of_lt_of_le hi h.size) (fun e => by injection e with e; omega)⟩
theorem RdV.only {w w' : World} {b off g : Nat} {cs : List Value} (h : RdV w (some ⟨b, off, none⟩) cs) (hg : w.grownBy w' (some g)) (hne : b ≠ g) : RdV w' (some ⟨b, off, none⟩) cs := by
  rcases h with h | ⟨b', off', he, hlt, hc⟩
  · exact .inl h
  · injection he with he
    injection he with e1 e2
    subst e1; subst e2
    refine .inr ⟨b, off, rfl, Nat.lt_of_lt_of_le hlt hg.size, fun k hk => ?_⟩
    exact (World.cell?_of_block (hg.block b hlt (fun e => hne (by injection e)))).trans (hc k hk)
theorem Blk.only {w w' : World} {b g : Nat} {t : TypeId} {cs : List Value} (h : Blk w b t cs) (hg : w.grownBy w' (some g)) (hne : b ≠ g) : Blk w' b t cs :=
  (hg.block b h.lt (fun e => hne (by injection e))).trans h
end Go.Proofs.YtcdjgbechigepaaDoor
