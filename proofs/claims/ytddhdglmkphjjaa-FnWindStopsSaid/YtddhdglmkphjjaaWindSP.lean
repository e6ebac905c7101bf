/- How often a crane stops, in plain words. -/
import Derived.Test.YtddhdglmkphjjaaWindQ
namespace Go.Proofs.Ytddhdglmkphjjaa
def b2i : Bool → Int
  | true => 1
  | false => 0
theorem b2i_bd (b : Bool) : 0 ≤ b2i b ∧ b2i b ≤ 1 := by cases b <;> decide
/-- stops in a list of truths, of which the one ahead was p -/
def stopsGo : Bool → List Bool → Int
  | _, [] => 0
  | p, b :: bs => b2i (!b && p) + stopsGo b bs
def lastOr (p : Bool) : List Bool → Bool
  | [] => p
  | b :: bs => lastOr b bs
theorem lastOr_snoc (p : Bool) (bs : List Bool) (b : Bool) : lastOr p (bs ++ [b]) = b := by
  induction bs generalizing p with
  | nil => rfl
  | cons a as ih => exact ih _
theorem stopsGo_snoc (p : Bool) (bs : List Bool) (b : Bool) : stopsGo p (bs ++ [b]) = stopsGo p bs + b2i (!b && lastOr p bs) := by
  induction bs generalizing p with
  | nil => simp [stopsGo, lastOr]
  | cons a as ih => simp only [List.cons_append, stopsGo, ih, lastOr, Int.add_assoc]
theorem stopsGo_bd (p : Bool) (bs : List Bool) : 0 ≤ stopsGo p bs ∧ stopsGo p bs ≤ bs.length := by
  induction bs generalizing p with
  | nil => simp [stopsGo]
  | cons a as ih =>
    have := ih a
    have := b2i_bd (!a && p)
    simp only [stopsGo, List.length_cons]
    omega
theorem take_last (bs : List Bool) (k : Nat) (h0 : 0 < k) (h : k ≤ bs.length) : lastOr true (bs.take k) = bs[k - 1] := by
  obtain ⟨m, rfl⟩ : ∃ m, k = m + 1 := ⟨k - 1, by omega⟩
  rw [List.take_succ_eq_append_getElem (by omega), lastOr_snoc]
  rfl
def windStops (gs : List Int) : Int := if wok (-1) gs = true then stopsGo true (wworks (-1) gs) else -1
end Go.Proofs.Ytddhdglmkphjjaa
