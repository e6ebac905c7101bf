/- The text of a yard, in plain words. -/
import Derived.Test.YtcdjgbechigepaaDoorYdP
import Derived.Lib.Join
import Derived.Lib.ItoaNum
namespace Go.Proofs.YtcdjgbechigepaaDoor
open Go
set_option linter.unusedVariables false
theorem join_snoc (xs : List (List UInt8)) (x sep : List UInt8) : Lib.join (xs ++ [x]) sep = if xs = [] then x else Lib.join xs sep ++ (sep ++ x) := by
  induction xs with
  | nil => simp [Lib.join, List.intercalate]
  | cons a r ih =>
    rw [if_neg (by simp)]
    cases r with
    | nil => simp [Lib.join, List.intercalate]
    | cons b r =>
      rw [if_neg (by simp)] at ih
      unfold Lib.join at ih ⊢
      have e : ∀ (y : List UInt8) (zs : List (List UInt8)), zs ≠ [] → sep.intercalate (y :: zs) = y ++ (sep ++ sep.intercalate zs) := by
        intro y zs hz
        cases zs with
        | nil => exact absurd rfl hz
        | cons c zs => simp [List.intercalate]
      rw [List.cons_append, e a (b :: r ++ [x]) (by simp), e a (b :: r) (by simp), ih]
      simp [List.append_assoc]
theorem joinTail_len {sep : List UInt8} {m : Nat} : ∀ {r : List (List UInt8)}, (∀ x ∈ r, x.length ≤ m) → (Lib.joinTail sep r).length ≤ r.length * (m + sep.length)
  | [], _ => by simp [Lib.joinTail]
  | a :: r, h => by
    have h1 := joinTail_len (sep := sep) (r := r) (fun x hx => h x (List.mem_cons_of_mem _ hx))
    have h2 := h a (List.mem_cons_self ..)
    have e : Lib.joinTail sep (a :: r) = sep ++ a ++ Lib.joinTail sep r := by simp [Lib.joinTail]
    rw [e, List.length_append, List.length_append, List.length_cons, Nat.add_mul]
    omega
theorem join_len {sep : List UInt8} {m : Nat} {xs : List (List UInt8)} (h : ∀ x ∈ xs, x.length ≤ m) : (Lib.join xs sep).length ≤ xs.length * (m + sep.length) := by
  cases xs with
  | nil => rw [Lib.join_nil]; simp
  | cons a r =>
    have h1 := joinTail_len (sep := sep) (r := r) (fun x hx => h x (List.mem_cons_of_mem _ hx))
    have h2 := h a (List.mem_cons_self ..)
    rw [Lib.join_cons, List.length_append, List.length_cons, Nat.add_mul]
    omega
theorem itoa_nat {x : Int} (h : 0 ≤ x) : Lib.itoa x = Lib.decDigits x.toNat := by rw [Lib.itoa, if_neg (by omega)]
theorem dec_len {u : Nat} (h : u ≤ 999) : 1 ≤ (Lib.decDigits u).length ∧ (Lib.decDigits u).length ≤ 3 := by
  have e : (Lib.decDigits u).length = Lib.nDigits u := by rw [Lib.decDigits_eq]; simp
  rw [e]
  refine ⟨Lib.nDigits_pos u, ?_⟩
  by_cases h1 : u < 10
  · rw [Lib.nDigits_small h1]; omega
  · rw [Lib.nDigits_big h1]
    by_cases h2 : u / 10 < 10
    · rw [Lib.nDigits_small h2]; omega
    · rw [Lib.nDigits_big h2, Lib.nDigits_small (by omega)]
      omega
/-- the text of a stack, of a yard -/
def rowT (s : List Int) : List UInt8 := if s = [] then [45] else Lib.join (s.map Lib.itoa) [44]
def yardT (high : Int) (rows : List (List Int)) : List UInt8 := if yardOk high rows then Lib.join (rows.map rowT) [32] else []
theorem itoa_len {x : Int} (h : 1 ≤ x ∧ x ≤ 999) : 1 ≤ (Lib.itoa x).length ∧ (Lib.itoa x).length ≤ 3 := by
  rw [itoa_nat (by omega)]
  exact dec_len (by omega)
theorem rowT_len {s : List Int} (h : ∀ x ∈ s, 1 ≤ x ∧ x ≤ 999) (h5 : s.length ≤ 5) : (rowT s).length ≤ 21 := by
  unfold rowT
  split
  · simp
  · have h1 := join_len (sep := [44]) (m := 3) (xs := s.map Lib.itoa) (fun y hy => by
      obtain ⟨x, hx, rfl⟩ := List.mem_map.1 hy
      exact (itoa_len (h x hx)).2)
    rw [List.length_map] at h1
    simp only [List.length_cons, List.length_nil] at h1
    omega
theorem join_pos {sep : List UInt8} {xs : List (List UInt8)} (h0 : xs ≠ []) (h : ∀ x ∈ xs, 1 ≤ x.length) : 1 ≤ (Lib.join xs sep).length := by
  cases xs with
  | nil => exact absurd rfl h0
  | cons a r =>
    have := h a (List.mem_cons_self ..)
    rw [Lib.join_cons, List.length_append]
    omega
/-- what is in a valid yard -/
theorem yard_each {high : Int} {rows : List (List Int)} (h : yardOk high rows = true) : rows.length ≤ 5 ∧ (∀ s ∈ rows, s.length ≤ 5) ∧ ∀ s ∈ rows, ∀ x ∈ s, 1 ≤ x ∧ x ≤ 999 := by
  obtain ⟨_, h1, _, _, h2, h3⟩ := yardOk_parts h
  exact ⟨h1, h2, h3⟩
end Go.Proofs.YtcdjgbechigepaaDoor
