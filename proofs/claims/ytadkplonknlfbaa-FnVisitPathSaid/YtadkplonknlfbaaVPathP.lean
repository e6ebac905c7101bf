/- The search for the fewest events, in plain words. -/
import Derived.Test.YtadkplonknlfbaaVisitP
namespace Go.Proofs.Ytadkplonknlfbaa
/-- a queue of states and the first path to each state that was reached -/
abbrev Bfs := List Int × List (Int × List Int)
def bEv (x : Int) (st : Bfs) (e : Int) : Bfs :=
  if vstep x e < 0 ∨ (st.2.lookup (vstep x e)).isSome = true then st else (st.1 ++ [vstep x e], st.2 ++ [(vstep x e, (st.2.lookup x).getD [] ++ [e])])
def bEvs (x : Int) (st : Bfs) : Nat → Bfs
  | 0 => st
  | k + 1 => bEv x (bEvs x st k) k
def bPop (st : Bfs) : Bfs := match st.1 with
  | [] => st
  | x :: _ => ((bEvs x st 5).1.tail, (bEvs x st 5).2)
def bRun (s : Int) : Nat → Bfs
  | 0 => ([s], [(s, [])])
  | t + 1 => bPop (bRun s t)
/-- what is true of each state of the search -/
def bOk (x : Int) (st : Bfs) : Bool := decide (st.1.head? = some x) && decide (st.1.length ≤ 6) && decide (1 ≤ st.2.length) && decide (st.2.length ≤ 5) && ((st.2.lookup x).map (fun p => decide (p.length ≤ 5)) == some true) && decide (0 ≤ x) && decide (x ≤ 4)
def bAll (s : Int) (t k : Nat) : Bool := match (bRun s t).1 with
  | [] => true
  | x :: _ => bOk x (bEvs x (bRun s t) k)
theorem bAll_true : ∀ s : Fin 5, ∀ t : Fin 6, ∀ k : Fin 6, bAll (s.1 : Int) t.1 k.1 = true := by decide +kernel
theorem bEnd_true : ∀ s : Fin 5, ∀ t : Fin 6, ((bRun (s.1 : Int) t.1).1 = [] → (bRun (s.1 : Int) t.1).2 = (bRun (s.1 : Int) 5).2) ∧ (bRun (s.1 : Int) 5).1 = [] := by decide +kernel
theorem fin_of (s : Int) (h : 0 ≤ s ∧ s ≤ 4) : ∃ f : Fin 5, s = (f.1 : Int) := ⟨⟨s.toNat, by omega⟩, by simp; omega⟩
theorem bfs_fact {s x : Int} {tl : List Int} {t k : Nat} (h : 0 ≤ s ∧ s ≤ 4) (ht : t ≤ 5) (hk : k ≤ 5) (hq : (bRun s t).1 = x :: tl) :
    t < 5 ∧ (∃ tl', (bEvs x (bRun s t) k).1 = x :: tl' ∧ tl'.length ≤ 5) ∧ (1 ≤ (bEvs x (bRun s t) k).2.length ∧ (bEvs x (bRun s t) k).2.length ≤ 5) ∧ (∃ p, (bEvs x (bRun s t) k).2.lookup x = some p ∧ p.length ≤ 5) ∧ 0 ≤ x ∧ x ≤ 4 := by
  obtain ⟨f, rfl⟩ := fin_of s h
  have h1 := bAll_true f ⟨t, by omega⟩ ⟨k, by omega⟩
  have h2 := bEnd_true f ⟨t, by omega⟩
  unfold bAll at h1
  rw [hq] at h1
  simp only [bOk, Bool.and_eq_true, decide_eq_true_eq, beq_iff_eq] at h1
  obtain ⟨⟨⟨⟨⟨⟨a1, a2⟩, a3⟩, a4⟩, a5⟩, a6⟩, a7⟩ := h1
  refine ⟨?_, ?_, ⟨a3, a4⟩, ?_, a6, a7⟩
  · rcases Nat.lt_or_ge t 5 with hlt | hge
    · exact hlt
    · obtain rfl : t = 5 := by omega
      rw [h2.2] at hq
      cases hq
  · cases hl : (bEvs x (bRun (f.1 : Int) t) k).1 with
    | nil => rw [hl] at a1; cases a1
    | cons y tl' =>
      rw [hl] at a1 a2
      simp only [List.head?_cons, Option.some.injEq] at a1
      subst a1
      exact ⟨tl', rfl, by simpa using a2⟩
  · cases hl : (bEvs x (bRun (f.1 : Int) t) k).2.lookup x with
    | none => rw [hl] at a5; cases a5
    | some p =>
      rw [hl] at a5
      simp only [Option.map_some, Option.some.injEq, decide_eq_true_eq] at a5
      exact ⟨p, rfl, a5⟩
theorem bfs_done {s : Int} {t : Nat} (h : 0 ≤ s ∧ s ≤ 4) (ht : t ≤ 5) (hq : (bRun s t).1 = []) : (bRun s t).2 = (bRun s 5).2 := by
  obtain ⟨f, rfl⟩ := fin_of s h
  exact (bEnd_true f ⟨t, by omega⟩).1 hq
theorem bEv_len (x : Int) (st : Bfs) (e : Int) : (bEv x st e).1.length + st.2.length = st.1.length + (bEv x st e).2.length := by
  unfold bEv
  split <;> simp <;> omega
theorem bEvs_len (x : Int) (st : Bfs) (k : Nat) : (bEvs x st k).1.length + st.2.length = st.1.length + (bEvs x st k).2.length := by
  induction k with
  | zero => rfl
  | succ k ih =>
    have := bEv_len x (bEvs x st k) k
    show (bEv x (bEvs x st k) k).1.length + _ = _ + (bEv x (bEvs x st k) k).2.length
    omega
/-- the fewest events from s to t -/
def vpath (s t : Int) : Option (List Int) := if (0 ≤ s ∧ s ≤ 4) ∧ 0 ≤ t ∧ t ≤ 4 then (bRun s 5).2.lookup t else none
theorem lookup_snoc (m : List (Int × List Int)) (n : Int) (p : List Int) (h : (m.lookup n).isSome = false) (a : Int) : (m ++ [(n, p)]).lookup a = if a = n then some p else m.lookup a := by
  induction m with
  | nil =>
    by_cases ha : a = n
    · simp [ha]
    · have : (a == n) = false := by simp [ha]
      simp [List.lookup, ha, this]
  | cons q m ih =>
    obtain ⟨y, py⟩ := q
    simp only [List.lookup] at h
    by_cases hny : n = y
    · subst hny
      simp at h
    · have hnb : (n == y) = false := by simp [hny]
      rw [hnb] at h
      simp only [List.cons_append, List.lookup]
      by_cases hay : a = y
      · subst hay
        have : (a == a) = true := by simp
        rw [this, if_neg (fun e => hny e.symm)]
      · have : (a == y) = false := by simp [hay]
        rw [this]
        exact ih h
end Go.Proofs.Ytadkplonknlfbaa
