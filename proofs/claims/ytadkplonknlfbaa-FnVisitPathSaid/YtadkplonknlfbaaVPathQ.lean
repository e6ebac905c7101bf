/- How far a state is from another one, in plain words; the way along lesser distances is the search's. -/
import Derived.Test.YtadkplonknlfbaaVPathP
namespace Go.Proofs.Ytadkplonknlfbaa
def relax (l : List Int) (s e : Nat) : List Int := if 0 ≤ vstep s e then l.set s (min (l.getD s 0) (l.getD (vstep s e).toNat 0 + 1)) else l
def relE (l : List Int) (s : Nat) : Nat → List Int
  | 0 => l
  | e + 1 => relax (relE l s e) s e
def relS (l : List Int) : Nat → List Int
  | 0 => l
  | s + 1 => relE (relS l s) s 5
def relT (l : List Int) : Nat → List Int
  | 0 => l
  | k + 1 => relS (relT l k) 5
def far0 (t : Nat) : List Int := [99, 99, 99, 99, 99].set t 0
def far (t : Nat) : List Int := relT (far0 t) 5
/-- five numbers of 0 to 99 -/
def Five (l : List Int) : Prop := l.length = 5 ∧ ∀ j, j < 5 → 0 ≤ l.getD j 0 ∧ l.getD j 0 ≤ 99
theorem five_set {l : List Int} (h : Five l) (s : Nat) (v : Int) (hv : 0 ≤ v ∧ v ≤ 99) : Five (l.set s v) := by
  refine ⟨by rw [List.length_set]; exact h.1, fun j hj => ?_⟩
  have := h.2 j hj
  rw [List.getD_eq_getElem?_getD, List.getElem?_set]
  split
  · split
    · exact hv
    · simp
  · rw [← List.getD_eq_getElem?_getD]
    exact this
theorem five_relax {l : List Int} (h : Five l) (s e : Nat) (hs : s < 5) : Five (relax l s e) := by
  unfold relax
  split
  · rename_i hv
    have h4 := vstep_lo s e
    have h1 := h.2 s hs
    have h2 := h.2 (vstep s e).toNat (by omega)
    exact five_set h s _ (by omega)
  · exact h
theorem five_relE {l : List Int} (h : Five l) (s e : Nat) (hs : s < 5) : Five (relE l s e) := by
  induction e with
  | zero => exact h
  | succ e ih => exact five_relax ih s e hs
theorem five_relS {l : List Int} (h : Five l) (s : Nat) (hs : s ≤ 5) : Five (relS l s) := by
  induction s with
  | zero => exact h
  | succ s ih => exact five_relE (ih (by omega)) s 5 (by omega)
theorem five_relT {l : List Int} (h : Five l) (k : Nat) : Five (relT l k) := by
  induction k with
  | zero => exact h
  | succ k ih => exact five_relS ih 5 (Nat.le_refl _)
theorem five_far0 (t : Nat) : Five (far0 t) := five_set (by refine ⟨rfl, fun j hj => ?_⟩; match j, hj with | 0, _ => decide | 1, _ => decide | 2, _ => decide | 3, _ => decide | 4, _ => decide) t 0 (by omega)
/-- one step of the way -/
def wayOk (s t : Nat) : Bool :=
  if 99 ≤ (far t).getD s 0 then vpath s t == none
  else if s = t then vpath s t == some []
  else (List.range 5).any fun e => decide (0 ≤ vstep s e) && decide ((far t).getD (vstep s e).toNat 0 = (far t).getD s 0 - 1) && (vpath s t == (vpath (vstep s e) t).map (fun p => (e : Int) :: p)) && (vpath s t).isSome &&
    (List.range e).all fun k => decide (vstep s k < 0) || decide ((far t).getD (vstep s k).toNat 0 ≠ (far t).getD s 0 - 1)
theorem wayOk_true : ∀ s : Fin 5, ∀ t : Fin 5, wayOk s.1 t.1 = true := by decide +kernel
theorem way_none {s t : Nat} (hs : s < 5) (ht : t < 5) (h : 99 ≤ (far t).getD s 0) : vpath s t = none := by
  have := wayOk_true ⟨s, hs⟩ ⟨t, ht⟩
  unfold wayOk at this
  rw [if_pos h] at this
  simpa using this
theorem way_here {s t : Nat} (hs : s < 5) (ht : t < 5) (h : ¬ 99 ≤ (far t).getD s 0) (he : s = t) : vpath s t = some [] := by
  have := wayOk_true ⟨s, hs⟩ ⟨t, ht⟩
  unfold wayOk at this
  rw [if_neg h, if_pos he] at this
  simpa using this
theorem way_step {s t : Nat} (hs : s < 5) (ht : t < 5) (h : ¬ 99 ≤ (far t).getD s 0) (he : s ≠ t) :
    ∃ e s' : Nat, e < 5 ∧ s' < 5 ∧ vstep s e = (s' : Int) ∧ (far t).getD s' 0 = (far t).getD s 0 - 1 ∧ (∃ p, vpath s' t = some p ∧ vpath s t = some ((e : Int) :: p)) ∧
      ∀ k : Nat, k < e → vstep s k < 0 ∨ ∃ x : Nat, x < 5 ∧ vstep s k = (x : Int) ∧ (far t).getD x 0 ≠ (far t).getD s 0 - 1 := by
  have := wayOk_true ⟨s, hs⟩ ⟨t, ht⟩
  unfold wayOk at this
  rw [if_neg h, if_neg he] at this
  simp only [List.any_eq_true, List.mem_range, Bool.and_eq_true, decide_eq_true_eq, List.all_eq_true, Bool.or_eq_true, beq_iff_eq] at this
  obtain ⟨e, he5, ⟨⟨⟨h1, h2⟩, h3⟩, h4⟩, h5⟩ := this
  have hlo := vstep_lo s e
  have hs' : vstep s e = ((vstep s e).toNat : Int) := by omega
  refine ⟨e, (vstep s e).toNat, he5, by omega, hs', h2, ?_, fun k hk => ?_⟩
  · rw [← hs']
    cases hp : vpath (vstep s e) t with
    | none => rw [h3, hp] at h4; cases h4
    | some p => exact ⟨p, rfl, by rw [h3, hp]; rfl⟩
  · have hl2 := vstep_lo s k
    rcases h5 k hk with h6 | h6
    · exact .inl h6
    · by_cases hn : vstep s k < 0
      · exact .inl hn
      · exact .inr ⟨(vstep s k).toNat, by omega, by omega, h6⟩
theorem vlen_true : ∀ s : Fin 5, ∀ t : Fin 5, (match vpath (s.1 : Int) (t.1 : Int) with | none => true | some p => decide (p.length ≤ 4)) = true := by decide +kernel
theorem vpath_len {s t : Int} {p : List Int} (h : vpath s t = some p) : p.length ≤ 4 := by
  by_cases hr : (0 ≤ s ∧ s ≤ 4) ∧ 0 ≤ t ∧ t ≤ 4
  · obtain ⟨f, rfl⟩ := fin_of s hr.1
    obtain ⟨g, rfl⟩ := fin_of t hr.2
    have := vlen_true f g
    rw [h] at this
    simpa using this
  · unfold vpath at h
    rw [if_neg hr] at h
    cases h
end Go.Proofs.Ytadkplonknlfbaa
