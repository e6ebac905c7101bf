/- What an inbox waits for ascends. -/
import Derived.Test.YtehaacpeamhamaaInbLP
import Derived.Test.YtehaacpeamhamaaAsc
namespace Go.Proofs.Ytehaacpeamhamaa
theorem gapN_mem (n : Nat) : ∀ (a x : Int), x ∈ gapN a n → a ≤ x ∧ x < a + n := by
  induction n with
  | zero => intro a x h; cases h
  | succ n ih =>
    intro a x h
    rw [gapN] at h
    rcases List.mem_cons.1 h with h | h
    · omega
    · have := ih _ _ h
      omega
theorem gapN_pw (n : Nat) : ∀ (a : Int), (gapN a n).Pairwise (· < ·) := by
  induction n with
  | zero => intro a; exact List.Pairwise.nil
  | succ n ih =>
    intro a
    rw [gapN]
    refine List.Pairwise.cons (fun x hx => ?_) (ih _)
    have := gapN_mem n _ _ hx
    omega
theorem gapTo_mem {a b x : Int} (h : x ∈ gapTo a b) : a ≤ x ∧ x < b := by
  have := gapN_mem _ _ _ h
  by_cases hc : a ≤ b
  · omega
  · have hz : (b - a).toNat = 0 := by omega
    rw [gapTo, hz] at h
    cases h
theorem missGo_pw {next last : Int} {held : List MessageV} (h : inbGo next last held = true) : (missGo last held).Pairwise (· < ·) ∧ ∀ x ∈ missGo last held, last < x ∧ x < next + 6 := by
  induction held generalizing last with
  | nil => exact ⟨List.Pairwise.nil, fun x hx => by cases hx⟩
  | cons m r ih =>
    obtain ⟨h1, h2, _, _, h3⟩ := inbGo_cons h
    obtain ⟨p, q⟩ := ih h3
    rw [missGo]
    refine ⟨List.pairwise_append.2 ⟨gapN_pw _ _, p, fun x hx y hy => ?_⟩, fun x hx => ?_⟩
    · have := gapTo_mem hx
      have := q y hy
      omega
    · rcases List.mem_append.1 hx with hx | hx
      · have := gapTo_mem hx
        omega
      · have := q x hx
        omega
theorem inbMiss_asc (next : Int) (held : List MessageV) : Asc (inbMiss next held) := by
  intro i hi
  have hp : (inbMiss next held).Pairwise (· < ·) := by
    cases h : inbOk next held with
    | false => rw [inbMiss_bad h]; exact List.Pairwise.nil
    | true =>
      obtain ⟨_, _, hg⟩ := inbOk_bounds h
      obtain ⟨p, q⟩ := missGo_pw hg
      rw [inbMiss_ok h]
      exact List.Pairwise.cons (fun x hx => (q x hx).1) p
  exact List.pairwise_iff_getElem.1 hp i (i + 1) (by omega) hi (by omega)
theorem inbMiss_in {next : Int} {held : List MessageV} (h : inbOk next held = true) : ∀ x ∈ inbMiss next held, 1 ≤ x ∧ x ≤ 1005 := by
  intro x hx
  obtain ⟨a, b, hg⟩ := inbOk_bounds h
  rw [inbMiss_ok h] at hx
  rcases List.mem_cons.1 hx with rfl | hx
  · omega
  · have := (missGo_pw hg).2 x hx
    omega
theorem inbGo_lt {next last : Int} {held : List MessageV} (h : inbGo next last held = true) : ∀ x ∈ held, x.f0 ≤ next + 6 := by
  induction held generalizing last with
  | nil => intro x hx; cases hx
  | cons m r ih =>
    obtain ⟨_, h2, _, _, h3⟩ := inbGo_cons h
    intro x hx
    rcases List.mem_cons.1 hx with rfl | hx
    · exact h2
    · exact ih h3 x hx
theorem inbMiss_run {next : Int} {held : List MessageV} (h : inbOk next held = true) (hs : next + 6 < 999) :
    (runI next held (comeM (inbMiss next held))).held = [] ∧ (runI next held (comeM (inbMiss next held))).ids.length = (inbMiss next held).length + held.length := by
  obtain ⟨_, _, hg⟩ := inbOk_bounds h
  rw [runI_ok h, inbMiss_ok h]
  exact runsI_missing _ (Nat.lt_succ_self _) h (fun x hx => by have := inbGo_lt hg x hx; omega) (by omega)
end Go.Proofs.Ytehaacpeamhamaa
