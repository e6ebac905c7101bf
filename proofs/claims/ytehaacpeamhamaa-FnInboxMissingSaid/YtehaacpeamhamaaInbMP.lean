/- What an inbox waits for, in plain words. -/
import Derived.Test.YtehaacpeamhamaaInbP
namespace Go.Proofs.Ytehaacpeamhamaa
/-- n numbers from a -/
def gapN (a : Int) : Nat → List Int
  | 0 => []
  | n + 1 => a :: gapN (a + 1) n
/-- the numbers between a and b (without b) -/
def gapTo (a b : Int) : List Int := gapN a (b - a).toNat
theorem gapTo_step {a b : Int} (h : a < b) : gapTo a b = a :: gapTo (a + 1) b := by
  obtain ⟨m, hm⟩ : ∃ m, (b - a).toNat = m + 1 := ⟨(b - a).toNat - 1, by omega⟩
  have h2 : (b - (a + 1)).toNat = m := by omega
  rw [gapTo, gapTo, hm, h2, gapN]
theorem gapTo_stop {a b : Int} (h : b ≤ a) : gapTo a b = [] := by
  have h2 : (b - a).toNat = 0 := by omega
  rw [gapTo, h2, gapN]
/-- what is missing behind the number last -/
def missGo (last : Int) : List MessageV → List Int
  | [] => []
  | m :: r => gapTo (last + 1) m.f0 ++ missGo m.f0 r
def inbMiss (next : Int) (held : List MessageV) : List Int := if inbOk next held then next :: missGo next held else []
theorem inbMiss_bad {next : Int} {held : List MessageV} (h : inbOk next held = false) : inbMiss next held = [] := by simp [inbMiss, h]
theorem inbMiss_ok {next : Int} {held : List MessageV} (h : inbOk next held = true) : inbMiss next held = next :: missGo next held := by simp [inbMiss, h]
theorem inbOk_bounds {next : Int} {held : List MessageV} (h : inbOk next held = true) : 1 ≤ next ∧ next ≤ 999 ∧ inbGo next next held = true := by
  simpa [inbOk, and_assoc] using h
theorem inbGo_cons {next last : Int} {m : MessageV} {r : List MessageV} (h : inbGo next last (m :: r) = true) : last + 1 ≤ m.f0 ∧ m.f0 ≤ next + 6 ∧ 1 ≤ m.f1 ∧ m.f1 ≤ 999 ∧ inbGo next m.f0 r = true := by
  simpa [inbGo, and_assoc] using h
theorem inbGo_at {next last : Int} {held : List MessageV} {k : Nat} (hk : k < held.length) (h : inbGo next last (held.drop k) = true) : last + 1 ≤ (held[k]).f0 ∧ (held[k]).f0 ≤ next + 6 ∧ inbGo next (held[k]).f0 (held.drop (k + 1)) = true := by
  rw [List.drop_eq_getElem_cons hk] at h
  obtain ⟨h1, h2, _, _, h3⟩ := inbGo_cons h
  exact ⟨h1, h2, h3⟩
theorem missGo_at {last : Int} {held : List MessageV} {k : Nat} (hk : k < held.length) : missGo last (held.drop k) = gapTo (last + 1) (held[k]).f0 ++ missGo (held[k]).f0 (held.drop (k + 1)) := by
  rw [List.drop_eq_getElem_cons hk, missGo]
theorem missGo_end {last : Int} {held : List MessageV} {k : Nat} (hk : held.length ≤ k) : missGo last (held.drop k) = [] := by
  rw [List.drop_of_length_le hk, missGo]
/-- how many they are at most -/
theorem missGo_len {next last : Int} {held : List MessageV} (h : inbGo next last held = true) (hl : last ≤ next + 6) : (missGo last held).length ≤ (next + 6 - last).toNat := by
  induction held generalizing last with
  | nil => simp [missGo]
  | cons m r ih =>
    obtain ⟨h1, h2, _, _, h3⟩ := inbGo_cons h
    have := ih h3 h2
    have hg : ∀ (n : Nat) (a : Int), (gapN a n).length = n := by
      intro n
      induction n with
      | zero => intro a; rfl
      | succ n ihn => intro a; simp [gapN, ihn]
    rw [missGo, List.length_append, gapTo, hg]
    omega
theorem inbMiss_len (next : Int) (held : List MessageV) : (inbMiss next held).length ≤ 7 := by
  cases h : inbOk next held with
  | false => rw [inbMiss_bad h]; simp
  | true =>
    obtain ⟨_, _, h3⟩ := inbOk_bounds h
    have := missGo_len h3 (by omega)
    rw [inbMiss_ok h, List.length_cons]
    omega
theorem inb_eq {next l : Int} {held : List MessageV} {k : Nat} (hk : k < held.length) (h : inbGo next l (held.drop k) = true) (he : (held[k]).f0 = l + 1) : inbGo next (l + 1) (held.drop (k + 1)) = true ∧ missGo l (held.drop k) = missGo (l + 1) (held.drop (k + 1)) := by
  obtain ⟨_, _, h3⟩ := inbGo_at hk h
  rw [he] at h3
  exact ⟨h3, by rw [missGo_at hk, he, gapTo_stop (Int.le_refl _), List.nil_append]⟩
theorem inb_ne {next l : Int} {held : List MessageV} {k : Nat} (hk : k < held.length) (h : inbGo next l (held.drop k) = true) (he : (held[k]).f0 ≠ l + 1) : inbGo next (l + 1) (held.drop k) = true ∧ missGo l (held.drop k) = (l + 1) :: missGo (l + 1) (held.drop k) := by
  obtain ⟨h1, _, _⟩ := inbGo_at hk h
  refine ⟨?_, ?_⟩
  · rw [List.drop_eq_getElem_cons hk] at h ⊢
    obtain ⟨_, h2, h3, h4, h5⟩ := inbGo_cons h
    have h6 : l + 1 + 1 ≤ (held[k]).f0 := by omega
    simp [inbGo, h6, h2, h3, h4, h5]
  · rw [missGo_at hk, missGo_at hk, gapTo_step (by omega)]
    rfl
end Go.Proofs.Ytehaacpeamhamaa
