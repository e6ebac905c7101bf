/- When an inbox is valid, in plain words. -/
import Derived.Test.YtehaacpeamhamaaMsgS
namespace Go.Proofs.Ytehaacpeamhamaa
/-- the messages that are held, behind the number last -/
def inbGo (next last : Int) : List MessageV → Bool
  | [] => true
  | m :: r => decide (last + 1 ≤ m.f0) && decide (m.f0 ≤ next + 6) && decide (1 ≤ m.f1) && decide (m.f1 ≤ 999) && inbGo next m.f0 r
def inbOk (next : Int) (held : List MessageV) : Bool := decide (1 ≤ next) && decide (next ≤ 999) && inbGo next next held
/-- the number ahead of the message k -/
def lastAt (next : Int) (held : List MessageV) : Nat → Int
  | 0 => next
  | k + 1 => (held.getD k ⟨0, 0⟩).f0
theorem inbGo_drop {next : Int} {held : List MessageV} {k : Nat} (hk : k < held.length) (h : inbGo next next held = inbGo next (lastAt next held k) (held.drop k)) :
    inbGo next next held = (decide (lastAt next held k + 1 ≤ (held[k]).f0) && decide ((held[k]).f0 ≤ next + 6) && decide (1 ≤ (held[k]).f1) && decide ((held[k]).f1 ≤ 999) && inbGo next (lastAt next held (k + 1)) (held.drop (k + 1))) := by
  rw [h, List.drop_eq_getElem_cons hk, inbGo]
  simp [lastAt, List.getD, List.getElem?_eq_getElem hk]
theorem lastAt_ge {next : Int} {held : List MessageV} (k : Nat) (hk : k ≤ held.length) (h : ∀ j (hj : j < k), lastAt next held j + 1 ≤ (held[j]'(by omega)).f0) : next ≤ lastAt next held k := by
  induction k with
  | zero => exact Int.le_refl _
  | succ k ih =>
    have h1 := ih (by omega) (fun j hj => h j (by omega))
    have h2 := h k (by omega)
    have e : lastAt next held (k + 1) = (held[k]'(by omega)).f0 := by simp [lastAt, List.getD, List.getElem?_eq_getElem (show k < held.length by omega)]
    rw [e]
    omega
theorem lastAt_succ {next : Int} {held : List MessageV} {k : Nat} (hk : k < held.length) : lastAt next held (k + 1) = (held[k]).f0 := by simp [lastAt, List.getD, List.getElem?_eq_getElem hk]
theorem inb_go {next : Int} {held : List MessageV} {k : Nat} (hk : k < held.length) (h : inbGo next next held = inbGo next (lastAt next held k) (held.drop k)) (h1 : lastAt next held k + 1 ≤ (held[k]).f0) (h2 : (held[k]).f0 ≤ next + 6) (h3 : 1 ≤ (held[k]).f1) (h4 : (held[k]).f1 ≤ 999) :
    inbGo next next held = inbGo next (lastAt next held (k + 1)) (held.drop (k + 1)) := by
  rw [inbGo_drop hk h, decide_eq_true h1, decide_eq_true h2, decide_eq_true h3, decide_eq_true h4]
  rfl
theorem inb_no {next : Int} {held : List MessageV} {k : Nat} (hk : k < held.length) (h : inbGo next next held = inbGo next (lastAt next held k) (held.drop k)) (h1 : ¬ (lastAt next held k + 1 ≤ (held[k]).f0 ∧ (held[k]).f0 ≤ next + 6 ∧ 1 ≤ (held[k]).f1 ∧ (held[k]).f1 ≤ 999)) :
    inbGo next next held = false := by
  rw [inbGo_drop hk h]
  cases hx : (decide (lastAt next held k + 1 ≤ (held[k]).f0) && decide ((held[k]).f0 ≤ next + 6) && decide (1 ≤ (held[k]).f1) && decide ((held[k]).f1 ≤ 999)) with
  | false => rfl
  | true =>
    simp only [Bool.and_eq_true, decide_eq_true_eq] at hx
    exact absurd ⟨hx.1.1.1, hx.1.1.2, hx.1.2, hx.2⟩ h1
theorem inbOk_out {next : Int} {held : List MessageV} (h : next < 1 ∨ 999 < next) : inbOk next held = false := by
  rcases h with h | h
  · have : decide (1 ≤ next) = false := decide_eq_false (by omega)
    simp [inbOk, this]
  · have : decide (next ≤ 999) = false := decide_eq_false (by omega)
    simp [inbOk, this]
theorem inbOk_in {next : Int} {held : List MessageV} (h1 : 1 ≤ next) (h2 : next ≤ 999) : inbOk next held = inbGo next next held := by simp [inbOk, h1, h2]
end Go.Proofs.Ytehaacpeamhamaa
