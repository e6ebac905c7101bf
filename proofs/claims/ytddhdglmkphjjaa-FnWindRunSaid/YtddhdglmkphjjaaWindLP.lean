/- The plain law of the wind: nobody works soon after a strong gust. -/
import Derived.Test.YtddhdglmkphjjaaWindQ
namespace Go.Proofs.Ytddhdglmkphjjaa
theorem wok_take_true (s : Int) (gs : List Int) (k : Nat) (h : wok s gs = true) : wok s (gs.take k) = true := by
  rw [← List.take_append_drop k gs, wok_append, Bool.and_eq_true] at h
  exact h.1
/-- the state behind k gusts -/
def wat (s : Int) (gs : List Int) (k : Nat) : Int := wst s (gs.take k)
theorem wat_bd (s : Int) (gs : List Int) (k : Nat) (h : -1 ≤ s ∧ s ≤ 2) (hk : wok s gs = true) : -1 ≤ wat s gs k ∧ wat s gs k ≤ 2 := wst_bd s _ h (wok_take_true s gs k hk)
theorem wat_succ (s : Int) (gs : List Int) (k : Nat) (h : k < gs.length) : wat s gs (k + 1) = wstep (wat s gs k) gs[k] := by
  unfold wat
  rw [List.take_succ_eq_append_getElem h, wst_snoc]
theorem wworks_at (s : Int) (gs : List Int) (k : Nat) (h : k < gs.length) : (wworks s gs)[k]'(by rw [wworks_len]; exact h) = (wat s gs (k + 1) == -1) := by
  have hl : k < (wworks s gs).length := by rw [wworks_len]; exact h
  have e : (wworks s gs)[k]? = some (wat s gs (k + 1) == -1) := by
    conv => lhs; rw [← List.take_append_drop (k + 1) gs]
    have h2 : ∀ (t : Int) (xs ys : List Int), wworks t (xs ++ ys) = wworks t xs ++ wworks (wst t xs) ys := by
      intro t xs ys
      induction xs generalizing t with
      | nil => rfl
      | cons a as ih => simp only [List.cons_append, wworks, ih, wst, List.foldl_cons]
    rw [h2, List.getElem?_append_left (by rw [wworks_len, List.length_take]; omega), List.take_succ_eq_append_getElem h, wworks_snoc, List.getElem?_append_right (by rw [wworks_len, List.length_take]; omega), wworks_len, List.length_take]
    have : min k gs.length = k := by omega
    rw [this, Nat.sub_self]
    simp only [List.getElem?_cons_zero]
    rw [wat_succ s gs k h]
    rfl
  rw [List.getElem?_eq_getElem hl] at e
  injection e

section
variable {s : Int} {gs : List Int} (hs : -1 ≤ s ∧ s ≤ 2) (hok : wok s gs = true)
include hs hok
theorem strong_stops (k : Nat) (h : k < gs.length) (hg : 20 < gs[k]) : wat s gs (k + 1) = 0 := by
  have h1 := wat_bd s gs (k + 1) hs hok
  rw [wat_succ s gs k h] at h1 ⊢
  generalize wat s gs k = t at *
  generalize gs[k] = x at *
  unfold wstep at *
  repeat' split at h1
  all_goals first | omega | (split <;> omega)
theorem calm_grows (k : Nat) (h : k < gs.length) : wat s gs (k + 1) ≤ 0 ∨ (wat s gs (k + 1) = wat s gs k + 1 ∧ gs[k] ≤ 14) := by
  have h0 := wat_bd s gs k hs hok
  have h1 := wat_bd s gs (k + 1) hs hok
  rw [wat_succ s gs k h] at h1 ⊢
  generalize wat s gs k = t at *
  generalize gs[k] = x at *
  unfold wstep at *
  repeat' split
  all_goals omega
theorem back_to_work (k : Nat) (h : k < gs.length) (h1 : wat s gs (k + 1) = -1) : wat s gs k = -1 ∨ (wat s gs k = 2 ∧ gs[k] ≤ 14) := by
  have h0 := wat_bd s gs k hs hok
  rw [wat_succ s gs k h] at h1
  generalize wat s gs k = t at *
  generalize gs[k] = x at *
  unfold wstep at h1
  repeat' split at h1
  all_goals omega
theorem calm_works (k : Nat) (h : k < gs.length) (hg : gs[k] ≤ 14) : (wat s gs k = -1 ∧ wat s gs (k + 1) = -1) ∨ (wat s gs k = 2 ∧ wat s gs (k + 1) = -1) ∨ (wat s gs k = 0 ∧ wat s gs (k + 1) = 1) ∨ (wat s gs k = 1 ∧ wat s gs (k + 1) = 2) := by
  have h0 := wat_bd s gs k hs hok
  have h1 := wat_bd s gs (k + 1) hs hok
  rw [wat_succ s gs k h] at h1 ⊢
  generalize wat s gs k = t at *
  generalize gs[k] = x at *
  unfold wstep at *
  repeat' split
  all_goals first | omega | (repeat' split at h1; all_goals omega)

/-- after a strong gust nobody works for three gusts -/
theorem law_soon (k j : Nat) (hj : j < gs.length) (hkj : k ≤ j) (hj3 : j < k + 3) (hg : 20 < gs[k]'(by omega)) : (wworks s gs)[j]'(by rw [wworks_len]; exact hj) = false := by
  rw [wworks_at s gs j hj, beq_eq_false_iff_ne]
  have a := strong_stops hs hok k (by omega) hg
  obtain rfl | rfl | rfl : j = k ∨ j = k + 1 ∨ j = k + 2 := by omega
  · omega
  · have b := calm_grows hs hok (k + 1) hj
    have c := back_to_work hs hok (k + 1) hj
    intro h3
    have := c h3
    omega
  · have b1 := calm_grows hs hok (k + 1) (by omega)
    have c1 := back_to_work hs hok (k + 1) (by omega)
    have b := calm_grows hs hok (k + 2) hj
    have c := back_to_work hs hok (k + 2) hj
    have d0 := wat_bd s gs (k + 2) hs hok
    have e : k + 1 + 1 = k + 2 := rfl
    rw [e] at b1 c1
    intro h3
    have := c h3
    omega
/-- who works again has had three calm gusts -/
theorem law_again (k j : Nat) (hk : k < gs.length) (hk0 : 0 < k) (h1 : (wworks s gs)[k]'(by rw [wworks_len]; exact hk) = true) (h0 : (wworks s gs)[k - 1]'(by rw [wworks_len]; omega) = false) (hjk : j ≤ k) (hj : k ≤ j + 2) : gs[j]'(by omega) ≤ 14 := by
  obtain ⟨m, rfl⟩ : ∃ m, k = m + 1 := ⟨k - 1, by omega⟩
  rw [wworks_at s gs _ hk, beq_iff_eq] at h1
  rw [wworks_at s gs _ (by omega), beq_eq_false_iff_ne] at h0
  have e1 : m + 1 - 1 + 1 = m + 1 := by omega
  rw [e1] at h0
  have a := back_to_work hs hok (m + 1) hk h1
  have b := calm_grows hs hok m (by omega)
  obtain rfl | rfl | hj2 : j = m + 1 ∨ j = m ∨ j + 1 = m := by omega
  · omega
  · omega
  · obtain ⟨p, rfl⟩ : ∃ p, m = p + 1 := ⟨m - 1, by omega⟩
    obtain rfl : j = p := by omega
    have c := calm_grows hs hok j (by omega)
    omega
/-- three calm gusts at the end: it works -/
theorem law_calm (hn : 3 ≤ gs.length) (h : ∀ j (hj : j < gs.length), gs.length ≤ j + 3 → gs[j] ≤ 14) : wst s gs = -1 := by
  obtain ⟨m, hm⟩ : ∃ m, gs.length = m + 3 := ⟨gs.length - 3, by omega⟩
  have a := calm_works hs hok m (by omega) (h m (by omega) (by omega))
  have b := calm_works hs hok (m + 1) (by omega) (h (m + 1) (by omega) (by omega))
  have c := calm_works hs hok (m + 2) (by omega) (h (m + 2) (by omega) (by omega))
  have e : wst s gs = wat s gs (m + 2 + 1) := by unfold wat; rw [List.take_of_length_le (by omega)]
  rw [e]
  have e2 : m + 1 + 1 = m + 2 := rfl
  rw [e2] at b
  rcases a with a | a | a | a <;> rcases b with b | b | b | b <;> rcases c with c | c | c | c <;> first | exact c.2 | omega
theorem law_soon' (k j : Nat) (x : Int) (b : Bool) (hkj : k ≤ j) (hj3 : j < k + 3) (hx : gs[k]? = some x) (hb : (wworks s gs)[j]? = some b) (hg : 20 < x) : b = false := by
  obtain ⟨hk, rfl⟩ := List.getElem?_eq_some_iff.1 hx
  obtain ⟨hj, rfl⟩ := List.getElem?_eq_some_iff.1 hb
  exact law_soon hs hok k j (by rwa [wworks_len] at hj) hkj hj3 hg
theorem law_again' (k j : Nat) (y : Int) (hk0 : 0 < k) (h1 : (wworks s gs)[k]? = some true) (h0 : (wworks s gs)[k - 1]? = some false) (hjk : j ≤ k) (hj : k ≤ j + 2) (hy : gs[j]? = some y) : y ≤ 14 := by
  obtain ⟨hk, e1⟩ := List.getElem?_eq_some_iff.1 h1
  obtain ⟨_, e0⟩ := List.getElem?_eq_some_iff.1 h0
  obtain ⟨_, rfl⟩ := List.getElem?_eq_some_iff.1 hy
  exact law_again hs hok k j (by rwa [wworks_len] at hk) hk0 e1 e0 hjk hj
theorem law_calm' (hn : 3 ≤ gs.length) (h : ∀ j y, gs.length ≤ j + 3 → gs[j]? = some y → y ≤ 14) : wst s gs = -1 :=
  law_calm hs hok hn (fun j hj h3 => h j _ h3 (List.getElem?_eq_getElem hj))
end
end Go.Proofs.Ytddhdglmkphjjaa
