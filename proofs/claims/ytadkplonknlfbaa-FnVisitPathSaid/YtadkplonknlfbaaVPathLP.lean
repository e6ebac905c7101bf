/- No events that lead from a state to another one happen in a lesser number than those of the way; these all happen. -/
import Derived.Test.YtadkplonknlfbaaVPathQ
import Derived.Test.YtadkplonknlfbaaVisit
namespace Go.Proofs.Ytadkplonknlfbaa
theorem vpath_in {s t : Int} {p : List Int} (h : vpath s t = some p) : (0 ≤ s ∧ s ≤ 4) ∧ 0 ≤ t ∧ t ≤ 4 := by
  unfold vpath at h
  split at h
  · assumption
  · cases h
theorem vgo_true : ∀ s : Fin 5, ∀ t : Fin 5, (match vpath (s.1 : Int) (t.1 : Int) with | none => true | some p => decide (vrun ((s.1 : Int), 0) p = ((t.1 : Int), (p.length : Int)))) = true := by decide +kernel
theorem vstart_true : ∀ s : Fin 5, vpath (s.1 : Int) (s.1 : Int) = some [] := by decide +kernel
def vstepOk (s t e : Int) : Bool := decide (vstep s e < 0) || (match vpath (vstep s e) t with | none => true | some p => (match vpath s t with | none => false | some q => decide (q.length ≤ p.length + 1)))
theorem vstep_true : ∀ s : Fin 5, ∀ t : Fin 5, ∀ e : Fin 5, vstepOk (s.1 : Int) (t.1 : Int) (e.1 : Int) = true := by decide +kernel
theorem vgo {s t : Int} {p : List Int} (h : vpath s t = some p) : visitRun s p = (t, (p.length : Int)) := by
  obtain ⟨h1, h2⟩ := vpath_in h
  unfold visitRun
  rw [if_pos h1]
  obtain ⟨f, rfl⟩ := fin_of s h1
  obtain ⟨g, rfl⟩ := fin_of t h2
  have := vgo_true f g
  rw [h] at this
  simpa using this
theorem vstep_ev5 (s e : Int) (h : 0 ≤ vstep s e) : 0 ≤ e ∧ e ≤ 4 := by
  unfold vstep at h
  repeat' split at h
  all_goals omega
theorem vless (s t m : Int) (es : List Int) (hs : 0 ≤ s ∧ s ≤ 4) (ht : 0 ≤ t ∧ t ≤ 4) (h : (vrun (s, m) es).1 = t) : ∃ p, vpath s t = some p ∧ (p.length : Int) + m ≤ (vrun (s, m) es).2 := by
  induction es generalizing s m with
  | nil =>
    have h : s = t := h
    subst h
    obtain ⟨f, rfl⟩ := fin_of s hs
    exact ⟨[], vstart_true f, by show (0 : Int) + m ≤ m; omega⟩
  | cons e es ih =>
    have e0 : vrun (s, m) (e :: es) = vrun (vnext (s, m) e) es := rfl
    rw [e0] at h ⊢
    unfold vnext at h ⊢
    dsimp only at h ⊢
    by_cases hv : 0 ≤ vstep s e
    · rw [if_pos hv] at h ⊢
      have hlo := vstep_lo s e
      obtain ⟨p, hp, hl⟩ := ih (vstep s e) (m + 1) ⟨hv, hlo.2⟩ h
      obtain ⟨f, hf⟩ := fin_of s hs
      obtain ⟨g, hg⟩ := fin_of t ht
      obtain ⟨k, hk⟩ := fin_of e (vstep_ev5 s e hv)
      have := vstep_true f g k
      rw [← hf, ← hg, ← hk] at this
      unfold vstepOk at this
      rw [hp] at this
      cases hq : vpath s t with
      | none =>
        rw [hq] at this
        simp at this
        omega
      | some q =>
        rw [hq] at this
        simp at this
        exact ⟨q, rfl, by omega⟩
    · rw [if_neg hv] at h ⊢
      exact ih s m hs h
theorem vless_all {s t : Int} {es : List Int} (ht : 0 ≤ t) (h : (visitRun s es).1 = t) : ∃ p, vpath s t = some p ∧ (p.length : Int) ≤ (visitRun s es).2 := by
  unfold visitRun at h ⊢
  by_cases hs : 0 ≤ s ∧ s ≤ 4
  · rw [if_pos hs] at h ⊢
    have hb := vrun_bd (s, 0) es hs
    obtain ⟨p, hp, hl⟩ := vless s t 0 es hs ⟨ht, by omega⟩ h
    exact ⟨p, hp, by omega⟩
  · rw [if_neg hs] at h
    dsimp only at h
    omega
end Go.Proofs.Ytadkplonknlfbaa
