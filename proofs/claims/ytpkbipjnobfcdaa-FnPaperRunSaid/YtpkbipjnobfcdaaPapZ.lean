/- Papers, plain laws: a deed that is done, deeds that free a box, deeds that were done, one after the other. -/
import Derived.Test.YtpkbipjnobfcdaaPapQ
import Derived.Test.YtpkbipjnobfcdaaPapT
import Derived.Test.YtpkbipjnobfcdaaPapR
namespace Go.Proofs.Ytpkbipjnobfcdaa
set_option linter.unusedVariables false
/-- what cannot be done changes nothing; what was done cannot be done again -/
theorem paperDo_ways (p : PapV) (k x m : Int) : (papOkV p = false ∧ paperDo p k x m = (⟨[], []⟩, false)) ∨ (papOkV p = true ∧ paperDo p k x m = (p, false)) ∨
    (∃ p', papOkV p = true ∧ paperDo p k x m = (p', true) ∧ papOkV p' = true ∧ ¬ (p'.hs = p.hs ∧ p'.ls = p.ls) ∧ paperDo p' k x m = (p', false)) := by
  cases hok : papOkV p with
  | false => exact .inl ⟨rfl, by simp [paperDo, hok]⟩
  | true =>
    obtain ⟨h1, h2, h3, h4⟩ := papOk_iff.1 hok
    obtain ⟨g0, g7⟩ := marksOf_range h1 x
    have e : paperDo p k x m = pdo p k x m := by simp [paperDo, hok]
    rw [e]
    rcases pdo_ways hok k x m with ⟨e1, _⟩ | ⟨k0, hx, hl, m0, m2, hb, hz, e1, hk⟩ | ⟨k1, hx, hl, m0, m2, hb, e1, hk⟩ | ⟨k2, hx, hl, hz, h12, e1, hk⟩
    · exact .inr (.inl ⟨rfl, e1⟩)
    · have hf := bit_facts g0 g7 m0 m2
      have hm := marksOf_set (x := x) (y := x) (m := marksOf p.hs x + powM m) h1
      rw [if_pos rfl] at hm
      refine .inr (.inr ⟨(⟨setH p.hs x (marksOf p.hs x + powM m), p.ls⟩ : PapV), rfl, e1, hk, fun h => ?_, ?_⟩)
      · have := congrArg (fun l => marksOf l x) h.1
        dsimp only at this
        rw [hm] at this
        have := hf.2.2
        omega
      · have e2 : paperDo (⟨setH p.hs x (marksOf p.hs x + powM m), p.ls⟩ : PapV) k x m = pdo ⟨setH p.hs x (marksOf p.hs x + powM m), p.ls⟩ k x m := by
          unfold paperDo
          rw [if_pos (show papOkV (⟨setH p.hs x (marksOf p.hs x + powM m), p.ls⟩ : PapV) = true from hk)]
        rw [e2]
        unfold pdo
        rw [if_pos (by simp [hx, hl, markOk_iff.2 (.inr ⟨m0, m2⟩)]), if_pos k0]
        dsimp only
        rw [hm, (hf.1 hb).2.2]
        simp
    · have hf := bit_facts g0 g7 m0 m2
      have hm := marksOf_set (x := x) (y := x) (m := marksOf p.hs x - powM m) h1
      rw [if_pos rfl] at hm
      refine .inr (.inr ⟨(⟨setH p.hs x (marksOf p.hs x - powM m), p.ls⟩ : PapV), rfl, e1, hk, fun h => ?_, ?_⟩)
      · have := congrArg (fun l => marksOf l x) h.1
        dsimp only at this
        rw [hm] at this
        have := hf.2.2
        omega
      · have e2 : paperDo (⟨setH p.hs x (marksOf p.hs x - powM m), p.ls⟩ : PapV) k x m = pdo ⟨setH p.hs x (marksOf p.hs x - powM m), p.ls⟩ k x m := by
          unfold paperDo
          rw [if_pos (show papOkV (⟨setH p.hs x (marksOf p.hs x - powM m), p.ls⟩ : PapV) = true from hk)]
        rw [e2]
        unfold pdo
        rw [if_pos (by simp [hx, hl, markOk_iff.2 (.inr ⟨m0, m2⟩)]), if_neg (by omega), if_pos k1]
        dsimp only
        rw [hm, (hf.2.1 hb).2.2.1]
        simp
    · refine .inr (.inr ⟨(⟨p.hs, insL p.ls x⟩ : PapV), rfl, e1, hk, fun h => ?_, ?_⟩)
      · have := congrArg List.length h.2
        dsimp only at this
        rw [insL_len] at this
        omega
      · have e2 : paperDo (⟨p.hs, insL p.ls x⟩ : PapV) k x m = pdo ⟨p.hs, insL p.ls x⟩ k x m := by
          unfold paperDo
          rw [if_pos (show papOkV (⟨p.hs, insL p.ls x⟩ : PapV) = true from hk)]
        rw [e2]
        unfold pdo
        have : hasI (insL p.ls x) x = true := hasI_iff2.2 (insL_mem.2 (.inl rfl))
        rw [if_neg (by simp [this])]
/-- one mark taken away -/
theorem free_one {p : PapV} (h : papOkV p = true) {x m : Int} (m0 : 0 ≤ m) (m2 : m ≤ 2) (hb : bitM (marksOf p.hs x) m = true) :
    pdo p 1 x m = (⟨setH p.hs x (marksOf p.hs x - powM m), p.ls⟩, true) ∧ papOkV ⟨setH p.hs x (marksOf p.hs x - powM m), p.ls⟩ = true := by
  obtain ⟨h1, h2, h3, h4⟩ := papOk_iff.1 h
  have hne : marksOf p.hs x ≠ 0 := fun e => by rw [e, bit_zero] at hb; cases hb
  obtain ⟨a, ha, hax, _⟩ := marksOf_mem hne
  obtain ⟨a1, a2, a3, a4⟩ := (holdGo_iff.1 h1).1 a ha
  rw [hax] at a1 a3
  rcases pdo_ways h 1 x m with ⟨_, e⟩ | ⟨e, _⟩ | ⟨_, _, _, _, _, _, e, hk⟩ | ⟨e, _⟩
  · exact absurd ⟨idI_iff2.2 a1, hasI_no2.2 a3, .inr (.inl ⟨rfl, ⟨m0, m2⟩, hb⟩)⟩ e
  · omega
  · exact ⟨e, hk⟩
  · omega
def clr (g : Int) (k : Nat) : Int := if k = 0 then g else if k = 1 then g - g % 2 else if k = 2 then g - g % 4 else g - g % 8
theorem clr_facts {g : Int} (h0 : 0 ≤ g) (h7 : g ≤ 7) {k : Nat} (hk : k < 3) : bitM (clr g k) (k : Int) = bitM g (k : Int) ∧ (bitM g (k : Int) = true → clr g k - powM (k : Int) = clr g (k + 1)) ∧ (bitM g (k : Int) = false → clr g k = clr g (k + 1)) := by
  have hx : g = 0 ∨ g = 1 ∨ g = 2 ∨ g = 3 ∨ g = 4 ∨ g = 5 ∨ g = 6 ∨ g = 7 := by omega
  have hkk : k = 0 ∨ k = 1 ∨ k = 2 := by omega
  rcases hkk with rfl | rfl | rfl <;> rcases hx with rfl | rfl | rfl | rfl | rfl | rfl | rfl | rfl <;> decide
/-- all marks below k taken away -/
theorem free_run {p : PapV} (h : papOkV p = true) (x : Int) : ∀ k : Nat, k ≤ 3 → ∃ p', prun p ((freeTo (marksOf p.hs x) x k).map deedV) = (p', List.replicate (freeTo (marksOf p.hs x) x k).length true) ∧ papOkV p' = true ∧ p'.ls = p.ls ∧
    marksOf p'.hs x = clr (marksOf p.hs x) k ∧ (∀ y, y ≠ x → marksOf p'.hs y = marksOf p.hs y) ∧ p'.hs.length + (if marksOf p.hs x = 0 then 0 else 1) = p.hs.length + (if clr (marksOf p.hs x) k = 0 then 0 else 1) := by
  intro k
  have hr := marksOf_range (papOk_iff.1 h).1 x
  induction k with
  | zero => exact fun _ => ⟨p, rfl, h, rfl, rfl, fun _ _ => rfl, rfl⟩
  | succ k ih =>
    intro hk
    obtain ⟨p', e1, e2, e3, e4, e5, e6⟩ := ih (by omega)
    obtain ⟨c1, c2, c3⟩ := clr_facts hr.1 hr.2 (show k < 3 by omega)
    cases hb : bitM (marksOf p.hs x) (k : Int) with
    | false =>
      rw [freeTo_no hb, ← c3 hb]
      exact ⟨p', e1, e2, e3, e4, e5, e6⟩
    | true =>
      rw [freeTo_yes hb, List.map_append, List.map_cons, List.map_nil, prun_snoc, e1]
      have hb' : bitM (marksOf p'.hs x) (k : Int) = true := by rw [e4, c1]; exact hb
      obtain ⟨f1, f2⟩ := free_one e2 (show (0 : Int) ≤ (k : Int) by omega) (by omega) hb'
      have hh := (papOk_iff.1 e2).1
      have hl := setH_len (x := x) (m := marksOf p'.hs x - powM (k : Int)) hh
      have hs : ∀ y, marksOf (setH p'.hs x (marksOf p'.hs x - powM (k : Int))) y = if y = x then marksOf p'.hs x - powM (k : Int) else marksOf p'.hs y := fun y => marksOf_set hh
      have hcl : marksOf p'.hs x - powM (k : Int) = clr (marksOf p.hs x) (k + 1) := by rw [e4]; exact c2 hb
      have hne : marksOf p'.hs x ≠ 0 := fun e => by rw [e, bit_zero] at hb'; cases hb'
      have f1' : pdo p' (deedV ⟨1, x, (k : Int)⟩).k (deedV ⟨1, x, (k : Int)⟩).x (deedV ⟨1, x, (k : Int)⟩).m = (⟨setH p'.hs x (marksOf p'.hs x - powM (k : Int)), p'.ls⟩, true) := f1
      rw [f1']
      refine ⟨_, ?_, f2, e3, ?_, fun y hy => ?_, ?_⟩
      · rw [List.length_append, List.length_cons, List.length_nil, List.replicate_succ' ]
      · dsimp only
        rw [hs x, if_pos rfl, hcl]
      · dsimp only
        rw [hs y, if_neg hy]
        exact e5 y hy
      · dsimp only
        rw [if_neg hne, hcl] at hl
        have hne2 : clr (marksOf p.hs x) k ≠ 0 := by rw [← e4]; exact hne
        rw [if_neg hne2] at e6
        rw [hcl]
        omega
theorem clr_all {g : Int} (h0 : 0 ≤ g) (h7 : g ≤ 7) : clr g 3 = 0 := by
  have hx : g = 0 ∨ g = 1 ∨ g = 2 ∨ g = 3 ∨ g = 4 ∨ g = 5 ∨ g = 6 ∨ g = 7 := by omega
  rcases hx with rfl | rfl | rfl | rfl | rfl | rfl | rfl | rfl <;> decide
/-- a box that is held no more can leave, if there is room -/
theorem leave_iff {p : PapV} (h : papOkV p = true) {x m : Int} (hx : 1 ≤ x ∧ x ≤ 999) (hm : marksOf p.hs x = 0) : (paperDo p 2 x m).2 = (!hasI p.ls x && decide (p.ls.length < 12)) := by
  have e : paperDo p 2 x m = pdo p 2 x m := by simp [paperDo, h]
  rw [e]
  unfold pdo
  have hid := idI_iff2.2 hx
  cases hl : hasI p.ls x with
  | true => simp
  | false =>
    rw [if_pos (by simp [hid, markOk]), if_neg (by decide), if_neg (by decide), if_pos rfl]
    by_cases h12 : p.ls.length < 12
    · simp [hm, h12]
    · simp [h12]
end Go.Proofs.Ytpkbipjnobfcdaa
