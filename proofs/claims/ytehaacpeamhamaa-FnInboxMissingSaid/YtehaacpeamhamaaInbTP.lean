/- What an inbox does with a message, in plain words. -/
import Derived.Test.YtehaacpeamhamaaInbMP
namespace Go.Proofs.Ytehaacpeamhamaa
/-- a message at its place -/
def holdM : List MessageV → MessageV → List MessageV
  | [], m => [m]
  | x :: r, m => if x.f0 < m.f0 then x :: holdM r m else if x.f0 = m.f0 then x :: r else m :: x :: r
/-- what follows without a gap: the next number, what is left, the ids -/
def runM (next : Int) : List MessageV → Int × List MessageV × List Int
  | [] => (next, [], [])
  | x :: r => if x.f0 = next then ((runM (next + 1) r).1, (runM (next + 1) r).2.1, x.f1 :: (runM (next + 1) r).2.2) else (next, x :: r, [])
structure TakeV where
  next : Int
  held : List MessageV
  ids : List Int
def takeI (next : Int) (held : List MessageV) (m : MessageV) : TakeV :=
  if inbOk next held = false then ⟨0, [], []⟩
  else if ¬ (1 ≤ m.f1 ∧ m.f1 ≤ 999) ∨ ¬ (next ≤ m.f0 ∧ m.f0 ≤ next + 6) then ⟨next, held, []⟩
  else if next < m.f0 then ⟨next, holdM held m, []⟩
  else if 999 < (runM (next + 1) held).1 then ⟨next, held, []⟩
  else ⟨(runM (next + 1) held).1, (runM (next + 1) held).2.1, m.f1 :: (runM (next + 1) held).2.2⟩
theorem takeI_bad {next : Int} {held : List MessageV} {m : MessageV} (h : inbOk next held = false) : takeI next held m = ⟨0, [], []⟩ := by simp [takeI, h]
theorem takeI_out {next : Int} {held : List MessageV} {m : MessageV} (h : inbOk next held = true) (h1 : ¬ (1 ≤ m.f1 ∧ m.f1 ≤ 999) ∨ ¬ (next ≤ m.f0 ∧ m.f0 ≤ next + 6)) : takeI next held m = ⟨next, held, []⟩ := by
  rw [takeI, if_neg (by simp [h]), if_pos h1]
theorem takeI_hold {next : Int} {held : List MessageV} {m : MessageV} (h : inbOk next held = true) (h1 : 1 ≤ m.f1 ∧ m.f1 ≤ 999) (h2 : next < m.f0) (h3 : m.f0 ≤ next + 6) : takeI next held m = ⟨next, holdM held m, []⟩ := by
  rw [takeI, if_neg (by simp [h]), if_neg (by omega), if_pos h2]
theorem takeI_far {next : Int} {held : List MessageV} {m : MessageV} (h : inbOk next held = true) (h1 : 1 ≤ m.f1 ∧ m.f1 ≤ 999) (h2 : m.f0 = next) (h3 : 999 < (runM (next + 1) held).1) : takeI next held m = ⟨next, held, []⟩ := by
  rw [takeI, if_neg (by simp [h]), if_neg (by omega), if_neg (by omega), if_pos h3]
theorem takeI_run {next : Int} {held : List MessageV} {m : MessageV} (h : inbOk next held = true) (h1 : 1 ≤ m.f1 ∧ m.f1 ≤ 999) (h2 : m.f0 = next) (h3 : ¬ 999 < (runM (next + 1) held).1) : takeI next held m = ⟨(runM (next + 1) held).1, (runM (next + 1) held).2.1, m.f1 :: (runM (next + 1) held).2.2⟩ := by
  rw [takeI, if_neg (by simp [h]), if_neg (by omega), if_neg (by omega), if_neg h3]
/-- a held list of a valid inbox has at most 6 messages -/
theorem inbGo_len {next last : Int} {held : List MessageV} (h : inbGo next last held = true) (hl : last ≤ next + 6) : (held.length : Int) ≤ next + 6 - last := by
  induction held generalizing last with
  | nil => simp; omega
  | cons m r ih =>
    obtain ⟨h1, h2, _, _, h3⟩ := inbGo_cons h
    have := ih h3 h2
    simp only [List.length_cons]
    omega
theorem inbOk_len {next : Int} {held : List MessageV} (h : inbOk next held = true) : held.length ≤ 6 := by
  obtain ⟨_, _, h3⟩ := inbOk_bounds h
  have := inbGo_len h3 (by omega)
  omega
theorem runM_bounds (next : Int) (held : List MessageV) : next ≤ (runM next held).1 ∧ (runM next held).1 ≤ next + held.length ∧ (runM next held).2.1.length ≤ held.length ∧ (runM next held).2.2.length ≤ held.length := by
  induction held generalizing next with
  | nil => simp [runM]
  | cons x r ih =>
    have := ih (next + 1)
    by_cases h : x.f0 = next
    · simp only [runM, if_pos h, List.length_cons]
      omega
    · simp only [runM, if_neg h, List.length_cons, List.length_nil]
      omega
theorem holdM_len (held : List MessageV) (m : MessageV) : (holdM held m).length ≤ held.length + 1 := by
  induction held with
  | nil => simp [holdM]
  | cons x r ih =>
    unfold holdM
    split
    · simp only [List.length_cons]; omega
    · split <;> simp
/-- a step of the run, at the head -/
theorem runM_hit {next : Int} {x : MessageV} {r : List MessageV} (h : x.f0 = next) : runM next (x :: r) = ((runM (next + 1) r).1, (runM (next + 1) r).2.1, x.f1 :: (runM (next + 1) r).2.2) := by rw [runM, if_pos h]
theorem runM_miss {next : Int} {x : MessageV} {r : List MessageV} (h : x.f0 ≠ next) : runM next (x :: r) = (next, x :: r, []) := by rw [runM, if_neg h]
end Go.Proofs.Ytehaacpeamhamaa
