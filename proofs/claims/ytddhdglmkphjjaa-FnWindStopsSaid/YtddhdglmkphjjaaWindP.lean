/- What the wind does to a crane, in plain words. -/
namespace Go.Proofs.Ytddhdglmkphjjaa
/-- the state behind one gust; -2 for other arguments -/
def wstep (s g : Int) : Int :=
  if ¬ (-1 ≤ s ∧ s ≤ 2) ∨ ¬ (0 ≤ g ∧ g ≤ 60) then -2 else if 20 < g then 0 else if s = -1 then -1 else if 14 < g then 0 else if s = 2 then -1 else s + 1
theorem wstep_lo (s g : Int) : -2 ≤ wstep s g ∧ wstep s g ≤ 2 := by
  unfold wstep
  repeat' split
  all_goals omega
end Go.Proofs.Ytddhdglmkphjjaa
