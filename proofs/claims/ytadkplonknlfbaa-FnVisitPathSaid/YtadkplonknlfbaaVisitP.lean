/- What a visit does to the state of a box, in plain words. -/
namespace Go.Proofs.Ytadkplonknlfbaa
/-- the state behind one event; -1 if it can't happen -/
def vstep (s e : Int) : Int :=
  if s = 0 ∧ e = 0 then 1 else if s = 1 ∧ e = 1 then 2 else if s = 2 ∧ e = 2 then 1 else if s = 1 ∧ e = 3 then 3 else if s = 2 ∧ e = 4 then 4 else -1
/-- state and how many events happened -/
def vrun : Int × Int → List Int → Int × Int
  | p, [] => p
  | p, e :: es => vrun (if 0 ≤ vstep p.1 e then (vstep p.1 e, p.2 + 1) else p) es
def vnext (p : Int × Int) (e : Int) : Int × Int := if 0 ≤ vstep p.1 e then (vstep p.1 e, p.2 + 1) else p
theorem vrun_snoc (p : Int × Int) (es : List Int) (e : Int) : vrun p (es ++ [e]) = vnext (vrun p es) e := by
  induction es generalizing p with
  | nil => rfl
  | cons a as ih => exact ih _
theorem vstep_lo (s e : Int) : -1 ≤ vstep s e ∧ vstep s e ≤ 4 := by
  unfold vstep
  repeat' split
  all_goals omega
def vin (s : Int) : Bool := decide (0 ≤ s ∧ s ≤ 4)
theorem vnext_bd (p : Int × Int) (e : Int) (h : 0 ≤ p.1 ∧ p.1 ≤ 4) : 0 ≤ (vnext p e).1 ∧ (vnext p e).1 ≤ 4 ∧ p.2 ≤ (vnext p e).2 ∧ (vnext p e).2 ≤ p.2 + 1 := by
  have := vstep_lo p.1 e
  unfold vnext
  split <;> simp <;> omega
theorem vrun_bd (p : Int × Int) (es : List Int) (h : 0 ≤ p.1 ∧ p.1 ≤ 4) : 0 ≤ (vrun p es).1 ∧ (vrun p es).1 ≤ 4 ∧ p.2 ≤ (vrun p es).2 ∧ (vrun p es).2 ≤ p.2 + es.length := by
  induction es generalizing p with
  | nil => simp [vrun]; omega
  | cons e es ih =>
    have h1 := vnext_bd p e h
    have h2 := ih (vnext p e) ⟨h1.1, h1.2.1⟩
    have e0 : vrun p (e :: es) = vrun (vnext p e) es := rfl
    rw [e0]
    simp only [List.length_cons]
    omega
/-- state and how many of the events that happened are the event x -/
def vmnext (x : Int) (p : Int × Int) (e : Int) : Int × Int := if 0 ≤ vstep p.1 e then (vstep p.1 e, if e = x then p.2 + 1 else p.2) else p
def vmany (x : Int) (p : Int × Int) (es : List Int) : Int × Int := es.foldl (vmnext x) p
theorem vmany_snoc (x : Int) (p : Int × Int) (es : List Int) (e : Int) : vmany x p (es ++ [e]) = vmnext x (vmany x p es) e := by simp [vmany]
theorem vmnext_bd (x : Int) (p : Int × Int) (e : Int) (h : 0 ≤ p.1 ∧ p.1 ≤ 4) : 0 ≤ (vmnext x p e).1 ∧ (vmnext x p e).1 ≤ 4 ∧ p.2 ≤ (vmnext x p e).2 ∧ (vmnext x p e).2 ≤ p.2 + 1 := by
  have := vstep_lo p.1 e
  unfold vmnext
  split <;> simp <;> try split
  all_goals omega
theorem vmany_bd (x : Int) (p : Int × Int) (es : List Int) (h : 0 ≤ p.1 ∧ p.1 ≤ 4) : 0 ≤ (vmany x p es).1 ∧ (vmany x p es).1 ≤ 4 ∧ p.2 ≤ (vmany x p es).2 ∧ (vmany x p es).2 ≤ p.2 + es.length := by
  induction es generalizing p with
  | nil => simp [vmany]; omega
  | cons e es ih =>
    have h1 := vmnext_bd x p e h
    have h2 := ih (vmnext x p e) ⟨h1.1, h1.2.1⟩
    have e0 : vmany x p (e :: es) = vmany x (vmnext x p e) es := rfl
    rw [e0]
    simp only [List.length_cons]
    omega
end Go.Proofs.Ytadkplonknlfbaa
