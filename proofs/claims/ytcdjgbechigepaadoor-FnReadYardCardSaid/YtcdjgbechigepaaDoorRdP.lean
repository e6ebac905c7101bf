/- Reading texts of yards, in plain words: as the program does it. -/
import Derived.Test.YtcdjgbechigepaaDoorAtoi
import Derived.Test.YtcdjgbechigepaaDoorSpl
import Derived.Test.YtcdjgbechigepaaDoorYtP
namespace Go.Proofs.YtcdjgbechigepaaDoor
open Go
set_option linter.unusedVariables false
def numStep (o : Option (List Int)) (x : List UInt8) : Option (List Int) :=
  match o with
  | none => none
  | some zs => match atoiO x with
    | none => none
    | some v => if zs.length = 5 then none else some (zs ++ [v])
def rdNums (ws : List (List UInt8)) : Option (List Int) := ws.foldl numStep (some [])
def rdStack (x : List UInt8) : Option (List Int) := if x = [45] then some [] else rdNums (cutB 44 x)
def rowStep (o : Option (List (List Int))) (x : List UInt8) : Option (List (List Int)) :=
  match o with
  | none => none
  | some rows => if rows.length = 5 then none else match rdStack x with
    | none => none
    | some st => some (rows ++ [st])
def rdRows (ws : List (List UInt8)) : Option (List (List Int)) := ws.foldl rowStep (some [])
theorem numStep_none (ws : List (List UInt8)) : ws.foldl numStep none = none := by
  induction ws with
  | nil => rfl
  | cons a r ih => exact ih
theorem rowStep_none (ws : List (List UInt8)) : ws.foldl rowStep none = none := by
  induction ws with
  | nil => rfl
  | cons a r ih => exact ih
theorem rdNums_snoc (ws : List (List UInt8)) (x : List UInt8) : rdNums (ws ++ [x]) = numStep (rdNums ws) x := by simp [rdNums]
theorem rdRows_snoc (ws : List (List UInt8)) (x : List UInt8) : rdRows (ws ++ [x]) = rowStep (rdRows ws) x := by simp [rdRows]
theorem rdNums_pre {pre xs : List (List UInt8)} (h : pre <+: xs) (hn : rdNums pre = none) : rdNums xs = none := by
  obtain ⟨r, rfl⟩ := h
  unfold rdNums at hn ⊢
  rw [List.foldl_append, hn, numStep_none]
theorem rdRows_pre {pre xs : List (List UInt8)} (h : pre <+: xs) (hn : rdRows pre = none) : rdRows xs = none := by
  obtain ⟨r, rfl⟩ := h
  unfold rdRows at hn ⊢
  rw [List.foldl_append, hn, rowStep_none]
theorem rdNums_len {ws : List (List UInt8)} {zs : List Int} (h : rdNums ws = some zs) : zs.length ≤ 5 := by
  have gen : ∀ (ws : List (List UInt8)) (o : Option (List Int)), (∀ zs, o = some zs → zs.length ≤ 5) → ∀ zs, ws.foldl numStep o = some zs → zs.length ≤ 5 := by
    intro ws
    induction ws with
    | nil => exact fun o ho zs h => ho zs h
    | cons a r ih =>
      refine fun o ho zs h => ih (numStep o a) (fun ys hy => ?_) zs h
      cases o with
      | none => cases hy
      | some z =>
        unfold numStep at hy
        cases ha : atoiO a with
        | none => simp [ha] at hy
        | some v =>
          simp only [ha] at hy
          split at hy
          · cases hy
          · cases hy
            have := ho z rfl
            simp
            omega
  exact gen ws (some []) (fun zs e => by cases e; simp) zs h
theorem rdRows_len {ws : List (List UInt8)} {rows : List (List Int)} (h : rdRows ws = some rows) : rows.length ≤ 5 := by
  have gen : ∀ (ws : List (List UInt8)) (o : Option (List (List Int))), (∀ zs, o = some zs → zs.length ≤ 5) → ∀ zs, ws.foldl rowStep o = some zs → zs.length ≤ 5 := by
    intro ws
    induction ws with
    | nil => exact fun o ho zs h => ho zs h
    | cons a r ih =>
      refine fun o ho zs h => ih (rowStep o a) (fun ys hy => ?_) zs h
      cases o with
      | none => cases hy
      | some z =>
        by_cases h5 : z.length = 5
        · simp [rowStep, h5] at hy
        · cases ha : rdStack a with
          | none => simp [rowStep, ha] at hy
          | some v =>
            simp only [rowStep, ha, if_neg h5] at hy
            cases hy
            have := ho z rfl
            simp
            omega
  exact gen ws (some []) (fun zs e => by cases e; simp) rows h
/-- the pieces of a text are no longer than the text -/
theorem cutB_len {c : UInt8} : ∀ {s x : List UInt8}, x ∈ cutB c s → x.length ≤ s.length
  | [], x, h => by simp [cutB] at h; subst h; exact Nat.le_refl _
  | b :: r, x, h => by
    unfold cutB at h
    split at h
    · rcases List.mem_cons.1 h with rfl | h
      · simp
      · have := cutB_len h
        simp
        omega
    · have hh : ∀ y ∈ cutB c r, y.length ≤ r.length := fun y hy => cutB_len hy
      rw [← cutB_head c r] at hh
      rcases List.mem_cons.1 h with rfl | h
      · have := hh _ (List.mem_cons_self ..)
        rw [List.length_cons, List.length_cons]
        omega
      · have := hh x (List.mem_cons_of_mem _ h)
        simp
        omega
end Go.Proofs.YtcdjgbechigepaaDoor
