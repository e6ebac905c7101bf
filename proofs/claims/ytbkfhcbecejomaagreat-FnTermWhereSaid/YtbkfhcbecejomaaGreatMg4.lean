/- Several texts of the proof in one; each says at its head what it proves; no condition. -/
import Derived.Test.YtbkfhcbecejomaaGreatMg2
import Derived.Test.YtbkfhcbecejomaaGreatMg3
import Derived.Shelf.SlIterI.Sorted
import Derived.Shelf.SortM.Plain
import Derived.Shelf.SortM.SortNone
import Derived.Ground.GgzProg
import Derived.Ground.SlgmProg
import Derived.Test.YtbkfhcbecejomaaGreatMg1
import Derived.Test.YtbkfhcbecejomaaGreatProg
import Derived.Lib.AppendZeros
import Derived.Maps.OwnSet
import Derived.Maps.OwnOps
import Derived.Maps.Views
import Derived.Maps.Keyed
import Derived.Carry
section
/- Papers, in plain words. -/
namespace Go.Proofs.YtbkfhcbecejomaaGreat
set_option linter.unusedVariables false
/-- the marks that the first one with the id has -/
def marksOf : List HoldV → Int → Int
  | [], _ => 0
  | h :: r, x => if h.f0 = x then h.f1 else marksOf r x
def holdGo (left : List Int) (last : Int) : List HoldV → Bool
  | [] => true
  | h :: r => (idI h.f0 && ((decide (1 ≤ h.f1) && decide (h.f1 ≤ 7)) && (decide (last < h.f0) && !hasI left h.f0))) && holdGo left h.f0 r
def leftGo (last : Int) : List Int → Bool
  | [] => true
  | x :: r => (idI x && decide (last < x)) && leftGo x r
def papOk (hs : List HoldV) (ls : List Int) : Bool := (holdGo ls 0 hs && leftGo 0 ls) && (decide ((hs.length : Int) ≤ 12) && decide ((ls.length : Int) ≤ 12))
/-- 2 to the power of a mark -/
def powM (m : Int) : Int := if m = 0 then 1 else if m = 1 then 2 else 4
/-- whether a mark is among marks -/
def bitM (x m : Int) : Bool := decide (x / powM m % 2 = 1)
/-- holds in which an id has marks -/
def setH : List HoldV → Int → Int → List HoldV
  | [], x, m => if m = 0 then [] else [⟨x, m⟩]
  | h :: r, x, m => if h.f0 < x then h :: setH r x m else if h.f0 = x then (if m = 0 then r else ⟨x, m⟩ :: r) else (if m = 0 then h :: r else ⟨x, m⟩ :: h :: r)
structure PapV where
  hs : List HoldV
  ls : List Int
def markOk (k m : Int) : Bool := decide (k = 2) || (decide (0 ≤ m) && decide (m ≤ 2))
/-- a deed: papers and whether it was done -/
def pdo (p : PapV) (k x m : Int) : PapV × Bool :=
  if (idI x && !hasI p.ls x) && markOk k m then
    if k = 0 then
      if bitM (marksOf p.hs x) m || (decide (marksOf p.hs x = 0) && decide (p.hs.length = 12)) then (p, false) else (⟨setH p.hs x (marksOf p.hs x + powM m), p.ls⟩, true)
    else if k = 1 then
      if bitM (marksOf p.hs x) m then (⟨setH p.hs x (marksOf p.hs x - powM m), p.ls⟩, true) else (p, false)
    else if k = 2 then
      if decide (marksOf p.hs x = 0) && decide (p.ls.length < 12) then (⟨p.hs, insL p.ls x⟩, true) else (p, false)
    else (p, false)
  else (p, false)
def papOkV (p : PapV) : Bool := papOk p.hs p.ls
/-- PaperDo -/
def paperDo (p : PapV) (k x m : Int) : PapV × Bool := if papOkV p then pdo p k x m else (⟨[], []⟩, false)
theorem setH_zero {hs : List HoldV} {ls : List Int} {last x : Int} (h : holdGo ls last hs = true) (hx : marksOf hs x = 0) : setH hs x 0 = hs := by
  induction hs generalizing last with
  | nil => rfl
  | cons a r ih =>
    simp only [holdGo, Bool.and_eq_true, decide_eq_true_eq] at h
    obtain ⟨⟨h1, ⟨h2, h3⟩, h4, h5⟩, h6⟩ := h
    unfold marksOf at hx
    by_cases hax : a.f0 = x
    · rw [if_pos hax] at hx; omega
    · rw [if_neg hax] at hx
      unfold setH
      by_cases hlt : a.f0 < x
      · rw [if_pos hlt, ih h6 hx]
      · rw [if_neg hlt, if_neg hax, if_pos rfl]
/-- valid holds are known by their parts -/
theorem holdGo_iff {ls : List Int} {last : Int} {hs : List HoldV} : holdGo ls last hs = true ↔
    (∀ h ∈ hs, (1 ≤ h.f0 ∧ h.f0 ≤ 999) ∧ (1 ≤ h.f1 ∧ h.f1 ≤ 7) ∧ h.f0 ∉ ls ∧ last < h.f0) ∧ hs.Pairwise (fun a b => a.f0 < b.f0) := by
  induction hs generalizing last with
  | nil => simp [holdGo]
  | cons a r ih =>
    simp only [holdGo, Bool.and_eq_true, decide_eq_true_eq, ih, idI, hasI, Bool.not_eq_true', List.mem_cons, List.pairwise_cons, List.contains_eq_mem, decide_eq_false_iff_not]
    constructor
    · rintro ⟨⟨h1, h2, h3, h4⟩, h5, h6⟩
      refine ⟨?_, fun b hb => (h5 b hb).2.2.2, h6⟩
      rintro b (rfl | hb)
      · exact ⟨h1, h2, h4, h3⟩
      · have := h5 b hb
        exact ⟨this.1, this.2.1, this.2.2.1, by omega⟩
    · rintro ⟨h1, h2, h3⟩
      have ha := h1 a (.inl rfl)
      refine ⟨⟨ha.1, ha.2.1, ha.2.2.2, ha.2.2.1⟩, fun b hb => ?_, h3⟩
      have := h1 b (.inr hb)
      exact ⟨this.1, this.2.1, this.2.2.1, h2 b hb⟩
theorem leftGo_iff {last : Int} {ls : List Int} : leftGo last ls = true ↔ (∀ x ∈ ls, (1 ≤ x ∧ x ≤ 999) ∧ last < x) ∧ ls.Pairwise (· < ·) := by
  induction ls generalizing last with
  | nil => simp [leftGo]
  | cons a r ih =>
    simp only [leftGo, Bool.and_eq_true, decide_eq_true_eq, ih, idI, List.mem_cons, List.pairwise_cons]
    constructor
    · rintro ⟨⟨h1, h2⟩, h3, h4⟩
      refine ⟨?_, fun b hb => (h3 b hb).2, h4⟩
      rintro b (rfl | hb)
      · exact ⟨h1, h2⟩
      · have := h3 b hb
        exact ⟨this.1, by omega⟩
    · rintro ⟨h1, h2, h3⟩
      have ha := h1 a (.inl rfl)
      exact ⟨⟨ha.1, ha.2⟩, fun b hb => ⟨(h1 b (.inr hb)).1, h2 b hb⟩, h3⟩
theorem marksOf_mem {hs : List HoldV} {x : Int} (h : marksOf hs x ≠ 0) : ∃ a ∈ hs, a.f0 = x ∧ a.f1 = marksOf hs x := by
  induction hs with
  | nil => exact absurd rfl h
  | cons a r ih =>
    unfold marksOf at h ⊢
    by_cases hax : a.f0 = x
    · rw [if_pos hax]
      exact ⟨a, List.mem_cons_self .., hax, rfl⟩
    · rw [if_neg hax] at h ⊢
      obtain ⟨b, h1, h2, h3⟩ := ih h
      exact ⟨b, List.mem_cons_of_mem _ h1, h2, h3⟩
theorem marksOf_eq {ls : List Int} {last x : Int} {hs : List HoldV} (h : holdGo ls last hs = true) {a : HoldV} (ha : a ∈ hs) (hx : a.f0 = x) : marksOf hs x = a.f1 := by
  induction hs generalizing last with
  | nil => cases ha
  | cons b r ih =>
    have hp := (holdGo_iff.1 h).2
    simp only [holdGo, Bool.and_eq_true, decide_eq_true_eq] at h
    unfold marksOf
    rcases List.mem_cons.1 ha with rfl | hm
    · rw [if_pos hx]
    · have := (List.pairwise_cons.1 hp).1 a hm
      rw [if_neg (by omega)]
      exact ih h.2 hm
theorem marksOf_range {ls : List Int} {last : Int} {hs : List HoldV} (h : holdGo ls last hs = true) (x : Int) : 0 ≤ marksOf hs x ∧ marksOf hs x ≤ 7 := by
  by_cases hz : marksOf hs x = 0
  · omega
  · obtain ⟨a, ha, _, e⟩ := marksOf_mem hz
    have := ((holdGo_iff.1 h).1 a ha).2.1
    omega
/-- what is in holds in which an id has other marks -/
theorem setH_mem {hs : List HoldV} {x m : Int} {b : HoldV} (hp : hs.Pairwise (fun a b => a.f0 < b.f0)) : b ∈ setH hs x m ↔ (b ∈ hs ∧ b.f0 ≠ x) ∨ (m ≠ 0 ∧ b = ⟨x, m⟩) := by
  induction hs with
  | nil => by_cases hm : m = 0 <;> simp [setH, hm]
  | cons a r ih =>
    have hr := (List.pairwise_cons.1 hp).2
    have ha := (List.pairwise_cons.1 hp).1
    unfold setH
    by_cases hlt : a.f0 < x
    · rw [if_pos hlt, List.mem_cons, ih hr, List.mem_cons]
      constructor
      · rintro (rfl | ⟨h1, h2⟩ | h)
        · exact .inl ⟨.inl rfl, by omega⟩
        · exact .inl ⟨.inr h1, h2⟩
        · exact .inr h
      · rintro (⟨rfl | h1, h2⟩ | h)
        · exact .inl rfl
        · exact .inr (.inl ⟨h1, h2⟩)
        · exact .inr (.inr h)
    · rw [if_neg hlt]
      have hgt : ∀ c ∈ r, c.f0 ≠ x := fun c hc => by have := ha c hc; omega
      by_cases hax : a.f0 = x
      · rw [if_pos hax]
        by_cases hm : m = 0
        · rw [if_pos hm, List.mem_cons]
          constructor
          · intro h; exact .inl ⟨.inr h, hgt b h⟩
          · rintro (⟨rfl | h1, h2⟩ | ⟨h, _⟩)
            · exact absurd hax h2
            · exact h1
            · exact absurd hm h
        · rw [if_neg hm, List.mem_cons, List.mem_cons]
          constructor
          · rintro (rfl | h)
            · exact .inr ⟨hm, rfl⟩
            · exact .inl ⟨.inr h, hgt b h⟩
          · rintro (⟨rfl | h1, h2⟩ | ⟨_, h⟩)
            · exact absurd hax h2
            · exact .inr h1
            · exact .inl h
      · rw [if_neg hax]
        have hall : ∀ c ∈ a :: r, c.f0 ≠ x := fun c hc => by
          rcases List.mem_cons.1 hc with rfl | hc
          · exact hax
          · exact hgt c hc
        by_cases hm : m = 0
        · rw [if_pos hm]
          constructor
          · intro h; exact .inl ⟨h, hall b h⟩
          · rintro (⟨h, _⟩ | ⟨h, _⟩)
            · exact h
            · exact absurd hm h
        · rw [if_neg hm]
          constructor
          · intro h
            rcases List.mem_cons.1 h with rfl | h
            · exact .inr ⟨hm, rfl⟩
            · exact .inl ⟨h, hall b h⟩
          · rintro (⟨h, _⟩ | ⟨_, rfl⟩)
            · exact List.mem_cons_of_mem _ h
            · exact List.mem_cons_self ..
theorem setH_asc {hs : List HoldV} {x m : Int} (hp : hs.Pairwise (fun a b => a.f0 < b.f0)) : (setH hs x m).Pairwise (fun a b => a.f0 < b.f0) := by
  induction hs with
  | nil => by_cases hm : m = 0 <;> simp [setH, hm]
  | cons a r ih =>
    have hr := (List.pairwise_cons.1 hp).2
    have ha := (List.pairwise_cons.1 hp).1
    unfold setH
    by_cases hlt : a.f0 < x
    · rw [if_pos hlt, List.pairwise_cons]
      refine ⟨fun b hb => ?_, ih hr⟩
      rcases (setH_mem hr).1 hb with ⟨h, _⟩ | ⟨_, rfl⟩
      · exact ha b h
      · exact hlt
    · rw [if_neg hlt]
      by_cases hax : a.f0 = x
      · rw [if_pos hax]
        by_cases hm : m = 0
        · rw [if_pos hm]; exact hr
        · rw [if_neg hm, List.pairwise_cons]
          exact ⟨fun b hb => by have := ha b hb; show x < b.f0; omega, hr⟩
      · rw [if_neg hax]
        by_cases hm : m = 0
        · rw [if_pos hm]; exact hp
        · rw [if_neg hm, List.pairwise_cons]
          refine ⟨fun b hb => ?_, hp⟩
          rcases List.mem_cons.1 hb with rfl | hb
          · show x < b.f0; omega
          · have := ha b hb; show x < b.f0; omega
theorem setH_len {ls : List Int} {last x m : Int} {hs : List HoldV} (h : holdGo ls last hs = true) : (setH hs x m).length + (if marksOf hs x = 0 then 0 else 1) = hs.length + (if m = 0 then 0 else 1) := by
  induction hs generalizing last with
  | nil => by_cases hm : m = 0 <;> simp [setH, marksOf, hm]
  | cons a r ih =>
    have hp := (holdGo_iff.1 h).2
    have hh := (holdGo_iff.1 h).1 a (List.mem_cons_self ..)
    have h' := h
    simp only [holdGo, Bool.and_eq_true, decide_eq_true_eq] at h'
    have ha := (List.pairwise_cons.1 hp).1
    unfold setH
    by_cases hlt : a.f0 < x
    · have e : marksOf (a :: r) x = marksOf r x := by rw [marksOf, if_neg (by omega)]
      rw [if_pos hlt, e, List.length_cons, List.length_cons]
      have := ih h'.2
      omega
    · rw [if_neg hlt]
      by_cases hax : a.f0 = x
      · have e : marksOf (a :: r) x = a.f1 := by rw [marksOf, if_pos hax]
        have h0 : a.f1 ≠ 0 := by omega
        rw [if_pos hax, e, if_neg h0]
        by_cases hm : m = 0 <;> simp [hm]
      · have e : marksOf (a :: r) x = 0 := by
          by_cases hz : marksOf (a :: r) x = 0
          · exact hz
          · obtain ⟨b, hb, hbx, _⟩ := marksOf_mem hz
            rcases List.mem_cons.1 hb with rfl | hb
            · exact absurd hbx hax
            · have := ha b hb; omega
        rw [if_neg hax, e, if_pos rfl]
        by_cases hm : m = 0 <;> simp [hm]
/-- marks that are set are valid just if the id is one, has not left, and the marks are 1 to 7 (or none) -/
theorem setH_ok {ls : List Int} {x m : Int} {hs : List HoldV} (h : holdGo ls 0 hs = true) : holdGo ls 0 (setH hs x m) = true ↔ (m = 0 ∨ ((1 ≤ x ∧ x ≤ 999) ∧ x ∉ ls ∧ 1 ≤ m ∧ m ≤ 7)) := by
  obtain ⟨h1, h2⟩ := holdGo_iff.1 h
  rw [holdGo_iff]
  constructor
  · rintro ⟨h3, _⟩
    by_cases hm : m = 0
    · exact .inl hm
    · have := h3 ⟨x, m⟩ ((setH_mem h2).2 (.inr ⟨hm, rfl⟩))
      exact .inr ⟨this.1, this.2.2.1, this.2.1⟩
  · intro h3
    refine ⟨fun b hb => ?_, setH_asc h2⟩
    rcases (setH_mem h2).1 hb with ⟨hb, _⟩ | ⟨hm, rfl⟩
    · exact h1 b hb
    · rcases h3 with h3 | ⟨h3, h4, h5⟩
      · exact absurd h3 hm
      · exact ⟨h3, h5, h4, by show 0 < x; omega⟩
theorem marksOf_set {ls : List Int} {last x y m : Int} {hs : List HoldV} (h : holdGo ls last hs = true) : marksOf (setH hs x m) y = if y = x then m else marksOf hs y := by
  induction hs generalizing last with
  | nil =>
    by_cases hm : m = 0
    · by_cases hy : y = x <;> simp [setH, hm, marksOf]
    · by_cases hy : y = x
      · simp [setH, hm, marksOf, hy]
      · have : ¬ x = y := fun e => hy e.symm
        simp [setH, hm, marksOf, hy, this]
  | cons a r ih =>
    have hp := (holdGo_iff.1 h).2
    have h' := h
    simp only [holdGo, Bool.and_eq_true, decide_eq_true_eq] at h'
    have ha := (List.pairwise_cons.1 hp).1
    have hno : ∀ z, a.f0 ≥ z → marksOf r z = 0 := fun z hz => by
      by_cases hzz : marksOf r z = 0
      · exact hzz
      · obtain ⟨b, hb, hbx, _⟩ := marksOf_mem hzz
        have := ha b hb; omega
    unfold setH
    by_cases hlt : a.f0 < x
    · rw [if_pos hlt, marksOf, ih h'.2, marksOf]
      by_cases hy : a.f0 = y
      · rw [if_pos hy, if_pos hy, if_neg (by omega)]
      · rw [if_neg hy, if_neg hy]
    · rw [if_neg hlt]
      by_cases hax : a.f0 = x
      · rw [if_pos hax]
        by_cases hm : m = 0
        · rw [if_pos hm, hm]
          by_cases hy : y = x
          · rw [if_pos hy]; exact hno y (by omega)
          · rw [if_neg hy, marksOf, if_neg (by omega)]
        · rw [if_neg hm, marksOf, marksOf]
          by_cases hy : y = x
          · rw [if_pos hy, if_pos (show x = y from hy.symm)]
          · rw [if_neg hy, if_neg (show ¬ x = y from fun e => hy e.symm), if_neg (by omega)]
      · rw [if_neg hax]
        have e0 : marksOf (a :: r) x = 0 := by rw [marksOf, if_neg hax]; exact hno x (by omega)
        by_cases hm : m = 0
        · rw [if_pos hm, hm]
          by_cases hy : y = x
          · rw [if_pos hy, hy]; exact e0
          · rw [if_neg hy]
        · rw [if_neg hm, marksOf]
          by_cases hy : y = x
          · rw [if_pos hy, if_pos (show x = y from hy.symm)]
          · rw [if_neg hy, if_neg (show ¬ x = y from fun e => hy e.symm)]
end Go.Proofs.YtbkfhcbecejomaaGreat
end
section
/- Terminals, in plain words. -/
namespace Go.Proofs.YtbkfhcbecejomaaGreat
set_option linter.unusedVariables false
/-- a terminal is valid; ids: the ids of its yard -/
def termOk (high : Int) (rows : List (List Int)) (h : HullV) (bs : List BoxV) (plan : List Int) (p : PapV) : Bool :=
  (((yardOk high rows && planOk h bs plan) && papOkV p) && decide (nearN h bs plan = 0)) && (rows.flatten.all (fun id => (hasF bs id && !hasI plan id) && !hasI p.ls id) && plan.all fun id => !hasI p.ls id)
theorem leftGo_pos : ∀ (ls : List Int) (a : Int), leftGo a ls = true → ∀ x ∈ ls, 1 ≤ x
  | [], _, _, x, hx => by cases hx
  | y :: r, a, h, x, hx => by
    simp only [leftGo, Bool.and_eq_true, idI, decide_eq_true_eq] at h
    rcases List.mem_cons.1 hx with rfl | hx
    · exact h.1.1.1
    · exact leftGo_pos r y h.2 x hx
theorem papOk_zero {p : PapV} (h : papOkV p = true) : hasI p.ls 0 = false := by
  simp only [papOkV, papOk, Bool.and_eq_true] at h
  have := leftGo_pos p.ls 0 h.1.2
  rw [hasI, Bool.eq_false_iff]
  intro hc
  have := this 0 (by simpa using hc)
  omega
/-- where a box is -/
def termWhere (high : Int) (rows : List (List Int)) (h : HullV) (bs : List BoxV) (plan : List Int) (p : PapV) (id : Int) : Int :=
  if termOk high rows h bs plan p && hasF bs id then (if hasI rows.flatten id then 1 else if hasI plan id then 2 else if hasI p.ls id then 3 else 0) else -1
/-- may a box of the yard stand there -/
def idGood (bs : List BoxV) (plan ls : List Int) (id : Int) : Bool := (hasF bs id && !hasI plan id) && !hasI ls id
theorem termOk_yard {high : Int} {rows : List (List Int)} {h : HullV} {bs : List BoxV} {plan : List Int} {p : PapV} (e : yardOk high rows = false) : termOk high rows h bs plan p = false := by simp [termOk, e]
theorem termOk_plan {high : Int} {rows : List (List Int)} {h : HullV} {bs : List BoxV} {plan : List Int} {p : PapV} (e : planOk h bs plan = false) : termOk high rows h bs plan p = false := by simp [termOk, e]
theorem termOk_pap {high : Int} {rows : List (List Int)} {h : HullV} {bs : List BoxV} {plan : List Int} {hs : List HoldV} {ls : List Int} (e : papOk hs ls = false) : termOk high rows h bs plan ⟨hs, ls⟩ = false := by simp [termOk, papOkV, e]
theorem termOk_near {high : Int} {rows : List (List Int)} {h : HullV} {bs : List BoxV} {plan : List Int} {p : PapV} (e : 0 < nearN h bs plan) : termOk high rows h bs plan p = false := by
  have : decide (nearN h bs plan = 0) = false := decide_eq_false (by omega)
  simp [termOk, this]
theorem termOk_rest {high : Int} {rows : List (List Int)} {h : HullV} {bs : List BoxV} {plan : List Int} {hs : List HoldV} {ls : List Int} (e1 : yardOk high rows = true) (e2 : planOk h bs plan = true) (e3 : papOk hs ls = true) (e4 : nearN h bs plan = 0) :
    termOk high rows h bs plan ⟨hs, ls⟩ = (rows.flatten.all (idGood bs plan ls) && !plan.any (hasI ls)) := by
  have hq : (plan.all fun id => !hasI ls id) = !plan.any (hasI ls) := by
    rw [List.not_any_eq_all_not]
  have hr : rows.flatten.all (idGood bs plan ls) = rows.flatten.all (fun id => (hasF bs id && !hasI plan id) && !hasI ls id) := rfl
  rw [termOk, e1, e2, papOkV, e3, e4, hr, ← hq]
  rfl
theorem all_mem {zs ys : List Int} (f : Int → Bool) (h : ∀ b, b ∈ zs ↔ b ∈ ys) : zs.all f = ys.all f := by
  rw [Bool.eq_iff_iff, List.all_eq_true, List.all_eq_true]
  exact ⟨fun H b hb => H b ((h b).2 hb), fun H b hb => H b ((h b).1 hb)⟩
theorem all_bad {zs : List Int} {f : Int → Bool} {k : Nat} (h : k < zs.length) (hx : f zs[k] = false) : zs.all f = false := by
  rw [List.all_eq_false]
  exact ⟨zs[k], List.getElem_mem h, by simp [hx]⟩
theorem all_step {zs : List Int} {f : Int → Bool} {k : Nat} (h : k < zs.length) (h0 : (zs.take k).all f = true) (hx : f zs[k] = true) : (zs.take (k + 1)).all f = true := by
  rw [List.take_succ_eq_append_getElem h, List.all_append, h0]
  simp [hx]
end Go.Proofs.YtbkfhcbecejomaaGreat
end
section
/- slices.Sorted(slices.Values(xs)) at []int: the numbers of xs, sorted, in new memory; no condition but that xs can be read and is not too long. -/
namespace Go.Proofs.YtbkfhcbecejomaaGreat
open Go Go.RowKit Go.Maps Go.Sort Go.Shelf
set_option linter.unusedVariables false
def Tryz.apSeqA_ren : Go.Shelf.Ren := ⟨fun | 11 => 99 | n => n, fun | 24 => 29 | 26 => 3 | 28 => 60 | 0 => 0 | 33 => 56 | 4 => 4 | n => n, fun | n => n⟩
theorem Tryz.apSeqA : Go.Proofs.SlLaysZI.n11 Tryz.prog Tryz.apSeqA_ren := {
  mixed := by kernel_rfl
  f11 := ⟨ "slices.AppendSeq[[]int,int]", by decide, Tryz.func99.trans (congrArg some (by kernel_rfl))⟩
  t0 := Tryz.underlying0
  a0 := Tryz.isAgg0
  z0 := Tryz.sizeOf0
  v0 := Tryz.zeroValue0
  t24 := Tryz.underlying29
  a24 := Tryz.isAgg29
  z24 := Tryz.sizeOf29
  v24 := Tryz.zeroValue29
  t26 := Tryz.underlying3
  a26 := Tryz.isAgg3
  z26 := Tryz.sizeOf3
  v26 := Tryz.zeroValue3
  t28 := Tryz.underlying60
  a28 := Tryz.isAgg60
  z28 := Tryz.sizeOf60
  v28 := Tryz.zeroValue60
  i26 := by kernel_rfl }
def Tryz.sortA_ren : Go.Shelf.Ren := ⟨fun | 5 => 77 | 8 => 101 | 7 => 100 | 19 => 120 | 20 => 121 | 10 => 111 | 11 => 112 | 12 => 113 | 13 => 114 | 14 => 115 | 15 => 116 | 16 => 117 | 17 => 118 | 18 => 119 | 30 => 123 | 31 => 124 | 32 => 125 | 33 => 126 | 34 => 127 | 35 => 128 | 40 => 129 | n => n, fun | 23 => 29 | 25 => 3 | 3 => 3 | 32 => 121 | 22 => 29 | 0 => 0 | 44 => 146 | 46 => 148 | 4 => 4 | 36 => 138 | 35 => 137 | 41 => 143 | 5 => 5 | 9 => 9 | 53 => 150 | 57 => 154 | 63 => 156 | 64 => 157 | n => n, fun | n => n⟩
theorem Tryz.sortA : Go.Proofs.SlLaysM.n5 Tryz.prog Tryz.sortA_ren := {
  mixed := by kernel_rfl
  f5 := ⟨ "slices.Sort[[]int,int]", by decide, Tryz.func77.trans (congrArg some (by kernel_rfl))⟩
  f7 := ⟨ "slices.pdqsortOrdered[int]", by decide, Tryz.func100.trans (congrArg some (by kernel_rfl))⟩
  f8 := Tryz.func101.trans (congrArg some (by kernel_rfl))
  f10 := ⟨ "slices.insertionSortOrdered[int]", by decide, Tryz.func111.trans (congrArg some (by kernel_rfl))⟩
  f11 := ⟨ "slices.heapSortOrdered[int]", by decide, Tryz.func112.trans (congrArg some (by kernel_rfl))⟩
  f12 := ⟨ "slices.breakPatternsOrdered[int]", by decide, Tryz.func113.trans (congrArg some (by kernel_rfl))⟩
  f13 := ⟨ "slices.choosePivotOrdered[int]", by decide, Tryz.func114.trans (congrArg some (by kernel_rfl))⟩
  f14 := ⟨ "slices.reverseRangeOrdered[int]", by decide, Tryz.func115.trans (congrArg some (by kernel_rfl))⟩
  f15 := ⟨ "slices.partialInsertionSortOrdered[int]", by decide, Tryz.func116.trans (congrArg some (by kernel_rfl))⟩
  f16 := ⟨ "cmp.Less[int]", by decide, Tryz.func117.trans (congrArg some (by kernel_rfl))⟩
  f17 := ⟨ "slices.partitionEqualOrdered[int]", by decide, Tryz.func118.trans (congrArg some (by kernel_rfl))⟩
  f18 := ⟨ "slices.partitionOrdered[int]", by decide, Tryz.func119.trans (congrArg some (by kernel_rfl))⟩
  f19 := Tryz.func120.trans (congrArg some (by kernel_rfl))
  f20 := Tryz.func121.trans (congrArg some (by kernel_rfl))
  f30 := ⟨ "slices.siftDownOrdered[int]", by decide, Tryz.func123.trans (congrArg some (by kernel_rfl))⟩
  f31 := Tryz.func124.trans (congrArg some (by kernel_rfl))
  f32 := Tryz.func125.trans (congrArg some (by kernel_rfl))
  f33 := ⟨ "slices.medianAdjacentOrdered[int]", by decide, Tryz.func126.trans (congrArg some (by kernel_rfl))⟩
  f34 := ⟨ "slices.medianOrdered[int]", by decide, Tryz.func127.trans (congrArg some (by kernel_rfl))⟩
  f35 := ⟨ "cmp.isNaN[int]", by decide, Tryz.func128.trans (congrArg some (by kernel_rfl))⟩
  f40 := ⟨ "slices.order2Ordered[int]", by decide, Tryz.func129.trans (congrArg some (by kernel_rfl))⟩
  t0 := Tryz.underlying0
  a0 := Tryz.isAgg0
  z0 := Tryz.sizeOf0
  v0 := Tryz.zeroValue0
  t3 := Tryz.underlying3
  a3 := Tryz.isAgg3
  z3 := Tryz.sizeOf3
  v3 := Tryz.zeroValue3
  t4 := Tryz.underlying4
  a4 := Tryz.isAgg4
  z4 := Tryz.sizeOf4
  v4 := Tryz.zeroValue4
  t5 := Tryz.underlying5
  a5 := Tryz.isAgg5
  z5 := Tryz.sizeOf5
  v5 := Tryz.zeroValue5
  t9 := Tryz.underlying9
  a9 := Tryz.isAgg9
  z9 := Tryz.sizeOf9
  v9 := Tryz.zeroValue9
  t22 := Tryz.underlying29
  a22 := Tryz.isAgg29
  z22 := Tryz.sizeOf29
  v22 := Tryz.zeroValue29
  t23 := Tryz.underlying29
  a23 := Tryz.isAgg29
  z23 := Tryz.sizeOf29
  v23 := Tryz.zeroValue29
  t25 := Tryz.underlying3
  a25 := Tryz.isAgg3
  z25 := Tryz.sizeOf3
  v25 := Tryz.zeroValue3
  t32 := Tryz.underlying121
  a32 := Tryz.isAgg121
  z32 := Tryz.sizeOf121
  v32 := Tryz.zeroValue121
  t35 := Tryz.underlying137
  a35 := Tryz.isAgg137
  z35 := Tryz.sizeOf137
  v35 := Tryz.zeroValue137
  t36 := Tryz.underlying138
  a36 := Tryz.isAgg138
  z36 := Tryz.sizeOf138
  v36 := Tryz.zeroValue138
  t41 := Tryz.underlying143
  a41 := Tryz.isAgg143
  z41 := Tryz.sizeOf143
  v41 := Tryz.zeroValue143
  t44 := Tryz.underlying146
  a44 := Tryz.isAgg146
  z44 := Tryz.sizeOf146
  v44 := Tryz.zeroValue146
  t46 := Tryz.underlying148
  a46 := Tryz.isAgg148
  z46 := Tryz.sizeOf148
  v46 := Tryz.zeroValue148
  t53 := Tryz.underlying150
  a53 := Tryz.isAgg150
  z53 := Tryz.sizeOf150
  v53 := Tryz.zeroValue150
  t57 := Tryz.underlying154
  a57 := Tryz.isAgg154
  z57 := Tryz.sizeOf154
  v57 := Tryz.zeroValue154
  t63 := Tryz.underlying156
  a63 := Tryz.isAgg156
  z63 := Tryz.sizeOf156
  v63 := Tryz.zeroValue156
  t64 := Tryz.underlying157
  a64 := Tryz.isAgg157
  z64 := Tryz.sizeOf157
  v64 := Tryz.zeroValue157 }
set_option maxRecDepth 100000 in
set_option maxHeartbeats 1000000 in
/-- the iterator: the numbers come one by one, as long as the caller leaves what lay there -/
theorem values1_in (m l b : Nat) (A : Option Addr) (n c : Nat) (zs : List Int) (hn : zs.length = n) (hm : n ≤ 1048576) (J : List Int → World → Prop) (w : World) (hc : w.cell? ⟨b, 0, none⟩ = some (.slice A n c)) (hb : b < w.heap.size) (hr : RdV w A (ints zs))
    (hJ : ∀ s W, J s W → Below w.heap.size w W)
    (hY : ∀ pre x W, J pre W → pre.length < n → YieldAt Fence.wide (m - 1) Tryz.prog l #[encZ x] W fun e W' => e = .returned (.bool true) ∧ J (pre ++ [x]) W' ∧ KeepsWalks W W')
    (W : World) (h0 : J [] W) :
    CallsIn Fence.wide m Tryz.prog 78 #[.func (.yield l) #[] #[], .pointer (some ⟨b, 0, none⟩)] W fun e W' => (∃ v, e = .returned v) ∧ J zs W' := by
  have HN := Lib.hid hn
  have hcW : W.cell? ⟨b, 0, none⟩ = some (.slice A n c) := ((hJ _ _ h0).cell (p := ⟨b, 0, none⟩) hb).trans hc
  clear hn
  refine callsIn_of_wp Tryz.func78 rfl trivial ?_ rfl
  simp only [Tryz.ntmps78, List.size_toArray, List.length_cons, List.length_nil, Nat.reduceAdd, Nat.reduceSub, Array.replicate_succ, Array.replicate_zero, List.push_toArray, List.append_toArray, List.nil_append, List.cons_append]
  gi_wp2
  gi_loopw [7, 4] (fun i _ wr => ∃ k : Nat, k ≤ n ∧ i = .int .i64 k ∧ J (zs.take k) wr) (fun i _ _ => n - (intOf i).toNat)
  case atStart => exact ⟨0, Nat.zero_le _, rfl, by simpa using h0⟩
  case round =>
    obtain ⟨k, hk, rfl, hJk⟩ := hrel
    by_cases hlt : k < n
    · have hkz : k < zs.length := by rw [HN.out]; exact hlt
      have hkl : k < (ints zs).length := by rw [ints_len]; exact hkz
      obtain ⟨b1, o, rfl, hl, hcc⟩ := (hr.below (hJ _ _ hJk)).pos hkl
      have h1 := hcc k hkl
      rw [ints_at] at h1
      have HS : Hid (zs.take (k + 1) = zs.take k ++ [zs[k]]) := Lib.hid (List.take_succ_eq_append_getElem hkz)
      obtain ⟨fn, tmps, assign, body, hy, hR⟩ := hY (zs.take k) zs[k] wr hJk (by rw [List.length_take]; omega)
      generalize zs[k] = x at *
      have hki : (k : Int) < (n : Int) := by omega
      clear hcc
      gi_wp2
      refine ⟨fun h => absurd h (by decide), hR.mono ?_⟩
      rintro e W3 ⟨rfl, hJ3, hk3⟩
      gi_wp2
      go_roundw
      case rel => exact ⟨k + 1, by omega, by go_num, by rw [HS.out]; exact hJ3⟩
      case measure => simp [intOf]; omega
    · obtain rfl : k = n := by omega
      have HE : Hid (zs.take k = zs) := Lib.hid (List.take_of_length_le (by rw [HN.out]; exact Nat.le_refl _))
      rw [HE.out] at hJk
      gi_wp2
      go_end0
      exact ⟨⟨_, rfl⟩, hJk⟩
set_option maxRecDepth 100000 in
set_option maxHeartbeats 2000000 in
/-- the loop over the iterator appends what comes -/
theorem appendSeq_vals (b : Nat) (A : Option Addr) (n c : Nat) (zs : List Int) (hn : zs.length = n) (hm : n ≤ 1048576) (w : World) (hc : w.cell? ⟨b, 0, none⟩ = some (.slice A n c)) (hb : b < w.heap.size) (hr : RdV w A (ints zs)) :
    CallsIn Fence.wide 6 Tryz.prog 99 #[.slice none 0 0, .func (.func 78) #[] #[.pointer (some ⟨b, 0, none⟩)]] w fun e w' => ∃ v, e = .returned v ∧ w'.ownsRow w.heap.size 3 1 v n (ints zs) ∧ Below w.heap.size w w' := by
  have hne : 29 ≠ 3 := by decide
  refine callsIn_of_wp_marks Tryz.func99 rfl trivial ?_ rfl
  simp only [Tryz.ntmps99, List.size_toArray, List.length_cons, List.length_nil, Nat.reduceAdd, Nat.reduceSub, Array.replicate_succ, Array.replicate_zero, List.push_toArray, List.append_toArray, List.nil_append, List.cons_append]
  gi_wp2
  refine wpIn_rangeFunc ?_
  intro fn hfn
  -- the box of the slice, the loop's record and its list of deferred calls
  have hs : (w.alloc (.cells #[.slice none 0 0] 29)).heap.size = w.heap.size + 1 := by simp
  have box0 : (w.alloc (.cells #[.slice none 0 0] 29)).heap[w.heap.size]? = some (.cells #[.slice none 0 0] 29 (0, 0)) := World.alloc_heap_new w _
  have bel0 : Below w.heap.size w (w.alloc (.cells #[.slice none 0 0] 29)) := (Below.refl _ w).alloc (Nat.le_refl _) _
  generalize w.alloc (.cells #[.slice none 0 0] 29) = U at *
  have hseq : ∀ l D W, w.heap.size ≤ l → w.heap.size ≠ l → D ≠ l → D ≠ w.heap.size → AnyZI.ApAt Tryz.apSeqA_ren w fn (.func (.func 78) #[] #[.pointer (some ⟨b, 0, none⟩)]) w.heap.size l D [] W →
      CallsIn Fence.wide 5 Tryz.prog 78 #[.func (.yield l) #[] #[], .pointer (some ⟨b, 0, none⟩)] W fun e W' => (∃ v, e = .returned v) ∧ AnyZI.ApAt Tryz.apSeqA_ren w fn (.func (.func 78) #[] #[.pointer (some ⟨b, 0, none⟩)]) w.heap.size l D zs W' := fun l D W h1 h2 h3 h4 h0 =>
    values1_in 5 l b A n c zs hn hm _ w hc hb hr (fun s W h => h.below)
      (fun pre x W hJ hlen => AnyZI.apYield { Tryz.apSeqA with } Fence.wide 4 w fn hfn _ w.heap.size l D h2 h3 h4 (Nat.le_refl _) h1 n (by unfold maxLen; omega) (by omega) pre x W hJ hlen) W h0
  have e1 : ∀ x, ((U.alloc (.deferred (some []))).alloc x).heap.size = U.heap.size + 2 := fun x => by simp
  obtain ⟨V, hV⟩ : ∃ V, V = (U.alloc (.deferred (some []))).alloc (.loop (AnyZI.apRec Tryz.apSeqA_ren fn (.func (.func 78) #[] #[.pointer (some ⟨b, 0, none⟩)]) w.heap.size U.heap.size .ready none)) := ⟨_, rfl⟩
  have keep : ∀ k, k < U.heap.size → V.heap[k]? = U.heap[k]? := fun k hk => by
    rw [hV]; exact (Below.heap_alloc _ _ k (by simp; omega)).trans (Below.heap_alloc _ _ k hk)
  have bel : Below w.heap.size w V := by rw [hV]; exact (bel0.alloc bel0.size _).alloc (by simp; omega) _
  have hD : V.heap[U.heap.size]? = some (.deferred (some [])) := by rw [hV]; exact (Below.heap_alloc _ _ _ (by simp)).trans (World.alloc_heap_new U _)
  have hL : V.heap[U.heap.size + 1]? = some (.loop (AnyZI.apRec Tryz.apSeqA_ren fn (.func (.func 78) #[] #[.pointer (some ⟨b, 0, none⟩)]) w.heap.size U.heap.size .ready none)) := by
    rw [hV]
    have := World.alloc_heap_new (U.alloc (.deferred (some []))) (.loop (AnyZI.apRec Tryz.apSeqA_ren fn (.func (.func 78) #[] #[.pointer (some ⟨b, 0, none⟩)]) w.heap.size U.heap.size .ready none))
    rwa [World.size_alloc] at this
  have st : AnyZI.ApAt Tryz.apSeqA_ren w fn (.func (.func 78) #[] #[.pointer (some ⟨b, 0, none⟩)]) w.heap.size (U.heap.size + 1) U.heap.size [] V :=
    ⟨⟨_, (keep _ (by omega)).trans box0, ⟨rfl, .inl ⟨rfl, rfl⟩⟩, by simp⟩, hL, hD, bel⟩
  refine ⟨U.heap.size + 1, [{ target := .collected U.heap.size, args := #[] }], V, { target := .fn (.func 78) #[.pointer (some ⟨b, 0, none⟩)], args := #[.func (.yield (U.heap.size + 1)) #[] #[]] }, V, 78,
    #[.func (.yield (U.heap.size + 1)) #[] #[]] ++ #[.pointer (some ⟨b, 0, none⟩)], V, ?_, ?_, fun _ _ => trivial, ?_, fun _ => by decide, ?_⟩
  · rw [hV]; exact run_enterLoop_outer _ _ _ _ _
  · simp [resolve, go_sem]
  · simp [invoke, go_sem]
  · refine (hseq _ _ V (by omega) (by omega) (by omega) (by omega) st).mono ?_
    rintro e W2 ⟨⟨v0, rfl⟩, h2⟩
    obtain ⟨v, hv, hrow, _⟩ := h2.box
    have hend := run_endLoop (P := Tryz.prog) h2.L (by simp [AnyZI.apRec])
    obtain ⟨W3, hW3⟩ : ∃ W3, W3 = W2.putObj (U.heap.size + 1) (.loop { AnyZI.apRec Tryz.apSeqA_ren fn (.func (.func 78) #[] #[.pointer (some ⟨b, 0, none⟩)]) w.heap.size U.heap.size .ready none with state := .exhausted }) := ⟨_, rfl⟩
    rw [← hW3] at hend
    have hg : W2.grownBy W3 (some (U.heap.size + 1)) := by rw [hW3]; exact grownBy_putObj_a _ _ _
    have box3 : W3.heap[w.heap.size]? = some (.cells #[v] 29 (0, 0)) := by rw [hW3]; exact (World.putObj_heap_other (by omega)).trans hv
    have hD3 : W3.heap[U.heap.size]? = some (.deferred (some [])) := by rw [hW3]; exact (World.putObj_heap_other (by omega)).trans h2.K
    have row3 := hrow.kept hg (ownsRow_ne_a hrow h2.L (fun cur e => by cases e))
    have bel3 : Below w.heap.size w W3 := h2.below.grown hg h2.below.size (fun k e => by cases e; omega)
    obtain ⟨hc3, hf3⟩ := cell_of_box_a box3
    clear hW3
    refine ⟨none, W3, hend, ?_⟩
    gi_wp2
    rw [← hs]
    refine ⟨by simp, .inl ⟨_, _, rfl, run_takeDeferred hD3, ?_⟩⟩
    refine ⟨_, results_tmp rfl _ _ _, v, rfl, ?_, bel3.grown (grownBy_putObj_a _ _ _) bel3.size (fun k e => by cases e; omega)⟩
    have := row3.kept (grownBy_putObj_a W3 U.heap.size (.deferred none)) (ownsRow_ne_a row3 hD3 (fun cur e => by cases e))
    rw [← hn]
    exact this
theorem collect_vals (b : Nat) (A : Option Addr) (n c : Nat) (zs : List Int) (hn : zs.length = n) (hm : n ≤ 1048576) (w : World) (hc : w.cell? ⟨b, 0, none⟩ = some (.slice A n c)) (hb : b < w.heap.size) (hr : RdV w A (ints zs)) :
    Calls Tryz.prog 76 #[.func (.func 78) #[] #[.pointer (some ⟨b, 0, none⟩)]] w (RVal fun v w' => w'.ownsRow w.heap.size 3 1 v n (ints zs) ∧ Below w.heap.size w w') := by
  have hap := callsIn_wide.1 (appendSeq_vals b A n c zs hn hm w hc hb hr)
  go_enter Tryz.func76, Tryz.ntmps76
  go_wp2_with fail
  refine hap.mono ?_
  rintro e w' ⟨v, rfl, h1, h2⟩
  go_wp2_with fail
  go_ret
  exact RVal.mk ⟨h1, h2⟩
/-- numbers in ascending order -/
def srtI (zs : List Int) : List Int := zs.mergeSort fun x y => decide (x ≤ y)
theorem sorted_vals (b : Nat) (A : Option Addr) (n c : Nat) (zs : List Int) (hn : zs.length = n) (hm : n ≤ 1048576) (w : World) (hc : w.cell? ⟨b, 0, none⟩ = some (.slice A n c)) (hb : b < w.heap.size) (hr : RdV w A (ints zs)) :
    Calls Tryz.prog 34 #[.func (.func 78) #[] #[.pointer (some ⟨b, 0, none⟩)]] w (RVal fun v w' => w'.ownsRow w.heap.size 3 1 v n (ints (srtI zs)) ∧ Below w.heap.size w w') := by
  have hap := collect_vals b A n c zs hn hm w hc hb hr
  go_enter Tryz.func34, Tryz.ntmps34
  go_wp2_with fail
  refine hap.mono ?_
  rintro e w1 ⟨_, rfl, h1, h2⟩
  have HB := Lib.hid h2
  rcases h1.2 with ⟨rfl, hz⟩ | ⟨gb, cap, cur, rfl, hbase, hgb, r1, r2, r3, r4⟩
  · subst hz
    obtain rfl : zs = [] := List.eq_nil_of_length_eq_zero hn
    have cS := fun W => AnyM.slices_Sort_int_none Tryz.sortA none 0 W
    change ∀ W, Calls Tryz.prog 77 _ _ _ at cS
    clear h1 h2
    go_wp2_with fail
    refine (cS _).mono ?_
    rintro e w' ⟨rfl, rfl⟩
    go_wp2_with fail
    go_ret
    exact RVal.mk ⟨by rw [show ints (srtI []) = [] from by simp [srtI, ints]]; exact World.ownsRow_nil _ _ _ _, HB.out⟩
  · have hH : Holds encZ w1 gb 0 zs.toArray := holds_of_block_i hgb (by simpa [hn, ints] using r4)
    have hgl : gb < w1.heap.size := (Array.getElem?_eq_some_iff.1 hgb).1
    have cS := AnyM.slices_Sort_int Tryz.sortA gb 0 cap zs w1 hH hgl (by omega)
    rw [hn] at cS
    change Calls Tryz.prog 77 _ _ _ at cS
    have hfin : ∀ k os, (Go.Sort.grow (putRow encZ (Go.Sort.ahead w1 k) gb 0 (zs.mergeSort fun x y => decide (x ≤ y)).toArray) os).ownsRow w.heap.size 3 1 (.slice (some ⟨gb, 0, none⟩) n cap) n (ints (srtI zs)) := fun k os => by
      have := ownsRow_sorted_i (n := k) (os := os) (ss := zs) (ts := srtI zs) (by simp [srtI]) hbase hgb (by omega) r2 (by simpa using r3)
      rw [hn] at this
      exact this
    have HF := Lib.hid hfin
    have HG : Hid (∀ k os, Below w.heap.size w (Go.Sort.grow (putRow encZ (Go.Sort.ahead w1 k) gb 0 (zs.mergeSort fun x y => decide (x ≤ y)).toArray) os)) := Lib.hid fun k os => HB.out.grown (grownBy_sorted_i _) HB.out.size (fun j hj => by cases hj; exact hbase)
    clear hfin h1 h2 hH r1 r2 r3 r4
    go_wp2_with fail
    refine cS.mono ?_
    rintro e w' ⟨rfl, k, os, rfl⟩
    go_wp2_with fail
    go_ret
    exact RVal.mk ⟨HF.out k os, HG.out k os⟩
theorem values_any (A : Option Addr) (n c : Nat) (w : World) : Calls Tryz.prog 35 #[.slice A n c] w fun e w' => e = .returned (.func (.func 78) #[] #[.pointer (some ⟨w.heap.size, 0, none⟩)]) ∧ w' = w.alloc (.cells #[.slice A n c] 29) := by
  go_enter Tryz.func35, Tryz.ntmps35
  go_wp2_with fail
  go_ret
  exact ⟨rfl, rfl⟩
end Go.Proofs.YtbkfhcbecejomaaGreat
end
section
/- slices.Grow of nil and slices.Concat at []int. -/
namespace Go.Proofs.YtbkfhcbecejomaaGreat
open Go Go.ChangeShapes Go.WideShapes Go.ChangeAt Go.RowKit
set_option linter.unusedVariables false
/-- how many numbers the first rows have -/
def lenK (rows : List (List Int)) (k : Nat) : Nat := ((rows.take k).flatten).length
theorem lenK_step {rows : List (List Int)} {k : Nat} (h : k < rows.length) : lenK rows (k + 1) = lenK rows k + (rows[k]).length := by
  unfold lenK
  rw [List.take_succ_eq_append_getElem h, List.flatten_append, List.length_append, List.flatten_cons, List.flatten_nil, List.append_nil]
theorem lenK_le (rows : List (List Int)) (k : Nat) : lenK rows k ≤ rows.flatten.length := by
  have h : (rows.take k).flatten.length + (rows.drop k).flatten.length = rows.flatten.length := by
    rw [← List.length_append, ← List.flatten_append, List.take_append_drop]
  unfold lenK
  omega
theorem zeros_ints (k : Nat) : Builtin.zeroCells (Value.cells (.int .i64 0)) k = (List.replicate k (Value.int .i64 0)).toArray := by
  have : (Value.cells (.int .i64 0)) = #[.int .i64 0] := rfl
  rw [this]
  unfold Builtin.zeroCells
  apply Array.ext'
  simp
  apply List.ext_getElem <;> simp [Nat.mod_one]
theorem grow_none (k : Nat) (w : World) (hk : k ≤ 1048576) :
    Calls Tryz.prog 79 #[.slice none 0 0, .int .i64 k] w (RVal fun u w' => ∃ A c, u = .slice A 0 c ∧ w'.ownsRow w.heap.size 3 1 (.slice A 0 c) 0 [] ∧ Below w.heap.size w w') := by
  by_cases h0 : k = 0
  · subst h0
    go_enter Tryz.func79, Tryz.ntmps79
    go_wp2_with fail
    go_ret
    exact RVal.mk ⟨none, 0, rfl, World.ownsRow_nil _ _ _ _, Below.refl _ _⟩
  · obtain ⟨i0, hi0, hinf⟩ := Option.map_eq_some_iff.1 int_info
    simp only [Prod.mk.injEq] at hinf
    obtain ⟨hz0, hzs, hzb⟩ := hinf
    obtain ⟨G, hG⟩ : ∃ G, G = grownCap w k 0 3 := ⟨_, rfl⟩
    have hGn : k ≤ G := by rw [hG]; exact grownCap_ge w _ _ _
    have hGm : G ≤ maxLen := by rw [hG]; exact grownCap_le_maxLen w k 0 _ (by unfold maxLen; omega)
    have hrz : ∀ ty, (Builtin.append_ #[29, 3] ty #[.slice none 0 0, .int .i64 (k : Int)]).run Tryz.prog w =
        .ok (.slice (some ⟨w.heap.size, 0, none⟩) k G) (w.drew.alloc (.cells (List.replicate k (Value.int .i64 0) ++ List.replicate (G - k) (Value.int .i64 0)).toArray 3)) := fun ty => by
      have h := Lib.run_append_nil_zeros (P := Tryz.prog) w 29 3 ty 3 i0 _ .i64 .i64 Tryz.underlying29 Tryz.underlying3 hi0 hz0 k (by omega) (by omega) (by omega) (by rw [hzb]; omega)
      rw [← hG] at h
      rw [h, zeros_ints, zeros_ints]
      simp
    have hlen : (List.replicate k (Value.int .i64 0) ++ List.replicate (G - k) (Value.int .i64 0)).length = G := by simp; omega
    generalize List.replicate k (Value.int .i64 0) ++ List.replicate (G - k) (Value.int .i64 0) = Z at *
    have hB : Blk (w.drew.alloc (.cells Z.toArray 3)) w.heap.size 3 Z := Blk.new w.drew _ Z
    have HO : Hid ((w.drew.alloc (.cells Z.toArray 3)).ownsRow w.heap.size 3 1 (.slice (some ⟨w.heap.size, 0, none⟩) 0 G) 0 []) := Lib.hid ⟨rfl, .inr ⟨w.heap.size, G, Z.toArray, rfl, Nat.le_refl _, hB, Nat.zero_le _, hGm, by simp [hlen], by simp⟩⟩
    have HB : Hid (Below w.heap.size w (w.drew.alloc (.cells Z.toArray 3))) := Lib.hid ((Below.drew (Below.refl _ _)).alloc (Nat.le_refl _) _)
    generalize w.drew.alloc (.cells Z.toArray 3) = w2 at *
    have hk0 : (0 : Int) < (k : Int) := by omega
    have hGi : (G : Int) ≤ 9223372036854775807 := by unfold maxLen at hGm; omega
    clear hi0 hz0 hzs hzb hG hGm hlen hB
    go_enter Tryz.func79, Tryz.ntmps79
    go_wp2_with (at_builtin; refine Lib.wpList_append_run _ rfl _ _ _ _ rfl _ _ rfl rfl _ _ (hrz _) ?_)
    go_ret
    exact RVal.mk ⟨_, G, rfl, HO.out, HB.out⟩
set_option maxHeartbeats 1000000 in
theorem concat_int (A : Option Addr) (n c : Nat) (rows : List (List Int)) (w : World) (hn : rows.length = n) (hr : RdRR w A (intss rows)) (hm : n ≤ 1048576) (htot : rows.flatten.length ≤ 1048576) :
    Calls Tryz.prog 36 #[.slice A n c] w (RVal fun u w' => ∃ B d, u = .slice B rows.flatten.length d ∧ w'.ownsRow w.heap.size 3 1 (.slice B rows.flatten.length d) rows.flatten.length (ints rows.flatten) ∧ Below w.heap.size w w') := by
  have HN := Lib.hid hn
  have HT := Lib.hid htot
  clear hn htot
  go_enter Tryz.func36, Tryz.ntmps36
  go_wp2_with fail
  go_loopw [3, 11, 5] (fun s i _ wr => ∃ k : Nat, k ≤ n ∧ i = .int .i64 k ∧ s = .int .i64 (lenK rows k) ∧ w = wr) (fun _ i _ _ => n - (intOf i).toNat)
  case atStart => exact ⟨0, Nat.zero_le _, rfl, rfl, rfl⟩
  case round =>
    obtain ⟨k, hk, rfl, rfl, rfl⟩ := hrel
    by_cases hlt : k < n
    · have hkz : k < rows.length := by rw [HN.out]; exact hlt
      have hkl : k < (intss rows).length := by rw [intss_len]; exact hkz
      obtain ⟨b1, o, rfl, hl, B, c', hcell, hle, hmx, hrB⟩ := hr.pos hkl
      simp only [intss_at, ints_len] at hcell
      have HS := Lib.hid (lenK_step hkz)
      have h2 : lenK rows (k + 1) ≤ 1048576 := Nat.le_trans (lenK_le rows _) HT.out
      rw [HS.out] at h2
      generalize (rows[k]).length = p at *
      generalize lenK rows k = s at *
      have HS := HS
      clear hrB
      go_wp2_with fail
      go_roundw
      case rel => exact ⟨k + 1, by omega, by go_num, by rw [HS.out]; go_num, trivial⟩
      case measure => simp [intOf]; omega
    · obtain rfl : k = n := by omega
      have HE : Hid (lenK rows k = rows.flatten.length) := Lib.hid (by unfold lenK; rw [List.take_of_length_le (by rw [HN.out]; exact Nat.le_refl _)])
      rw [HE.out]
      have h2 := HT.out
      have HFL := Lib.hid (rfl : rows.flatten.length = rows.flatten.length)
      generalize hT : rows.flatten.length = tot at *
      have HTT := Lib.hid hT
      clear hT HE HFL
      go_wp2_with fail
      refine (grow_none tot _ h2).mono ?_
      rintro e w1 ⟨_, rfl, A1, c1, rfl, hown1, hb1⟩
      go_wp2_with fail
      go_loopw [6, 27, 8] (fun s i _ wr => ∃ (j : Nat) (B : Option Addr) (d : Nat), j ≤ k ∧ i = .int .i64 j ∧ s = .slice B (lenK rows j) d ∧ wr.ownsRow w.heap.size 3 1 (.slice B (lenK rows j) d) (lenK rows j) (ints (rows.take j).flatten) ∧ Below w.heap.size w wr) (fun _ i _ _ => k - (intOf i).toNat)
      case atStart => exact ⟨0, A1, c1, Nat.zero_le _, rfl, rfl, hown1, hb1⟩
      case round =>
        obtain ⟨j, B, d, hj, rfl, rfl, hown, hb⟩ := hrel
        have hrr := hr.below hb
        by_cases hlt2 : j < k
        · have hkz : j < rows.length := by rw [HN.out]; exact hlt2
          have hkl : j < (intss rows).length := by rw [intss_len]; exact hkz
          obtain ⟨b1, o, rfl, hl, B1, c', hcell, hle, hmx, hrB⟩ := hrr.pos hkl
          rw [intss_at] at hrB
          simp only [intss_at, ints_len] at hcell hle
          have HS := Lib.hid (lenK_step hkz)
          have hl2 : lenK rows (j + 1) ≤ 1048576 := Nat.le_trans (lenK_le rows _) (by rw [HTT.out]; exact h2)
          rw [HS.out] at hl2
          have HSI : Hid (ints (rows.take (j + 1)).flatten = ints (rows.take j).flatten ++ ints (rows[j])) := Lib.hid (by rw [List.take_succ_eq_append_getElem hkz, List.flatten_append]; simp [ints])
          have hone := ints_one (rows[j])
          have hil := ints_len (rows[j])
          generalize rows[j] = zs at *
          generalize zs.length = p at *
          generalize lenK rows j = s at *
          generalize ints (rows.take j).flatten = xs at *
          generalize ints zs = ys at *
          have hsz := hb.size
          have HB := Lib.hid hb
          have HIL := Lib.hid hil
          have HRB := Lib.hid hrB
          have HOWN := Lib.hid hown
          have HONE := Lib.hid hone
          clear hb hrB hil hown hone
          go_wp2_with (at_builtin; refine append_src rfl (.tmp 31) (.tmp 32) 29 rfl 3 _ _ _ Tryz.underlying29 int_infoY w.heap.size _ _ s xs rfl HOWN.out B1 p c' ys rfl (by rw [HIL.out, Nat.mul_one]) HRB.out HONE.out (by omega) hsz ?_; intro v6 w6 hown6 hg6 hblk6)
          obtain ⟨B6, d6, rfl, _, _⟩ := own_slice hown6
          have hb6 := below_append HB.out hg6 HOWN.out rfl
          go_roundw
          case rel => exact ⟨j + 1, B6, d6, by omega, by go_num, by rw [HS.out], by rw [HS.out, HSI.out]; exact hown6, hb6⟩
          case measure => simp [intOf]; omega
        · obtain rfl : j = k := by omega
          have HE : Hid (lenK rows j = tot) := Lib.hid (by unfold lenK; rw [List.take_of_length_le (by rw [HN.out]; exact Nat.le_refl _)]; exact HTT.out)
          have HF : Hid (rows.take j = rows) := Lib.hid (List.take_of_length_le (by rw [HN.out]; exact Nat.le_refl _))
          rw [HE.out, HF.out] at hown
          rw [HE.out]
          go_wp2_with fail
          go_ret
          exact RVal.mk ⟨B, d, by rw [HTT.out]; rfl, by rw [HTT.out]; exact hown, hb⟩
end Go.Proofs.YtbkfhcbecejomaaGreat
end
section
/- Maps with integer keys whose values are known outright: what they hold, and their look-ups and updates. -/
namespace Go.Proofs.YtbkfhcbecejomaaGreat
open Go Go.ChangeShapes Go.WideShapes Go.ChangeAt Go.RowKit
open Go.WideAt (IsKeyLit)

/-- a value reads as itself -/
def itself : Value → Option (DataW Value × List MemPlace) := fun v => some (.held v, [])
/-- block b is a map of n entries with int keys; at key a it has what f says -/
def MapI (P : Program) (k : TypeId) (w : World) (b n : Nat) (f : Int → Option Value) : Prop :=
  ∃ D : DataW Value, w.ownsMap P k itself b n D ∧ Maps.size D = n ∧ ∀ a, (Lit.int .i64 a).wf = true → Maps.has D (.int .i64 a) = (f a).isSome ∧ ∀ z, D.atKey (.int .i64 a) (.held z) = .held ((f a).getD z)
def mput (f : Int → Option Value) (a : Int) (v : Value) : Int → Option Value := fun x => if x = a then some v else f x

theorem mapI_made (P : Program) (k : TypeId) (w : World) : MapI P k (w.alloc (.map #[] 0)) w.heap.size 0 (fun _ => none) :=
  ⟨.map [], World.ownsMap_made w P k itself, rfl, fun _ _ => ⟨rfl, fun _ => rfl⟩⟩
theorem MapI.kept {P : Program} {k : TypeId} {w w' : World} {b n : Nat} {f : Int → Option Value} {row : Option Nat} (h : MapI P k w b n f) (hg : w.grownBy w' row) (hne : some b ≠ row) : MapI P k w' b n f := by
  obtain ⟨D, ho, r⟩ := h
  exact ⟨D, ho.kept hg hne, r⟩
theorem MapI.lt {P : Program} {k : TypeId} {w : World} {b n : Nat} {f : Int → Option Value} (h : MapI P k w b n f) : b < w.heap.size := by
  obtain ⟨D, ho, _⟩ := h
  exact ho.lt
theorem MapI.entries {P : Program} {k : TypeId} {w : World} {b n : Nat} {f : Int → Option Value} (h : MapI P k w b n f) : ∃ es clock, w.heap[b]? = some (.map es clock) ∧ es.size = n := by
  obtain ⟨D, ⟨es, clock, hb, _, _, rfl⟩, hs, _⟩ := h
  refine ⟨es, clock, hb, ?_⟩
  rw [← hs]
  simp [Maps.size, length_sorted]
theorem mput_data {D : DataW Value} {f : Int → Option Value} (hm : Maps.IsMap D) (h : ∀ a, (Lit.int .i64 a).wf = true → Maps.has D (.int .i64 a) = (f a).isSome ∧ ∀ z, D.atKey (.int .i64 a) (.held z) = .held ((f a).getD z)) (a : Int) (v : Value) :
    ∀ x, (Lit.int .i64 x).wf = true → Maps.has (D.put (.int .i64 a) (.held v)) (.int .i64 x) = (mput f a v x).isSome ∧ ∀ z, (D.put (.int .i64 a) (.held v)).atKey (.int .i64 x) (.held z) = .held ((mput f a v x).getD z) := by
  intro x hx
  unfold mput
  by_cases hxa : x = a
  · subst hxa
    have hk : IsKeyLit (.int .i64 x) := trivial
    rw [if_pos rfl, Maps.has_put_same hm hk]
    exact ⟨rfl, fun z => Maps.atKey_put_same hm hk _ _⟩
  · have hne : (Lit.int .i64 x) ≠ (Lit.int .i64 a) := fun e => hxa (by injection e)
    rw [if_neg hxa, Maps.has_put_other hne]
    exact ⟨(h x hx).1, fun z => by rw [Maps.atKey_put_other hne]; exact (h x hx).2 z⟩
section
variable {P : Program} (w : World) {ops : Array Oper} {rest : List Oper} {o : Oper} {a : Act} {Q : Exit → Act → World → Prop}
/-- v, ok := m[x] -/
theorem mapI_look_ok (hg : o.guard = none) (m x : Operand) (t : TypeId) (hop : o.op = Op.lookup t m x true) (k e : TypeId) (hk : P.underlying k = some (.int .i64)) (ht : P.underlying t = some (.map k e))
    (z : Value) (hz : (zeroValue e).run P w = .ok z w) (b n : Nat) (f : Int → Option Value) (hm : a.eval m = .map (some b)) (hown : MapI P k w b n f) (key : Int) (hx : a.eval x = .int .i64 key) (hwf : (Lit.int .i64 key).wf = true)
    (hK : wpList P ops Q rest (a.put o.dst (.tuple #[(f key).getD z, .bool (f key).isSome])) w) : wpList P ops Q (o :: rest) a w := by
  obtain ⟨D, ho, _, hD⟩ := hown
  refine wpList_lookup_own_ok w hg m x t hop k e (Maps.int_keyed hk) ht itself hz (.held z) [] rfl b n D hm ho _ _ hx (Maps.keyOf_int_mk hk hwf) fun v ps hv => ?_
  rw [(hD key hwf).2 z] at hv
  have e1 : v = (f key).getD z := by
    simp only [itself, Option.some.injEq, Prod.mk.injEq, DataW.held.injEq] at hv
    exact hv.1
  rw [e1, (hD key hwf).1]
  exact hK
/-- m[x] -/
theorem mapI_look (hg : o.guard = none) (m x : Operand) (t : TypeId) (hop : o.op = Op.lookup t m x false) (k e : TypeId) (hk : P.underlying k = some (.int .i64)) (ht : P.underlying t = some (.map k e))
    (z : Value) (hz : (zeroValue e).run P w = .ok z w) (b n : Nat) (f : Int → Option Value) (hm : a.eval m = .map (some b)) (hown : MapI P k w b n f) (key : Int) (hx : a.eval x = .int .i64 key) (hwf : (Lit.int .i64 key).wf = true)
    (hK : wpList P ops Q rest (a.put o.dst ((f key).getD z)) w) : wpList P ops Q (o :: rest) a w := by
  obtain ⟨D, ho, _, hD⟩ := hown
  obtain ⟨v, ps, hrun, hv⟩ := ho.lookup (Maps.int_keyed hk) ht hz (zd := .held z) (zp := []) rfl (Maps.keyOf_int_mk hk hwf)
  rw [(hD key hwf).2 z] at hv
  have e1 : v = (f key).getD z := by
    simp only [itself, Option.some.injEq, Prod.mk.injEq, DataW.held.injEq] at hv
    exact hv.1
  rw [e1] at hrun
  refine wpList_plain hg fun K' hK' => ?_
  unfold Oper.wp
  simp [execOp, hop, hm, hx, hrun, Result.andThen]
  exact hK' _ _ hK
/-- m[x] = v -/
theorem mapI_set (hg : o.guard = none) (m x v : Operand) (t : TypeId) (hop : o.op = Op.mapUpdate t m x v ∨ o.op = Op.insert t m x v) (k e : TypeId) (hk : P.underlying k = some (.int .i64)) (ht : P.underlying t = some (.map k e))
    (b n : Nat) (f : Int → Option Value) (hm : a.eval m = .map (some b)) (hown : MapI P k w b n f) (hn : n < maxLen) (key : Int) (val : Value) (hx : a.eval x = .int .i64 key) (hv : a.eval v = val) (hwf : (Lit.int .i64 key).wf = true)
    (hK : ∀ w', MapI P k w' b (if (f key).isSome then n else n + 1) (mput f key val) → w.grownBy w' (some b) → wpList P ops Q rest (a.put o.dst undef) w') : wpList P ops Q (o :: rest) a w := by
  obtain ⟨D, ho, hs, hD⟩ := hown
  have hi := ho.isMap
  have htidy := ho.tidy (Maps.int_keyed hk)
  obtain ⟨w', hrun, r1, r2⟩ := ho.update (Maps.int_keyed hk) ht hn (Maps.keyOf_int_mk hk hwf) (val := val) (d := .held val) (ps := []) rfl
  have hsz : Maps.size (D.put (.int .i64 key) (.held val)) = if (f key).isSome then n else n + 1 := by
    have hkl : IsKeyLit (.int .i64 key) := trivial
    have e1 := Maps.size_put (k := .int .i64 key) htidy (.held val)
    rw [(hD key hwf).1, hs] at e1
    exact e1
  have r1' : w'.ownsMap P k itself b (if (f key).isSome then n else n + 1) (D.put (.int .i64 key) (.held val)) := by
    obtain ⟨es, clock, hb, F, hle, hE⟩ := r1
    refine ⟨es, clock, hb, F, ?_, hE⟩
    rw [← hsz, hE]
    simp [Maps.size, length_sorted]
  refine wpList_plain hg fun K' hK' => ?_
  unfold Oper.wp
  rcases hop with hop | hop
  all_goals
    simp [execOp, hop, hm, hx, hv, hrun, Result.andThen]
    exact hK' _ _ (hK w' ⟨_, r1', hsz, mput_data hi hD key val⟩ r2)
end
end Go.Proofs.YtbkfhcbecejomaaGreat
end
