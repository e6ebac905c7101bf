/- Papers, in plain words. -/
import Derived.Test.YtpkbipjnobfcdaaHldK
import Derived.Test.YtpkbipjnobfcdaaYdP
import Derived.Test.YtpkbipjnobfcdaaInsL
namespace Go.Proofs.Ytpkbipjnobfcdaa
set_option linter.unusedVariables false
/-- the marks that the first one with the id has -/
def marksOf : List HoldV → Int → Int
  | [], _ => 0
  | h :: r, x => if h.f0 = x then h.f1 else marksOf r x
def holdGo (left : List Int) (last : Int) : List HoldV → Bool
  | [] => true
  | h :: r => (idI h.f0 && ((decide (1 ≤ h.f1) && decide (h.f1 ≤ 7)) && (decide (last < h.f0) && !hasI left h.f0))) && holdGo left h.f0 r
def leftGo (last : Int) : List Int → Bool
  | [] => true
  | x :: r => (idI x && decide (last < x)) && leftGo x r
def papOk (hs : List HoldV) (ls : List Int) : Bool := (holdGo ls 0 hs && leftGo 0 ls) && (decide ((hs.length : Int) ≤ 12) && decide ((ls.length : Int) ≤ 12))
/-- 2 to the power of a mark -/
def powM (m : Int) : Int := if m = 0 then 1 else if m = 1 then 2 else 4
/-- whether a mark is among marks -/
def bitM (x m : Int) : Bool := decide (x / powM m % 2 = 1)
/-- holds in which an id has marks -/
def setH : List HoldV → Int → Int → List HoldV
  | [], x, m => if m = 0 then [] else [⟨x, m⟩]
  | h :: r, x, m => if h.f0 < x then h :: setH r x m else if h.f0 = x then (if m = 0 then r else ⟨x, m⟩ :: r) else (if m = 0 then h :: r else ⟨x, m⟩ :: h :: r)
structure PapV where
  hs : List HoldV
  ls : List Int
def markOk (k m : Int) : Bool := decide (k = 2) || (decide (0 ≤ m) && decide (m ≤ 2))
/-- a deed: papers and whether it was done -/
def pdo (p : PapV) (k x m : Int) : PapV × Bool :=
  if (idI x && !hasI p.ls x) && markOk k m then
    if k = 0 then
      if bitM (marksOf p.hs x) m || (decide (marksOf p.hs x = 0) && decide (p.hs.length = 12)) then (p, false) else (⟨setH p.hs x (marksOf p.hs x + powM m), p.ls⟩, true)
    else if k = 1 then
      if bitM (marksOf p.hs x) m then (⟨setH p.hs x (marksOf p.hs x - powM m), p.ls⟩, true) else (p, false)
    else if k = 2 then
      if decide (marksOf p.hs x = 0) && decide (p.ls.length < 12) then (⟨p.hs, insL p.ls x⟩, true) else (p, false)
    else (p, false)
  else (p, false)
def papOkV (p : PapV) : Bool := papOk p.hs p.ls
/-- PaperDo -/
def paperDo (p : PapV) (k x m : Int) : PapV × Bool := if papOkV p then pdo p k x m else (⟨[], []⟩, false)
theorem setH_zero {hs : List HoldV} {ls : List Int} {last x : Int} (h : holdGo ls last hs = true) (hx : marksOf hs x = 0) : setH hs x 0 = hs := by
  induction hs generalizing last with
  | nil => rfl
  | cons a r ih =>
    simp only [holdGo, Bool.and_eq_true, decide_eq_true_eq] at h
    obtain ⟨⟨h1, ⟨h2, h3⟩, h4, h5⟩, h6⟩ := h
    unfold marksOf at hx
    by_cases hax : a.f0 = x
    · rw [if_pos hax] at hx; omega
    · rw [if_neg hax] at hx
      unfold setH
      by_cases hlt : a.f0 < x
      · rw [if_pos hlt, ih h6 hx]
      · rw [if_neg hlt, if_neg hax, if_pos rfl]
/-- valid holds are known by their parts -/
theorem holdGo_iff {ls : List Int} {last : Int} {hs : List HoldV} : holdGo ls last hs = true ↔
    (∀ h ∈ hs, (1 ≤ h.f0 ∧ h.f0 ≤ 999) ∧ (1 ≤ h.f1 ∧ h.f1 ≤ 7) ∧ h.f0 ∉ ls ∧ last < h.f0) ∧ hs.Pairwise (fun a b => a.f0 < b.f0) := by
  induction hs generalizing last with
  | nil => simp [holdGo]
  | cons a r ih =>
    simp only [holdGo, Bool.and_eq_true, decide_eq_true_eq, ih, idI, hasI, Bool.not_eq_true', List.mem_cons, List.pairwise_cons, List.contains_eq_mem, decide_eq_false_iff_not]
    constructor
    · rintro ⟨⟨h1, h2, h3, h4⟩, h5, h6⟩
      refine ⟨?_, fun b hb => (h5 b hb).2.2.2, h6⟩
      rintro b (rfl | hb)
      · exact ⟨h1, h2, h4, h3⟩
      · have := h5 b hb
        exact ⟨this.1, this.2.1, this.2.2.1, by omega⟩
    · rintro ⟨h1, h2, h3⟩
      have ha := h1 a (.inl rfl)
      refine ⟨⟨ha.1, ha.2.1, ha.2.2.2, ha.2.2.1⟩, fun b hb => ?_, h3⟩
      have := h1 b (.inr hb)
      exact ⟨this.1, this.2.1, this.2.2.1, h2 b hb⟩
theorem leftGo_iff {last : Int} {ls : List Int} : leftGo last ls = true ↔ (∀ x ∈ ls, (1 ≤ x ∧ x ≤ 999) ∧ last < x) ∧ ls.Pairwise (· < ·) := by
  induction ls generalizing last with
  | nil => simp [leftGo]
  | cons a r ih =>
    simp only [leftGo, Bool.and_eq_true, decide_eq_true_eq, ih, idI, List.mem_cons, List.pairwise_cons]
    constructor
    · rintro ⟨⟨h1, h2⟩, h3, h4⟩
      refine ⟨?_, fun b hb => (h3 b hb).2, h4⟩
      rintro b (rfl | hb)
      · exact ⟨h1, h2⟩
      · have := h3 b hb
        exact ⟨this.1, by omega⟩
    · rintro ⟨h1, h2, h3⟩
      have ha := h1 a (.inl rfl)
      exact ⟨⟨ha.1, ha.2⟩, fun b hb => ⟨(h1 b (.inr hb)).1, h2 b hb⟩, h3⟩
theorem marksOf_mem {hs : List HoldV} {x : Int} (h : marksOf hs x ≠ 0) : ∃ a ∈ hs, a.f0 = x ∧ a.f1 = marksOf hs x := by
  induction hs with
  | nil => exact absurd rfl h
  | cons a r ih =>
    unfold marksOf at h ⊢
    by_cases hax : a.f0 = x
    · rw [if_pos hax]
      exact ⟨a, List.mem_cons_self .., hax, rfl⟩
    · rw [if_neg hax] at h ⊢
      obtain ⟨b, h1, h2, h3⟩ := ih h
      exact ⟨b, List.mem_cons_of_mem _ h1, h2, h3⟩
theorem marksOf_eq {ls : List Int} {last x : Int} {hs : List HoldV} (h : holdGo ls last hs = true) {a : HoldV} (ha : a ∈ hs) (hx : a.f0 = x) : marksOf hs x = a.f1 := by
  induction hs generalizing last with
  | nil => cases ha
  | cons b r ih =>
    have hp := (holdGo_iff.1 h).2
    simp only [holdGo, Bool.and_eq_true, decide_eq_true_eq] at h
    unfold marksOf
    rcases List.mem_cons.1 ha with rfl | hm
    · rw [if_pos hx]
    · have := (List.pairwise_cons.1 hp).1 a hm
      rw [if_neg (by omega)]
      exact ih h.2 hm
theorem marksOf_range {ls : List Int} {last : Int} {hs : List HoldV} (h : holdGo ls last hs = true) (x : Int) : 0 ≤ marksOf hs x ∧ marksOf hs x ≤ 7 := by
  by_cases hz : marksOf hs x = 0
  · omega
  · obtain ⟨a, ha, _, e⟩ := marksOf_mem hz
    have := ((holdGo_iff.1 h).1 a ha).2.1
    omega
/-- what is in holds in which an id has other marks -/
theorem setH_mem {hs : List HoldV} {x m : Int} {b : HoldV} (hp : hs.Pairwise (fun a b => a.f0 < b.f0)) : b ∈ setH hs x m ↔ (b ∈ hs ∧ b.f0 ≠ x) ∨ (m ≠ 0 ∧ b = ⟨x, m⟩) := by
  induction hs with
  | nil => by_cases hm : m = 0 <;> simp [setH, hm]
  | cons a r ih =>
    have hr := (List.pairwise_cons.1 hp).2
    have ha := (List.pairwise_cons.1 hp).1
    unfold setH
    by_cases hlt : a.f0 < x
    · rw [if_pos hlt, List.mem_cons, ih hr, List.mem_cons]
      constructor
      · rintro (rfl | ⟨h1, h2⟩ | h)
        · exact .inl ⟨.inl rfl, by omega⟩
        · exact .inl ⟨.inr h1, h2⟩
        · exact .inr h
      · rintro (⟨rfl | h1, h2⟩ | h)
        · exact .inl rfl
        · exact .inr (.inl ⟨h1, h2⟩)
        · exact .inr (.inr h)
    · rw [if_neg hlt]
      have hgt : ∀ c ∈ r, c.f0 ≠ x := fun c hc => by have := ha c hc; omega
      by_cases hax : a.f0 = x
      · rw [if_pos hax]
        by_cases hm : m = 0
        · rw [if_pos hm, List.mem_cons]
          constructor
          · intro h; exact .inl ⟨.inr h, hgt b h⟩
          · rintro (⟨rfl | h1, h2⟩ | ⟨h, _⟩)
            · exact absurd hax h2
            · exact h1
            · exact absurd hm h
        · rw [if_neg hm, List.mem_cons, List.mem_cons]
          constructor
          · rintro (rfl | h)
            · exact .inr ⟨hm, rfl⟩
            · exact .inl ⟨.inr h, hgt b h⟩
          · rintro (⟨rfl | h1, h2⟩ | ⟨_, h⟩)
            · exact absurd hax h2
            · exact .inr h1
            · exact .inl h
      · rw [if_neg hax]
        have hall : ∀ c ∈ a :: r, c.f0 ≠ x := fun c hc => by
          rcases List.mem_cons.1 hc with rfl | hc
          · exact hax
          · exact hgt c hc
        by_cases hm : m = 0
        · rw [if_pos hm]
          constructor
          · intro h; exact .inl ⟨h, hall b h⟩
          · rintro (⟨h, _⟩ | ⟨h, _⟩)
            · exact h
            · exact absurd hm h
        · rw [if_neg hm]
          constructor
          · intro h
            rcases List.mem_cons.1 h with rfl | h
            · exact .inr ⟨hm, rfl⟩
            · exact .inl ⟨h, hall b h⟩
          · rintro (⟨h, _⟩ | ⟨_, rfl⟩)
            · exact List.mem_cons_of_mem _ h
            · exact List.mem_cons_self ..
theorem setH_asc {hs : List HoldV} {x m : Int} (hp : hs.Pairwise (fun a b => a.f0 < b.f0)) : (setH hs x m).Pairwise (fun a b => a.f0 < b.f0) := by
  induction hs with
  | nil => by_cases hm : m = 0 <;> simp [setH, hm]
  | cons a r ih =>
    have hr := (List.pairwise_cons.1 hp).2
    have ha := (List.pairwise_cons.1 hp).1
    unfold setH
    by_cases hlt : a.f0 < x
    · rw [if_pos hlt, List.pairwise_cons]
      refine ⟨fun b hb => ?_, ih hr⟩
      rcases (setH_mem hr).1 hb with ⟨h, _⟩ | ⟨_, rfl⟩
      · exact ha b h
      · exact hlt
    · rw [if_neg hlt]
      by_cases hax : a.f0 = x
      · rw [if_pos hax]
        by_cases hm : m = 0
        · rw [if_pos hm]; exact hr
        · rw [if_neg hm, List.pairwise_cons]
          exact ⟨fun b hb => by have := ha b hb; show x < b.f0; omega, hr⟩
      · rw [if_neg hax]
        by_cases hm : m = 0
        · rw [if_pos hm]; exact hp
        · rw [if_neg hm, List.pairwise_cons]
          refine ⟨fun b hb => ?_, hp⟩
          rcases List.mem_cons.1 hb with rfl | hb
          · show x < b.f0; omega
          · have := ha b hb; show x < b.f0; omega
theorem setH_len {ls : List Int} {last x m : Int} {hs : List HoldV} (h : holdGo ls last hs = true) : (setH hs x m).length + (if marksOf hs x = 0 then 0 else 1) = hs.length + (if m = 0 then 0 else 1) := by
  induction hs generalizing last with
  | nil => by_cases hm : m = 0 <;> simp [setH, marksOf, hm]
  | cons a r ih =>
    have hp := (holdGo_iff.1 h).2
    have hh := (holdGo_iff.1 h).1 a (List.mem_cons_self ..)
    have h' := h
    simp only [holdGo, Bool.and_eq_true, decide_eq_true_eq] at h'
    have ha := (List.pairwise_cons.1 hp).1
    unfold setH
    by_cases hlt : a.f0 < x
    · have e : marksOf (a :: r) x = marksOf r x := by rw [marksOf, if_neg (by omega)]
      rw [if_pos hlt, e, List.length_cons, List.length_cons]
      have := ih h'.2
      omega
    · rw [if_neg hlt]
      by_cases hax : a.f0 = x
      · have e : marksOf (a :: r) x = a.f1 := by rw [marksOf, if_pos hax]
        have h0 : a.f1 ≠ 0 := by omega
        rw [if_pos hax, e, if_neg h0]
        by_cases hm : m = 0 <;> simp [hm]
      · have e : marksOf (a :: r) x = 0 := by
          by_cases hz : marksOf (a :: r) x = 0
          · exact hz
          · obtain ⟨b, hb, hbx, _⟩ := marksOf_mem hz
            rcases List.mem_cons.1 hb with rfl | hb
            · exact absurd hbx hax
            · have := ha b hb; omega
        rw [if_neg hax, e, if_pos rfl]
        by_cases hm : m = 0 <;> simp [hm]
/-- marks that are set are valid just if the id is one, has not left, and the marks are 1 to 7 (or none) -/
theorem setH_ok {ls : List Int} {x m : Int} {hs : List HoldV} (h : holdGo ls 0 hs = true) : holdGo ls 0 (setH hs x m) = true ↔ (m = 0 ∨ ((1 ≤ x ∧ x ≤ 999) ∧ x ∉ ls ∧ 1 ≤ m ∧ m ≤ 7)) := by
  obtain ⟨h1, h2⟩ := holdGo_iff.1 h
  rw [holdGo_iff]
  constructor
  · rintro ⟨h3, _⟩
    by_cases hm : m = 0
    · exact .inl hm
    · have := h3 ⟨x, m⟩ ((setH_mem h2).2 (.inr ⟨hm, rfl⟩))
      exact .inr ⟨this.1, this.2.2.1, this.2.1⟩
  · intro h3
    refine ⟨fun b hb => ?_, setH_asc h2⟩
    rcases (setH_mem h2).1 hb with ⟨hb, _⟩ | ⟨hm, rfl⟩
    · exact h1 b hb
    · rcases h3 with h3 | ⟨h3, h4, h5⟩
      · exact absurd h3 hm
      · exact ⟨h3, h5, h4, by show 0 < x; omega⟩
theorem marksOf_set {ls : List Int} {last x y m : Int} {hs : List HoldV} (h : holdGo ls last hs = true) : marksOf (setH hs x m) y = if y = x then m else marksOf hs y := by
  induction hs generalizing last with
  | nil =>
    by_cases hm : m = 0
    · by_cases hy : y = x <;> simp [setH, hm, marksOf]
    · by_cases hy : y = x
      · simp [setH, hm, marksOf, hy]
      · have : ¬ x = y := fun e => hy e.symm
        simp [setH, hm, marksOf, hy, this]
  | cons a r ih =>
    have hp := (holdGo_iff.1 h).2
    have h' := h
    simp only [holdGo, Bool.and_eq_true, decide_eq_true_eq] at h'
    have ha := (List.pairwise_cons.1 hp).1
    have hno : ∀ z, a.f0 ≥ z → marksOf r z = 0 := fun z hz => by
      by_cases hzz : marksOf r z = 0
      · exact hzz
      · obtain ⟨b, hb, hbx, _⟩ := marksOf_mem hzz
        have := ha b hb; omega
    unfold setH
    by_cases hlt : a.f0 < x
    · rw [if_pos hlt, marksOf, ih h'.2, marksOf]
      by_cases hy : a.f0 = y
      · rw [if_pos hy, if_pos hy, if_neg (by omega)]
      · rw [if_neg hy, if_neg hy]
    · rw [if_neg hlt]
      by_cases hax : a.f0 = x
      · rw [if_pos hax]
        by_cases hm : m = 0
        · rw [if_pos hm, hm]
          by_cases hy : y = x
          · rw [if_pos hy]; exact hno y (by omega)
          · rw [if_neg hy, marksOf, if_neg (by omega)]
        · rw [if_neg hm, marksOf, marksOf]
          by_cases hy : y = x
          · rw [if_pos hy, if_pos (show x = y from hy.symm)]
          · rw [if_neg hy, if_neg (show ¬ x = y from fun e => hy e.symm), if_neg (by omega)]
      · rw [if_neg hax]
        have e0 : marksOf (a :: r) x = 0 := by rw [marksOf, if_neg hax]; exact hno x (by omega)
        by_cases hm : m = 0
        · rw [if_pos hm, hm]
          by_cases hy : y = x
          · rw [if_pos hy, hy]; exact e0
          · rw [if_neg hy]
        · rw [if_neg hm, marksOf]
          by_cases hy : y = x
          · rw [if_pos hy, if_pos (show x = y from hy.symm)]
          · rw [if_neg hy, if_neg (show ¬ x = y from fun e => hy e.symm)]
end Go.Proofs.Ytpkbipjnobfcdaa
