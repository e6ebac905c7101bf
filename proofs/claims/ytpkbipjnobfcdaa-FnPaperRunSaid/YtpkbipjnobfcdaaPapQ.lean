/- Deeds of papers, plain laws. -/
import Derived.Test.YtpkbipjnobfcdaaPapP
namespace Go.Proofs.Ytpkbipjnobfcdaa
set_option linter.unusedVariables false
theorem papOk_iff {hs : List HoldV} {ls : List Int} : papOk hs ls = true ↔ holdGo ls 0 hs = true ∧ leftGo 0 ls = true ∧ hs.length ≤ 12 ∧ ls.length ≤ 12 := by
  simp only [papOk, Bool.and_eq_true, decide_eq_true_eq]
  constructor
  · rintro ⟨⟨h1, h2⟩, h3, h4⟩; exact ⟨h1, h2, by omega, by omega⟩
  · rintro ⟨h1, h2, h3, h4⟩; exact ⟨⟨h1, h2⟩, by omega, by omega⟩
/-- marks 0 to 7 and a mark 0 to 2 -/
theorem bit_facts {x m : Int} (h0 : 0 ≤ x) (h7 : x ≤ 7) (m0 : 0 ≤ m) (m2 : m ≤ 2) :
    (bitM x m = false → 1 ≤ x + powM m ∧ x + powM m ≤ 7 ∧ bitM (x + powM m) m = true) ∧ (bitM x m = true → 0 ≤ x - powM m ∧ x - powM m ≤ 7 ∧ bitM (x - powM m) m = false ∧ x ≠ 0) ∧ 1 ≤ powM m := by
  have hm : m = 0 ∨ m = 1 ∨ m = 2 := by omega
  have hx : x = 0 ∨ x = 1 ∨ x = 2 ∨ x = 3 ∨ x = 4 ∨ x = 5 ∨ x = 6 ∨ x = 7 := by omega
  rcases hm with rfl | rfl | rfl <;> rcases hx with rfl | rfl | rfl | rfl | rfl | rfl | rfl | rfl <;> decide
/-- the other marks stay -/
theorem bit_other {x m k : Int} (h0 : 0 ≤ x) (h7 : x ≤ 7) (m0 : 0 ≤ m) (m2 : m ≤ 2) (k0 : 0 ≤ k) (k2 : k ≤ 2) (hk : k ≠ m) :
    (bitM x m = false → bitM (x + powM m) k = bitM x k) ∧ (bitM x m = true → bitM (x - powM m) k = bitM x k) := by
  have hm : m = 0 ∨ m = 1 ∨ m = 2 := by omega
  have hkk : k = 0 ∨ k = 1 ∨ k = 2 := by omega
  have hx : x = 0 ∨ x = 1 ∨ x = 2 ∨ x = 3 ∨ x = 4 ∨ x = 5 ∨ x = 6 ∨ x = 7 := by omega
  rcases hm with rfl | rfl | rfl <;> rcases hkk with rfl | rfl | rfl <;> first | exact absurd rfl hk | (rcases hx with rfl | rfl | rfl | rfl | rfl | rfl | rfl | rfl <;> decide)
theorem bit_zero (m : Int) : bitM 0 m = false := by simp [bitM]
theorem holdGo_left {hs : List HoldV} {ls : List Int} {x last : Int} (h : holdGo ls last hs = true) (hx : marksOf hs x = 0) : holdGo (insL ls x) last hs = true := by
  obtain ⟨h1, h2⟩ := holdGo_iff.1 h
  refine holdGo_iff.2 ⟨fun a ha => ?_, h2⟩
  obtain ⟨b1, b2, b3, b4⟩ := h1 a ha
  refine ⟨b1, b2, fun hm => ?_, b4⟩
  rcases insL_mem.1 hm with e | hm
  · have := marksOf_eq h ha e
    omega
  · exact b3 hm
theorem leftGo_ins {ls : List Int} {x : Int} (h : leftGo 0 ls = true) (hx : 1 ≤ x ∧ x ≤ 999) (hn : x ∉ ls) : leftGo 0 (insL ls x) = true := by
  obtain ⟨h1, h2⟩ := leftGo_iff.1 h
  refine leftGo_iff.2 ⟨fun b hb => ?_, insL_asc h2 hn⟩
  rcases insL_mem.1 hb with rfl | hb
  · exact ⟨hx, by omega⟩
  · exact h1 b hb
theorem idI_iff2 {x : Int} : idI x = true ↔ 1 ≤ x ∧ x ≤ 999 := by simp [idI]
theorem hasI_iff2 {ls : List Int} {x : Int} : hasI ls x = true ↔ x ∈ ls := by simp [hasI]
theorem hasI_no2 {ls : List Int} {x : Int} : hasI ls x = false ↔ x ∉ ls := by simp [hasI]
theorem markOk_iff {k m : Int} : markOk k m = true ↔ k = 2 ∨ (0 ≤ m ∧ m ≤ 2) := by simp [markOk]
/-- the four ways of a deed -/
theorem pdo_ways {p : PapV} (h : papOkV p = true) (k x m : Int) :
    (pdo p k x m = (p, false) ∧ ¬ (idI x = true ∧ hasI p.ls x = false ∧ ((k = 0 ∧ (0 ≤ m ∧ m ≤ 2) ∧ bitM (marksOf p.hs x) m = false ∧ ¬ (marksOf p.hs x = 0 ∧ p.hs.length = 12)) ∨ (k = 1 ∧ (0 ≤ m ∧ m ≤ 2) ∧ bitM (marksOf p.hs x) m = true) ∨ (k = 2 ∧ marksOf p.hs x = 0 ∧ p.ls.length < 12)))) ∨
    (k = 0 ∧ idI x = true ∧ hasI p.ls x = false ∧ 0 ≤ m ∧ m ≤ 2 ∧ bitM (marksOf p.hs x) m = false ∧ ¬ (marksOf p.hs x = 0 ∧ p.hs.length = 12) ∧ pdo p k x m = (⟨setH p.hs x (marksOf p.hs x + powM m), p.ls⟩, true) ∧ papOk (setH p.hs x (marksOf p.hs x + powM m)) p.ls = true) ∨
    (k = 1 ∧ idI x = true ∧ hasI p.ls x = false ∧ 0 ≤ m ∧ m ≤ 2 ∧ bitM (marksOf p.hs x) m = true ∧ pdo p k x m = (⟨setH p.hs x (marksOf p.hs x - powM m), p.ls⟩, true) ∧ papOk (setH p.hs x (marksOf p.hs x - powM m)) p.ls = true) ∨
    (k = 2 ∧ idI x = true ∧ hasI p.ls x = false ∧ marksOf p.hs x = 0 ∧ p.ls.length < 12 ∧ pdo p k x m = (⟨p.hs, insL p.ls x⟩, true) ∧ papOk p.hs (insL p.ls x) = true) := by
  obtain ⟨h1, h2, h3, h4⟩ := papOk_iff.1 h
  obtain ⟨g0, g7⟩ := marksOf_range h1 x
  by_cases hid : ((idI x && !hasI p.ls x) && markOk k m) = true
  · have hid2 := hid
    simp only [Bool.and_eq_true, Bool.not_eq_true'] at hid2
    obtain ⟨⟨hx, hl⟩, hmk⟩ := hid2
    have hx' := idI_iff2.1 hx
    have hl' := hasI_no2.1 hl
    unfold pdo
    rw [if_pos hid]
    by_cases k0 : k = 0
    · have hm := (markOk_iff.1 hmk).resolve_left (by omega)
      obtain ⟨b1, b2, b3⟩ := bit_facts g0 g7 hm.1 hm.2
      rw [if_pos k0]
      by_cases hb : (bitM (marksOf p.hs x) m || (decide (marksOf p.hs x = 0) && decide (p.hs.length = 12))) = true
      · rw [if_pos hb]
        refine .inl ⟨rfl, fun hc => ?_⟩
        obtain ⟨_, _, hc⟩ := hc
        simp only [Bool.or_eq_true, Bool.and_eq_true, decide_eq_true_eq] at hb
        rcases hc with ⟨_, _, hc1, hc2⟩ | ⟨hc, _⟩ | ⟨hc, _⟩
        · rcases hb with hb | hb
          · rw [hb] at hc1; cases hc1
          · exact hc2 hb
        · omega
        · omega
      · rw [if_neg hb]
        have hb1 : bitM (marksOf p.hs x) m = false := by
          cases hbb : bitM (marksOf p.hs x) m with
          | false => rfl
          | true => rw [hbb] at hb; simp at hb
        have hb2 : ¬ (marksOf p.hs x = 0 ∧ p.hs.length = 12) := fun e => hb (by simp [e.1, e.2])
        refine .inr (.inl ⟨k0, hx, hl, hm.1, hm.2, hb1, hb2, rfl, papOk_iff.2 ⟨(setH_ok h1).2 (.inr ⟨hx', hl', (b1 hb1).1, (b1 hb1).2.1⟩), h2, ?_, h4⟩⟩)
        have hlen := setH_len (x := x) (m := marksOf p.hs x + powM m) h1
        have hne : marksOf p.hs x + powM m ≠ 0 := by have := (b1 hb1).1; omega
        rw [if_neg hne] at hlen
        by_cases hz : marksOf p.hs x = 0
        · rw [if_pos hz] at hlen
          have : p.hs.length ≠ 12 := fun e => hb2 ⟨hz, e⟩
          omega
        · rw [if_neg hz] at hlen
          omega
    · rw [if_neg k0]
      by_cases k1 : k = 1
      · have hm := (markOk_iff.1 hmk).resolve_left (by omega)
        obtain ⟨b1, b2, b3⟩ := bit_facts g0 g7 hm.1 hm.2
        rw [if_pos k1]
        cases hb : bitM (marksOf p.hs x) m with
        | false =>
          rw [if_neg (by simp)]
          refine .inl ⟨rfl, fun hc => ?_⟩
          obtain ⟨_, _, hc⟩ := hc
          rcases hc with ⟨hc, _⟩ | ⟨_, _, hc⟩ | ⟨hc, _⟩
          · omega
          · cases hc
          · omega
        | true =>
          rw [if_pos rfl]
          refine .inr (.inr (.inl ⟨k1, hx, hl, hm.1, hm.2, rfl, rfl, papOk_iff.2 ⟨(setH_ok h1).2 ?_, h2, ?_, h4⟩⟩))
          · by_cases hz : marksOf p.hs x - powM m = 0
            · exact .inl hz
            · have := b2 hb
              exact .inr ⟨hx', hl', by omega, this.2.1⟩
          · have hlen := setH_len (x := x) (m := marksOf p.hs x - powM m) h1
            rw [if_neg (b2 hb).2.2.2] at hlen
            split at hlen <;> omega
      · rw [if_neg k1]
        by_cases k2 : k = 2
        · rw [if_pos k2]
          by_cases hb : (decide (marksOf p.hs x = 0) && decide (p.ls.length < 12)) = true
          · rw [if_pos hb]
            simp only [Bool.and_eq_true, decide_eq_true_eq] at hb
            exact .inr (.inr (.inr ⟨k2, hx, hl, hb.1, hb.2, rfl, papOk_iff.2 ⟨holdGo_left h1 hb.1, leftGo_ins h2 hx' hl', h3, by rw [insL_len]; omega⟩⟩))
          · rw [if_neg hb]
            refine .inl ⟨rfl, fun hc => ?_⟩
            obtain ⟨_, _, hc⟩ := hc
            rcases hc with ⟨hc, _⟩ | ⟨hc, _⟩ | ⟨_, hc1, hc2⟩
            · omega
            · omega
            · exact hb (by simp [hc1, hc2])
        · rw [if_neg k2]
          refine .inl ⟨rfl, fun hc => ?_⟩
          obtain ⟨_, _, hc⟩ := hc
          rcases hc with ⟨hc, _⟩ | ⟨hc, _⟩ | ⟨hc, _⟩ <;> omega
  · unfold pdo
    rw [if_neg hid]
    refine .inl ⟨rfl, fun hc => hid ?_⟩
    obtain ⟨hx, hl, hc⟩ := hc
    simp only [Bool.and_eq_true, Bool.not_eq_true']
    refine ⟨⟨hx, hl⟩, markOk_iff.2 ?_⟩
    rcases hc with ⟨_, hc, _⟩ | ⟨_, hc, _⟩ | ⟨hc, _⟩
    · exact .inr hc
    · exact .inr hc
    · exact .inl hc
theorem pdo_ok {p : PapV} (h : papOkV p = true) (k x m : Int) : papOkV (pdo p k x m).1 = true := by
  rcases pdo_ways h k x m with ⟨e, _⟩ | ⟨_, _, _, _, _, _, _, e, hk⟩ | ⟨_, _, _, _, _, _, e, hk⟩ | ⟨_, _, _, _, _, e, hk⟩ <;> rw [e]
  · exact h
  · exact hk
  · exact hk
  · exact hk
/-- the reference's way -/
def sdo (p : PapV) (k x m : Int) : PapV × Bool :=
  if k = 0 ∧ markOk k m = true ∧ hasI p.ls x = false ∧ bitM (marksOf p.hs x) m = false then
    if papOk (setH p.hs x (marksOf p.hs x + powM m)) p.ls then (⟨setH p.hs x (marksOf p.hs x + powM m), p.ls⟩, true) else (p, false)
  else if k = 1 ∧ markOk k m = true ∧ bitM (marksOf p.hs x) m = true then
    if papOk (setH p.hs x (marksOf p.hs x - powM m)) p.ls then (⟨setH p.hs x (marksOf p.hs x - powM m), p.ls⟩, true) else (p, false)
  else if k = 2 ∧ hasI p.ls x = false ∧ marksOf p.hs x = 0 then
    if papOk p.hs (insL p.ls x) then (⟨p.hs, insL p.ls x⟩, true) else (p, false)
  else (p, false)
theorem sdo_eq {p : PapV} (h : papOkV p = true) (k x m : Int) : sdo p k x m = pdo p k x m := by
  obtain ⟨h1, h2, h3, h4⟩ := papOk_iff.1 h
  obtain ⟨g0, g7⟩ := marksOf_range h1 x
  rcases pdo_ways h k x m with ⟨e, hno⟩ | ⟨k0, hx, hl, m0, m2, hb, hz, e, hk⟩ | ⟨k1, hx, hl, m0, m2, hb, e, hk⟩ | ⟨k2, hx, hl, hz, h12, e, hk⟩
  · rw [e]
    unfold sdo
    by_cases c0 : k = 0 ∧ markOk k m = true ∧ hasI p.ls x = false ∧ bitM (marksOf p.hs x) m = false
    · rw [if_pos c0]
      obtain ⟨k0, hmk, hl, hb⟩ := c0
      have hm := (markOk_iff.1 hmk).resolve_left (by omega)
      obtain ⟨b1, _, _⟩ := bit_facts g0 g7 hm.1 hm.2
      rw [if_neg]
      intro hk
      obtain ⟨q1, _, q3, _⟩ := papOk_iff.1 hk
      have hne : marksOf p.hs x + powM m ≠ 0 := by have := (b1 hb).1; omega
      have hq := (setH_ok h1).1 q1
      rcases hq with hq | ⟨hq, _⟩
      · exact hne hq
      refine hno ⟨idI_iff2.2 hq, hl, .inl ⟨k0, hm, hb, fun hc => ?_⟩⟩
      have hlen := setH_len (x := x) (m := marksOf p.hs x + powM m) h1
      rw [if_neg hne, if_pos hc.1] at hlen
      omega
    · rw [if_neg c0]
      by_cases c1 : k = 1 ∧ markOk k m = true ∧ bitM (marksOf p.hs x) m = true
      · exfalso
        obtain ⟨k1, hmk, hb⟩ := c1
        have hm := (markOk_iff.1 hmk).resolve_left (by omega)
        obtain ⟨_, b2, _⟩ := bit_facts g0 g7 hm.1 hm.2
        obtain ⟨a, ha, hax, _⟩ := marksOf_mem (b2 hb).2.2.2
        obtain ⟨a1, _, a3, _⟩ := (holdGo_iff.1 h1).1 a ha
        rw [hax] at a1 a3
        exact hno ⟨idI_iff2.2 a1, hasI_no2.2 a3, .inr (.inl ⟨k1, hm, hb⟩)⟩
      · rw [if_neg c1]
        by_cases c2 : k = 2 ∧ hasI p.ls x = false ∧ marksOf p.hs x = 0
        · rw [if_pos c2]
          obtain ⟨k2, hl, hz⟩ := c2
          rw [if_neg]
          intro hk
          obtain ⟨_, q2, _, q4⟩ := papOk_iff.1 hk
          rw [insL_len] at q4
          have hx := (leftGo_iff.1 q2).1 x (insL_mem.2 (.inl rfl))
          exact hno ⟨idI_iff2.2 hx.1, hl, .inr (.inr ⟨k2, hz, by omega⟩)⟩
        · rw [if_neg c2]
  · rw [e]
    unfold sdo
    rw [if_pos ⟨k0, markOk_iff.2 (.inr ⟨m0, m2⟩), hl, hb⟩, if_pos hk]
  · rw [e]
    unfold sdo
    rw [if_neg (by intro c; omega), if_pos ⟨k1, markOk_iff.2 (.inr ⟨m0, m2⟩), hb⟩, if_pos hk]
  · rw [e]
    unfold sdo
    rw [if_neg (by intro c; omega), if_neg (by intro c; omega), if_pos ⟨k2, hl, hz⟩, if_pos hk]
/-- deeds, one after the other -/
structure DeedV where
  k : Int
  x : Int
  m : Int
def prun (p : PapV) : List DeedV → PapV × List Bool
  | [] => (p, [])
  | d :: r => ((prun (pdo p d.k d.x d.m).1 r).1, (pdo p d.k d.x d.m).2 :: (prun (pdo p d.k d.x d.m).1 r).2)
theorem prun_len (p : PapV) (ds : List DeedV) : (prun p ds).2.length = ds.length := by
  induction ds generalizing p with
  | nil => rfl
  | cons d r ih => simp [prun, ih]
theorem prun_app (p : PapV) (a b : List DeedV) : prun p (a ++ b) = ((prun (prun p a).1 b).1, (prun p a).2 ++ (prun (prun p a).1 b).2) := by
  induction a generalizing p with
  | nil => rfl
  | cons d r ih => simp [prun, ih]
theorem prun_snoc (p : PapV) (a : List DeedV) (d : DeedV) : prun p (a ++ [d]) = ((pdo (prun p a).1 d.k d.x d.m).1, (prun p a).2 ++ [(pdo (prun p a).1 d.k d.x d.m).2]) := by
  rw [prun_app]
  rfl
theorem prun_ok {p : PapV} (h : papOkV p = true) (ds : List DeedV) : papOkV (prun p ds).1 = true := by
  induction ds generalizing p with
  | nil => exact h
  | cons d r ih => exact ih (pdo_ok h d.k d.x d.m)
end Go.Proofs.Ytpkbipjnobfcdaa
