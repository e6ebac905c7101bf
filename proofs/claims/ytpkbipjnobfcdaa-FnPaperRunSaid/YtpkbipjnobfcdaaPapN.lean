/- Deeds that were done, one after the other: marks are counted, and who has left does nothing more. -/
import Derived.Test.YtpkbipjnobfcdaaPapQ
namespace Go.Proofs.Ytpkbipjnobfcdaa
set_option linter.unusedVariables false
/-- a mark as a number -/
def bitI (g m : Int) : Int := g / powM m % 2
theorem bitI_of {g m : Int} : bitM g m = decide (bitI g m = 1) := rfl
theorem bitI_01 (g m : Int) : bitI g m = 0 ∨ bitI g m = 1 := by
  unfold bitI
  omega
theorem bitI_no {g m : Int} (h : bitM g m = false) : bitI g m = 0 := by
  rcases bitI_01 g m with e | e
  · exact e
  · rw [bitI_of, e] at h; cases h
theorem bitI_yes {g m : Int} (h : bitM g m = true) : bitI g m = 1 := by
  rw [bitI_of] at h
  exact of_decide_eq_true h
theorem bitI_eq {g g' m : Int} (h : bitM g m = bitM g' m) : bitI g m = bitI g' m := by
  cases hb : bitM g' m with
  | true => rw [hb] at h; rw [bitI_yes h, bitI_yes hb]
  | false => rw [hb] at h; rw [bitI_no h, bitI_no hb]
theorem bitI_zero (m : Int) : bitI 0 m = 0 := by simp [bitI]
/-- what a deed that was done adds to a mark of a box -/
def dlt (b : Bool) (d : DeedV) (x m : Int) : Int := (if b = true ∧ d.x = x ∧ d.m = m ∧ d.k = 0 then 1 else 0) - (if b = true ∧ d.x = x ∧ d.m = m ∧ d.k = 1 then 1 else 0)
theorem dlt_false (d : DeedV) (x m : Int) : dlt false d x m = 0 := by simp [dlt]
theorem step_bit {q : PapV} (h : papOkV q = true) (d : DeedV) {x m : Int} (m0 : 0 ≤ m) (m2 : m ≤ 2) :
    bitI (marksOf (pdo q d.k d.x d.m).1.hs x) m = bitI (marksOf q.hs x) m + dlt (pdo q d.k d.x d.m).2 d x m := by
  obtain ⟨h1, h2, h3, h4⟩ := papOk_iff.1 h
  rcases pdo_ways h d.k d.x d.m with ⟨e, _⟩ | ⟨k0, hx, hl, n0, n2, hb, hz, e, hk⟩ | ⟨k1, hx, hl, n0, n2, hb, e, hk⟩ | ⟨k2, hx, hl, hz, h12, e, hk⟩
  · rw [e, dlt_false, Int.add_zero]
  · obtain ⟨g0, g7⟩ := marksOf_range h1 d.x
    rw [e]
    dsimp only
    rw [marksOf_set h1]
    by_cases hxx : d.x = x
    · rw [if_pos hxx.symm, ← hxx]
      by_cases hmm : d.m = m
      · rw [← hmm, bitI_no hb, bitI_yes ((bit_facts g0 g7 n0 n2).1 hb).2.2]
        simp [dlt, k0]
      · have e1 := (bit_other g0 g7 n0 n2 m0 m2 (Ne.symm hmm)).1 hb
        rw [bitI_eq e1]
        simp [dlt, hmm]
    · rw [if_neg (Ne.symm hxx)]
      simp [dlt, hxx]
  · obtain ⟨g0, g7⟩ := marksOf_range h1 d.x
    rw [e]
    dsimp only
    rw [marksOf_set h1]
    by_cases hxx : d.x = x
    · rw [if_pos hxx.symm, ← hxx]
      by_cases hmm : d.m = m
      · rw [← hmm, bitI_yes hb, bitI_no ((bit_facts g0 g7 n0 n2).2.1 hb).2.2.1]
        simp [dlt, k1]
      · have e1 := (bit_other g0 g7 n0 n2 m0 m2 (Ne.symm hmm)).2 hb
        rw [bitI_eq e1]
        simp [dlt, hmm]
    · rw [if_neg (Ne.symm hxx)]
      simp [dlt, hxx]
  · rw [e]
    dsimp only
    simp [dlt, k2]
/-- the state ahead of deed k, and whether deed k was done -/
def stAt (p : PapV) (ds : List DeedV) (k : Nat) : PapV := (prun p (ds.take k)).1
theorem stAt_succ (p : PapV) {ds : List DeedV} {k : Nat} (h : k < ds.length) : stAt p ds (k + 1) = (pdo (stAt p ds k) (ds[k]).k (ds[k]).x (ds[k]).m).1 := by
  unfold stAt
  rw [List.take_succ_eq_append_getElem h, prun_snoc]
theorem done_at (p : PapV) (ds : List DeedV) : ∀ (k : Nat) (h : k < ds.length) (h2 : k < (prun p ds).2.length), (prun p ds).2[k] = (pdo (stAt p ds k) (ds[k]).k (ds[k]).x (ds[k]).m).2 := by
  induction ds generalizing p with
  | nil => intro k h; simp at h
  | cons d r ih =>
    intro k h h2
    cases k with
    | zero => rfl
    | succ k =>
      have := ih (pdo p d.k d.x d.m).1 k (by simpa using h) (by simpa [prun] using h2)
      simpa [prun, stAt] using this
theorem stAt_ok {p : PapV} (h : papOkV p = true) (ds : List DeedV) (k : Nat) : papOkV (stAt p ds k) = true := prun_ok h _
/-- a mark of a box, counted up to deed k -/
def cnt (p : PapV) (ds : List DeedV) (bs : List Bool) (x m : Int) : Nat → Int
  | 0 => bitI (marksOf p.hs x) m
  | k + 1 => cnt p ds bs x m k + dlt (bs.getD k false) (ds.getD k ⟨0, 0, 0⟩) x m
theorem dlt_bd (b : Bool) (d : DeedV) (x m : Int) : -1 ≤ dlt b d x m ∧ dlt b d x m ≤ 1 := by
  unfold dlt
  split <;> split <;> omega
theorem cnt_bd (p : PapV) (ds : List DeedV) (bs : List Bool) (x m : Int) (k : Nat) : -(k : Int) ≤ cnt p ds bs x m k ∧ cnt p ds bs x m k ≤ (k : Int) + 1 := by
  induction k with
  | zero =>
    show _ ≤ bitI _ _ ∧ bitI _ _ ≤ _
    rcases bitI_01 (marksOf p.hs x) m with e | e <;> omega
  | succ k ih =>
    have := dlt_bd (bs.getD k false) (ds.getD k ⟨0, 0, 0⟩) x m
    show _ ≤ cnt p ds bs x m k + _ ∧ cnt p ds bs x m k + _ ≤ _
    omega
theorem cnt_eq {p : PapV} (h : papOkV p = true) {ds : List DeedV} {x m : Int} (m0 : 0 ≤ m) (m2 : m ≤ 2) : ∀ k, k ≤ ds.length → cnt p ds (prun p ds).2 x m k = bitI (marksOf (stAt p ds k).hs x) m := by
  intro k
  induction k with
  | zero => intro _; rfl
  | succ k ih =>
    intro hk
    have hk' : k < ds.length := by omega
    have hb : k < (prun p ds).2.length := by rw [prun_len]; exact hk'
    show cnt p ds (prun p ds).2 x m k + _ = _
    rw [ih (by omega), stAt_succ p hk', step_bit (stAt_ok h ds k) ds[k] m0 m2, List.getD, List.getElem?_eq_getElem hb, List.getD, List.getElem?_eq_getElem hk', done_at p ds k hk' hb]
    rfl
/-- who leaves bears no mark -/
theorem leave_zero {p : PapV} (h : papOkV p = true) {ds : List DeedV} {k : Nat} (hk : k < ds.length) (hb : k < (prun p ds).2.length) (hd : (prun p ds).2[k] = true) (h2 : (ds[k]).k = 2) {m : Int} (m0 : 0 ≤ m) (m2 : m ≤ 2) : cnt p ds (prun p ds).2 (ds[k]).x m k = 0 := by
  rw [cnt_eq h m0 m2 k (by omega)]
  rw [done_at p ds k hk hb] at hd
  rcases pdo_ways (stAt_ok h ds k) (ds[k]).k (ds[k]).x (ds[k]).m with ⟨e, _⟩ | ⟨e, _⟩ | ⟨e, _⟩ | ⟨_, _, _, hz, _⟩
  · rw [e] at hd; cases hd
  · omega
  · omega
  · rw [hz, bitI_zero]
theorem left_stays {q : PapV} (h : papOkV q = true) (k x m : Int) {y : Int} (hy : y ∈ q.ls) : y ∈ (pdo q k x m).1.ls := by
  rcases pdo_ways h k x m with ⟨e, _⟩ | ⟨_, _, _, _, _, _, _, e, _⟩ | ⟨_, _, _, _, _, _, e, _⟩ | ⟨_, _, _, _, _, e, _⟩ <;> rw [e]
  · exact hy
  · exact hy
  · exact hy
  · exact insL_mem.2 (.inr hy)
theorem left_later {p : PapV} (h : papOkV p = true) {ds : List DeedV} {y : Int} {k : Nat} (hy : y ∈ (stAt p ds k).ls) : ∀ j, k ≤ j → j ≤ ds.length → y ∈ (stAt p ds j).ls := by
  intro j hkj
  induction j with
  | zero =>
    intro _
    have hk0 : k = 0 := by omega
    subst hk0
    exact hy
  | succ j ih =>
    intro hj
    by_cases e : k = j + 1
    · exact e ▸ hy
    · rw [stAt_succ p (show j < ds.length by omega)]
      exact left_stays (stAt_ok h ds j) _ _ _ (ih (by omega) (by omega))
/-- who has left does nothing more -/
theorem leave_last {p : PapV} (h : papOkV p = true) {ds : List DeedV} {k j : Nat} (hk : k < ds.length) (hj : j < ds.length) (hkj : k < j) (hb : k < (prun p ds).2.length) (hbj : j < (prun p ds).2.length) (hd : (prun p ds).2[k] = true) (h2 : (ds[k]).k = 2) (hdj : (prun p ds).2[j] = true) : (ds[j]).x ≠ (ds[k]).x := by
  intro hxx
  rw [done_at p ds k hk hb] at hd
  rw [done_at p ds j hj hbj] at hdj
  have hin : (ds[k]).x ∈ (stAt p ds (k + 1)).ls := by
    rw [stAt_succ p hk]
    rcases pdo_ways (stAt_ok h ds k) (ds[k]).k (ds[k]).x (ds[k]).m with ⟨e, _⟩ | ⟨e, _⟩ | ⟨e, _⟩ | ⟨_, _, _, _, _, e, _⟩
    · rw [e] at hd; cases hd
    · omega
    · omega
    · rw [e]
      exact insL_mem.2 (.inl rfl)
  have hin2 := left_later h hin j (by omega) (by omega)
  rw [← hxx] at hin2
  have hl : hasI (stAt p ds j).ls (ds[j]).x = true := hasI_iff2.2 hin2
  rcases pdo_ways (stAt_ok h ds j) (ds[j]).k (ds[j]).x (ds[j]).m with ⟨e, _⟩ | ⟨_, _, hl2, _⟩ | ⟨_, _, hl2, _⟩ | ⟨_, _, hl2, _⟩
  · rw [e] at hdj; cases hdj
  · rw [hl] at hl2; cases hl2
  · rw [hl] at hl2; cases hl2
  · rw [hl] at hl2; cases hl2
end Go.Proofs.Ytpkbipjnobfcdaa
