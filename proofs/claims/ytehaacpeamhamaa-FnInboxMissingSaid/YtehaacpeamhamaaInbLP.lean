/- Laws about what an inbox does with messages, in plain words. -/
import Derived.Test.YtehaacpeamhamaaInbTP
namespace Go.Proofs.Ytehaacpeamhamaa
theorem inbGo_mk {next last : Int} {m : MessageV} {r : List MessageV} (h1 : last + 1 ≤ m.f0) (h2 : m.f0 ≤ next + 6) (h3 : 1 ≤ m.f1) (h4 : m.f1 ≤ 999) (h5 : inbGo next m.f0 r = true) : inbGo next last (m :: r) = true := by
  simp [inbGo, h1, h2, h3, h4, h5]
theorem inbGo_mono {next next' last : Int} {held : List MessageV} (h : inbGo next last held = true) (hn : next ≤ next') : inbGo next' last held = true := by
  induction held generalizing last with
  | nil => rfl
  | cons x r ih =>
    obtain ⟨a1, a2, a3, a4, a5⟩ := inbGo_cons h
    exact inbGo_mk a1 (by omega) a3 a4 (ih a5)
theorem holdM_go {next last : Int} {held : List MessageV} {m : MessageV} (h : inbGo next last held = true) (h1 : last + 1 ≤ m.f0) (h2 : m.f0 ≤ next + 6) (h3 : 1 ≤ m.f1) (h4 : m.f1 ≤ 999) : inbGo next last (holdM held m) = true := by
  induction held generalizing last with
  | nil => exact inbGo_mk h1 h2 h3 h4 rfl
  | cons x r ih =>
    obtain ⟨a1, a2, a3, a4, a5⟩ := inbGo_cons h
    by_cases c1 : x.f0 < m.f0
    · rw [holdM, if_pos c1]
      exact inbGo_mk a1 a2 a3 a4 (ih a5 (by omega))
    · by_cases c2 : x.f0 = m.f0
      · rw [holdM, if_neg c1, if_pos c2]
        exact h
      · rw [holdM, if_neg c1, if_neg c2]
        exact inbGo_mk h1 h2 h3 h4 (inbGo_mk (by omega) a2 a3 a4 a5)
theorem holdM_twice (held : List MessageV) (m : MessageV) : holdM (holdM held m) m = holdM held m := by
  induction held with
  | nil => simp [holdM]
  | cons x r ih =>
    by_cases c1 : x.f0 < m.f0
    · simp [holdM, c1, ih]
    · by_cases c2 : x.f0 = m.f0
      · simp [holdM, c2]
      · simp [holdM, c1, c2]
theorem runM_spec {next last : Int} {held : List MessageV} (h : inbGo next last held = true) (hl : next ≤ last) :
    (runM (last + 1) held).1 = last + 1 + ((runM (last + 1) held).2.2.length : Int) ∧ inbGo (runM (last + 1) held).1 (runM (last + 1) held).1 (runM (last + 1) held).2.1 = true ∧ held.length = (runM (last + 1) held).2.2.length + (runM (last + 1) held).2.1.length := by
  induction held generalizing last with
  | nil => exact ⟨by simp [runM], rfl, rfl⟩
  | cons x r ih =>
    obtain ⟨a1, a2, a3, a4, a5⟩ := inbGo_cons h
    by_cases c : x.f0 = last + 1
    · rw [runM_hit c]
      rw [c] at a5
      obtain ⟨b1, b2, b3⟩ := ih a5 (by omega)
      refine ⟨?_, b2, ?_⟩
      · simp only [List.length_cons]; omega
      · simp only [List.length_cons]; omega
    · rw [runM_miss c]
      refine ⟨by simp, inbGo_mk (by omega) (by omega) a3 a4 (inbGo_mono a5 (by omega)), by simp⟩
theorem inbOk_mk {next : Int} {held : List MessageV} (h1 : 1 ≤ next) (h2 : next ≤ 999) (h3 : inbGo next next held = true) : inbOk next held = true := by rw [inbOk_in h1 h2]; exact h3
/-- the inbox is valid behind a message; as many ids are taken as Next is greater; the same message once more changes nothing -/
theorem takeI_law {next : Int} {held : List MessageV} (m : MessageV) (h : inbOk next held = true) :
    inbOk (takeI next held m).next (takeI next held m).held = true ∧ ((takeI next held m).ids.length : Int) = (takeI next held m).next - next ∧ takeI (takeI next held m).next (takeI next held m).held m = ⟨(takeI next held m).next, (takeI next held m).held, []⟩ ∧ (takeI next held m).ids.length ≤ 7 ∧ (takeI next held m).held.length ≤ 6 := by
  obtain ⟨n1, n9, hg⟩ := inbOk_bounds h
  have hlen := inbOk_len h
  by_cases h1 : ¬ (1 ≤ m.f1 ∧ m.f1 ≤ 999) ∨ ¬ (next ≤ m.f0 ∧ m.f0 ≤ next + 6)
  · rw [takeI_out h h1]
    exact ⟨h, by simp, takeI_out h h1, by simp, hlen⟩
  · have i1 : 1 ≤ m.f1 ∧ m.f1 ≤ 999 := Decidable.byContradiction fun c => h1 (.inl c)
    have i2 : next ≤ m.f0 ∧ m.f0 ≤ next + 6 := Decidable.byContradiction fun c => h1 (.inr c)
    by_cases h2 : next < m.f0
    · rw [takeI_hold h i1 h2 i2.2]
      have hk := inbOk_mk n1 n9 (holdM_go hg (m := m) (by omega) i2.2 i1.1 i1.2)
      refine ⟨hk, by simp, ?_, by simp, inbOk_len hk⟩
      rw [takeI_hold hk i1 h2 i2.2, holdM_twice]
    · have h3 : m.f0 = next := by omega
      obtain ⟨r1, r2, r3⟩ := runM_spec hg (Int.le_refl _)
      by_cases h4 : 999 < (runM (next + 1) held).1
      · rw [takeI_far h i1 h3 h4]
        exact ⟨h, by simp, takeI_far h i1 h3 h4, by simp, hlen⟩
      · rw [takeI_run h i1 h3 h4]
        dsimp only
        have hk := inbOk_mk (by omega) (by omega) r2
        refine ⟨hk, by simp only [List.length_cons]; omega, takeI_out hk (.inr (by omega)), by simp only [List.length_cons]; omega, inbOk_len hk⟩
/-- messages, one after the other -/
def runsI (next : Int) (held : List MessageV) : List MessageV → TakeV
  | [] => ⟨next, held, []⟩
  | m :: r => ⟨(runsI (takeI next held m).next (takeI next held m).held r).next, (runsI (takeI next held m).next (takeI next held m).held r).held, (takeI next held m).ids ++ (runsI (takeI next held m).next (takeI next held m).held r).ids⟩
def runI (next : Int) (held list : List MessageV) : TakeV := if inbOk next held = false then ⟨0, [], []⟩ else runsI next held list
theorem runI_bad {next : Int} {held list : List MessageV} (h : inbOk next held = false) : runI next held list = ⟨0, [], []⟩ := by rw [runI, if_pos h]
theorem runI_ok {next : Int} {held list : List MessageV} (h : inbOk next held = true) : runI next held list = runsI next held list := by rw [runI, if_neg (by simp [h])]
theorem runsI_append (next : Int) (held a b : List MessageV) : runsI next held (a ++ b) = ⟨(runsI (runsI next held a).next (runsI next held a).held b).next, (runsI (runsI next held a).next (runsI next held a).held b).held, (runsI next held a).ids ++ (runsI (runsI next held a).next (runsI next held a).held b).ids⟩ := by
  induction a generalizing next held with
  | nil => simp [runsI]
  | cons m r ih => simp only [List.cons_append, runsI, ih, List.append_assoc]
theorem runsI_snoc (next : Int) (held a : List MessageV) (m : MessageV) : runsI next held (a ++ [m]) = ⟨(takeI (runsI next held a).next (runsI next held a).held m).next, (takeI (runsI next held a).next (runsI next held a).held m).held, (runsI next held a).ids ++ (takeI (runsI next held a).next (runsI next held a).held m).ids⟩ := by
  rw [runsI_append]
  simp [runsI]
theorem runsI_ok {next : Int} {held : List MessageV} (h : inbOk next held = true) (list : List MessageV) :
    inbOk (runsI next held list).next (runsI next held list).held = true ∧ ((runsI next held list).ids.length : Int) = (runsI next held list).next - next := by
  induction list generalizing next held with
  | nil => exact ⟨h, by simp [runsI]⟩
  | cons m r ih =>
    obtain ⟨a1, a2, _⟩ := takeI_law m h
    obtain ⟨b1, b2⟩ := ih a1
    refine ⟨b1, ?_⟩
    simp only [runsI, List.length_append]
    omega
/-- each message twice: nothing else is taken -/
def twiceM : List MessageV → List MessageV
  | [] => []
  | m :: r => m :: m :: twiceM r
theorem twiceM_append (a b : List MessageV) : twiceM (a ++ b) = twiceM a ++ twiceM b := by
  induction a with
  | nil => rfl
  | cons m r ih => simp [twiceM, ih]
theorem twiceM_len (a : List MessageV) : (twiceM a).length = 2 * a.length := by
  induction a with
  | nil => rfl
  | cons m r ih => simp [twiceM, ih]; omega
theorem runsI_twice {next : Int} {held : List MessageV} (h : inbOk next held = true) (list : List MessageV) : runsI next held (twiceM list) = runsI next held list := by
  induction list generalizing next held with
  | nil => rfl
  | cons m r ih =>
    obtain ⟨a1, _, a3, _⟩ := takeI_law m h
    simp only [twiceM, runsI, a3, List.nil_append, ih a1]
/-- the id of the message n -/
def idOf (n : Int) : Int := 1 + (n * 37 + 999) % 999
theorem idOf_in (n : Int) : 1 ≤ idOf n ∧ idOf n ≤ 999 := by unfold idOf; omega
/-- numbers from a on, n of them, by their ids -/
def idsFrom (a : Int) : Nat → List Int
  | 0 => []
  | n + 1 => idOf a :: idsFrom (a + 1) n
theorem idsFrom_len (a : Int) (n : Nat) : (idsFrom a n).length = n := by
  induction n generalizing a with
  | zero => rfl
  | succ n ih => simp [idsFrom, ih]
theorem idsFrom_at (a : Int) (n k : Nat) (h : k < (idsFrom a n).length) : (idsFrom a n)[k] = idOf (a + k) := by
  induction n generalizing a k with
  | zero => simp [idsFrom] at h
  | succ n ih =>
    cases k with
    | zero => simp [idsFrom]
    | succ k =>
      have := ih (a + 1) k (by simpa [idsFrom] using h)
      simp only [idsFrom, List.getElem_cons_succ, this]
      congr 1
      omega
theorem idsFrom_app (a : Int) (n m : Nat) : idsFrom a (n + m) = idsFrom a n ++ idsFrom (a + n) m := by
  induction n generalizing a with
  | zero => simp [idsFrom]
  | succ n ih =>
    rw [show n + 1 + m = (n + m) + 1 from by omega, idsFrom, idsFrom, ih]
    simp only [List.cons_append]
    congr 3
    omega
/-- all messages bear the ids of their numbers -/
def AllId (l : List MessageV) : Prop := ∀ m ∈ l, m.f1 = idOf m.f0
theorem holdM_id {held : List MessageV} {m : MessageV} (h : AllId held) (hm : m.f1 = idOf m.f0) : AllId (holdM held m) := by
  induction held with
  | nil => intro x hx; simp [holdM] at hx; rw [hx]; exact hm
  | cons y r ih =>
    have hr : AllId r := fun x hx => h x (List.mem_cons_of_mem _ hx)
    have hy := h y (List.mem_cons_self ..)
    intro x hx
    unfold holdM at hx
    split at hx
    · rcases List.mem_cons.1 hx with rfl | hx
      · exact hy
      · exact ih hr x hx
    · split at hx
      · exact h x hx
      · rcases List.mem_cons.1 hx with rfl | hx
        · exact hm
        · exact h x hx
theorem runM_id {held : List MessageV} (h : AllId held) (a : Int) : AllId (runM a held).2.1 ∧ (runM a held).2.2 = idsFrom a (runM a held).2.2.length := by
  induction held generalizing a with
  | nil => exact ⟨h, rfl⟩
  | cons x r ih =>
    have hr : AllId r := fun y hy => h y (List.mem_cons_of_mem _ hy)
    have hx := h x (List.mem_cons_self ..)
    by_cases c : x.f0 = a
    · rw [runM_hit c]
      obtain ⟨i1, i2⟩ := ih hr (a + 1)
      refine ⟨i1, ?_⟩
      simp only [List.length_cons, idsFrom]
      rw [← i2, hx, c]
    · rw [runM_miss c]
      exact ⟨h, rfl⟩
theorem takeI_id {next : Int} {held : List MessageV} {m : MessageV} (h : inbOk next held = true) (hh : AllId held) (hm : m.f1 = idOf m.f0) :
    AllId (takeI next held m).held ∧ (takeI next held m).ids = idsFrom next (takeI next held m).ids.length := by
  by_cases h1 : ¬ (1 ≤ m.f1 ∧ m.f1 ≤ 999) ∨ ¬ (next ≤ m.f0 ∧ m.f0 ≤ next + 6)
  · rw [takeI_out h h1]
    exact ⟨hh, rfl⟩
  · have i1 : 1 ≤ m.f1 ∧ m.f1 ≤ 999 := Decidable.byContradiction fun c => h1 (.inl c)
    have i2 : next ≤ m.f0 ∧ m.f0 ≤ next + 6 := Decidable.byContradiction fun c => h1 (.inr c)
    by_cases h2 : next < m.f0
    · rw [takeI_hold h i1 h2 i2.2]
      exact ⟨holdM_id hh hm, rfl⟩
    · have h3 : m.f0 = next := by omega
      by_cases h4 : 999 < (runM (next + 1) held).1
      · rw [takeI_far h i1 h3 h4]
        exact ⟨hh, rfl⟩
      · rw [takeI_run h i1 h3 h4]
        obtain ⟨r1, r2⟩ := runM_id hh (next + 1)
        refine ⟨r1, ?_⟩
        simp only [List.length_cons, idsFrom]
        rw [← r2, hm, h3]
/-- from an inbox without wrong ids on, the ids that are taken are those of the numbers in order -/
theorem runsI_id {next : Int} {held : List MessageV} (h : inbOk next held = true) (hh : AllId held) (list : List MessageV) (hl : AllId list) :
    (runsI next held list).ids = idsFrom next (runsI next held list).ids.length := by
  induction list generalizing next held with
  | nil => rfl
  | cons m r ih =>
    have hr : AllId r := fun y hy => hl y (List.mem_cons_of_mem _ hy)
    obtain ⟨a1, a2, _⟩ := takeI_law m h
    obtain ⟨b1, b2⟩ := takeI_id h hh (hl m (List.mem_cons_self ..))
    have c := ih a1 b1 hr
    simp only [runsI, List.length_append]
    rw [idsFrom_app, ← b2]
    congr 1
    rw [show next + ((takeI next held m).ids.length : Int) = (takeI next held m).next from by omega]
    exact c
/-- messages with these numbers -/
def comeM (l : List Int) : List MessageV := l.map fun n => ⟨n, idOf n⟩
/-- what follows: the numbers that are missing behind a run -/
theorem miss_run {next last : Int} {held : List MessageV} (h : inbGo next last held = true) :
    missGo last held = match (runM (last + 1) held).2.1 with | [] => [] | x :: r => (runM (last + 1) held).1 :: missGo (runM (last + 1) held).1 (x :: r) := by
  induction held generalizing last with
  | nil => rfl
  | cons x r ih =>
    obtain ⟨a1, a2, a3, a4, a5⟩ := inbGo_cons h
    by_cases c : x.f0 = last + 1
    · rw [runM_hit c, missGo, c, gapTo_stop (Int.le_refl _), List.nil_append]
      rw [c] at a5
      exact ih a5
    · rw [runM_miss c, missGo, gapTo_step (by omega)]
      rfl
theorem runsI_missing (k : Nat) : ∀ {next : Int} {held : List MessageV}, (missGo next held).length < k → inbOk next held = true → (∀ x ∈ held, x.f0 < 999) → next < 999 →
    (runsI next held (comeM (next :: missGo next held))).held = [] ∧ (runsI next held (comeM (next :: missGo next held))).ids.length = (next :: missGo next held).length + held.length := by
  induction k with
  | zero => intro next held hk; omega
  | succ k ih =>
    intro next held hk h hf hn
    obtain ⟨n1, n9, hg⟩ := inbOk_bounds h
    obtain ⟨r1, r2, r3⟩ := runM_spec hg (Int.le_refl _)
    have hi := idOf_in next
    have hmem : ∀ (a : Int) (l : List MessageV), ∀ x ∈ (runM a l).2.1, x ∈ l := by
      intro a l
      induction l generalizing a with
      | nil => intro x hx; exact hx
      | cons y r ih2 =>
        intro x hx
        by_cases c : y.f0 = a
        · rw [runM_hit c] at hx
          exact List.mem_cons_of_mem _ (ih2 _ x hx)
        · rw [runM_miss c] at hx
          exact hx
    have hrun : ∀ (a : Int) (l : List MessageV), (∀ x ∈ l, x.f0 < 999) → a ≤ 999 → (runM a l).1 ≤ 999 := by
      intro a l
      induction l generalizing a with
      | nil => intro _ ha; exact ha
      | cons y r ih2 =>
        intro hx ha
        by_cases c : y.f0 = a
        · rw [runM_hit c]
          have := hx y (List.mem_cons_self ..)
          exact ih2 _ (fun x hxx => hx x (List.mem_cons_of_mem _ hxx)) (by omega)
        · rw [runM_miss c]
          exact ha
    have hle := hrun (next + 1) held hf (by omega)
    have ht : takeI next held ⟨next, idOf next⟩ = ⟨(runM (next + 1) held).1, (runM (next + 1) held).2.1, idOf next :: (runM (next + 1) held).2.2⟩ := takeI_run h hi rfl (by omega)
    have hm := miss_run hg
    have hmem2 := hmem (next + 1) held
    generalize hR : runM (next + 1) held = R at *
    obtain ⟨nx, rest, ids⟩ := R
    dsimp only at *
    cases rest with
    | nil =>
      dsimp only at hm
      rw [hm]
      refine ⟨by simp [comeM, runsI, ht], ?_⟩
      simp only [comeM, List.map_cons, List.map_nil, runsI, ht, List.append_nil, List.length_cons, List.length_nil] at r3 ⊢
      omega
    | cons x r =>
      dsimp only at hm
      have hk2 := inbOk_mk (by omega) hle r2
      have hx9 : nx < 999 := by
        obtain ⟨b1, _⟩ := inbGo_cons r2
        have := hf x (hmem2 x (List.mem_cons_self ..))
        omega
      rw [hm] at hk
      have step := ih (next := nx) (held := x :: r) (by simpa using hk) hk2 (fun y hy => hf y (hmem2 y hy)) hx9
      rw [hm]
      obtain ⟨s1, s2⟩ := step
      have e : runsI next held (comeM (next :: nx :: missGo nx (x :: r))) = ⟨(runsI nx (x :: r) (comeM (nx :: missGo nx (x :: r)))).next, (runsI nx (x :: r) (comeM (nx :: missGo nx (x :: r)))).held, (idOf next :: ids) ++ (runsI nx (x :: r) (comeM (nx :: missGo nx (x :: r)))).ids⟩ := by
        show runsI next held (⟨next, idOf next⟩ :: comeM (nx :: missGo nx (x :: r))) = _
        simp only [runsI, ht]
      rw [e]
      refine ⟨s1, ?_⟩
      simp only [List.length_append, s2, List.length_cons] at r3 ⊢
      omega
end Go.Proofs.Ytehaacpeamhamaa
