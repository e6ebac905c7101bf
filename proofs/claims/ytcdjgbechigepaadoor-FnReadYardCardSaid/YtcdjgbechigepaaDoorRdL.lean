/- Both ways of reading a text of a yard come to the same. -/
import Derived.Test.YtcdjgbechigepaaDoorRdS
namespace Go.Proofs.YtcdjgbechigepaaDoor
open Go
set_option linter.unusedVariables false
def digs (n : Nat) : List UInt8 := if n < 10 then [UInt8.ofNat (48 + n)] else if n < 100 then [UInt8.ofNat (48 + n / 10), UInt8.ofNat (48 + n % 10)] else [UInt8.ofNat (48 + n / 10 / 10), UInt8.ofNat (48 + n / 10 % 10), UInt8.ofNat (48 + n % 10)]
theorem dec_digs {n : Nat} (h : n < 1000) : Lib.decDigits n = digs n := by
  unfold digs
  by_cases h1 : n < 10
  · rw [if_pos h1, dec_small h1]
  · rw [if_neg h1, dec_big h1]
    by_cases h2 : n < 100
    · rw [if_pos h2, dec_small (by omega)]; rfl
    · rw [if_neg h2, dec_big (by omega), dec_small (by omega)]; rfl
def digOk (n : Nat) : Bool := decide (Lib.atoiAll (digs n) = .ok (n : Int)) && (decide (rdN (digs n) = (n : Int)) && ((digs n).all fun c => decide (48 ≤ c.toNat)))
theorem digs_all : (List.range 1000).all digOk = true := by decide +kernel
theorem digs_ok {n : Nat} (h : n < 1000) : atoiO (digs n) = some (n : Int) ∧ rdN (digs n) = (n : Int) ∧ ∀ c ∈ digs n, 48 ≤ c.toNat := by
  have := List.all_eq_true.1 digs_all n (List.mem_range.2 h)
  simp only [digOk, Bool.and_eq_true, decide_eq_true_eq, List.all_eq_true] at this
  exact ⟨by rw [atoiO, this.1], this.2.1, this.2.2⟩
theorem itoa_ok {x : Int} (h : 1 ≤ x ∧ x ≤ 999) : atoiO (Lib.itoa x) = some x ∧ rdN (Lib.itoa x) = x ∧ ∀ c ∈ Lib.itoa x, 48 ≤ c.toNat := by
  rw [itoa_nat (by omega), dec_digs (by omega)]
  have := digs_ok (n := x.toNat) (by omega)
  rw [show ((x.toNat : Nat) : Int) = x by omega] at this
  exact this
theorem cutB_none {c : UInt8} : ∀ {x : List UInt8}, c ∉ x → cutB c x = [x]
  | [], _ => rfl
  | b :: r, h => by
    have hb : b ≠ c := fun e => h (by rw [e]; simp)
    have := cutB_none (x := r) (fun m => h (List.mem_cons_of_mem _ m))
    simp [cutB, hb, this]
theorem cutB_sep {c : UInt8} {t : List UInt8} : ∀ {x : List UInt8}, c ∉ x → cutB c (x ++ c :: t) = x :: cutB c t
  | [], _ => by simp [cutB]
  | b :: r, h => by
    have hb : b ≠ c := fun e => h (by rw [e]; simp)
    have := cutB_sep (t := t) (x := r) (fun m => h (List.mem_cons_of_mem _ m))
    simp [cutB, hb, this]
theorem join_two (a b : List UInt8) (r : List (List UInt8)) (sep : List UInt8) : Lib.join (a :: b :: r) sep = a ++ (sep ++ Lib.join (b :: r) sep) := by simp [Lib.join, List.intercalate]
theorem join_one (a sep : List UInt8) : Lib.join [a] sep = a := by simp [Lib.join, List.intercalate]
theorem cutB_join {c : UInt8} : ∀ {xs : List (List UInt8)}, xs ≠ [] → (∀ x ∈ xs, c ∉ x) → cutB c (Lib.join xs [c]) = xs
  | [], h, _ => absurd rfl h
  | [a], _, h => by rw [join_one]; exact cutB_none (h a (by simp))
  | a :: b :: r, _, h => by
    rw [join_two]
    have := cutB_sep (t := Lib.join (b :: r) [c]) (h a (by simp))
    simp only [List.cons_append, List.nil_append]
    rw [this, cutB_join (by simp) (fun x hx => h x (List.mem_cons_of_mem _ hx))]
theorem mem_join {sep : List UInt8} {c : UInt8} : ∀ {xs : List (List UInt8)}, c ∈ Lib.join xs sep → (∃ x ∈ xs, c ∈ x) ∨ c ∈ sep
  | [], h => by rw [Lib.join_nil] at h; cases h
  | [a], h => by rw [join_one] at h; exact .inl ⟨a, by simp, h⟩
  | a :: b :: r, h => by
    rw [join_two] at h
    rcases List.mem_append.1 h with h | h
    · exact .inl ⟨a, by simp, h⟩
    · rcases List.mem_append.1 h with h | h
      · exact .inr h
      · rcases mem_join h with ⟨x, hx, h⟩ | h
        · exact .inl ⟨x, List.mem_cons_of_mem _ hx, h⟩
        · exact .inr h
theorem itoas_in {s : List Int} (h : ∀ x ∈ s, 1 ≤ x ∧ x ≤ 999) {c : UInt8} (hc : c ∈ Lib.join (s.map Lib.itoa) [44]) : 48 ≤ c.toNat ∨ c = 44 := by
  rcases mem_join hc with ⟨y, hy, hcy⟩ | hc
  · obtain ⟨x, hx, rfl⟩ := List.mem_map.1 hy
    exact .inl ((itoa_ok (h x hx)).2.2 c hcy)
  · exact .inr (by simpa using hc)
theorem rowT_not32 {s : List Int} (h : ∀ x ∈ s, 1 ≤ x ∧ x ≤ 999) : (32 : UInt8) ∉ rowT s := by
  unfold rowT
  split
  · simp
  · intro hc
    rcases itoas_in h hc with h | h
    · exact absurd h (by decide)
    · exact absurd h (by decide)
theorem row_cut {s : List Int} (h : ∀ x ∈ s, 1 ≤ x ∧ x ≤ 999) (h0 : s ≠ []) : rowT s ≠ [45] ∧ cutB 44 (rowT s) = s.map Lib.itoa := by
  unfold rowT
  rw [if_neg h0]
  constructor
  · intro e
    rcases itoas_in h (c := 45) (by rw [e]; simp) with h | h
    · exact absurd h (by decide)
    · exact absurd h (by decide)
  · refine cutB_join (by simpa using h0) (fun y hy hc => ?_)
    obtain ⟨x, hx, rfl⟩ := List.mem_map.1 hy
    exact absurd ((itoa_ok (h x hx)).2.2 _ hc) (by decide)
theorem stackS_row {s : List Int} (h : ∀ x ∈ s, 1 ≤ x ∧ x ≤ 999) : stackS (rowT s) = s := by
  by_cases h0 : s = []
  · subst h0; rfl
  · obtain ⟨h1, h2⟩ := row_cut h h0
    rw [stackS, if_neg h1, h2, List.map_map]
    conv => rhs; rw [← List.map_id s]
    exact List.map_congr_left fun x hx => (itoa_ok (h x hx)).2.1
theorem nums_row : ∀ (s p : List Int), (∀ x ∈ s, 1 ≤ x ∧ x ≤ 999) → p.length + s.length ≤ 5 → (s.map Lib.itoa).foldl numStep (some p) = some (p ++ s)
  | [], p, _, _ => by simp
  | x :: r, p, h, hl => by
    simp only [List.length_cons] at hl
    have e : numStep (some p) (Lib.itoa x) = some (p ++ [x]) := by
      simp only [numStep, (itoa_ok (h x (by simp))).1]
      rw [if_neg (by omega)]
    rw [List.map_cons, List.foldl_cons, e, nums_row r (p ++ [x]) (fun y hy => h y (List.mem_cons_of_mem _ hy)) (by simp; omega)]
    simp
theorem rdStack_row {s : List Int} (h : ∀ x ∈ s, 1 ≤ x ∧ x ≤ 999) (h5 : s.length ≤ 5) : rdStack (rowT s) = some s := by
  by_cases h0 : s = []
  · subst h0; rfl
  · obtain ⟨h1, h2⟩ := row_cut h h0
    rw [rdStack, if_neg h1, h2]
    exact nums_row s [] h (by simpa using h5)
theorem rows_rd : ∀ (rows p : List (List Int)), (∀ s ∈ rows, s.length ≤ 5 ∧ ∀ x ∈ s, 1 ≤ x ∧ x ≤ 999) → p.length + rows.length ≤ 5 → (rows.map rowT).foldl rowStep (some p) = some (p ++ rows)
  | [], p, _, _ => by simp
  | s :: r, p, h, hl => by
    simp only [List.length_cons] at hl
    obtain ⟨h5, hx⟩ := h s (by simp)
    have e : rowStep (some p) (rowT s) = some (p ++ [s]) := by
      simp only [rowStep, rdStack_row hx h5]
      rw [if_neg (by omega)]
    rw [List.map_cons, List.foldl_cons, e, rows_rd r (p ++ [s]) (fun y hy => h y (List.mem_cons_of_mem _ hy)) (by simp; omega)]
    simp
/-- the text of a valid yard, cut and read -/
theorem yard_cut {high : Int} {rows : List (List Int)} (h : yardOk high rows = true) : rdRows (cutB 32 (yardT high rows)) = some rows ∧ rowsS (cutB 32 (yardT high rows)) = rows := by
  obtain ⟨h1, h2, h3⟩ := yard_each h
  have h0 : rows ≠ [] := by
    intro e
    subst e
    simp [yardOk] at h
  have hc : cutB 32 (yardT high rows) = rows.map rowT := by
    rw [yardT, if_pos h]
    refine cutB_join (by simpa using h0) (fun y hy => ?_)
    obtain ⟨s, hs, rfl⟩ := List.mem_map.1 hy
    exact rowT_not32 (h3 s hs)
  rw [hc]
  refine ⟨rows_rd rows [] (fun s hs => ⟨h2 s hs, h3 s hs⟩) (by simpa using h1), ?_⟩
  rw [rowsS, List.map_map]
  conv => rhs; rw [← List.map_id rows]
  exact List.map_congr_left fun s hs => stackS_row (h3 s hs)
theorem rdYard_text {high : Int} {rows : List (List Int)} (h : yardOk high rows = true) : rdYard high (yardT high rows) = (high, rows, true) := by
  unfold rdYard
  rw [(yard_cut h).1]
  simp [h]
theorem rdYard_spec (high : Int) (s : List UInt8) : rdYard high s = rdYardS high s := by
  unfold rdYardS
  by_cases h : yardOk high (rowsS (cutB 32 s)) = true ∧ yardT high (rowsS (cutB 32 s)) = s
  · rw [if_pos h]
    obtain ⟨h1, h2⟩ := h
    have := rdYard_text h1
    rw [h2] at this
    exact this
  · rw [if_neg h]
    unfold rdYard
    cases hr : rdRows (cutB 32 s) with
    | none => rfl
    | some rows =>
      refine if_neg fun h2 => h ?_
      obtain ⟨h1, rfl⟩ := h2
      rw [(yard_cut h1).2]
      exact ⟨h1, rfl⟩
/-- what is read is canonical -/
theorem rdYard_ok {high : Int} {s : List UInt8} (h : (rdYard high s).2.2 = true) : (rdYard high s).1 = high ∧ yardOk high (rdYard high s).2.1 = true ∧ yardT high (rdYard high s).2.1 = s := by
  unfold rdYard at h ⊢
  cases hr : rdRows (cutB 32 s) with
  | none => simp [hr] at h
  | some rows =>
    simp only [hr] at h ⊢
    split
    · rename_i h2
      exact ⟨rfl, h2.1, h2.2⟩
    · rename_i h2
      rw [if_neg h2] at h
      cases h
end Go.Proofs.YtcdjgbechigepaaDoor
