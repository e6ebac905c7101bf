/- Yards: what a taking gives, in plain words; the parts of the taking. -/
import Derived.Test.YtcbeoaedccdppaaYdD
import Derived.Test.YtcbeoaedccdppaaYdV
import Derived.StillTailTactics
namespace Go.Proofs.Ytcbeoaedccdppaa
open Go Go.ChangeShapes Go.WideShapes Go.ChangeAt Go.RowKit
set_option linter.unusedVariables false
/-- a row of its own, made shorter -/
theorem own_take {w : World} {base : Nat} {e : TypeId} {A : Option Addr} {n c m : Nat} {xs : List Value} (h : w.ownsRow base e 1 (.slice A n c) n xs) (hm : m ≤ n) : w.ownsRow base e 1 (.slice A m c) m (xs.take m) := by
  have hl := h.1
  rcases h.2 with ⟨hv, hn⟩ | ⟨g, cap, cur, hv, hb, hg, h1, h2, h3, h4⟩
  · subst hn
    obtain rfl : m = 0 := by omega
    rw [List.take_zero]
    injection hv with e1 e2 e3
    subst e1 e3
    exact World.ownsRow_nil _ _ _ _
  · injection hv with e1 e2 e3
    subst e1 e3
    refine ⟨by rw [List.length_take]; omega, .inr ⟨g, c, cur, rfl, hb, hg, by omega, h2, h3, ?_⟩⟩
    rw [← h4, List.take_take, Nat.mul_one, Nat.mul_one, Nat.min_eq_left hm]
/-- which yard and which box a taking gives -/
def ytake (high : Int) (rows : List (List Int)) (i : Int) : Int × List (List Int) × Int :=
  if yardOk high rows = false then (0, [], -1)
  else if h : (0 ≤ i ∧ i < rows.length) ∧ (rows.getD i.toNat []) ≠ [] then (high, rows.set i.toNat (rows.getD i.toNat []).dropLast, (rows.getD i.toNat []).getLast h.2)
  else (high, rows, -1)
/-- the answer, in memory of the call's own -/
def YTOut (w : World) (x : Int × List (List Int) × Int) : Ending → World → Prop :=
  RVal fun u w' => ∃ A c, u = .tuple #[.agg #[.int .i64 x.1, .slice A x.2.1.length c], .int .i64 x.2.2] ∧ OwnRR w' w.heap.size w'.heap.size 37 3 (.slice A x.2.1.length c) (intss x.2.1) ∧ Below w.heap.size w w'
theorem ytake_bad {high : Int} {rows : List (List Int)} (i : Int) (h : yardOk high rows = false) : ytake high rows i = (0, [], -1) := by rw [ytake, if_pos h]
theorem ytake_no {high : Int} {rows : List (List Int)} {i : Int} (h : yardOk high rows = true) (h2 : ¬ ((0 ≤ i ∧ i < rows.length) ∧ (rows.getD i.toNat []) ≠ [])) : ytake high rows i = (high, rows, -1) := by rw [ytake, if_neg (by simp [h]), dif_neg h2]
theorem ytake_yes {high : Int} {rows : List (List Int)} {k : Nat} (h : yardOk high rows = true) (hk : k < rows.length) (hz : rows[k] ≠ []) : ytake high rows (k : Int) = (high, rows.set k rows[k].dropLast, rows[k].getLast hz) := by
  have e : rows.getD k [] = rows[k] := by rw [List.getD_eq_getElem?_getD, List.getElem?_eq_getElem hk]; rfl
  rw [ytake, if_neg (by simp [h]), dif_pos (by rw [Int.toNat_natCast, e]; exact ⟨by omega, hz⟩)]
  simp only [Int.toNat_natCast, e]
theorem yardHas (high : Int) (A : Option Addr) (n c : Nat) (i : Int) (w : World) (hm : n ≤ 1048576) :
    Calls Try.prog 31 #[.agg #[.int .i64 high, .slice A n c], .int .i64 i] w fun e w' => e = .returned (.bool (inI i 0 ((n : Int) - 1))) ∧ Below w.heap.size w w' := by
  have hbl : Below w.heap.size w (w.alloc (.cells #[.int .i64 high, .slice A n c] 27)) := (Below.refl _ _).alloc (Nat.le_refl _) _
  have e1 : IntKind.i64.wrap ((n : Int) - 1) = (n : Int) - 1 := IntWalk.i64_in _ (by omega)
  go_enter Try.func31, Try.ntmps31
  go_wp2_with fail
  refine (within_any i 0 ((n : Int) - 1) _).mono ?_
  rintro e w' ⟨rfl, rfl⟩
  go_wp2_with fail
  go_ret
  exact ⟨rfl, hbl⟩
theorem inI_no {i : Int} {n : Nat} (h : inI i 0 ((n : Int) - 1) = false) : ¬ (0 ≤ i ∧ i < n) := by simp [inI] at h; omega
theorem inI_yes {i : Int} {n : Nat} (h : inI i 0 ((n : Int) - 1) = true) : ∃ k : Nat, i = (k : Int) ∧ k < n := by
  simp [inI] at h
  exact ⟨i.toNat, by omega, by omega⟩
theorem ints_take (zs : List Int) (m : Nat) : (ints zs).take m = ints (zs.take m) := by simp [ints]
/-- the highest box of a row of its own is taken away -/
theorem OwnRR.pop {w : World} {lo hi : Nat} {A : Option Addr} {n c : Nat} {rows : List (List Int)} (h : OwnRR w lo hi 37 3 (.slice A n c) (intss rows)) {k : Nat} (hk : k < rows.length) (hz : rows[k] ≠ []) :
    ∃ g b c', A = some ⟨g, 0, none⟩ ∧ lo ≤ g ∧ g < hi ∧ g < w.heap.size ∧ b < w.heap.size ∧ lo ≤ b ∧ w.cell? ⟨g, k, none⟩ = some (.slice (some ⟨b, 0, none⟩) (rows[k]).length c') ∧ w.frozen? ⟨g, k, none⟩ = false ∧ (rows[k]).length ≤ c' ∧ w.cell? ⟨b, (rows[k]).length - 1, none⟩ = some (.int .i64 (rows[k].getLast hz)) ∧
      OwnRR (w.setCell ⟨g, k, none⟩ (.slice (some ⟨b, 0, none⟩) ((rows[k]).length - 1) c')) lo (w.setCell ⟨g, k, none⟩ (.slice (some ⟨b, 0, none⟩) ((rows[k]).length - 1) c')).heap.size 37 3 (.slice A n c) (intss (rows.set k rows[k].dropLast)) ∧ Out lo hi w (w.setCell ⟨g, k, none⟩ (.slice (some ⟨b, 0, none⟩) ((rows[k]).length - 1) c')) := by
  have hkl : k < (intss rows).length := by rw [intss_len]; exact hk
  have htop : hi ≤ w.heap.size := by obtain ⟨hs, h1, _⟩ := h; exact h1.top
  obtain ⟨g, cc, B, c', hv, h1, h2, h3, h4, h5, h6, h7⟩ := h.put hkl
  rw [intss_at, ints_len] at h5
  simp only [intss_at, ints_len] at h3 h6 h7
  injection hv with e1 e2 e3
  have hpos : 0 < (rows[k]).length := List.length_pos_iff.2 hz
  rcases own_form h5.row with ⟨e, h0, _⟩ | ⟨b, c2, e, hb1, hb2, hb3⟩
  · omega
  injection e with eB _ ec
  subst eB ec
  have hrow := own_take h5.row (m := (rows[k]).length - 1) (by omega)
  rw [ints_take, ← List.dropLast_eq_take] at hrow
  have hcell := h5.row.cellAt ((rows[k]).length - 1) (by omega)
  rw [List.getElem?_eq_getElem (by rw [ints_len]; omega), ints_at, ← List.getLast_eq_getElem hz] at hcell
  obtain ⟨p1, p2⟩ := h7 w (.slice (some ⟨b, 0, none⟩) ((rows[k]).length - 1) c') (ints rows[k].dropLast) (World.grownBy.refl _ _) (by rw [ints_len, List.length_dropLast]; exact hrow) (.inl rfl)
  have es : (intss rows).set k (ints rows[k].dropLast) = intss (rows.set k rows[k].dropLast) := by simp [intss, List.map_set]
  rw [es] at p1
  exact ⟨g, b, c', e1, h1, h2, by omega, hb2, hb1, h3, h4, hb3, hcell, p1, p2⟩
set_option maxRecDepth 100000 in
set_option maxHeartbeats 2000000 in
theorem yardPop (high : Int) (A : Option Addr) (n c k lo hi : Nat) (rows : List (List Int)) (w : World) (hn : rows.length = n) (h : OwnRR w lo hi 37 3 (.slice A n c) (intss rows)) (hk : k < rows.length) (hz : rows[k] ≠ []) (hm : n ≤ 1048576) (hp : (rows[k]).length ≤ 1048576) :
    Calls Try.prog 39 #[.agg #[.int .i64 high, .slice A n c], .int .i64 (k : Int)] w fun e w' => e = .returned (.int .i64 (rows[k].getLast hz)) ∧ OwnRR w' lo w'.heap.size 37 3 (.slice A n c) (intss (rows.set k rows[k].dropLast)) ∧ Out lo hi w w' := by
  have hal : Below w.heap.size w (w.alloc (.cells #[.int .i64 high, .slice A n c] 27)) := (Below.refl _ _).alloc (Nat.le_refl _) _
  have htop : hi ≤ w.heap.size := by obtain ⟨hs, h1, _⟩ := h; exact h1.top
  have h1 := h.later hal
  have hN : Blk (w.alloc (.cells #[.int .i64 high, .slice A n c] 27)) w.heap.size 27 [.int .i64 high, .slice A n c] := Blk.new _ _ _
  have hrl := List.length_pos_iff.2 hz
  obtain ⟨g, b, c', rfl, g1, g2, g3, b1, b2, hcell, hfz, hcc, hlast, p1, p2⟩ := h1.pop hk hz
  have hkn : (k : Int) < (n : Int) := by omega
  have hkn0 : (0 : Int) ≤ (k : Int) := by omega
  generalize rows[k].getLast hz = x at *
  generalize intss (rows.set k rows[k].dropLast) = Y at *
  generalize rows[k].length = p at *
  obtain ⟨m, rfl⟩ : ∃ m, p = m + 1 := ⟨p - 1, by omega⟩
  rw [Nat.add_sub_cancel] at *
  have e0 : IntKind.i64.wrap (((m + 1 : Nat) : Int) - 1) = (m : Int) := by rw [IntWalk.i64_in _ (by omega)]; omega
  have q1 : (m : Int) < ((m + 1 : Nat) : Int) := by omega
  have q2 : (0 : Int) ≤ (m : Int) := by omega
  have q3 : (m : Int) ≤ (c' : Int) := by omega
  have HP1 := Lib.hid p1
  have HO := Lib.hid ((Below.out hal lo hi).trans p2)
  have HN := Lib.hid hn
  clear hn p1 p2 h h1 hz hal hk hrl
  go_enter Try.func39, Try.ntmps39
  go_wp2_with fail
  have c1 := hN.cellAt 1 (by simp)
  simp only [List.getElem_cons_zero, List.getElem_cons_succ] at c1
  generalize w.alloc (.cells #[.int .i64 high, .slice (some ⟨g, 0, none⟩) n c] 27) = w1 at *
  go_still_tail 11, (by kernel_rfl)
  change wpList _ _ _ _ _ w1.drew
  have hcell' : w1.drew.cell? ⟨g, k, none⟩ = some (.slice (some ⟨b, 0, none⟩) (m + 1) c') := hcell
  have hfz' : w1.drew.frozen? ⟨g, k, none⟩ = false := hfz
  go_wp2_with fail
  go_ret
  exact ⟨rfl, HP1.out.later (Below.drew (Below.refl _ _)), HO.out.trans (Below.out (Below.drew (Below.refl _ _)) _ _)⟩
end Go.Proofs.Ytcbeoaedccdppaa
