/- Yard.find; an element is appended to an inner row of its own. -/
import Derived.Test.YtcbeoaedccdppaaYdQ
import Derived.Test.YtcbeoaedccdppaaYdU
import Derived.Shelf.SlSortCmp.QuietGrown
namespace Go.Proofs.Ytcbeoaedccdppaa
open Go Go.ChangeShapes Go.WideShapes Go.ChangeAt Go.RowKit
set_option linter.unusedVariables false
/-- the rows so far do not hold it -/
theorem any_step {rows : List (List Int)} {k : Nat} {x : Int} (h : k < rows.length) (h0 : anyI (rows.take k) x = false) (hx : hasI rows[k] x = false) : anyI (rows.take (k + 1)) x = false := by
  rw [List.take_succ_eq_append_getElem h]
  simp only [anyI, hasI_no, List.flatten_append, List.mem_append, List.flatten_cons, List.flatten_nil, List.append_nil] at *
  rintro (h | h)
  · exact h0 h
  · exact hx h
theorem any_yes {rows : List (List Int)} {k : Nat} {x : Int} (h : k < rows.length) (hx : hasI rows[k] x = true) : anyI rows x = true := by
  simp only [anyI, hasI_iff, List.mem_flatten] at *
  exact ⟨_, List.getElem_mem h, hx⟩
/-- the first row from number k on that holds it, or -1 -/
def findAux : List (List Int) → Nat → Int → Int
  | [], _, _ => -1
  | s :: r, k, x => if hasI s x = true then (k : Int) else findAux r (k + 1) x
theorem findAux_any (rows : List (List Int)) (k : Nat) (x : Int) : decide (0 ≤ findAux rows k x) = anyI rows x := by
  induction rows generalizing k with
  | nil => simp [findAux, anyI, hasI]
  | cons s r ih =>
    by_cases h : hasI s x = true
    · have : anyI (s :: r) x = true := any_yes (rows := s :: r) (k := 0) (by simp) h
      rw [findAux, if_pos h, this]
      simp
    · have h' : hasI s x = false := by simpa using h
      rw [findAux, if_neg h, ih]
      apply Bool.eq_iff_iff.2
      simp only [anyI, hasI_iff, List.flatten_cons, List.mem_append]
      have := hasI_no.1 h'
      constructor
      · exact .inr
      · rintro (h | h)
        · exact absurd h this
        · exact h
theorem findAux_step {rows : List (List Int)} {k : Nat} {x : Int} (h : k < rows.length) : findAux (rows.drop k) k x = if hasI rows[k] x = true then (k : Int) else findAux (rows.drop (k + 1)) (k + 1) x := by
  rw [List.drop_eq_getElem_cons h, findAux]
theorem find1_any (B : Option Addr) (p c b : Nat) (zs : List Int) (x : Int) (w : World) (hn : zs.length = p) (hr : RdV w B (ints zs)) (hx : w.cell? ⟨b, 0, none⟩ = some (.int .i64 x)) (hm : p ≤ 9223372036854775807) :
    Calls Try.prog 56 #[.slice B p c, .pointer (some ⟨b, 0, none⟩)] w fun e w' => e = .returned (.bool (hasI zs x)) ∧ w = w' := by
  have HN := Lib.hid hn
  clear hn
  go_enter Try.func56, Try.ntmps56
  go_wp2_with fail
  refine (contains_int B p c zs x _ HN.out hr hm).mono ?_
  rintro e w' ⟨rfl, rfl⟩
  go_wp2_with fail
  go_ret
  exact ⟨rfl, rfl⟩
set_option maxHeartbeats 1000000 in
theorem index_row (A : Option Addr) (n c b : Nat) (rows : List (List Int)) (x : Int) (w : World) (hn : rows.length = n) (hr : RdRR w A (intss rows)) (hx : w.cell? ⟨b, 0, none⟩ = some (.int .i64 x)) (hm : n ≤ 9223372036854775807) :
    Calls Try.prog 55 #[.slice A n c, .func (.func 56) #[] #[.pointer (some ⟨b, 0, none⟩)]] w fun e w' => e = .returned (.int .i64 (findAux rows 0 x)) ∧ w = w' := by
  have HN := Lib.hid hn
  clear hn
  go_enter Try.func55, Try.ntmps55
  go_wp2_with fail
  go_loop [8, 5] (fun i _ => ∃ k : Nat, k ≤ n ∧ i = .int .i64 k ∧ Hid (findAux rows 0 x = findAux (rows.drop k) k x)) (fun i _ => n - (intOf i).toNat)
  case atStart => exact ⟨0, Nat.zero_le _, rfl, Lib.hid (by simp)⟩
  case round =>
    obtain ⟨k, hk, rfl, HJ⟩ := hrel
    by_cases hlt : k < n
    · have hkz : k < rows.length := by rw [HN.out]; exact hlt
      have hkl : k < (intss rows).length := by rw [intss_len]; exact hkz
      obtain ⟨b1, o, rfl, hl, B, c', hcell, hle, hmx, hrB⟩ := hr.pos hkl
      rw [intss_at] at hrB
      simp only [intss_at, ints_len] at hcell
      have HS := Lib.hid (HJ.out.trans (findAux_step (x := x) hkz))
      unfold maxLen at hmx
      simp only [intss_at, ints_len] at hle
      generalize rows[k] = zs at *
      generalize hz : zs.length = p at *
      have HZ := Lib.hid hz
      clear hz
      go_wp2_with fail
      refine (find1_any B p c' b zs x _ HZ.out hrB hx (by omega)).mono ?_
      rintro e w' ⟨rfl, rfl⟩
      cases hxy : hasI zs x with
      | true =>
        have HT := Lib.hid (HS.out.trans (if_pos hxy))
        clear hxy
        go_wp2_with fail
        go_ret
        exact ⟨by rw [HT.out]; rfl, rfl⟩
      | false =>
        have HT := Lib.hid (HS.out.trans (if_neg (by simp [hxy])))
        clear hxy
        go_wp2_with fail
        go_round
        case rel => exact ⟨k + 1, by omega, by go_num, HT⟩
        case measure => simp [intOf]; omega
    · have HE : Hid (findAux rows 0 x = -1) := Lib.hid (by rw [HJ.out, List.drop_of_length_le (by rw [HN.out]; omega), findAux])
      go_wp2_with fail
      go_ret
      exact ⟨by rw [HE.out]; rfl, rfl⟩
open Go.Sort in
theorem yardFind (high : Int) (A : Option Addr) (n c : Nat) (rows : List (List Int)) (x : Int) (w : World) (hn : rows.length = n) (hr : RdRR w A (intss rows)) (hm : n ≤ 9223372036854775807) :
    Calls Try.prog 33 #[.agg #[.int .i64 high, .slice A n c], .int .i64 x] w fun e w' => e = .returned (.int .i64 (findAux rows 0 x)) ∧ ∃ q os', w' = grow (w.drewN q) os' := by
  have HN := Lib.hid hn
  have hbl : Below w.heap.size w ((w.alloc (.cells #[.int .i64 high, .slice A n c] 27)).alloc (.cells #[.int .i64 x] 3)) := ((Below.refl _ _).alloc (Nat.le_refl _) _).alloc (by simp) _
  have hX : Blk ((w.alloc (.cells #[.int .i64 high, .slice A n c] 27)).alloc (.cells #[.int .i64 x] 3)) (w.heap.size + 1) 3 [.int .i64 x] := by simpa using Blk.new (w.alloc (.cells #[.int .i64 high, .slice A n c] 27)) 3 [.int .i64 x]
  have c0 := hX.cellAt 0 (by simp)
  simp only [List.getElem_cons_zero] at c0
  have HR := Lib.hid (hr.below hbl)
  have HG : Hid (∃ q os', (w.alloc (.cells #[.int .i64 high, .slice A n c] 27)).alloc (.cells #[.int .i64 x] 3) = grow (w.drewN q) os') := Lib.hid ⟨0, #[_] ++ #[_], by rw [alloc_eq_grow, alloc_eq_grow, grow_grow]; rfl⟩
  clear hn hX
  go_enter Try.func33, Try.ntmps33
  go_wp2_with fail
  refine (index_row A n c (w.heap.size + 1) rows x _ HN.out HR.out c0 hm).mono ?_
  rintro e w' ⟨rfl, rfl⟩
  go_wp2_with fail
  go_ret
  exact ⟨rfl, HG.out⟩
open Go.Sort in
theorem yardHasG (high : Int) (A : Option Addr) (n c : Nat) (i : Int) (w : World) (hm : n ≤ 1048576) :
    Calls Try.prog 31 #[.agg #[.int .i64 high, .slice A n c], .int .i64 i] w fun e w' => e = .returned (.bool (inI i 0 ((n : Int) - 1))) ∧ ∃ q os', w' = grow (w.drewN q) os' := by
  have HG : Hid (∃ q os', w.alloc (.cells #[.int .i64 high, .slice A n c] 27) = grow (w.drewN q) os') := Lib.hid ⟨0, #[_], by rw [alloc_eq_grow]; rfl⟩
  have e1 : IntKind.i64.wrap ((n : Int) - 1) = (n : Int) - 1 := IntWalk.i64_in _ (by omega)
  go_enter Try.func31, Try.ntmps31
  go_wp2_with fail
  refine (within_any i 0 ((n : Int) - 1) _).mono ?_
  rintro e w' ⟨rfl, rfl⟩
  go_wp2_with fail
  go_ret
  exact ⟨rfl, HG.out⟩
open Go.Sort in
theorem below_grow (w : World) (n : Nat) (os : Array Obj) : Below w.heap.size w (grow (w.drewN n) os) :=
  ⟨rfl, rfl, rfl, by rw [size_grow]; exact Nat.le_add_right _ _, fun k hk => heap_grow_old (w.drewN n) os hk⟩
/-- an inner row of its own gets one element more -/
theorem OwnRR.push {w : World} {lo hi : Nat} {A : Option Addr} {n c : Nat} {rows : List (List Int)} (h : OwnRR w lo hi 37 3 (.slice A n c) (intss rows)) {k : Nat} (hk : k < rows.length) (x : Int) :
    ∃ g B c', A = some ⟨g, 0, none⟩ ∧ lo ≤ g ∧ g < hi ∧ w.cell? ⟨g, k, none⟩ = some (.slice B (rows[k]).length c') ∧ w.frozen? ⟨g, k, none⟩ = false ∧ w.ownsRow lo 3 1 (.slice B (rows[k]).length c') (rows[k]).length (ints rows[k]) ∧ hi ≤ w.heap.size ∧
      ∀ (w7 : World) (v7 : Value), w7.ownsRow lo 3 1 v7 ((rows[k]).length + 1) (ints rows[k] ++ [.int .i64 x]) → w.drew.grownBy w7 (Value.ownBlock (.slice B (rows[k]).length c')) → (v7.ownBlock = Value.ownBlock (.slice B (rows[k]).length c') ∨ v7.ownBlock = some (w.drew.heap.size + 1)) →
        w7.cell? ⟨g, k, none⟩ = some (.slice B (rows[k]).length c') ∧ w7.frozen? ⟨g, k, none⟩ = false ∧ Out lo hi w w7 ∧
        OwnRR (w7.setCell ⟨g, k, none⟩ v7) lo (w7.setCell ⟨g, k, none⟩ v7).heap.size 37 3 (.slice A n c) (intss (rows.set k (rows[k] ++ [x]))) ∧ Out lo hi w (w7.setCell ⟨g, k, none⟩ v7) := by
  have hkl : k < (intss rows).length := by rw [intss_len]; exact hk
  have htop : hi ≤ w.heap.size := by obtain ⟨hs, h1, _⟩ := h; exact h1.top
  obtain ⟨g, cc, B, c', hv, h1, h2, h3, h4, h5, h6, h7⟩ := h.put hkl
  rw [intss_at, ints_len] at h5
  simp only [intss_at, ints_len] at h3 h6 h7
  injection hv with e1 e2 e3
  refine ⟨g, B, c', e1, h1, h2, h3, h4, h5.row, htop, fun w7 v7 hown hg hb => ?_⟩
  have hg' : w.grownBy w7 (Value.ownBlock (.slice B (rows[k]).length c')) := ⟨hg.os, hg.tape, hg.output, hg.size, hg.block⟩
  have hblk : w7.heap[g]? = w.heap[g]? := hg'.block g (by omega) (fun e => h6 g e.symm rfl)
  obtain ⟨p1, p2⟩ := h7 w7 v7 (ints (rows[k] ++ [x])) hg' (by rw [ints_len, List.length_append, List.length_singleton, ints_app]; exact hown) (hb.imp id fun e => ⟨_, e, by show hi ≤ w.heap.size + 1; omega⟩)
  have es : (intss rows).set k (ints (rows[k] ++ [x])) = intss (rows.set k (rows[k] ++ [x])) := by simp [intss, List.map_set]
  rw [es] at p1
  exact ⟨(World.cell?_of_block hblk).trans h3, (World.frozen?_of_block hblk).trans h4, out_of_grown hg' (fun b e => ⟨(h5.row.lt b e).1, h5.lt b e⟩), p1, p2⟩
end Go.Proofs.Ytcbeoaedccdppaa
