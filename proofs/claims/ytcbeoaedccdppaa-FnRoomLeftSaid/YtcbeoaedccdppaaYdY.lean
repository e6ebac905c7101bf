/- YardIds: both programs return as many ids as the yard has boxes, in new memory. -/
import Derived.Test.YtcbeoaedccdppaaInsL
import Derived.Test.YtcbeoaedccdppaaSrt
import Derived.Test.YtcbeoaedccdppaaCct
import Derived.Test.YtcbeoaedccdppaaYdV
namespace Go.Proofs.Ytcbeoaedccdppaa
open Go Go.ChangeShapes Go.WideShapes Go.ChangeAt Go.RowKit
set_option linter.unusedVariables false
/-- numbers put at their places, one by one -/
def insAll (zs : List Int) : List Int := zs.foldl insL []
theorem insAll_snoc (zs : List Int) (x : Int) : insAll (zs ++ [x]) = insL (insAll zs) x := by simp [insAll]
theorem insAll_len (zs : List Int) : (insAll zs).length = zs.length := by
  have h : ∀ (zs acc : List Int), (zs.foldl insL acc).length = acc.length + zs.length := by
    intro zs
    induction zs with
    | nil => intro acc; rfl
    | cons a r ih => intro acc; rw [List.foldl_cons, ih, insL_len, List.length_cons]; omega
  have := h zs []
  simpa [insAll] using this
theorem insAll_mem (zs : List Int) (b : Int) : b ∈ insAll zs ↔ b ∈ zs := by
  have h : ∀ (zs acc : List Int), b ∈ zs.foldl insL acc ↔ b ∈ acc ∨ b ∈ zs := by
    intro zs
    induction zs with
    | nil => intro acc; simp
    | cons a r ih =>
      intro acc
      rw [List.foldl_cons, ih, insL_mem, List.mem_cons]
      constructor
      · rintro ((h | h) | h)
        · exact .inr (.inl h)
        · exact .inl h
        · exact .inr (.inr h)
      · rintro (h | h | h)
        · exact .inl (.inr h)
        · exact .inl (.inl h)
        · exact .inr h
  have := h zs []
  simpa [insAll] using this
theorem srtI_len (zs : List Int) : (srtI zs).length = zs.length := by simp [srtI]
theorem srtI_mem (zs : List Int) (b : Int) : b ∈ srtI zs ↔ b ∈ zs := by simp [srtI]
/-- the ids of a yard, as each program gives them -/
def idsA (high : Int) (rows : List (List Int)) : List Int := if yardOk high rows then srtI rows.flatten else []
def idsB (high : Int) (rows : List (List Int)) : List Int := if yardOk high rows then insAll rows.flatten else []
theorem yard_tot {high : Int} {rows : List (List Int)} (h : yardOk high rows = true) : rows.flatten.length ≤ 25 := by
  obtain ⟨_, h1, _, _, h2, _⟩ := yardOk_parts h
  have gen : ∀ l : List (List Int), (∀ s ∈ l, s.length ≤ 5) → l.flatten.length ≤ 5 * l.length := by
    intro l
    induction l with
    | nil => intro _; simp
    | cons a r ih =>
      intro hl
      have h3 := ih (fun s hs => hl s (List.mem_cons_of_mem _ hs))
      have h4 := hl a (List.mem_cons_self ..)
      rw [List.flatten_cons, List.length_append, List.length_cons]
      omega
  have := gen rows h2
  omega
theorem ids_len (high : Int) (rows : List (List Int)) : (idsA high rows).length = (idsB high rows).length ∧ (idsA high rows).length ≤ 25 := by
  unfold idsA idsB
  cases h : yardOk high rows with
  | true =>
    have := yard_tot h
    simp only [if_pos]
    rw [srtI_len, insAll_len]
    exact ⟨rfl, this⟩
  | false => simp
/-- ids in memory of the call's own -/
def IdsOut (w : World) (zs : List Int) : Ending → World → Prop :=
  RVal fun u w' => ∃ B d, u = .slice B zs.length d ∧ w'.ownsRow w.heap.size 3 1 (.slice B zs.length d) zs.length (ints zs) ∧ Below w.heap.size w w'
theorem idsOut_mk {w w' : World} {zs : List Int} {v : Value} (h : w'.ownsRow w.heap.size 3 1 v zs.length (ints zs)) (hb : Below w.heap.size w w') : IdsOut w zs (.returned v) w' := by
  obtain ⟨B, d, rfl, _, _⟩ := own_slice h
  exact RVal.mk ⟨B, d, rfl, h, hb⟩
set_option maxHeartbeats 1000000 in
theorem implYardIds (high : Int) (A : Option Addr) (n c : Nat) (rows : List (List Int)) (w : World) (hn : rows.length = n) (hr : RdRR w A (intss rows)) (hm : n ≤ 1048576) :
    Calls Try.prog 19 #[.agg #[.int .i64 high, .slice A n c]] w (IdsOut w (idsA high rows)) := by
  have HN := Lib.hid hn
  clear hn
  have hal : Below w.heap.size w (w.alloc (.cells #[.int .i64 high, .slice A n c] 27)) := (Below.refl _ _).alloc (Nat.le_refl _) _
  have hP : Blk (w.alloc (.cells #[.int .i64 high, .slice A n c] 27)) w.heap.size 27 [.int .i64 high, .slice A n c] := Blk.new _ _ _
  have h1 := hr.below hal
  go_enter Try.func19, Try.ntmps19
  go_wp2_with fail
  generalize w.alloc (.cells #[.int .i64 high, .slice A n c] 27) = w1 at *
  refine (implYardValid high A n c rows w1 HN.out h1 (by omega)).mono ?_
  rintro e w2 ⟨rfl, b2⟩
  have HB2 := Lib.hid (below_trans hal b2)
  have P2 := hP.later b2
  have x1 := P2.cellAt 1 (by simp)
  simp only [List.getElem_cons_zero, List.getElem_cons_succ] at x1
  have hlt := P2.lt
  clear hal hP b2 h1
  cases hok : yardOk high rows with
  | false =>
    have HI : Hid (idsA high rows = []) := Lib.hid (by simp [idsA, hok])
    clear hok
    go_wp2_with fail
    go_ret
    rw [HI.out]
    exact idsOut_mk (World.ownsRow_nil _ _ _ _) HB2.out
  | true =>
    have HI : Hid (idsA high rows = srtI rows.flatten) := Lib.hid (by simp [idsA, hok])
    have HT := Lib.hid (yard_tot hok)
    have hcc := concat_int A n c rows w2 HN.out (hr.below HB2.out) hm (by have := HT.out; omega)
    have HFL := Lib.hid (rfl : rows.flatten = rows.flatten)
    have HLN := Lib.hid (srtI_len rows.flatten)
    generalize hfl : rows.flatten = zs at *
    clear hok
    generalize hz : zs.length = p at *
    have HZ := Lib.hid hz
    have hp : p ≤ 25 := HT.out
    clear hz hfl
    go_wp2_with fail
    refine hcc.mono ?_
    rintro e w3 ⟨_, rfl, B3, d3, rfl, O3, b3⟩
    have O3 := Lib.hid O3
    have HB3 := Lib.hid (below_trans HB2.out b3)
    clear b3
    go_wp2_with fail
    refine (values_any B3 p d3 w3).mono ?_
    rintro e w4 ⟨rfl, rfl⟩
    have hal4 : Below w3.heap.size w3 (w3.alloc (.cells #[.slice B3 p d3] 37)) := (Below.refl _ _).alloc (Nat.le_refl _) _
    have hQ4 : Blk (w3.alloc (.cells #[.slice B3 p d3] 37)) w3.heap.size 37 [.slice B3 p d3] := Blk.new _ _ _
    have c4 := hQ4.cellAt 0 (by simp)
    simp only [List.getElem_cons_zero] at c4
    have l4 := hQ4.lt
    have hs := sorted_vals w3.heap.size B3 p d3 zs HZ.out (by omega) _ c4 l4 ((own_rd O3.out).below hal4)
    have HB4 := Lib.hid (below_trans HB3.out hal4)
    clear hal4 hQ4
    go_wp2_with fail
    refine hs.mono ?_
    rintro e w5 ⟨v5, rfl, O5, b5⟩
    have hsz : w.heap.size ≤ (w3.alloc (.cells #[.slice B3 p d3] 37)).heap.size := HB4.out.size
    have HB5 := Lib.hid (below_trans HB4.out b5)
    have O5 := Lib.hid (own_base O5 hsz)
    clear b5
    go_wp2_with fail
    go_ret
    rw [HI.out]
    exact idsOut_mk (by rw [HLN.out]; exact O5.out) HB5.out
set_option maxHeartbeats 4000000 in
theorem specYardIds (high : Int) (A : Option Addr) (n c : Nat) (rows : List (List Int)) (w : World) (hn : rows.length = n) (hr : RdRR w A (intss rows)) (hm : n ≤ 1048576) :
    Calls Try.prog 22 #[.agg #[.int .i64 high, .slice A n c]] w (IdsOut w (idsB high rows)) := by
  have HN := Lib.hid hn
  clear hn
  have hal : Below w.heap.size w ((w.alloc (.cells #[.int .i64 high, .slice A n c] 27)).alloc (.cells #[] 3)) := ((Below.refl _ _).alloc (Nat.le_refl _) _).alloc (by simp) _
  have hP : Blk ((w.alloc (.cells #[.int .i64 high, .slice A n c] 27)).alloc (.cells #[] 3)) w.heap.size 27 [.int .i64 high, .slice A n c] := (Blk.new _ _ _).alloc _
  have hO : ((w.alloc (.cells #[.int .i64 high, .slice A n c] 27)).alloc (.cells #[] 3)).ownsRow (w.heap.size + 1) 3 1 (.slice (some ⟨w.heap.size + 1, 0, none⟩) 0 0) 0 [] := by
    have := Blk.new (w.alloc (.cells #[.int .i64 high, .slice A n c] 27)) 3 []
    simp only [World.size_alloc] at this
    exact own_of_blk this (Nat.le_refl _) rfl (by decide)
  have h1 := hr.below hal
  go_enter Try.func22, Try.ntmps22
  go_wp2_with fail
  generalize (w.alloc (.cells #[.int .i64 high, .slice A n c] 27)).alloc (.cells #[] 3) = w1 at *
  have x0 := hP.cellAt 0 (by simp)
  have x1 := hP.cellAt 1 (by simp)
  simp only [List.getElem_cons_zero, List.getElem_cons_succ] at x0 x1
  have lx := hP.lt
  go_wp2_with fail
  refine (specYardValid high A n c rows w1 HN.out h1 hm).mono ?_
  rintro e w2 ⟨rfl, b2⟩
  have HB2 := Lib.hid (below_trans hal b2)
  have P2 := hP.later b2
  have O2 := own_later hO b2
  clear hal hP b2 h1 hO x0 x1
  cases hok : yardOk high rows with
  | false =>
    have HI : Hid (idsB high rows = []) := Lib.hid (by simp [idsB, hok])
    have O2 := Lib.hid O2
    clear hok
    go_wp2_with fail
    go_ret
    rw [HI.out]
    exact idsOut_mk (own_base O2.out (by omega)) HB2.out
  | true =>
    have HI : Hid (idsB high rows = insAll rows.flatten) := Lib.hid (by simp [idsB, hok])
    have HT := Lib.hid (yard_tot hok)
    have hn5 : n ≤ 5 := by have := (yardOk_parts hok).2.1; have := HN.out; omega
    clear hok
    go_wp2_with fail
    go_loopw [3, 4, 5] (fun all i _ wr => ∃ (k : Nat) (m : Nat) (v : Value), k ≤ n ∧ i = .int .i64 k ∧ all = v ∧ m = lenK rows k ∧ wr.ownsRow (w.heap.size + 1) 3 1 v m (ints (insAll (rows.take k).flatten)) ∧ Blk wr w.heap.size 27 [.int .i64 high, .slice A n c] ∧ Below w.heap.size w wr) (fun _ i _ _ => n - (intOf i).toNat)
    case atStart => exact ⟨0, 0, _, Nat.zero_le _, rfl, rfl, rfl, O2, P2, HB2.out⟩
    case round =>
      clear O2 P2
      obtain ⟨k, m, v, hk, rfl, rfl, hmk, hO, P1, hb⟩ := hrel
      have HMK := Lib.hid hmk
      have c0 := P1.cellAt 0 (by simp)
      have c1 := P1.cellAt 1 (by simp)
      simp only [List.getElem_cons_zero, List.getElem_cons_succ] at c0 c1
      have hPlt := P1.lt
      clear hmk
      by_cases hlt : k < n
      · have hkz : k < rows.length := by rw [HN.out]; exact hlt
        have hkl : k < (intss rows).length := by rw [intss_len]; exact hkz
        obtain ⟨b, o, rfl, hl0, B, c', hcell0, hle, hmx, hrB0⟩ := hr.pos hkl
        rw [intss_at] at hrB0
        simp only [intss_at, ints_len] at hcell0 hle
        have hmx2 : c' ≤ 9223372036854775807 := by unfold maxLen at hmx; omega
        have HST := Lib.hid (lenK_step hkz)
        have hs25 : lenK rows (k + 1) ≤ 25 := Nat.le_trans (lenK_le _ _) HT.out
        have HF2 : Hid ((rows.take (k + 1)).flatten = (rows.take k).flatten ++ rows[k]) := Lib.hid (by rw [List.take_succ_eq_append_getElem hkz, List.flatten_append]; simp)
        have HLF : Hid ((rows.take k).flatten.length = m) := Lib.hid HMK.out.symm
        generalize rows[k] = zs at *
        generalize hz : zs.length = p at *
        generalize hfl : (rows.take k).flatten = fl at *
        have HZ := Lib.hid hz
        have HRB := Lib.hid hrB0
        have HC0 := Lib.hid hcell0
        have HBL := Lib.hid hl0
        have hmp : m + p ≤ 25 := by have h3 := HMK.out; have h4 := HST.out; omega
        have hki : (k : Int) < (n : Int) := by omega
        clear hz hfl hrB0 hs25
        have P2 := P1
        have O2 := hO
        have hb2 := hb
        go_wp2_with fail
        go_loopw [3, 5] (fun all i wr2 => ∃ (j : Nat) (v2 : Value), j ≤ p ∧ i = .int .i64 j ∧ all = v2 ∧ wr2.ownsRow (w.heap.size + 1) 3 1 v2 (m + j) (ints (insAll (fl ++ zs.take j))) ∧ Blk wr2 w.heap.size 27 [.int .i64 high, .slice (some ⟨b, o, none⟩) n c] ∧ Below w.heap.size w wr2) (fun _ i _ => p - (intOf i).toNat)
        case atStart => exact ⟨0, _, Nat.zero_le _, rfl, rfl, by simpa using O2, P2, hb2⟩
        case round =>
          clear O2 P2 hb2 hO P1 hb hPlt c0 c1
          obtain ⟨j, v2, hj, rfl, rfl, hO2, P2, hb2⟩ := hrel
          have c0 := P2.cellAt 0 (by simp)
          have c1 := P2.cellAt 1 (by simp)
          simp only [List.getElem_cons_zero, List.getElem_cons_succ] at c0 c1
          have hPlt := P2.lt
          have hbl : b < w.heap.size := HBL.out
          have hl : b < wr.heap.size := Nat.lt_of_lt_of_le hbl hb2.size
          have hcell := (hb2.cell (p := ⟨b, o + k, none⟩) hbl).trans HC0.out
          have hrB := HRB.out.below hb2
          by_cases hltj : j < p
          · have hjz : j < zs.length := by rw [HZ.out]; exact hltj
            have hjl : j < (ints zs).length := by rw [ints_len]; exact hjz
            obtain ⟨b2, o2, rfl, hl2, hc2⟩ := hrB.pos hjl
            have h1 := hc2 j hjl
            rw [ints_at] at h1
            have HTK : Hid (ints (insAll (fl ++ zs.take (j + 1))) = ints (insL (insAll (fl ++ zs.take j)) zs[j])) := Lib.hid (by rw [List.take_succ_eq_append_getElem hjz, ← List.append_assoc, insAll_snoc])
            have hal : (insAll (fl ++ zs.take j)).length = m + j := by have := hO2.1; rw [ints_len] at this; omega
            obtain ⟨A3, c3, rfl, hA3, hA4⟩ := own_slice hO2
            have hH := fun y => l4Sorted_any A3 (m + j) c3 (insAll (fl ++ zs.take j)) y wr hal hA3 (own_rd hO2) (by omega)
            generalize zs[j] = y at *
            have hji : (j : Int) < (p : Int) := by omega
            have HP2 := Lib.hid P2
            have HB2 := Lib.hid hb2
            clear hc2 hal hO2
            go_wp2_with fail
            refine (hH y).mono ?_
            rintro e w4 ⟨_, rfl, B4, d4, rfl, hown4, hb4⟩
            rw [← HTK.out] at hown4
            have hown5 := own_base hown4 (show w.heap.size + 1 ≤ wr.heap.size from hPlt)
            have P4 := HP2.out.later hb4
            have B4' := below_trans HB2.out hb4
            clear hH hown4 hb4
            go_wp2_with fail
            go_roundw
            case rel => exact ⟨j + 1, _, by omega, by go_num, rfl, hown5, P4, B4'⟩
            case measure => simp [intOf]; omega
          · have htl : zs.take j = zs := List.take_of_length_le (by rw [HZ.out]; omega)
            rw [htl, ← HF2.out, show m + j = lenK rows (k + 1) from by have h3 := HMK.out; have h4 := HST.out; omega] at hO2
            clear htl
            have HO2 := Lib.hid hO2
            clear hO2
            go_wp2_with fail
            go_roundw
            case rel => exact ⟨k + 1, _, _, by omega, by go_num, rfl, rfl, HO2.out, P2, hb2⟩
            case measure => simp [intOf]; omega
      · obtain rfl : k = n := by omega
        have htl : rows.take k = rows := List.take_of_length_le (by rw [HN.out]; exact Nat.le_refl _)
        have HE : Hid (m = (insAll rows.flatten).length) := Lib.hid (by rw [HMK.out, insAll_len]; unfold lenK; rw [htl])
        rw [htl, HE.out] at hO
        have HO := Lib.hid hO
        clear hO htl
        go_wp2_with fail
        go_ret
        rw [HI.out]
        exact idsOut_mk (own_base HO.out (by omega)) hb
end Go.Proofs.Ytcbeoaedccdppaa
