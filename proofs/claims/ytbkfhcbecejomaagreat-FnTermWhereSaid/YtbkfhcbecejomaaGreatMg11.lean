/- Several texts of the proof in one; each says at its head what it proves; no condition. -/
import Derived.Test.YtbkfhcbecejomaaGreatMg10
import Derived.Shelf.SlSortCmp.QuietGrown
import Derived.Deep.CutRange
import Derived.Deep.RegionLaw
import Derived.Test.YtbkfhcbecejomaaGreatMg5
import Derived.Test.YtbkfhcbecejomaaGreatMg2
section
/- Yard.find; an element is appended to an inner row of its own. -/
namespace Go.Proofs.YtbkfhcbecejomaaGreat
open Go Go.ChangeShapes Go.WideShapes Go.ChangeAt Go.RowKit
set_option linter.unusedVariables false
/-- the rows so far do not hold it -/
theorem any_step {rows : List (List Int)} {k : Nat} {x : Int} (h : k < rows.length) (h0 : anyI (rows.take k) x = false) (hx : hasI rows[k] x = false) : anyI (rows.take (k + 1)) x = false := by
  rw [List.take_succ_eq_append_getElem h]
  simp only [anyI, hasI_no, List.flatten_append, List.mem_append, List.flatten_cons, List.flatten_nil, List.append_nil] at *
  rintro (h | h)
  · exact h0 h
  · exact hx h
theorem any_yes {rows : List (List Int)} {k : Nat} {x : Int} (h : k < rows.length) (hx : hasI rows[k] x = true) : anyI rows x = true := by
  simp only [anyI, hasI_iff, List.mem_flatten] at *
  exact ⟨_, List.getElem_mem h, hx⟩
/-- the first row from number k on that holds it, or -1 -/
def findAux : List (List Int) → Nat → Int → Int
  | [], _, _ => -1
  | s :: r, k, x => if hasI s x = true then (k : Int) else findAux r (k + 1) x
theorem findAux_any (rows : List (List Int)) (k : Nat) (x : Int) : decide (0 ≤ findAux rows k x) = anyI rows x := by
  induction rows generalizing k with
  | nil => simp [findAux, anyI, hasI]
  | cons s r ih =>
    by_cases h : hasI s x = true
    · have : anyI (s :: r) x = true := any_yes (rows := s :: r) (k := 0) (by simp) h
      rw [findAux, if_pos h, this]
      simp
    · have h' : hasI s x = false := by simpa using h
      rw [findAux, if_neg h, ih]
      apply Bool.eq_iff_iff.2
      simp only [anyI, hasI_iff, List.flatten_cons, List.mem_append]
      have := hasI_no.1 h'
      constructor
      · exact .inr
      · rintro (h | h)
        · exact absurd h this
        · exact h
theorem findAux_step {rows : List (List Int)} {k : Nat} {x : Int} (h : k < rows.length) : findAux (rows.drop k) k x = if hasI rows[k] x = true then (k : Int) else findAux (rows.drop (k + 1)) (k + 1) x := by
  rw [List.drop_eq_getElem_cons h, findAux]
theorem find1_any (B : Option Addr) (p c b : Nat) (zs : List Int) (x : Int) (w : World) (hn : zs.length = p) (hr : RdV w B (ints zs)) (hx : w.cell? ⟨b, 0, none⟩ = some (.int .i64 x)) (hm : p ≤ 9223372036854775807) :
    Calls Tryz.prog 84 #[.slice B p c, .pointer (some ⟨b, 0, none⟩)] w fun e w' => e = .returned (.bool (hasI zs x)) ∧ w = w' := by
  have HN := Lib.hid hn
  clear hn
  go_enter Tryz.func84, Tryz.ntmps84
  go_wp2_with fail
  refine (contains_int B p c zs x _ HN.out hr hm).mono ?_
  rintro e w' ⟨rfl, rfl⟩
  go_wp2_with fail
  go_ret
  exact ⟨rfl, rfl⟩
set_option maxHeartbeats 1000000 in
theorem index_row (A : Option Addr) (n c b : Nat) (rows : List (List Int)) (x : Int) (w : World) (hn : rows.length = n) (hr : RdRR w A (intss rows)) (hx : w.cell? ⟨b, 0, none⟩ = some (.int .i64 x)) (hm : n ≤ 9223372036854775807) :
    Calls Tryz.prog 83 #[.slice A n c, .func (.func 84) #[] #[.pointer (some ⟨b, 0, none⟩)]] w fun e w' => e = .returned (.int .i64 (findAux rows 0 x)) ∧ w = w' := by
  have HN := Lib.hid hn
  clear hn
  go_enter Tryz.func83, Tryz.ntmps83
  go_wp2_with fail
  go_loop [8, 5] (fun i _ => ∃ k : Nat, k ≤ n ∧ i = .int .i64 k ∧ Hid (findAux rows 0 x = findAux (rows.drop k) k x)) (fun i _ => n - (intOf i).toNat)
  case atStart => exact ⟨0, Nat.zero_le _, rfl, Lib.hid (by simp)⟩
  case round =>
    obtain ⟨k, hk, rfl, HJ⟩ := hrel
    by_cases hlt : k < n
    · have hkz : k < rows.length := by rw [HN.out]; exact hlt
      have hkl : k < (intss rows).length := by rw [intss_len]; exact hkz
      obtain ⟨b1, o, rfl, hl, B, c', hcell, hle, hmx, hrB⟩ := hr.pos hkl
      rw [intss_at] at hrB
      simp only [intss_at, ints_len] at hcell
      have HS := Lib.hid (HJ.out.trans (findAux_step (x := x) hkz))
      unfold maxLen at hmx
      simp only [intss_at, ints_len] at hle
      generalize rows[k] = zs at *
      generalize hz : zs.length = p at *
      have HZ := Lib.hid hz
      clear hz
      go_wp2_with fail
      refine (find1_any B p c' b zs x _ HZ.out hrB hx (by omega)).mono ?_
      rintro e w' ⟨rfl, rfl⟩
      cases hxy : hasI zs x with
      | true =>
        have HT := Lib.hid (HS.out.trans (if_pos hxy))
        clear hxy
        go_wp2_with fail
        go_ret
        exact ⟨by rw [HT.out]; rfl, rfl⟩
      | false =>
        have HT := Lib.hid (HS.out.trans (if_neg (by simp [hxy])))
        clear hxy
        go_wp2_with fail
        go_round
        case rel => exact ⟨k + 1, by omega, by go_num, HT⟩
        case measure => simp [intOf]; omega
    · have HE : Hid (findAux rows 0 x = -1) := Lib.hid (by rw [HJ.out, List.drop_of_length_le (by rw [HN.out]; omega), findAux])
      go_wp2_with fail
      go_ret
      exact ⟨by rw [HE.out]; rfl, rfl⟩
open Go.Sort in
theorem yardFind (high : Int) (A : Option Addr) (n c : Nat) (rows : List (List Int)) (x : Int) (w : World) (hn : rows.length = n) (hr : RdRR w A (intss rows)) (hm : n ≤ 9223372036854775807) :
    Calls Tryz.prog 48 #[.agg #[.int .i64 high, .slice A n c], .int .i64 x] w fun e w' => e = .returned (.int .i64 (findAux rows 0 x)) ∧ ∃ q os', w' = grow (w.drewN q) os' := by
  have HN := Lib.hid hn
  have hbl : Below w.heap.size w ((w.alloc (.cells #[.int .i64 high, .slice A n c] 25)).alloc (.cells #[.int .i64 x] 3)) := ((Below.refl _ _).alloc (Nat.le_refl _) _).alloc (by simp) _
  have hX : Blk ((w.alloc (.cells #[.int .i64 high, .slice A n c] 25)).alloc (.cells #[.int .i64 x] 3)) (w.heap.size + 1) 3 [.int .i64 x] := by simpa using Blk.new (w.alloc (.cells #[.int .i64 high, .slice A n c] 25)) 3 [.int .i64 x]
  have c0 := hX.cellAt 0 (by simp)
  simp only [List.getElem_cons_zero] at c0
  have HR := Lib.hid (hr.below hbl)
  have HG : Hid (∃ q os', (w.alloc (.cells #[.int .i64 high, .slice A n c] 25)).alloc (.cells #[.int .i64 x] 3) = grow (w.drewN q) os') := Lib.hid ⟨0, #[_] ++ #[_], by rw [alloc_eq_grow, alloc_eq_grow, grow_grow]; rfl⟩
  clear hn hX
  go_enter Tryz.func48, Tryz.ntmps48
  go_wp2_with fail
  refine (index_row A n c (w.heap.size + 1) rows x _ HN.out HR.out c0 hm).mono ?_
  rintro e w' ⟨rfl, rfl⟩
  go_wp2_with fail
  go_ret
  exact ⟨rfl, HG.out⟩
open Go.Sort in
theorem below_grow (w : World) (n : Nat) (os : Array Obj) : Below w.heap.size w (grow (w.drewN n) os) :=
  ⟨rfl, rfl, rfl, by rw [size_grow]; exact Nat.le_add_right _ _, fun k hk => heap_grow_old (w.drewN n) os hk⟩
/-- an inner row of its own gets one element more -/
theorem OwnRR.push {w : World} {lo hi : Nat} {A : Option Addr} {n c : Nat} {rows : List (List Int)} (h : OwnRR w lo hi 29 3 (.slice A n c) (intss rows)) {k : Nat} (hk : k < rows.length) (x : Int) :
    ∃ g B c', A = some ⟨g, 0, none⟩ ∧ lo ≤ g ∧ g < hi ∧ w.cell? ⟨g, k, none⟩ = some (.slice B (rows[k]).length c') ∧ w.frozen? ⟨g, k, none⟩ = false ∧ w.ownsRow lo 3 1 (.slice B (rows[k]).length c') (rows[k]).length (ints rows[k]) ∧ hi ≤ w.heap.size ∧
      ∀ (w7 : World) (v7 : Value), w7.ownsRow lo 3 1 v7 ((rows[k]).length + 1) (ints rows[k] ++ [.int .i64 x]) → w.drew.grownBy w7 (Value.ownBlock (.slice B (rows[k]).length c')) → (v7.ownBlock = Value.ownBlock (.slice B (rows[k]).length c') ∨ v7.ownBlock = some (w.drew.heap.size + 1)) →
        w7.cell? ⟨g, k, none⟩ = some (.slice B (rows[k]).length c') ∧ w7.frozen? ⟨g, k, none⟩ = false ∧ Out lo hi w w7 ∧
        OwnRR (w7.setCell ⟨g, k, none⟩ v7) lo (w7.setCell ⟨g, k, none⟩ v7).heap.size 29 3 (.slice A n c) (intss (rows.set k (rows[k] ++ [x]))) ∧ Out lo hi w (w7.setCell ⟨g, k, none⟩ v7) := by
  have hkl : k < (intss rows).length := by rw [intss_len]; exact hk
  have htop : hi ≤ w.heap.size := by obtain ⟨hs, h1, _⟩ := h; exact h1.top
  obtain ⟨g, cc, B, c', hv, h1, h2, h3, h4, h5, h6, h7⟩ := h.put hkl
  rw [intss_at, ints_len] at h5
  simp only [intss_at, ints_len] at h3 h6 h7
  injection hv with e1 e2 e3
  refine ⟨g, B, c', e1, h1, h2, h3, h4, h5.row, htop, fun w7 v7 hown hg hb => ?_⟩
  have hg' : w.grownBy w7 (Value.ownBlock (.slice B (rows[k]).length c')) := ⟨hg.os, hg.tape, hg.output, hg.size, hg.block⟩
  have hblk : w7.heap[g]? = w.heap[g]? := hg'.block g (by omega) (fun e => h6 g e.symm rfl)
  obtain ⟨p1, p2⟩ := h7 w7 v7 (ints (rows[k] ++ [x])) hg' (by rw [ints_len, List.length_append, List.length_singleton, ints_app]; exact hown) (hb.imp id fun e => ⟨_, e, by show hi ≤ w.heap.size + 1; omega⟩)
  have es : (intss rows).set k (ints (rows[k] ++ [x])) = intss (rows.set k (rows[k] ++ [x])) := by simp [intss, List.map_set]
  rw [es] at p1
  exact ⟨(World.cell?_of_block hblk).trans h3, (World.frozen?_of_block hblk).trans h4, out_of_grown hg' (fun b e => ⟨(h5.row.lt b e).1, h5.lt b e⟩), p1, p2⟩
end Go.Proofs.YtbkfhcbecejomaaGreat
end
section
/- YardPut, both programs: the plain word. -/
namespace Go.Proofs.YtbkfhcbecejomaaGreat
open Go Go.ChangeShapes Go.WideShapes Go.ChangeAt Go.RowKit
set_option linter.unusedVariables false
/-- the answer, in memory of the call's own -/
def YPOut (w : World) (x : Int × List (List Int) × Bool) : Ending → World → Prop :=
  RVal fun u w' => ∃ A c, u = .tuple #[.agg #[.int .i64 x.1, .slice A x.2.1.length c], .bool x.2.2] ∧ OwnRR w' w.heap.size w'.heap.size 29 3 (.slice A x.2.1.length c) (intss x.2.1) ∧ Below w.heap.size w w'
theorem yp_zero {w wz : World} {x : Int × List (List Int) × Bool} {u1 u2 : Value} (h : x = (0, [], false)) (hB : Below w.heap.size w wz) :
    YPOut w x (.returned (.tuple #[.agg #[.int .i64 0, .slice none 0 0], .bool false])) ((wz.setCell ⟨w.heap.size + 1, 0, none⟩ u1).setCell ⟨w.heap.size + 1, 1, none⟩ u2) := by
  subst h
  exact RVal.mk ⟨none, 0, rfl, ownRR_none _ _ _ _, (hB.setCell (Nat.le_succ _) _).setCell (Nat.le_succ _) _⟩
theorem yp_out {w wz : World} {x : Int × List (List Int) × Bool} {high : Int} {b : Bool} {rows : List (List Int)} {n c lo hi : Nat} {A : Option Addr} {u1 u2 : Value} (h : x = (high, rows, b)) (hn : rows.length = n) (hO : OwnRR wz lo hi 29 3 (.slice A n c) (intss rows)) (hlo : w.heap.size + 2 ≤ lo) (hB : Below w.heap.size w wz) :
    YPOut w x (.returned (.tuple #[.agg #[.int .i64 high, .slice A n c], .bool b])) ((wz.setCell ⟨w.heap.size + 1, 0, none⟩ u1).setCell ⟨w.heap.size + 1, 1, none⟩ u2) := by
  subst h hn
  have htop : hi ≤ wz.heap.size := by obtain ⟨hs, h1, _⟩ := hO; exact h1.top
  exact RVal.mk ⟨A, c, rfl, ((hO.set_far _ _ _ (by omega) htop).set_far _ _ _ (by omega) (Nat.le_refl _)).base (by omega), (hB.setCell (Nat.le_succ _) _).setCell (Nat.le_succ _) _⟩
set_option maxRecDepth 100000 in
set_option maxHeartbeats 4000000 in
theorem specYardPut (high i x : Int) (A : Option Addr) (n c : Nat) (rows : List (List Int)) (w : World) (hn : rows.length = n) (hr : RdRR w A (intss rows)) (hm : n ≤ 1048576) (hin : ∀ s ∈ rows, s.length ≤ 1048576) :
    Calls Tryz.prog 87 #[.agg #[.int .i64 high, .slice A n c], .int .i64 i, .int .i64 x] w (YPOut w (yput high rows i x)) := by
  have en : IntKind.i64.wrap ((n : Int) - 1) = (n : Int) - 1 := IntWalk.i64_in _ (by omega)
  have HN := Lib.hid hn
  have HR := Lib.hid hr
  have HIN := Lib.hid hin
  clear hn hin
  have hal : Below w.heap.size w ((w.alloc (.cells #[.int .i64 high, .slice A n c] 25)).alloc (.cells #[.int .i64 0, .slice none 0 0] 25)) := ((Below.refl _ _).alloc (Nat.le_refl _) _).alloc (by simp) _
  have hP : Blk ((w.alloc (.cells #[.int .i64 high, .slice A n c] 25)).alloc (.cells #[.int .i64 0, .slice none 0 0] 25)) w.heap.size 25 [.int .i64 high, .slice A n c] := (Blk.new _ _ _).alloc _
  have hQ : Blk ((w.alloc (.cells #[.int .i64 high, .slice A n c] 25)).alloc (.cells #[.int .i64 0, .slice none 0 0] 25)) (w.heap.size + 1) 25 [.int .i64 0, .slice none 0 0] := by simpa using Blk.new (w.alloc (.cells #[.int .i64 high, .slice A n c] 25)) 25 [.int .i64 0, .slice none 0 0]
  have hs1 : w.heap.size + 2 ≤ ((w.alloc (.cells #[.int .i64 high, .slice A n c] 25)).alloc (.cells #[.int .i64 0, .slice none 0 0] 25)).heap.size := by simp
  go_enter Tryz.func87, Tryz.ntmps87
  go_wp2_with fail
  generalize (w.alloc (.cells #[.int .i64 high, .slice A n c] 25)).alloc (.cells #[.int .i64 0, .slice none 0 0] 25) = w1 at *
  refine (specYardValid high A n c rows _ HN.out (hr.below hal) (by omega)).mono ?_
  rintro e w2 ⟨rfl, b2⟩
  have hP2 := hP.later b2
  have hQ2 := hQ.later b2
  have B2 := below_trans hal b2
  have hs2 : w.heap.size + 2 ≤ w2.heap.size := Nat.le_trans hs1 b2.size
  have x0 := hP2.cellAt 0 (by simp)
  have x1 := hP2.cellAt 1 (by simp)
  have y0 := hQ2.cellAt 0 (by simp)
  have y1 := hQ2.cellAt 1 (by simp)
  have f0 := hQ2.frozen 0
  have f1 := hQ2.frozen 1
  simp only [List.getElem_cons_zero, List.getElem_cons_succ] at x0 x1 y0 y1
  clear hal hP hQ hs1 b2
  have l0 := hP2.lt
  have l1 := hQ2.lt
  cases hok : yardOk high rows with
  | false =>
    have H0 := Lib.hid (yput_bad i x hok)
    have HB2 := Lib.hid B2
    have HQ2 := Lib.hid hQ2
    clear hok B2 hQ2
    go_wp2_with fail
    have hR := (HQ2.out.set_ 0 (.int .i64 0)).set_ 1 (.slice none 0 0)
    have z0 := hR.cellAt 0 (by simp)
    have z1 := hR.cellAt 1 (by simp)
    simp only [List.set_cons_zero, List.set_cons_succ, List.getElem_cons_zero, List.getElem_cons_succ] at z0 z1
    refine bodyPost_ret (v := .tuple #[.agg #[.int .i64 0, .slice none 0 0], .bool false]) (by simp [results, Tryz.results87, go_sem, z0, z1]) rfl ?_
    exact yp_zero H0.out HB2.out
  | true =>
    obtain ⟨g1, g2, g3, g4, g5, g6⟩ := yardOk_parts hok
    have HG5 := Lib.hid g5
    clear g3 g4 g5 g6
    have HOK := Lib.hid hok
    have HB2 := Lib.hid B2
    have HP2 := Lib.hid hP2
    have HQ2 := Lib.hid hQ2
    clear hok B2 hP2 hQ2
    go_wp2_with fail
    refine (specCopy high A n c rows _ HN.out (HR.out.below HB2.out) (by omega) HIN.out).mono ?_
    rintro e w3 ⟨_, rfl, A1, c1, rfl, O3, b3⟩
    have hal3 : Below w3.heap.size w3 (w3.alloc (.cells #[.int .i64 high, .slice A1 n c1] 25)) := (Below.refl _ _).alloc (Nat.le_refl _) _
    have b4 := below_trans b3 hal3
    have hX4 : Blk (w3.alloc (.cells #[.int .i64 high, .slice A1 n c1] 25)) w3.heap.size 25 [.int .i64 high, .slice A1 n c1] := Blk.new _ _ _
    have hP4 := HP2.out.later b4
    have hQ4 := HQ2.out.later b4
    have O4 := O3.later hal3
    have hs23 := b3.size
    have B4 := below_trans HB2.out b4
    clear x0 x1 y0 y1 f0 f1 b3 hal3 O3 b4
    have x0 := hP4.cellAt 0 (by simp)
    have x1 := hP4.cellAt 1 (by simp)
    simp only [List.getElem_cons_zero, List.getElem_cons_succ] at x0 x1
    have HP4 := Lib.hid hP4
    have HQ4 := Lib.hid hQ4
    have HX4 := Lib.hid hX4
    have HO4 := Lib.hid O4
    have HB4 := Lib.hid B4
    clear hP4 hQ4 hX4 O4 B4
    go_wp2_with fail
    generalize w3.alloc (.cells #[.int .i64 high, .slice A1 n c1] 25) = w4 at *
    refine (l1In_any i 0 ((n : Int) - 1) _).mono ?_
    rintro e w5 ⟨rfl, rfl⟩
    have P5 := HP4.out
    have Q5 := HQ4.out
    have X5 := HX4.out
    clear x0 x1
    have x0 := P5.cellAt 0 (by simp)
    have x1 := P5.cellAt 1 (by simp)
    have y0 := Q5.cellAt 0 (by simp)
    have y1 := Q5.cellAt 1 (by simp)
    have f0 := Q5.frozen 0
    have f1 := Q5.frozen 1
    have v0 := X5.cellAt 0 (by simp)
    have v1 := X5.cellAt 1 (by simp)
    simp only [List.getElem_cons_zero, List.getElem_cons_succ] at x0 x1 y0 y1 v0 v1
    have l2 := Q5.lt
    have l3 := X5.lt
    cases hi : inI i 0 ((n : Int) - 1) with
    | false =>
      have H0 := Lib.hid (yput_out x HOK.out (fun h => by have := inI_no hi; rw [HN.out] at h; exact this h))
      clear hi P5 Q5 X5
      go_wp2_with fail
      have hR := (HQ4.out.set_ 0 (.int .i64 high)).set_ 1 (.slice A1 n c1)
      have z0 := hR.cellAt 0 (by simp)
      have z1 := hR.cellAt 1 (by simp)
      simp only [List.set_cons_zero, List.set_cons_succ, List.getElem_cons_zero, List.getElem_cons_succ] at z0 z1
      refine bodyPost_ret (v := .tuple #[.agg #[.int .i64 high, .slice A1 n c1], .bool false]) (by simp [results, Tryz.results87, go_sem, z0, z1]) rfl ?_
      exact yp_out H0.out HN.out HO4.out hs2 HB4.out
    | true =>
      obtain ⟨k, rfl, hk⟩ := inI_yes hi
      have hkz : k < rows.length := by rw [HN.out]; exact hk
      have hki : (k : Int) < (n : Int) := by omega
      have hki0 : (0 : Int) ≤ (k : Int) := by omega
      have hpl := HG5.out rows[k] (List.getElem_mem hkz)
      have H1 := Lib.hid (fun h => yput_yes (x := x) HOK.out hkz h)
      have H2 := Lib.hid (fun h => yput_no (x := x) HOK.out hkz h)
      have HL5 : Hid (∀ s ∈ rows.set k (rows[k] ++ [x]), s.length ≤ 1048576) := Lib.hid (fun s hs => by
        rcases List.mem_or_eq_of_mem_set hs with hs | rfl
        · exact HIN.out s hs
        · rw [List.length_append, List.length_singleton]; omega)
      clear hi P5 Q5 X5 x0 x1 y0 y1 f0 f1 v0 v1
      obtain ⟨g, B7, c7', rfl, t1, t2, t3, t4, t5, t6, hpush⟩ := HO4.out.push hkz x
      have HPUSH := Lib.hid hpush
      have HPL := Lib.hid hpl
      have hpl5 : (rows[k]).length ≤ 8589934592 := by omega
      have HSL : Hid ((rows.set k (rows[k] ++ [x])).length = n) := Lib.hid (by rw [List.length_set]; exact HN.out)
      generalize rows.set k (rows[k] ++ [x]) = rows2 at *
      generalize hzs : rows[k] = zs at *
      generalize zs.length = p at *
      have x1 := HX4.out.cellAt 1 (by simp)
      have d1 := (HX4.out.alloc (.cells #[.int .i64 x] 3)).cellAt 1 (by simp)
      simp only [List.getElem_cons_zero, List.getElem_cons_succ] at x1 d1
      have d2 : (w4.alloc (.cells #[.int .i64 x] 3)).cell? ⟨g, k, none⟩ = some (.slice B7 p c7') := (((Below.refl _ _).alloc (Nat.le_refl _) _ : Below w4.heap.size w4 (w4.alloc (.cells #[.int .i64 x] 3))).cell (p := ⟨g, k, none⟩) (show g < w4.heap.size by omega)).trans t3
      have hsz7 : w2.heap.size ≤ w4.drew.heap.size := by show w2.heap.size ≤ w4.heap.size; omega
      have T5 := Lib.hid t5
      have hlo7 := HX4.out.lt
      clear hpush hzs t5
      go_upto_region 6 with fail
      go_cut [] from 23 to 34 (fun wx => OwnRR wx w2.heap.size wx.heap.size 29 3 (.slice (some ⟨g, 0, none⟩) n c1) (intss rows2) ∧ Out w2.heap.size w3.heap.size w4 wx)
      case first =>
        go_region_law (first
          | (refine step_append_new rfl (.tmp 30) (.tmp 32) 29 rfl 3 _ _ _ Tryz.underlying29 int_infoY w2.heap.size w4.drew (.slice B7 p c7') p (ints zs) rfl T5.out [.int .i64 x] (by first | rfl | (simp; with_unfolding_all rfl)) rfl (by simp [Value.oneCell']) hpl5 hsz7 ?_
             intro v7 w7 hown7 hg7 hb7
             obtain ⟨m1, m2, m3, m4, m5⟩ := HPUSH.out w7 v7 hown7 hg7 hb7
             obtain ⟨A7, c7, rfl, _, _⟩ := own_slice hown7
             have P7 : Blk w7 w3.heap.size 25 [.int .i64 high, .slice (some ⟨g, 0, none⟩) n c1] := (m3.block _ hlo7 (.inr (Nat.le_refl _))).trans HX4.out
             have d7 := P7.cellAt 1 (by simp)
             simp only [List.getElem_cons_zero, List.getElem_cons_succ] at d7
             have M4 := Lib.hid m4
             have M5 := Lib.hid m5
             clear m3 m4 m5 hown7 hg7 hb7 P7))
        all_goals
          go_wp2_with fail
          go_meet
          exact ⟨M4.out, M5.out⟩
      case rest =>
        obtain ⟨O7, o7⟩ := hcut
        clear d1 d2 t3 t4 T5 HPUSH x1
        have P7 := (o7.block _ HP4.out.lt (.inl (by omega))).trans HP4.out
        have Q7 := (o7.block _ HQ4.out.lt (.inl (by omega))).trans HQ4.out
        have X7 := (o7.block _ HX4.out.lt (.inr (Nat.le_refl _))).trans HX4.out
        change Blk _ _ _ _ at P7 Q7 X7
        have b7 := below_out HB4.out o7 (by omega)
        have v0 := X7.cellAt 0 (by simp)
        have v1 := X7.cellAt 1 (by simp)
        simp only [List.getElem_cons_zero, List.getElem_cons_succ] at v0 v1
        have HP7 := Lib.hid P7
        have HQ7 := Lib.hid Q7
        have HX7 := Lib.hid X7
        have HO7 := Lib.hid O7
        have HB7 := Lib.hid b7
        have hs7 := o7.size
        clear P7 Q7 X7 O7 b7 o7
        go_wp2_with fail
        refine (specYardValid high (some ⟨g, 0, none⟩) n c1 rows2 _ HSL.out HO7.out.rd (by omega)).mono ?_
        rintro e w8 ⟨rfl, b8⟩
        have P8 := HP7.out.later b8
        have Q8 := HQ7.out.later b8
        have X8 := HX7.out.later b8
        clear v0 v1
        have x0 := P8.cellAt 0 (by simp)
        have x1 := P8.cellAt 1 (by simp)
        have y0 := Q8.cellAt 0 (by simp)
        have y1 := Q8.cellAt 1 (by simp)
        have f0 := Q8.frozen 0
        have f1 := Q8.frozen 1
        have v0 := X8.cellAt 0 (by simp)
        have v1 := X8.cellAt 1 (by simp)
        simp only [List.getElem_cons_zero, List.getElem_cons_succ] at x0 x1 y0 y1 v0 v1
        have HQ8 := Lib.hid Q8
        have HO8 := Lib.hid (HO7.out.later b8)
        have HB8 := Lib.hid (below_trans HB7.out b8)
        have l8 := b8.size
        cases hok2 : yardOk high rows2 with
        | true =>
          have H0 := Lib.hid (H1.out hok2)
          clear hok2 P8 Q8 X8 b8
          go_wp2_with fail
          have hR := (HQ8.out.set_ 0 (.int .i64 high)).set_ 1 (.slice (some ⟨g, 0, none⟩) n c1)
          have z0 := hR.cellAt 0 (by simp)
          have z1 := hR.cellAt 1 (by simp)
          simp only [List.set_cons_zero, List.set_cons_succ, List.getElem_cons_zero, List.getElem_cons_succ] at z0 z1
          refine bodyPost_ret (v := .tuple #[.agg #[.int .i64 high, .slice (some ⟨g, 0, none⟩) n c1], .bool true]) (by simp [results, Tryz.results87, go_sem, z0, z1]) rfl ?_
          exact yp_out H0.out HSL.out HO8.out hs2 HB8.out
        | false =>
          have H0 := Lib.hid (H2.out hok2)
          clear hok2 P8 Q8 X8 b8
          go_wp2_with fail
          refine (specCopy high A n c rows _ HN.out (HR.out.below HB8.out) (by omega) HIN.out).mono ?_
          rintro e w9 ⟨_, rfl, A9, c9, rfl, O9, b9⟩
          have Q9 := HQ8.out.later b9
          have y0 := Q9.cellAt 0 (by simp)
          have y1 := Q9.cellAt 1 (by simp)
          have f0 := Q9.frozen 0
          have f1 := Q9.frozen 1
          simp only [List.getElem_cons_zero, List.getElem_cons_succ] at y0 y1
          have HQ9 := Lib.hid Q9
          have HO9 := Lib.hid O9
          have HB9 := Lib.hid (below_trans HB8.out b9)
          have hlo9 : w.heap.size + 2 ≤ w8.heap.size := by omega
          clear Q9 O9 b9 x0 x1 v0 v1
          go_wp2_with fail
          have hR := (HQ9.out.set_ 0 (.int .i64 high)).set_ 1 (.slice A9 n c9)
          have z0 := hR.cellAt 0 (by simp)
          have z1 := hR.cellAt 1 (by simp)
          simp only [List.set_cons_zero, List.set_cons_succ, List.getElem_cons_zero, List.getElem_cons_succ] at z0 z1
          refine bodyPost_ret (v := .tuple #[.agg #[.int .i64 high, .slice A9 n c9], .bool false]) (by simp [results, Tryz.results87, go_sem, z0, z1]) rfl ?_
          exact yp_out H0.out HN.out HO9.out hlo9 HB9.out
end Go.Proofs.YtbkfhcbecejomaaGreat
end
section
/- Ships: valid ones, how many slots. -/
namespace Go.Proofs.YtbkfhcbecejomaaGreat
open Go Go.ChangeShapes Go.WideShapes Go.ChangeAt Go.RowKit
set_option linter.unusedVariables false
set_option maxHeartbeats 1000000 in
theorem specHullValid (x : HullV) (w : World) : Calls Tryz.prog 64 #[.agg #[.int .i64 x.f0, .int .i64 x.f1, .int .i64 x.f2]] w fun e w' => e = .returned (.bool (hullOk x)) ∧ Below w.heap.size w w' := by
  obtain ⟨y0, y1, y2⟩ := x
  dsimp only
  have h1 := fun W => l1In_inI y0 1 4 W
  have h2 := fun W => l1In_inI y1 1 3 W
  have h3 := fun W => l1In_inI y2 1 3 W
  cases q1 : inI y0 1 4 with
  | false =>
    have HB : Hid (hullOk ⟨y0, y1, y2⟩ = false) := Lib.hid (by simp [hullOk, q1])
    rw [q1] at h1
    clear q1
    go_enter Tryz.func64, Tryz.ntmps64
    go_wp2_with (go_at_call 63; (first | (with_reducible refine (h1 _).mono ?_) | (with_reducible refine (h2 _).mono ?_) | (with_reducible refine (h3 _).mono ?_)); rintro e w' ⟨rfl, rfl⟩)
    go_ret
    exact ⟨by rw [HB.out]; rfl, (Below.refl _ _).alloc (Nat.le_refl _) _⟩
  | true =>
    rw [q1] at h1
    cases q2 : inI y1 1 3 with
    | false =>
      have HB : Hid (hullOk ⟨y0, y1, y2⟩ = false) := Lib.hid (by simp [hullOk, q2])
      rw [q2] at h2
      clear q1 q2
      go_enter Tryz.func64, Tryz.ntmps64
      go_wp2_with (go_at_call 63; (first | (with_reducible refine (h1 _).mono ?_) | (with_reducible refine (h2 _).mono ?_) | (with_reducible refine (h3 _).mono ?_)); rintro e w' ⟨rfl, rfl⟩)
      go_ret
      exact ⟨by rw [HB.out]; rfl, (Below.refl _ _).alloc (Nat.le_refl _) _⟩
    | true =>
      rw [q2] at h2
      cases q3 : inI y2 1 3 with
      | false =>
        have HB : Hid (hullOk ⟨y0, y1, y2⟩ = false) := Lib.hid (by simp [hullOk, q3])
        rw [q3] at h3
        clear q1 q2 q3
        go_enter Tryz.func64, Tryz.ntmps64
        go_wp2_with (go_at_call 63; (first | (with_reducible refine (h1 _).mono ?_) | (with_reducible refine (h2 _).mono ?_) | (with_reducible refine (h3 _).mono ?_)); rintro e w' ⟨rfl, rfl⟩)
        go_ret
        exact ⟨by rw [HB.out]; rfl, (Below.refl _ _).alloc (Nat.le_refl _) _⟩
      | true =>
        have HB : Hid (hullOk ⟨y0, y1, y2⟩ = true) := Lib.hid (by simp [hullOk, q1, q2, q3])
        rw [q3] at h3
        clear q1 q2 q3
        go_enter Tryz.func64, Tryz.ntmps64
        go_wp2_with (go_at_call 63; (first | (with_reducible refine (h1 _).mono ?_) | (with_reducible refine (h2 _).mono ?_) | (with_reducible refine (h3 _).mono ?_)); rintro e w' ⟨rfl, rfl⟩)
        go_ret
        exact ⟨by rw [HB.out]; rfl, (Below.refl _ _).alloc (Nat.le_refl _) _⟩
set_option maxHeartbeats 1000000 in
theorem implHullValid (x : HullV) (w : World) : Calls Tryz.prog 41 #[.agg #[.int .i64 x.f0, .int .i64 x.f1, .int .i64 x.f2]] w fun e w' => e = .returned (.bool (hullOk x)) ∧ Below w.heap.size w w' := by
  obtain ⟨y0, y1, y2⟩ := x
  dsimp only
  have h1 := fun W => within_inI y0 1 4 W
  have h2 := fun W => within_inI y1 1 3 W
  have h3 := fun W => within_inI y2 1 3 W
  cases q1 : inI y0 1 4 with
  | false =>
    have HB : Hid (hullOk ⟨y0, y1, y2⟩ = false) := Lib.hid (by simp [hullOk, q1])
    rw [q1] at h1
    clear q1
    go_enter Tryz.func41, Tryz.ntmps41
    go_wp2_with (go_at_call 56; (first | (with_reducible refine (h1 _).mono ?_) | (with_reducible refine (h2 _).mono ?_) | (with_reducible refine (h3 _).mono ?_)); rintro e w' ⟨rfl, rfl⟩)
    go_ret
    exact ⟨by rw [HB.out]; rfl, (Below.refl _ _).alloc (Nat.le_refl _) _⟩
  | true =>
    rw [q1] at h1
    cases q2 : inI y1 1 3 with
    | false =>
      have HB : Hid (hullOk ⟨y0, y1, y2⟩ = false) := Lib.hid (by simp [hullOk, q2])
      rw [q2] at h2
      clear q1 q2
      go_enter Tryz.func41, Tryz.ntmps41
      go_wp2_with (go_at_call 56; (first | (with_reducible refine (h1 _).mono ?_) | (with_reducible refine (h2 _).mono ?_) | (with_reducible refine (h3 _).mono ?_)); rintro e w' ⟨rfl, rfl⟩)
      go_ret
      exact ⟨by rw [HB.out]; rfl, (Below.refl _ _).alloc (Nat.le_refl _) _⟩
    | true =>
      rw [q2] at h2
      cases q3 : inI y2 1 3 with
      | false =>
        have HB : Hid (hullOk ⟨y0, y1, y2⟩ = false) := Lib.hid (by simp [hullOk, q3])
        rw [q3] at h3
        clear q1 q2 q3
        go_enter Tryz.func41, Tryz.ntmps41
        go_wp2_with (go_at_call 56; (first | (with_reducible refine (h1 _).mono ?_) | (with_reducible refine (h2 _).mono ?_) | (with_reducible refine (h3 _).mono ?_)); rintro e w' ⟨rfl, rfl⟩)
        go_ret
        exact ⟨by rw [HB.out]; rfl, (Below.refl _ _).alloc (Nat.le_refl _) _⟩
      | true =>
        have HB : Hid (hullOk ⟨y0, y1, y2⟩ = true) := Lib.hid (by simp [hullOk, q1, q2, q3])
        rw [q3] at h3
        clear q1 q2 q3
        go_enter Tryz.func41, Tryz.ntmps41
        go_wp2_with (go_at_call 56; (first | (with_reducible refine (h1 _).mono ?_) | (with_reducible refine (h2 _).mono ?_) | (with_reducible refine (h3 _).mono ?_)); rintro e w' ⟨rfl, rfl⟩)
        go_ret
        exact ⟨by rw [HB.out]; rfl, (Below.refl _ _).alloc (Nat.le_refl _) _⟩
end Go.Proofs.YtbkfhcbecejomaaGreat
end
section
/- Ships, the reference: slots and places of a valid ship. -/
namespace Go.Proofs.YtbkfhcbecejomaaGreat
open Go Go.ChangeShapes Go.WideShapes Go.ChangeAt Go.RowKit
set_option linter.unusedVariables false
set_option maxHeartbeats 1000000 in
theorem specSlotMany (x : HullV) (w : World) (hh : hullOk x = true) : Calls Tryz.prog 66 #[.agg #[.int .i64 x.f0, .int .i64 x.f1, .int .i64 x.f2]] w fun e w' => e = .returned (.int .i64 (slotsH x)) ∧ Below w.heap.size w w' := by
  obtain ⟨y0, y1, y2⟩ := x
  obtain ⟨e1, e2, e3, e4⟩ := slots_le hh
  obtain ⟨⟨a1, a2⟩, ⟨b1, b2⟩, c1, c2⟩ := hullOk_iff.1 hh
  dsimp only [slotsH] at *
  go_enter Tryz.func66, Tryz.ntmps66
  go_wp2_with fail
  refine (specHullValid ⟨y0, y1, y2⟩ _).mono ?_
  rintro e w3 ⟨rfl, hb⟩
  rw [hh]
  have b3 := below_trans ((Below.refl w.heap.size w).alloc (Nat.le_refl _) _) hb
  have l0 : w.heap.size < w3.heap.size := Nat.lt_of_lt_of_le (by simp) hb.size
  have x0 := (hb.cell (p := ⟨w.heap.size, 0, none⟩) (by simp)).trans (by simp : (w.alloc (.cells #[.int .i64 y0, .int .i64 y1, .int .i64 y2] 27)).cell? ⟨w.heap.size, 0, none⟩ = some (.int .i64 y0))
  have x1 := (hb.cell (p := ⟨w.heap.size, 1, none⟩) (by simp)).trans (by simp : (w.alloc (.cells #[.int .i64 y0, .int .i64 y1, .int .i64 y2] 27)).cell? ⟨w.heap.size, 1, none⟩ = some (.int .i64 y1))
  have x2 := (hb.cell (p := ⟨w.heap.size, 2, none⟩) (by simp)).trans (by simp : (w.alloc (.cells #[.int .i64 y0, .int .i64 y1, .int .i64 y2] 27)).cell? ⟨w.heap.size, 2, none⟩ = some (.int .i64 y2))
  have B3 := Lib.hid b3
  clear hb b3
  go_wp2_with fail
  go_ret
  exact ⟨rfl, B3.out⟩
set_option maxHeartbeats 1000000 in
theorem specPlaceOf (x : HullV) (k : Int) (w : World) (hh : hullOk x = true) (h0 : 0 ≤ k) (hk : k < slotsH x) : Calls Tryz.prog 95 #[.agg #[.int .i64 x.f0, .int .i64 x.f1, .int .i64 x.f2], .int .i64 k] w fun e w' => e = .returned (.tuple #[.int .i64 (k / x.f2 / x.f1), .int .i64 (k / x.f2 % x.f1), .int .i64 (k % x.f2)]) ∧ Below w.heap.size w w' := by
  obtain ⟨y0, y1, y2⟩ := x
  obtain ⟨e1, e2, e3, e4⟩ := slots_le hh
  obtain ⟨⟨a1, a2⟩, ⟨b1, b2⟩, c1, c2⟩ := hullOk_iff.1 hh
  dsimp only [slotsH] at *
  go_enter Tryz.func95, Tryz.ntmps95
  go_wp2_with fail
  refine (specHullValid ⟨y0, y1, y2⟩ _).mono ?_
  rintro e w3 ⟨rfl, hb⟩
  rw [hh]
  have b3 := below_trans ((Below.refl w.heap.size w).alloc (Nat.le_refl _) _) hb
  have l0 : w.heap.size < w3.heap.size := Nat.lt_of_lt_of_le (by simp) (hb).size
  have x0 := ((hb).cell (p := ⟨w.heap.size, 0, none⟩) (by simp)).trans (by simp : (w.alloc (.cells #[.int .i64 y0, .int .i64 y1, .int .i64 y2] 27)).cell? ⟨w.heap.size, 0, none⟩ = some (.int .i64 y0))
  have x1 := ((hb).cell (p := ⟨w.heap.size, 1, none⟩) (by simp)).trans (by simp : (w.alloc (.cells #[.int .i64 y0, .int .i64 y1, .int .i64 y2] 27)).cell? ⟨w.heap.size, 1, none⟩ = some (.int .i64 y1))
  have x2 := ((hb).cell (p := ⟨w.heap.size, 2, none⟩) (by simp)).trans (by simp : (w.alloc (.cells #[.int .i64 y0, .int .i64 y1, .int .i64 y2] 27)).cell? ⟨w.heap.size, 2, none⟩ = some (.int .i64 y2))
  have B3 := Lib.hid b3
  clear hb b3
  go_wp2_with fail
  refine (specSlotMany ⟨y0, y1, y2⟩ _ hh).mono ?_
  rintro e w4 ⟨rfl, hb⟩
  dsimp only [slotsH]
  have B4 := Lib.hid (below_trans B3.out hb)
  have z0 := (hb.cell (p := ⟨w.heap.size, 0, none⟩) l0).trans x0
  have z1 := (hb.cell (p := ⟨w.heap.size, 1, none⟩) l0).trans x1
  have z2 := (hb.cell (p := ⟨w.heap.size, 2, none⟩) l0).trans x2
  clear hb x0 x1 x2
  go_wp2_with fail
  refine (l1In_true k 0 (y0 * y1 * y2 - 1) _ h0 (by omega)).mono ?_
  rintro e w' ⟨rfl, rfl⟩
  have n1 : ¬ y1 = 0 := by omega
  have n2 : ¬ y2 = 0 := by omega
  have hbay := bay_lt (k := k) (B := y0) (R := y1) (T := y2) (by omega) (by omega) h0 hk
  have r1 := Int.emod_nonneg k n2
  have r2 := Int.emod_lt_of_pos k (show 0 < y2 by omega)
  have r3 := Int.emod_nonneg (k / y2) n1
  have r4 := Int.emod_lt_of_pos (k / y2) (show 0 < y1 by omega)
  obtain ⟨v1, v2, v3⟩ := hbay
  have t1 : Int.tdiv k y2 = k / y2 := Int.tdiv_eq_ediv_of_nonneg h0
  have t2 : Int.tmod k y2 = k % y2 := Int.tmod_eq_emod_of_nonneg h0
  have t3 : Int.tdiv (k / y2) y1 = k / y2 / y1 := Int.tdiv_eq_ediv_of_nonneg v3
  have t4 : Int.tmod (k / y2) y1 = k / y2 % y1 := Int.tmod_eq_emod_of_nonneg v3
  have u1 : k / y2 ≤ k := Int.ediv_le_self _ h0
  have t5 : wrap64 (k / y2) = k / y2 := by unfold wrap64; omega
  have t6 : wrap64 (k / y2 / y1) = k / y2 / y1 := by unfold wrap64; omega
  go_wp2_with fail
  go_quiet (fail)
  go_wp2_with fail
  refine bodyPost_ret (v := .tuple #[.int .i64 (k / y2 / y1), .int .i64 (k / y2 % y1), .int .i64 (k % y2)]) (by simp [results, Tryz.results95, go_sem]) rfl ?_
  exact ⟨rfl, below_drewN B4.out _⟩
set_option maxHeartbeats 1000000 in
theorem specSlotOf (x : HullV) (a b c : Int) (w : World) (hh : hullOk x = true) (ha : 0 ≤ a ∧ a < x.f0) (hb0 : 0 ≤ b ∧ b < x.f1) (hc : 0 ≤ c ∧ c < x.f2) (hs : 0 ≤ a * x.f1 ∧ a * x.f1 + b ≤ 100) (ht : 0 ≤ (a * x.f1 + b) * x.f2 ∧ (a * x.f1 + b) * x.f2 ≤ 100) :
    Calls Tryz.prog 96 #[.agg #[.int .i64 x.f0, .int .i64 x.f1, .int .i64 x.f2], .int .i64 a, .int .i64 b, .int .i64 c] w fun e w' => e = .returned (.int .i64 ((a * x.f1 + b) * x.f2 + c)) ∧ Below w.heap.size w w' := by
  obtain ⟨y0, y1, y2⟩ := x
  obtain ⟨⟨a1, a2⟩, ⟨b1, b2⟩, c1, c2⟩ := hullOk_iff.1 hh
  dsimp only at *
  obtain ⟨s1, s2⟩ := hs
  obtain ⟨t1, t2⟩ := ht
  go_enter Tryz.func96, Tryz.ntmps96
  go_wp2_with fail
  refine (specHullValid ⟨y0, y1, y2⟩ _).mono ?_
  rintro e w3 ⟨rfl, hb⟩
  rw [hh]
  have b3 := below_trans ((Below.refl w.heap.size w).alloc (Nat.le_refl _) _) hb
  have l0 : w.heap.size < w3.heap.size := Nat.lt_of_lt_of_le (by simp) (hb).size
  have x0 := ((hb).cell (p := ⟨w.heap.size, 0, none⟩) (by simp)).trans (by simp : (w.alloc (.cells #[.int .i64 y0, .int .i64 y1, .int .i64 y2] 27)).cell? ⟨w.heap.size, 0, none⟩ = some (.int .i64 y0))
  have x1 := ((hb).cell (p := ⟨w.heap.size, 1, none⟩) (by simp)).trans (by simp : (w.alloc (.cells #[.int .i64 y0, .int .i64 y1, .int .i64 y2] 27)).cell? ⟨w.heap.size, 1, none⟩ = some (.int .i64 y1))
  have x2 := ((hb).cell (p := ⟨w.heap.size, 2, none⟩) (by simp)).trans (by simp : (w.alloc (.cells #[.int .i64 y0, .int .i64 y1, .int .i64 y2] 27)).cell? ⟨w.heap.size, 2, none⟩ = some (.int .i64 y2))
  have B3 := Lib.hid b3
  clear hb b3
  go_wp2_with fail
  refine (l1In_true a 0 (y0 - 1) _ ha.1 (by omega)).mono ?_
  rintro e w' ⟨rfl, rfl⟩
  go_wp2_with fail
  refine (l1In_true b 0 (y1 - 1) _ hb0.1 (by omega)).mono ?_
  rintro e w' ⟨rfl, rfl⟩
  go_wp2_with fail
  refine (l1In_true c 0 (y2 - 1) _ hc.1 (by omega)).mono ?_
  rintro e w' ⟨rfl, rfl⟩
  go_wp2_with fail
  go_ret
  exact ⟨rfl, B3.out⟩
set_option maxHeartbeats 1000000 in
theorem specSlotOfN (x : HullV) (a b c : Int) (w : World) (hh : hullOk x = true) (ha : 0 ≤ a ∧ a < x.f0) (hb0 : 0 ≤ b ∧ b < x.f1) (hc : c = -1) (hs : 0 ≤ a * x.f1 ∧ a * x.f1 + b ≤ 100) (ht : 0 ≤ (a * x.f1 + b) * x.f2 ∧ (a * x.f1 + b) * x.f2 ≤ 100) :
    Calls Tryz.prog 96 #[.agg #[.int .i64 x.f0, .int .i64 x.f1, .int .i64 x.f2], .int .i64 a, .int .i64 b, .int .i64 c] w fun e w' => e = .returned (.int .i64 (-1)) ∧ Below w.heap.size w w' := by
  obtain ⟨y0, y1, y2⟩ := x
  obtain ⟨⟨a1, a2⟩, ⟨b1, b2⟩, c1, c2⟩ := hullOk_iff.1 hh
  dsimp only at *
  subst hc
  obtain ⟨s1, s2⟩ := hs
  obtain ⟨t1, t2⟩ := ht
  go_enter Tryz.func96, Tryz.ntmps96
  go_wp2_with fail
  refine (specHullValid ⟨y0, y1, y2⟩ _).mono ?_
  rintro e w3 ⟨rfl, hb⟩
  rw [hh]
  have b3 := below_trans ((Below.refl w.heap.size w).alloc (Nat.le_refl _) _) hb
  have l0 : w.heap.size < w3.heap.size := Nat.lt_of_lt_of_le (by simp) (hb).size
  have x0 := ((hb).cell (p := ⟨w.heap.size, 0, none⟩) (by simp)).trans (by simp : (w.alloc (.cells #[.int .i64 y0, .int .i64 y1, .int .i64 y2] 27)).cell? ⟨w.heap.size, 0, none⟩ = some (.int .i64 y0))
  have x1 := ((hb).cell (p := ⟨w.heap.size, 1, none⟩) (by simp)).trans (by simp : (w.alloc (.cells #[.int .i64 y0, .int .i64 y1, .int .i64 y2] 27)).cell? ⟨w.heap.size, 1, none⟩ = some (.int .i64 y1))
  have x2 := ((hb).cell (p := ⟨w.heap.size, 2, none⟩) (by simp)).trans (by simp : (w.alloc (.cells #[.int .i64 y0, .int .i64 y1, .int .i64 y2] 27)).cell? ⟨w.heap.size, 2, none⟩ = some (.int .i64 y2))
  have B3 := Lib.hid b3
  clear hb b3
  go_wp2_with fail
  refine (l1In_true a 0 (y0 - 1) _ ha.1 (by omega)).mono ?_
  rintro e w' ⟨rfl, rfl⟩
  go_wp2_with fail
  refine (l1In_true b 0 (y1 - 1) _ hb0.1 (by omega)).mono ?_
  rintro e w' ⟨rfl, rfl⟩
  go_wp2_with fail
  refine (l1In_false (-1) 0 (y2 - 1) _ (by omega)).mono ?_
  rintro e w' ⟨rfl, rfl⟩
  go_wp2_with fail
  go_ret
  exact ⟨rfl, B3.out⟩
set_option maxHeartbeats 1000000 in
theorem specSlotBelow (x : HullV) (k : Int) (w : World) (hh : hullOk x = true) (h0 : 0 ≤ k) (hk : k < slotsH x) :
    Calls Tryz.prog 67 #[.agg #[.int .i64 x.f0, .int .i64 x.f1, .int .i64 x.f2], .int .i64 k] w fun e w' => e = .returned (.int .i64 (if k % x.f2 = 0 then -1 else k - 1)) ∧ Below w.heap.size w w' := by
  obtain ⟨y0, y1, y2⟩ := x
  have hle := slots_le hh
  obtain ⟨⟨a1, a2⟩, ⟨b1, b2⟩, c1, c2⟩ := hullOk_iff.1 hh
  dsimp only at a1 a2 b1 b2 c1 c2
  have hP := fun W => specPlaceOf ⟨y0, y1, y2⟩ k W hh h0 hk
  have hbay := bay_lt (k := k) (B := y0) (R := y1) (T := y2) (by omega) (by omega) h0 (by simpa [slotsH] using hk)
  have r1 := Int.emod_nonneg k (show y2 ≠ 0 by dsimp only at *; omega)
  have r2 := Int.emod_lt_of_pos k (show 0 < y2 by dsimp only at *; omega)
  have r3 := Int.emod_nonneg (k / y2) (show y1 ≠ 0 by dsimp only at *; omega)
  have r4 := Int.emod_lt_of_pos (k / y2) (show 0 < y1 by dsimp only at *; omega)
  have q1 : k / y2 / y1 * y1 + k / y2 % y1 = k / y2 := by rw [Int.mul_comm]; exact Int.mul_ediv_add_emod (k / y2) y1
  have q2 : k / y2 * y2 + k % y2 = k := by rw [Int.mul_comm]; exact Int.mul_ediv_add_emod k y2
  have u1 : k / y2 ≤ k := Int.ediv_le_self _ h0
  have u2 : 0 ≤ k / y2 / y1 * y1 := Int.mul_nonneg hbay.1 (by dsimp only at *; omega)
  have u3 : 0 ≤ k / y2 * y2 := Int.mul_nonneg hbay.2.2 (by dsimp only at *; omega)
  have hk36 : k ≤ 36 := by omega
  dsimp only [slotsH] at *
  have hq : (k / y2 / y1 * y1 + k / y2 % y1) * y2 + (k % y2 - 1) = k - 1 := below_eq (by omega) (by omega)
  generalize hA : k / y2 / y1 = a at *
  generalize hB : k / y2 % y1 = b at *
  generalize hC : k % y2 = c at *
  have HS : 0 ≤ a * y1 ∧ a * y1 + b ≤ 100 := ⟨u2, by omega⟩
  have HT : 0 ≤ (a * y1 + b) * y2 ∧ (a * y1 + b) * y2 ≤ 100 := by rw [q1]; exact ⟨u3, by omega⟩
  have HA := Lib.hid hA
  have HB := Lib.hid hB
  have HC := Lib.hid hC
  have HQ := Lib.hid hq
  clear hA hB hC hq q1 q2 u1 u2 u3
  go_enter Tryz.func67, Tryz.ntmps67
  go_wp2_with fail
  refine (hP _).mono ?_
  rintro e w3 ⟨rfl, hb⟩
  have b3 := below_trans ((Below.refl w.heap.size w).alloc (Nat.le_refl _) _) hb
  have l0 : w.heap.size < w3.heap.size := Nat.lt_of_lt_of_le (by simp) (hb).size
  have x0 := ((hb).cell (p := ⟨w.heap.size, 0, none⟩) (by simp)).trans (by simp : (w.alloc (.cells #[.int .i64 y0, .int .i64 y1, .int .i64 y2] 27)).cell? ⟨w.heap.size, 0, none⟩ = some (.int .i64 y0))
  have x1 := ((hb).cell (p := ⟨w.heap.size, 1, none⟩) (by simp)).trans (by simp : (w.alloc (.cells #[.int .i64 y0, .int .i64 y1, .int .i64 y2] 27)).cell? ⟨w.heap.size, 1, none⟩ = some (.int .i64 y1))
  have x2 := ((hb).cell (p := ⟨w.heap.size, 2, none⟩) (by simp)).trans (by simp : (w.alloc (.cells #[.int .i64 y0, .int .i64 y1, .int .i64 y2] 27)).cell? ⟨w.heap.size, 2, none⟩ = some (.int .i64 y2))
  have B3 := Lib.hid b3
  clear hb b3 hP
  go_wp2_with fail
  by_cases hz : c = 0
  · subst hz
    refine (specSlotOfN ⟨y0, y1, y2⟩ a b (0 - 1) _ hh ⟨hbay.1, hbay.2.1⟩ ⟨r3, r4⟩ (by omega) HS HT).mono ?_
    rintro e w4 ⟨rfl, hb⟩
    have B4 := Lib.hid (below_trans B3.out hb)
    clear hb
    go_wp2_with fail
    go_ret
    exact ⟨rfl, B4.out⟩
  · refine (specSlotOf ⟨y0, y1, y2⟩ a b (c - 1) _ hh ⟨hbay.1, hbay.2.1⟩ ⟨r3, r4⟩ (by dsimp only; omega) HS HT).mono ?_
    rintro e w4 ⟨rfl, hb⟩
    dsimp only
    rw [HQ.out]
    have B4 := Lib.hid (below_trans B3.out hb)
    clear hb
    go_wp2_with fail
    go_ret
    exact ⟨rfl, B4.out⟩
end Go.Proofs.YtbkfhcbecejomaaGreat
end
