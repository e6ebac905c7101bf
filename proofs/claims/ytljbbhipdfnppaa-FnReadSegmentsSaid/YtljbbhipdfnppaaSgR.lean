/- ReadSegments, both, return the plain word. -/
import Derived.Test.YtljbbhipdfnppaaSgO
namespace Go.Proofs.Ytljbbhipdfnppaa
open Go Go.ChangeShapes Go.WideShapes Go.ChangeAt Go.RowKit
set_option linter.unusedVariables false
def strSize (v : Value) : Nat := match v with | .string b => b.size | _ => 0
def SegsAns (w : World) (l : List UInt8) : Ending → World → Prop :=
  RTwo fun u b w' => ∃ ps : List SegQ, ps.map SegQ.v = rdAll l ∧ SegsOwn w' w.heap.size u ps ∧ b = .bool (rdFine l) ∧ Below w.heap.size w w'
set_option maxRecDepth 100000 in
set_option maxHeartbeats 8000000 in
theorem implReadSegments (l : List UInt8) (w : World) (hs : l.length ≤ 1073741824) :
    Calls Try.prog 23 #[.string (txt l)] w (SegsAns w l) := by
  have hO0 : SegsOwn w w.heap.size (.slice none 0 0) [] := SegsOwn.nil_ _ _
  have hb0 : Below w.heap.size w w := Below.refl _ _
  go_enter Try.func23, Try.ntmps23
  go_wp2_with fail
  go_loopw [0, 4, 5, 6] (fun sv v _ _ wr => ∃ (rest : List UInt8) (k : Nat) (ps : List SegQ), sv = .string (txt rest) ∧ rest.length ≤ k ∧ SegsOwn wr w.heap.size v ps ∧ Hid ((rdSegs k rest).map (ps.map SegQ.v ++ ·) = rdSegs l.length l) ∧ ps.length + rest.length ≤ l.length ∧ Below w.heap.size w wr) (fun sv _ _ _ _ => strSize sv)
  case atStart => exact ⟨l, l.length, [], rfl, Nat.le_refl _, hO0, Lib.hid (by simp), by simp, hb0⟩
  case round =>
    clear hO0 hb0
    obtain ⟨rest, k, ps, rfl, hrk, hO, HE, hlen, hbl⟩ := hrel
    obtain ⟨A, c, rfl, hc1, hc2⟩ := own_slice hO.1
    by_cases hre : rest = []
    · subst hre
      have hfin : rdSegs l.length l = some (ps.map SegQ.v) := by rw [← HE.out, rdSegs_nil]; simp
      have HFIN := Lib.hid hfin
      have HO := Lib.hid hO
      clear hfin hO
      go_wp2_with fail
      go_ret2
      exact RTwo.mk ⟨ps, by unfold rdAll; rw [HFIN.out, Option.getD_some], HO.out, by unfold rdFine; rw [HFIN.out]; rfl, hbl⟩
    · obtain ⟨k, rfl⟩ : ∃ j, k = j + 1 := ⟨k - 1, by have : rest.length ≠ 0 := fun h => hre (List.eq_nil_of_length_eq_zero h); omega⟩
      have hrl : 0 < rest.length := Nat.pos_of_ne_zero fun h => hre (List.eq_nil_of_length_eq_zero h)
      have hrli : (0 : Int) < (rest.length : Int) := by omega
      have hri : rest.isEmpty = false := by cases rest with
        | nil => exact absurd rfl hre
        | cons a b => rfl
      have hri2 : (rest == []) = false := by cases rest with
        | nil => exact absurd rfl hre
        | cons a b => rfl
      have hcR := implRd (txt rest) wr (by rw [txt_size]; omega)
      rw [show (txt rest).data.toList = rest from by simp] at hcR
      have HCR := Lib.hid hcR
      have HO := Lib.hid hO
      have hsz := hbl.size
      generalize hpn : ps.length = pn at *
      have HPN := Lib.hid hpn
      clear hcR hO hpn
      cases hs : rdSeg rest with
      | none =>
        have hfin : rdSegs l.length l = none := by rw [← HE.out, rdSegs_none hre hs]; rfl
        have HFIN := Lib.hid hfin
        rw [hs] at HCR
        have HRE := Lib.hid hre
        clear hfin hs hre
        go_wp2_with fail
        refine HCR.out.mono ?_
        rintro e w1 ⟨_, rfl, A1, c1, rfl, O1, b1⟩
        simp only [rdT, rdE, rdN]
        have HBZ := Lib.hid (below_trans hbl b1)
        clear O1 b1
        go_wp2_with fail
        go_ret2
        refine RTwo.mk ⟨[], by unfold rdAll; rw [HFIN.out]; rfl, ?_, by unfold rdFine; rw [HFIN.out]; rfl, ?_⟩
        · first
            | exact SegsOwn.nil_ _ _
            | exact SegsOwn.empty (by have := Blk.new (w1.alloc (.cells #[.string (bA []), .slice A1 0 c1] 25)) 25 []; simpa using this) (by have := HBZ.out.size; omega)
        · first
            | exact HBZ.out.alloc HBZ.out.size _
            | exact (HBZ.out.alloc HBZ.out.size _).alloc (by have := HBZ.out.size; simp; omega) _
      | some x =>
        obtain ⟨E, n⟩ := x
        obtain ⟨h1, h2, h3, h4⟩ := rdSeg_ok hs
        have hnext := rdSegs_some (k := k) hre hs
        rw [hs] at HCR
        have hEl : E.length = (tx E).length := by simp [tx]
        have hfr := run_from (P := Try.prog) 9 Try.underlying9 (txt rest) n (by rw [txt_size]; omega)
        rw [show (txt rest).data.toList = rest from by simp] at hfr
        have hdl : (rest.drop n).length = rest.length - n := List.length_drop
        have hn0 : ((n : Int) == 0) = false := by simp; omega
        have HE2 : Hid ((rdSegs k (rest.drop n)).map ((ps.map SegQ.v ++ [⟨bA (rest.take 3), tx E⟩]) ++ ·) = rdSegs l.length l) := Lib.hid (by
          rw [← HE.out, hnext]
          cases rdSegs k (rest.drop n) with
          | none => rfl
          | some R => simp)
        have HRE := Lib.hid hre
        clear hnext hs hre HE h1 h4
        generalize rest.drop n = rd at *
        go_wp2_with fail
        refine HCR.out.mono ?_
        rintro e w1 ⟨_, rfl, A1, c1, rfl, O1, b1⟩
        simp only [rdT, rdE, rdN] at O1 ⊢
        rw [hEl] at O1 ⊢
        have hm4 := elsC_len E
        have O1' : OwnRR w1 wr.heap.size w1.heap.size 28 9 (.slice A1 (tx E).length c1) (strss (tx E)) := O1
        have hal : Below w1.heap.size w1 (w1.alloc (.cells #[.string (bA (rest.take 3)), .slice A1 (tx E).length c1] 25)) := (Below.refl _ _).alloc (Nat.le_refl _) _
        have hQ : Blk (w1.alloc (.cells #[.string (bA (rest.take 3)), .slice A1 (tx E).length c1] 25)) w1.heap.size 25 [.string (bA (rest.take 3)), .slice A1 (tx E).length c1] := Blk.new _ _ _
        have hrow := (HO.out.later (below_trans b1 hal)).1
        rw [HPN.out] at hrow
        have HB1 := Lib.hid b1
        have HAL := Lib.hid hal
        have HO1 := Lib.hid O1'
        have HBW := Lib.hid (below_trans hbl (below_trans b1 hal))
        have hsz2 : w.heap.size ≤ (w1.alloc (.cells #[.string (bA (rest.take 3)), .slice A1 (tx E).length c1] 25)).heap.size := HBW.out.size
        clear O1 O1' b1 hal hQ hbl hEl hm4
        go_wp2_with (at_builtin; refine append_new rfl (.tmp 16) (.tmp 18) 37 rfl 25 _ _ _ Try.underlying37 segment_infoE w.heap.size (w1.alloc (.cells #[.string (bA (rest.take 3)), .slice A1 (tx E).length c1] 25)) (.slice A pn c) pn (cellsOf segC ps) rfl hrow [.string (bA (rest.take 3)), .slice A1 (tx E).length c1] (by first | rfl | (simp; with_unfolding_all rfl)) rfl (by simp [Value.oneCell']) (by omega) hsz2 ?_; intro v8 w8 hown8 hg8 hblk8; have HOWN8 := Lib.hid hown8; have HG8 := Lib.hid hg8; have HK8 := Lib.hid hblk8; clear hown8 hg8 hblk8)
        go_wp2_with fail
        go_roundw
        case rel =>
          have hS := HO.out.snoc (w1 := w1) (wa := (w1.alloc (.cells #[.string (bA (rest.take 3)), .slice A1 (tx E).length c1] 25))) (w' := w8) HB1.out HAL.out (p := ⟨bA (rest.take 3), tx E, A1, c1, wr.heap.size, w1.heap.size⟩) hsz rfl rfl HO1.out (v' := v8) (by rw [HPN.out]; exact HOWN8.out) HG8.out (by
            rcases HK8.out with h | h
            · exact .inl h
            · exact .inr ⟨_, h, by have := HAL.out.size; omega⟩)
          refine ⟨rd, k, ps ++ [⟨bA (rest.take 3), tx E, A1, c1, wr.heap.size, w1.heap.size⟩], rfl, by omega, hS, Lib.hid ?_, by rw [List.length_append, HPN.out]; simp; omega, HBW.out.grown HG8.out hsz2 (fun b e => (hrow.lt b e).1)⟩
          rw [← HE2.out, List.map_append]
          rfl
        case measure => simp [strSize, txt_size]; omega
set_option maxRecDepth 100000 in
set_option maxHeartbeats 8000000 in
theorem specReadSegments (l : List UInt8) (w : World) (hs : l.length ≤ 1073741824) :
    Calls Try.prog 22 #[.string (txt l)] w (SegsAns w l) := by
  have hO0 : SegsOwn (w.alloc (.cells #[] 25)) w.heap.size (.slice (some ⟨w.heap.size, 0, none⟩) 0 0) [] := SegsOwn.empty (Blk.new _ _ []) (Nat.le_refl _)
  have hb0 : Below w.heap.size w (w.alloc (.cells #[] 25)) := (Below.refl _ _).alloc (Nat.le_refl _) _
  go_enter Try.func22, Try.ntmps22
  go_wp2_with fail
  generalize w.alloc (.cells #[] 25) = w00 at *
  go_loopw [0, 4, 5, 6] (fun sv v _ _ wr => ∃ (rest : List UInt8) (k : Nat) (ps : List SegQ), sv = .string (txt rest) ∧ rest.length ≤ k ∧ SegsOwn wr w.heap.size v ps ∧ Hid ((rdSegs k rest).map (ps.map SegQ.v ++ ·) = rdSegs l.length l) ∧ ps.length + rest.length ≤ l.length ∧ Below w.heap.size w wr) (fun sv _ _ _ _ => strSize sv)
  case atStart => exact ⟨l, l.length, [], rfl, Nat.le_refl _, hO0, Lib.hid (by simp), by simp, hb0⟩
  case round =>
    clear hO0 hb0
    obtain ⟨rest, k, ps, rfl, hrk, hO, HE, hlen, hbl⟩ := hrel
    obtain ⟨A, c, rfl, hc1, hc2⟩ := own_slice hO.1
    by_cases hre : rest = []
    · subst hre
      have hfin : rdSegs l.length l = some (ps.map SegQ.v) := by rw [← HE.out, rdSegs_nil]; simp
      have HFIN := Lib.hid hfin
      have HO := Lib.hid hO
      clear hfin hO
      go_wp2_with fail
      go_ret2
      exact RTwo.mk ⟨ps, by unfold rdAll; rw [HFIN.out, Option.getD_some], HO.out, by unfold rdFine; rw [HFIN.out]; rfl, hbl⟩
    · obtain ⟨k, rfl⟩ : ∃ j, k = j + 1 := ⟨k - 1, by have : rest.length ≠ 0 := fun h => hre (List.eq_nil_of_length_eq_zero h); omega⟩
      have hrl : 0 < rest.length := Nat.pos_of_ne_zero fun h => hre (List.eq_nil_of_length_eq_zero h)
      have hrli : (0 : Int) < (rest.length : Int) := by omega
      have hri : rest.isEmpty = false := by cases rest with
        | nil => exact absurd rfl hre
        | cons a b => rfl
      have hri2 : (rest == []) = false := by cases rest with
        | nil => exact absurd rfl hre
        | cons a b => rfl
      have hcR := specReadSegment (txt rest) wr (by rw [txt_size]; omega)
      rw [show (txt rest).data.toList = rest from by simp] at hcR
      have HCR := Lib.hid hcR
      have HO := Lib.hid hO
      have hsz := hbl.size
      generalize hpn : ps.length = pn at *
      have HPN := Lib.hid hpn
      clear hcR hO hpn
      cases hs : rdSeg rest with
      | none =>
        have hfin : rdSegs l.length l = none := by rw [← HE.out, rdSegs_none hre hs]; rfl
        have HFIN := Lib.hid hfin
        rw [hs] at HCR
        have HRE := Lib.hid hre
        clear hfin hs hre
        go_wp2_with fail
        refine HCR.out.mono ?_
        rintro e w1 ⟨_, rfl, A1, c1, rfl, O1, b1⟩
        simp only [rdT, rdE, rdN]
        have HBZ := Lib.hid (below_trans hbl b1)
        clear O1 b1
        go_wp2_with fail
        go_ret2
        refine RTwo.mk ⟨[], by unfold rdAll; rw [HFIN.out]; rfl, ?_, by unfold rdFine; rw [HFIN.out]; rfl, ?_⟩
        · first
            | exact SegsOwn.nil_ _ _
            | exact SegsOwn.empty (by have := Blk.new (w1.alloc (.cells #[.string (bA []), .slice A1 0 c1] 25)) 25 []; simpa using this) (by have := HBZ.out.size; omega)
        · first
            | exact HBZ.out.alloc HBZ.out.size _
            | exact (HBZ.out.alloc HBZ.out.size _).alloc (by have := HBZ.out.size; simp; omega) _
      | some x =>
        obtain ⟨E, n⟩ := x
        obtain ⟨h1, h2, h3, h4⟩ := rdSeg_ok hs
        have hnext := rdSegs_some (k := k) hre hs
        rw [hs] at HCR
        have hEl : E.length = (tx E).length := by simp [tx]
        have hfr := run_from (P := Try.prog) 9 Try.underlying9 (txt rest) n (by rw [txt_size]; omega)
        rw [show (txt rest).data.toList = rest from by simp] at hfr
        have hdl : (rest.drop n).length = rest.length - n := List.length_drop
        have hn0 : ((n : Int) == 0) = false := by simp; omega
        have HE2 : Hid ((rdSegs k (rest.drop n)).map ((ps.map SegQ.v ++ [⟨bA (rest.take 3), tx E⟩]) ++ ·) = rdSegs l.length l) := Lib.hid (by
          rw [← HE.out, hnext]
          cases rdSegs k (rest.drop n) with
          | none => rfl
          | some R => simp)
        have HRE := Lib.hid hre
        clear hnext hs hre HE h1 h4
        generalize rest.drop n = rd at *
        go_wp2_with fail
        refine HCR.out.mono ?_
        rintro e w1 ⟨_, rfl, A1, c1, rfl, O1, b1⟩
        simp only [rdT, rdE, rdN] at O1 ⊢
        rw [hEl] at O1 ⊢
        have hm4 := elsC_len E
        have O1' : OwnRR w1 wr.heap.size w1.heap.size 28 9 (.slice A1 (tx E).length c1) (strss (tx E)) := O1
        have hal : Below w1.heap.size w1 (w1.alloc (.cells #[.string (bA (rest.take 3)), .slice A1 (tx E).length c1] 25)) := (Below.refl _ _).alloc (Nat.le_refl _) _
        have hQ : Blk (w1.alloc (.cells #[.string (bA (rest.take 3)), .slice A1 (tx E).length c1] 25)) w1.heap.size 25 [.string (bA (rest.take 3)), .slice A1 (tx E).length c1] := Blk.new _ _ _
        have hrow := (HO.out.later (below_trans b1 hal)).1
        rw [HPN.out] at hrow
        have HB1 := Lib.hid b1
        have HAL := Lib.hid hal
        have HO1 := Lib.hid O1'
        have HBW := Lib.hid (below_trans hbl (below_trans b1 hal))
        have hsz2 : w.heap.size ≤ (w1.alloc (.cells #[.string (bA (rest.take 3)), .slice A1 (tx E).length c1] 25)).heap.size := HBW.out.size
        clear O1 O1' b1 hal hQ hbl hEl hm4
        go_wp2_with (at_builtin; refine append_new rfl (.tmp 19) (.tmp 21) 37 rfl 25 _ _ _ Try.underlying37 segment_infoE w.heap.size (w1.alloc (.cells #[.string (bA (rest.take 3)), .slice A1 (tx E).length c1] 25)) (.slice A pn c) pn (cellsOf segC ps) rfl hrow [.string (bA (rest.take 3)), .slice A1 (tx E).length c1] (by first | rfl | (simp; with_unfolding_all rfl)) rfl (by simp [Value.oneCell']) (by omega) hsz2 ?_; intro v8 w8 hown8 hg8 hblk8; have HOWN8 := Lib.hid hown8; have HG8 := Lib.hid hg8; have HK8 := Lib.hid hblk8; clear hown8 hg8 hblk8)
        go_wp2_with fail
        go_roundw
        case rel =>
          have hS := HO.out.snoc (w1 := w1) (wa := (w1.alloc (.cells #[.string (bA (rest.take 3)), .slice A1 (tx E).length c1] 25))) (w' := w8) HB1.out HAL.out (p := ⟨bA (rest.take 3), tx E, A1, c1, wr.heap.size, w1.heap.size⟩) hsz rfl rfl HO1.out (v' := v8) (by rw [HPN.out]; exact HOWN8.out) HG8.out (by
            rcases HK8.out with h | h
            · exact .inl h
            · exact .inr ⟨_, h, by have := HAL.out.size; omega⟩)
          refine ⟨rd, k, ps ++ [⟨bA (rest.take 3), tx E, A1, c1, wr.heap.size, w1.heap.size⟩], rfl, by omega, hS, Lib.hid ?_, by rw [List.length_append, HPN.out]; simp; omega, HBW.out.grown HG8.out hsz2 (fun b e => (hrow.lt b e).1)⟩
          rw [← HE2.out, List.map_append]
          rfl
        case measure => simp [strSize, txt_size]; omega
end Go.Proofs.Ytljbbhipdfnppaa
