/- The reference's ReadSegment returns the plain word. -/
import Derived.Test.YtljbbhipdfnppaaSegRS
import Derived.Test.YtljbbhipdfnppaaSegTS
namespace Go.Proofs.Ytljbbhipdfnppaa
open Go Go.ChangeShapes Go.WideShapes Go.ChangeAt Go.RowKit
/-- s[a:b] -/
theorem run_mid {P : Program} (t : TypeId) (ht : P.underlying t = some .string) (s : ByteArray) (a b : Nat) (h : a ≤ b) (hb : b ≤ s.size) (w : World) :
    (Instr.slice t (.string s) (some (.int .i64 (a : Int))) (some (.int .i64 (b : Int))) none).run P w = .ok (.string (txt ((s.data.toList.take b).drop a))) w := by
  rw [run_slice_string (P := P) w t s .i64 .i64 (a : Int) (b : Int) ht (by omega) (by omega) (by omega), ← cut_str]
  rfl
/-- what was read, all parts empty if nothing was -/
def rdT (l : List UInt8) (o : Option (List (List (List UInt8)) × Nat)) : List UInt8 := match o with | none => [] | some _ => l.take 3
def rdE (o : Option (List (List (List UInt8)) × Nat)) : List (List (List UInt8)) := match o with | none => [] | some x => x.1
def rdN (o : Option (List (List (List UInt8)) × Nat)) : Nat := match o with | none => 0 | some x => x.2
/-- a segment and how many bytes it has, in new memory -/
def SegAns (w : World) (l : List UInt8) (o : Option (List (List (List UInt8)) × Nat)) : Ending → World → Prop :=
  RVal fun u w' => ∃ A c, u = .tuple #[.agg #[.string (bA (rdT l o)), .slice A (rdE o).length c], .int .i64 (rdN o)] ∧ OwnRR w' w.heap.size w'.heap.size 28 9 (.slice A (rdE o).length c) (elsC (rdE o)) ∧ Below w.heap.size w w'
theorem segOut_none {w w' : World} {l : List UInt8} {o : Option (List (List (List UInt8)) × Nat)} (h : o = none) (hb : Below w.heap.size w w') : SegAns w l o (.returned (.tuple #[.agg #[.string ⟨#[]⟩, .slice none 0 0], .int .i64 0])) w' := by
  subst h
  refine RVal.mk ⟨none, 0, rfl, ?_, hb⟩
  exact (ownRR_none w' w.heap.size _ _)
theorem keepQ {w4 W : World} {q : Nat} {a b : Value} (h : Below w4.heap.size w4 W) (lx : q < w4.heap.size) (x0 : w4.cell? ⟨q, 0, none⟩ = some a) (x1 : w4.cell? ⟨q, 1, none⟩ = some b) : Below w4.heap.size w4 W ∧ W.cell? ⟨q, 0, none⟩ = some a ∧ W.cell? ⟨q, 1, none⟩ = some b :=
  ⟨h, (h.cell (p := ⟨q, 0, none⟩) lx).trans x0, (h.cell (p := ⟨q, 1, none⟩) lx).trans x1⟩
theorem partsB : ∀ (n : Nat) (l : List UInt8) (E : List (List (List UInt8))), l.length ≤ n → (partsAux l E).length ≤ E.length + l.length := by
  intro n
  induction n with
  | zero =>
    intro l E hl
    obtain rfl := List.eq_nil_of_length_eq_zero (Nat.le_zero.1 hl)
    rw [p_nil]; simp
  | succ n ih =>
    intro l E hl
    match l, hl with
    | [], _ => rw [p_nil]; simp
    | c :: r, hl =>
      simp only [List.length_cons] at hl ⊢
      by_cases h1 : c = 43
      · subst h1
        rw [p_43]
        have := ih r (E ++ [[[]]]) (by omega)
        simp at this
        omega
      · by_cases hE : E = []
        · subst hE
          rw [p_none h1]; simp
        · by_cases h2 : c = 58
          · subst h2
            rw [p_58 _ hE]
            have := ih r (modLast (· ++ [[]]) E) (by omega)
            rw [modLast_len] at this
            omega
          · by_cases h3 : c = 63
            · subst h3
              match r, hl with
              | [], _ => rw [p_631 hE]; omega
              | d :: r, hl =>
                simp only [List.length_cons] at hl ⊢
                rw [p_63 _ _ hE]
                have := ih r (modLast (modLast (· ++ [d])) E) (by omega)
                rw [modLast_len] at this
                omega
            · rw [p_one h1 h2 h3 _ hE]
              have := ih r (modLast (modLast (· ++ [c])) E) (by omega)
              rw [modLast_len] at this
              omega
theorem endB (l : List UInt8) : (elsC (partsAux l [])).length ≤ l.length := by
  rw [elsC_len]
  have := partsB _ l [] (Nat.le_refl _)
  simpa using this
theorem rdSeg_def (l : List UInt8) : rdSeg l = if endAux l 0 < 4 then none
  else if segText (bA (l.take 3)) (tx (partsAux ((l.take (endAux l 0 - 1)).drop 3) [])) = l.take (endAux l 0) then some (partsAux ((l.take (endAux l 0 - 1)).drop 3) [], endAux l 0) else none := rfl
set_option maxRecDepth 100000 in
set_option maxHeartbeats 4000000 in
theorem specReadSegment (s : ByteArray) (w : World) (hs : s.size ≤ 1073741824) :
    Calls Try.prog 18 #[.string s] w (SegAns w s.data.toList (rdSeg s.data.toList)) := by
  have hal : Below w.heap.size w (w.alloc (.cells #[.string ⟨#[]⟩, .slice none 0 0] 25)) := (Below.refl _ _).alloc (Nat.le_refl _) _
  have hR : Blk (w.alloc (.cells #[.string ⟨#[]⟩, .slice none 0 0] 25)) w.heap.size 25 [.string ⟨#[]⟩, .slice none 0 0] := Blk.new _ _ _
  go_enter Try.func18, Try.ntmps18
  go_wp2_with fail
  refine (specEnd s _ (by omega)).mono ?_
  rintro e w' ⟨rfl, rfl⟩
  have hle := endAux_pos _ s.data.toList 0 (Nat.le_refl _)
  rw [list_len, Nat.zero_add] at hle
  have hdef := rdSeg_def s.data.toList
  generalize hn : endAux s.data.toList 0 = n at *
  clear hn
  have HDEF := Lib.hid hdef
  clear hdef
  by_cases h4 : n < 4
  · have H0 : Hid (rdSeg s.data.toList = none) := Lib.hid (by have h := HDEF.out; rw [if_pos h4] at h; exact h)
    have r0 := hR.cellAt 0 (by simp)
    have r1 := hR.cellAt 1 (by simp)
    simp only [List.getElem_cons_zero, List.getElem_cons_succ] at r0 r1
    go_wp2_with fail
    refine bodyPost_ret (v := .tuple #[.agg #[.string ⟨#[]⟩, .slice none 0 0], .int .i64 0]) (by simp [results, Try.results18, go_sem, *]) rfl ?_
    exact segOut_none H0.out hal
  · have hns : n ≤ s.size := by omega
    have h3 : ∀ w, (Instr.slice 9 (.string s) none (some (.int .i64 3)) none).run Try.prog w = .ok (.string (txt (s.data.toList.take 3))) w := run_upto (P := Try.prog) 9 Try.underlying9 s 3 (by omega)
    have hm := run_mid (P := Try.prog) 9 Try.underlying9 s 3 (n - 1) (by omega) (by omega)
    rw [show ((n - 1 : Nat) : Int) = (n : Int) - 1 from by omega, show ((3 : Nat) : Int) = 3 from rfl] at hm
    have e1 : IntKind.i64.wrap ((n : Int) - 1) = (n : Int) - 1 := IntWalk.i64_in _ (by omega)
    have hu := run_upto (P := Try.prog) 9 Try.underlying9 s n hns
    have hmz : (txt ((s.data.toList.take (n - 1)).drop 3)).size ≤ 1073741824 := by rw [txt_size]; simp; omega
    generalize hML : (s.data.toList.take (n - 1)).drop 3 = ml at *
    go_wp2_with fail
    go_region_held3 (fun W => Below w.heap.size w W)
      (first | exact hal | exact Below.drew hal | assumption | exact Below.drew (hal.alloc (by simp) _) | exact kw2.alloc kw2.size _ | exact (kw2.setCell (p := ⟨_, _, none⟩) (by simp) _).setCell (p := ⟨_, _, none⟩) (by simp) _)
      (first
        | (go_at_call 44; (with_reducible refine (specParts (txt ml) _ hmz).mono ?_); rintro e w2 ⟨u, rfl, hO2, hb2⟩; obtain ⟨A2, c2, rfl, _, _⟩ := hO2.len; have kw2 : Below w.heap.size w w2 := below_trans (by first | exact Below.drew hal | exact Below.drew (hal.alloc (by simp) _)) hb2; have kc2 := bcell hb2; have sz2 := hb2.size; simp at sz2))
    · have hQ : Blk (w2.alloc (.cells #[.string (txt (s.data.toList.take 3)), .slice A2 (elsC (partsAux ml [])).length c2] 25)) w2.heap.size 25 [.string (txt (s.data.toList.take 3)), .slice A2 (elsC (partsAux ml [])).length c2] := Blk.new _ _ _
      have ha2 : Below w2.heap.size w2 (w2.alloc (.cells #[.string (txt (s.data.toList.take 3)), .slice A2 (elsC (partsAux ml [])).length c2] 25)) := (Below.refl _ _).alloc (Nat.le_refl _) _
      have hO0 := ((hO2.later ha2).base (lo' := w.heap.size + 1) (by simp)).hi ha2.size (Nat.le_refl _)
      obtain ⟨lo1, hlo1, hO⟩ : ∃ lo1, w.heap.size < lo1 ∧ OwnRR _ lo1 _ _ _ _ _ := ⟨_, Nat.lt_succ_self _, hO0⟩
      clear hO0
      have hB := kw2.alloc kw2.size (.cells #[.string (txt (s.data.toList.take 3)), .slice A2 (elsC (partsAux ml [])).length c2] 25)
      have hR2 := (hR.drew.later hb2).later ha2
      generalize (w2.alloc (.cells #[.string (txt (s.data.toList.take 3)), .slice A2 (elsC (partsAux ml [])).length c2] 25)) = w4 at *
      generalize w2.heap.size = q at *
      clear hR hal
      have q0 := hQ.cellAt 0 (by simp)
      have q1 := hQ.cellAt 1 (by simp)
      simp only [List.getElem_cons_zero, List.getElem_cons_succ] at q0 q1
      have hlq := hQ.lt
      have hRD := hO.rd
      have hEl := elsC_len (partsAux ml [])
      have hB4 := endB ml
      have hml : ml.length ≤ 1073741824 := by rw [← txt_size]; exact hmz
      generalize hE : partsAux ml [] = E at *
      have HE := Lib.hid hE
      clear hE
      generalize hm4 : (elsC E).length = m at *
      have HM := Lib.hid hm4
      have HM2 : Hid ((tx E).length = m) := Lib.hid (by rw [← hm4]; simp [elsC, strss])
      have HO := Lib.hid hO
      have HB := Lib.hid hB
      have HR2 := Lib.hid hR2
      have HRD := Lib.hid hRD
      clear hO hB hR2 hQ hRD hm4 hEl
      go_wp2_with fail
      go_region_held3 (fun W => Below w4.heap.size w4 W ∧ W.cell? ⟨q, 0, none⟩ = some (.string (txt (s.data.toList.take 3))) ∧ W.cell? ⟨q, 1, none⟩ = some (.slice A2 m c2))
        (first | exact keepQ (Below.refl _ _) hlq q0 q1 | exact keepQ (Below.drew (Below.refl _ _)) hlq q0 q1 | assumption)
        (first
          | (go_at_call 15; (with_reducible refine (specSegmentText (txt (s.data.toList.take 3)) A2 m c2 (tx E) _ HM2.out (HRD.out.below (Below.drew (Below.refl _ _))) (by omega)).mono ?_); rintro e w6 ⟨rfl, hb6⟩; have kx := keepQ (below_trans (Below.drew (Below.refl _ _)) hb6) hlq q0 q1))
      obtain ⟨kx1, kx2, kx3⟩ := kx
      have HO6 := Lib.hid (HO.out.later kx1)
      have HB6 := Lib.hid (below_trans HB.out kx1)
      have hR6 := HR2.out.later kx1
      have r0 := hR6.cellAt 0 (by simp)
      have r1 := hR6.cellAt 1 (by simp)
      have f0 := hR6.frozen 0
      have f1 := hR6.frozen 1
      simp only [List.getElem_cons_zero, List.getElem_cons_succ] at r0 r1
      have hl6 := kx1.size
      have hlO := HO6.out
      have HR6 := Lib.hid hR6
      clear hb6 q0 q1 HO HB HR2 HRD hR6 hlO
      go_wp2_with fail
      · rename_i hq
        have hst : ¬ segText (bA (s.data.toList.take 3)) (tx E) = s.data.toList.take n := fun h => by
          have h' : segText (txt (s.data.toList.take 3)) (tx E) = s.data.toList.take n := h
          rw [h'] at hq; simp at hq
        have HS : Hid (rdSeg s.data.toList = none) := Lib.hid (by have h := HDEF.out; rw [if_neg h4, if_neg hst] at h; exact h)
        have hRR := (HR6.out.set_ 0 (.string ⟨#[]⟩)).set_ 1 (.slice none 0 0)
        have z0 := hRR.cellAt 0 (by simp)
        have z1 := hRR.cellAt 1 (by simp)
        simp only [List.set_cons_zero, List.set_cons_succ, List.getElem_cons_zero, List.getElem_cons_succ] at z0 z1
        refine bodyPost_ret (v := .tuple #[.agg #[.string ⟨#[]⟩, .slice none 0 0], .int .i64 0]) (by simp [results, Try.results18, go_sem, z0, z1]) rfl ?_
        exact segOut_none HS.out ((HB6.out.setCell (p := ⟨_, _, none⟩) (Nat.le_refl _) _).setCell (p := ⟨_, _, none⟩) (Nat.le_refl _) _)
      · rename_i hq
        have hst : segText (bA (s.data.toList.take 3)) (tx E) = s.data.toList.take n := by
          show segText (txt (s.data.toList.take 3)) (tx E) = s.data.toList.take n
          simpa using hq
        have HS : Hid (rdSeg s.data.toList = some (E, n)) := Lib.hid (by have h := HDEF.out; rw [if_neg h4, if_pos hst] at h; exact h)
        have hRR := (HR6.out.set_ 0 (.string (txt (s.data.toList.take 3)))).set_ 1 (.slice A2 m c2)
        have z0 := hRR.cellAt 0 (by simp)
        have z1 := hRR.cellAt 1 (by simp)
        simp only [List.set_cons_zero, List.set_cons_succ, List.getElem_cons_zero, List.getElem_cons_succ] at z0 z1
        refine bodyPost_ret (v := .tuple #[.agg #[.string (txt (s.data.toList.take 3)), .slice A2 m c2], .int .i64 n]) (by simp [results, Try.results18, go_sem, z0, z1]) rfl ?_
        have hEm : E.length = m := by have := HM.out; rw [elsC_len] at this; exact this
        refine RVal.mk ⟨A2, c2, by rw [HS.out]; simp only [rdT, rdE, rdN]; rw [hEm]; rfl, ?_, (HB6.out.setCell (p := ⟨_, _, none⟩) (Nat.le_refl _) _).setCell (p := ⟨_, _, none⟩) (Nat.le_refl _) _⟩
        rw [HS.out]
        simp only [rdE]
        rw [hEm]
        exact (((HO6.out.hi hl6 (Nat.le_refl _)).set_far w.heap.size 0 _ hlo1 (Nat.le_refl _)).set_far w.heap.size 1 _ hlo1 (Nat.le_refl _)).base (Nat.le_of_lt hlo1)
    · have hsz : (w.alloc (.cells #[.string ⟨#[]⟩, .slice none 0 0] 25)).heap.size = w.heap.size + 1 := by simp
      have hN := Blk.new (w.alloc (.cells #[.string ⟨#[]⟩, .slice none 0 0] 25)) 25 [.string ⟨#[]⟩, .slice none 0 0]
      rw [hsz] at hN
      have hQ := ((hN.drew.later hb2).set_ 0 (.string (txt (s.data.toList.take 3)))).set_ 1 (.slice A2 (elsC (partsAux ml [])).length c2)
      simp only [List.set_cons_zero, List.set_cons_succ] at hQ
      have hO0 := ((hO2.set_far (w.heap.size + 1) 0 (.string (txt (s.data.toList.take 3))) (by simp) (Nat.le_refl _)).set_far (w.heap.size + 1) 1 (.slice A2 (elsC (partsAux ml [])).length c2) (by simp) (Nat.le_refl _)).base (lo' := w.heap.size + 1) (by simp)
      obtain ⟨lo1, hlo1, hO⟩ : ∃ lo1, w.heap.size < lo1 ∧ OwnRR _ lo1 _ _ _ _ _ := ⟨_, Nat.lt_succ_self _, hO0⟩
      clear hO0
      have hB : Below w.heap.size w ((w2.setCell ⟨w.heap.size + 1, 0, none⟩ (.string (txt (s.data.toList.take 3)))).setCell ⟨w.heap.size + 1, 1, none⟩ (.slice A2 (elsC (partsAux ml [])).length c2)) := (kw2.setCell (p := ⟨_, _, none⟩) (by simp) _).setCell (p := ⟨_, _, none⟩) (by simp) _
      have hR2 := (((hR.alloc (.cells #[.string ⟨#[]⟩, .slice none 0 0] 25)).drew.later hb2).far (p := ⟨w.heap.size + 1, 0, none⟩) (by simp) (.string (txt (s.data.toList.take 3)))).far (p := ⟨w.heap.size + 1, 1, none⟩) (by simp) (.slice A2 (elsC (partsAux ml [])).length c2)
      clear hN hsz
      generalize ((w2.setCell ⟨w.heap.size + 1, 0, none⟩ (.string (txt (s.data.toList.take 3)))).setCell ⟨w.heap.size + 1, 1, none⟩ (.slice A2 (elsC (partsAux ml [])).length c2)) = w4 at *
      clear hb2 hO2 kc2 kw2 sz2
      generalize w.heap.size + 1 = q at *
      clear hR hal
      have q0 := hQ.cellAt 0 (by simp)
      have q1 := hQ.cellAt 1 (by simp)
      simp only [List.getElem_cons_zero, List.getElem_cons_succ] at q0 q1
      have hlq := hQ.lt
      have hRD := hO.rd
      have hEl := elsC_len (partsAux ml [])
      have hB4 := endB ml
      have hml : ml.length ≤ 1073741824 := by rw [← txt_size]; exact hmz
      generalize hE : partsAux ml [] = E at *
      have HE := Lib.hid hE
      clear hE
      generalize hm4 : (elsC E).length = m at *
      have HM := Lib.hid hm4
      have HM2 : Hid ((tx E).length = m) := Lib.hid (by rw [← hm4]; simp [elsC, strss])
      have HO := Lib.hid hO
      have HB := Lib.hid hB
      have HR2 := Lib.hid hR2
      have HRD := Lib.hid hRD
      clear hO hB hR2 hQ hRD hm4 hEl
      go_wp2_with fail
      go_region_held3 (fun W => Below w4.heap.size w4 W ∧ W.cell? ⟨q, 0, none⟩ = some (.string (txt (s.data.toList.take 3))) ∧ W.cell? ⟨q, 1, none⟩ = some (.slice A2 m c2))
        (first | exact keepQ (Below.refl _ _) hlq q0 q1 | exact keepQ (Below.drew (Below.refl _ _)) hlq q0 q1 | assumption)
        (first
          | (go_at_call 15; (with_reducible refine (specSegmentText (txt (s.data.toList.take 3)) A2 m c2 (tx E) _ HM2.out (HRD.out.below (Below.drew (Below.refl _ _))) (by omega)).mono ?_); rintro e w6 ⟨rfl, hb6⟩; have kx := keepQ (below_trans (Below.drew (Below.refl _ _)) hb6) hlq q0 q1))
      obtain ⟨kx1, kx2, kx3⟩ := kx
      have HO6 := Lib.hid (HO.out.later kx1)
      have HB6 := Lib.hid (below_trans HB.out kx1)
      have hR6 := HR2.out.later kx1
      have r0 := hR6.cellAt 0 (by simp)
      have r1 := hR6.cellAt 1 (by simp)
      have f0 := hR6.frozen 0
      have f1 := hR6.frozen 1
      simp only [List.getElem_cons_zero, List.getElem_cons_succ] at r0 r1
      have hl6 := kx1.size
      have hlO := HO6.out
      have HR6 := Lib.hid hR6
      clear hb6 q0 q1 HO HB HR2 HRD hR6 hlO
      go_wp2_with fail
      · rename_i hq
        have hst : ¬ segText (bA (s.data.toList.take 3)) (tx E) = s.data.toList.take n := fun h => by
          have h' : segText (txt (s.data.toList.take 3)) (tx E) = s.data.toList.take n := h
          rw [h'] at hq; simp at hq
        have HS : Hid (rdSeg s.data.toList = none) := Lib.hid (by have h := HDEF.out; rw [if_neg h4, if_neg hst] at h; exact h)
        have hRR := (HR6.out.set_ 0 (.string ⟨#[]⟩)).set_ 1 (.slice none 0 0)
        have z0 := hRR.cellAt 0 (by simp)
        have z1 := hRR.cellAt 1 (by simp)
        simp only [List.set_cons_zero, List.set_cons_succ, List.getElem_cons_zero, List.getElem_cons_succ] at z0 z1
        refine bodyPost_ret (v := .tuple #[.agg #[.string ⟨#[]⟩, .slice none 0 0], .int .i64 0]) (by simp [results, Try.results18, go_sem, z0, z1]) rfl ?_
        exact segOut_none HS.out ((HB6.out.setCell (p := ⟨_, _, none⟩) (Nat.le_refl _) _).setCell (p := ⟨_, _, none⟩) (Nat.le_refl _) _)
      · rename_i hq
        have hst : segText (bA (s.data.toList.take 3)) (tx E) = s.data.toList.take n := by
          show segText (txt (s.data.toList.take 3)) (tx E) = s.data.toList.take n
          simpa using hq
        have HS : Hid (rdSeg s.data.toList = some (E, n)) := Lib.hid (by have h := HDEF.out; rw [if_neg h4, if_pos hst] at h; exact h)
        have hRR := (HR6.out.set_ 0 (.string (txt (s.data.toList.take 3)))).set_ 1 (.slice A2 m c2)
        have z0 := hRR.cellAt 0 (by simp)
        have z1 := hRR.cellAt 1 (by simp)
        simp only [List.set_cons_zero, List.set_cons_succ, List.getElem_cons_zero, List.getElem_cons_succ] at z0 z1
        refine bodyPost_ret (v := .tuple #[.agg #[.string (txt (s.data.toList.take 3)), .slice A2 m c2], .int .i64 n]) (by simp [results, Try.results18, go_sem, z0, z1]) rfl ?_
        have hEm : E.length = m := by have := HM.out; rw [elsC_len] at this; exact this
        refine RVal.mk ⟨A2, c2, by rw [HS.out]; simp only [rdT, rdE, rdN]; rw [hEm]; rfl, ?_, (HB6.out.setCell (p := ⟨_, _, none⟩) (Nat.le_refl _) _).setCell (p := ⟨_, _, none⟩) (Nat.le_refl _) _⟩
        rw [HS.out]
        simp only [rdE]
        rw [hEm]
        exact (((HO6.out.hi hl6 (Nat.le_refl _)).set_far w.heap.size 0 _ hlo1 (Nat.le_refl _)).set_far w.heap.size 1 _ hlo1 (Nat.le_refl _)).base (Nat.le_of_lt hlo1)
end Go.Proofs.Ytljbbhipdfnppaa
