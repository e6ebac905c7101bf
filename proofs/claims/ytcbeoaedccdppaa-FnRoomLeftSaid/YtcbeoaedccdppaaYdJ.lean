/- The program's YardPut: the plain word. -/
import Derived.Test.YtcbeoaedccdppaaYdH
namespace Go.Proofs.Ytcbeoaedccdppaa
open Go Go.ChangeShapes Go.WideShapes Go.ChangeAt Go.RowKit
set_option linter.unusedVariables false
theorem keepQY {w W : World} {q : Nat} {a b : Value} (h : Below w.heap.size w W) (lx : q < w.heap.size) (x0 : w.cell? ⟨q, 0, none⟩ = some a) (x1 : w.cell? ⟨q, 1, none⟩ = some b) : Below w.heap.size w W ∧ W.cell? ⟨q, 0, none⟩ = some a ∧ W.cell? ⟨q, 1, none⟩ = some b :=
  ⟨h, (h.cell (p := ⟨q, 0, none⟩) lx).trans x0, (h.cell (p := ⟨q, 1, none⟩) lx).trans x1⟩
theorem keepR {w W : World} {q r i : Nat} {a b e : Value} (h : Below w.heap.size w W) (lx : q < w.heap.size) (lr : r < w.heap.size) (x0 : w.cell? ⟨q, 0, none⟩ = some a) (x1 : w.cell? ⟨q, 1, none⟩ = some b) (x2 : w.cell? ⟨r, i, none⟩ = some e) : Below w.heap.size w W ∧ W.cell? ⟨q, 0, none⟩ = some a ∧ W.cell? ⟨q, 1, none⟩ = some b ∧ W.cell? ⟨r, i, none⟩ = some e :=
  ⟨h, (h.cell (p := ⟨q, 0, none⟩) lx).trans x0, (h.cell (p := ⟨q, 1, none⟩) lx).trans x1, (h.cell (p := ⟨r, i, none⟩) lr).trans x2⟩
set_option maxRecDepth 100000 in
set_option maxHeartbeats 4000000 in
theorem implYardPut (high i x : Int) (A : Option Addr) (n c : Nat) (rows : List (List Int)) (w : World) (hn : rows.length = n) (hr : RdRR w A (intss rows)) (hm : n ≤ 1048576) (hin : ∀ s ∈ rows, s.length ≤ 1048576) :
    Calls Try.prog 14 #[.agg #[.int .i64 high, .slice A n c], .int .i64 i, .int .i64 x] w (YPOut w (yput high rows i x)) := by
  have HN := Lib.hid hn
  have HR := Lib.hid hr
  have HIN := Lib.hid hin
  clear hn hin
  have hal : Below w.heap.size w ((w.alloc (.cells #[.int .i64 high, .slice A n c] 27)).alloc (.cells #[.int .i64 0, .slice none 0 0] 27)) := ((Below.refl _ _).alloc (Nat.le_refl _) _).alloc (by simp) _
  have hP : Blk ((w.alloc (.cells #[.int .i64 high, .slice A n c] 27)).alloc (.cells #[.int .i64 0, .slice none 0 0] 27)) w.heap.size 27 [.int .i64 high, .slice A n c] := (Blk.new _ _ _).alloc _
  have hQ : Blk ((w.alloc (.cells #[.int .i64 high, .slice A n c] 27)).alloc (.cells #[.int .i64 0, .slice none 0 0] 27)) (w.heap.size + 1) 27 [.int .i64 0, .slice none 0 0] := by simpa using Blk.new (w.alloc (.cells #[.int .i64 high, .slice A n c] 27)) 27 [.int .i64 0, .slice none 0 0]
  have hs1 : w.heap.size + 2 ≤ ((w.alloc (.cells #[.int .i64 high, .slice A n c] 27)).alloc (.cells #[.int .i64 0, .slice none 0 0] 27)).heap.size := by simp
  go_enter Try.func14, Try.ntmps14
  go_wp2_with fail
  generalize (w.alloc (.cells #[.int .i64 high, .slice A n c] 27)).alloc (.cells #[.int .i64 0, .slice none 0 0] 27) = w1 at *
  refine (implYardValid high A n c rows _ HN.out (hr.below hal) (by omega)).mono ?_
  rintro e w2 ⟨rfl, b2⟩
  have hP2 := hP.later b2
  have hQ2 := hQ.later b2
  have B2 := below_trans hal b2
  have hs2 : w.heap.size + 2 ≤ w2.heap.size := Nat.le_trans hs1 b2.size
  have x0 := hP2.cellAt 0 (by simp)
  have x1 := hP2.cellAt 1 (by simp)
  have y0 := hQ2.cellAt 0 (by simp)
  have y1 := hQ2.cellAt 1 (by simp)
  have f0 := hQ2.frozen 0
  have f1 := hQ2.frozen 1
  simp only [List.getElem_cons_zero, List.getElem_cons_succ] at x0 x1 y0 y1
  clear hal hP hQ hs1 b2
  have l0 := hP2.lt
  have l1 := hQ2.lt
  cases hok : yardOk high rows with
  | false =>
    have H0 := Lib.hid (yput_bad i x hok)
    have HB2 := Lib.hid B2
    have HQ2 := Lib.hid hQ2
    clear hok B2 hQ2
    go_wp2_with fail
    have hR := (HQ2.out.set_ 0 (.int .i64 0)).set_ 1 (.slice none 0 0)
    have z0 := hR.cellAt 0 (by simp)
    have z1 := hR.cellAt 1 (by simp)
    simp only [List.set_cons_zero, List.set_cons_succ, List.getElem_cons_zero, List.getElem_cons_succ] at z0 z1
    refine bodyPost_ret (v := .tuple #[.agg #[.int .i64 0, .slice none 0 0], .bool false]) (by simp [results, Try.results14, go_sem, z0, z1]) rfl ?_
    exact yp_zero H0.out HB2.out
  | true =>
    obtain ⟨g1, g2, g3, g4, g5, g6⟩ := yardOk_parts hok
    have HG5 := Lib.hid g5
    clear g3 g4 g5 g6
    have HOK := Lib.hid hok
    have HB2 := Lib.hid B2
    have HP2 := Lib.hid hP2
    have HQ2 := Lib.hid hQ2
    clear hok B2 hP2 hQ2
    go_wp2_with fail
    refine (implClone high A n c rows _ HN.out (HR.out.below HB2.out) (by omega) HIN.out).mono ?_
    rintro e w3 ⟨_, rfl, A1, c1, rfl, O3, b3⟩
    have hal3 : Below w3.heap.size w3 (w3.alloc (.cells #[.int .i64 high, .slice A1 n c1] 27)) := (Below.refl _ _).alloc (Nat.le_refl _) _
    have b4 := below_trans b3 hal3
    have hX4 : Blk (w3.alloc (.cells #[.int .i64 high, .slice A1 n c1] 27)) w3.heap.size 27 [.int .i64 high, .slice A1 n c1] := Blk.new _ _ _
    have hP4 := HP2.out.later b4
    have hQ4 := HQ2.out.later b4
    have O4 := O3.later hal3
    have hs23 := b3.size
    have B4 := below_trans HB2.out b4
    clear x0 x1 y0 y1 f0 f1 b3 hal3 O3 b4
    have x0 := hP4.cellAt 0 (by simp)
    have x1 := hP4.cellAt 1 (by simp)
    simp only [List.getElem_cons_zero, List.getElem_cons_succ] at x0 x1
    have HP4 := Lib.hid hP4
    have HQ4 := Lib.hid hQ4
    have HX4 := Lib.hid hX4
    have HO4 := Lib.hid O4
    have HB4 := Lib.hid B4
    clear hP4 hQ4 hX4 O4 B4
    go_wp2_with fail
    generalize w3.alloc (.cells #[.int .i64 high, .slice A1 n c1] 27) = w4 at *
    have lw := HP4.out.lt
    have hH := fun w0 => yardHasG high A n c i w0 (by omega)
    have hmo : Try.prog.follows .mixedOrders = true := by kernel_rfl
    have gx0 := cell_grown lw x0
    have gx1 := cell_grown lw x1
    cases hi : inI i 0 ((n : Int) - 1) with
    | false =>
      have H0 := Lib.hid (yput_out x HOK.out (fun h => by have := inI_no hi; rw [HN.out] at h; exact this h))
      rw [hi] at hH
      clear hi
      go_upto_region 4 with fail
      refine wp_region_quiet_grown (by assumption) (by kernel_rfl) ?_
      repeat (go_big_quiet_step ((first | (go_at_call 31; exact Calls.grown_of (hH _)) | (go_at_call 32; exact Calls.grown_of (hI _)) | (go_at_call 33; exact Calls.grown_of (hF _ _)))))
      refine wpQuiet_nil ?_
      intro _ hw'
      obtain ⟨⟨nq, osq⟩, hw''⟩ := hw'
      subst hw''
      have ba := below_grow w4 nq osq
      generalize Go.Sort.grow (w4.drewN nq) osq = w5 at *
      clear gx0 gx1
      clear hH
      have Q5 := HQ4.out.later ba
      have X5 := HX4.out.later ba
      have y0 := Q5.cellAt 0 (by simp)
      have y1 := Q5.cellAt 1 (by simp)
      have f0 := Q5.frozen 0
      have f1 := Q5.frozen 1
      have v0 := X5.cellAt 0 (by simp)
      have v1 := X5.cellAt 1 (by simp)
      simp only [List.getElem_cons_zero, List.getElem_cons_succ] at y0 y1 v0 v1
      have HQ5 := Lib.hid Q5
      have HO5 := Lib.hid (HO4.out.later ba)
      have HB5 := Lib.hid (below_trans HB4.out ba)
      clear Q5 X5
      go_wp2_with fail
      have hR := (HQ5.out.set_ 0 (.int .i64 high)).set_ 1 (.slice A1 n c1)
      have z0 := hR.cellAt 0 (by simp)
      have z1 := hR.cellAt 1 (by simp)
      simp only [List.set_cons_zero, List.set_cons_succ, List.getElem_cons_zero, List.getElem_cons_succ] at z0 z1
      refine bodyPost_ret (v := .tuple #[.agg #[.int .i64 high, .slice A1 n c1], .bool false]) (by simp [results, Try.results14, go_sem, z0, z1]) rfl ?_
      exact yp_out H0.out HN.out HO5.out hs2 HB5.out
    | true =>
      rw [hi] at hH
      obtain ⟨k, rfl, hk⟩ := inI_yes hi
      have hkz : k < rows.length := by rw [HN.out]; exact hk
      have hkl : k < (intss rows).length := by rw [intss_len]; exact hkz
      have hki : (k : Int) < (n : Int) := by omega
      have hki0 : (0 : Int) ≤ (k : Int) := by omega
      have hpl := HG5.out rows[k] (List.getElem_mem hkz)
      have hpush := yardOk_push (x := x) HOK.out hkz
      have H1 := Lib.hid (fun h => yput_yes (x := x) HOK.out hkz h)
      have H2 := Lib.hid (fun h => yput_no (x := x) HOK.out hkz h)
      obtain ⟨b, o, rfl, hl0, B, c', hcell0, hle, hmx, hrB0⟩ := HR.out.pos hkl
      have lb : b < w4.heap.size := Nat.lt_of_lt_of_le hl0 HB4.out.size
      have hcell := (HB4.out.cell (p := ⟨b, o + k, none⟩) hl0).trans hcell0
      simp only [intss_at, ints_len] at hcell
      have HRR := Lib.hid (HR.out.below HB4.out)
      have HPE := Lib.hid hpush
      have hI := fun w0 : World => (isId_any x w0).mono (fun e w' h => (⟨h.1, 0, #[], by rw [Go.Sort.grow_empty]; exact h.2.symm⟩ : e = .returned (.bool (idI x)) ∧ ∃ q os', w' = Go.Sort.grow (w0.drewN q) os'))
      have hF := fun (n' : Nat) (os : Array Obj) => yardFind high (some ⟨b, o, none⟩) n c rows x (Go.Sort.grow (w4.drewN n') os) HN.out (HRR.out.below (below_grow w4 n' os)) (by omega)
      have hfd := findAux_any rows 0 x
      generalize findAux rows 0 x = fi at *
      have gcell := cell_grown (show (⟨b, o + k, none⟩ : Addr).block < w4.heap.size from lb) hcell
      clear hi hpush hcell0 hle hmx hrB0 hr
      generalize hp : (rows[k]).length = p at *
      have HPL := Lib.hid hp
      clear hp
      cases hid : idI x with
      | false =>
        have H0 := Lib.hid (H2.out (by rw [HPE.out, hid]; rfl))
        rw [hid] at hI
        clear hid
        go_upto_region 4 with fail
        refine wp_region_quiet_grown (by assumption) (by kernel_rfl) ?_
        repeat (go_big_quiet_step ((first | (go_at_call 31; exact Calls.grown_of (hH _)) | (go_at_call 32; exact Calls.grown_of (hI _)) | (go_at_call 33; exact Calls.grown_of (hF _ _)))))
        refine wpQuiet_nil ?_
        intro _ hw'
        obtain ⟨⟨nq, osq⟩, hw''⟩ := hw'
        subst hw''
        have ba := below_grow w4 nq osq
        generalize Go.Sort.grow (w4.drewN nq) osq = w5 at *
        clear gx0 gx1
        clear hH hI hF
        have Q5 := HQ4.out.later ba
        have X5 := HX4.out.later ba
        have y0 := Q5.cellAt 0 (by simp)
        have y1 := Q5.cellAt 1 (by simp)
        have f0 := Q5.frozen 0
        have f1 := Q5.frozen 1
        have v0 := X5.cellAt 0 (by simp)
        have v1 := X5.cellAt 1 (by simp)
        simp only [List.getElem_cons_zero, List.getElem_cons_succ] at y0 y1 v0 v1
        have HQ5 := Lib.hid Q5
        have HO5 := Lib.hid (HO4.out.later ba)
        have HB5 := Lib.hid (below_trans HB4.out ba)
        clear Q5 X5
        go_wp2_with fail
        have hR := (HQ5.out.set_ 0 (.int .i64 high)).set_ 1 (.slice A1 n c1)
        have z0 := hR.cellAt 0 (by simp)
        have z1 := hR.cellAt 1 (by simp)
        simp only [List.set_cons_zero, List.set_cons_succ, List.getElem_cons_zero, List.getElem_cons_succ] at z0 z1
        refine bodyPost_ret (v := .tuple #[.agg #[.int .i64 high, .slice A1 n c1], .bool false]) (by simp [results, Try.results14, go_sem, z0, z1]) rfl ?_
        exact yp_out H0.out HN.out HO5.out hs2 HB5.out
      | true =>
        rw [hid] at hI
        cases hany : anyI rows x with
        | true =>
          have H0 := Lib.hid (H2.out (by rw [HPE.out, hid, hany]; rfl))
          rw [hany] at hfd
          clear hid hany
          go_upto_region 4 with fail
          refine wp_region_quiet_grown (by assumption) (by kernel_rfl) ?_
          repeat (go_big_quiet_step ((first | (go_at_call 31; exact Calls.grown_of (hH _)) | (go_at_call 32; exact Calls.grown_of (hI _)) | (go_at_call 33; exact Calls.grown_of (hF _ _)))))
          refine wpQuiet_nil ?_
          intro _ hw'
          obtain ⟨⟨nq, osq⟩, hw''⟩ := hw'
          subst hw''
          have ba := below_grow w4 nq osq
          generalize Go.Sort.grow (w4.drewN nq) osq = w5 at *
          clear gx0 gx1
          clear hH hI hF
          have Q5 := HQ4.out.later ba
          have X5 := HX4.out.later ba
          have y0 := Q5.cellAt 0 (by simp)
          have y1 := Q5.cellAt 1 (by simp)
          have f0 := Q5.frozen 0
          have f1 := Q5.frozen 1
          have v0 := X5.cellAt 0 (by simp)
          have v1 := X5.cellAt 1 (by simp)
          simp only [List.getElem_cons_zero, List.getElem_cons_succ] at y0 y1 v0 v1
          have HQ5 := Lib.hid Q5
          have HO5 := Lib.hid (HO4.out.later ba)
          have HB5 := Lib.hid (below_trans HB4.out ba)
          clear Q5 X5
          go_wp2_with fail
          have hR := (HQ5.out.set_ 0 (.int .i64 high)).set_ 1 (.slice A1 n c1)
          have z0 := hR.cellAt 0 (by simp)
          have z1 := hR.cellAt 1 (by simp)
          simp only [List.set_cons_zero, List.set_cons_succ, List.getElem_cons_zero, List.getElem_cons_succ] at z0 z1
          refine bodyPost_ret (v := .tuple #[.agg #[.int .i64 high, .slice A1 n c1], .bool false]) (by simp [results, Try.results14, go_sem, z0, z1]) rfl ?_
          exact yp_out H0.out HN.out HO5.out hs2 HB5.out
        | false =>
          rw [hany] at hfd
          by_cases hfull : (p : Int) = high
          · have H0 := Lib.hid (H2.out (by rw [HPE.out, hid, hany]; simp [hfull]))
            have hfb : ((p : Int) == high) = true := by simp [hfull]
            have HFU := Lib.hid hfull
            clear hid hfull hany
            go_upto_region 4 with fail
            refine wp_region_quiet_grown (by assumption) (by kernel_rfl) ?_
            repeat (go_big_quiet_step ((first | (go_at_call 31; exact Calls.grown_of (hH _)) | (go_at_call 32; exact Calls.grown_of (hI _)) | (go_at_call 33; exact Calls.grown_of (hF _ _)))))
            refine wpQuiet_nil ?_
            intro _ hw'
            obtain ⟨⟨nq, osq⟩, hw''⟩ := hw'
            subst hw''
            have ba := below_grow w4 nq osq
            generalize Go.Sort.grow (w4.drewN nq) osq = w5 at *
            clear gx0 gx1
            clear hH hI hF
            have Q5 := HQ4.out.later ba
            have X5 := HX4.out.later ba
            have y0 := Q5.cellAt 0 (by simp)
            have y1 := Q5.cellAt 1 (by simp)
            have f0 := Q5.frozen 0
            have f1 := Q5.frozen 1
            have v0 := X5.cellAt 0 (by simp)
            have v1 := X5.cellAt 1 (by simp)
            simp only [List.getElem_cons_zero, List.getElem_cons_succ] at y0 y1 v0 v1
            have HQ5 := Lib.hid Q5
            have HO5 := Lib.hid (HO4.out.later ba)
            have HB5 := Lib.hid (below_trans HB4.out ba)
            clear Q5 X5
            go_wp2_with fail
            have hR := (HQ5.out.set_ 0 (.int .i64 high)).set_ 1 (.slice A1 n c1)
            have z0 := hR.cellAt 0 (by simp)
            have z1 := hR.cellAt 1 (by simp)
            simp only [List.set_cons_zero, List.set_cons_succ, List.getElem_cons_zero, List.getElem_cons_succ] at z0 z1
            refine bodyPost_ret (v := .tuple #[.agg #[.int .i64 high, .slice A1 n c1], .bool false]) (by simp [results, Try.results14, go_sem, z0, z1]) rfl ?_
            exact yp_out H0.out HN.out HO5.out hs2 HB5.out
          · have HOK2 := Lib.hid (show yardOk high (rows.set k (rows[k] ++ [x])) = true by rw [HPE.out, hid, hany]; simp [hfull])
            have hfb : ((p : Int) == high) = false := by simp [hfull]
            clear hid hfull hany
            go_upto_region 4 with fail
            refine wp_region_quiet_grown (by assumption) (by kernel_rfl) ?_
            repeat (go_big_quiet_step ((first | (go_at_call 31; exact Calls.grown_of (hH _)) | (go_at_call 32; exact Calls.grown_of (hI _)) | (go_at_call 33; exact Calls.grown_of (hF _ _)))))
            refine wpQuiet_nil ?_
            intro _ hw'
            obtain ⟨⟨nq, osq⟩, hw''⟩ := hw'
            subst hw''
            have ba := below_grow w4 nq osq
            generalize Go.Sort.grow (w4.drewN nq) osq = w5 at *
            clear gx0 gx1
            clear hH hI hF
            have HQ5 := Lib.hid (HQ4.out.later ba)
            have HX5 := Lib.hid (HX4.out.later ba)
            have HO5 := Lib.hid (HO4.out.later ba)
            have HB5 := Lib.hid (below_trans HB4.out ba)
            have HOK3 := Lib.hid (H1.out HOK2.out)
            have hpl : (rows[k]).length ≤ 5 := by rw [HPL.out]; exact hpl
            have l2 := HQ5.out.lt
            clear ba x0 x1 hcell gcell hfd H1 H2 HPE HOK2 HPL hfb
            obtain ⟨g, B7, c7', rfl, t1, t2, t3, t4, t5, t6, hpush⟩ := HO5.out.push hkz x
            have HPUSH := Lib.hid hpush
            have HPL := Lib.hid hpl
            have hpl5 : (rows[k]).length ≤ 8589934592 := by omega
            have HSL : Hid ((rows.set k (rows[k] ++ [x])).length = n) := Lib.hid (by rw [List.length_set]; exact HN.out)
            generalize rows.set k (rows[k] ++ [x]) = rows2 at *
            generalize hzs : rows[k] = zs at *
            generalize zs.length = p at *
            have x1 := HX5.out.cellAt 1 (by simp)
            have d1 := (HX5.out.alloc (.cells #[.int .i64 x] 3)).cellAt 1 (by simp)
            simp only [List.getElem_cons_zero, List.getElem_cons_succ] at x1 d1
            have d2 : (w5.alloc (.cells #[.int .i64 x] 3)).cell? ⟨g, k, none⟩ = some (.slice B7 p c7') := (((Below.refl _ _).alloc (Nat.le_refl _) _ : Below w5.heap.size w5 (w5.alloc (.cells #[.int .i64 x] 3))).cell (p := ⟨g, k, none⟩) (show g < w5.heap.size by omega)).trans t3
            have hsz7 : w2.heap.size ≤ w5.drew.heap.size := by show w2.heap.size ≤ w5.heap.size; omega
            have T5 := Lib.hid t5
            have hlo7 := HX5.out.lt
            clear hpush hzs t5
            go_upto_region 6 with fail
            go_cut [] from 42 to 53 (fun wx => OwnRR wx w2.heap.size wx.heap.size 37 3 (.slice (some ⟨g, 0, none⟩) n c1) (intss rows2) ∧ Out w2.heap.size w3.heap.size w5 wx)
            case first =>
              go_region_law (first
                | (refine step_append_new rfl (.tmp 49) (.tmp 51) 37 rfl 3 _ _ _ Try.underlying37 int_infoY w2.heap.size w5.drew (.slice B7 p c7') p (ints zs) rfl T5.out [.int .i64 x] (by first | rfl | (simp; with_unfolding_all rfl)) rfl (by simp [Value.oneCell']) hpl5 hsz7 ?_
                   intro v7 w7 hown7 hg7 hb7
                   obtain ⟨m1, m2, m3, m4, m5⟩ := HPUSH.out w7 v7 hown7 hg7 hb7
                   obtain ⟨A7, c7, rfl, _, _⟩ := own_slice hown7
                   have P7 : Blk w7 w3.heap.size 27 [.int .i64 high, .slice (some ⟨g, 0, none⟩) n c1] := (m3.block _ hlo7 (.inr (Nat.le_refl _))).trans HX5.out
                   have d7 := P7.cellAt 1 (by simp)
                   simp only [List.getElem_cons_zero, List.getElem_cons_succ] at d7
                   have M4 := Lib.hid m4
                   have M5 := Lib.hid m5
                   clear m3 m4 m5 hown7 hg7 hb7 P7))
              all_goals
                go_wp2_with fail
                go_meet
                exact ⟨M4.out, M5.out⟩
            case rest =>
              obtain ⟨O7, o7⟩ := hcut
              clear d1 d2 t3 t4 T5 HPUSH x1
              have Q7 := (o7.block _ HQ5.out.lt (.inl (by omega))).trans HQ5.out
              have X7 := (o7.block _ HX5.out.lt (.inr (Nat.le_refl _))).trans HX5.out
              change Blk _ _ _ _ at Q7 X7
              have b7 := below_out HB5.out o7 (by omega)
              have y0 := Q7.cellAt 0 (by simp)
              have y1 := Q7.cellAt 1 (by simp)
              have f0 := Q7.frozen 0
              have f1 := Q7.frozen 1
              have v0 := X7.cellAt 0 (by simp)
              have v1 := X7.cellAt 1 (by simp)
              simp only [List.getElem_cons_zero, List.getElem_cons_succ] at y0 y1 v0 v1
              have HQ7 := Lib.hid Q7
              have HO7 := Lib.hid O7
              have HB7 := Lib.hid b7
              clear Q7 X7 O7 b7 o7
              go_wp2_with fail
              have hR := (HQ7.out.set_ 0 (.int .i64 high)).set_ 1 (.slice (some ⟨g, 0, none⟩) n c1)
              have z0 := hR.cellAt 0 (by simp)
              have z1 := hR.cellAt 1 (by simp)
              simp only [List.set_cons_zero, List.set_cons_succ, List.getElem_cons_zero, List.getElem_cons_succ] at z0 z1
              refine bodyPost_ret (v := .tuple #[.agg #[.int .i64 high, .slice (some ⟨g, 0, none⟩) n c1], .bool true]) (by simp [results, Try.results14, go_sem, z0, z1]) rfl ?_
              exact yp_out HOK3.out HSL.out HO7.out hs2 HB7.out
end Go.Proofs.Ytcbeoaedccdppaa
