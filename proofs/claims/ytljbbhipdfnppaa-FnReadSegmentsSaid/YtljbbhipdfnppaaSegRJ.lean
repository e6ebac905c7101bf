/- The program's ReadSegment returns the plain word. -/
import Derived.Test.YtljbbhipdfnppaaSegRI
import Derived.Deep.CutRange
namespace Go.Proofs.Ytljbbhipdfnppaa
open Go Go.ChangeShapes Go.WideShapes Go.ChangeAt Go.RowKit
set_option linter.unusedVariables false
theorem byte_infoE : Info Try.prog 5 (.int .u8 0) 1 1 := Info.mk' (by kernel_rfl) rfl (by decide) (by decide)
theorem rdSegI_def (l : List UInt8) : rdSegI l = if l.length < 4 then none
  else match rdI (l.drop 3) [] [] 3 with
    | none => none
    | some (E, n) => if segText (bA (l.take 3)) (tx E) = l.take n then some (E, n) else none := rfl
theorem rdSegI_none {l : List UInt8} (h : rdI (l.drop 3) [] [] 3 = none) : rdSegI l = none := by
  rw [rdSegI_def, h]
  split <;> rfl
theorem rdSegI_some {l : List UInt8} {E : List (List (List UInt8))} {n : Nat} (h4 : ¬ l.length < 4) (h : rdI (l.drop 3) [] [] 3 = some (E, n)) : rdSegI l = if segText (bA (l.take 3)) (tx E) = l.take n then some (E, n) else none := by
  rw [rdSegI_def, if_neg h4, h]
/-- each element's parts: at most k -/
def RowB (E : List (List (List UInt8))) (k : Nat) : Prop := ∀ L ∈ E, L.length ≤ k
set_option maxRecDepth 100000 in
set_option maxHeartbeats 16000000 in
theorem implReadSegment (s : ByteArray) (w : World) (hs : s.size ≤ 1073741824) :
    Calls Try.prog 16 #[.string s] w (SegAns w s.data.toList (rdSegI s.data.toList)) := by
  have hlen := list_len s
  by_cases h4 : s.size < 4
  · have hb : Below w.heap.size w (w.alloc (.cells #[.string ⟨#[]⟩, .slice none 0 0] 25)) := (Below.refl _ _).alloc (Nat.le_refl _) _
    have hRR := Blk.new w 25 [.string ⟨#[]⟩, .slice none 0 0]
    have z0 := hRR.cellAt 0 (by simp)
    have z1 := hRR.cellAt 1 (by simp)
    simp only [List.getElem_cons_zero, List.getElem_cons_succ] at z0 z1
    have H0 : Hid (rdSegI s.data.toList = none) := Lib.hid (by rw [rdSegI_def, if_pos (by omega)])
    clear hRR
    go_enter Try.func16, Try.ntmps16
    go_wp2_with fail
    refine bodyPost_ret (v := .tuple #[.agg #[.string ⟨#[]⟩, .slice none 0 0], .int .i64 0]) (by simp [results, Try.results16, go_sem]) rfl ?_
    exact segOut_none H0.out hb
  · have h3 : ∀ w, (Instr.slice 9 (.string s) none (some (.int .i64 3)) none).run Try.prog w = .ok (.string (txt (s.data.toList.take 3))) w := run_upto (P := Try.prog) 9 Try.underlying9 s 3 (by omega)
    have h4l : ¬ s.data.toList.length < 4 := by omega
    have hI0 : RI w ((w.alloc (.cells #[.string ⟨#[]⟩, .slice none 0 0] 25)).alloc (.cells #[.string (txt (s.data.toList.take 3)), .slice none 0 0] 25)) (s.data.toList.take 3) (.slice none 0 0) (.slice none 0 0) [] [] := by
      refine ⟨_, ?_, ownRR_none _ _ _ _, Nat.le_refl _, World.ownsRow_nil _ _ _ _, ?_, (Blk.new _ _ _).alloc _, ((Below.refl _ _).alloc (Nat.le_refl _) _).alloc (by simp) _⟩
      · simp
      · have := Blk.new (w.alloc (.cells #[.string ⟨#[]⟩, .slice none 0 0] 25)) 25 [.string (txt (s.data.toList.take 3)), .slice none 0 0]
        simpa using this
    go_enter Try.func16, Try.ntmps16
    go_wp2_with fail
    generalize ((w.alloc (.cells #[.string ⟨#[]⟩, .slice none 0 0] 25)).alloc (.cells #[.string (txt (s.data.toList.take 3)), .slice none 0 0] 25)) = w0 at *
    go_loopw [5, 6, 7, 8, 33, 52, 94] (fun vp i _ _ _ _ _ wr => ∃ (k : Nat) (v : Value) (E : List (List (List UInt8))) (p : List UInt8), 3 ≤ k ∧ k ≤ s.size ∧ i = .int .i64 k ∧ RI w wr (s.data.toList.take 3) v vp E p ∧ E.length ≤ 6 ∧ p.length ≤ 9 ∧ Hid (RowB E k) ∧ Hid (rdI (s.data.toList.drop k) E p k = rdI (s.data.toList.drop 3) [] [] 3)) (fun _ i _ _ _ _ _ _ => s.size - (intOf i).toNat)
    case atStart => exact ⟨3, _, [], [], Nat.le_refl _, by omega, rfl, hI0, by simp, by simp, Lib.hid (fun L hL => by cases hL), Lib.hid rfl⟩
    case round =>
      clear hI0
      obtain ⟨k, v, E, p, hk3, hk, rfl, hI, hE6, hp9, HRB, HE⟩ := hrel
      obtain ⟨A, c, rfl, hc1, hc2⟩ := hI.form
      obtain ⟨PA, pc, rfl⟩ := hI.part
      have q0 := hI.seg.cellAt 0 (by simp)
      have q1 := hI.seg.cellAt 1 (by simp)
      have r0 := hI.res.cellAt 0 (by simp)
      have r1 := hI.res.cellAt 1 (by simp)
      have f0 := hI.res.frozen 0
      have f1 := hI.res.frozen 1
      simp only [List.getElem_cons_zero, List.getElem_cons_succ] at q0 q1 r0 r1
      have HI := Lib.hid hI
      have hlq := hI.seg.lt
      clear hI
      by_cases hlt : k < s.size
      · have HD := Lib.hid (data_at s k hlt)
        have hki : (k : Int) < (s.size : Int) := by omega
        have e1 : IntKind.i64.wrap ((k : Int) + 1) = (k : Int) + 1 := IntWalk.i64_in _ (by omega)
        by_cases hst : rStop s[k] E p
        · have HN : Hid (rdSegI s.data.toList = none) := Lib.hid (rdSegI_none (by rw [← HE.out, HD.out]; exact r_stop hst _ _))
          have hRR := (HI.out.res.set_ 0 (.string ⟨#[]⟩)).set_ 1 (.slice none 0 0)
          have hbz : Below w.heap.size w ((wr.setCell ⟨w.heap.size, 0, none⟩ (.string ⟨#[]⟩)).setCell ⟨w.heap.size, 1, none⟩ (.slice none 0 0)) := (HI.out.bel.setCell (p := ⟨_, _, none⟩) (Nat.le_refl _) _).setCell (p := ⟨_, _, none⟩) (Nat.le_refl _) _
          have z0 := hRR.cellAt 0 (by simp)
          have z1 := hRR.cellAt 1 (by simp)
          simp only [List.set_cons_zero, List.set_cons_succ, List.getElem_cons_zero, List.getElem_cons_succ] at z0 z1
          clear hRR
          generalize hm : E.length = m at *
          generalize hn : p.length = n at *
          have m3 : IntKind.i64.wrap ((m : Int) - 1) = (m : Int) - 1 := IntWalk.i64_in _ (by omega)
          have hst' : ((s[k].toNat : Int) ≠ 43 ∧ m = 0 ∧ (s[k].toNat : Int) ≠ 39) ∨ 8 < n ∨ 5 < m := by
            rcases hst with ⟨h1, h2, h3⟩ | h | h
            · left
              refine ⟨fun e => h1 (byte_eq (n := 43) (by decide) e), by rw [← hm, h2]; rfl, fun e => h3 (byte_eq (n := 39) (by decide) e)⟩
            · exact .inr (.inl (by rw [← hn]; exact h))
            · exact .inr (.inr (by rw [← hm]; exact h))
          clear hst hm hn
          by_cases hA : (s[k].toNat : Int) ≠ 43 ∧ m = 0 ∧ (s[k].toNat : Int) ≠ 39
          · obtain ⟨a1, a2, a3⟩ := hA
            subst a2
            have x43 : ((s[k].toNat : Int) == 43) = false := by simp; omega
            have y43 : ((s[k].toNat : Int) != 43) = true := by simp; omega
            have x39 : ((s[k].toNat : Int) == 39) = false := by simp; omega
            have y39 : ((s[k].toNat : Int) != 39) = true := by simp; omega
            clear hst'
            go_wp2_with fail
            refine bodyPost_ret (v := .tuple #[.agg #[.string ⟨#[]⟩, .slice none 0 0], .int .i64 0]) (by simp [results, Try.results16, go_sem, z0, z1]) rfl ?_
            exact segOut_none HN.out hbz
          · have hB : 8 < n ∨ 5 < m := hst'.resolve_left hA
            have hC : (s[k].toNat : Int) = 43 ∨ ((s[k].toNat : Int) ≠ 43 ∧ (1 ≤ m)) ∨ ((s[k].toNat : Int) = 39 ∧ m = 0) := by omega
            clear hst' hA
            rcases hC with a1 | ⟨a1, a2⟩ | ⟨a1, a2⟩
            · skip
              have x43 : ((s[k].toNat : Int) == 43) = true := by simp; omega
              have y43 : ((s[k].toNat : Int) != 43) = false := by simp; omega
              by_cases hn8 : 8 < n
              · have g1 : (8 : Int) < (n : Int) := by omega
                go_wp2_with fail
                refine bodyPost_ret (v := .tuple #[.agg #[.string ⟨#[]⟩, .slice none 0 0], .int .i64 0]) (by simp [results, Try.results16, go_sem, z0, z1]) rfl ?_
                exact segOut_none HN.out hbz
              · have g1 : ¬ (8 : Int) < (n : Int) := by omega
                have g2 : (5 : Int) < (m : Int) := by omega
                go_wp2_with fail
                refine bodyPost_ret (v := .tuple #[.agg #[.string ⟨#[]⟩, .slice none 0 0], .int .i64 0]) (by simp [results, Try.results16, go_sem, z0, z1]) rfl ?_
                exact segOut_none HN.out hbz
            · skip
              have x43 : ((s[k].toNat : Int) == 43) = false := by simp; omega
              have y43 : ((s[k].toNat : Int) != 43) = true := by simp; omega
              have g0 : ¬ ((m : Int) - 1 < 0) := by omega
              have g0' : (1 : Int) ≤ (m : Int) := by omega
              have g0'' : ¬ (m : Int) < 1 := by omega
              by_cases hn8 : 8 < n
              · have g1 : (8 : Int) < (n : Int) := by omega
                go_wp2_with fail
                refine bodyPost_ret (v := .tuple #[.agg #[.string ⟨#[]⟩, .slice none 0 0], .int .i64 0]) (by simp [results, Try.results16, go_sem, z0, z1]) rfl ?_
                exact segOut_none HN.out hbz
              · have g1 : ¬ (8 : Int) < (n : Int) := by omega
                have g2 : (5 : Int) < (m : Int) := by omega
                go_wp2_with fail
                refine bodyPost_ret (v := .tuple #[.agg #[.string ⟨#[]⟩, .slice none 0 0], .int .i64 0]) (by simp [results, Try.results16, go_sem, z0, z1]) rfl ?_
                exact segOut_none HN.out hbz
            · subst a2
              have a4 : (s[k].toNat : Int) ≠ 43 := by omega
              have x43 : ((s[k].toNat : Int) == 43) = false := by simp; omega
              have y43 : ((s[k].toNat : Int) != 43) = true := by simp; omega
              have x39 : ((s[k].toNat : Int) == 39) = true := by simp; omega
              have y39 : ((s[k].toNat : Int) != 39) = false := by simp; omega
              have g1 : (8 : Int) < (n : Int) := by omega
              go_wp2_with fail
              refine bodyPost_ret (v := .tuple #[.agg #[.string ⟨#[]⟩, .slice none 0 0], .int .i64 0]) (by simp [results, Try.results16, go_sem, z0, z1]) rfl ?_
              exact segOut_none HN.out hbz
        · have hp8 : p.length ≤ 8 := Nat.le_of_not_lt fun h => hst (.inr (.inl h))
          have hE5 : E.length ≤ 5 := Nat.le_of_not_lt fun h => hst (.inr (.inr h))
          have hsz2 : w.heap.size + 2 ≤ wr.heap.size := HI.out.seg.lt
          by_cases hsep : (s[k].toNat : Int) = 43 ∨ (s[k].toNat : Int) = 39 ∨ (s[k].toNat : Int) = 58
          · rcases List.eq_nil_or_concat E with rfl | ⟨E0, L, rfl⟩
            · obtain ⟨m, hm⟩ : ∃ m : Nat, m = ([] : List (List (List UInt8))).length := ⟨_, rfl⟩
              rw [← hm] at q1 HI hc1 hE6 hE5
              have HEM := Lib.hid hm.symm
              obtain rfl : m = 0 := hm
              have HML : Hid (modLast (· ++ [p]) ([] : List (List (List UInt8))) = []) := Lib.hid rfl
              have HST := Lib.hid hst
              have hns : (s[k].toNat : Int) = 43 ∨ (s[k].toNat : Int) = 39 := by
                rcases hsep with h | h | h
                · exact .inl h
                · exact .inr h
                · exact absurd (.inl ⟨fun e => by rw [e] at h; simp at h, rfl, fun e => by rw [e] at h; simp at h⟩) hst
              have n8 : ¬ (8 : Int) < (p.length : Int) := by omega
              have HRB2 : Hid (RowB [] (k + 1)) := Lib.hid (fun M hM => by cases hM)
              clear hst hsep
              rcases hns with h | h
              · have HC := Lib.hid (byte_eq (n := 43) (by decide) h)
                have h' : (s[k].toNat : Int) ≠ 39 := by omega
                have x43 : ((s[k].toNat : Int) == 43) = true := by simp; omega
                have y43 : ((s[k].toNat : Int) != 43) = false := by simp; omega
                have x39 : ((s[k].toNat : Int) == 39) = false := by simp; omega
                have y39 : ((s[k].toNat : Int) != 39) = true := by simp; omega
                clear h h'
                have hpu := HI.out.push
                obtain ⟨hs, hrow2, hfin2⟩ := hpu
                rw [HEM.out] at hrow2 hfin2
                have hps := HI.out.seg.cellAt 1 (by simp)
                simp only [List.getElem_cons_zero, List.getElem_cons_succ] at hps
                have hsz3 : w.heap.size + 2 ≤ (World.heap wr).size := HI.out.seg.lt
                have HF2 := Lib.hid hfin2
                clear hfin2
                go_wp2_with (at_builtin; refine append_new rfl (.tmp 81) (.tmp 82) 23 rfl 28 _ _ _ Try.underlying23 strings_infoE (w.heap.size + 2) wr (.slice A 0 c) 0 hs rfl hrow2 [.slice none 0 0] (by first | rfl | (simp; with_unfolding_all rfl)) rfl (by simp [Value.oneCell']) (by omega) hsz3 ?_; intro v9 w9 hown9 hg9 hb9; obtain ⟨A9, c9, rfl, _, _⟩ := own_slice hown9; obtain ⟨t1, t2, t3⟩ := HF2.out _ _ hown9 hg9 hb9; clear hown9 hg9 hb9)
                go_wp2_with fail
                go_roundw
                case rel =>
                  refine ⟨k + 1, _, [] ++ [[]], [], by omega, by omega, by go_num, t3, by first | (rw [List.length_append, HEM.out]; simp; omega) | simp, by simp, Lib.hid ?_, Lib.hid ?_⟩
                  · intro M hM
                    rcases List.mem_append.1 hM with hM | hM
                    · exact HRB2.out M hM
                    · rw [List.mem_singleton.1 hM]; simp
                  · rw [← HE.out, HD.out, HC.out]
                    refine Eq.symm ((r_43 (by rw [← show s[k] = 43 from HC.out]; exact HST.out) _ _).trans ?_)
                    rw [HML.out]
                case measure => simp [intOf]; omega
              · have HC := Lib.hid (byte_eq (n := 39) (by decide) h)
                have h' : (s[k].toNat : Int) ≠ 43 := by omega
                have x43 : ((s[k].toNat : Int) == 43) = false := by simp; omega
                have y43 : ((s[k].toNat : Int) != 43) = true := by simp; omega
                have x39 : ((s[k].toNat : Int) == 39) = true := by simp; omega
                have y39 : ((s[k].toNat : Int) != 39) = false := by simp; omega
                clear h h'
                have hrd := HI.out.rows
                have hem : (tx ([])).length = 0 := by rw [tx, List.length_map]; exact HEM.out
                have hch := implChecked (s.data.toList.take 3) A 0 c ([]) s (k + 1) wr hem hrd.rd (by omega) (by omega)
                rw [show ((k + 1 : Nat) : Int) = (k : Int) + 1 from by omega] at hch
                have HCH := Lib.hid hch
                have HRD := Lib.hid hrd
                have hps := HI.out.seg.cellAt 0 (by simp)
                have hpt := HI.out.seg.cellAt 1 (by simp)
                simp only [List.getElem_cons_zero, List.getElem_cons_succ] at hps hpt
                have HRS := Lib.hid HI.out.res
                have HBW := Lib.hid HI.out.bel
                have HN2 : Hid (rdI (s.data.toList.drop 3) [] [] 3 = some ([], k + 1)) := Lib.hid (by
                  rw [← HE.out, HD.out, HC.out]
                  refine (r_39 (by rw [← show s[k] = 39 from HC.out]; exact HST.out) _ _).trans ?_
                  rw [HML.out])
                have HDF := Lib.hid (rdSegI_some h4l HN2.out)
                clear hch hrd hem
                go_wp2_with fail
                refine HCH.out.mono ?_
                rintro e w9 ⟨hor, hb9⟩
                have hres9 := HRS.out.later hb9
                have hb99 := Lib.hid (below_trans HBW.out hb9)
                have u0 := hres9.cellAt 0 (by simp)
                have u1 := hres9.cellAt 1 (by simp)
                have v0 := hres9.frozen 0
                have v1 := hres9.frozen 1
                simp only [List.getElem_cons_zero, List.getElem_cons_succ] at u0 u1
                have HRES := Lib.hid hres9
                have HB9 := Lib.hid hb9
                clear hb9 hres9 hps hpt
                rcases hor with ⟨hyes, rfl⟩ | ⟨hno, rfl⟩
                · have HN3 : Hid (rdSegI s.data.toList = some ([], k + 1)) := Lib.hid (by rw [HDF.out, if_pos hyes])
                  clear hyes
                  have hRR := (HRES.out.set_ 0 (.string (txt (s.data.toList.take 3)))).set_ 1 (.slice A 0 c)
                  have z0 := hRR.cellAt 0 (by simp)
                  have z1 := hRR.cellAt 1 (by simp)
                  simp only [List.set_cons_zero, List.set_cons_succ, List.getElem_cons_zero, List.getElem_cons_succ] at z0 z1
                  clear hRR
                  go_wp2_with fail
                  refine bodyPost_ret (v := .tuple #[.agg #[.string (txt (s.data.toList.take 3)), .slice A 0 c], .int .i64 ((k : Int) + 1)]) (by simp [results, Try.results16, go_sem, z0, z1]) rfl ?_
                  refine RVal.mk ⟨A, c, by rw [HN3.out]; simp only [rdT, rdE, rdN]; rw [HEM.out]; rfl, ?_, (hb99.out.setCell (p := ⟨_, _, none⟩) (Nat.le_refl _) _).setCell (p := ⟨_, _, none⟩) (Nat.le_refl _) _⟩
                  rw [HN3.out]
                  simp only [rdE]
                  rw [HEM.out]
                  exact ((((HRD.out.later HB9.out).hi HB9.out.size (Nat.le_refl _)).set_far w.heap.size 0 _ (by omega) (Nat.le_refl _)).set_far w.heap.size 1 _ (by omega) (Nat.le_refl _)).base (by omega)
                · have HN3 : Hid (rdSegI s.data.toList = none) := Lib.hid (by rw [HDF.out, if_neg hno])
                  clear hno
                  have hRR := (HRES.out.set_ 0 (.string ⟨#[]⟩)).set_ 1 (.slice none 0 0)
                  have z0 := hRR.cellAt 0 (by simp)
                  have z1 := hRR.cellAt 1 (by simp)
                  simp only [List.set_cons_zero, List.set_cons_succ, List.getElem_cons_zero, List.getElem_cons_succ] at z0 z1
                  clear hRR
                  go_wp2_with fail
                  refine bodyPost_ret (v := .tuple #[.agg #[.string ⟨#[]⟩, .slice none 0 0], .int .i64 0]) (by simp [results, Try.results16, go_sem, z0, z1]) rfl ?_
                  exact segOut_none HN3.out ((hb99.out.setCell (p := ⟨_, _, none⟩) (Nat.le_refl _) _).setCell (p := ⟨_, _, none⟩) (Nat.le_refl _) _)
            · rw [List.concat_eq_append] at *
              have hm1 : (E0 ++ [L]).length = E0.length + 1 := by simp
              generalize hm : (E0 ++ [L]).length = m at *
              have m3 : IntKind.i64.wrap ((m : Int) - 1) = (m : Int) - 1 := IntWalk.i64_in _ (by omega)
              have m5 : (1 : Int) ≤ (m : Int) := by omega
              have m1 : (m : Int) - 1 < (m : Int) := by omega
              have m2 : ((m : Int) - 1).toNat = E0.length := by omega
              have m6 : ¬ (5 : Int) < (m : Int) := by omega
              have m7 : ¬ ((m : Int) - 1 < 0) := by omega
              have m8 : ¬ (m : Int) < 1 := by omega
              have n8 : ¬ (8 : Int) < (p.length : Int) := by omega
              have HM1 := Lib.hid hm1
              have HM := Lib.hid hm
              have HST := Lib.hid hst
              have HSEP := Lib.hid hsep
              clear hm1 hm hst hsep
              go_upto_region 11 with fail
              go_cut [33] from 34 to 43 (fun s33 wx => s33 = .bool false ∧ wr = wx)
              case first =>
                rcases HSEP.out with h | h | h
                · skip
                  have x43 : ((s[k].toNat : Int) == 43) = true := by simp; omega
                  have y43 : ((s[k].toNat : Int) != 43) = false := by simp; omega
                  clear h
                  go_wp2_with fail
                  go_meet
                  exact ⟨rfl, rfl⟩
                · have h' : (s[k].toNat : Int) ≠ 43 := by omega
                  have x43 : ((s[k].toNat : Int) == 43) = false := by simp; omega
                  have y43 : ((s[k].toNat : Int) != 43) = true := by simp; omega
                  have x39 : ((s[k].toNat : Int) == 39) = true := by simp; omega
                  have y39 : ((s[k].toNat : Int) != 39) = false := by simp; omega
                  clear h
                  go_wp2_with fail
                  go_meet
                  exact ⟨rfl, rfl⟩
                · have h' : (s[k].toNat : Int) ≠ 43 := by omega
                  have h'' : (s[k].toNat : Int) ≠ 39 := by omega
                  have x43 : ((s[k].toNat : Int) == 43) = false := by simp; omega
                  have y43 : ((s[k].toNat : Int) != 43) = true := by simp; omega
                  have x39 : ((s[k].toNat : Int) == 39) = false := by simp; omega
                  have y39 : ((s[k].toNat : Int) != 39) = true := by simp; omega
                  clear h
                  go_wp2_with fail
                  go_meet
                  exact ⟨rfl, rfl⟩
              case rest =>
                obtain ⟨rfl, rfl⟩ := hcut
                go_upto_region 15 with fail
                go_cut [52] from 53 to 62 (fun s52 wx => s52 = .bool true ∧ wr = wx)
                case first =>
                  rcases HSEP.out with h | h | h
                  · skip
                    have x43 : ((s[k].toNat : Int) == 43) = true := by simp; omega
                    have y43 : ((s[k].toNat : Int) != 43) = false := by simp; omega
                    clear h
                    go_wp2_with fail
                    go_meet
                    exact ⟨rfl, rfl⟩
                  · have h' : (s[k].toNat : Int) ≠ 43 := by omega
                    have x43 : ((s[k].toNat : Int) == 43) = false := by simp; omega
                    have y43 : ((s[k].toNat : Int) != 43) = true := by simp; omega
                    have x39 : ((s[k].toNat : Int) == 39) = true := by simp; omega
                    have y39 : ((s[k].toNat : Int) != 39) = false := by simp; omega
                    clear h
                    go_wp2_with fail
                    go_meet
                    exact ⟨rfl, rfl⟩
                  · have h' : (s[k].toNat : Int) ≠ 43 := by omega
                    have h'' : (s[k].toNat : Int) ≠ 39 := by omega
                    have x43 : ((s[k].toNat : Int) == 43) = false := by simp; omega
                    have y43 : ((s[k].toNat : Int) != 43) = true := by simp; omega
                    have x39 : ((s[k].toNat : Int) == 39) = false := by simp; omega
                    have y39 : ((s[k].toNat : Int) != 39) = true := by simp; omega
                    have x58 : ((s[k].toNat : Int) == 58) = true := by simp; omega
                    have y58 : ((s[k].toNat : Int) != 58) = false := by simp; omega
                    clear h
                    go_wp2_with fail
                    go_meet
                    exact ⟨rfl, rfl⟩
                case rest =>
                  obtain ⟨rfl, rfl⟩ := hcut
                  have hfl := HI.out.flush
                  obtain ⟨g, gc, B, c', hv, hg1, hg2, hcell, hrow, hfin⟩ := hfl
                  injection hv with hv1 hv2 hv3
                  subst hv1
                  have hcv := HI.out.conv rfl
                  have HFIN := Lib.hid hfin
                  have hLk := HRB.out L (by simp)
                  generalize hx : E0.length = x at *
                  generalize hy : L.length = y at *
                  generalize hnp : p.length = n at *
                  have HX := Lib.hid hx
                  have HY := Lib.hid hy
                  have HNP := Lib.hid hnp
                  clear hfin hv2 hv3 hx hy hnp
                  go_upto_region 17 with fail
                  go_cut [] from 65 to 77 (fun wx => RI w wx (s.data.toList.take 3) (.slice (some ⟨g, 0, none⟩) m c) (.slice none 0 0) (E0 ++ [L ++ [p]]) [])
                  case first =>
                    clear h3 q0 r0 r1 f0 f1 e1 m6 n8 hk3 hE6 hp9 hp8 hE5 hc1 hc2
                    go_region_law (first
                        | (refine step_append_new rfl (.tmp 72) (.tmp 75) 28 rfl 9 _ _ _ Try.underlying28 string_infoE (w.heap.size + 2) wr.drew (.slice B y c') y (elC L) rfl hrow [.string (txt p)] (by first | rfl | (simp; with_unfolding_all rfl)) rfl (by simp [Value.oneCell']) (by omega) hsz2 ?_
                           intro v8 w8 hown8 hg8 hb8
                           obtain ⟨A8, c8, rfl, _, _⟩ := own_slice hown8
                           obtain ⟨k1, k2, k3, kx, k5⟩ := HFIN.out w8 _ hg8 hown8 hb8
                           have ky := k5.seg.cellAt 1 (by simp)
                           simp only [List.getElem_cons_zero, List.getElem_cons_succ] at ky
                           clear hown8 hg8 hb8))
                    all_goals
                      go_wp2_with fail
                      go_meet
                      exact k5
                  case rest =>
                    have HEM : Hid ((E0 ++ [L ++ [p]]).length = m) := Lib.hid (by rw [HM1.out, List.length_append, HX.out]; rfl)
                    have HML : Hid (modLast (· ++ [p]) (E0 ++ [L]) = E0 ++ [L ++ [p]]) := Lib.hid (modLast_snoc _ _ _)
                    have HRB2 : Hid (RowB (E0 ++ [L ++ [p]]) (k + 1)) := Lib.hid (by
                      intro M hM
                      rcases List.mem_append.1 hM with hM | hM
                      · have := HRB.out M (by simp [hM]); omega
                      · rw [List.mem_singleton.1 hM, List.length_append, HY.out]; simp; omega)
                    clear q0 q1 r0 r1 f0 f1 hrow hcell hcv
                    rcases HSEP.out with h | h | h
                    · have HC := Lib.hid (byte_eq (n := 43) (by decide) h)
                      have h' : (s[k].toNat : Int) ≠ 39 := by omega
                      have x43 : ((s[k].toNat : Int) == 43) = true := by simp; omega
                      have y43 : ((s[k].toNat : Int) != 43) = false := by simp; omega
                      have x39 : ((s[k].toNat : Int) == 39) = false := by simp; omega
                      have y39 : ((s[k].toNat : Int) != 39) = true := by simp; omega
                      clear h h'
                      have hpu := hcut.push
                      obtain ⟨hs, hrow2, hfin2⟩ := hpu
                      rw [HEM.out] at hrow2 hfin2
                      have hps := hcut.seg.cellAt 1 (by simp)
                      simp only [List.getElem_cons_zero, List.getElem_cons_succ] at hps
                      have hsz3 : w.heap.size + 2 ≤ (World.heap wc).size := hcut.seg.lt
                      have HF2 := Lib.hid hfin2
                      clear hfin2
                      go_wp2_with (at_builtin; refine append_new rfl (.tmp 81) (.tmp 82) 23 rfl 28 _ _ _ Try.underlying23 strings_infoE (w.heap.size + 2) wc (.slice (some ⟨g, 0, none⟩) m c) m hs rfl hrow2 [.slice none 0 0] (by first | rfl | (simp; with_unfolding_all rfl)) rfl (by simp [Value.oneCell']) (by omega) hsz3 ?_; intro v9 w9 hown9 hg9 hb9; obtain ⟨A9, c9, rfl, _, _⟩ := own_slice hown9; obtain ⟨t1, t2, t3⟩ := HF2.out _ _ hown9 hg9 hb9; clear hown9 hg9 hb9)
                      go_wp2_with fail
                      go_roundw
                      case rel =>
                        refine ⟨k + 1, _, (E0 ++ [L ++ [p]]) ++ [[]], [], by omega, by omega, by go_num, t3, by first | (rw [List.length_append, HEM.out]; simp; omega) | simp, by simp, Lib.hid ?_, Lib.hid ?_⟩
                        · intro M hM
                          rcases List.mem_append.1 hM with hM | hM
                          · exact HRB2.out M hM
                          · rw [List.mem_singleton.1 hM]; simp
                        · rw [← HE.out, HD.out, HC.out]
                          refine Eq.symm ((r_43 (by rw [← show s[k] = 43 from HC.out]; exact HST.out) _ _).trans ?_)
                          rw [HML.out]
                      case measure => simp [intOf]; omega
                    · have HC := Lib.hid (byte_eq (n := 39) (by decide) h)
                      have h' : (s[k].toNat : Int) ≠ 43 := by omega
                      have x43 : ((s[k].toNat : Int) == 43) = false := by simp; omega
                      have y43 : ((s[k].toNat : Int) != 43) = true := by simp; omega
                      have x39 : ((s[k].toNat : Int) == 39) = true := by simp; omega
                      have y39 : ((s[k].toNat : Int) != 39) = false := by simp; omega
                      clear h h'
                      have hrd := hcut.rows
                      have hem : (tx (E0 ++ [L ++ [p]])).length = m := by rw [tx, List.length_map]; exact HEM.out
                      have hch := implChecked (s.data.toList.take 3) (some ⟨g, 0, none⟩) m c (E0 ++ [L ++ [p]]) s (k + 1) wc hem hrd.rd (by omega) (by omega)
                      rw [show ((k + 1 : Nat) : Int) = (k : Int) + 1 from by omega] at hch
                      have HCH := Lib.hid hch
                      have HRD := Lib.hid hrd
                      have hps := hcut.seg.cellAt 0 (by simp)
                      have hpt := hcut.seg.cellAt 1 (by simp)
                      simp only [List.getElem_cons_zero, List.getElem_cons_succ] at hps hpt
                      have HRS := Lib.hid hcut.res
                      have HBW := Lib.hid hcut.bel
                      have HN2 : Hid (rdI (s.data.toList.drop 3) [] [] 3 = some (E0 ++ [L ++ [p]], k + 1)) := Lib.hid (by
                        rw [← HE.out, HD.out, HC.out]
                        refine (r_39 (by rw [← show s[k] = 39 from HC.out]; exact HST.out) _ _).trans ?_
                        rw [HML.out])
                      have HDF := Lib.hid (rdSegI_some h4l HN2.out)
                      clear hch hrd hem
                      go_wp2_with fail
                      refine HCH.out.mono ?_
                      rintro e w9 ⟨hor, hb9⟩
                      have hres9 := HRS.out.later hb9
                      have hb99 := Lib.hid (below_trans HBW.out hb9)
                      have u0 := hres9.cellAt 0 (by simp)
                      have u1 := hres9.cellAt 1 (by simp)
                      have v0 := hres9.frozen 0
                      have v1 := hres9.frozen 1
                      simp only [List.getElem_cons_zero, List.getElem_cons_succ] at u0 u1
                      have HRES := Lib.hid hres9
                      have HB9 := Lib.hid hb9
                      clear hb9 hres9 hps hpt
                      rcases hor with ⟨hyes, rfl⟩ | ⟨hno, rfl⟩
                      · have HN3 : Hid (rdSegI s.data.toList = some (E0 ++ [L ++ [p]], k + 1)) := Lib.hid (by rw [HDF.out, if_pos hyes])
                        clear hyes
                        have hRR := (HRES.out.set_ 0 (.string (txt (s.data.toList.take 3)))).set_ 1 (.slice (some ⟨g, 0, none⟩) m c)
                        have z0 := hRR.cellAt 0 (by simp)
                        have z1 := hRR.cellAt 1 (by simp)
                        simp only [List.set_cons_zero, List.set_cons_succ, List.getElem_cons_zero, List.getElem_cons_succ] at z0 z1
                        clear hRR
                        go_wp2_with fail
                        refine bodyPost_ret (v := .tuple #[.agg #[.string (txt (s.data.toList.take 3)), .slice (some ⟨g, 0, none⟩) m c], .int .i64 ((k : Int) + 1)]) (by simp [results, Try.results16, go_sem, z0, z1]) rfl ?_
                        refine RVal.mk ⟨(some ⟨g, 0, none⟩), c, by rw [HN3.out]; simp only [rdT, rdE, rdN]; rw [HEM.out]; rfl, ?_, (hb99.out.setCell (p := ⟨_, _, none⟩) (Nat.le_refl _) _).setCell (p := ⟨_, _, none⟩) (Nat.le_refl _) _⟩
                        rw [HN3.out]
                        simp only [rdE]
                        rw [HEM.out]
                        exact ((((HRD.out.later HB9.out).hi HB9.out.size (Nat.le_refl _)).set_far w.heap.size 0 _ (by omega) (Nat.le_refl _)).set_far w.heap.size 1 _ (by omega) (Nat.le_refl _)).base (by omega)
                      · have HN3 : Hid (rdSegI s.data.toList = none) := Lib.hid (by rw [HDF.out, if_neg hno])
                        clear hno
                        have hRR := (HRES.out.set_ 0 (.string ⟨#[]⟩)).set_ 1 (.slice none 0 0)
                        have z0 := hRR.cellAt 0 (by simp)
                        have z1 := hRR.cellAt 1 (by simp)
                        simp only [List.set_cons_zero, List.set_cons_succ, List.getElem_cons_zero, List.getElem_cons_succ] at z0 z1
                        clear hRR
                        go_wp2_with fail
                        refine bodyPost_ret (v := .tuple #[.agg #[.string ⟨#[]⟩, .slice none 0 0], .int .i64 0]) (by simp [results, Try.results16, go_sem, z0, z1]) rfl ?_
                        exact segOut_none HN3.out ((hb99.out.setCell (p := ⟨_, _, none⟩) (Nat.le_refl _) _).setCell (p := ⟨_, _, none⟩) (Nat.le_refl _) _)
                    · have HC := Lib.hid (byte_eq (n := 58) (by decide) h)
                      have h' : (s[k].toNat : Int) ≠ 43 := by omega
                      have h'' : (s[k].toNat : Int) ≠ 39 := by omega
                      have x43 : ((s[k].toNat : Int) == 43) = false := by simp; omega
                      have y43 : ((s[k].toNat : Int) != 43) = true := by simp; omega
                      have x39 : ((s[k].toNat : Int) == 39) = false := by simp; omega
                      have y39 : ((s[k].toNat : Int) != 39) = true := by simp; omega
                      clear h h' h''
                      go_wp2_with fail
                      go_roundw
                      case rel =>
                        refine ⟨k + 1, _, E0 ++ [L ++ [p]], [], by omega, by omega, by go_num, hcut, by rw [HEM.out]; omega, by simp, HRB2, Lib.hid ?_⟩
                        rw [← HE.out, HD.out, HC.out]
                        refine Eq.symm ((r_58 (by rw [← show s[k] = 58 from HC.out]; exact HST.out) _ _).trans ?_)
                        rw [HML.out]
                      case measure => simp [intOf]; omega
          · have hEne : E ≠ [] := fun h => hst (.inl ⟨fun e => hsep (by rw [e]; simp), h, fun e => hsep (by rw [e]; simp)⟩)
            have hm0 : 1 ≤ E.length := by cases E with
              | nil => exact absurd rfl hEne
              | cons a b => simp
            have n43 : (s[k].toNat : Int) ≠ 43 := fun h => hsep (.inl h)
            have n39 : (s[k].toNat : Int) ≠ 39 := fun h => hsep (.inr (.inl h))
            have n58 : (s[k].toNat : Int) ≠ 58 := fun h => hsep (.inr (.inr h))
            have HC43 := Lib.hid (byte_ne (n := 43) (by decide) n43)
            have HC39 := Lib.hid (byte_ne (n := 39) (by decide) n39)
            have HC58 := Lib.hid (byte_ne (n := 58) (by decide) n58)
            have x43 : ((s[k].toNat : Int) == 43) = false := by simp; omega
            have y43 : ((s[k].toNat : Int) != 43) = true := by simp; omega
            have x39 : ((s[k].toNat : Int) == 39) = false := by simp; omega
            have y39 : ((s[k].toNat : Int) != 39) = true := by simp; omega
            have x58 : ((s[k].toNat : Int) == 58) = false := by simp; omega
            have y58 : ((s[k].toNat : Int) != 58) = true := by simp; omega
            have HST := Lib.hid hst
            clear hsep hst hEne n43 n39 n58
            have n8 : ¬ (8 : Int) < (p.length : Int) := by omega
            generalize hm : E.length = m at *
            have HM := Lib.hid hm
            clear hm
            have m3 : IntKind.i64.wrap ((m : Int) - 1) = (m : Int) - 1 := IntWalk.i64_in _ (by omega)
            have m5 : (1 : Int) ≤ (m : Int) := by omega
            have m6 : ¬ (5 : Int) < (m : Int) := by omega
            have m7 : ¬ ((m : Int) - 1 < 0) := by omega
            have m8 : ¬ (m : Int) < 1 := by omega
            by_cases h63 : (s[k].toNat : Int) = 63
            · have HC := Lib.hid (byte_eq (n := 63) (by decide) h63)
              by_cases hlt2 : k + 1 < s.size
              · have hki2 : (k : Int) + 1 < (s.size : Int) := by omega
                have HD2 := Lib.hid (data_at s (k + 1) hlt2)
                have e2 : IntKind.i64.wrap ((k : Int) + 1 + 1) = (k : Int) + 1 + 1 := IntWalk.i64_in _ (by omega)
                have x63 : ((s[k].toNat : Int) == 63) = true := by simp; omega
                clear h63
                have hgr := HI.out.grow
                obtain ⟨mid, hmid, hrow2, hfin2⟩ := hgr
                have HF2 := Lib.hid hfin2
                have HPL := Lib.hid (pB_len p)
                clear hfin2
                generalize hnp : p.length = n at *
                have HNP := Lib.hid hnp
                clear hnp
                go_wp2_with (at_builtin; refine append_new rfl (.tmp 106) (.tmp 110) 22 rfl 5 _ _ _ Try.underlying22 byte_infoE mid wr (.slice PA n pc) n (pB p) rfl hrow2 [.int .u8 ((s[k + 1]).toNat : Int)] (by first | rfl | (simp; with_unfolding_all rfl)) rfl (by simp [Value.oneCell']) (by omega) hmid ?_; intro v9 w9 hown9 hg9 hb9; obtain ⟨A9, c9, rfl, _, _⟩ := own_slice hown9; have t3 := HF2.out _ _ _ hown9 hg9; clear hown9 hg9 hb9)
                go_wp2_with fail
                go_roundw
                case rel =>
                  refine ⟨k + 2, _, E, p ++ [s[k + 1]], by omega, by omega, by go_num, t3, by rw [HM.out]; omega, by rw [List.length_append, HNP.out]; simp; omega, Lib.hid (fun M hM => by have := HRB.out M hM; omega), Lib.hid ?_⟩
                  (rw [← HE.out, HD.out, HC.out, HD2.out]; exact (r_63 (by rw [← show s[k] = 63 from HC.out]; exact HST.out) _ _ _).symm)
                case measure => simp [intOf]; omega
              · have hki2 : ¬ (k : Int) + 1 < (s.size : Int) := by omega
                have x63 : ((s[k].toNat : Int) == 63) = true := by simp; omega
                clear h63
                have hgr := HI.out.grow
                obtain ⟨mid, hmid, hrow2, hfin2⟩ := hgr
                have HF2 := Lib.hid hfin2
                have HPL := Lib.hid (pB_len p)
                clear hfin2
                generalize hnp : p.length = n at *
                have HNP := Lib.hid hnp
                clear hnp
                go_wp2_with (at_builtin; refine append_new rfl (.tmp 29) (.tmp 31) 22 rfl 5 _ _ _ Try.underlying22 byte_infoE mid wr (.slice PA n pc) n (pB p) rfl hrow2 [.int .u8 ((s[k]).toNat : Int)] (by first | rfl | (simp; with_unfolding_all rfl)) rfl (by simp [Value.oneCell']) (by omega) hmid ?_; intro v9 w9 hown9 hg9 hb9; obtain ⟨A9, c9, rfl, _, _⟩ := own_slice hown9; have t3 := HF2.out _ _ _ hown9 hg9; clear hown9 hg9 hb9)
                go_wp2_with fail
                go_roundw
                case rel =>
                  refine ⟨k + 1, _, E, p ++ [s[k]], by omega, by omega, by go_num, t3, by rw [HM.out]; omega, by rw [List.length_append, HNP.out]; simp; omega, Lib.hid (fun M hM => by have := HRB.out M hM; omega), Lib.hid ?_⟩
                  (rw [← HE.out, HD.out, HC.out, data_end s (k + 1) (by omega), r_nil]; exact (r_631 (by rw [← show s[k] = 63 from HC.out]; exact HST.out) _).symm)
                case measure => simp [intOf]; omega
            · have HC63 := Lib.hid (byte_ne (n := 63) (by decide) h63)
              have x63 : ((s[k].toNat : Int) == 63) = false := by simp; omega
              clear h63
              have hgr := HI.out.grow
              obtain ⟨mid, hmid, hrow2, hfin2⟩ := hgr
              have HF2 := Lib.hid hfin2
              have HPL := Lib.hid (pB_len p)
              clear hfin2
              generalize hnp : p.length = n at *
              have HNP := Lib.hid hnp
              clear hnp
              go_wp2_with (at_builtin; refine append_new rfl (.tmp 29) (.tmp 31) 22 rfl 5 _ _ _ Try.underlying22 byte_infoE mid wr (.slice PA n pc) n (pB p) rfl hrow2 [.int .u8 ((s[k]).toNat : Int)] (by first | rfl | (simp; with_unfolding_all rfl)) rfl (by simp [Value.oneCell']) (by omega) hmid ?_; intro v9 w9 hown9 hg9 hb9; obtain ⟨A9, c9, rfl, _, _⟩ := own_slice hown9; have t3 := HF2.out _ _ _ hown9 hg9; clear hown9 hg9 hb9)
              go_wp2_with fail
              go_roundw
              case rel =>
                refine ⟨k + 1, _, E, p ++ [s[k]], by omega, by omega, by go_num, t3, by rw [HM.out]; omega, by rw [List.length_append, HNP.out]; simp; omega, Lib.hid (fun M hM => by have := HRB.out M hM; omega), Lib.hid ?_⟩
                (rw [← HE.out, HD.out]; exact (r_one HST.out HC39.out HC43.out HC58.out HC63.out _ _).symm)
              case measure => simp [intOf]; omega
      · have HN : Hid (rdSegI s.data.toList = none) := Lib.hid (rdSegI_none (by rw [← HE.out, data_end s k (by omega)]; exact r_nil _))
        have hRR := (HI.out.res.set_ 0 (.string ⟨#[]⟩)).set_ 1 (.slice none 0 0)
        have hbz : Below w.heap.size w ((wr.setCell ⟨w.heap.size, 0, none⟩ (.string ⟨#[]⟩)).setCell ⟨w.heap.size, 1, none⟩ (.slice none 0 0)) := (HI.out.bel.setCell (p := ⟨_, _, none⟩) (Nat.le_refl _) _).setCell (p := ⟨_, _, none⟩) (Nat.le_refl _) _
        have z0 := hRR.cellAt 0 (by simp)
        have z1 := hRR.cellAt 1 (by simp)
        simp only [List.set_cons_zero, List.set_cons_succ, List.getElem_cons_zero, List.getElem_cons_succ] at z0 z1
        clear hRR
        go_wp2_with fail
        refine bodyPost_ret (v := .tuple #[.agg #[.string ⟨#[]⟩, .slice none 0 0], .int .i64 0]) (by simp [results, Try.results16, go_sem, z0, z1]) rfl ?_
        exact segOut_none HN.out hbz
end Go.Proofs.Ytljbbhipdfnppaa
