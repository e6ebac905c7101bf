/- FnFreeDeeds returns true, for every code; no condition. -/
import Derived.Test.YtpkbipjnobfcdaaPapW
namespace Go.Proofs.Ytpkbipjnobfcdaa
open Go Go.ChangeShapes Go.WideShapes Go.ChangeAt Go.RowKit
set_option linter.unusedVariables false
set_option linter.unusedSimpArgs false
theorem neq_deed (a b c : Int) (w : World) : (binOp .neq 41 (.agg #[.int .i64 a, .int .i64 b, .int .i64 c]) (.agg #[.int .i64 a, .int .i64 b, .int .i64 c])).run Try.prog w = .ok (.bool false) w := by
  have hu : Try.prog.underlying 41 = some (.struct (Try.prog.fieldsOf 41)) := by kernel_rfl
  have hp : Try.prog.stoodInHeld 41 = false := by kernel_rfl
  rw [run_neq_struct, run_equalIn_struct _ _ _ _ _ hu hp]
  simp [go_sem, Try.underlying41, Try.underlying3]
/-- what the law asks, in plain words -/
theorem free_facts (p : PapV) {x : Int} (hx : 1 ≤ x ∧ x ≤ 7) : (papOkV p = false ∧ freeD p x = []) ∨ (papOkV p = true ∧ ∃ p' bs, paperRun p ((freeD p x).map deedV) = (p', bs) ∧ bs = List.replicate (freeD p x).length true ∧ (paperDo p' 2 x 0).2 = (!hasI p.ls x && decide (p.ls.length < 12))) := by
  cases hok : papOkV p with
  | false => exact .inl ⟨rfl, by simp [freeD, hok]⟩
  | true =>
    obtain ⟨p', e1, e2, e3, e4, _, _⟩ := free_run hok x 3 (by omega)
    have hr := marksOf_range (papOk_iff.1 hok).1 x
    have ef : freeD p x = freeTo (marksOf p.hs x) x 3 := by simp [freeD, hok]
    refine .inr ⟨rfl, p', _, ?_, rfl, ?_⟩
    · unfold paperRun
      rw [if_pos hok, ef]
      exact e1
    · rw [leave_iff e2 (by omega) (by rw [e4]; exact clr_all hr.1 hr.2), e3]
theorem hasInt_any (A : Option Addr) (n c : Nat) (zs : List Int) (x : Int) (w : World) (hn : zs.length = n) (hr : RdV w A (ints zs)) (hm : n ≤ 1048576) :
    Calls Try.prog 23 #[.slice A n c, .int .i64 x] w fun e w' => e = .returned (.bool (hasI zs x)) ∧ Below w.heap.size w w' := by
  have HN := Lib.hid hn
  clear hn
  go_enter Try.func23, Try.ntmps23
  go_wp2_with fail
  go_loopw [5] (fun i wr => ∃ k : Nat, k ≤ n ∧ i = .int .i64 k ∧ Hid (x ∉ zs.take k) ∧ Below w.heap.size w wr) (fun i _ => n - (intOf i).toNat)
  case atStart => exact ⟨0, Nat.zero_le _, rfl, Lib.hid (by simp), Below.refl _ _⟩
  case round =>
    obtain ⟨k, hk, rfl, HE, hbl⟩ := hrel
    by_cases hlt : k < n
    · have hkx : k < zs.length := by rw [HN.out]; exact hlt
      obtain ⟨b1, o1, rfl, hl1, hc1⟩ := hr.pos (show k < (ints zs).length by rw [ints_len]; exact hkx)
      have h1 := (hbl.cell (p := ⟨b1, o1 + k, none⟩) hl1).trans (hc1 k (by rw [ints_len]; exact hkx))
      rw [ints_at] at h1
      have HST : Hid (zs[k] ≠ x → x ∉ zs.take (k + 1)) := Lib.hid (fun hne hm => by
        rw [List.take_succ_eq_append_getElem hkx] at hm
        rcases List.mem_append.1 hm with h | h
        · exact HE.out h
        · exact hne (List.mem_singleton.1 h).symm)
      have HIN : Hid (zs[k] = x → hasI zs x = true) := Lib.hid (fun e => hasI_iff2.2 (e ▸ List.getElem_mem hkx))
      generalize zs[k] = y at *
      have hki : (k : Int) < (n : Int) := by omega
      have HBL := Lib.hid hbl
      clear hc1 hbl
      by_cases hxy : y = x
      · have hq : (y == x) = true := by simp [hxy]
        have HF := Lib.hid (HIN.out hxy)
        clear HST HIN hxy
        go_wp2_with fail
        go_ret
        exact ⟨by rw [HF.out]; rfl, HBL.out⟩
      · have hq : (y == x) = false := by simp [hxy]
        have HS := Lib.hid (HST.out hxy)
        clear HST HIN hxy
        go_wp2_with fail
        go_roundw
        case rel => exact ⟨k + 1, by omega, by go_num, HS, HBL.out⟩
        case measure => simp [intOf]; omega
    · obtain rfl : k = n := by omega
      have HF : Hid (hasI zs x = false) := Lib.hid (by
        have h1 := HE.out
        rw [List.take_of_length_le (by rw [HN.out]; exact Nat.le_refl _)] at h1
        exact hasI_no2.2 h1)
      go_wp2_with fail
      go_ret
      exact ⟨by rw [HF.out]; rfl, hbl⟩
set_option maxRecDepth 100000 in
set_option maxHeartbeats 4000000 in
theorem walkFnFreeDeeds (w : World) (A : Option Addr) (n c : Nat) (bs : List Int) (h : Code w A n c bs) :
    Calls Try.prog 5 #[.slice A n c] w fun e w' => e = .returned (.bool true) ∧ Below w.heap.size w w' := by
  by_cases hn : (n : Int) ≤ 1048576
  · go_enter Try.func5, Try.ntmps5
    go_wp2_with fail
    refine (drawFreeDeeds_any A n c bs w h).mono ?_
    rintro e w1 ⟨_, _, rfl, hs, ls, x, ⟨HA, pn, hc, LA, pm, lc, rfl, e1, e2, e3, e4, o1, o2⟩, rfl, hx, hb1⟩
    obtain ⟨p, rfl, rfl⟩ : ∃ p : PapV, p.hs = hs ∧ p.ls = ls := ⟨⟨hs, ls⟩, rfl, rfl⟩
    have hal : Below w1.heap.size w1 (w1.alloc (.cells #[.slice HA pn hc, .slice LA pm lc] 26)) := (Below.refl _ _).alloc (Nat.le_refl _) _
    have P2 : Hid (PapB (w1.alloc (.cells #[.slice HA pn hc, .slice LA pm lc] 26)) w1.heap.size HA pn hc LA pm lc p) := Lib.hid (PapB.new (papQ_own (p := p) e1 e2 e3 e4 o1 o2))
    have B2 := Lib.hid (below_trans hb1 hal)
    have HW := Lib.hid (free_facts p hx)
    have HX := Lib.hid hx
    clear h e1 e2 o1 o2 hb1 hal hx
    go_wp2_with fail
    generalize w1.alloc (.cells #[.slice HA pn hc, .slice LA pm lc] 26) = w2 at *
    generalize w1.heap.size = qp at *
    have p0 := (P2.out).blk.cellAt 0 (by simp)
    have p1 := (P2.out).blk.cellAt 1 (by simp)
    simp only [List.getElem_cons_zero, List.getElem_cons_succ] at p0 p1
    have hl3 : (freeD p x).length ≤ 3 := by
      unfold freeD
      split
      · exact freeTo_len _ _ _
      · simp
    generalize hz : freeD p x = zs at *
    have HZ := Lib.hid hz
    clear hz
    refine (implFreeR HZ.out P2.out.rd).mono ?_
    rintro e w3 ⟨D, d, dc, rfl, hd, hD, b3⟩
    have P3 := Lib.hid (P2.out.later b3)
    have B3 := Lib.hid (below_trans B2.out b3)
    have HD := Lib.hid hD
    have HDL := Lib.hid hd
    have hd3 : d ≤ 3 := by omega
    clear b3 P2 B2 hD hd hl3 p0 p1
    have p0 := (P3.out).blk.cellAt 0 (by simp)
    have p1 := (P3.out).blk.cellAt 1 (by simp)
    simp only [List.getElem_cons_zero, List.getElem_cons_succ] at p0 p1
    go_wp2_with fail
    refine (specFreeR HZ.out P3.out.rd).mono ?_
    rintro e w4 ⟨E, d2, ec, rfl, hd2, hE, b4⟩
    obtain rfl : d = d2 := HDL.out.symm.trans hd2
    have P4 := Lib.hid (P3.out.later b4)
    have B4 := Lib.hid (below_trans B3.out b4)
    have HD4 := Lib.hid (HD.out.below b4)
    have HE4 := Lib.hid hE
    clear b4 P3 B3 hE hd2 HD p0 p1
    have hdd : ((d : Int) != (d : Int)) = false := by simp
    go_wp2_with fail
    go_loopw [7] (fun i wr => ∃ j : Nat, j ≤ d ∧ i = .int .i64 j ∧ PapB wr qp HA pn hc LA pm lc p ∧ RdV wr D (paperdeeds zs) ∧ RdV wr E (paperdeeds zs) ∧ Below w.heap.size w wr) (fun i _ => d - (intOf i).toNat)
    case atStart => exact ⟨0, Nat.zero_le _, rfl, P4.out, HD4.out, HE4.out, B4.out⟩
    case round =>
      clear P4 HD4 HE4 B4
      obtain ⟨j, hj, rfl, hP, hD, hE, hB⟩ := hrel
      have HP := Lib.hid hP
      have HD := Lib.hid hD
      have HB := Lib.hid hB
      by_cases hlt : j < d
      · have hkx : j < zs.length := by rw [HDL.out]; exact hlt
        obtain ⟨b1, p1, rfl, hl1, u0, u1, u2⟩ := hD.paperdeedAt hkx
        obtain ⟨b2, p2, rfl, hl2, v0, v1, v2⟩ := hE.paperdeedAt hkx
        have HE := Lib.hid hE
        have hnq := fun W => neq_deed (zs[j]).f0 (zs[j]).f1 (zs[j]).f2 W
        generalize (zs[j]).f0 = y0 at *
        generalize (zs[j]).f1 = y1 at *
        generalize (zs[j]).f2 = y2 at *
        have hki : (j : Int) < (d : Int) := by omega
        have hk0 : (0 : Int) ≤ (j : Int) := by omega
        clear hP hD hE hB
        go_wp2_with fail
        go_quiet (fail)
        go_wp2_with fail
        go_roundw
        case rel => exact ⟨j + 1, by omega, by go_num, HP.out.later (below_drewN (Below.refl _ _) _), HD.out.drewN _, HE.out.drewN _, below_drewN HB.out _⟩
        case measure => simp [intOf]; omega
      · obtain rfl : d = j := by omega
        clear hP hE hj
        have p0 := (HP.out).blk.cellAt 0 (by simp)
        have p1 := (HP.out).blk.cellAt 1 (by simp)
        simp only [List.getElem_cons_zero, List.getElem_cons_succ] at p0 p1
        clear hD hB
        go_wp2_with fail
        rcases HW.out with ⟨hv, e⟩ | ⟨hv, p', bs', e, hbs, hlv⟩
        · have hz0 : zs.length = 0 := by rw [← HZ.out] at *; simp [e]
          have hd0 : d = 0 := by rw [← HDL.out]; exact hz0
          have HV := Lib.hid hv
          clear e hv HW
          refine (specValidR HV.out HP.out.rd).mono ?_
          rintro e w5 ⟨rfl, b5⟩
          have hdz : ((d : Int) == 0) = true := by simp [hd0]
          have HBB := Lib.hid (below_trans HB.out b5)
          clear hz0 hd0 b5
          go_wp2_with fail
          refine (alive_any _).mono ?_
          rintro e w' ⟨rfl, rfl⟩
          go_wp2_with fail
          go_ret
          exact ⟨rfl, HBB.out⟩
        · have HV := Lib.hid hv
          have HRUN := Lib.hid e
          have HBS := Lib.hid hbs
          have HLV := Lib.hid hlv
          clear hv e hbs hlv HW
          refine (specValidR HV.out HP.out.rd).mono ?_
          rintro e w5 ⟨rfl, b5⟩
          have P5 := Lib.hid (HP.out.later b5)
          have D5 := Lib.hid (HD.out.below b5)
          have B5 := Lib.hid (below_trans HB.out b5)
          clear p0 p1 b5 HP HD HB
          have p0 := (P5.out).blk.cellAt 0 (by simp)
          have p1 := (P5.out).blk.cellAt 1 (by simp)
          simp only [List.getElem_cons_zero, List.getElem_cons_succ] at p0 p1
          go_wp2_with fail
          refine (implRunR HRUN.out P5.out.rd HDL.out (by omega) D5.out).mono ?_
          rintro e w6 ⟨A6, n6, c6, L6, m6, lc6, D6, d6, dc6, rfl, h6, hd6, hD6, b6⟩
          obtain rfl : d = d6 := by
            rw [← hd6]
            dsimp only
            rw [HBS.out, List.length_replicate, HDL.out]
          have hal : Below w6.heap.size w6 (w6.alloc (.cells #[.slice A6 n6 c6, .slice L6 m6 lc6] 26)) := (Below.refl _ _).alloc (Nat.le_refl _) _
          have X7 := Lib.hid (PapB.new h6)
          have b7 := below_trans b6 hal
          have P7 := Lib.hid (P5.out.later b7)
          have B7 := Lib.hid (below_trans B5.out b7)
          have V7 := Lib.hid (hD6.below hal)
          clear h6 hd6 hD6 b6 hal b7 p0 p1 P5 D5 B5
          go_wp2_with fail
          generalize w6.alloc (.cells #[.slice A6 n6 c6, .slice L6 m6 lc6] 26) = w7 at *
          generalize w6.heap.size = qx at *
          go_loopw [10] (fun i wr => ∃ j : Nat, j ≤ d ∧ i = .int .i64 j ∧ wr = w7) (fun i _ => d - (intOf i).toNat)
          case atStart => exact ⟨0, Nat.zero_le _, rfl, rfl⟩
          case round =>
            obtain ⟨j, hj, rfl, rfl⟩ := hrel
            by_cases hlt : j < d
            · have hkb : j < (bools bs').length := by rw [bools_len, HBS.out, List.length_replicate, HDL.out]; exact hlt
              obtain ⟨b1, p1, rfl, hl1, hc⟩ := V7.out.pos hkb
              have hcc := hc j hkb
              rw [bools_at] at hcc
              have HTR : Hid (bs'[j]'(by simpa [bools] using hkb) = true) := Lib.hid (by simp [HBS.out])
              rw [HTR.out] at hcc
              have hki : (j : Int) < (d : Int) := by omega
              clear hc HTR hkb
              go_wp2_with fail
              go_roundw
              case rel => exact ⟨j + 1, by omega, by go_num, trivial⟩
              case measure => simp [intOf]; omega
            · obtain rfl : d = j := by omega
              have x0 := (X7.out).blk.cellAt 0 (by simp)
              have x1 := (X7.out).blk.cellAt 1 (by simp)
              simp only [List.getElem_cons_zero, List.getElem_cons_succ] at x0 x1
              generalize hr2 : paperDo p' 2 x 0 = r2 at *
              have HR2 := Lib.hid hr2
              obtain ⟨p3, lv⟩ := r2
              dsimp only at HLV
              clear hr2
              go_wp2_with fail
              refine (implDoR HR2.out X7.out.rd).mono ?_
              rintro e w8 ⟨A8, n8, c8, L8, m8, lc8, rfl, h8, b8⟩
              have hal : Below w8.heap.size w8 (w8.alloc (.cells #[.slice A8 n8 c8, .slice L8 m8 lc8] 26)) := (Below.refl _ _).alloc (Nat.le_refl _) _
              have b9 := below_trans b8 hal
              have P9 := Lib.hid (P7.out.later b9)
              have B9 := Lib.hid (below_trans B7.out b9)
              have hdd2 : ((d : Int) == (d : Int)) = true := by simp
              clear h8 b8 hal b9 x0 x1 P7 B7 V7 X7
              have p0 := (P9.out).blk.cellAt 0 (by simp)
              have p1 := (P9.out).blk.cellAt 1 (by simp)
              simp only [List.getElem_cons_zero, List.getElem_cons_succ] at p0 p1
              go_wp2_with fail
              generalize w8.alloc (.cells #[.slice A8 n8 c8, .slice L8 m8 lc8] 26) = w9 at *
              refine (hasInt_any LA pm lc p.ls x w9 P9.out.rd.hm P9.out.rd.left (by omega)).mono ?_
              rintro e w10 ⟨rfl, b10⟩
              have B10 := Lib.hid (below_trans B9.out b10)
              have P10 := Lib.hid (P9.out.later b10)
              have HM := Lib.hid P10.out.rd.hm
              clear b10 p0 p1 P9 B9
              have p0 := (P10.out).blk.cellAt 0 (by simp)
              have p1 := (P10.out).blk.cellAt 1 (by simp)
              simp only [List.getElem_cons_zero, List.getElem_cons_succ] at p0 p1
              generalize hh : hasI p.ls x = hv at *
              clear hh
              cases hv with
              | true =>
                obtain rfl : lv = false := by rw [HLV.out]; rfl
                go_wp2_with fail
                go_ret
                exact ⟨rfl, B10.out⟩
              | false =>
                by_cases h12 : pm < 12
                · obtain rfl : lv = true := by rw [HLV.out, HM.out]; simp [h12]
                  have hdm : decide ((pm : Int) < 12) = true := by simp; omega
                  clear h12
                  go_wp2_with fail
                  go_ret
                  exact ⟨rfl, B10.out⟩
                · obtain rfl : lv = false := by rw [HLV.out, HM.out]; simp [h12]
                  have hdm : decide ((pm : Int) < 12) = false := by simp; omega
                  clear h12
                  go_wp2_with fail
                  go_ret
                  exact ⟨rfl, B10.out⟩
  · go_enter Try.func5, Try.ntmps5
    go_wp2_with fail
    go_ret
    exact ⟨rfl, Below.refl _ _⟩
end Go.Proofs.Ytpkbipjnobfcdaa
