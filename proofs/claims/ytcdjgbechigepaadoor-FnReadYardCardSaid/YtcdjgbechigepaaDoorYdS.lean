/- The reference's StackValid and YardValid return the plain words. -/
import Derived.Test.YtcdjgbechigepaaDoorYdI
import Derived.Test.YtcdjgbechigepaaDoorOwnStep
namespace Go.Proofs.YtcdjgbechigepaaDoor
open Go Go.ChangeShapes Go.WideShapes Go.ChangeAt Go.RowKit
set_option linter.unusedVariables false
set_option maxHeartbeats 2000000 in
theorem specStackValid (A : Option Addr) (n c : Nat) (zs : List Int) (high : Int) (w : World) (hn : zs.length = n) (hr : RdV w A (ints zs)) (hnc : n ≤ c) (hm : c ≤ 9223372036854775807) :
    Calls Tryd.prog 37 #[.slice A n c, .int .i64 high] w fun e w' => e = .returned (.bool (stackOk zs high)) ∧ ∃ q, w' = w.drewN q := by
  have HN := Lib.hid hn
  clear hn
  go_enter Tryd.func37, Tryd.ntmps37
  go_wp2_with fail
  go_loopw [5] (fun i wr => ∃ k : Nat, k ≤ n ∧ i = .int .i64 k ∧ Hid (sOk [] zs = sOk (zs.take k) (zs.drop k)) ∧ ∃ q, wr = w.drewN q) (fun i _ => n - (intOf i).toNat)
  case atStart => exact ⟨0, Nat.zero_le _, rfl, Lib.hid (by simp), 0, rfl⟩
  case round =>
    obtain ⟨k, hk, rfl, HJ, q, hq⟩ := hrel
    by_cases hlt : k < n
    · have hkz : k < zs.length := by rw [HN.out]; exact hlt
      have hkl : k < (ints zs).length := by rw [ints_len]; exact hkz
      have hrw : RdV wr A (ints zs) := by rw [hq]; exact hr
      obtain ⟨b, o, rfl, hl, hc⟩ := hrw.pos hkl
      have h1 := hc k hkl
      rw [ints_at] at h1
      have hst := sOk_step (p := []) hkz
      rw [List.nil_append, List.nil_append, ← HJ.out] at hst
      have HST := Lib.hid hst
      have HTL : Hid ((zs.take k).length = k) := Lib.hid (by rw [List.length_take]; omega)
      have hrt := RdV.takeI hl hc k
      have hkc : (k : Int) ≤ (c : Int) := by omega
      have hki : (k : Int) < (n : Int) := by omega
      have hcI : ∀ w0 : World, Calls Tryd.prog 36 #[.int .i64 zs[k], .int .i64 1, .int .i64 999] w0 fun r w' => r = .returned (.bool (idI zs[k])) ∧ w' = w0 := fun w0 => (l1In_any _ _ _ w0).mono (fun _ _ h => ⟨h.1, h.2.symm⟩)
      have hcH : ∀ q0 : Nat, Calls Tryd.prog 38 #[.slice (some ⟨b, o, none⟩) k c, .int .i64 zs[k]] (wr.drewN q0) fun r w' => r = .returned (.bool (hasI (zs.take k) zs[k])) ∧ w' = wr.drewN q0 := fun q0 => (l1Has_any _ k c (zs.take k) zs[k] (wr.drewN q0) HTL.out hrt (by omega)).mono (fun _ _ h => ⟨h.1, h.2.symm⟩)
      generalize zs[k] = y at *
      generalize zs.take k = pre at *
      have HQ := Lib.hid hq
      clear hc hst hq hrw
      cases hid : idI y with
      | false =>
        rw [hid] at HST hcI
        clear hid
        go_wp2_with fail
        go_quiet ((first | (go_at_call 36; exact Calls.quiet_of_same (hcI _)) | (go_at_call 38; exact Calls.quiet_of_same (hcH _))))
        clear hcI hcH
        go_wp2_with fail
        go_ret
        exact ⟨by rw [stackOk, HST.out]; simp, q + nq, by rw [HQ.out]; exact World.drewN_drewN _ _ _⟩
      | true =>
        rw [hid] at HST hcI
        clear hid
        cases hhas : hasI pre y with
        | true =>
          rw [hhas] at HST hcH
          clear hhas
          go_wp2_with fail
          go_quiet ((first | (go_at_call 36; exact Calls.quiet_of_same (hcI _)) | (go_at_call 38; exact Calls.quiet_of_same (hcH _))))
          clear hcI hcH
          go_wp2_with fail
          go_ret
          exact ⟨by rw [stackOk, HST.out]; simp, q + nq, by rw [HQ.out]; exact World.drewN_drewN _ _ _⟩
        | false =>
          rw [hhas] at HST hcH
          clear hhas
          go_wp2_with fail
          go_quiet ((first | (go_at_call 36; exact Calls.quiet_of_same (hcI _)) | (go_at_call 38; exact Calls.quiet_of_same (hcH _))))
          clear hcI hcH
          go_wp2_with fail
          go_roundw
          case rel => exact ⟨k + 1, by omega, by go_num, Lib.hid (by rw [HST.out]; simp), q + nq, by rw [HQ.out]; exact World.drewN_drewN _ _ _⟩
          case measure => simp [intOf]; omega
    · have hend : sOk (zs.take k) (zs.drop k) = true := by have := sOk_end (s := zs) (p := []) (k := k) (by rw [HN.out]; omega); rwa [List.nil_append] at this
      have HE := Lib.hid (HJ.out.trans hend)
      have HQ := Lib.hid hq
      clear hend hq
      go_wp2_with fail
      refine (l1In_any high 1 5 _).mono ?_
      rintro e w' ⟨rfl, rfl⟩
      cases hi : inI high 1 5 with
      | false =>
        have HI := Lib.hid hi
        clear hi
        go_wp2_with fail
        go_ret
        exact ⟨by rw [stackOk, HE.out, show (decide (1 ≤ high) && decide (high ≤ 5)) = inI high 1 5 from rfl, HI.out]; rfl, q, HQ.out⟩
      | true =>
        have HI := Lib.hid hi
        clear hi
        go_wp2_with fail
        go_ret
        exact ⟨by rw [stackOk, HE.out, show (decide (1 ≤ high) && decide (high ≤ 5)) = inI high 1 5 from rfl, HI.out, HN.out]; rfl, q, HQ.out⟩
theorem int_infoY : Info Tryd.prog 3 (.int .i64 0) 1 8 := Info.mk' int_info rfl (by decide) (by decide)
set_option maxHeartbeats 4000000 in
theorem specYardValid (high : Int) (A : Option Addr) (n c : Nat) (rows : List (List Int)) (w : World) (hn : rows.length = n) (hr : RdRR w A (intss rows)) (hm : n ≤ 2097152) :
    Calls Tryd.prog 20 #[.agg #[.int .i64 high, .slice A n c]] w fun e w' => e = .returned (.bool (yardOk high rows)) ∧ Below w.heap.size w w' := by
  have HN := Lib.hid hn
  have HOK : Hid (yardOk high rows = (inI (n : Int) 1 5 && yOk high [] rows)) := Lib.hid (by subst hn; rfl)
  clear hn
  go_enter Tryd.func20, Tryd.ntmps20
  go_wp2_with fail
  go_loopw [3, 4, 5] (fun all i _ wr => ∃ (k m : Nat) (v : Value), k ≤ n ∧ i = .int .i64 k ∧ all = v ∧ m ≤ 5 * k ∧ Hid (yOk high [] rows = yOk high ((rows.take k).flatten) (rows.drop k)) ∧ wr.ownsRow (w.heap.size + 1) 3 1 v m (ints (rows.take k).flatten) ∧ Blk wr w.heap.size 24 [.int .i64 high, .slice A n c] ∧ Below w.heap.size w wr) (fun _ i _ _ => n - (intOf i).toNat)
  case atStart =>
    refine ⟨0, 0, _, Nat.zero_le _, rfl, rfl, Nat.zero_le _, Lib.hid rfl, ?_, ?_, ?_⟩
    · have := Blk.new (w.alloc (.cells #[.int .i64 high, .slice A n c] 24)) 3 []
      simp only [World.size_alloc] at this
      exact own_of_blk this (Nat.le_refl _) rfl (by decide)
    · exact (Blk.new _ _ _).alloc _
    · exact ((Below.refl _ _).alloc (Nat.le_refl _) _).alloc (by simp) _
  case round =>
    obtain ⟨k, m, v, hk, rfl, rfl, hmk, HY, hO, P1, hb⟩ := hrel
    have c0 := P1.cellAt 0 (by simp)
    have c1 := P1.cellAt 1 (by simp)
    simp only [List.getElem_cons_zero, List.getElem_cons_succ] at c0 c1
    have hPlt := P1.lt
    have HP1 := Lib.hid P1
    by_cases hlt : k < n
    · have hkz : k < rows.length := by rw [HN.out]; exact hlt
      have hkl : k < (intss rows).length := by rw [intss_len]; exact hkz
      obtain ⟨b, o, rfl, hl0, B, c', hcell0, hle, hmx, hrB0⟩ := hr.pos hkl
      have hl : b < wr.heap.size := Nat.lt_of_lt_of_le hl0 hb.size
      have hcell := (hb.cell (p := ⟨b, o + k, none⟩) hl0).trans hcell0
      have hrB := hrB0.below hb
      rw [intss_at] at hrB hrB0
      simp only [intss_at, ints_len] at hcell hle hcell0
      have hst := yOk_step (high := high) hkz
      rw [← HY.out] at hst
      have HST := Lib.hid hst
      have HFL : Hid ((rows.take (k + 1)).flatten = (rows.take k).flatten ++ rows[k]) := Lib.hid (by rw [List.take_succ_eq_append_getElem hkz, List.flatten_append]; simp)
      unfold maxLen at hmx
      have HR := Lib.hid hr
      generalize rows[k] = zs at *
      generalize (rows.take k).flatten = fl at *
      generalize hz : zs.length = p at *
      have HZ := Lib.hid hz
      have HRB := Lib.hid hrB0
      have HC0 := Lib.hid hcell0
      have HO := Lib.hid hO
      have HRW := Lib.hid hrB
      have hki : (k : Int) < (n : Int) := by omega
      have e1 : IntKind.i64.wrap ((k : Int) + 1) = (k : Int) + 1 := IntWalk.i64_in _ (by omega)
      by_cases hso : stackOk zs high = true
      · have hS := fun w0 h => specStackValid B p c' zs high w0 HZ.out h hle (by omega)
        rw [hso] at hS
        have HS2 : Hid (yOk high [] rows = (dOk fl zs && yOk high ((rows.take (k + 1)).flatten) (rows.drop (k + 1)))) := Lib.hid (by rw [HST.out, hso]; rfl)
        have hp5 : p ≤ 5 := by have := stackOk_parts hso; have := HZ.out; omega
        have HB := Lib.hid hb
        have HBL := Lib.hid hl0
        clear hst hz hr hrB0 hcell0 hl0 hO hso
        go_wp2_with fail
        go_quiet ((go_at_call 37; exact Calls.quiet_of (hS _ hrB)))
        have P2 := P1.drewN nq
        have hb2 := below_drewN hb nq
        have O2 := own_drewN HO.out nq
        clear hS c0 c1 hcell hrB hb P1 hPlt hl
        generalize wr.drewN nq = w2 at *
        go_wp2_with fail
        go_loopw [3, 5] (fun all i wr2 => ∃ (j m2 : Nat) (v2 : Value), j ≤ p ∧ i = .int .i64 j ∧ all = v2 ∧ m2 ≤ 5 * k + j ∧ Hid (dOk fl zs = dOk (fl ++ zs.take j) (zs.drop j)) ∧ wr2.ownsRow (w.heap.size + 1) 3 1 v2 m2 (ints (fl ++ zs.take j)) ∧ Blk wr2 w.heap.size 24 [.int .i64 high, .slice (some ⟨b, o, none⟩) n c] ∧ Below w.heap.size w wr2) (fun _ i _ => p - (intOf i).toNat)
        case atStart => exact ⟨0, m, _, Nat.zero_le _, rfl, rfl, by omega, Lib.hid (by simp), by simpa using O2, P2, hb2⟩
        case round =>
          clear O2 P2 hb2
          obtain ⟨j, m2, v2, hj, rfl, rfl, hm2, HD, hO2, P2, hb2⟩ := hrel
          have c0 := P2.cellAt 0 (by simp)
          have c1 := P2.cellAt 1 (by simp)
          simp only [List.getElem_cons_zero, List.getElem_cons_succ] at c0 c1
          have hPlt := P2.lt
          have hbl : b < w.heap.size := HBL.out
          have hl : b < wr.heap.size := Nat.lt_of_lt_of_le hbl hb2.size
          have hcell := (hb2.cell (p := ⟨b, o + k, none⟩) hbl).trans HC0.out
          have hrB := HRB.out.below hb2
          by_cases hltj : j < p
          · have hjz : j < zs.length := by rw [HZ.out]; exact hltj
            have hjl : j < (ints zs).length := by rw [ints_len]; exact hjz
            obtain ⟨b2, o2, rfl, hl2, hc2⟩ := hrB.pos hjl
            have h1 := hc2 j hjl
            rw [ints_at] at h1
            have hst := dOk_step (p := fl) hjz
            rw [← HD.out] at hst
            have HST2 := Lib.hid hst
            have HTK : Hid (ints (fl ++ zs.take (j + 1)) = ints (fl ++ zs.take j) ++ [.int .i64 zs[j]]) := Lib.hid (by rw [List.take_succ_eq_append_getElem hjz, ← List.append_assoc, ints_app]; rfl)
            have hal : (ints (fl ++ zs.take j)).length = m2 := by have := hO2.1; omega
            obtain ⟨A3, c3, rfl, hA3, hA4⟩ := own_slice hO2
            have hrd := own_rd hO2
            rw [ints_len] at hal
            have hH := fun y => l1Has_any A3 m2 c3 (fl ++ zs.take j) y wr hal hrd (by omega)
            generalize zs[j] = y at *
            have hji : (j : Int) < (p : Int) := by omega
            clear hc2 hst hrd hal
            go_wp2_with fail
            refine (hH y).mono ?_
            rintro e w' ⟨rfl, rfl⟩
            cases hhas : hasI (fl ++ zs.take j) y with
            | true =>
              have HF : Hid (yardOk high rows = false) := Lib.hid (by rw [HOK.out, HS2.out, HST2.out, hhas]; simp)
              clear hhas hH
              go_wp2_with fail
              go_ret
              exact ⟨by rw [HF.out]; rfl, hb2⟩
            | false =>
              have HD2 : Hid (dOk fl zs = dOk (fl ++ zs.take (j + 1)) (zs.drop (j + 1))) := Lib.hid (by rw [HST2.out, hhas]; rfl)
              clear hhas hH
              have HO2 := Lib.hid hO2
              have HB2 := Lib.hid hb2
              have HP2 := Lib.hid P2
              have hsz : w.heap.size + 1 ≤ wr.heap.size := hPlt
              go_wp2_with (at_builtin; refine append_new rfl (.tmp 43) (.tmp 52) 40 rfl 3 _ _ _ Tryd.underlying40 int_infoY (w.heap.size + 1) wr (.slice A3 m2 c3) m2 _ rfl HO2.out [.int .i64 y] (by first | rfl | (simp; with_unfolding_all rfl)) rfl (by simp [Value.oneCell']) (by omega) hsz ?_; intro v4 w4 hown4 hg4 hblk4)
              rw [← HTK.out] at hown4
              have hb4 : Below w.heap.size w w4 := hb2.grown hg4 hb2.size (fun g e => by have := (hO2.lt g e).1; omega)
              have P4 : Blk w4 w.heap.size 24 [.int .i64 high, .slice (some ⟨b, o, none⟩) n c] := (hg4.block _ hPlt (fun e => own_ne hO2 (Nat.lt_succ_self _) e.symm)).trans P2
              clear hg4 hblk4
              go_wp2_with fail
              go_roundw
              case rel => exact ⟨j + 1, m2 + 1, _, by omega, by go_num, rfl, by omega, HD2, hown4, P4, hb4⟩
              case measure => simp [intOf]; omega
          · have hend : dOk (fl ++ zs.take j) (zs.drop j) = true := dOk_end (by rw [HZ.out]; omega)
            have HE : Hid (yOk high [] rows = yOk high ((rows.take (k + 1)).flatten) (rows.drop (k + 1))) := Lib.hid (by rw [HS2.out, HD.out, hend]; rfl)
            have htl : zs.take j = zs := List.take_of_length_le (by rw [HZ.out]; omega)
            rw [htl, ← HFL.out] at hO2
            clear hend htl
            have HO2 := Lib.hid hO2
            clear hO2
            go_wp2_with fail
            go_roundw
            case rel => exact ⟨k + 1, m2, _, by omega, by go_num, rfl, by omega, HE, HO2.out, P2, hb2⟩
            case measure => simp [intOf]; omega
      · have hso2 : stackOk zs high = false := by simpa using hso
        have hS := fun w0 h => specStackValid B p c' zs high w0 HZ.out h hle (by omega)
        have HF : Hid (yardOk high rows = false) := Lib.hid (by rw [HOK.out, HST.out, hso2]; simp)
        rw [hso2] at hS
        clear hst hz hr hrB0 hcell0 hl0 hO hso hso2
        go_wp2_with fail
        go_quiet ((go_at_call 37; exact Calls.quiet_of (hS _ hrB)))
        go_wp2_with fail
        go_ret
        exact ⟨by rw [HF.out]; rfl, below_drewN hb _⟩
    · have hend : yOk high ((rows.take k).flatten) (rows.drop k) = true := yOk_end (by rw [HN.out]; omega)
      have HE : Hid (yardOk high rows = inI (n : Int) 1 5) := Lib.hid (by rw [HOK.out, HY.out.trans hend]; simp)
      clear hend
      go_wp2_with fail
      refine (l1In_any n 1 5 _).mono ?_
      rintro e w' ⟨rfl, rfl⟩
      cases hi : inI (n : Int) 1 5 with
      | false =>
        have HF := Lib.hid (HE.out.trans hi)
        clear hi
        go_wp2_with fail
        go_ret
        exact ⟨by rw [HF.out]; rfl, hb⟩
      | true =>
        have HF := Lib.hid (HE.out.trans hi)
        obtain ⟨_, _, g1, g2, _, _⟩ := yardOk_parts HF.out
        clear hi
        go_wp2_with fail
        refine (l1In_true high 1 5 _ g1 g2).mono ?_
        rintro e w' ⟨rfl, rfl⟩
        go_wp2_with fail
        go_ret
        exact ⟨by rw [HF.out]; rfl, hb⟩
end Go.Proofs.YtcdjgbechigepaaDoor
