/- Yards: the reference's copying. -/
import Derived.Test.YtcbeoaedccdppaaYdC
namespace Go.Proofs.Ytcbeoaedccdppaa
open Go Go.ChangeShapes Go.WideShapes Go.ChangeAt Go.RowKit
set_option linter.unusedVariables false
set_option maxHeartbeats 4000000 in
theorem specCopy (high : Int) (A : Option Addr) (n c : Nat) (rows : List (List Int)) (w : World) (hn : rows.length = n) (hr : RdRR w A (intss rows)) (hm : n ≤ 1048576) (hin : ∀ s ∈ rows, s.length ≤ 1048576) :
    Calls Try.prog 36 #[.agg #[.int .i64 high, .slice A n c]] w (YardOut w high n rows) := by
  have HN := Lib.hid hn
  have HIN := Lib.hid hin
  clear hn hin
  go_enter Try.func36, Try.ntmps36
  go_wp2_with fail
  go_loopw [4] (fun i wr => ∃ (k : Nat), k ≤ n ∧ i = .int .i64 k ∧ Blk wr w.heap.size 27 [.int .i64 high, .slice A n c] ∧ Blk wr (w.heap.size + 1) 27 [.int .i64 0, .slice none 0 0] ∧ YCut w (w.heap.size + 1 + 1) high k (intss (rows.take k)) wr) (fun i _ => n - (intOf i).toNat)
  case atStart =>
    refine ⟨0, Nat.zero_le _, rfl, ?_, ?_, none, 0, ?_, ?_, ?_, ?_⟩
    · exact ((Blk.new _ _ _).alloc _).alloc _
    · have := Blk.new (w.alloc (.cells #[.int .i64 high, .slice A n c] 27)) 27 [.int .i64 0, .slice none 0 0]
      simp only [World.size_alloc] at this
      exact this.alloc _
    · have := Blk.new ((w.alloc (.cells #[.int .i64 high, .slice A n c] 27)).alloc (.cells #[.int .i64 0, .slice none 0 0] 27)) 27 [.int .i64 high, .slice none 0 0]
      simp only [World.size_alloc] at this
      exact this
    · exact ownRR_none _ _ _ _
    · simp
    · exact (((Below.refl _ _).alloc (Nat.le_refl _) _).alloc (by simp) _).alloc (by simp; omega) _
  case round =>
    obtain ⟨k, hk, rfl, hS0, hR0, A1, c1, P1, hO, hsz, hb⟩ := hrel
    have s0 := hS0.cellAt 0 (by simp)
    have s1 := hS0.cellAt 1 (by simp)
    simp only [List.getElem_cons_zero, List.getElem_cons_succ] at s0 s1
    have HS0 := Lib.hid hS0
    have hS0lt := hS0.lt
    have c0 := P1.cellAt 0 (by simp)
    have c1' := P1.cellAt 1 (by simp)
    simp only [List.getElem_cons_zero, List.getElem_cons_succ] at c0 c1'
    have hPlt := P1.lt
    have HR0 := Lib.hid hR0
    by_cases hlt : k < n
    · have hkz : k < rows.length := by rw [HN.out]; exact hlt
      have hkl : k < (intss rows).length := by rw [intss_len]; exact hkz
      obtain ⟨b, o, rfl, hl0, B, c', hcell0, hle, hmx, hrB0⟩ := hr.pos hkl
      have hl : b < wr.heap.size := Nat.lt_of_lt_of_le hl0 hb.size
      have hcell := (hb.cell (p := ⟨b, o + k, none⟩) hl0).trans hcell0
      have hrB := hrB0.below hb
      rw [intss_at] at hrB
      simp only [intss_at, ints_len] at hcell
      have HSN := Lib.hid (intss_snoc hkz)
      have hzl := HIN.out rows[k] (List.getElem_mem hkz)
      have hxl : (intss (rows.take k)).length = k := by rw [intss_len, List.length_take]; omega
      generalize rows[k] = zs at *
      generalize hz : zs.length = p at *
      have HZ := Lib.hid hz
      generalize intss (rows.take k) = X at *
      have hki : (k : Int) < (n : Int) := by omega
      have e1 : IntKind.i64.wrap ((k : Int) + 1) = (k : Int) + 1 := IntWalk.i64_in _ (by omega)
      obtain ⟨hs, hadd⟩ := hO.add hsz
      rw [hxl] at hadd
      have HADD := Lib.hid hadd
      have HP1 := Lib.hid P1
      have HR := Lib.hid hr
      have HB := Lib.hid hb
      have HRB := Lib.hid hrB
      have hil : (ints zs).length = p * 1 := by rw [ints_len, HZ.out, Nat.mul_one]
      have HIL := Lib.hid hil
      have hone := Lib.hid (ints_one zs)
      clear hz hcell0 hrB0 hl0 hle hmx hr P1 hO hb hrB hadd hR0 hS0 hil
      go_upto_region 5 with fail
      go_region_law (first
        | (refine step_append_src rfl (.tmp 17) (.tmp 22) 37 rfl 3 _ _ _ Try.underlying37 int_infoY wr.heap.size (wr.drew.alloc (.cells #[] 3)) (.slice (some ⟨wr.heap.size, 0, none⟩) 0 0) 0 [] rfl (own_of_blk (cs := []) (Blk.new _ _ _) (Nat.le_refl _) rfl (by decide)) B p c' (ints zs) rfl HIL.out (HRB.out.below (Below.drew ((Below.refl _ _).alloc (Nat.le_refl _) _))) hone.out (by omega) (by simp) ?_
           intro v5 w5 hown5 hg5 hb5
           rw [Nat.zero_add, List.nil_append] at hown5
           obtain ⟨Au, cu, rfl, _, _⟩ := own_slice hown5
           have kb : Below wr.heap.size wr w5 := below_freshY hg5 (Below.drew ((Below.refl _ _).alloc (Nat.le_refl _) _)) rfl
           obtain ⟨ka, kblk, kfin⟩ := HADD.out w5 (.slice Au p cu) (ints zs) kb (by rw [ints_len, HZ.out]; exact hown5)
           have d5 := (HP1.out.later kb).cellAt 1 (by simp)
           have d6 := ((HP1.out.later kb).alloc (.cells #[.slice Au p cu] 37)).cellAt 1 (by simp)
           simp only [List.getElem_cons_zero, List.getElem_cons_succ] at d5 d6
           have KA := Lib.hid ka
           have KBLK := Lib.hid kblk
           have KFIN := Lib.hid kfin
           have hs5 : w.heap.size + 1 + 1 + 1 ≤ (w5.alloc (.cells #[.slice Au p cu] 37)).heap.size := by have := kb.size; simp; omega
           clear ka kblk kfin hown5 hg5 hb5)
        | (refine step_append_src rfl (.tmp 16) (.tmp 24) 22 rfl 37 _ _ _ Try.underlying22 ints_infoD (w.heap.size + 1 + 1 + 1) (w5.alloc (.cells #[.slice Au p cu] 37)) (.slice A1 k c1) k hs rfl KA.out (some ⟨w5.heap.size, 0, none⟩) 1 1 [.slice Au p cu] rfl rfl KBLK.out.rd (by simp [Value.oneCell']) (by omega) hs5 ?_
           intro v7 w7 hown7 hg7 hb7
           obtain ⟨A7, c7, rfl, _, _⟩ := own_slice hown7
           obtain ⟨m1, m2⟩ := KFIN.out _ w7 hown7 hg7 hb7
           have P7 : Blk w7 (w.heap.size + 1 + 1) 27 [.int .i64 high, .slice A1 k c1] := (m2.block _ hPlt (.inl (Nat.lt_succ_self _))).trans HP1.out
           have f7 := P7.frozen 1
           have d7 := P7.cellAt 1 (by simp)
           simp only [List.getElem_cons_zero, List.getElem_cons_succ] at d7
           have M1 := Lib.hid m1
           have M2 := Lib.hid m2
           clear m1 m2 hown7 hg7 hb7 P7))
      all_goals
        have hyc := ycut_store (k := k) (Nat.le_trans (Nat.le_succ _) (Nat.le_succ _)) HB.out HP1.out M1.out M2.out
        rw [← HSN.out] at hyc
        have hr7 : Blk w7 (w.heap.size + 1) 27 [.int .i64 0, .slice none 0 0] := (M2.out.block _ (Nat.lt_trans (Nat.lt_succ_self _) hPlt) (.inl (by omega))).trans HR0.out
        have hs7 := (M2.out.block _ hS0lt (.inl (by omega))).trans HS0.out
        have HS7 : Hid (Blk (w7.setCell ⟨w.heap.size + 1 + 1, 1, none⟩ (.slice A7 (k + 1) c7)) w.heap.size 27 [.int .i64 high, .slice (some ⟨b, o, none⟩) n c]) := Lib.hid (Blk.far (w := w7) hs7 (by show w.heap.size ≠ w.heap.size + 1 + 1; omega) _)
        have HYC := Lib.hid hyc
        have HR7 : Hid (Blk (w7.setCell ⟨w.heap.size + 1 + 1, 1, none⟩ (.slice A7 (k + 1) c7)) (w.heap.size + 1) 27 [.int .i64 0, .slice none 0 0]) := Lib.hid (hr7.far (by show w.heap.size + 1 ≠ w.heap.size + 1 + 1; omega) _)
        clear hyc hr7 hs7
        go_wp2_with fail
        go_roundw
        case rel => exact ⟨k + 1, by omega, by go_num, HS7.out, HR7.out, HYC.out⟩
        case measure => simp [intOf]; omega
    · obtain rfl : k = n := by omega
      have htl : rows.take k = rows := List.take_of_length_le (by rw [HN.out]; exact Nat.le_refl _)
      rw [htl] at hO
      clear htl
      have hq7 := P1.lt
      have r0 := HR0.out.cellAt 0 (by simp)
      have r1 := HR0.out.cellAt 1 (by simp)
      have f0 := HR0.out.frozen 0
      have f1 := HR0.out.frozen 1
      simp only [List.getElem_cons_zero, List.getElem_cons_succ] at r0 r1
      go_wp2_with fail
      have hR := (HR0.out.set_ 0 (.int .i64 high)).set_ 1 (.slice A1 k c1)
      have z0 := hR.cellAt 0 (by simp)
      have z1 := hR.cellAt 1 (by simp)
      simp only [List.set_cons_zero, List.set_cons_succ, List.getElem_cons_zero, List.getElem_cons_succ] at z0 z1
      refine bodyPost_ret (v := .agg #[.int .i64 high, .slice A1 k c1]) (by simp [results, Try.results36, go_sem, z0, z1]) rfl ?_
      have ho : Out w.heap.size (w.heap.size + 3) wr ((wr.setCell ⟨w.heap.size + 1, 0, none⟩ (.int .i64 high)).setCell ⟨w.heap.size + 1, 1, none⟩ (.slice A1 k c1)) := out_set (out_set (Out.refl _ _ _) _ _ _ (by omega) (by omega)) _ _ _ (by omega) (by omega)
      exact RVal.mk ⟨A1, c1, rfl, ((hO.out ho (.inr (by omega))).hi ho.size (Nat.le_refl _)).base (by omega), below_out hb ho (Nat.le_refl _)⟩
end Go.Proofs.Ytcbeoaedccdppaa
