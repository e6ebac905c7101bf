/- The program's YardValid returns the plain word. -/
import Derived.Test.YtcdjgbechigepaaDoorYdI
import Derived.Test.YtcdjgbechigepaaDoorMapV
namespace Go.Proofs.YtcdjgbechigepaaDoor
open Go Go.ChangeShapes Go.WideShapes Go.ChangeAt Go.RowKit
theorem idWf {x : Int} (h1 : 1 ≤ x) (h2 : x ≤ 999) : (Lit.int .i64 x).wf = true := by
  have h3 : IntKind.i64.min = -9223372036854775808 := by decide
  have h4 : IntKind.i64.max = 9223372036854775807 := by decide
  simp only [Lit.wf, h3, h4, Bool.and_eq_true, decide_eq_true_eq]
  omega
theorem zeroBool (w : World) : (zeroValue 4).run Tryd.prog w = .ok (.bool false) w := by kernel_rfl
/-- the map of what was seen -/
def seenF (all : List Int) : Int → Option Value := fun x => if hasI all x = true then some (.bool true) else none
theorem seenF_put (all : List Int) (x : Int) : mput (seenF all) x (.bool true) = seenF (all ++ [x]) := by
  funext y
  by_cases h : y = x
  · subst h; simp [mput, seenF, hasI]
  · simp [mput, seenF, hasI, h]
theorem seenF_get (all : List Int) (x : Int) : ((seenF all x).getD (.bool false)) = .bool (hasI all x) := by
  unfold seenF
  cases hasI all x <;> rfl
theorem seenF_nil : seenF [] = fun _ => none := by funext x; simp [seenF, hasI]
theorem inI_len {high : Int} {rows : List (List Int)} {n : Nat} (h : rows.length = n) : yardOk high rows = (inI (n : Int) 1 5 && yOk high [] rows) := by subst h; rfl
set_option maxHeartbeats 4000000 in
theorem implYardValid (high : Int) (A : Option Addr) (n c : Nat) (rows : List (List Int)) (w : World) (hn : rows.length = n) (hr : RdRR w A (intss rows)) (hm : n ≤ 9223372036854775806) :
    Calls Tryd.prog 14 #[.agg #[.int .i64 high, .slice A n c]] w fun e w' => e = .returned (.bool (yardOk high rows)) ∧ Below w.heap.size w w' := by
  have HN := Lib.hid hn
  have HOK := Lib.hid (inI_len (high := high) hn)
  clear hn
  have hbl : Below w.heap.size w (w.alloc (.cells #[.int .i64 high, .slice A n c] 24)) := (Below.refl _ _).alloc (Nat.le_refl _) _
  have hP : Blk (w.alloc (.cells #[.int .i64 high, .slice A n c] 24)) w.heap.size 24 [.int .i64 high, .slice A n c] := Blk.new _ _ _
  have hmm := @run_makeMap Tryd.prog
  go_enter Tryd.func14, Tryd.ntmps14
  go_wp2_with fail
  have hbl1 : Below w.heap.size w (w.alloc (.cells #[.int .i64 high, .slice A n c] 24)) := (Below.refl _ _).alloc (Nat.le_refl _) _
  have hsz : (w.alloc (.cells #[.int .i64 high, .slice A n c] 24)).heap.size = w.heap.size + 1 := by simp
  generalize w.alloc (.cells #[.int .i64 high, .slice A n c] 24) = w1 at *
  refine (within_any (n : Int) 1 5 _).mono ?_
  rintro e w' ⟨rfl, rfl⟩
  cases hi : inI (n : Int) 1 5 with
  | false =>
    have HF : Hid (yardOk high rows = false) := Lib.hid (by rw [HOK.out, hi]; rfl)
    clear hi
    go_wp2_with fail
    go_ret
    exact ⟨by rw [HF.out]; rfl, hbl⟩
  | true =>
    have hn5 : n ≤ 5 := by simp [inI] at hi; omega
    have HT : Hid (yardOk high rows = yOk high [] rows) := Lib.hid (by rw [HOK.out, hi]; rfl)
    have HB := Lib.hid hbl
    have HSZ := Lib.hid hsz
    have hM1 := mapI_made Tryd.prog 3 w1
    have hb2 := hbl.alloc (by omega) (.map #[] 0)
    have hP2 : Blk (w1.alloc (.map #[] 0)) w.heap.size 24 [.int .i64 high, .slice A n c] := hP.later ((Below.refl _ _).alloc (Nat.le_refl _) _)
    have d0 := hP2.cellAt 0 (by simp)
    have d1 := hP2.cellAt 1 (by simp)
    have c0 := hP.cellAt 0 (by simp)
    have c1 := hP.cellAt 1 (by simp)
    simp only [List.getElem_cons_zero, List.getElem_cons_succ] at d0 d1 c0 c1
    have hq := hP.lt
    have hq2 := hP2.lt
    clear hi hsz hbl1
    go_wp2_with fail
    go_loopw [17, 5, 7] (fun i _ _ wr => ∃ (k m : Nat), k ≤ n ∧ i = .int .i64 k ∧ m ≤ 5 * k ∧ Hid (yOk high [] rows = yOk high ((rows.take k).flatten) (rows.drop k)) ∧ MapI Tryd.prog 3 wr w1.heap.size m (seenF (rows.take k).flatten) ∧ Blk wr w.heap.size 24 [.int .i64 high, .slice A n c] ∧ Below w.heap.size w wr) (fun i _ _ _ => n - (intOf i).toNat)
    case atStart => exact ⟨0, 0, Nat.zero_le _, rfl, Nat.zero_le _, Lib.hid rfl, by simpa [seenF_nil] using hM1, hP2, hb2⟩
    case round =>
      clear c0 c1 d0 d1 hM1 hb2 hP2 hq2
      obtain ⟨k, m, hk, rfl, hmk, HY, hM, P1, hb⟩ := hrel
      have c0 := P1.cellAt 0 (by simp)
      have c1 := P1.cellAt 1 (by simp)
      simp only [List.getElem_cons_zero, List.getElem_cons_succ] at c0 c1
      have hPlt := P1.lt
      by_cases hlt : k < n
      · have hkz : k < rows.length := by rw [HN.out]; exact hlt
        have hkl : k < (intss rows).length := by rw [intss_len]; exact hkz
        obtain ⟨b, o, rfl, hl0, B, c', hcell0, hle, hmx, hrB0⟩ := hr.pos hkl
        have hl : b < wr.heap.size := Nat.lt_of_lt_of_le hl0 hb.size
        have hcell := (hb.cell (p := ⟨b, o + k, none⟩) hl0).trans hcell0
        have hrB := hrB0.below hb
        rw [intss_at] at hrB hrB0
        simp only [intss_at, ints_len] at hcell hle
        have hst := yOk_step (high := high) hkz
        rw [← HY.out] at hst
        have HST := Lib.hid hst
        have HFL : Hid ((rows.take (k + 1)).flatten = (rows.take k).flatten ++ rows[k]) := Lib.hid (by rw [List.take_succ_eq_append_getElem hkz, List.flatten_append]; simp)
        unfold maxLen at hmx
        have HR := Lib.hid hr
        generalize rows[k] = zs at *
        generalize (rows.take k).flatten = fl at *
        generalize hz : zs.length = p at *
        have HZ := Lib.hid hz
        have HRB := Lib.hid hrB0
        clear hst hz hr hcell0 hrB0 hl0 hbl
        go_wp2_with fail
        refine (implStackValid B p c' zs high _ HZ.out hrB hle (by omega)).mono ?_
        rintro e w' ⟨rfl, rfl⟩
        cases hso : stackOk zs high with
        | false =>
          have HF : Hid (yardOk high rows = false) := Lib.hid (by rw [HT.out, HST.out, hso]; rfl)
          clear hso
          go_wp2_with fail
          go_ret
          exact ⟨by rw [HF.out]; rfl, hb⟩
        | true =>
          have HS2 : Hid (yOk high [] rows = (dOk fl zs && yOk high ((rows.take (k + 1)).flatten) (rows.drop (k + 1)))) := Lib.hid (by rw [HST.out, hso]; rfl)
          obtain ⟨a1, a2, a3, a4⟩ := stackOk_parts hso
          have HID := Lib.hid (sOk_ids a1)
          have hp5 : p ≤ 5 := by have := HZ.out; omega
          clear a1 a2 a3 a4 hso
          go_wp2_with fail
          go_loopw [28, 7] (fun i _ wr2 => ∃ (j m2 : Nat), j ≤ p ∧ i = .int .i64 j ∧ m2 ≤ 5 * k + j ∧ Hid (dOk fl zs = dOk (fl ++ zs.take j) (zs.drop j)) ∧ MapI Tryd.prog 3 wr2 w1.heap.size m2 (seenF (fl ++ zs.take j)) ∧ Blk wr2 w.heap.size 24 [.int .i64 high, .slice (some ⟨b, o, none⟩) n c] ∧ RdV wr2 B (ints zs) ∧ Below w.heap.size w wr2) (fun i _ _ => p - (intOf i).toNat)
          case atStart => exact ⟨0, m, Nat.zero_le _, rfl, by omega, Lib.hid (by simp), by simpa using hM, P1, hrB, hb⟩
          case round =>
            clear c0 c1 hM P1 hb hle hrB hPlt hl hcell
            obtain ⟨j, m2, hj, rfl, hm2, HD, hM, P1, hrB, hb2⟩ := hrel
            by_cases hltj : j < p
            · have hjz : j < zs.length := by rw [HZ.out]; exact hltj
              have hjl : j < (ints zs).length := by rw [ints_len]; exact hjz
              obtain ⟨b2, o2, rfl, hl2, hc2⟩ := hrB.pos hjl
              have h1 := hc2 j hjl
              rw [ints_at] at h1
              have hst := dOk_step (p := fl) hjz
              rw [← HD.out] at hst
              have HST2 := Lib.hid hst
              have HPUT := Lib.hid (seenF_put (fl ++ zs.take j) zs[j])
              have HGET := Lib.hid (seenF_get (fl ++ zs.take j) zs[j])
              have HTK : Hid (fl ++ zs.take (j + 1) = fl ++ zs.take j ++ [zs[j]]) := Lib.hid (by rw [List.take_succ_eq_append_getElem hjz, List.append_assoc])
              obtain ⟨y1, y2⟩ := HID.out zs[j] (List.getElem_mem hjz)
              have hwf := idWf y1 y2
              generalize zs[j] = y at *
              clear hc2 hst y1 y2
              have HM := Lib.hid hM
              have hm3 : m2 < maxLen := by unfold maxLen; omega
              go_wp2_with (at_lookup; refine mapI_look _ rfl _ _ 56 rfl 3 4 Tryd.underlying3 Tryd.underlying56 (.bool false) (zeroBool _) w1.heap.size _ _ rfl hM y rfl hwf ?_)
              rw [HGET.out]
              cases hhas : hasI (fl ++ zs.take j) y with
              | true =>
                have HF : Hid (yardOk high rows = false) := Lib.hid (by rw [HT.out, HS2.out, HST2.out, hhas]; rfl)
                clear hhas
                go_wp2_with fail
                go_ret
                exact ⟨by rw [HF.out]; rfl, hb2⟩
              | false =>
                have HD2 : Hid (dOk fl zs = dOk (fl ++ zs.take (j + 1)) (zs.drop (j + 1))) := Lib.hid (by rw [HST2.out, hhas]; rfl)
                clear hhas
                go_wp2_with (refine mapI_set _ rfl (.tmp 35) (.tmp 36) _ 56 (.inl rfl) 3 4 Tryd.underlying3 Tryd.underlying56 w1.heap.size _ _ rfl hM hm3 y (.bool true) rfl rfl hwf ?_; intro w4 hM4 hg4)
                rw [HPUT.out, ← HTK.out] at hM4
                have hb4 : Below w.heap.size w w4 := hb2.grown hg4 hb2.size (fun k hk => by injection hk with hk; have := HSZ.out; omega)
                have hne : w.heap.size ≠ w1.heap.size := by have := HSZ.out; omega
                have P4 := P1.only hg4 hne
                have R4 := HRB.out.below hb4
                go_roundw
                case rel => exact ⟨j + 1, _, by omega, by go_num, by split <;> omega, HD2, hM4, P4, R4, hb4⟩
                case measure => simp [intOf]; omega
            · have hend : dOk (fl ++ zs.take j) (zs.drop j) = true := dOk_end (by rw [HZ.out]; omega)
              have HE : Hid (yOk high [] rows = yOk high ((rows.take (k + 1)).flatten) (rows.drop (k + 1))) := Lib.hid (by rw [HS2.out, HD.out, hend]; rfl)
              have htl : zs.take j = zs := List.take_of_length_le (by rw [HZ.out]; omega)
              rw [htl, ← HFL.out] at hM
              clear hend htl
              go_wp2_with fail
              go_roundw
              case rel => exact ⟨k + 1, m2, by omega, by go_num, by omega, HE, hM, P1, hb2⟩
              case measure => simp [intOf]; omega
      · have hend : yOk high ((rows.take k).flatten) (rows.drop k) = true := yOk_end (by rw [HN.out]; omega)
        have HE := Lib.hid (HT.out.trans (HY.out.trans hend))
        clear hend
        go_wp2_with fail
        go_ret
        exact ⟨by rw [HE.out]; rfl, hb⟩
end Go.Proofs.YtcdjgbechigepaaDoor
