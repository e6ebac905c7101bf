/- Lists of lists of texts, segments: marked, the marks are read. -/
import Derived.Test.YtljbbhipdfnppaaMarkT
namespace Go.Proofs.Ytljbbhipdfnppaa
open Go Go.ChangeShapes Go.WideShapes Go.ChangeAt Go.RowKit
set_option linter.unusedVariables false
/-- how many texts -/
def totR (l : List (List ByteArray)) : Nat := (l.map List.length).sum
theorem totR_snoc (l : List (List ByteArray)) (r : List ByteArray) : totR (l ++ [r]) = totR l + r.length := by simp [totR]
/-- marked rows -/
def mkRows : Nat → List (List ByteArray) → List (List ByteArray)
  | _, [] => []
  | k, r :: rs => marksT k r.length :: mkRows (k + r.length) rs
theorem mkRows_len (k : Nat) (l : List (List ByteArray)) : (mkRows k l).length = l.length := by
  induction l generalizing k with
  | nil => rfl
  | cons r rs ih => simp [mkRows, ih]
theorem totR_cons (r : List ByteArray) (l : List (List ByteArray)) : totR (r :: l) = r.length + totR l := by simp [totR]
theorem mkRows_snoc (k : Nat) (l : List (List ByteArray)) (r : List ByteArray) : mkRows k (l ++ [r]) = mkRows k l ++ [marksT (k + totR l) r.length] := by
  induction l generalizing k with
  | nil => simp [mkRows, totR]
  | cons a l ih =>
    simp only [List.cons_append, mkRows, ih, totR_cons]
    rw [Nat.add_assoc]
theorem totR_take (l : List (List ByteArray)) (j : Nat) : totR (l.take j) ≤ totR l := by
  induction l generalizing j with
  | nil => simp
  | cons a l ih =>
    cases j with
    | zero => simp [totR]
    | succ j =>
      simp only [List.take_succ_cons, totR_cons]
      have := ih j
      omega
theorem mkRows_at (k : Nat) (l : List (List ByteArray)) (j : Nat) (h : j < (mkRows k l).length) (h' : j < l.length) : (mkRows k l)[j] = marksT (k + totR (l.take j)) (l[j]).length := by
  induction l generalizing k j with
  | nil => simp at h'
  | cons a l ih =>
    cases j with
    | zero => simp [mkRows, totR]
    | succ j =>
      simp only [mkRows, List.getElem_cons_succ, List.take_succ_cons, totR_cons]
      rw [ih (k + a.length) j (by simpa [mkRows] using h) (by simpa using h')]
      rw [Nat.add_assoc]
theorem strss_app (a b : List (List ByteArray)) : strss (a ++ b) = strss a ++ strss b := by simp [strss]
set_option maxHeartbeats 2000000 in
theorem markStringSS_any (A : Option Addr) (n c lo hi k : Nat) (ess : List (List ByteArray)) (w : World) (hn : ess.length = n) (h : OwnRR w lo hi 28 9 (.slice A n c) (strss ess)) (h0 : 1 ≤ k) (hk : k + totR ess ≤ 100000000000) (hn1 : n ≤ 9223372036854775807) :
    Calls Try.prog 46 #[.slice A n c, .int .i64 k] w fun e w' => e = .returned (.int .i64 ((k : Int) + (totR ess : Int))) ∧ OwnRR w' lo hi 28 9 (.slice A n c) (strss (mkRows k ess)) ∧ Out lo hi w w' := by
  have HN := Lib.hid hn
  clear hn
  go_enter Try.func46, Try.ntmps46
  go_wp2_with fail
  go_loopw [1, 5] (fun kk i wr => ∃ j : Nat, j ≤ n ∧ i = .int .i64 j ∧ kk = .int .i64 ((k : Int) + (totR (ess.take j) : Int)) ∧ OwnRR wr lo hi 28 9 (.slice A n c) (strss (mkRows k (ess.take j) ++ ess.drop j)) ∧ Out lo hi w wr) (fun _ i _ => n - (intOf i).toNat)
  case atStart => exact ⟨0, Nat.zero_le _, rfl, by simp [totR], by simpa [mkRows] using h, Out.refl _ _ _⟩
  case round =>
    clear h
    obtain ⟨j, hj, rfl, rfl, hO, hOut⟩ := hrel
    have htk := totR_take ess j
    by_cases hlt : j < n
    · have hje : j < ess.length := by rw [HN.out]; exact hlt
      have hrl : (mkRows k (ess.take j)).length = j := by rw [mkRows_len, List.length_take]; omega
      have hde : ess.drop j = ess[j] :: ess.drop (j + 1) := List.drop_eq_getElem_cons hje
      have hts : totR (ess.take (j + 1)) = totR (ess.take j) + (ess[j]).length := by rw [List.take_succ_eq_append_getElem hje, totR_snoc]
      have hms : mkRows k (ess.take (j + 1)) = mkRows k (ess.take j) ++ [marksT (k + totR (ess.take j)) (ess[j]).length] := by rw [List.take_succ_eq_append_getElem hje, mkRows_snoc]
      have htk2 := totR_take ess (j + 1)
      rw [hde] at hO
      generalize ess[j] = r at *
      generalize htt : totR (ess.take j) = tj at *
      generalize mkRows k (ess.take j) = M at *
      have hxl : j < (strss (M ++ r :: ess.drop (j + 1))).length := by rw [strss_len]; simp; omega
      have hxa : (strss (M ++ r :: ess.drop (j + 1)))[j] = strs r := by
        rw [strss_at]
        congr 1
        rw [List.getElem_append_right (by omega)]
        simp [hrl]
      obtain ⟨A', cc, B, c', hv, hin, ⟨b, rfl, hbl, hcell, _⟩, hput⟩ := hO.row hxl
      rw [hxa, strs_len] at hin hcell hput
      injection hv with hv1 hv2 hv3
      subst hv1
      have hki : (j : Int) < (n : Int) := by omega
      have HPUT := Lib.hid hput
      have HOUT := Lib.hid hOut
      have HMS := Lib.hid hms
      have HTS := Lib.hid hts
      have hmk := markStringS_any B r.length c' lo (k + tj) (strs r) wr hin.row (by omega) (by omega)
      simp only [Int.natCast_add] at hmk
      have hset : (strss (M ++ r :: ess.drop (j + 1))).set j (strs (marksT (k + tj) r.length)) = strss (M ++ [marksT (k + tj) r.length] ++ ess.drop (j + 1)) := by
        rw [strss_app, List.set_append_right _ _ (by rw [strss_len, hrl]; exact Nat.le_refl _), strss_len, hrl, Nat.sub_self]
        simp [strss]
      have HSET := Lib.hid hset
      have HMK := Lib.hid hmk
      have e1 : IntKind.i64.wrap ((j : Int) + 1) = (j : Int) + 1 := IntWalk.i64_in _ (by omega)
      clear hput hOut hO hin hms hts hxa hde hmk hset hv2 hv3 htt
      generalize r.length = rl at *
      go_wp2_with fail
      refine HMK.out.mono ?_
      rintro e w1 ⟨rfl, hrow, hgr⟩
      obtain ⟨p1, p2⟩ := HPUT.out w1 (strs (marksT (k + tj) rl)) (by rw [strs_len, marksT_len]) hrow hgr
      rw [HSET.out, ← HMS.out] at p1
      have HP1 := Lib.hid p1
      have HP2 := Lib.hid (HOUT.out.trans p2)
      clear p1 p2 hrow hgr hcell
      go_wp2_with fail
      go_roundw
      case rel => exact ⟨j + 1, by omega, by go_num, by rw [HTS.out]; go_num, HP1.out, HP2.out⟩
      case measure => simp [intOf]; omega
    · obtain rfl : j = n := by omega
      have htl : ess.take j = ess := List.take_of_length_le (by rw [HN.out]; exact Nat.le_refl _)
      have hdl : ess.drop j = [] := List.drop_of_length_le (by rw [HN.out]; exact Nat.le_refl _)
      rw [htl, hdl, List.append_nil] at hO
      rw [htl]
      clear htl hdl
      have HO := Lib.hid hO
      clear hO
      go_wp2_with fail
      go_ret
      exact ⟨rfl, HO.out, hOut⟩
set_option maxHeartbeats 2000000 in
theorem heldStringSS_any (A : Option Addr) (n c k : Nat) (ess : List (List ByteArray)) (w : World) (hn : ess.length = n) (h : RdRR w A (strss (mkRows k ess))) (h0 : 1 ≤ k) (hk : k + totR ess ≤ 100000000000) (hn1 : n ≤ 9223372036854775807) :
    Calls Try.prog 47 #[.slice A n c, .int .i64 k] w fun e w' => e = .returned (.int .i64 ((k : Int) + (totR ess : Int))) ∧ Below w.heap.size w w' := by
  have HN := Lib.hid hn
  clear hn
  go_enter Try.func47, Try.ntmps47
  go_wp2_with fail
  go_loopw [1, 5] (fun kk i wr => ∃ j : Nat, j ≤ n ∧ i = .int .i64 j ∧ kk = .int .i64 ((k : Int) + (totR (ess.take j) : Int)) ∧ Below w.heap.size w wr) (fun _ i _ => n - (intOf i).toNat)
  case atStart => exact ⟨0, Nat.zero_le _, rfl, by simp [totR], Below.refl _ _⟩
  case round =>
    obtain ⟨j, hj, rfl, rfl, hb⟩ := hrel
    have htk := totR_take ess j
    by_cases hlt : j < n
    · have hje : j < ess.length := by rw [HN.out]; exact hlt
      have hjm : j < (mkRows k ess).length := by rw [mkRows_len]; exact hje
      have hjs : j < (strss (mkRows k ess)).length := by rw [strss_len]; exact hjm
      have hh := h.below hb
      obtain ⟨b, o, rfl, hl, B, c', hcell, hle, hmx, hrB⟩ := hh.pos hjs
      have hat := mkRows_at k ess j hjm hje
      have hts : totR (ess.take (j + 1)) = totR (ess.take j) + (ess[j]).length := by rw [List.take_succ_eq_append_getElem hje, totR_snoc]
      have htk2 := totR_take ess (j + 1)
      rw [strss_at, hat, strs_len, marksT_len] at hcell
      rw [strss_at, hat] at hrB
      have HTS := Lib.hid hts
      generalize ess[j] = r at *
      generalize totR (ess.take j) = tj at *
      have hmk := heldStringS_any B r.length c' (k + tj) wr hrB (by omega) (by omega)
      simp only [Int.natCast_add] at hmk
      have HMK := Lib.hid hmk
      have hki : (j : Int) < (n : Int) := by omega
      have e1 : IntKind.i64.wrap ((j : Int) + 1) = (j : Int) + 1 := IntWalk.i64_in _ (by omega)
      have hnn : 0 ≤ (k : Int) + (tj : Int) + (r.length : Int) := by omega
      clear hh hat hrB hmk hts hle hmx
      generalize r.length = rl at *
      have HB := Lib.hid hb
      clear hb
      go_wp2_with fail
      refine HMK.out.mono ?_
      rintro e w1 ⟨rfl, hb1⟩
      have HB1 := Lib.hid (below_trans HB.out hb1)
      clear hb1 hcell
      go_wp2_with fail
      go_roundw
      case rel => exact ⟨j + 1, by omega, by go_num, by rw [HTS.out]; go_num, HB1.out⟩
      case measure => simp [intOf]; omega
    · obtain rfl : j = n := by omega
      have htl : ess.take j = ess := List.take_of_length_le (by rw [HN.out]; exact Nat.le_refl _)
      rw [htl]
      clear htl
      go_wp2_with fail
      go_ret
      exact ⟨rfl, hb⟩
theorem markSegment_any (tag : ByteArray) (A : Option Addr) (n c lo hi k : Nat) (ess : List (List ByteArray)) (w : World) (hn : ess.length = n) (h : OwnRR w lo hi 28 9 (.slice A n c) (strss ess)) (h0 : 1 ≤ k) (hk : k + totR ess ≤ 100000000000) (hn1 : n ≤ 9223372036854775807) :
    Calls Try.prog 20 #[.agg #[.string tag, .slice A n c], .int .i64 k] w fun e w' => e = .returned (.int .i64 ((k : Int) + (totR ess : Int))) ∧ OwnRR w' lo hi 28 9 (.slice A n c) (strss (mkRows k ess)) ∧ Out lo hi w w' := by
  have hbl : Below w.heap.size w (w.alloc (.cells #[.string tag, .slice A n c] 25)) := (Below.refl _ _).alloc (Nat.le_refl _) _
  have h1 := h.later hbl
  have HO := Lib.hid (Below.out hbl lo hi)
  clear hbl h
  go_enter Try.func20, Try.ntmps20
  go_wp2_with fail
  refine (markStringSS_any A n c lo hi k ess _ hn h1 h0 hk hn1).mono ?_
  rintro e w1 ⟨rfl, h2, ho2⟩
  have HO2 := Lib.hid (HO.out.trans ho2)
  clear ho2 h1
  go_wp2_with fail
  go_ret
  exact ⟨rfl, h2, HO2.out⟩
theorem heldSegment_any (tag : ByteArray) (A : Option Addr) (n c k : Nat) (ess : List (List ByteArray)) (w : World) (hn : ess.length = n) (h : RdRR w A (strss (mkRows k ess))) (h0 : 1 ≤ k) (hk : k + totR ess ≤ 100000000000) (hn1 : n ≤ 9223372036854775807) :
    Calls Try.prog 21 #[.agg #[.string tag, .slice A n c], .int .i64 k] w fun e w' => e = .returned (.int .i64 ((k : Int) + (totR ess : Int))) ∧ Below w.heap.size w w' := by
  have hbl : Below w.heap.size w (w.alloc (.cells #[.string tag, .slice A n c] 25)) := (Below.refl _ _).alloc (Nat.le_refl _) _
  have h1 := h.below hbl
  have HB := Lib.hid hbl
  clear hbl h
  go_enter Try.func21, Try.ntmps21
  go_wp2_with fail
  refine (heldStringSS_any A n c k ess _ hn h1 h0 hk hn1).mono ?_
  rintro e w1 ⟨rfl, hb1⟩
  have hnn : 0 ≤ (k : Int) + (totR ess : Int) := by omega
  have HB1 := Lib.hid (below_trans HB.out hb1)
  clear hb1
  go_wp2_with fail
  go_ret
  exact ⟨rfl, HB1.out⟩
end Go.Proofs.Ytljbbhipdfnppaa
