/- Lists of lists of numbers: copying, comparing, their size, marking, reading the marks. -/
import Derived.Test.YtcdjgbechigepaaDoorIntM
import Derived.Test.YtcdjgbechigepaaDoorInts
import Derived.Test.YtcdjgbechigepaaDoorRRO
import Derived.Deep.RegionHeld3
namespace Go.Proofs.YtcdjgbechigepaaDoor
open Go Go.ChangeShapes Go.WideShapes Go.ChangeAt Go.RowKit
set_option linter.unusedVariables false
/-- lists of numbers as cells -/
def intss (ess : List (List Int)) : List (List Value) := ess.map ints
theorem intss_len (ess : List (List Int)) : (intss ess).length = ess.length := by simp [intss]
theorem intss_at (ess : List (List Int)) (k : Nat) (h : k < (intss ess).length) : (intss ess)[k] = ints (ess[k]'(by simpa [intss] using h)) := by simp [intss]
theorem ints_app (a b : List Int) : ints (a ++ b) = ints a ++ ints b := by simp [ints]
theorem ints_info : (Tryd.prog.info? 40).map (fun i => (i.zero, i.size, i.bytes)) = some (some (.slice none 0 0), 1, 24) := by kernel_rfl
theorem cp_snoc (z : Value) (hs : List Value) (k n : Nat) (h : hs.length = k) (hk : k < n) (u : Value) : (hs ++ List.replicate (n - k) z).set k u = (hs ++ [u]) ++ List.replicate (n - (k + 1)) z := by
  rw [List.set_append_right _ _ (by omega), h, Nat.sub_self]
  obtain ⟨m, hm⟩ : ∃ m, n - k = m + 1 := ⟨n - k - 1, by omega⟩
  have hm' : n - (k + 1) = m := by omega
  rw [hm, hm', List.replicate_succ, List.set_cons_zero, List.append_assoc]
  rfl
set_option maxHeartbeats 1000000 in
theorem eqIntSS_any (A B : Option Addr) (zss : List (List Int)) (n c d : Nat) (hzn : zss.length = n) (w : World) (ha : RdRR w A (intss zss)) (hb : RdRR w B (intss zss)) (hn : n ≤ 1099511627776) (hin : ∀ zs ∈ zss, zs.length ≤ 1099511627776) :
    Calls Tryd.prog 23 #[.slice A n c, .slice B n d] w fun e w' => e = .returned (.bool true) ∧ Below w.heap.size w w' := by
  have HZ := Lib.hid hzn
  have HI := Lib.hid hin
  clear hzn hin
  have hne : ((n : Int) != (n : Int)) = false := by simp
  go_enter Tryd.func23, Tryd.ntmps23
  go_wp2
  go_loopw [5] (fun i wr => ∃ k : Nat, k ≤ n ∧ i = .int .i64 k ∧ Below w.heap.size w wr) (fun i _ => n - (intOf i).toNat)
  case atStart => exact ⟨0, Nat.zero_le _, rfl, Below.refl _ _⟩
  case round =>
    obtain ⟨k, hk, rfl, hbl⟩ := hrel
    by_cases hlt : k < n
    · have hkz : k < zss.length := by rw [HZ.out]; exact hlt
      have hkl : k < (intss zss).length := by rw [intss_len]; exact hkz
      obtain ⟨b1, o1, rfl, hl1, B1, c1, hc1, hle1, hmx1, hr1⟩ := ha.pos hkl
      obtain ⟨b2, o2, rfl, hl2, B2, c2, hc2, hle2, hmx2, hr2⟩ := hb.pos hkl
      have h1 : wr.cell? ⟨b1, o1 + k, none⟩ = some (.slice B1 ((intss zss)[k]).length c1) := (hbl.cell (p := ⟨b1, o1 + k, none⟩) hl1).trans hc1
      have h2 : wr.cell? ⟨b2, o2 + k, none⟩ = some (.slice B2 ((intss zss)[k]).length c2) := (hbl.cell (p := ⟨b2, o2 + k, none⟩) hl2).trans hc2
      have hr1' := hr1.below hbl
      have hr2' := hr2.below hbl
      rw [intss_at] at hr1' hr2'
      simp only [intss_at, ints_len] at h1 h2
      have hml := HI.out zss[k] (List.getElem_mem hkz)
      generalize zss[k] = zs at *
      generalize hm : zs.length = m at *
      have HM := Lib.hid hm
      have hki : (k : Int) < (n : Int) := by omega
      clear hm hr1 hr2 hc1 hc2
      go_wp2_with fail
      go_region_held3 (fun w' => Below wr.heap.size wr w' ∧ w'.cell? ⟨b1, o1 + k, none⟩ = some (.slice B1 m c1) ∧ w'.cell? ⟨b2, o2 + k, none⟩ = some (.slice B2 m c2)) (first | exact ⟨Below.refl _ _, by assumption, by assumption⟩ | exact ⟨Below.drew (Below.refl _ _), by assumption, by assumption⟩ | (exact ⟨hbq, (hbq.cell (p := ⟨b1, o1 + k, none⟩) (Nat.lt_of_lt_of_le hl1 hbl.size)).trans h1, (hbq.cell (p := ⟨b2, o2 + k, none⟩) (Nat.lt_of_lt_of_le hl2 hbl.size)).trans h2⟩))
        (first | (go_at_call 42; (with_reducible refine (eqIntS_any B1 B2 zs m c1 c2 HM.out _ hr1'.drew hr2'.drew (by omega)).mono ?_); rintro e w2 ⟨rfl, hbq0⟩; have hbq : Below wr.heap.size wr w2 := ⟨hbq0.os, hbq0.tape, hbq0.output, hbq0.size, hbq0.block⟩))
      all_goals
        go_wp2_with fail
        go_roundw
        case rel => exact ⟨k + 1, by omega, by go_num, hbl.trans (hbq.mono hbl.size)⟩
        case measure => simp [intOf]; omega
    · go_wp2_with fail
      go_ret
      exact ⟨rfl, hbl⟩
def totI (l : List (List Int)) : Nat := (l.map List.length).sum
theorem totI_snoc (l : List (List Int)) (r : List Int) : totI (l ++ [r]) = totI l + r.length := by simp [totI]
/-- marked rows -/
def mkRI : Nat → List (List Int) → List (List Int)
  | _, [] => []
  | k, r :: rs => marksI (k : Int) r.length :: mkRI (k + r.length) rs
theorem mkRI_len (k : Nat) (l : List (List Int)) : (mkRI k l).length = l.length := by
  induction l generalizing k with
  | nil => rfl
  | cons r rs ih => simp [mkRI, ih]
theorem totI_cons (r : List Int) (l : List (List Int)) : totI (r :: l) = r.length + totI l := by simp [totI]
theorem mkRI_snoc (k : Nat) (l : List (List Int)) (r : List Int) : mkRI k (l ++ [r]) = mkRI k l ++ [marksI ((k + totI l : Nat) : Int) r.length] := by
  induction l generalizing k with
  | nil => simp [mkRI, totI]
  | cons a l ih =>
    simp only [List.cons_append, mkRI, ih, totI_cons]
    rw [Nat.add_assoc]
theorem totI_take (l : List (List Int)) (j : Nat) : totI (l.take j) ≤ totI l := by
  induction l generalizing j with
  | nil => simp
  | cons a l ih =>
    cases j with
    | zero => simp [totI]
    | succ j =>
      simp only [List.take_succ_cons, totI_cons]
      have := ih j
      omega
theorem mkRI_at (k : Nat) (l : List (List Int)) (j : Nat) (h : j < (mkRI k l).length) (h' : j < l.length) : (mkRI k l)[j] = marksI ((k + totI (l.take j) : Nat) : Int) (l[j]).length := by
  induction l generalizing k j with
  | nil => simp at h'
  | cons a l ih =>
    cases j with
    | zero => simp [mkRI, totI]
    | succ j =>
      simp only [mkRI, List.getElem_cons_succ, List.take_succ_cons, totI_cons]
      rw [ih (k + a.length) j (by simpa [mkRI] using h) (by simpa using h')]
      rw [Nat.add_assoc]
theorem intss_app (a b : List (List Int)) : intss (a ++ b) = intss a ++ intss b := by simp [intss]
set_option maxHeartbeats 2000000 in
theorem markIntSS_any (A : Option Addr) (n c lo hi k : Nat) (ess : List (List Int)) (w : World) (hn : ess.length = n) (h : OwnRR w lo hi 40 3 (.slice A n c) (intss ess)) (h0 : 1 ≤ k) (hk : k + totI ess ≤ 100000000000) (hn1 : n ≤ 9223372036854775807) :
    Calls Tryd.prog 24 #[.slice A n c, .int .i64 k] w fun e w' => e = .returned (.int .i64 ((k : Int) + (totI ess : Int))) ∧ OwnRR w' lo hi 40 3 (.slice A n c) (intss (mkRI k ess)) ∧ Out lo hi w w' := by
  have HN := Lib.hid hn
  clear hn
  go_enter Tryd.func24, Tryd.ntmps24
  go_wp2_with fail
  go_loopw [1, 5] (fun kk i wr => ∃ j : Nat, j ≤ n ∧ i = .int .i64 j ∧ kk = .int .i64 ((k : Int) + (totI (ess.take j) : Int)) ∧ OwnRR wr lo hi 40 3 (.slice A n c) (intss (mkRI k (ess.take j) ++ ess.drop j)) ∧ Out lo hi w wr) (fun _ i _ => n - (intOf i).toNat)
  case atStart => exact ⟨0, Nat.zero_le _, rfl, by simp [totI], by simpa [mkRI] using h, Out.refl _ _ _⟩
  case round =>
    clear h
    obtain ⟨j, hj, rfl, rfl, hO, hOut⟩ := hrel
    have htk := totI_take ess j
    by_cases hlt : j < n
    · have hje : j < ess.length := by rw [HN.out]; exact hlt
      have hrl : (mkRI k (ess.take j)).length = j := by rw [mkRI_len, List.length_take]; omega
      have hde : ess.drop j = ess[j] :: ess.drop (j + 1) := List.drop_eq_getElem_cons hje
      have hts : totI (ess.take (j + 1)) = totI (ess.take j) + (ess[j]).length := by rw [List.take_succ_eq_append_getElem hje, totI_snoc]
      have hms : mkRI k (ess.take (j + 1)) = mkRI k (ess.take j) ++ [marksI ((k + totI (ess.take j) : Nat) : Int) (ess[j]).length] := by rw [List.take_succ_eq_append_getElem hje, mkRI_snoc]
      have htk2 := totI_take ess (j + 1)
      rw [hde] at hO
      generalize ess[j] = r at *
      generalize htt : totI (ess.take j) = tj at *
      generalize mkRI k (ess.take j) = M at *
      have hxl : j < (intss (M ++ r :: ess.drop (j + 1))).length := by rw [intss_len]; simp; omega
      have hxa : (intss (M ++ r :: ess.drop (j + 1)))[j] = ints r := by
        rw [intss_at]
        congr 1
        rw [List.getElem_append_right (by omega)]
        simp [hrl]
      obtain ⟨A', cc, B, c', hv, hin, ⟨b, rfl, hbl, hcell, _⟩, hput⟩ := hO.row hxl
      rw [hxa, ints_len] at hin hcell hput
      injection hv with hv1 hv2 hv3
      subst hv1
      have hki : (j : Int) < (n : Int) := by omega
      have HPUT := Lib.hid hput
      have HOUT := Lib.hid hOut
      have HMS := Lib.hid hms
      have HTS := Lib.hid hts
      have hmk := markIntS_any B r.length c' lo ((k + tj : Nat) : Int) (ints r) wr hin.row (by omega) (by omega)
      rw [Int.natCast_add] at hmk
      have hset : (intss (M ++ r :: ess.drop (j + 1))).set j (ints (marksI ((k + tj : Nat) : Int) r.length)) = intss (M ++ [marksI ((k + tj : Nat) : Int) r.length] ++ ess.drop (j + 1)) := by
        rw [intss_app, List.set_append_right _ _ (by rw [intss_len, hrl]; exact Nat.le_refl _), intss_len, hrl, Nat.sub_self]
        simp [intss]
      have HSET := Lib.hid hset
      have HMK := Lib.hid hmk
      have e1 : IntKind.i64.wrap ((j : Int) + 1) = (j : Int) + 1 := IntWalk.i64_in _ (by omega)
      clear hput hOut hO hin hms hts hxa hde hmk hset hv2 hv3 htt
      generalize r.length = rl at *
      go_wp2_with fail
      refine HMK.out.mono ?_
      rintro e w1 ⟨rfl, hrow, hgr⟩
      obtain ⟨p1, p2⟩ := HPUT.out w1 (ints (marksI ((k + tj : Nat) : Int) rl)) (by rw [ints_len, marksI_len]) hrow hgr
      rw [HSET.out, ← HMS.out] at p1
      have HP1 := Lib.hid p1
      have HP2 := Lib.hid (HOUT.out.trans p2)
      clear p1 p2 hrow hgr hcell
      go_wp2_with fail
      go_roundw
      case rel => exact ⟨j + 1, by omega, by go_num, by rw [HTS.out]; go_num, HP1.out, HP2.out⟩
      case measure => simp [intOf]; omega
    · obtain rfl : j = n := by omega
      have htl : ess.take j = ess := List.take_of_length_le (by rw [HN.out]; exact Nat.le_refl _)
      have hdl : ess.drop j = [] := List.drop_of_length_le (by rw [HN.out]; exact Nat.le_refl _)
      rw [htl, hdl, List.append_nil] at hO
      rw [htl]
      clear htl hdl
      have HO := Lib.hid hO
      clear hO
      go_wp2_with fail
      go_ret
      exact ⟨rfl, HO.out, hOut⟩
set_option maxHeartbeats 2000000 in
theorem heldIntSS_any (A : Option Addr) (n c k : Nat) (ess : List (List Int)) (w : World) (hn : ess.length = n) (h : RdRR w A (intss (mkRI k ess))) (h0 : 1 ≤ k) (hk : k + totI ess ≤ 100000000000) (hn1 : n ≤ 9223372036854775807) :
    Calls Tryd.prog 25 #[.slice A n c, .int .i64 k] w fun e w' => e = .returned (.int .i64 ((k : Int) + (totI ess : Int))) ∧ Below w.heap.size w w' := by
  have HN := Lib.hid hn
  clear hn
  go_enter Tryd.func25, Tryd.ntmps25
  go_wp2_with fail
  go_loopw [1, 5] (fun kk i wr => ∃ j : Nat, j ≤ n ∧ i = .int .i64 j ∧ kk = .int .i64 ((k : Int) + (totI (ess.take j) : Int)) ∧ Below w.heap.size w wr) (fun _ i _ => n - (intOf i).toNat)
  case atStart => exact ⟨0, Nat.zero_le _, rfl, by simp [totI], Below.refl _ _⟩
  case round =>
    obtain ⟨j, hj, rfl, rfl, hb⟩ := hrel
    have htk := totI_take ess j
    by_cases hlt : j < n
    · have hje : j < ess.length := by rw [HN.out]; exact hlt
      have hjm : j < (mkRI k ess).length := by rw [mkRI_len]; exact hje
      have hjs : j < (intss (mkRI k ess)).length := by rw [intss_len]; exact hjm
      have hh := h.below hb
      obtain ⟨b, o, rfl, hl, B, c', hcell, hle, hmx, hrB⟩ := hh.pos hjs
      have hat := mkRI_at k ess j hjm hje
      have hts : totI (ess.take (j + 1)) = totI (ess.take j) + (ess[j]).length := by rw [List.take_succ_eq_append_getElem hje, totI_snoc]
      have htk2 := totI_take ess (j + 1)
      rw [intss_at, hat, ints_len, marksI_len] at hcell
      rw [intss_at, hat] at hrB
      have HTS := Lib.hid hts
      generalize ess[j] = r at *
      generalize totI (ess.take j) = tj at *
      have hmk := heldIntS_any B r.length c' ((k + tj : Nat) : Int) wr hrB (by omega) (by omega)
      rw [Int.natCast_add] at hmk
      have HMK := Lib.hid hmk
      have hki : (j : Int) < (n : Int) := by omega
      have e1 : IntKind.i64.wrap ((j : Int) + 1) = (j : Int) + 1 := IntWalk.i64_in _ (by omega)
      have hnn : 0 ≤ (k : Int) + (tj : Int) + (r.length : Int) := by omega
      clear hh hat hrB hmk hts hle hmx
      generalize r.length = rl at *
      have HB := Lib.hid hb
      clear hb
      go_wp2_with fail
      refine HMK.out.mono ?_
      rintro e w1 ⟨rfl, hb1⟩
      have HB1 := Lib.hid (below_trans HB.out hb1)
      clear hb1 hcell
      go_wp2_with fail
      go_roundw
      case rel => exact ⟨j + 1, by omega, by go_num, by rw [HTS.out]; go_num, HB1.out⟩
      case measure => simp [intOf]; omega
    · obtain rfl : j = n := by omega
      have htl : ess.take j = ess := List.take_of_length_le (by rw [HN.out]; exact Nat.le_refl _)
      rw [htl]
      clear htl
      go_wp2_with fail
      go_ret
      exact ⟨rfl, hb⟩
end Go.Proofs.YtcdjgbechigepaaDoor
