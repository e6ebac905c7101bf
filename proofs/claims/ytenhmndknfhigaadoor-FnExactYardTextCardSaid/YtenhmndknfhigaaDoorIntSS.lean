/- Lists of lists of numbers: copying, comparing, their size, marking, reading the marks. -/
import Derived.Test.YtenhmndknfhigaaDoorIntM
import Derived.Test.YtenhmndknfhigaaDoorInts
import Derived.Test.YtenhmndknfhigaaDoorRRO
import Derived.Deep.RegionHeld3
namespace Go.Proofs.YtenhmndknfhigaaDoor
open Go Go.ChangeShapes Go.WideShapes Go.ChangeAt Go.RowKit
set_option linter.unusedVariables false
/-- lists of numbers as cells -/
def intss (ess : List (List Int)) : List (List Value) := ess.map ints
theorem intss_len (ess : List (List Int)) : (intss ess).length = ess.length := by simp [intss]
theorem intss_at (ess : List (List Int)) (k : Nat) (h : k < (intss ess).length) : (intss ess)[k] = ints (ess[k]'(by simpa [intss] using h)) := by simp [intss]
theorem ints_app (a b : List Int) : ints (a ++ b) = ints a ++ ints b := by simp [ints]
theorem ints_info : (Tryd.prog.info? 34).map (fun i => (i.zero, i.size, i.bytes)) = some (some (.slice none 0 0), 1, 24) := by kernel_rfl
theorem cp_snoc (z : Value) (hs : List Value) (k n : Nat) (h : hs.length = k) (hk : k < n) (u : Value) : (hs ++ List.replicate (n - k) z).set k u = (hs ++ [u]) ++ List.replicate (n - (k + 1)) z := by
  rw [List.set_append_right _ _ (by omega), h, Nat.sub_self]
  obtain ⟨m, hm⟩ : ∃ m, n - k = m + 1 := ⟨n - k - 1, by omega⟩
  have hm' : n - (k + 1) = m := by omega
  rw [hm, hm', List.replicate_succ, List.set_cons_zero, List.append_assoc]
  rfl
set_option maxHeartbeats 1000000 in
theorem toIntSS_any (A : Option Addr) (zss : List (List Int)) (n c : Nat) (hzn : zss.length = n) (w : World) (hr : RdRR w A (intss zss)) (hn : n ≤ 1048576) (hin : ∀ zs ∈ zss, zs.length ≤ 1048576) :
    Calls Tryd.prog 12 #[.slice A n c] w fun e w' => e = .returned (.slice (some ⟨w.heap.size, 0, none⟩) n n) ∧ OwnRR w' w.heap.size w'.heap.size 34 3 (.slice (some ⟨w.heap.size, 0, none⟩) n n) (intss zss) ∧ Below w.heap.size w w' := by
  have hmk := run_make_row' (P := Tryd.prog) 22 34 (.slice none 0 0) 24 Tryd.underlying22 ints_info rfl .i64 .i64 n (by omega) (by omega)
  rw [made_one] at hmk
  have HZ := Lib.hid hzn
  have HI := Lib.hid hin
  clear hzn hin
  go_enter Tryd.func12, Tryd.ntmps12
  go_wp2
  go_loopw [4] (fun i wr => ∃ (k : Nat) (hs : List Value), k ≤ n ∧ i = .int .i64 k ∧ Hid (hs.length = k) ∧ Blk wr w.heap.size 34 (hs ++ List.replicate (n - k) (.slice none 0 0)) ∧ FreshRows wr w.heap.size 3 hs (intss (zss.take k)) ∧ Below w.heap.size w wr) (fun i _ => n - (intOf i).toNat)
  case atStart => exact ⟨0, [], Nat.zero_le _, rfl, Lib.hid rfl, by simpa using Blk.new w 34 (List.replicate n (.slice none 0 0)), FreshRows.nil_ _ _ _, (Below.refl _ _).alloc (Nat.le_refl _) _⟩
  case round =>
    obtain ⟨k, hs, hk, rfl, HH, hblk, hfr, hb⟩ := hrel
    by_cases hlt : k < n
    · have hkz : k < zss.length := by rw [HZ.out]; exact hlt
      have hkl : k < (intss zss).length := by rw [intss_len]; exact hkz
      obtain ⟨b, off, rfl, hlb, B, c', hc, hle, hmx, hrB⟩ := hr.pos hkl
      have hsrc : wr.cell? ⟨b, off + k, none⟩ = some (.slice B ((intss zss)[k]).length c') := (hb.cell (p := ⟨b, off + k, none⟩) hlb).trans hc
      have hrB2 := hrB.below hb
      have HTK : Hid (intss (zss.take (k + 1)) = intss (zss.take k) ++ [ints zss[k]]) := Lib.hid (by rw [List.take_succ_eq_append_getElem hkz]; simp only [intss, List.map_append, List.map_cons, List.map_nil])
      have hml := HI.out zss[k] (List.getElem_mem hkz)
      rw [intss_at] at hrB2
      simp only [intss_at, ints_len] at hsrc
      generalize zss[k] = zs at *
      generalize hm : zs.length = m at *
      have HM := Lib.hid hm
      have hbl := hblk.lt
      clear hm hrB hc hle hmk
      go_wp2_with fail
      refine (toIntS_any B zs m c' HM.out _ hrB2 hml).mono ?_
      rintro e w2 ⟨rfl, hb2, hbel⟩
      have hblk2 := hblk.later hbel
      have hfr2 := hfr.snoc hbel hbl hb2 (by rw [ints_len, HM.out]; unfold maxLen; omega)
      rw [ints_len, HM.out, ← HTK.out] at hfr2
      have hdst : w2.cell? ⟨w.heap.size, k, none⟩ = some (.slice none 0 0) := by
        rw [hblk2.cell, List.getElem?_append_right (by rw [HH.out]; exact Nat.le_refl _), HH.out, Nat.sub_self, List.getElem?_replicate, if_pos (by omega)]
      have hfz : w2.frozen? ⟨w.heap.size, k, none⟩ = false := hblk2.frozen k
      have hset := hblk2.set_ k (.slice (some ⟨wr.heap.size, 0, none⟩) m m)
      rw [cp_snoc _ hs k n HH.out hlt] at hset
      have hfr3 := hfr2.far k (.slice (some ⟨wr.heap.size, 0, none⟩) m m)
      have hb3 := hb.trans (hbel.mono hb.size)
      go_wp2_with fail
      go_roundw
      case rel => exact ⟨k + 1, _, by omega, by go_num, Lib.hid (by rw [List.length_append, HH.out]; rfl), hset, hfr3, hb3.setCell (Nat.le_refl _) _⟩
      case measure => simp [intOf]; omega
    · go_wp2_with fail
      go_ret
      obtain rfl : k = n := by omega
      rw [Nat.sub_self, List.replicate_zero, List.append_nil] at hblk
      rw [List.take_of_length_le (by rw [HZ.out]; exact Nat.le_refl _)] at hfr
      have := own_of_fresh hfr hblk (by rw [intss_len, HZ.out]; unfold maxLen; omega)
      rw [intss_len, HZ.out] at this
      exact ⟨rfl, this, hb⟩
set_option maxHeartbeats 1000000 in
theorem eqIntSS_any (A B : Option Addr) (zss : List (List Int)) (n c d : Nat) (hzn : zss.length = n) (w : World) (ha : RdRR w A (intss zss)) (hb : RdRR w B (intss zss)) (hn : n ≤ 1099511627776) (hin : ∀ zs ∈ zss, zs.length ≤ 1099511627776) :
    Calls Tryd.prog 16 #[.slice A n c, .slice B n d] w fun e w' => e = .returned (.bool true) ∧ Below w.heap.size w w' := by
  have HZ := Lib.hid hzn
  have HI := Lib.hid hin
  clear hzn hin
  have hne : ((n : Int) != (n : Int)) = false := by simp
  go_enter Tryd.func16, Tryd.ntmps16
  go_wp2
  go_loopw [5] (fun i wr => ∃ k : Nat, k ≤ n ∧ i = .int .i64 k ∧ Below w.heap.size w wr) (fun i _ => n - (intOf i).toNat)
  case atStart => exact ⟨0, Nat.zero_le _, rfl, Below.refl _ _⟩
  case round =>
    obtain ⟨k, hk, rfl, hbl⟩ := hrel
    by_cases hlt : k < n
    · have hkz : k < zss.length := by rw [HZ.out]; exact hlt
      have hkl : k < (intss zss).length := by rw [intss_len]; exact hkz
      obtain ⟨b1, o1, rfl, hl1, B1, c1, hc1, hle1, hmx1, hr1⟩ := ha.pos hkl
      obtain ⟨b2, o2, rfl, hl2, B2, c2, hc2, hle2, hmx2, hr2⟩ := hb.pos hkl
      have h1 : wr.cell? ⟨b1, o1 + k, none⟩ = some (.slice B1 ((intss zss)[k]).length c1) := (hbl.cell (p := ⟨b1, o1 + k, none⟩) hl1).trans hc1
      have h2 : wr.cell? ⟨b2, o2 + k, none⟩ = some (.slice B2 ((intss zss)[k]).length c2) := (hbl.cell (p := ⟨b2, o2 + k, none⟩) hl2).trans hc2
      have hr1' := hr1.below hbl
      have hr2' := hr2.below hbl
      rw [intss_at] at hr1' hr2'
      simp only [intss_at, ints_len] at h1 h2
      have hml := HI.out zss[k] (List.getElem_mem hkz)
      generalize zss[k] = zs at *
      generalize hm : zs.length = m at *
      have HM := Lib.hid hm
      have hki : (k : Int) < (n : Int) := by omega
      clear hm hr1 hr2 hc1 hc2
      go_wp2_with fail
      go_region_held3 (fun w' => Below wr.heap.size wr w' ∧ w'.cell? ⟨b1, o1 + k, none⟩ = some (.slice B1 m c1) ∧ w'.cell? ⟨b2, o2 + k, none⟩ = some (.slice B2 m c2)) (first | exact ⟨Below.refl _ _, by assumption, by assumption⟩ | exact ⟨Below.drew (Below.refl _ _), by assumption, by assumption⟩ | (exact ⟨hbq, (hbq.cell (p := ⟨b1, o1 + k, none⟩) (Nat.lt_of_lt_of_le hl1 hbl.size)).trans h1, (hbq.cell (p := ⟨b2, o2 + k, none⟩) (Nat.lt_of_lt_of_le hl2 hbl.size)).trans h2⟩))
        (first | (go_at_call 29; (with_reducible refine (eqIntS_any B1 B2 zs m c1 c2 HM.out _ hr1'.drew hr2'.drew (by omega)).mono ?_); rintro e w2 ⟨rfl, hbq0⟩; have hbq : Below wr.heap.size wr w2 := ⟨hbq0.os, hbq0.tape, hbq0.output, hbq0.size, hbq0.block⟩))
      all_goals
        go_wp2_with fail
        go_roundw
        case rel => exact ⟨k + 1, by omega, by go_num, hbl.trans (hbq.mono hbl.size)⟩
        case measure => simp [intOf]; omega
    · go_wp2_with fail
      go_ret
      exact ⟨rfl, hbl⟩
set_option maxHeartbeats 1000000 in
theorem szIntS_any (A : Option Addr) (n c : Nat) (w : World) (hm : n ≤ 9223372036854775807) (l : Int) (h0 : 0 ≤ l) (h1 : l ≤ 1048576) :
    Calls Tryd.prog 17 #[.slice A n c, .int .i64 l] w (RInt fun r w' => r ≤ l ∧ (0 ≤ r → r = l - (n : Int)) ∧ w = w') := by
  by_cases hn : (n : Int) ≤ l
  · go_enter Tryd.func17, Tryd.ntmps17
    go_wp2
    go_ret
    exact RInt.mk ⟨by omega, fun _ => rfl, rfl⟩
  · go_enter Tryd.func17, Tryd.ntmps17
    go_wp2
    go_ret
    exact RInt.mk ⟨by omega, fun h => by omega, rfl⟩
def totI (l : List (List Int)) : Nat := (l.map List.length).sum
theorem totI_snoc (l : List (List Int)) (r : List Int) : totI (l ++ [r]) = totI l + r.length := by simp [totI]
set_option maxHeartbeats 1000000 in
theorem szIntSS_any (A : Option Addr) (zss : List (List Int)) (n c : Nat) (hzn : zss.length = n) (w : World) (hr : RdRR w A (intss zss)) (hm : n ≤ 9223372036854775807) (l : Int) (h0 : 0 ≤ l) (h1 : l ≤ 1048576) :
    Calls Tryd.prog 9 #[.slice A n c, .int .i64 l] w (RInt fun r w' => r ≤ l ∧ (0 ≤ r → (n : Int) + (totI zss : Int) + r = l) ∧ w = w') := by
  have HZ := Lib.hid hzn
  clear hzn
  by_cases hn : (n : Int) ≤ l
  · go_enter Tryd.func9, Tryd.ntmps9
    go_wp2
    go_loop [1, 5] (fun q i => ∃ (k : Nat) (m : Int), k ≤ n ∧ i = .int .i64 k ∧ q = .int .i64 m ∧ 0 ≤ m ∧ m ≤ l ∧ Hid ((n : Int) + (totI (zss.take k) : Int) + m = l)) (fun _ i => n - (intOf i).toNat)
    case atStart => exact ⟨0, _, Nat.zero_le _, rfl, rfl, by omega, by omega, Lib.hid (by simp [totI]; omega)⟩
    case round =>
      obtain ⟨k, m, hk, rfl, rfl, hm0, hm1, HJ⟩ := hrel
      by_cases hlt : k < n
      · have hkz : k < zss.length := by rw [HZ.out]; exact hlt
        have hkl : k < (intss zss).length := by rw [intss_len]; exact hkz
        obtain ⟨b, o, rfl, hl, B, c', hcell, hle, hmx, hrB⟩ := hr.pos hkl
        simp only [intss_at, ints_len] at hcell hle
        have hts : totI (zss.take (k + 1)) = totI (zss.take k) + (zss[k]).length := by rw [List.take_succ_eq_append_getElem hkz, totI_snoc]
        unfold maxLen at hmx
        generalize zss[k] = zs at *
        have HTS := Lib.hid hts
        generalize hm' : zs.length = q at *
        clear hts hm' hrB
        go_wp2_with fail
        refine (szIntS_any B q c' _ (by omega) m hm0 (by omega)).mono ?_
        rintro e w' ⟨r, rfl, hr1, hr2, rfl⟩
        have HR := Lib.hid hr2
        clear hr2
        by_cases hgo : 0 ≤ r
        · go_wp2_with fail
          go_round
          case rel => exact ⟨k + 1, r, by omega, by go_num, rfl, by omega, by omega, Lib.hid (by
            have := HR.out hgo
            have := HJ.out
            rw [HTS.out]
            omega)⟩
          case measure => simp [intOf]; omega
        · go_wp2_with fail
          go_ret
          exact RInt.mk ⟨by omega, fun h => by omega, rfl⟩
      · obtain rfl : k = n := by omega
        have htl : zss.take k = zss := List.take_of_length_le (by rw [HZ.out]; exact Nat.le_refl _)
        rw [htl] at HJ
        clear htl
        go_wp2_with fail
        go_ret
        exact RInt.mk ⟨hm1, fun _ => HJ.out, rfl⟩
  · go_enter Tryd.func9, Tryd.ntmps9
    go_wp2
    go_ret
    exact RInt.mk ⟨by omega, fun h => by omega, rfl⟩
/-- marked rows -/
def mkRI : Nat → List (List Int) → List (List Int)
  | _, [] => []
  | k, r :: rs => marksI (k : Int) r.length :: mkRI (k + r.length) rs
theorem mkRI_len (k : Nat) (l : List (List Int)) : (mkRI k l).length = l.length := by
  induction l generalizing k with
  | nil => rfl
  | cons r rs ih => simp [mkRI, ih]
theorem totI_cons (r : List Int) (l : List (List Int)) : totI (r :: l) = r.length + totI l := by simp [totI]
theorem mkRI_snoc (k : Nat) (l : List (List Int)) (r : List Int) : mkRI k (l ++ [r]) = mkRI k l ++ [marksI ((k + totI l : Nat) : Int) r.length] := by
  induction l generalizing k with
  | nil => simp [mkRI, totI]
  | cons a l ih =>
    simp only [List.cons_append, mkRI, ih, totI_cons]
    rw [Nat.add_assoc]
theorem totI_take (l : List (List Int)) (j : Nat) : totI (l.take j) ≤ totI l := by
  induction l generalizing j with
  | nil => simp
  | cons a l ih =>
    cases j with
    | zero => simp [totI]
    | succ j =>
      simp only [List.take_succ_cons, totI_cons]
      have := ih j
      omega
theorem mkRI_at (k : Nat) (l : List (List Int)) (j : Nat) (h : j < (mkRI k l).length) (h' : j < l.length) : (mkRI k l)[j] = marksI ((k + totI (l.take j) : Nat) : Int) (l[j]).length := by
  induction l generalizing k j with
  | nil => simp at h'
  | cons a l ih =>
    cases j with
    | zero => simp [mkRI, totI]
    | succ j =>
      simp only [mkRI, List.getElem_cons_succ, List.take_succ_cons, totI_cons]
      rw [ih (k + a.length) j (by simpa [mkRI] using h) (by simpa using h')]
      rw [Nat.add_assoc]
theorem intss_app (a b : List (List Int)) : intss (a ++ b) = intss a ++ intss b := by simp [intss]
end Go.Proofs.YtenhmndknfhigaaDoor
