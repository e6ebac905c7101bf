/- The text of a yard, the reference. -/
import Derived.Test.YtcdjgbechigepaaDoorNumS
import Derived.Test.YtcdjgbechigepaaDoorYdS
namespace Go.Proofs.YtcdjgbechigepaaDoor
open Go Go.ChangeShapes Go.WideShapes Go.ChangeAt Go.RowKit
set_option linter.unusedVariables false
theorem row_first {zs : List Int} (h : 0 < zs.length) : Lib.join ((zs.take (0 + 1)).map Lib.itoa) [44] = Lib.itoa zs[0] := by
  rw [List.take_succ_eq_append_getElem h]
  simp [Lib.join_one]
theorem row_next {zs : List Int} {k : Nat} (h : k < zs.length) (hk : 0 < k) : Lib.join ((zs.take (k + 1)).map Lib.itoa) [44] = (Lib.join ((zs.take k).map Lib.itoa) [44] ++ [44]) ++ Lib.itoa zs[k] := by
  rw [List.take_succ_eq_append_getElem h, List.map_append, List.map_cons, List.map_nil, join_snoc, if_neg, List.append_assoc]
  intro e
  have := congrArg List.length e
  rw [List.length_map, List.length_take, List.length_nil] at this
  omega
theorem txt_empty (l : List UInt8) : (txt l = { data := #[] }) ↔ l = [] := by
  constructor
  · intro h
    have := congrArg (fun b : ByteArray => b.data.toList) h
    simpa [txt] using this
  · rintro rfl
    rfl
set_option maxHeartbeats 2000000 in
theorem specL34List (A : Option Addr) (n c : Nat) (zs : List Int) (w : World) (hn : zs.length = n) (hr : RdV w A (ints zs)) (h5 : n ≤ 5) (hx : ∀ x ∈ zs, 1 ≤ x ∧ x ≤ 999) :
    Calls Tryd.prog 35 #[.slice A n c] w fun e w' => e = .returned (.string (txt (rowT zs))) ∧ Below w.heap.size w w' := by
  have HN := Lib.hid hn
  have HX := Lib.hid hx
  clear hn hx
  go_enter Tryd.func35, Tryd.ntmps35
  go_wp2_with fail
  go_loopw [3, 4] (fun o i wr => ∃ (k : Nat) (out : List UInt8), k ≤ n ∧ i = .int .i64 k ∧ o = .string (txt out) ∧ Hid (out = Lib.join ((zs.take k).map Lib.itoa) [44]) ∧ out.length ≤ 4 * k ∧ Hid (0 < k → out ≠ []) ∧ Hid (Below w.heap.size w wr)) (fun _ i _ => n - (intOf i).toNat)
  case atStart => exact ⟨0, [], Nat.zero_le _, rfl, rfl, Lib.hid rfl, by simp, Lib.hid (fun h => absurd h (by omega)), Lib.hid (Below.refl _ _)⟩
  case round =>
    obtain ⟨k, out, hk, rfl, rfl, HO, hol, HE, HB⟩ := hrel
    by_cases hlt : k < n
    · have hkz : k < zs.length := by rw [HN.out]; exact hlt
      obtain ⟨b, o, rfl, hl, hc⟩ := (hr.below HB.out).pos (k := k) (by rw [ints_len]; exact hkz)
      have hcell := hc k (by rw [ints_len]; exact hkz)
      rw [ints_at] at hcell
      have hv := HX.out zs[k] (List.getElem_mem hkz)
      have HF := Lib.hid (fun h0 : k = 0 => (by subst h0; exact row_first hkz : Lib.join ((zs.take (k + 1)).map Lib.itoa) [44] = Lib.itoa zs[k]))
      have HT := Lib.hid (fun h0 : 0 < k => row_next hkz h0)
      have hlen := itoa_len hv
      rw [itoa_nat (by omega)] at HF HT hlen
      have hki : (k : Int) < (n : Int) := by omega
      obtain ⟨u, hu⟩ : ∃ u : Nat, zs[k] = (u : Int) := ⟨zs[k].toNat, by omega⟩
      rw [hu] at hcell hv HF HT hlen
      simp only [Int.toNat_natCast] at HF HT hlen
      have hN := fun W => specNumber u (by omega) W
      generalize Lib.decDigits u = ds at *
      clear hc hu
      rcases Nat.eq_zero_or_pos k with h0 | h0
      · subst h0
        rw [Nat.add_zero] at hcell
        obtain rfl : out = [] := by simpa using hol
        have hcat := fun (W : World) => run_cat (P := Tryd.prog) [] ds (by simp; omega) W
        go_wp2_with fail
        refine (hN _).mono ?_
        rintro e w2 ⟨rfl, b2⟩
        have HB2 := Lib.hid (below_trans HB.out b2)
        clear b2 hN
        go_wp2_with fail
        go_roundw
        case rel => exact ⟨0 + 1, [] ++ ds, by omega, by go_num, rfl, Lib.hid (by rw [HF.out (by first | trivial | rfl)]; rfl), by simp; omega, Lib.hid (fun _ e => by simp at e; rw [e] at hlen; simp at hlen), HB2⟩
        case measure => simp [intOf]; omega
      · have hcat := fun (W : World) => run_cat (P := Tryd.prog) out [44] (by simp; omega) W
        have hcat2 := fun (W : World) => run_cat (P := Tryd.prog) (out ++ [44]) ds (by simp; omega) W
        have h1 : 0 < (k : Int) := by omega
        have HN1 : Hid (out ++ [44] ++ ds = Lib.join ((zs.take (k + 1)).map Lib.itoa) [44]) := Lib.hid (by rw [HT.out h0, HO.out])
        have HNE : Hid (out ++ [44] ++ ds ≠ []) := Lib.hid (by simp)
        have HLN : Hid ((out ++ [44] ++ ds).length ≤ 4 * (k + 1)) := Lib.hid (by simp; omega)
        generalize hq : out ++ [44] = out1 at *
        clear hq
        generalize hq2 : out1 ++ ds = out2 at *
        clear hq2
        go_wp2_with fail
        refine (hN _).mono ?_
        rintro e w2 ⟨rfl, b2⟩
        have HB2 := Lib.hid (below_trans HB.out b2)
        clear b2 hN
        go_wp2_with fail
        go_roundw
        case rel => exact ⟨k + 1, out2, by omega, by go_num, rfl, HN1, HLN.out, Lib.hid (fun _ => HNE.out), HB2⟩
        case measure => simp [intOf]; omega
    · obtain rfl : k = n := by omega
      have HR : Hid (rowT zs = if out = [] then [45] else out) := Lib.hid (by
        have e := HO.out
        rw [List.take_of_length_le (by rw [HN.out]; exact Nat.le_refl _)] at e
        unfold rowT
        by_cases hz : zs = []
        · subst hz
          rw [if_pos rfl, if_pos (by rw [e]; rfl)]
        · have hkp : 0 < k := by rw [← HN.out]; exact List.length_pos_iff.2 hz
          rw [if_neg hz, if_neg (HE.out hkp), e])
      by_cases h0 : out = []
      · have HR2 := Lib.hid (HR.out.trans (if_pos h0))
        subst h0
        go_wp2_with fail
        go_ret
        exact ⟨by rw [HR2.out]; rfl, HB.out⟩
      · have HR2 := Lib.hid (HR.out.trans (if_neg h0))
        have g1 : out.isEmpty = false := by simp [h0]
        clear h0 HE HO
        go_wp2_with fail
        go_ret
        exact ⟨by rw [HR2.out]; rfl, HB.out⟩
theorem yard_first {rows : List (List Int)} (h : 0 < rows.length) : Lib.join ((rows.take (0 + 1)).map rowT) [32] = rowT rows[0] := by
  rw [List.take_succ_eq_append_getElem h]
  simp [Lib.join_one]
theorem yard_next {rows : List (List Int)} {k : Nat} (h : k < rows.length) (hk : 0 < k) : Lib.join ((rows.take (k + 1)).map rowT) [32] = (Lib.join ((rows.take k).map rowT) [32] ++ [32]) ++ rowT rows[k] := by
  rw [List.take_succ_eq_append_getElem h, List.map_append, List.map_cons, List.map_nil, join_snoc, if_neg, List.append_assoc]
  intro e
  have := congrArg List.length e
  rw [List.length_map, List.length_take, List.length_nil] at this
  omega
set_option maxHeartbeats 4000000 in
theorem specYardText (high : Int) (A : Option Addr) (n c : Nat) (rows : List (List Int)) (w : World) (hn : rows.length = n) (hr : RdRR w A (intss rows)) (hm : n ≤ 1048576) :
    Calls Tryd.prog 17 #[.agg #[.int .i64 high, .slice A n c]] w fun e w' => e = .returned (.string (txt (yardT high rows))) ∧ Below w.heap.size w w' := by
  have HN := Lib.hid hn
  clear hn
  have hal : Below w.heap.size w (w.alloc (.cells #[.int .i64 high, .slice A n c] 24)) := (Below.refl _ _).alloc (Nat.le_refl _) _
  have hP : Blk (w.alloc (.cells #[.int .i64 high, .slice A n c] 24)) w.heap.size 24 [.int .i64 high, .slice A n c] := Blk.new _ _ _
  have hV := fun W (hW : Below w.heap.size w W) => specYardValid high A n c rows W HN.out (hr.below hW) (by omega)
  go_enter Tryd.func17, Tryd.ntmps17
  go_wp2_with fail
  generalize w.alloc (.cells #[.int .i64 high, .slice A n c] 24) = w1 at *
  have HB1 := Lib.hid hal
  have HP1 := Lib.hid hP
  clear hal hP
  cases hok : yardOk high rows with
  | false =>
    have HT : Hid (yardT high rows = []) := Lib.hid (by simp [yardT, hok])
    rw [hok] at hV
    clear hok
    go_loopw [3, 4] (fun o i wr => i = .int .i64 (0 : Nat) ∧ o = .string (txt []) ∧ Hid (Below w1.heap.size w1 wr)) (fun _ _ _ => 0)
    case atStart => exact ⟨rfl, rfl, Lib.hid (Below.refl _ _)⟩
    case round =>
      obtain ⟨rfl, rfl, HB⟩ := hrel
      have P := HP1.out.later HB.out
      have x0 := P.cellAt 0 (by simp)
      have x1 := P.cellAt 1 (by simp)
      simp only [List.getElem_cons_zero, List.getElem_cons_succ] at x0 x1
      have xl := P.lt
      have HB2 := Lib.hid (below_trans HB1.out HB.out)
      by_cases hz : n = 0
      · subst hz
        go_wp2_with fail
        go_ret
        exact ⟨by rw [HT.out]; rfl, HB2.out⟩
      · have h1 : (0 : Int) < (n : Int) := by omega
        go_wp2_with fail
        refine (hV _ HB2.out).mono ?_
        rintro e w2 ⟨rfl, b2⟩
        have HB3 := Lib.hid (below_trans HB2.out b2)
        clear b2
        go_wp2_with fail
        go_ret
        exact ⟨by rw [HT.out]; rfl, HB3.out⟩
  | true =>
    obtain ⟨h1, h2, h3⟩ := yard_each hok
    have HR2 := Lib.hid h2
    have HR3 := Lib.hid h3
    rw [HN.out] at h1
    have HT : Hid (yardT high rows = Lib.join (rows.map rowT) [32]) := Lib.hid (by simp [yardT, hok])
    rw [hok] at hV
    clear hok h2 h3
    go_loopw [3, 4] (fun o i wr => ∃ (k : Nat) (out : List UInt8), k ≤ n ∧ i = .int .i64 k ∧ o = .string (txt out) ∧ Hid (out = Lib.join ((rows.take k).map rowT) [32]) ∧ out.length ≤ 22 * k ∧ Hid (Below w1.heap.size w1 wr)) (fun _ i _ => n - (intOf i).toNat)
    case atStart => exact ⟨0, [], Nat.zero_le _, rfl, rfl, Lib.hid rfl, by simp, Lib.hid (Below.refl _ _)⟩
    case round =>
      obtain ⟨k, out, hk, rfl, rfl, HO, hol, HB⟩ := hrel
      have P := HP1.out.later HB.out
      have x0 := P.cellAt 0 (by simp)
      have x1 := P.cellAt 1 (by simp)
      simp only [List.getElem_cons_zero, List.getElem_cons_succ] at x0 x1
      have xl := P.lt
      have HB2 := Lib.hid (below_trans HB1.out HB.out)
      by_cases hlt : k < n
      · have hki : (k : Int) < (n : Int) := by omega
        go_wp2_with fail
        refine (hV _ HB2.out).mono ?_
        rintro e w2 ⟨rfl, b2⟩
        have HB3 := Lib.hid (below_trans HB2.out b2)
        have HBW := Lib.hid (below_trans HB.out b2)
        have P2 := P.later b2
        have y0 := P2.cellAt 0 (by simp)
        have y1 := P2.cellAt 1 (by simp)
        simp only [List.getElem_cons_zero, List.getElem_cons_succ] at y0 y1
        have yl := P2.lt
        clear b2 P x0 x1 xl P2
        have hkz : k < rows.length := by rw [HN.out]; exact hlt
        have hkl : k < (intss rows).length := by rw [intss_len]; exact hkz
        obtain ⟨b1, o, rfl, hl, B, c', hcell, hle, hmx, hrB⟩ := (hr.below HB3.out).pos hkl
        rw [intss_at] at hrB
        simp only [intss_at, ints_len] at hcell
        have hz5 := HR2.out rows[k] (List.getElem_mem hkz)
        have hzx := HR3.out rows[k] (List.getElem_mem hkz)
        have hrl := rowT_len hzx hz5
        have HF := Lib.hid (fun h0 : k = 0 => (by subst h0; exact yard_first hkz : Lib.join ((rows.take (k + 1)).map rowT) [32] = rowT rows[k]))
        have HTN := Lib.hid (fun h0 : 0 < k => yard_next hkz h0)
        generalize rows[k] = zs at *
        have hL := fun W (hW : Below w2.heap.size w2 W) => specL34List B zs.length c' zs W rfl (hrB.below hW) hz5 hzx
        generalize zs.length = p at *
        generalize rowT zs = ds at *
        rcases Nat.eq_zero_or_pos k with h0 | h0
        · subst h0
          rw [Nat.add_zero] at hcell
          obtain rfl : out = [] := by simpa using hol
          have hcat := fun (W : World) => run_cat (P := Tryd.prog) [] ds (by simp; omega) W
          go_wp2_with fail
          refine (hL _ (Below.refl _ _)).mono ?_
          rintro e w3 ⟨rfl, b3⟩
          have HBW3 := Lib.hid (below_trans HBW.out b3)
          clear b3 hL
          go_wp2_with fail
          go_roundw
          case rel => exact ⟨0 + 1, [] ++ ds, by omega, by go_num, rfl, Lib.hid (by rw [HF.out (by first | trivial | rfl)]; rfl), by simp; omega, HBW3⟩
          case measure => simp [intOf]; omega
        · have hcat := fun (W : World) => run_cat (P := Tryd.prog) out [32] (by simp; omega) W
          have hcat2 := fun (W : World) => run_cat (P := Tryd.prog) (out ++ [32]) ds (by simp; omega) W
          have h1 : 0 < (k : Int) := by omega
          have HN1 : Hid (out ++ [32] ++ ds = Lib.join ((rows.take (k + 1)).map rowT) [32]) := Lib.hid (by rw [HTN.out h0, HO.out])
          have HLN : Hid ((out ++ [32] ++ ds).length ≤ 22 * (k + 1)) := Lib.hid (by simp; omega)
          generalize hq : out ++ [32] = out1 at *
          clear hq
          generalize hq2 : out1 ++ ds = out2 at *
          clear hq2
          go_wp2_with fail
          refine (hL _ (Below.refl _ _)).mono ?_
          rintro e w3 ⟨rfl, b3⟩
          have HBW3 := Lib.hid (below_trans HBW.out b3)
          clear b3 hL
          go_wp2_with fail
          go_roundw
          case rel => exact ⟨k + 1, out2, by omega, by go_num, rfl, HN1, HLN.out, HBW3⟩
          case measure => simp [intOf]; omega
      · obtain rfl : k = n := by omega
        have HE : Hid (yardT high rows = out) := Lib.hid (by
          have e := HO.out
          rw [List.take_of_length_le (by rw [HN.out]; exact Nat.le_refl _)] at e
          rw [HT.out, e])
        go_wp2_with fail
        go_ret
        exact ⟨by rw [HE.out]; rfl, HB2.out⟩
end Go.Proofs.YtcdjgbechigepaaDoor
