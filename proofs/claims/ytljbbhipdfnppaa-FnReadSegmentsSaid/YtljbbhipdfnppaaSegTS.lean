/- The reference's SegmentText returns the plain text. -/
import Derived.Test.YtljbbhipdfnppaaSegT
namespace Go.Proofs.Ytljbbhipdfnppaa
open Go Go.ChangeShapes Go.WideShapes Go.ChangeAt Go.RowKit
set_option maxHeartbeats 4000000 in
theorem specSegmentText (tag : ByteArray) (A : Option Addr) (n c : Nat) (ess : List (List ByteArray)) (w : World) (hn : ess.length = n) (hr : RdRR w A (strss ess)) (hm : n ≤ 9223372036854775807) :
    Calls Try.prog 15 #[.agg #[.string tag, .slice A n c]] w fun e w' => e = .returned (.string (txt (segText tag ess))) ∧ Below w.heap.size w w' := by
  have HN := Lib.hid hn
  clear hn
  have hbl : Below w.heap.size w (w.alloc (.cells #[.string tag, .slice A n c] 25)) := (Below.refl _ _).alloc (Nat.le_refl _) _
  have hP : Blk (w.alloc (.cells #[.string tag, .slice A n c] 25)) w.heap.size 25 [.string tag, .slice A n c] := Blk.new _ _ _
  have HBL := Lib.hid hbl
  have hr1 := hr.below hbl
  clear hbl
  by_cases hok : segOk tag ess = true
  · have HOK := Lib.hid hok
    have HT : Hid (segText tag ess = segUpto tag ess ess.length ++ [39]) := Lib.hid (by unfold segText; rw [if_pos hok])
    have hn5 : n ≤ 5 := by have := (segOk_parts hok).2.1; rw [HN.out] at this; exact this
    clear hok
    go_enter Try.func15, Try.ntmps15
    go_wp2_with fail
    refine (specSegmentValid tag A n c ess _ HN.out hr1 hm).mono ?_
    rintro e w1 ⟨rfl, hb1⟩
    rw [HOK.out]
    have P1 := hP.later hb1
    have B1 := Lib.hid (below_trans HBL.out hb1)
    have hr2 := hr1.below hb1
    have c0 := P1.cellAt 0 (by simp)
    have c1 := P1.cellAt 1 (by simp)
    simp only [List.getElem_cons_zero, List.getElem_cons_succ] at c0 c1
    clear hP hr1 hb1 P1 hr
    go_wp2_with fail
    go_loop [3, 4, 5] (fun o i _ => ∃ k : Nat, k ≤ n ∧ i = .int .i64 k ∧ o = .string (txt (segUpto tag ess k))) (fun _ i _ => n - (intOf i).toNat)
    case atStart => exact ⟨0, Nat.zero_le _, rfl, by unfold segUpto; rw [txt_list]⟩
    case round =>
      obtain ⟨k, hk, rfl, rfl⟩ := hrel
      have hll : (segUpto tag ess k).length ≤ 3 + 68 * k := segUpto_len HOK.out k (by rw [HN.out]; exact hk)
      by_cases hlt : k < n
      · have hke : k < ess.length := by rw [HN.out]; exact hlt
        obtain ⟨b, o, rfl, hl, B, c', hcell, hle, hmx, hrB⟩ := strss_pos hr2 hke
        have hpo := (segOk_parts HOK.out).2.2 k hke
        have HSU := Lib.hid (segUpto_succ tag ess k hke)
        generalize hx : ess[k] = ps at *
        clear hx
        obtain ⟨hp1, hp4, hp8⟩ := partsOk_size hpo
        have HP8 : Hid (∀ p ∈ ps, p.size ≤ 8) := Lib.hid (fun p hp => by obtain ⟨j, hj, rfl⟩ := List.getElem_of_mem hp; exact hp8 j hj)
        have HEL : Hid (∀ j, j ≤ ps.length → (elUpto ps j).length ≤ 17 * j) := Lib.hid (elUpto_len ps hp8)
        clear hp8
        generalize hm' : ps.length = m at *
        have HM := Lib.hid hm'
        unfold maxLen at hmx
        clear hm' hpo hr2
        generalize segUpto tag ess k = u at *
        go_wp2_with fail
        go_loop [3, 5] (fun o i => ∃ j : Nat, j ≤ m ∧ i = .int .i64 j ∧ o = .string (txt (u ++ elUpto ps j))) (fun _ i => m - (intOf i).toNat)
        case atStart => exact ⟨0, Nat.zero_le _, rfl, by simp [elUpto]⟩
        case round =>
          obtain ⟨j, hj, rfl, rfl⟩ := hrel
          have hel := HEL.out j hj
          by_cases hjm : j < m
          · have hjp : j < ps.length := by rw [HM.out]; exact hjm
            have hjs : j < (strs ps).length := by rw [strs_len]; exact hjp
            obtain ⟨b2, o2, rfl, hl2, hc2⟩ := hrB.pos hjs
            have h2 := hc2 j hjs
            rw [strs_at] at h2
            have h8 := HP8.out ps[j] (List.getElem_mem hjp)
            have HEU := Lib.hid (elUpto_succ ps j hjp)
            have hrl := relL_len (ps[j]).data.toList
            have hmn := mkN_le (ps[j]).data.toList
            rw [list_len] at hrl hmn
            generalize ps[j] = x at *
            clear hc2
            have hel2 : (u ++ elUpto ps j).length ≤ 1000 := by rw [List.length_append]; omega
            generalize hv : u ++ elUpto ps j = v at *
            have HV := Lib.hid hv
            clear hv
            by_cases hj0 : j = 0
            · subst hj0
              have h20 : w1.cell? ⟨b2, o2, none⟩ = some (.string x) := by simpa using h2
              have hcat1 := run_cat (P := Try.prog) v [43] (by simp; omega)
              have hcat2 := run_cat (P := Try.prog) (v ++ [43]) (relL x.data.toList) (by simp; omega)
              have HE : Hid (v ++ [43] ++ relL x.data.toList = u ++ elUpto ps 1) := Lib.hid (by rw [HEU.out, ← HV.out]; simp [elPart])
              rw [HE.out] at hcat2
              generalize v ++ [43] = v1 at *
              go_wp2_with fail
              refine (specReleased x _ (by omega)).mono ?_
              rintro e w' ⟨rfl, rfl⟩
              go_wp2_with fail
              go_round
              case rel => exact ⟨1, by omega, rfl, rfl⟩
              case measure => simp [intOf]; omega
            · have hcat1 := run_cat (P := Try.prog) v [58] (by simp; omega)
              have hcat2 := run_cat (P := Try.prog) (v ++ [58]) (relL x.data.toList) (by simp; omega)
              have HE : Hid (v ++ [58] ++ relL x.data.toList = u ++ elUpto ps (j + 1)) := Lib.hid (by rw [HEU.out, ← HV.out]; simp [elPart, hj0])
              rw [HE.out] at hcat2
              generalize v ++ [58] = v1 at *
              have hjb : ((j : Int) == 0) = false := by simp; omega
              go_wp2_with fail
              refine (specReleased x _ (by omega)).mono ?_
              rintro e w' ⟨rfl, rfl⟩
              go_wp2_with fail
              go_round
              case rel => exact ⟨j + 1, by omega, by go_num, rfl⟩
              case measure => simp [intOf]; omega
          · obtain rfl : j = m := by omega
            have HE : Hid (u ++ elUpto ps j = segUpto tag ess (k + 1)) := Lib.hid (by rw [HSU.out]; unfold elText; rw [HM.out])
            generalize u ++ elUpto ps j = v at *
            go_wp2_with fail
            go_round
            case rel => exact ⟨k + 1, by omega, by go_num, by rw [HE.out]⟩
            case measure => simp [intOf]; omega
      · obtain rfl : k = n := by omega
        have hc1 := run_cat (P := Try.prog) (segUpto tag ess k) [39] (by simp; omega)
        have HE : Hid (segText tag ess = segUpto tag ess k ++ [39]) := Lib.hid (by rw [HT.out, HN.out])
        generalize segUpto tag ess k = u at *
        go_wp2_with fail
        go_ret
        exact ⟨by rw [HE.out]; rfl, B1.out⟩
  · have hok := Bool.eq_false_iff.2 hok
    have HOK := Lib.hid hok
    have HT : Hid (segText tag ess = []) := Lib.hid (by unfold segText; rw [hok]; rfl)
    clear hok
    go_enter Try.func15, Try.ntmps15
    go_wp2_with fail
    refine (specSegmentValid tag A n c ess _ HN.out hr1 hm).mono ?_
    rintro e w1 ⟨rfl, hb1⟩
    rw [HOK.out]
    go_wp2_with fail
    go_ret
    exact ⟨by rw [HT.out]; rfl, below_trans HBL.out hb1⟩
end Go.Proofs.Ytljbbhipdfnppaa
