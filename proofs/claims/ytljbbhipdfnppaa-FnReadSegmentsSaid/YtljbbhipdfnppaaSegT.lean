/- The program's SegmentText and the reference's return the plain text. -/
import Derived.Test.YtljbbhipdfnppaaSegTP
import Derived.Test.YtljbbhipdfnppaaSegS
import Derived.Test.YtljbbhipdfnppaaRel
import Derived.Test.YtljbbhipdfnppaaJoin
import Derived.Test.YtljbbhipdfnppaaStrSS
namespace Go.Proofs.Ytljbbhipdfnppaa
open Go Go.ChangeShapes Go.WideShapes Go.ChangeAt Go.RowKit
/-- the parts, released, as texts -/
def rels (ps : List ByteArray) : List ByteArray := ps.map fun p => txt (relL p.data.toList)
theorem rels_len (ps : List ByteArray) : (rels ps).length = ps.length := by simp [rels]
theorem rels_data (ps : List ByteArray) : (rels ps).map (·.data.toList) = ps.map fun p => relL p.data.toList := by simp [rels]
set_option maxHeartbeats 4000000 in
theorem implSegmentText (tag : ByteArray) (A : Option Addr) (n c : Nat) (ess : List (List ByteArray)) (w : World) (hn : ess.length = n) (hr : RdRR w A (strss ess)) (hm : n ≤ 9223372036854775807) :
    Calls Try.prog 14 #[.agg #[.string tag, .slice A n c]] w fun e w' => e = .returned (.string (txt (segText tag ess))) ∧ Below w.heap.size w w' := by
  have HN := Lib.hid hn
  clear hn
  have hbl : Below w.heap.size w (w.alloc (.cells #[.string tag, .slice A n c] 25)) := (Below.refl _ _).alloc (Nat.le_refl _) _
  have hP : Blk (w.alloc (.cells #[.string tag, .slice A n c] 25)) w.heap.size 25 [.string tag, .slice A n c] := Blk.new _ _ _
  have HBL := Lib.hid hbl
  have hr1 := hr.below hbl
  clear hbl
  by_cases hok : segOk tag ess = true
  · have HOK := Lib.hid hok
    have HT : Hid (segText tag ess = segUpto tag ess ess.length ++ [39]) := Lib.hid (by unfold segText; rw [if_pos hok])
    have hn5 : n ≤ 5 := by have := (segOk_parts hok).2.1; rw [HN.out] at this; exact this
    clear hok
    go_enter Try.func14, Try.ntmps14
    go_wp2_with fail
    refine (implSegmentValid tag A n c ess _ HN.out hr1 hm).mono ?_
    rintro e w1 ⟨rfl, hb1⟩
    rw [HOK.out]
    have P1 := hP.later hb1
    have b1 := below_trans HBL.out hb1
    clear hP hr1 hb1
    have c0 := P1.cellAt 0 (by simp)
    have c1 := P1.cellAt 1 (by simp)
    simp only [List.getElem_cons_zero, List.getElem_cons_succ] at c0 c1
    go_wp2_with fail
    go_loopw [3, 17, 5, 6, 7, 8, 26] (fun o i _ _ _ _ _ wr => ∃ k : Nat, k ≤ n ∧ i = .int .i64 k ∧ o = .string (txt (segUpto tag ess k)) ∧ Below w.heap.size w wr) (fun _ i _ _ _ _ _ _ => n - (intOf i).toNat)
    case atStart => exact ⟨0, Nat.zero_le _, rfl, by unfold segUpto; rw [txt_list], b1⟩
    case round =>
      obtain ⟨k, hk, rfl, rfl, hbl⟩ := hrel
      have hll : (segUpto tag ess k).length ≤ 3 + 68 * k := segUpto_len HOK.out k (by rw [HN.out]; exact hk)
      by_cases hlt : k < n
      · have hke : k < ess.length := by rw [HN.out]; exact hlt
        obtain ⟨b, o, rfl, hl, B, c', hcell0, hle, hmx, hrB0⟩ := strss_pos hr hke
        have hpo := (segOk_parts HOK.out).2.2 k hke
        have HSU := Lib.hid (segUpto_succ tag ess k hke)
        generalize hx : ess[k] = ps at *
        clear hx
        obtain ⟨hp1, hp4, hp8⟩ := partsOk_size hpo
        have hET := elText_len hpo
        have HP8 : Hid (∀ p ∈ ps, p.size ≤ 8) := Lib.hid (fun p hp => by obtain ⟨j, hj, rfl⟩ := List.getElem_of_mem hp; exact hp8 j hj)
        clear hp8
        have HJ := Lib.hid (join_all ps hp1)
        have HRD := Lib.hid (rels_data ps)
        have hrl := rels_len ps
        generalize hm' : ps.length = m at *
        have HM := Lib.hid hm'
        have HRL := Lib.hid hrl
        have hcell : wr.cell? ⟨b, o + k, none⟩ = some (.slice B m c') := (hbl.cell (p := ⟨b, o + k, none⟩) hl).trans hcell0
        have hrB := hrB0.below hbl
        obtain ⟨wo, rfl⟩ : ∃ wo : World, wo = wr := ⟨_, rfl⟩
        have hmk := run_make_row' (P := Try.prog) 28 9 (.string ⟨#[]⟩) 16 Try.underlying28 string_info rfl .i64 .i64 m (by omega) (by omega)
        have hil : (strs (rels ps)).length = m := by rw [strs_len]; exact hrl
        rw [made_one, ← hil, ← cpV_zero] at hmk
        rw [hil] at hmk
        have HIL := Lib.hid hil
        unfold maxLen at hmx
        have hki : (k : Int) < (n : Int) := by omega
        clear hil hm' hrl hpo c0 c1 hcell0 hrB0
        go_wp2_with fail
        go_loopw [26, 7, 8] (fun i _ _ wi => ∃ j : Nat, j ≤ m ∧ i = .int .i64 j ∧ Blk wi wo.heap.size 9 (cpV (.string ⟨#[]⟩) (strs (rels ps)) j) ∧ Below wo.heap.size wo wi) (fun i _ _ _ => m - (intOf i).toNat)
        case atStart => exact ⟨0, Nat.zero_le _, rfl, Blk.new _ _ _, (Below.refl _ _).alloc (Nat.le_refl _) _⟩
        case round =>
          obtain ⟨j, hj, rfl, hblk, hb⟩ := hrel
          by_cases hjm : j < m
          · have hjp : j < ps.length := by rw [HM.out]; exact hjm
            have hjs : j < (strs ps).length := by rw [strs_len]; exact hjp
            have hjr : j < (strs (rels ps)).length := by rw [HIL.out]; exact hjm
            obtain ⟨b2, o2, rfl, hl2, hc2⟩ := hrB.pos hjs
            have h2 : wr.cell? ⟨b2, o2 + j, none⟩ = some (strs ps)[j] := (hb.cell (p := ⟨b2, o2 + j, none⟩) hl2).trans (hc2 j hjs)
            rw [strs_at] at h2
            have h8 := HP8.out ps[j] (List.getElem_mem hjp)
            have hrj : (strs (rels ps))[j] = .string (txt (relL (ps[j]).data.toList)) := by simp [strs, rels]
            have HRJ := Lib.hid hrj
            clear hrj hc2 hmk
            generalize ps[j] = x at *
            have hbsz := hb.size
            have hbl0 := hblk.lt
            go_wp2_with fail
            refine (implReleased x _ (by omega)).mono ?_
            rintro e w3 ⟨rfl, hb3⟩
            have hblk3 := hblk.later hb3
            have hdst : w3.cell? ⟨wo.heap.size, j, none⟩ = some ((cpV (.string ⟨#[]⟩) (strs (rels ps)) j)[j]'(by rw [cpV_len _ _ _ (by omega)]; exact hjr)) := hblk3.cellAt j _
            have hfz : w3.frozen? ⟨wo.heap.size, j, none⟩ = false := hblk3.frozen j
            have hset3 := hblk3.set_ j (strs (rels ps))[j]
            rw [cpV_set _ _ _ hjr] at hset3
            rw [HRJ.out] at hset3
            generalize ((cpV (.string ⟨#[]⟩) (strs (rels ps)) j)[j]'(by rw [cpV_len _ _ _ (by omega)]; exact hjr)) = y at hdst
            have HS3 := Lib.hid hset3
            have HB3 := Lib.hid (hb.trans (hb3.mono hbsz))
            clear hset3 hblk hblk3 hb hb3 hrB
            go_wp2_with fail
            go_roundw
            case rel => exact ⟨j + 1, by omega, by go_num, HS3.out, HB3.out.setCell (Nat.le_refl _) _⟩
            case measure => simp [intOf]; omega
          · obtain rfl : j = m := by omega
            have hall : cpV (.string ⟨#[]⟩) (strs (rels ps)) j = strs (rels ps) := by
              have := cpV_all (.string ⟨#[]⟩) (strs (rels ps))
              rw [HIL.out] at this
              exact this
            rw [hall] at hblk
            have hjl : (Lib.join (ps.map fun p => relL p.data.toList) [58]).length + 1 ≤ 68 := by
              have := congrArg List.length HJ.out
              simp only [List.length_cons] at this
              omega
            have HJL : Hid ((Lib.join ((rels ps).map (·.data.toList)) [58]).length ≤ 1000000000) := Lib.hid (by rw [HRD.out]; omega)
            have HB := Lib.hid (hbl.trans (hb.mono hbl.size))
            clear hall hmk hb hrB
            go_wp2_with fail
            refine (join_any wo.heap.size j (rels ps) j HRL.out [58] _ hblk (Nat.le_refl _) (by omega) HJL.out).mono ?_
            rintro e w3 ⟨rfl, hb3⟩
            rw [HRD.out]
            have hc1 := run_cat (P := Try.prog) [43] (Lib.join (ps.map fun p => relL p.data.toList) [58]) (by simp; omega)
            have hj43 : [43] ++ Lib.join (ps.map fun p => relL p.data.toList) [58] = elText ps := HJ.out
            rw [hj43] at hc1
            have hc2 := run_cat (P := Try.prog) (segUpto tag ess k) (elText ps) (by omega)
            rw [← HSU.out] at hc2
            have HB3 := Lib.hid (HB.out.trans (hb3.mono HB.out.size))
            clear hj43 hjl hblk hb3
            generalize Lib.join (ps.map fun p => relL p.data.toList) [58] = J at *
            go_wp2_with fail
            go_roundw
            case rel => exact ⟨k + 1, by omega, by go_num, rfl, HB3.out⟩
            case measure => simp [intOf]; omega
      · obtain rfl : k = n := by omega
        have hc1 := run_cat (P := Try.prog) (segUpto tag ess k) [39] (by simp; omega)
        have HE : Hid (segText tag ess = segUpto tag ess k ++ [39]) := Lib.hid (by rw [HT.out, HN.out])
        generalize segUpto tag ess k = u at *
        clear c0 c1
        go_wp2_with fail
        go_ret
        exact ⟨by rw [HE.out]; rfl, hbl⟩
  · have hok := Bool.eq_false_iff.2 hok
    have HOK := Lib.hid hok
    have HT : Hid (segText tag ess = []) := Lib.hid (by unfold segText; rw [hok]; rfl)
    clear hok
    go_enter Try.func14, Try.ntmps14
    go_wp2_with fail
    refine (implSegmentValid tag A n c ess _ HN.out hr1 hm).mono ?_
    rintro e w1 ⟨rfl, hb1⟩
    rw [HOK.out]
    go_wp2_with fail
    go_ret
    exact ⟨by rw [HT.out]; rfl, below_trans HBL.out hb1⟩
end Go.Proofs.Ytljbbhipdfnppaa
