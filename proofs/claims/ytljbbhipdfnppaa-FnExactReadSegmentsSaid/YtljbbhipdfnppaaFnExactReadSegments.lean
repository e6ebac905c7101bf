/- FnExactReadSegments returns true, for all arguments; no condition. -/
import Derived.Test.YtljbbhipdfnppaaSgE
namespace Go.Proofs.Ytljbbhipdfnppaa
open Go Go.ChangeShapes Go.WideShapes Go.ChangeAt Go.RowKit
set_option linter.unusedVariables false
def totV (L : List SegV) : Nat := (L.map fun s => 1 + totR s.ess).sum
theorem totS_v (ps : List SegQ) : totS ps = totV (ps.map SegQ.v) := by
  simp only [totS, totV, List.map_map]
  rfl
theorem totV_le (L : List SegV) (h : ∀ s ∈ L, segOk s.tag s.ess = true) : totV L ≤ 21 * L.length := by
  induction L with
  | nil => simp [totV]
  | cons s L ih =>
    have := ih (fun x hx => h x (List.mem_cons_of_mem _ hx))
    have h1 := (segText_big (h s (List.mem_cons_self ..))).2.2.2
    simp only [totV, List.map_cons, List.sum_cons, List.length_cons] at this ⊢
    omega
set_option maxRecDepth 100000 in
set_option maxHeartbeats 4000000 in
theorem walkFnExactReadSegments (w : World) (s : ByteArray) (hmax : s.size ≤ maxLen) :
    Calls Try.prog 6 #[.string s] w fun e w' => e = .returned (.bool true) ∧ Below w.heap.size w w' := by
  unfold maxLen at hmax
  by_cases hn : s.size ≤ 1048576
  · obtain ⟨l, rfl⟩ : ∃ l, s = txt l := ⟨s.data.toList, (txt_list s).symm⟩
    have hll : (txt l).size = l.length := txt_size l
    obtain ⟨hok, hlen⟩ := rdAll_ok l
    have cS := fun w => specReadSegments l w (by omega)
    have cI := fun w => implReadSegments l w (by omega)
    have htot := totV_le (rdAll l) hok
    have hin : ∀ s ∈ rdAll l, s.ess.length ≤ 1099511627776 ∧ ∀ zs ∈ s.ess, zs.length ≤ 1099511627776 := fun s hs => by
      obtain ⟨_, b2, b3, _⟩ := segText_big (hok s hs)
      exact ⟨by omega, fun zs hz => by have := b3 zs hz; omega⟩
    unfold SegsAns at cS cI
    generalize rdFine l = ok at *
    generalize rdAll l = L at *
    have HIN := Lib.hid hin
    generalize hT : totV L = T at *
    have HT := Lib.hid hT
    generalize hm : L.length = m at *
    have HM := Lib.hid hm
    have hbb : (ok != ok) = false := by simp
    have htt : (1 + (T : Int) != 1 + (T : Int)) = false := by simp
    have ht0 : ¬ (1 + (T : Int) < 0) := by omega
    have hT9 : 1 + T ≤ 100000000000 := by omega
    have pl : ∀ ps : List SegQ, ps.map SegQ.v = L → ps.length = m ∧ totS ps = T ∧ ∀ p ∈ ps, p.ess.length ≤ 1099511627776 := fun ps e => by
      refine ⟨by rw [← HM.out, ← e, List.length_map], by rw [totS_v, e, HT.out], fun p hp => ?_⟩
      exact (HIN.out p.v (by rw [← e]; exact List.mem_map_of_mem hp)).1
    have PL := Lib.hid pl
    clear hin hT hm hok htot pl
    go_enter Try.func6, Try.ntmps6
    go_wp2_with fail
    refine (cS _).mono ?_
    rintro e w1 ⟨_, _, rfl, ps1, v1, O1, rfl, b1⟩
    obtain ⟨A1, c1, rfl, _, _⟩ := own_slice O1.1
    rw [(PL.out ps1 v1).1] at O1 ⊢
    have HR1 : Hid (RdSegs w1 A1 L) := Lib.hid (by have := O1.rd; rw [v1] at this; exact this)
    have HB1 := Lib.hid b1
    clear O1 b1
    go_wp2_with fail
    refine (cI _).mono ?_
    rintro e w2 ⟨_, _, rfl, ps2, v2, O2, rfl, b2⟩
    obtain ⟨A2, c2, rfl, _, _⟩ := own_slice O2.1
    rw [(PL.out ps2 v2).1] at O2 ⊢
    have X2 := Lib.hid b2
    have HB2 := Lib.hid (below_trans HB1.out b2)
    have HO2 := Lib.hid O2
    have hs12 := b2.size
    clear O2 b2
    go_wp2_with fail
    refine (eqSegmentS_any A2 A1 L m c2 c1 HM.out _ (by have := HO2.out.rd; rw [v2] at this; exact this) (HR1.out.below X2.out) (by omega) HIN.out).mono ?_
    rintro e w3 ⟨rfl, b3⟩
    have X3 := Lib.hid (below_trans X2.out b3)
    have O3 := Lib.hid (HO2.out.later b3)
    have HB3 := Lib.hid (below_trans HB2.out b3)
    clear b3 X2 HO2 HB2
    have hmk := markSegmentS_any A2 m c2 w1.heap.size 1 ps2 w3 (PL.out ps2 v2).1 O3.out (Nat.le_refl _) (by rw [(PL.out ps2 v2).2.1]; omega) (by omega) (PL.out ps2 v2).2.2
    rw [(PL.out ps2 v2).2.1, show ((1 : Nat) : Int) = 1 from rfl] at hmk
    have HMK := Lib.hid hmk
    clear hmk
    go_wp2_with fail
    refine HMK.out.mono ?_
    rintro e w4 ⟨rfl, O4, o4⟩
    have HB4 := Lib.hid (below_out HB3.out o4 HB1.out.size)
    have X4 := Lib.hid (below_out X3.out o4 (Nat.le_refl _))
    have hhd := fun w (hr : RdSegs w A2 ((mkSegs 1 ps2).map SegQ.v)) => heldSegmentS_any A2 m c2 1 ps2 w (PL.out ps2 v2).1 hr (Nat.le_refl _) (by rw [(PL.out ps2 v2).2.1]; omega) (by omega) (PL.out ps2 v2).2.2
    simp only [(PL.out ps2 v2).2.1, show ((1 : Nat) : Int) = 1 from rfl] at hhd
    have HHD := Lib.hid hhd
    have R4 := Lib.hid O4.rd
    clear hhd O4 o4 X3 O3 HB3
    go_wp2_with fail
    refine (HHD.out _ R4.out).mono ?_
    rintro e w5 ⟨rfl, b5⟩
    have HB5 := Lib.hid (below_trans HB4.out b5)
    have X5 := Lib.hid (below_trans X4.out b5)
    have R5 := Lib.hid (R4.out.below b5)
    clear b5 HB4 X4 R4
    go_wp2_with fail
    refine (cI _).mono ?_
    rintro e w6 ⟨_, _, rfl, ps3, v3, O6, rfl, b6⟩
    obtain ⟨A3, c3, rfl, _, _⟩ := own_slice O6.1
    rw [(PL.out ps3 v3).1] at O6 ⊢
    have HR6 : Hid (RdSegs w6 A3 L) := Lib.hid (by have := O6.rd; rw [v3] at this; exact this)
    have HB6 := Lib.hid (below_trans HB5.out b6)
    have X6 := Lib.hid (below_trans X5.out b6)
    have R6 := Lib.hid (R5.out.below b6)
    clear O6 b6 HB5 X5 R5
    go_wp2_with fail
    refine (eqSegmentS_any A3 A1 L m c3 c1 HM.out _ HR6.out (HR1.out.below X6.out) (by omega) HIN.out).mono ?_
    rintro e w7 ⟨rfl, b7⟩
    have HB7 := Lib.hid (below_trans HB6.out b7)
    have R7 := Lib.hid (R6.out.below b7)
    clear b7 HB6 X6 R6 HR6
    go_wp2_with fail
    refine (HHD.out _ R7.out).mono ?_
    rintro e w8 ⟨rfl, b8⟩
    have HB8 := Lib.hid (below_trans HB7.out b8)
    clear b8
    go_wp2_with fail
    go_ret
    exact ⟨rfl, HB8.out⟩
  · go_enter Try.func6, Try.ntmps6
    go_wp2_with fail
    go_ret
    exact ⟨rfl, Below.refl _ _⟩
end Go.Proofs.Ytljbbhipdfnppaa
