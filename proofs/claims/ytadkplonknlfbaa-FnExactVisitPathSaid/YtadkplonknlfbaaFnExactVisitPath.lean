/- FnExactVisitPath returns true, for all arguments; no condition. -/
import Derived.Test.YtadkplonknlfbaaVPathS
import Derived.Test.YtadkplonknlfbaaIntM
import Derived.Test.YtadkplonknlfbaaOut
import Derived.Test.YtadkplonknlfbaaFrame
namespace Go.Proofs.Ytadkplonknlfbaa
open Go Go.ChangeShapes Go.WideShapes Go.ChangeAt Go.RowKit
set_option maxHeartbeats 1000000 in
theorem walkFnExactVisitPath (w : World) (a0 : Int) (_w0 : (Lit.int .i64 a0).wf = true) (a1 : Int) (_w1 : (Lit.int .i64 a1).wf = true) :
    Calls Try.prog 3 #[.int .i64 a0, .int .i64 a1] w fun e w' => e = .returned (.bool true) ∧ Below w.heap.size w w' := by
  have hlen : ((vpath a0 a1).getD []).length ≤ 4 := by
    cases h : vpath a0 a1 with
    | none => simp
    | some p => exact vpath_len h
  generalize hps : (vpath a0 a1).getD [] = ps at *
  generalize hok : (vpath a0 a1).isSome = ok at *
  generalize hm : ps.length = m at *
  have HP := Lib.hid hps
  have HL := Lib.hid hm
  have HO := Lib.hid hok
  clear hps hm hok
  have hoo : (ok != ok) = false := by simp
  go_enter Try.func3, Try.ntmps3
  go_wp2_with fail
  refine (specVisitPath a0 a1 _).mono ?_
  rintro e w1 ⟨_, _, rfl, hR, rfl, hb1⟩
  have s1 : w.heap.size ≤ w1.heap.size := hb1.size
  have b1 := hb1
  rw [HP.out, HL.out] at hR
  rw [HO.out]
  obtain ⟨SA, Sc, rfl, _, _⟩ := own_slice hR
  have S1 := OwnI.of hR
  clear hR
  go_wp2_with fail
  refine (implVisitPath a0 a1 _).mono ?_
  rintro e w2 ⟨_, _, rfl, hR, rfl, hb2⟩
  have s2 : w1.heap.size ≤ w2.heap.size := hb2.size
  have b2 := below_trans b1 hb2
  have S2 := S1.later hb2
  clear S1 b1
  rw [HP.out, HL.out] at hR
  rw [HO.out]
  obtain ⟨GA, Gc, rfl, _, _⟩ := own_slice hR
  have G2 := OwnI.of hR
  clear hR
  go_wp2_with fail
  refine (eqIntS_any _ _ ps m _ _ HL.out _ G2.rd S2.rd (by omega)).mono ?_
  rintro e w3 ⟨rfl, hb3⟩
  have s3 : w2.heap.size ≤ w3.heap.size := hb3.size
  have b3 := below_trans b2 hb3
  have S3 := S2.later hb3
  have G3 := G2.later hb3
  clear S2 G2 b2
  go_wp2_with fail
  refine (markIntS_any _ m _ _ 1 _ _ G3.row (by omega) (by omega)).mono ?_
  rintro e w4 ⟨rfl, hrow, hgr⟩
  obtain ⟨G4, ho4⟩ := G3.turned hrow hgr
  clear hrow hgr
  have s4 : w3.heap.size ≤ w4.heap.size := ho4.size
  have b4 := below_out b3 ho4 (by omega)
  have S4 := S3.out ho4 (by omega)
  clear S3 G3 b3
  go_wp2_with fail
  refine (heldIntS_any _ m _ 1 _ G4.rd (by omega) (by omega)).mono ?_
  rintro e w5 ⟨rfl, hb5⟩
  have s5 : w4.heap.size ≤ w5.heap.size := hb5.size
  have b5 := below_trans b4 hb5
  have S5 := S4.later hb5
  have G5 := G4.later hb5
  clear S4 G4 b4
  have hmm : ((1 : Int) + (m : Int) != 1 + (m : Int)) = false := by simp
  go_wp2_with fail
  refine (implVisitPath a0 a1 _).mono ?_
  rintro e w6 ⟨_, _, rfl, hR, rfl, hb6⟩
  have s6 : w5.heap.size ≤ w6.heap.size := hb6.size
  have b6 := below_trans b5 hb6
  have S6 := S5.later hb6
  have G6 := G5.later hb6
  clear S5 G5 b5
  rw [HP.out, HL.out] at hR
  rw [HO.out]
  obtain ⟨HA, Hc, rfl, _, _⟩ := own_slice hR
  have H6 := OwnI.of hR
  clear hR
  go_wp2_with fail
  refine (eqIntS_any _ _ ps m _ _ HL.out _ H6.rd S6.rd (by omega)).mono ?_
  rintro e w7 ⟨rfl, hb7⟩
  have s7 : w6.heap.size ≤ w7.heap.size := hb7.size
  have b7 := below_trans b6 hb7
  have S7 := S6.later hb7
  have G7 := G6.later hb7
  have H7 := H6.later hb7
  clear S6 G6 H6 b6
  go_wp2_with fail
  refine (heldIntS_any _ m _ 1 _ G7.rd (by omega) (by omega)).mono ?_
  rintro e w8 ⟨rfl, hb8⟩
  have s8 : w7.heap.size ≤ w8.heap.size := hb8.size
  have b8 := below_trans b7 hb8
  have S8 := S7.later hb8
  have G8 := G7.later hb8
  have H8 := H7.later hb8
  clear S7 G7 H7 b7
  go_wp2_with fail
  go_ret
  exact ⟨rfl, b8⟩
end Go.Proofs.Ytadkplonknlfbaa
