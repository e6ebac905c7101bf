/- FnExactSortBoxes returns true, for all arguments; no condition. -/
import Derived.Test.YtbhnlooellgfaaaBxX
import Derived.Test.YtbhnlooellgfaaaBxW
import Derived.Test.YtbhnlooellgfaaaBoxM
import Derived.Test.YtbhnlooellgfaaaOut
namespace Go.Proofs.Ytbhnlooellgfaaa
open Go Go.ChangeShapes Go.WideShapes Go.ChangeAt Go.RowKit
set_option linter.unusedVariables false
set_option maxHeartbeats 4000000 in
theorem walkFnExactSortBoxes (w : World) (v : Value) (d : BoxsD) (h : IsBoxs w v d) :
    Calls Try.prog 3 #[v] w fun e w' => e = .returned (.bool true) ∧ Below w.heap.size w w' := by
  obtain ⟨A, c, zs⟩ := d
  obtain ⟨rfl, hr, hmx⟩ := h
  dsimp only at hr hmx ⊢
  generalize he : zs.length = n at *
  have HE := Lib.hid he
  have hml0 := sortB_len zs
  generalize hm : (sortB zs).length = m at *
  have HM := Lib.hid hm
  clear he hm
  go_enter Try.func3, Try.ntmps3
  go_wp2_with fail
  refine (szBoxS_any A n c w (by unfold maxLen at hmx; omega) 1048576 (by omega) (by omega)).mono ?_
  rintro e w' ⟨r, rfl, _, hr2, rfl⟩
  by_cases h0 : 0 ≤ r
  · have hn : n ≤ 1048576 := by have := hr2 h0; omega
    clear hr2 hmx
    go_wp2_with fail
    refine (toBoxS_any A zs n c HE.out _ (hr.below (Below.refl _ _)) hn).mono ?_
    rintro e w1 ⟨rfl, hx1, hb1⟩
    have s1 : w.heap.size ≤ w1.heap.size := hb1.size
    have b1 := hb1
    go_wp2_with fail
    refine (specSortBoxes _ n n zs _ HE.out hx1.rd (by omega)).mono ?_
    rintro e w2 ⟨_, rfl, SA, m0, sc, rfl, hml, hS, hb2⟩
    have s2 : w1.heap.size ≤ w2.heap.size := hb2.size
    have b2 := below_trans b1 hb2
    clear b1
    obtain rfl : m = m0 := HM.out.symm.trans hml
    have S2 := OwnI.of hS
    clear hS hml hx1
    go_wp2_with fail
    refine (toBoxS_any A zs n c HE.out _ (hr.below b2) hn).mono ?_
    rintro e w3 ⟨rfl, hx3, hb3⟩
    have s3 : w2.heap.size ≤ w3.heap.size := hb3.size
    have b3 := below_trans b2 hb3
    have S3 := S2.later hb3
    clear S2 b2
    have X3 := blk_ownI (n := n) (size := 5) hx3 (Nat.le_refl _) (by rw [boxs_len, HE.out]) (by unfold maxLen; omega)
    go_wp2_with fail
    refine (implSortBoxes _ n n zs _ HE.out X3.rd (Nat.le_refl _) (by omega)).mono ?_
    rintro e w4 ⟨_, rfl, GA, m4, Gc, rfl, hml4, hR, hb4⟩
    have s4 : w3.heap.size ≤ w4.heap.size := hb4.size
    have b4 := below_trans b3 hb4
    have S4 := S3.later hb4
    have X4 := X3.later hb4
    clear S3 X3 b3
    obtain rfl : m = m4 := HM.out.symm.trans hml4
    have G4 := OwnI.of hR
    clear hR hml4
    go_wp2_with fail
    refine (eqBoxS_any _ _ (sortB zs) m _ _ HM.out _ G4.rd S4.rd (by omega)).mono ?_
    rintro e w5 ⟨rfl, hb5⟩
    have s5 : w4.heap.size ≤ w5.heap.size := hb5.size
    have b5 := below_trans b4 hb5
    have S5 := S4.later hb5
    have X5 := X4.later hb5
    have G5 := G4.later hb5
    clear S4 X4 G4 b4
    go_wp2_with fail
    refine (toBoxS_any A zs n c HE.out _ (hr.below b5) hn).mono ?_
    rintro e w6 ⟨rfl, hx6, hb6⟩
    have s6 : w5.heap.size ≤ w6.heap.size := hb6.size
    have b6 := below_trans b5 hb6
    have S6 := S5.later hb6
    have X6 := X5.later hb6
    have G6 := G5.later hb6
    clear S5 X5 G5 b5
    have Y6 := blk_ownI (n := n) (size := 5) hx6 (Nat.le_refl _) (by rw [boxs_len, HE.out]) (by unfold maxLen; omega)
    go_wp2_with fail
    refine (eqBoxS_any _ _ zs n n n HE.out _ X6.rd Y6.rd (by omega)).mono ?_
    rintro e w7 ⟨rfl, hb7⟩
    have s7 : w6.heap.size ≤ w7.heap.size := hb7.size
    have b7 := below_trans b6 hb7
    have S7 := S6.later hb7
    have X7 := X6.later hb7
    have G7 := G6.later hb7
    have Y7 := Y6.later hb7
    clear S6 X6 G6 Y6 b6
    clear Y7
    have hz1 : ¬ (1 + ((5 * n : Nat) : Int) < 0) := by omega
    have hz2 : ¬ (1 + ((5 * m : Nat) : Int) < 0) := by omega
    have hmm : ((1 : Int) + ((5 * m : Nat) : Int) != 1 + ((5 * m : Nat) : Int)) = false := by simp
    go_wp2_with fail
    refine (markBoxS_any _ n _ _ 1 _ _ X7.row (by omega) (by omega)).mono ?_
    rintro e w8 ⟨rfl, hrow, hgr⟩
    obtain ⟨X8, ho8⟩ := X7.turned hrow hgr
    clear hrow hgr
    have s8 : w7.heap.size ≤ w8.heap.size := ho8.size
    have b8 := below_out b7 ho8 (by omega)
    have S8 := S7.out ho8 (by omega)
    have G8 := G7.out ho8 (by omega)
    clear S7 X7 G7 b7
    go_wp2_with fail
    refine (eqBoxS_any _ _ (sortB zs) m _ _ HM.out _ G8.rd S8.rd (by omega)).mono ?_
    rintro e w9 ⟨rfl, hb9⟩
    have s9 : w8.heap.size ≤ w9.heap.size := hb9.size
    have b9 := below_trans b8 hb9
    have S9 := S8.later hb9
    have X9 := X8.later hb9
    have G9 := G8.later hb9
    clear S8 X8 G8 b8
    clear X9
    go_wp2_with fail
    refine (markBoxS_any _ m _ _ 1 _ _ G9.row (by omega) (by omega)).mono ?_
    rintro e w10 ⟨rfl, hrow, hgr⟩
    obtain ⟨G10, ho10⟩ := G9.turned hrow hgr
    clear hrow hgr
    have s10 : w9.heap.size ≤ w10.heap.size := ho10.size
    have b10 := below_out b9 ho10 (by omega)
    have S10 := S9.out ho10 (by omega)
    clear S9 G9 b9
    go_wp2_with fail
    refine (heldBoxS_any _ m _ 1 _ G10.rd (by omega) (by omega)).mono ?_
    rintro e w11 ⟨rfl, hb11⟩
    have s11 : w10.heap.size ≤ w11.heap.size := hb11.size
    have b11 := below_trans b10 hb11
    have S11 := S10.later hb11
    have G11 := G10.later hb11
    clear S10 G10 b10
    go_wp2_with fail
    refine (toBoxS_any A zs n c HE.out _ (hr.below b11) hn).mono ?_
    rintro e w12 ⟨rfl, hx12, hb12⟩
    have s12 : w11.heap.size ≤ w12.heap.size := hb12.size
    have b12 := below_trans b11 hb12
    have S12 := S11.later hb12
    have G12 := G11.later hb12
    clear S11 G11 b11
    have Z12 := blk_ownI (n := n) (size := 5) hx12 (Nat.le_refl _) (by rw [boxs_len, HE.out]) (by unfold maxLen; omega)
    go_wp2_with fail
    refine (implSortBoxes _ n n zs _ HE.out Z12.rd (Nat.le_refl _) (by omega)).mono ?_
    rintro e w13 ⟨_, rfl, HA, m13, Hc, rfl, hml13, hR, hb13⟩
    have s13 : w12.heap.size ≤ w13.heap.size := hb13.size
    have b13 := below_trans b12 hb13
    have S13 := S12.later hb13
    have G13 := G12.later hb13
    have Z13 := Z12.later hb13
    clear S12 G12 Z12 b12
    obtain rfl : m = m13 := HM.out.symm.trans hml13
    have H13 := OwnI.of hR
    clear hR hml13
    go_wp2_with fail
    refine (eqBoxS_any _ _ (sortB zs) m _ _ HM.out _ H13.rd S13.rd (by omega)).mono ?_
    rintro e w14 ⟨rfl, hb14⟩
    have s14 : w13.heap.size ≤ w14.heap.size := hb14.size
    have b14 := below_trans b13 hb14
    have S14 := S13.later hb14
    have G14 := G13.later hb14
    have Z14 := Z13.later hb14
    have H14 := H13.later hb14
    clear S13 G13 Z13 H13 b13
    go_wp2_with fail
    refine (heldBoxS_any _ m _ 1 _ G14.rd (by omega) (by omega)).mono ?_
    rintro e w15 ⟨rfl, hb15⟩
    have s15 : w14.heap.size ≤ w15.heap.size := hb15.size
    have b15 := below_trans b14 hb15
    have S15 := S14.later hb15
    have G15 := G14.later hb15
    have Z15 := Z14.later hb15
    have H15 := H14.later hb15
    clear S14 G14 Z14 H14 b14
    go_wp2_with fail
    go_ret
    exact ⟨rfl, b15⟩
  · go_wp2_with fail
    go_ret
    exact ⟨rfl, Below.refl _ _⟩
end Go.Proofs.Ytbhnlooellgfaaa
