/- FnExactApplyDiffs returns true, for all arguments; no condition. -/
import Derived.Test.YtbhnlooellgfaaaDfX
import Derived.Test.YtbhnlooellgfaaaBxH
import Derived.Test.YtbhnlooellgfaaaBxL
import Derived.Test.YtbhnlooellgfaaaOut
namespace Go.Proofs.Ytbhnlooellgfaaa
open Go Go.ChangeShapes Go.WideShapes Go.ChangeAt Go.RowKit
set_option linter.unusedVariables false
set_option maxHeartbeats 8000000 in
theorem walkFnExactApplyDiffs (w : World) (v : Value) (d : BoxsD) (h : IsBoxs w v d) (v2 : Value) (d2 : DifsD) (h2 : IsDifs w v2 d2) :
    Calls Try.prog 6 #[v, v2] w fun e w' => e = .returned (.bool true) ∧ Below w.heap.size w w' := by
  obtain ⟨A, c, ts⟩ := d
  obtain ⟨rfl, hr, hmx⟩ := h
  obtain ⟨B, c2, ds⟩ := d2
  obtain ⟨rfl, hr2, hmx2⟩ := h2
  dsimp only at hr hmx hr2 hmx2 ⊢
  generalize he : ts.length = n at *
  have HT := Lib.hid he
  generalize he2 : ds.length = n2 at *
  have HS := Lib.hid he2
  have hml0 := applyB_len ts ds
  generalize hp : applyB ts ds = pp at *
  obtain ⟨ps, pb⟩ := pp
  have HP := Lib.hid hp
  dsimp only at hml0
  generalize hm : ps.length = m at *
  have HM := Lib.hid hm
  clear he he2 hm hp
  go_enter Try.func6, Try.ntmps6
  go_wp2_with fail
  refine (szBoxS_any A n c w (by unfold maxLen at hmx; omega) 1048576 (by omega) (by omega)).mono ?_
  rintro e w' ⟨r, rfl, hr1, hr3, rfl⟩
  by_cases h0 : 0 ≤ r
  · have hn : n ≤ 1048576 := by have := hr3 h0; omega
    go_wp2_with fail
    refine (szDiffS_any B n2 c2 w (by unfold maxLen at hmx2; omega) r h0 hr1).mono ?_
    rintro e w' ⟨r2, rfl, _, hr4, rfl⟩
    by_cases h02 : 0 ≤ r2
    · have hn2 : n2 ≤ 1048576 := by have := hr4 h02; omega
      clear hr3 hr4 hmx hmx2
      go_wp2_with fail
      refine (toBoxS_any A ts n c HT.out _ (hr.below (Below.refl _ _)) hn).mono ?_
      rintro e w1 ⟨rfl, hx1, hb1⟩
      have s1 : w.heap.size ≤ w1.heap.size := hb1.size
      have b1 := hb1
      have P1 := blk_ownI (n := n) (size := 5) hx1 (Nat.le_refl _) (by rw [boxs_len, HT.out]) (by unfold maxLen; omega)
      clear hx1
      go_wp2_with fail
      refine (toDiffS_any B ds n2 c2 HS.out _ (hr2.below b1) hn2).mono ?_
      rintro e w2 ⟨rfl, hx2, hb2⟩
      have s2 : w1.heap.size ≤ w2.heap.size := hb2.size
      have b2 := below_trans b1 hb2
      have P2 := P1.later hb2
      clear P1 b1
      have Q2 := blk_ownI (n := n2) (size := 6) hx2 (Nat.le_refl _) (by rw [diffs_len, HS.out]) (by unfold maxLen; omega)
      clear hx2
      go_wp2_with fail
      refine (specApplyDiffs _ _ n n n2 n2 ts ds _ HT.out HS.out P2.rd Q2.rd (by omega) (by omega)).mono ?_
      rintro e w3 ⟨_, rfl, WA, m3, Wc, rfl, hml3, hR, hb3⟩
      have s3 : w2.heap.size ≤ w3.heap.size := hb3.size
      have b3 := below_trans b2 hb3
      have P3 := P2.later hb3
      have Q3 := Q2.later hb3
      clear P2 Q2 b2
      rw [HP.out] at hR hml3 ⊢
      dsimp only at hR hml3 ⊢
      obtain rfl : m = m3 := HM.out.symm.trans hml3
      have W3 := OwnI.of hR
      clear hR hml3
      clear P3
      clear Q3
      go_wp2_with fail
      refine (toBoxS_any A ts n c HT.out _ (hr.below b3) hn).mono ?_
      rintro e w4 ⟨rfl, hx4, hb4⟩
      have s4 : w3.heap.size ≤ w4.heap.size := hb4.size
      have b4 := below_trans b3 hb4
      have W4 := W3.later hb4
      clear W3 b3
      have X4 := blk_ownI (n := n) (size := 5) hx4 (Nat.le_refl _) (by rw [boxs_len, HT.out]) (by unfold maxLen; omega)
      clear hx4
      go_wp2_with fail
      refine (toDiffS_any B ds n2 c2 HS.out _ (hr2.below b4) hn2).mono ?_
      rintro e w5 ⟨rfl, hx5, hb5⟩
      have s5 : w4.heap.size ≤ w5.heap.size := hb5.size
      have b5 := below_trans b4 hb5
      have W5 := W4.later hb5
      have X5 := X4.later hb5
      clear W4 X4 b4
      have Y5 := blk_ownI (n := n2) (size := 6) hx5 (Nat.le_refl _) (by rw [diffs_len, HS.out]) (by unfold maxLen; omega)
      clear hx5
      go_wp2_with fail
      refine (implApplyDiffs _ _ n n n2 n2 ts ds _ HT.out HS.out X5.rd Y5.rd (Nat.le_refl _) (by omega) (by omega)).mono ?_
      rintro e w6 ⟨_, rfl, GA, m6, Gc, rfl, hml6, hR, hb6⟩
      have s6 : w5.heap.size ≤ w6.heap.size := hb6.size
      have b6 := below_trans b5 hb6
      have W6 := W5.later hb6
      have X6 := X5.later hb6
      have Y6 := Y5.later hb6
      clear W5 X5 Y5 b5
      rw [HP.out] at hR hml6 ⊢
      dsimp only at hR hml6 ⊢
      obtain rfl : m = m6 := HM.out.symm.trans hml6
      have G6 := OwnI.of hR
      clear hR hml6
      have hqq : (pb != pb) = false := by simp
      go_wp2_with fail
      refine (eqBoxS_any _ _ ps m _ _ HM.out _ G6.rd W6.rd (by omega)).mono ?_
      rintro e w7 ⟨rfl, hb7⟩
      have s7 : w6.heap.size ≤ w7.heap.size := hb7.size
      have b7 := below_trans b6 hb7
      have W7 := W6.later hb7
      have X7 := X6.later hb7
      have Y7 := Y6.later hb7
      have G7 := G6.later hb7
      clear W6 X6 Y6 G6 b6
      go_wp2_with fail
      refine (toBoxS_any A ts n c HT.out _ (hr.below b7) hn).mono ?_
      rintro e w8 ⟨rfl, hx8, hb8⟩
      have s8 : w7.heap.size ≤ w8.heap.size := hb8.size
      have b8 := below_trans b7 hb8
      have W8 := W7.later hb8
      have X8 := X7.later hb8
      have Y8 := Y7.later hb8
      have G8 := G7.later hb8
      clear W7 X7 Y7 G7 b7
      have R8 := blk_ownI (n := n) (size := 5) hx8 (Nat.le_refl _) (by rw [boxs_len, HT.out]) (by unfold maxLen; omega)
      clear hx8
      go_wp2_with fail
      refine (eqBoxS_any _ _ ts n n n HT.out _ X8.rd R8.rd (by omega)).mono ?_
      rintro e w9 ⟨rfl, hb9⟩
      have s9 : w8.heap.size ≤ w9.heap.size := hb9.size
      have b9 := below_trans b8 hb9
      have W9 := W8.later hb9
      have X9 := X8.later hb9
      have Y9 := Y8.later hb9
      have G9 := G8.later hb9
      have R9 := R8.later hb9
      clear W8 X8 Y8 G8 R8 b8
      clear R9
      go_wp2_with fail
      refine (toDiffS_any B ds n2 c2 HS.out _ (hr2.below b9) hn2).mono ?_
      rintro e w10 ⟨rfl, hx10, hb10⟩
      have s10 : w9.heap.size ≤ w10.heap.size := hb10.size
      have b10 := below_trans b9 hb10
      have W10 := W9.later hb10
      have X10 := X9.later hb10
      have Y10 := Y9.later hb10
      have G10 := G9.later hb10
      clear W9 X9 Y9 G9 b9
      have R10 := blk_ownI (n := n2) (size := 6) hx10 (Nat.le_refl _) (by rw [diffs_len, HS.out]) (by unfold maxLen; omega)
      clear hx10
      go_wp2_with fail
      refine (eqDiffS_any _ _ ds n2 n2 n2 HS.out _ Y10.rd R10.rd (by omega)).mono ?_
      rintro e w11 ⟨rfl, hb11⟩
      have s11 : w10.heap.size ≤ w11.heap.size := hb11.size
      have b11 := below_trans b10 hb11
      have W11 := W10.later hb11
      have X11 := X10.later hb11
      have Y11 := Y10.later hb11
      have G11 := G10.later hb11
      have R11 := R10.later hb11
      clear W10 X10 Y10 G10 R10 b10
      clear R11
      have hz1 : ¬ (1 + ((5 * n : Nat) : Int) + ((6 * n2 : Nat) : Int) < 0) := by omega
      have hz2 : ¬ (1 + ((5 * m : Nat) : Int) < 0) := by omega
      have hmm : ((1 : Int) + ((5 * m : Nat) : Int) != 1 + ((5 * m : Nat) : Int)) = false := by simp
      go_wp2_with fail
      refine (markBoxS_any _ n _ _ 1 _ _ X11.row (by omega) (by omega)).mono ?_
      rintro e w12 ⟨rfl, hrow, hgr⟩
      obtain ⟨X12, ho12⟩ := X11.turned hrow hgr
      clear hrow hgr
      have s12 : w11.heap.size ≤ w12.heap.size := ho12.size
      have b12 := below_out b11 ho12 (by omega)
      have W12 := W11.out ho12 (by omega)
      have Y12 := Y11.out ho12 (by omega)
      have G12 := G11.out ho12 (by omega)
      clear W11 X11 Y11 G11 b11
      clear X12
      go_wp2_with fail
      refine (markDiffS_any _ n2 _ _ (1 + ((5 * n : Nat) : Int)) _ _ Y12.row (by omega) (by omega)).mono ?_
      rintro e w13 ⟨rfl, hrow, hgr⟩
      obtain ⟨Y13, ho13⟩ := Y12.turned hrow hgr
      clear hrow hgr
      have s13 : w12.heap.size ≤ w13.heap.size := ho13.size
      have b13 := below_out b12 ho13 (by omega)
      have W13 := W12.out ho13 (by omega)
      have G13 := G12.out ho13 (by omega)
      clear W12 Y12 G12 b12
      clear Y13
      go_wp2_with fail
      refine (eqBoxS_any _ _ ps m _ _ HM.out _ G13.rd W13.rd (by omega)).mono ?_
      rintro e w14 ⟨rfl, hb14⟩
      have s14 : w13.heap.size ≤ w14.heap.size := hb14.size
      have b14 := below_trans b13 hb14
      have W14 := W13.later hb14
      have G14 := G13.later hb14
      clear W13 G13 b13
      go_wp2_with fail
      refine (markBoxS_any _ m _ _ 1 _ _ G14.row (by omega) (by omega)).mono ?_
      rintro e w15 ⟨rfl, hrow, hgr⟩
      obtain ⟨G15, ho15⟩ := G14.turned hrow hgr
      clear hrow hgr
      have s15 : w14.heap.size ≤ w15.heap.size := ho15.size
      have b15 := below_out b14 ho15 (by omega)
      have W15 := W14.out ho15 (by omega)
      clear W14 G14 b14
      go_wp2_with fail
      refine (heldBoxS_any _ m _ 1 _ G15.rd (by omega) (by omega)).mono ?_
      rintro e w16 ⟨rfl, hb16⟩
      have s16 : w15.heap.size ≤ w16.heap.size := hb16.size
      have b16 := below_trans b15 hb16
      have W16 := W15.later hb16
      have G16 := G15.later hb16
      clear W15 G15 b15
      go_wp2_with fail
      refine (toBoxS_any A ts n c HT.out _ (hr.below b16) hn).mono ?_
      rintro e w17 ⟨rfl, hx17, hb17⟩
      have s17 : w16.heap.size ≤ w17.heap.size := hb17.size
      have b17 := below_trans b16 hb17
      have W17 := W16.later hb17
      have G17 := G16.later hb17
      clear W16 G16 b16
      have P17 := blk_ownI (n := n) (size := 5) hx17 (Nat.le_refl _) (by rw [boxs_len, HT.out]) (by unfold maxLen; omega)
      clear hx17
      go_wp2_with fail
      refine (toDiffS_any B ds n2 c2 HS.out _ (hr2.below b17) hn2).mono ?_
      rintro e w18 ⟨rfl, hx18, hb18⟩
      have s18 : w17.heap.size ≤ w18.heap.size := hb18.size
      have b18 := below_trans b17 hb18
      have W18 := W17.later hb18
      have G18 := G17.later hb18
      have P18 := P17.later hb18
      clear W17 G17 P17 b17
      have Q18 := blk_ownI (n := n2) (size := 6) hx18 (Nat.le_refl _) (by rw [diffs_len, HS.out]) (by unfold maxLen; omega)
      clear hx18
      go_wp2_with fail
      refine (implApplyDiffs _ _ n n n2 n2 ts ds _ HT.out HS.out P18.rd Q18.rd (Nat.le_refl _) (by omega) (by omega)).mono ?_
      rintro e w19 ⟨_, rfl, HA, m19, Hc, rfl, hml19, hR, hb19⟩
      have s19 : w18.heap.size ≤ w19.heap.size := hb19.size
      have b19 := below_trans b18 hb19
      have W19 := W18.later hb19
      have G19 := G18.later hb19
      have P19 := P18.later hb19
      have Q19 := Q18.later hb19
      clear W18 G18 P18 Q18 b18
      rw [HP.out] at hR hml19 ⊢
      dsimp only at hR hml19 ⊢
      obtain rfl : m = m19 := HM.out.symm.trans hml19
      have H19 := OwnI.of hR
      clear hR hml19
      clear P19
      clear Q19
      go_wp2_with fail
      refine (eqBoxS_any _ _ ps m _ _ HM.out _ H19.rd W19.rd (by omega)).mono ?_
      rintro e w20 ⟨rfl, hb20⟩
      have s20 : w19.heap.size ≤ w20.heap.size := hb20.size
      have b20 := below_trans b19 hb20
      have W20 := W19.later hb20
      have G20 := G19.later hb20
      have H20 := H19.later hb20
      clear W19 G19 H19 b19
      go_wp2_with fail
      refine (heldBoxS_any _ m _ 1 _ G20.rd (by omega) (by omega)).mono ?_
      rintro e w21 ⟨rfl, hb21⟩
      have s21 : w20.heap.size ≤ w21.heap.size := hb21.size
      have b21 := below_trans b20 hb21
      have W21 := W20.later hb21
      have G21 := G20.later hb21
      have H21 := H20.later hb21
      clear W20 G20 H20 b20
      go_wp2_with fail
      go_ret
      exact ⟨rfl, b21⟩
    · go_wp2_with fail
      go_ret
      exact ⟨rfl, Below.refl _ _⟩
  · go_wp2_with fail
    go_ret
    exact ⟨rfl, Below.refl _ _⟩
end Go.Proofs.Ytbhnlooellgfaaa
