/- FnApplyDiffs returns true, for every code; no condition. -/
import Derived.Test.YtbhnlooellgfaaaSameBx
import Derived.Test.YtbhnlooellgfaaaDrawAD
import Derived.Test.YtbhnlooellgfaaaBxR
import Derived.Test.YtbhnlooellgfaaaBxH
import Derived.Test.YtbhnlooellgfaaaBxL
import Derived.Test.YtbhnlooellgfaaaAlive
namespace Go.Proofs.Ytbhnlooellgfaaa
open Go Go.ChangeShapes Go.WideShapes Go.ChangeAt Go.RowKit
set_option linter.unusedVariables false
set_option linter.unusedSimpArgs false
set_option maxRecDepth 100000 in
set_option maxHeartbeats 8000000 in
theorem walkFnApplyDiffs (w : World) (A : Option Addr) (n c : Nat) (bs : List Int) (h : Code w A n c bs) :
    Calls Try.prog 8 #[.slice A n c] w fun e w' => e = .returned (.bool true) ∧ Below w.heap.size w w' := by
  by_cases hn : (n : Int) ≤ 1048576
  · go_enter Try.func8, Try.ntmps8
    go_wp2_with fail
    refine (drawApplyDiffs_any A n c bs w h).mono ?_
    rintro e w1 ⟨_, rfl, A1, p, c1, zs, B, m, d, ds, rfl, hr, hlz, hpc, hp, hr2, hld, hmd, hm, hb1⟩
    have HL := Lib.hid hlz
    have HLD := Lib.hid hld
    clear h
    go_wp2_with fail
    refine (implApplyDiffs A1 B p c1 m d zs ds _ hlz hld hr hr2 hpc (by omega) (by omega)).mono ?_
    rintro e w2 ⟨_, rfl, X, x, xc, rfl, hxl, hxo, hb2⟩
    have hr' := hr.below hb2
    have hr2' := hr2.below hb2
    have HB2 := Lib.hid (below_trans hb1 hb2)
    clear hr hr2 hb1 hb2
    go_wp2_with fail
    refine (specApplyDiffs A1 B p c1 m d zs ds _ hlz hld hr' hr2' (by omega) (by omega)).mono ?_
    rintro e w3 ⟨_, rfl, Y, y, yc, rfl, hyl, hyo, hb3⟩
    obtain rfl : x = y := hxl.symm.trans hyl
    have hxo3 := own_later hxo hb3
    have HB3 := Lib.hid (below_trans HB2.out hb3)
    have HR := Lib.hid (hr'.below hb3)
    have hx10 : x ≤ 10 := by rw [← hxl]; exact applyB_len zs ds
    obtain ⟨_, _, ecap, hxc, _⟩ := own_slice hxo3
    injection ecap with ec1 _ ec3
    subst ec1 ec3
    have HXL := Lib.hid hxl
    generalize hap : applyB zs ds = r at *
    have HAP := Lib.hid hap
    obtain ⟨xs, ok⟩ := r
    dsimp only at hxo3 hyo HXL
    have HX3 := Lib.hid (own_rd hxo3)
    have HY3 := Lib.hid (own_rd hyo)
    have hqq : (ok != ok) = false := by simp
    clear hap hxl hyl hxo hb3 hxo3 hyo hr' hr2' HB2
    go_wp2_with fail
    refine (sameBoxes_same X Y xs x xc yc HXL.out _ HX3.out HY3.out (by omega)).mono ?_
    rintro e w4 ⟨rfl, hb4⟩
    have HB4 := Lib.hid (below_trans HB3.out hb4)
    have HX4 := Lib.hid (HX3.out.below hb4)
    have HR4 := Lib.hid (HR.out.below hb4)
    clear hb4 HB3 HX3 HY3 HR
    cases ok with
    | false =>
      have hx0 : x = 0 := by rw [← HXL.out, applyB_bad HAP.out]; rfl
      subst hx0
      clear hqq
      go_wp2_with (go_at_call 24; refine (alive_any _).mono ?_; rintro e w6 ⟨rfl, rfl⟩)
      go_ret
      exact ⟨rfl, HB4.out⟩
    | true =>
      obtain ⟨L, ht, hgo, hxe, hxok, hxs, hbk⟩ := applyB_ok HAP.out
      have HSX := Lib.hid hxs
      have HBK : Hid ((diffsB zs xs).length ≤ m) := Lib.hid (by rw [← HLD.out]; exact hbk)
      have HOX := Lib.hid hxok
      clear ht hgo hxe hxok hxs hbk hqq
      go_wp2_with fail
      refine (implDiffsOf A1 X p c1 x xc zs xs _ HL.out HXL.out HR4.out HX4.out hpc hxc (by omega) (by omega)).mono ?_
      rintro e w5 ⟨_, rfl, D, q, dc, rfl, hql, hqo, hb5⟩
      have HQ : Hid (q ≤ m) := Lib.hid (by rw [← hql]; exact HBK.out)
      have HB5 := Lib.hid (below_trans HB4.out hb5)
      have HX5 := Lib.hid (HX4.out.below hb5)
      clear hql hqo hb5 HX4 HR4
      have hV := implBoxesValid X x xc xs w5 HXL.out HX5.out hxc (by omega)
      rw [HOX.out] at hV
      go_wp2_with fail
      refine hV.mono ?_
      rintro e w6 ⟨rfl, hb6⟩
      have HB6 := Lib.hid (below_trans HB5.out hb6)
      have HX6 := Lib.hid (HX5.out.below hb6)
      clear hV hb6 HX5
      have hS := implSortBoxes X x xc xs w6 HXL.out HX6.out hxc (by omega)
      rw [HSX.out] at hS
      go_wp2_with fail
      refine hS.mono ?_
      rintro e w7 ⟨_, rfl, Z, z, zc, rfl, hzl, hzo, hb7⟩
      obtain rfl : x = z := HXL.out.symm.trans hzl
      have hc := sameBoxes_same Z X xs x zc xc HXL.out w7 (own_rd hzo) (HX6.out.below hb7) (by omega)
      have HB7 := Lib.hid (below_trans HB6.out hb7)
      have hqm := HQ.out
      have hdq : decide (q ≤ m) = true := decide_eq_true hqm
      clear hS hzo hb7 hzl
      go_wp2_with (go_at_call 22; refine hc.mono ?_; rintro e w8 ⟨rfl, hb8⟩)
      go_ret
      exact ⟨rfl, below_trans HB7.out hb8⟩
  · go_enter Try.func8, Try.ntmps8
    go_wp2_with fail
    go_ret
    exact ⟨rfl, Below.refl _ _⟩
end Go.Proofs.Ytbhnlooellgfaaa
