/- SortBoxes of the program: the boxes by ascending ids. -/
import Derived.Test.YtbhnlooellgfaaaBxU
import Derived.Shelf.SlSortCmp.NoneTotal
namespace Go.Proofs.Ytbhnlooellgfaaa
open Go Go.ChangeShapes Go.WideShapes Go.ChangeAt Go.RowKit
set_option linter.unusedVariables false
theorem sortFuncBox_none (p : Option Addr) (cap : Nat) (fv : Value) (w : World) : Calls Try.prog 52 #[.slice p 0 cap, fv] w fun e w' => e = .returned (.tuple #[]) ∧ w = w' :=
  (AnyF.slices_SortFunc_none Try.sortBoxL p cap fv w).mono fun _ _ ⟨h1, h2⟩ => ⟨h1, h2.symm⟩
/-- the library's sort on boxes of the call's own, nil or not -/
theorem sortFuncBox_any (A : Option Addr) (n cap base : Nat) (zs : List BoxV) (w : World) (hn : zs.length = n) (h : w.ownsRow base 40 5 (.slice A n cap) n (boxs zs)) (hok : boxesOk zs = true) (hm : n ≤ 1048576) :
    Calls Try.prog 52 #[.slice A n cap, .func (.func 53) #[] #[]] w fun e w' => e = .returned (.tuple #[]) ∧ w'.ownsRow base 40 5 (.slice A n cap) n (boxs (collB zs)) ∧ w.grownBy w' (Value.slice A n cap).ownBlock := by
  rcases own_form h with ⟨hv, hn0, _⟩ | ⟨g, c', hv, hbg, hgl, hnc⟩
  · injection hv with e1 _ e3
    subst e1 e3
    subst hn0
    have hz : zs = [] := List.eq_nil_of_length_eq_zero hn
    subst hz
    have hc : collB [] = [] := (collB_uniq hok (List.Perm.refl _) List.Pairwise.nil).symm
    refine (sortFuncBox_none none 0 _ w).mono ?_
    rintro e w' ⟨rfl, rfl⟩
    exact ⟨rfl, by rw [hc]; exact h, World.grownBy.refl _ _⟩
  · injection hv with e1 _ e3
    subst e1 e3
    refine (sortFuncBox g n cap base zs w hn h (fun x hx => bOk_id ((boxesOk_iff.1 hok).1 x hx)) hm).mono ?_
    rintro e w' ⟨rfl, ys, hp, ha, ho, hg⟩
    rw [collB_uniq hok hp ha] at ho
    exact ⟨rfl, ho, hg⟩
set_option maxHeartbeats 1000000 in
theorem sortedBoxes_any (A : Option Addr) (n c : Nat) (zs : List BoxV) (w : World) (hn : zs.length = n) (hr : RdV w A (boxs zs)) (hok : boxesOk zs = true) :
    Calls Try.prog 36 #[.slice A n c] w (BoxOut w w.heap.size (collB zs)) := by
  have hm : n ≤ 10 := by rw [← hn]; exact (boxesOk_iff.1 hok).2.2
  have HCL : Hid ((collB zs).length = n) := Lib.hid ((collB_len hok).trans hn)
  have hC := cloneBox_any A n c zs w hn hr (by omega)
  have hS := fun (A : Option Addr) (cap : Nat) (w' : World) h => sortFuncBox_any A n cap w.heap.size zs w' hn h hok (by omega)
  have HN := Lib.hid hn
  clear hn hok hr
  go_enter Try.func36, Try.ntmps36
  go_wp2_with fail
  refine hC.mono ?_
  rintro e w2 ⟨_, rfl, A2, n2, c2, rfl, hl2, ho2, hb2⟩
  obtain rfl : n2 = n := hl2.symm.trans HN.out
  have hS2 := hS A2 c2 w2 ho2
  clear hS hC
  go_wp2_with (go_at_call 52; refine hS2.mono ?_; rintro e w3 ⟨rfl, ho3, hg3⟩)
  go_ret
  exact BoxOut.mk HCL.out ho3 (below_append hb2 hg3 ho2 rfl)
theorem implSortBoxes (A : Option Addr) (n c : Nat) (zs : List BoxV) (w : World) (hn : zs.length = n) (hr : RdV w A (boxs zs)) (hnc : n ≤ c) (hm : n ≤ 1099511627776) :
    Calls Try.prog 12 #[.slice A n c] w (BoxOut w w.heap.size (sortB zs)) := by
  have hV := implBoxesValid A n c zs w hn hr hnc hm
  cases hok : boxesOk zs with
  | false =>
    have HS : Hid (sortB zs = []) := Lib.hid (by unfold sortB; rw [hok]; rfl)
    rw [hok] at hV
    clear hok
    go_enter Try.func12, Try.ntmps12
    go_wp2_with (go_at_call 33; refine hV.mono ?_; rintro e w2 ⟨rfl, hb2⟩)
    go_ret
    exact BoxOut.mk (by rw [HS.out]; rfl) (by rw [HS.out]; exact World.ownsRow_nil _ _ _ _) hb2
  | true =>
    have HS : Hid (sortB zs = collB zs) := Lib.hid (by unfold sortB; rw [hok]; rfl)
    rw [hok] at hV
    have hS := fun (W : World) (hW : Below w.heap.size w W) => sortedBoxes_any A n c zs W hn (hr.below hW) hok
    clear hok hn hr
    go_enter Try.func12, Try.ntmps12
    go_wp2_with fail
    refine hV.mono ?_
    rintro e w2 ⟨rfl, hb2⟩
    have hS2 := hS w2 hb2
    clear hS hV
    go_wp2_with (go_at_call 36; refine hS2.mono ?_; rintro e w3 ⟨_, rfl, A2, n2, c2, rfl, hl2, ho2, hb3⟩)
    go_ret
    exact BoxOut.mk (by rw [HS.out]; exact hl2) (by rw [HS.out]; exact own_base ho2 hb2.size) (below_trans hb2 hb3)
end Go.Proofs.Ytbhnlooellgfaaa
