/- Lists of numbers that are drawn, in memory of the call's own; the reader goes on. -/
import Derived.Test.YtddhdglmkphjjaaDrawVisit
import Derived.Test.YtddhdglmkphjjaaOwn
namespace Go.Proofs.Ytddhdglmkphjjaa
open Go.ChangeShapes Go.WideShapes Go.ChangeAt Go.RowKit
theorem int_infoD : Info Try.prog 3 (.int .i64 0) 1 8 := Info.mk' (by kernel_rfl) rfl (by decide) (by decide)

theorem lit_cell {w : World} {g : Nat} {t : TypeId} (zs : List Int) (h : Blk w g t (ints zs)) (v : Int) (h0 : 0 ≤ v) (h1 : v < zs.length) : w.cell? ⟨g, v.toNat, none⟩ = some (.int .i64 (zs.getD v.toNat 0)) := by
  have hl : v.toNat < zs.length := by omega
  rw [h.cell]
  simp [ints, hl]

theorem own_ne {w : World} {base g : Nat} {e : TypeId} {size n : Nat} {v : Value} {xs : List Value} (h : w.ownsRow base e size v n xs) (hg : g < base) : v.ownBlock ≠ some g :=
  fun e => by have := (h.lt g e).1; omega
/-- a list of numbers that was drawn: v owns it; the reader g stands at q' -/
def Drawn (w : World) (g q : Nat) (most : Nat) : Ending → World → Prop :=
  RVal fun v w' => ∃ zs q', w'.ownsRow w.heap.size 3 1 v zs.length (ints zs) ∧ zs.length ≤ 64 ∧ q' ≤ q + most ∧ Rdr w' g q' ∧ w.grownBy w' (some g)

theorem l20Gusts_any (g q : Nat) (m : Int) (w : World) (hr : Rdr w g q) (hq : q ≤ 1000000) (hm : m ≤ 1000000) :
    Calls Try.prog 57 #[.pointer (some ⟨g, 0, none⟩), .int .i64 m] w (Drawn w g q 100) := by
  go_enter Try.func57, Try.ntmps57
  go_wp2_with fail
  have hal : Below w.heap.size w (w.alloc (.cells #[] 3)) := (Below.refl _ _).alloc (Nat.le_refl _) _
  refine (pick_any g q 20 _ (hr.kept hal) (by omega) (by omega)).mono ?_
  rintro e w1 ⟨k0, rfl, ⟨hk0, hk1, _⟩, hr1, hg1⟩
  have hown0 : (w.alloc (.cells #[] 3)).ownsRow w.heap.size 3 1 (.slice (some ⟨w.heap.size, 0, none⟩) 0 0) 0 [] := World.ownsRow_made _ _ 0 (Nat.le_refl _) (by decide) rfl
  have hown1 := own_only hown0 hg1 (by simp [Value.ownBlock]; have := hr.lt; omega)
  have hgg1 := only_trans (only_below hal g) hg1
  have hlt := hr.lt
  clear hal hown0 hg1
  go_wp2_with fail
  go_loopw [5, 6] (fun v i wr => ∃ (k : Nat) (zs : List Int) (q' : Nat), i = .int .i64 k ∧ k ≤ 20 ∧ zs.length + k ≤ 20 ∧ wr.ownsRow w.heap.size 3 1 v zs.length (ints zs) ∧ q' ≤ q + 2 * (20 - k) + 1 ∧ Rdr wr g q' ∧ w.grownBy wr (some g)) (fun _ i _ => (intOf i).toNat)
  case atStart =>
    obtain ⟨k, rfl⟩ := Int.eq_ofNat_of_zero_le hk0
    exact ⟨k, [], q + 1, rfl, by omega, by simp; omega, hown1, by omega, hr1, hgg1⟩
  case round =>
    obtain ⟨k, zs, q', rfl, hk20, hzk, hown, hq', hrr, hgr⟩ := hrel
    by_cases hlt0 : 0 < k
    · go_wp2_with fail
      refine (pick_any g q' 61 wr hrr (by omega) (by omega)).mono ?_
      rintro e w2 ⟨x, rfl, ⟨hx0, hx1, _⟩, hr2, hg2⟩
      have hown2 := own_only hown hg2 (own_ne hown hlt)
      go_wp2_with fail
      have hal : Below w2.heap.size w2 (w2.alloc (.cells (ints [5, 13, 14, 15, 20, 21, x]).toArray 3)) := (Below.refl _ _).alloc (Nat.le_refl _) _
      refine (pick_any g _ 7 _ (hr2.kept hal) (by omega) (by omega)).mono ?_
      rintro e w3 ⟨v, rfl, ⟨hv0, hv1, _⟩, hr3, hg3⟩
      have hx := lit_cell [5, 13, 14, 15, 20, 21, x] ((Blk.new w2 3 (ints [5, 13, 14, 15, 20, 21, x])).only hg3 (by have := hr2.lt; omega)) v hv0 (by simp; omega)
      generalize [5, 13, 14, 15, 20, 21, x].getD v.toNat 0 = y at hx
      have hown3 := own_only (own_later hown2 hal) hg3 (own_ne hown2 hlt)
      have hgg := only_trans hgr (only_trans (only_trans hg2 (only_below hal g)) hg3)
      have hv7 := hv1 (by omega)
      have HG := Lib.hid hgg
      have hbs : w.heap.size ≤ w3.heap.size := hgg.size
      clear hal hgg hg2 hg3 hgr hown hown2 hr2 hrr
      go_wp2_with (first
        | (at_builtin; refine append_new rfl _ _ 24 rfl 3 _ _ _ Try.underlying24 int_infoD _ w3 _ _ _ rfl hown3 [.int .i64 y] rfl rfl (by simp [Value.oneCell']) (by omega) hbs ?_; intro v' w4 hown4 hg4 hblk4))
      have hfin : Rdr w4 g (q' + 1 + 1) := hr3.away hg4 (fun b e => by have := (hown3.lt b e).1; omega)
      have hgr4 : w.grownBy w4 (some g) := only_own HG.out hg4 (fun b e => (hown3.lt b e).1)
      go_roundw
      case rel => exact ⟨k - 1, zs ++ [y], q' + 1 + 1, by go_num, by omega, by simp; omega, by simpa [ints] using hown4, by omega, hfin, hgr4⟩
      case measure => simp [intOf]; omega
    · go_wp2_with fail
      refine (odd_any g q' m wr hrr (by omega) (by omega)).mono ?_
      rintro e w2 ⟨b, rfl, q2, hq20, hq21, hr2, hg2⟩
      have hown2 := own_only hown hg2 (own_ne hown hlt)
      have hgg := only_trans hgr hg2
      cases b
      · go_wp2_with fail
        go_ret
        exact RVal.mk ⟨zs, q2, hown2, by omega, by omega, hr2, hgg⟩
      · go_wp2_with fail
        have hal : Below w2.heap.size w2 (w2.alloc (.cells (ints [-1, 61]).toArray 3)) := (Below.refl _ _).alloc (Nat.le_refl _) _
        refine (pick_any g _ 2 _ (hr2.kept hal) (by omega) (by omega)).mono ?_
        rintro e w3 ⟨v, rfl, ⟨hv0, hv1, _⟩, hr3, hg3⟩
        have hx := lit_cell [-1, 61] ((Blk.new w2 3 (ints [-1, 61])).only hg3 (by have := hr2.lt; omega)) v hv0 (by simp; omega)
        generalize [-1, 61].getD v.toNat 0 = y at hx
        have hown3 := own_only (own_later hown2 hal) hg3 (own_ne hown2 hlt)
        have hgg := only_trans hgg (only_trans (only_below hal g) hg3)
        have hv7 := hv1 (by omega)
        have HG := Lib.hid hgg
        have hbs : w.heap.size ≤ w3.heap.size := hgg.size
        clear hal hgg hg2 hg3 hgr hown hown2 hr2 hrr
        go_wp2_with (first
          | (at_builtin; refine append_new rfl _ _ 24 rfl 3 _ _ _ Try.underlying24 int_infoD _ w3 _ _ _ rfl hown3 [.int .i64 y] rfl rfl (by simp [Value.oneCell']) (by omega) hbs ?_; intro v' w4 hown4 hg4 hblk4))
        have hfin : Rdr w4 g (q2 + 1) := hr3.away hg4 (fun b e => by have := (hown3.lt b e).1; omega)
        have hgr4 : w.grownBy w4 (some g) := only_own HG.out hg4 (fun b e => (hown3.lt b e).1)
        go_ret
        exact RVal.mk ⟨zs ++ [y], q2 + 1, by simpa [ints] using hown4, by simp; omega, by omega, hfin, hgr4⟩
end Go.Proofs.Ytddhdglmkphjjaa
