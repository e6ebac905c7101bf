/- A message that is drawn. -/
import Derived.Test.YtehaacpeamhamaaRdr
import Derived.Test.YtehaacpeamhamaaQueA
import Derived.Test.YtehaacpeamhamaaInbLP
import Derived.Test.YtehaacpeamhamaaInbTK
import Derived.Deep.RegionHeld3
import Derived.Deep.DeepCutAuto
namespace Go.Proofs.Ytehaacpeamhamaa
open Go Go.ChangeShapes Go.WideShapes Go.ChangeAt Go.RowKit
theorem out_only {w w' : World} {g : Nat} (h : w.grownBy w' (some g)) : Out g (g + 1) w w' := out_of_grown h (fun _ e => by injection e with e; omega)
theorem only_out {a b c : World} {g lo hi : Nat} (h : a.grownBy b (some g)) (k : Out lo hi b c) (hlo : a.heap.size ≤ lo) : a.grownBy c (some g) :=
  ⟨k.os.trans h.os, k.tape.trans h.tape, k.output.trans h.output, Nat.le_trans h.size k.size, fun i hi hg => (k.block i (Nat.lt_of_lt_of_le hi h.size) (.inl (by omega))).trans (h.block i hi hg)⟩
theorem Rdr.keep {w w' : World} {g q : Nat} (h : Rdr w g q) (hs : w.heap.size ≤ w'.heap.size) (hk : ∀ k, k ≤ g → w'.heap[k]? = w.heap[k]?) : Rdr w' g q := by
  obtain ⟨A, n, c, bs, hblk, hn, hbn, hbs, hby, hA⟩ := h
  refine ⟨A, n, c, bs, (hk g (Nat.le_refl _)).trans hblk, hn, hbn, ?_, hby, hA⟩
  by_cases hn0 : n = 0
  · refine .inl (List.eq_nil_of_length_eq_zero ?_)
    rw [u8s_len, hbn, hn0]
  rcases hbs with h | ⟨b, off, rfl, hlt, hc⟩
  · exact .inl h
  · have hbg := hA (by omega) b off rfl
    exact .inr ⟨b, off, rfl, Nat.lt_of_lt_of_le hlt hs, fun j hj => (World.cell?_of_block (a := ⟨b, off + j, none⟩) (hk b (Nat.le_of_lt hbg))).trans (hc j hj)⟩
theorem Rdr.out {w w' : World} {g q lo hi : Nat} (h : Rdr w g q) (k : Out lo hi w w') (hlo : g < lo) : Rdr w' g q :=
  h.keep k.size fun i hi => k.block i (Nat.lt_of_le_of_lt hi h.lt) (.inl (by omega))
theorem QueM.only {w w' : World} {lo hi g n c : Nat} {A : Option Addr} {zs : List MessageV} (h : QueM w lo hi A n c zs) (k : w.grownBy w' (some g)) (hg : g < lo) : QueM w' lo hi A n c zs := h.out (out_only k) (.inr hg)
theorem l20Message_any (g q : Nat) (next : Int) (w : World) (hr : Rdr w g q) (hq : q ≤ 10000000) (h0 : 0 ≤ next) (h1 : next ≤ 100000) :
    Calls Try.prog 20 #[.pointer (some ⟨g, 0, none⟩), .int .i64 next] w (RVal fun v w' => ∃ x : Int, v = .agg #[.int .i64 x, .int .i64 (idOf x)] ∧ next - 1 ≤ x ∧ x ≤ next + 7 ∧ Rdr w' g (q + 1) ∧ w.grownBy w' (some g)) := by
  have hal : Below w.heap.size w (w.alloc (.cells #[.int .i64 0, .int .i64 0] 35)) := (Below.refl _ _).alloc (Nat.le_refl _) _
  have hlt := hr.lt
  go_enter Try.func20, Try.ntmps20
  go_wp2_with fail
  refine (pick_any g q 9 _ (hr.kept hal) (by omega) (by omega)).mono ?_
  rintro e w1 ⟨v, rfl, ⟨hv0, hv1, _⟩, hr1, hg1⟩
  have hv9 := hv1 (by omega)
  have hB := (Blk.new w 35 [.int .i64 0, .int .i64 0]).only hg1 (by omega)
  have f0 := hB.cellAt 0 (by simp)
  have f1 := hB.cellAt 1 (by simp)
  have z0 := hB.frozen 0
  have z1 := hB.frozen 1
  simp only [List.getElem_cons_zero, List.getElem_cons_succ] at f0 f1
  have HG := Lib.hid (only_trans (only_below hal g) hg1)
  clear hg1 hal hv1 hr
  go_wp2_with fail
  refine bodyPost_ret (v := .agg #[.int .i64 (next + v - 1), .int .i64 (1 + (next + v - 1) * 37 % 999)]) (by simp [results, Try.results20, go_sem, *]) rfl ?_
  have hO : Out w.heap.size (w.heap.size + 1) w1 ((w1.setCell ⟨w.heap.size, 0, none⟩ (.int .i64 (next + v - 1))).setCell ⟨w.heap.size, 1, none⟩ (.int .i64 (1 + (next + v - 1) * 37 % 999))) :=
    out_set (out_set (Out.refl _ _ _) _ _ _ (Nat.le_refl _) (by omega)) _ _ _ (Nat.le_refl _) (by omega)
  exact RVal.mk ⟨next + v - 1, by rw [show idOf (next + v - 1) = 1 + (next + v - 1) * 37 % 999 from by unfold idOf; omega], by omega, by omega, hr1.out hO hlt, only_out HG.out hO (Nat.le_refl _)⟩
end Go.Proofs.Ytehaacpeamhamaa
