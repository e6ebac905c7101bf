/- The inboxes that are drawn for the laws. -/
import Derived.Test.YtehaacpeamhamaaDrawInb
namespace Go.Proofs.Ytehaacpeamhamaa
open Go Go.ChangeShapes Go.WideShapes Go.ChangeAt Go.RowKit
theorem Code.below {w w' : World} {A : Option Addr} {n c : Nat} {bs : List Int} (h : Code w A n c bs) (hb : Below w.heap.size w w') : Code w' A n c bs := ⟨h.len, h.cap, h.max, h.rd.below hb, h.byte⟩
def InbMade (w : World) : Ending → World → Prop :=
  RVal fun u w' => ∃ (next : Int) (A : Option Addr) (n c : Nat) (held : List MessageV), u = .agg #[.int .i64 next, .slice A n c] ∧ QueM w' w.heap.size w'.heap.size A n c held ∧ 0 ≤ next ∧ next ≤ 1000 ∧ n ≤ 7 ∧ Below w.heap.size w w'
theorem drawInboxMissing_any (A : Option Addr) (n c : Nat) (bs : List Int) (w : World) (h : Code w A n c bs) :
    Calls Try.prog 12 #[.slice A n c] w (InbMade w) := by
  have hal : Below w.heap.size w (w.alloc (.cells #[.int .i64 0, .slice none 0 0] 25)) := (Below.refl _ _).alloc (Nat.le_refl _) _
  have hR0 : Blk (w.alloc (.cells #[.int .i64 0, .slice none 0 0] 25)) w.heap.size 25 [.int .i64 0, .slice none 0 0] := Blk.new _ _ _
  have hsz : (w.alloc (.cells #[.int .i64 0, .slice none 0 0] 25)).heap.size = w.heap.size + 1 := by simp
  go_enter Try.func12, Try.ntmps12
  go_wp2_with fail
  generalize w.alloc (.cells #[.int .i64 0, .slice none 0 0] 25) = w0 at *
  have hz0 : w.heap.size + 1 ≤ w0.heap.size := by omega
  clear hsz
  refine (open_any A n c bs w0 (h.below hal)).mono ?_
  rintro e w1 ⟨v, rfl, g, rfl, hg, hr, hb⟩
  have hR1 := hR0.later hb
  have hz1 := hb.size
  have B1 := below_trans hal hb
  clear hR0 hal hb
  go_wp2_with fail
  refine (l20Inbox_any g 0 9 w1 hr (by omega) (by omega)).mono ?_
  rintro e w2 ⟨_, rfl, next, A2, n2, c2, held, q2, rfl, hq2, h0, h1, hn, _, hr2, hg2⟩
  have hR2 := hR1.only hg2 (by omega)
  have B2 := Lib.hid (below_only B1 hg2 (by omega))
  have r0 := hR2.cellAt 0 (by simp)
  have r1 := hR2.cellAt 1 (by simp)
  have rf0 := hR2.frozen 0
  have rf1 := hR2.frozen 1
  simp only [List.getElem_cons_zero, List.getElem_cons_succ] at r0 r1
  have HQ := Lib.hid hq2
  clear hR1 hR2 hg2 hq2 hr2 hr B1 h
  go_wp2_with fail
  refine bodyPost_ret (v := .agg #[.int .i64 next, .slice A2 n2 c2]) (by simp [results, Try.results12, go_sem, *]) rfl ?_
  have hO : Out w.heap.size (w.heap.size + 1) w2 ((w2.setCell ⟨w.heap.size, 0, none⟩ (.int .i64 next)).setCell ⟨w.heap.size, 1, none⟩ (.slice A2 n2 c2)) :=
    out_set (out_set (Out.refl _ _ _) _ _ _ (Nat.le_refl _) (by omega)) _ _ _ (Nat.le_refl _) (by omega)
  have hq3 := HQ.out.out hO (.inr (by omega))
  exact RVal.mk ⟨next, A2, n2, c2, held, rfl, hq3.wide (by omega) hq3.2.2.2.1 (Nat.le_refl _), h0, h1, hn, below_out B2.out hO (Nat.le_refl _)⟩
end Go.Proofs.Ytehaacpeamhamaa
