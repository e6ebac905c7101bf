/- An inbox and messages that are drawn for the law on runs. -/
import Derived.Test.YtehaacpeamhamaaDrawInbs
namespace Go.Proofs.Ytehaacpeamhamaa
open Go Go.ChangeShapes Go.WideShapes Go.ChangeAt Go.RowKit
def InbRunMade (w : World) : Ending → World → Prop :=
  RVal fun u w' => ∃ (next : Int) (A : Option Addr) (n c : Nat) (held : List MessageV) (B : Option Addr) (m d : Nat) (list : List MessageV), u = .tuple #[.agg #[.int .i64 next, .slice A n c], .slice B m d] ∧ QueM w' w.heap.size w'.heap.size A n c held ∧ 0 ≤ next ∧ next ≤ 1000 ∧ n ≤ 7 ∧ list.length = m ∧ m ≤ 20 ∧ AllId list ∧ RdV w' B (messages list) ∧ Below w.heap.size w w'
theorem keepB {w0 w W : World} {a : Nat} {x0 : Value} (h0 : Below w0.heap.size w0 W) (hO : W.cell? ⟨a, 0, none⟩ = w.cell? ⟨a, 0, none⟩) (p0 : w.cell? ⟨a, 0, none⟩ = some x0) : Below w0.heap.size w0 W ∧ W.cell? ⟨a, 0, none⟩ = some x0 := ⟨h0, hO.trans p0⟩
theorem allId_snoc {l : List MessageV} (h : AllId l) (x : Int) : AllId (l ++ [⟨x, idOf x⟩]) := fun m hm => by
  rcases List.mem_append.1 hm with h1 | h1
  · exact h m h1
  · rw [List.mem_singleton.1 h1]
set_option maxHeartbeats 4000000 in
theorem drawInboxRun_any (A : Option Addr) (n c : Nat) (bs : List Int) (w : World) (h : Code w A n c bs) :
    Calls Try.prog 5 #[.slice A n c] w (InbRunMade w) := by
  have hal : Below w.heap.size w (w.alloc (.cells #[.int .i64 0, .slice none 0 0] 25)) := (Below.refl _ _).alloc (Nat.le_refl _) _
  have hR0 : Blk (w.alloc (.cells #[.int .i64 0, .slice none 0 0] 25)) w.heap.size 25 [.int .i64 0, .slice none 0 0] := Blk.new _ _ _
  go_enter Try.func5, Try.ntmps5
  go_wp2_with fail
  generalize w.alloc (.cells #[.int .i64 0, .slice none 0 0] 25) = w0 at *
  have hz0 := hR0.lt
  refine (open_any A n c bs w0 (h.below hal)).mono ?_
  rintro e w1 ⟨v, rfl, g, rfl, hg, hr, hb⟩
  have hR1 := hR0.later hb
  have B1 := below_trans hal hb
  have hz1 := hb.size
  have hgl1 := hr.lt
  clear hR0 hal hb h
  go_wp2_with fail
  refine (l20Inbox_any g 0 9 w1 hr (by omega) (by omega)).mono ?_
  rintro e w2 ⟨_, rfl, next, A2, n2, c2, held, q2, rfl, hq2, h0, h1, hn, hqq, hr2, hg2⟩
  have hal : Below w2.heap.size w2 ((w2.alloc (.cells #[.int .i64 next, .slice A2 n2 c2] 25)).alloc (.cells #[] 35)) := ((Below.refl _ _).alloc (Nat.le_refl _) _).alloc (by simp) _
  have hI4 : Blk ((w2.alloc (.cells #[.int .i64 next, .slice A2 n2 c2] 25)).alloc (.cells #[] 35)) w2.heap.size 25 [.int .i64 next, .slice A2 n2 c2] := (Blk.new _ _ _).alloc _
  have hL4 : Blk ((w2.alloc (.cells #[.int .i64 next, .slice A2 n2 c2] 25)).alloc (.cells #[] 35)) (w2.heap.size + 1) 35 [] := by simpa using Blk.new (w2.alloc (.cells #[.int .i64 next, .slice A2 n2 c2] 25)) 35 []
  have hR4 := (hR1.only hg2 (by omega)).later hal
  have hB4 := below_trans (below_only B1 hg2 (by omega)) hal
  have hr4 := hr2.kept hal
  have hq4 := hq2.later hal
  have hz2 := hg2.size
  clear hR1 B1 hg2 hq2 hr2 hr hal
  go_wp2_with fail
  generalize (w2.alloc (.cells #[.int .i64 next, .slice A2 n2 c2] 25)).alloc (.cells #[] 35) = w4 at *
  have hown4 := own_of_blk (base := w2.heap.size + 1) (size := 2) (n := 0) hL4 (Nat.le_refl _) rfl (by decide)
  generalize hi5 : w2.heap.size = r5 at *
  clear hi5
  refine (pick_any g q2 20 w4 hr4 (by omega) (by omega)).mono ?_
  rintro e w5 ⟨k0, rfl, ⟨hk0, hk1, _⟩, hr5, hg5⟩
  have hk20 := hk1 (by omega)
  have hI5 := hI4.only hg5 (by omega)
  have hR5 := hR4.only hg5 (by omega)
  have hB5 := below_only hB4 hg5 (by omega)
  have hq5 := hq4.only hg5 (by omega)
  have hown5 := own_only hown4 hg5 (own_ne hown4 (by omega))
  clear hI4 hR4 hB4 hr4 hq4 hown4 hg5 hL4 hk1
  go_wp2_with fail
  go_loopw [6, 7] (fun v i wr => ∃ (k q' : Nat) (zs : List MessageV), i = .int .i64 k ∧ k ≤ 19 ∧ zs.length + k ≤ 19 ∧ Hid (AllId zs) ∧ q' + 2 * k ≤ q2 + 50 ∧ wr.ownsRow (r5 + 1) 35 2 v zs.length (messages zs) ∧ Blk wr r5 25 [.int .i64 next, .slice A2 n2 c2] ∧ Blk wr w.heap.size 25 [.int .i64 0, .slice none 0 0] ∧ QueM wr w1.heap.size r5 A2 n2 c2 held ∧ Rdr wr g q' ∧ Below w.heap.size w wr) (fun _ i _ => (intOf i).toNat)
  case atStart =>
    obtain ⟨k, rfl⟩ := Int.eq_ofNat_of_zero_le hk0
    exact ⟨k, q2 + 1, [], rfl, by omega, by simp; omega, Lib.hid (by intro m hm; cases hm), by omega, hown5, hI5, hR5, hq5, hr5, hB5⟩
  case round =>
    clear hown5 hI5 hR5 hq5 hr5 hB5
    obtain ⟨k, q', zs, rfl, hk19, hzk, HID, hqk, hown, hI, hR, hque, hrd, hB⟩ := hrel
    have hlI := hI.lt
    have c0 := hI.cellAt 0 (by simp)
    have c1 := hI.cellAt 1 (by simp)
    simp only [List.getElem_cons_zero, List.getElem_cons_succ] at c0 c1
    have HI := Lib.hid hI
    have HR := Lib.hid hR
    have HQ := Lib.hid hque
    have HB := Lib.hid hB
    have HRD := Lib.hid hrd
    have hwb := hB.size
    obtain ⟨VA, vc, rfl, _, _⟩ := own_slice hown
    clear hI hR hque hB hrd
    by_cases hlt : 0 < k
    · have hgne : (Value.slice VA zs.length vc).ownBlock ≠ some g := own_ne hown (by omega)
      have HOWN := Lib.hid hown
      clear hown c1
      go_wp2_with fail
      go_region_held3 (fun W => Below w.heap.size w W ∧ W.cell? ⟨r5, 0, none⟩ = some (.int .i64 next))
        (first
          | exact ⟨HB.out, c0⟩
          | exact ⟨Below.drew HB.out, c0⟩
          | exact ⟨hBa, x0a⟩
          | exact ⟨hBb, x0b⟩
          | exact ⟨hBb.alloc hBb.size _, x0c⟩
          | exact ⟨hBd, x0d⟩)
        (first
          | (go_at_call 19
             (with_reducible refine (pick_any g q' 8 _ (HRD.out.kept (Below.drew (Below.refl _ _))) (by omega) (by omega)).mono ?_)
             rintro e wa ⟨x, rfl, ⟨hx0, hx1, _⟩, hra, hga⟩
             have hx8 := hx1 (by omega)
             have e1 : IntKind.i64.wrap (next + x) = next + x := IntWalk.i64_in _ (by omega)
             have hgw : wr.grownBy wa (some g) := ⟨hga.os, hga.tape, hga.output, hga.size, hga.block⟩
             have hIa := HI.out.only hgw (by omega)
             have hBa := below_only HB.out hgw (by omega)
             have x0a := hIa.cellAt 0 (by simp)
             simp only [List.getElem_cons_zero] at x0a)
          | (go_at_call 20
             (with_reducible refine (l20Message_any g (q' + 1) (next + x) _ hra (by omega) (by omega) (by omega)).mono ?_)
             rintro e wb ⟨_, rfl, y, rfl, _, _, hrb, hgb⟩
             have hgx := Lib.hid (only_trans hgw hgb)
             have hIb := hIa.only hgb (by omega)
             have hBb := below_only hBa hgb (by omega)
             have x0b := hIb.cellAt 0 (by simp)
             have x0c := (hIb.alloc (.cells #[.int .i64 y, .int .i64 (idOf y)] 35)).cellAt 0 (by simp)
             simp only [List.getElem_cons_zero] at x0b x0c
             have HOb := Lib.hid (own_only HOWN.out hgx.out hgne)
             have hbz : r5 + 1 ≤ wb.heap.size := hIb.lt)
          | (
             refine step_append_new rfl _ _ 23 rfl 35 _ _ _ Try.underlying23 message_infoD (r5 + 1) wb (.slice VA zs.length vc) zs.length _ rfl HOb.out [.int .i64 y, .int .i64 (idOf y)] (by first | rfl | (simp; with_unfolding_all rfl)) rfl (by simp [Value.oneCell']) (by omega) hbz ?_
             intro v6 wd hownd hgd hblkd
             have hBd : Below w.heap.size w wd := hBb.grown hgd hBb.size (fun g e => by have := (HOb.out.lt g e).1; omega)
             have hId : Blk wd r5 25 [.int .i64 next, .slice A2 n2 c2] := (hgd.block _ hIb.lt (fun e => by have := (HOb.out.lt _ e.symm).1; omega)).trans hIb
             have x0d := hId.cellAt 0 (by simp)
             simp only [List.getElem_cons_zero] at x0d
             have hrd' := Lib.hid (hrb.away hgd (fun b e => by have := (HOb.out.lt b e).1; omega))
             have HGD := Lib.hid hgd
             have HOD := Lib.hid hownd
             clear hgd hblkd hownd))
      have hRd : Blk wd w.heap.size 25 [.int .i64 0, .slice none 0 0] := (HGD.out.block _ (by omega) (fun e => by have := (HOb.out.lt _ e.symm).1; omega)).trans (HR.out.only hgx.out (by omega))
      have hqd := (HQ.out.only hgx.out (by omega)).out (out_of_grown (lo := r5 + 1) (hi := wb.heap.size) HGD.out (fun g e => HOb.out.lt g e)) (.inl (Nat.le_succ _))
      go_wp2_with fail
      go_roundw
      case rel => exact ⟨k - 1, q' + 1 + 1, zs ++ [⟨y, idOf y⟩], by go_num, by omega, by simp; omega, Lib.hid (allId_snoc HID.out y), by omega, by rw [List.length_append, messages_app]; exact HOD.out, hId, hRd, hqd, hrd'.out, hBd⟩
      case measure => simp [intOf]; omega
    · obtain rfl : k = 0 := by omega
      have r0 := HR.out.cellAt 0 (by simp)
      have r1 := HR.out.cellAt 1 (by simp)
      have rf0 := HR.out.frozen 0
      have rf1 := HR.out.frozen 1
      simp only [List.getElem_cons_zero, List.getElem_cons_succ] at r0 r1
      have HOWN := Lib.hid hown
      clear hown
      go_wp2_with fail
      refine bodyPost_ret (v := .tuple #[.agg #[.int .i64 next, .slice A2 n2 c2], .slice VA zs.length vc]) (by simp [results, Try.results5, go_sem, *]) rfl ?_
      have hO : Out w.heap.size (w.heap.size + 1) wr ((wr.setCell ⟨w.heap.size, 0, none⟩ (.int .i64 next)).setCell ⟨w.heap.size, 1, none⟩ (.slice A2 n2 c2)) :=
        out_set (out_set (Out.refl _ _ _) _ _ _ (Nat.le_refl _) (by omega)) _ _ _ (Nat.le_refl _) (by omega)
      have hq3 := HQ.out.out hO (.inr (by omega))
      exact RVal.mk ⟨next, A2, n2, c2, held, VA, zs.length, vc, zs, rfl, hq3.wide (by omega) hq3.2.2.2.1 (Nat.le_refl _), h0, h1, hn, rfl, by omega, HID.out, own_rd (own_out HOWN.out hO (fun g e => .inr (by have := (HOWN.out.lt g e).1; omega))), below_out HB.out hO (Nat.le_refl _)⟩
end Go.Proofs.Ytehaacpeamhamaa
