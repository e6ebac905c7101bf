/- FnExactInboxValid returns true, for all arguments; no condition. -/
import Derived.Test.YtnbppfgfmhfgdaaInbF
namespace Go.Proofs.Ytnbppfgfmhfgdaa
open Go Go.ChangeShapes Go.WideShapes Go.ChangeAt Go.RowKit
set_option maxHeartbeats 1000000 in
theorem walkFnExactInboxValid (w : World) (v : Value) (d : InbD) (h : IsInb w v d) :
    Calls Try.prog 3 #[v] w fun e w' => e = .returned (.bool true) ∧ Below w.heap.size w w' := by
  obtain ⟨next, A, n, c, held⟩ := d
  obtain ⟨rfl, hin⟩ := h
  dsimp only at hin
  have hbl : Below w.heap.size w (w.alloc (.cells #[.int .i64 next, .slice A n c] 24)) := (Below.refl _ _).alloc (Nat.le_refl _) _
  have hin0 := hin.below hbl
  have hp0 : Blk (w.alloc (.cells #[.int .i64 next, .slice A n c] 24)) w.heap.size 24 [.int .i64 next, .slice A n c] := Blk.new _ _ _
  have HLEN := Lib.hid hin.len
  have HBL := Lib.hid hbl
  clear hin hbl
  go_enter Try.func3, Try.ntmps3
  go_wp2_with fail
  refine (szInbox_any next A n c _ hin0.max).mono ?_
  rintro e w1 ⟨r, rfl, hr, hb1⟩
  have HR := Lib.hid hr
  have b1 := Lib.hid (below_trans HBL.out hb1)
  have in1 := hin0.below hb1
  have p1 := hp0.later hb1
  clear hr hin0 hp0 hb1
  by_cases h0 : 0 ≤ r
  · have HS := Lib.hid (HR.out h0)
    have hsm := HR.out h0
    have c0 := p1.cellAt 0 (by simp)
    have c1 := p1.cellAt 1 (by simp)
    simp only [List.getElem_cons_zero, List.getElem_cons_succ] at c0 c1
    go_wp2_with fail
    refine (toInbox_any next A n c held _ in1 HS.out).mono ?_
    rintro e w2 ⟨_, rfl, SA, sc, rfl, S2, hb2⟩
    have b2 := Lib.hid (below_trans b1.out hb2)
    have in2 := in1.below hb2
    have p2 := p1.later hb2
    clear c0 c1 in1 p1 hb2
    go_wp2_with fail
    refine (specInboxValid next SA n sc held _ HLEN.out S2.rd (by omega)).mono ?_
    rintro e w3 ⟨rfl, hb3⟩
    have b3 := Lib.hid (below_trans b2.out hb3)
    have in3 := in2.below hb3
    have p3 := p2.later hb3
    clear in2 p2 hb3 S2
    have c0 := p3.cellAt 0 (by simp)
    have c1 := p3.cellAt 1 (by simp)
    simp only [List.getElem_cons_zero, List.getElem_cons_succ] at c0 c1
    go_wp2_with fail
    refine (toInbox_any next A n c held _ in3 HS.out).mono ?_
    rintro e w4 ⟨_, rfl, XA, xc, rfl, X4, hb4⟩
    have b4 := Lib.hid (below_trans b3.out hb4)
    have in4 := in3.below hb4
    have p4 := p3.later hb4
    clear c0 c1 in3 p3 hb4
    go_wp2_with fail
    have hal : Below w4.heap.size w4 (w4.alloc (.cells #[.int .i64 next, .slice XA n xc] 29)) := (Below.refl _ _).alloc (Nat.le_refl _) _
    have X5 := X4.later hal
    have b5 := Lib.hid (below_trans b4.out hal)
    have in5 := in4.below hal
    have p5 := p4.later hal
    have q5 : Blk (w4.alloc (.cells #[.int .i64 next, .slice XA n xc] 29)) w4.heap.size 29 [.int .i64 next, .slice XA n xc] := Blk.new _ _ _
    clear hal X4 in4 p4
    refine (implInboxValid next XA n xc held _ HLEN.out X5.rd (by omega)).mono ?_
    rintro e w6 ⟨rfl, hb6⟩
    have X6 := X5.later hb6
    have b6 := Lib.hid (below_trans b5.out hb6)
    have in6 := in5.below hb6
    have p6 := p5.later hb6
    have q6 := q5.later hb6
    clear hb6 X5 in5 p5 q5
    generalize inbOk next held = ok at *
    have hoo : (ok != ok) = false := by simp
    have c0 := p6.cellAt 0 (by simp)
    have c1 := p6.cellAt 1 (by simp)
    have d0 := q6.cellAt 0 (by simp)
    have d1 := q6.cellAt 1 (by simp)
    simp only [List.getElem_cons_zero, List.getElem_cons_succ] at c0 c1 d0 d1
    have lp := p6.lt
    have lq := q6.lt
    have P6 := Lib.hid p6
    have Q6 := Lib.hid q6
    clear p6 q6
    generalize w4.heap.size = xb at *
    go_wp2_with fail
    go_region_held3 (fun w' => Below w6.heap.size w6 w' ∧ w'.cell? ⟨w.heap.size, 0, none⟩ = some (.int .i64 next) ∧ w'.cell? ⟨w.heap.size, 1, none⟩ = some (.slice A n c) ∧ w'.cell? ⟨xb, 0, none⟩ = some (.int .i64 next) ∧ w'.cell? ⟨xb, 1, none⟩ = some (.slice XA n xc))
      (first | exact ⟨Below.refl _ _, by assumption, by assumption, by assumption, by assumption⟩ | exact ⟨Below.drew (Below.refl _ _), by assumption, by assumption, by assumption, by assumption⟩ | exact ⟨bq7, (bq7.cell (p := ⟨w.heap.size, 0, none⟩) lp).trans c0, (bq7.cell (p := ⟨w.heap.size, 1, none⟩) lp).trans c1, (bq7.cell (p := ⟨xb, 0, none⟩) lq).trans d0, (bq7.cell (p := ⟨xb, 1, none⟩) lq).trans d1⟩ | exact ⟨bq8, (bq8.cell (p := ⟨w.heap.size, 0, none⟩) lp).trans c0, (bq8.cell (p := ⟨w.heap.size, 1, none⟩) lp).trans c1, (bq8.cell (p := ⟨xb, 0, none⟩) lq).trans d0, (bq8.cell (p := ⟨xb, 1, none⟩) lq).trans d1⟩)
      (first
        | (go_at_call 13; (with_reducible refine (toInbox_any next A n c held _ in6.drew HS.out).mono ?_); rintro e w7 ⟨_, rfl, YA, yc, rfl, Y7, bq70⟩; have bq7 : Below w6.heap.size w6 w7 := ⟨bq70.os, bq70.tape, bq70.output, bq70.size, bq70.block⟩)
        | (go_at_call 15; (with_reducible refine (eqInbox_any next XA YA n xc yc held _ HLEN.out (X6.rd.below bq7) Y7.rd (by omega)).mono ?_); rintro e w8 ⟨rfl, bq80⟩; have bq8 : Below w6.heap.size w6 w8 := below_trans bq7 bq80))
    all_goals
      go_wp2_with fail
      go_ret
      exact ⟨rfl, below_trans b6.out bq8⟩
  · go_wp2_with fail
    go_ret
    exact ⟨rfl, b1.out⟩
end Go.Proofs.Ytnbppfgfmhfgdaa
