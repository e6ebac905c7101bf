/- FnExactInboxMissing returns true, for all arguments; no condition. -/
import Derived.Test.YtnbppfgfmhfgdaaInbF
import Derived.Test.YtnbppfgfmhfgdaaInbMS
import Derived.Test.YtnbppfgfmhfgdaaMsgM
namespace Go.Proofs.Ytnbppfgfmhfgdaa
open Go Go.ChangeShapes Go.WideShapes Go.ChangeAt Go.RowKit
theorem Blk.outside {w w' : World} {g lo hi : Nat} {t : TypeId} {cs : List Value} (h : Blk w g t cs) (ho : Out lo hi w w') (hd : g < lo ∨ hi ≤ g) : Blk w' g t cs := (ho.block g h.lt hd).trans h
set_option maxHeartbeats 2000000 in
theorem walkFnExactInboxMissing (w : World) (v : Value) (d : InbD) (h : IsInb w v d) :
    Calls Try.prog 4 #[v] w fun e w' => e = .returned (.bool true) ∧ Below w.heap.size w w' := by
  obtain ⟨next, A, n, c, held⟩ := d
  obtain ⟨rfl, hin⟩ := h
  dsimp only at hin
  have hbl : Below w.heap.size w (w.alloc (.cells #[.int .i64 next, .slice A n c] 24)) := (Below.refl _ _).alloc (Nat.le_refl _) _
  have hin0 := hin.below hbl
  have hp0 : Blk (w.alloc (.cells #[.int .i64 next, .slice A n c] 24)) w.heap.size 24 [.int .i64 next, .slice A n c] := Blk.new _ _ _
  have HLEN := Lib.hid hin.len
  have HBL := Lib.hid hbl
  have hml := inbMiss_len next held
  generalize hms : inbMiss next held = ms at *
  have HMS := Lib.hid hms
  generalize hmm : ms.length = m at *
  have HM := Lib.hid hmm
  clear hbl hms hmm
  go_enter Try.func4, Try.ntmps4
  go_wp2_with fail
  refine (szInbox_any next A n c _ hin0.max).mono ?_
  rintro e w1 ⟨r, rfl, hr, hb1⟩
  have HR := Lib.hid hr
  have b1 := Lib.hid (below_trans HBL.out hb1)
  have p1 := hp0.later hb1
  clear hr hin0 hp0 hb1
  by_cases h0 : 0 ≤ r
  · have HS := Lib.hid (HR.out h0)
    have hsm := HR.out h0
    have c0 := p1.cellAt 0 (by simp)
    have c1 := p1.cellAt 1 (by simp)
    simp only [List.getElem_cons_zero, List.getElem_cons_succ] at c0 c1
    go_wp2_with fail
    refine (toInbox_any next A n c held _ (hin.below b1.out) HS.out).mono ?_
    rintro e w2 ⟨_, rfl, SA, sc, rfl, S2, hb2⟩
    have b2 := Lib.hid (below_trans b1.out hb2)
    have p2 := p1.later hb2
    clear c0 c1 p1 hb2
    go_wp2_with fail
    refine (specInboxMissing next SA n sc held _ HLEN.out S2.rd (by omega)).mono ?_
    rintro e w3 ⟨_, rfl, hR, hb3⟩
    have b3 := Lib.hid (below_trans b2.out hb3)
    have p3 := p2.later hb3
    have s3 : w.heap.size < w3.heap.size := p3.lt
    have s23 : w2.heap.size ≤ w3.heap.size := hb3.size
    have s2 : w.heap.size < w2.heap.size := p2.lt
    rw [HMS.out, HM.out] at hR
    obtain ⟨WA, Wc, rfl, _, _⟩ := own_slice hR
    have W3 := OwnI.of hR
    clear p2 hb3 S2 hR
    have c0 := p3.cellAt 0 (by simp)
    have c1 := p3.cellAt 1 (by simp)
    simp only [List.getElem_cons_zero, List.getElem_cons_succ] at c0 c1
    go_wp2_with fail
    refine (toInbox_any next A n c held _ (hin.below b3.out) HS.out).mono ?_
    rintro e w4 ⟨_, rfl, XA, xc, rfl, X4, hb4⟩
    have b4 := Lib.hid (below_trans b3.out hb4)
    have s34 : w3.heap.size ≤ w4.heap.size := hb4.size
    have p4 := p3.later hb4
    have W4 := W3.later hb4
    clear c0 c1 p3 hb4 W3
    go_wp2_with fail
    have hal : Below w4.heap.size w4 (w4.alloc (.cells #[.int .i64 next, .slice XA n xc] 29)) := (Below.refl _ _).alloc (Nat.le_refl _) _
    have X5 := X4.later hal
    have W5 := W4.later hal
    have b5 := Lib.hid (below_trans b4.out hal)
    have p5 := p4.later hal
    have q5 : Blk (w4.alloc (.cells #[.int .i64 next, .slice XA n xc] 29)) w4.heap.size 29 [.int .i64 next, .slice XA n xc] := Blk.new _ _ _
    clear hal X4 p4 W4
    refine (implInboxMissing next XA n xc held _ HLEN.out X5.rd (by omega)).mono ?_
    rintro e w6 ⟨_, rfl, hR, hb6⟩
    have X6 := X5.later hb6
    have W6 := W5.later hb6
    have b6 := Lib.hid (below_trans b5.out hb6)
    have p6 := p5.later hb6
    have q6 := q5.later hb6
    rw [HMS.out, HM.out] at hR
    have hsz : (w4.alloc (.cells #[.int .i64 next, .slice XA n xc] 29)).heap.size = w4.heap.size + 1 := by simp
    rw [hsz] at hR
    obtain ⟨GA, Gc, rfl, _, _⟩ := own_slice hR
    have G6 := OwnI.of hR
    clear hb6 X5 p5 q5 hR W5 hsz
    go_wp2_with fail
    refine (eqIntS_any GA WA ms m Gc Wc HM.out _ G6.rd W6.rd (by omega)).mono ?_
    rintro e w7 ⟨rfl, hb7⟩
    have X7 := X6.later hb7
    have W7 := W6.later hb7
    have G7 := G6.later hb7
    have b7 := Lib.hid (below_trans b6.out hb7)
    have p7 := p6.later hb7
    have q7 := q6.later hb7
    clear hb7 X6 W6 G6 p6 q6
    have c0 := p7.cellAt 0 (by simp)
    have c1 := p7.cellAt 1 (by simp)
    have d0 := q7.cellAt 0 (by simp)
    have d1 := q7.cellAt 1 (by simp)
    simp only [List.getElem_cons_zero, List.getElem_cons_succ] at c0 c1 d0 d1
    have lp := p7.lt
    have lq := q7.lt
    have P7 := Lib.hid p7
    have Q7 := Lib.hid q7
    clear p7 q7
    have s4 : w.heap.size < w4.heap.size := by omega
    generalize hxb : w4.heap.size = xb at *
    go_wp2_with fail
    go_region_held3 (fun w' => Below w7.heap.size w7 w' ∧ w'.cell? ⟨w.heap.size, 0, none⟩ = some (.int .i64 next) ∧ w'.cell? ⟨w.heap.size, 1, none⟩ = some (.slice A n c) ∧ w'.cell? ⟨xb, 0, none⟩ = some (.int .i64 next) ∧ w'.cell? ⟨xb, 1, none⟩ = some (.slice XA n xc))
      (first | exact ⟨Below.refl _ _, by assumption, by assumption, by assumption, by assumption⟩ | exact ⟨Below.drew (Below.refl _ _), by assumption, by assumption, by assumption, by assumption⟩ | exact ⟨bq7, (bq7.cell (p := ⟨w.heap.size, 0, none⟩) lp).trans c0, (bq7.cell (p := ⟨w.heap.size, 1, none⟩) lp).trans c1, (bq7.cell (p := ⟨xb, 0, none⟩) lq).trans d0, (bq7.cell (p := ⟨xb, 1, none⟩) lq).trans d1⟩ | exact ⟨bq8, (bq8.cell (p := ⟨w.heap.size, 0, none⟩) lp).trans c0, (bq8.cell (p := ⟨w.heap.size, 1, none⟩) lp).trans c1, (bq8.cell (p := ⟨xb, 0, none⟩) lq).trans d0, (bq8.cell (p := ⟨xb, 1, none⟩) lq).trans d1⟩)
      (first
        | (go_at_call 13; (with_reducible refine (toInbox_any next A n c held _ (hin.below b7.out).drew HS.out).mono ?_); rintro e w8 ⟨_, rfl, YA, yc, rfl, Y7, bq70⟩; have bq7 : Below w7.heap.size w7 w8 := ⟨bq70.os, bq70.tape, bq70.output, bq70.size, bq70.block⟩)
        | (go_at_call 15; (with_reducible refine (eqInbox_any next XA YA n xc yc held _ HLEN.out (X7.rd.below bq7) Y7.rd (by omega)).mono ?_); rintro e w9 ⟨rfl, bq80⟩; have bq8 : Below w7.heap.size w7 w9 := below_trans bq7 bq80))
    all_goals
      have X9 := X7.later bq8
      have W9 := W7.later bq8
      have G9 := G7.later bq8
      have b9 := Lib.hid (below_trans b7.out bq8)
      have p9 := P7.out.later bq8
      have q9 := Q7.out.later bq8
      have d0 := q9.cellAt 0 (by simp)
      have d1 := q9.cellAt 1 (by simp)
      simp only [List.getElem_cons_zero, List.getElem_cons_succ] at d0 d1
      clear bq8 bq7 X7 W7 G7 P7 Q7 Y7
      go_wp2_with fail
      refine (markInbox_any next XA n xc _ _ 1 _ _ X9 (by omega) (by omega)).mono ?_
      rintro e w10 ⟨rfl, X10, ho10⟩
      have W10 := W9.out ho10 (.inl (Nat.le_refl _))
      have G10 := G9.out ho10 (.inr (Nat.le_succ _))
      have p10 := p9.outside ho10 (.inl s3)
      have b10 := Lib.hid (below_out b9.out ho10 (Nat.le_of_lt s3))
      have h1n : 0 ≤ (1 : Int) + ((2 * n : Nat) : Int) := by omega
      clear X9 W9 G9 p9 q9 d0 d1 ho10 X10
      go_wp2_with fail
      refine (eqIntS_any GA WA ms m Gc Wc HM.out _ G10.rd W10.rd (by omega)).mono ?_
      rintro e w11 ⟨rfl, bq11⟩
      have W11 := W10.later bq11
      have G11 := G10.later bq11
      have b11 := Lib.hid (below_trans b10.out bq11)
      have p11 := p10.later bq11
      clear bq11 W10 G10 p10
      go_wp2_with fail
      refine (markIntS_any _ m _ _ 1 _ _ G11.row (by omega) (by omega)).mono ?_
      rintro e w12 ⟨rfl, hrow, hgr⟩
      obtain ⟨G12, ho12⟩ := G11.turned hrow hgr
      have W12 := W11.out ho12 (.inl (by omega))
      have p12 := p11.outside ho12 (.inl (by omega))
      have b12 := Lib.hid (below_out b11.out ho12 (by omega))
      clear hrow hgr G11 W11 p11 ho12
      go_wp2_with fail
      refine (heldIntS_any _ m _ 1 _ G12.rd (by omega) (by omega)).mono ?_
      rintro e w13 ⟨rfl, hb13⟩
      have W13 := W12.later hb13
      have G13 := G12.later hb13
      have p13 := p12.later hb13
      have b13 := Lib.hid (below_trans b12.out hb13)
      clear hb13 W12 G12 p12
      have hmm : ((1 : Int) + (m : Int) != 1 + (m : Int)) = false := by simp
      have c0 := p13.cellAt 0 (by simp)
      have c1 := p13.cellAt 1 (by simp)
      simp only [List.getElem_cons_zero, List.getElem_cons_succ] at c0 c1
      go_wp2_with fail
      refine (toInbox_any next A n c held _ (hin.below b13.out) HS.out).mono ?_
      rintro e w14 ⟨_, rfl, ZA, zc, rfl, Z14, hb14⟩
      have W14 := W13.later hb14
      have G14 := G13.later hb14
      have b14 := Lib.hid (below_trans b13.out hb14)
      clear hb14 W13 G13 p13 c0 c1
      go_wp2_with fail
      refine (implInboxMissing next ZA n zc held _ HLEN.out Z14.rd (by omega)).mono ?_
      rintro e w15 ⟨_, rfl, hR, hb15⟩
      have W15 := W14.later hb15
      have G15 := G14.later hb15
      have b15 := Lib.hid (below_trans b14.out hb15)
      rw [HMS.out, HM.out] at hR
      obtain ⟨HA, Hc, rfl, _, _⟩ := own_slice hR
      have H15 := OwnI.of hR
      clear hb15 hR W14 G14 Z14
      go_wp2_with fail
      refine (eqIntS_any HA WA ms m Hc Wc HM.out _ H15.rd W15.rd (by omega)).mono ?_
      rintro e w16 ⟨rfl, hb16⟩
      have G16 := G15.later hb16
      have b16 := Lib.hid (below_trans b15.out hb16)
      clear hb16 G15 W15 H15
      go_wp2_with fail
      refine (heldIntS_any _ m _ 1 _ G16.rd (by omega) (by omega)).mono ?_
      rintro e w17 ⟨rfl, hb17⟩
      have b17 := Lib.hid (below_trans b16.out hb17)
      clear hb17 G16
      go_wp2_with fail
      go_ret
      exact ⟨rfl, b17.out⟩
  · go_wp2_with fail
    go_ret
    exact ⟨rfl, b1.out⟩
end Go.Proofs.Ytnbppfgfmhfgdaa
