/- A deed done in place: the program's do. -/
import Derived.Test.YtpkbipjnobfcdaaPapI
import Derived.Test.YtpkbipjnobfcdaaBsI
namespace Go.Proofs.Ytpkbipjnobfcdaa
open Go Go.ChangeShapes Go.WideShapes Go.ChangeAt Go.RowKit
set_option linter.unusedVariables false
set_option linter.unusedSimpArgs false
theorem pdo_gate {p : PapV} {k x m : Int} (h : ((idI x && !hasI p.ls x) && markOk k m) = false) : pdo p k x m = (p, false) := by
  unfold pdo
  rw [if_neg (by simp [h])]
theorem FrP.blk {w w' : World} {q base g : Nat} {t : TypeId} {cs : List Value} (h : FrP w w' q base) (hb : Blk w g t cs) (hq : g ≠ q) (h1 : t ≠ 38) (h2 : t ≠ 3) : Blk w' g t cs :=
  (h.block g hb.lt hq (.inr fun cs' t' f hc => by
    unfold Blk at hb
    rw [hb] at hc
    injection hc with hc
    injection hc with _ hc
    subst hc
    exact ⟨h1, h2⟩)).trans hb
theorem and_facts {g : Int} (h0 : 0 ≤ g) (h7 : g ≤ 7) : bits .and .i64 g 1 = g % 2 ∧ bits .and .i64 (g / 2) 1 = g / 2 % 2 ∧ bits .and .i64 (g / 4) 1 = g / 4 % 2 := by
  have hx : g = 0 ∨ g = 1 ∨ g = 2 ∨ g = 3 ∨ g = 4 ∨ g = 5 ∨ g = 6 ∨ g = 7 := by omega
  rcases hx with rfl | rfl | rfl | rfl | rfl | rfl | rfl | rfl <;> decide
theorem or_facts {g : Int} (h0 : 0 ≤ g) (h7 : g ≤ 7) : (g % 2 = 0 → bits .or .i64 g 1 = g + 1) ∧ (g / 2 % 2 = 0 → bits .or .i64 g 2 = g + 2) ∧ (g / 4 % 2 = 0 → bits .or .i64 g 4 = g + 4) := by
  have hx : g = 0 ∨ g = 1 ∨ g = 2 ∨ g = 3 ∨ g = 4 ∨ g = 5 ∨ g = 6 ∨ g = 7 := by omega
  rcases hx with rfl | rfl | rfl | rfl | rfl | rfl | rfl | rfl <;> decide
theorem not_facts {g : Int} (h0 : 0 ≤ g) (h7 : g ≤ 7) : (g % 2 = 1 → bits .andNot .i64 g 1 = g - 1) ∧ (g / 2 % 2 = 1 → bits .andNot .i64 g 2 = g - 2) ∧ (g / 4 % 2 = 1 → bits .andNot .i64 g 4 = g - 4) := by
  have hx : g = 0 ∨ g = 1 ∨ g = 2 ∨ g = 3 ∨ g = 4 ∨ g = 5 ∨ g = 6 ∨ g = 7 := by omega
  rcases hx with rfl | rfl | rfl | rfl | rfl | rfl | rfl | rfl <;> decide
set_option maxRecDepth 100000 in
set_option maxHeartbeats 8000000 in
theorem do_any (q base n c m lc : Nat) (HA LA : Option Addr) (hs : List HoldV) (ls : List Int) (k x mk : Int) (w : World) (hQ : PapAt w q base n c m lc HA LA hs ls) (hok : papOk hs ls = true) (hbase : base ≤ w.heap.size) :
    Calls Try.prog 47 #[.pointer (some ⟨q, 0, none⟩), .agg #[.int .i64 k, .int .i64 x, .int .i64 mk]] w (PapTo w q base (.bool (pdo ⟨hs, ls⟩ k x mk).2) (pdo ⟨hs, ls⟩ k x mk).1.hs (pdo ⟨hs, ls⟩ k x mk).1.ls) := by
  obtain ⟨g1, g2, g3, g4⟩ := papOk_iff.1 hok
  obtain ⟨hg0, hg7⟩ := marksOf_range g1 x
  have hn12 : n ≤ 12 := by rw [← hQ.hn]; exact g3
  have hm12 : m ≤ 12 := by rw [← hQ.hm]; exact g4
  have HVAL := Lib.hid g1
  have HLASC := Lib.hid (leftGo_iff.1 g2).2
  have hal : Below w.heap.size w (w.alloc (.cells #[.int .i64 k, .int .i64 x, .int .i64 mk] 41)) := (Below.refl _ _).alloc (Nat.le_refl _) _
  have D1 : Blk (w.alloc (.cells #[.int .i64 k, .int .i64 x, .int .i64 mk] 41)) w.heap.size 41 [.int .i64 k, .int .i64 x, .int .i64 mk] := Blk.new _ _ _
  have Q1 := hQ.later hal
  have HF1 := Lib.hid (FrP.of_below hal q base)
  have hb1 : base ≤ (w.alloc (.cells #[.int .i64 k, .int .i64 x, .int .i64 mk] 41)).heap.size := Nat.le_trans hbase hal.size
  have HOK := Lib.hid hok
  clear g1 g2 g3 g4 hQ hok hal
  go_enter Try.func47, Try.ntmps47
  go_wp2_with fail
  generalize w.alloc (.cells #[.int .i64 k, .int .i64 x, .int .i64 mk] 41) = w1 at *
  have q0 : ∀ p : BelW w1, p.W.cell? ⟨q, 0, none⟩ = some (.slice HA n c) := fun p => (Q1.blk.belw p).cellAt 0 (by simp)
  have q1 : ∀ p : BelW w1, p.W.cell? ⟨q, 1, none⟩ = some (.slice LA m lc) := fun p => (Q1.blk.belw p).cellAt 1 (by simp)
  have d0 : ∀ p : BelW w1, p.W.cell? ⟨w.heap.size, 0, none⟩ = some (.int .i64 (k)) := fun p => (D1.belw p).cellAt 0 (by simp)
  have d1 : ∀ p : BelW w1, p.W.cell? ⟨w.heap.size, 1, none⟩ = some (.int .i64 x) := fun p => (D1.belw p).cellAt 1 (by simp)
  have d2 : ∀ p : BelW w1, p.W.cell? ⟨w.heap.size, 2, none⟩ = some (.int .i64 mk) := fun p => (D1.belw p).cellAt 2 (by simp)
  have cM := fun W (hW : Below w1.heap.size w1 W) => implMarksOf HA n c hs LA m lc x W Q1.hn ((own_rd Q1.hold).below hW) (by omega)
  have HG := Lib.hid (rfl : marksOf hs x = marksOf hs x)
  generalize hgg : marksOf hs x = g at *
  replace HG := Lib.hid hgg
  clear hgg
  have Q1h := Lib.hid Q1
  have D1h := Lib.hid D1
  refine wp_region_below (by kernel_rfl) (by kernel_rfl) ?_
  repeat (go_big_quiet_step ((go_at_call 10; exact calls_below (cM _ (BelW.ok _)))))
  refine wpQuiet_nil ?_
  intro w2 hw'
  obtain ⟨⟨wq, hbq⟩, hw''⟩ := hw'
  subst hw''
  have Q2 := Q1h.out.later hbq
  have D2 := D1h.out.later hbq
  have HF2 := Lib.hid (HF1.out.trans (FrP.of_below hbq q base))
  have hb2 : base ≤ w2.heap.size := Nat.le_trans hb1 hbq.size
  clear hbq cM Q1 D1
  clear q0 q1 d0 d1 d2
  go_wp2_with fail
  have q0 : ∀ p : BelW w2, p.W.cell? ⟨q, 0, none⟩ = some (.slice HA n c) := fun p => (Q2.blk.belw p).cellAt 0 (by simp)
  have q1 : ∀ p : BelW w2, p.W.cell? ⟨q, 1, none⟩ = some (.slice LA m lc) := fun p => (Q2.blk.belw p).cellAt 1 (by simp)
  have d0 : ∀ p : BelW w2, p.W.cell? ⟨w.heap.size, 0, none⟩ = some (.int .i64 (k)) := fun p => (D2.belw p).cellAt 0 (by simp)
  have d1 : ∀ p : BelW w2, p.W.cell? ⟨w.heap.size, 1, none⟩ = some (.int .i64 x) := fun p => (D2.belw p).cellAt 1 (by simp)
  have d2 : ∀ p : BelW w2, p.W.cell? ⟨w.heap.size, 2, none⟩ = some (.int .i64 mk) := fun p => (D2.belw p).cellAt 2 (by simp)
  have Q2h := Lib.hid Q2
  have D2h := Lib.hid D2
  have hI := fun W => isId_any x W
  have hC := fun W (hW : Below w2.heap.size w2 W) => contains_int LA m lc ls x W Q2.hm ((own_rd Q2.left).below hW) (by omega)
  have hV := fun W => within_any mk 0 2 W
  clear Q2 D2
  cases hid : idI x with
  | false =>
    have HD := Lib.hid (pdo_gate (p := ⟨hs, ls⟩) (k := k) (x := x) (m := mk) (by simp [hid]))
    rw [hid] at hI
    clear hid
    refine wp_region_below (by kernel_rfl) (by kernel_rfl) ?_
    repeat (go_big_quiet_step ((first | (go_at_call 54; exact calls_same (hI _)) | (go_at_call 56; exact calls_same (hC _ (BelW.ok _))) | (go_at_call 55; exact calls_same (hV _)))))
    refine wpQuiet_nil ?_
    intro w3 hw'
    obtain ⟨⟨wq, hbq⟩, hw''⟩ := hw'
    subst hw''
    have hb3w : base ≤ w3.heap.size := Nat.le_trans hb2 hbq.size
    have Q3 := Q2h.out.later hbq
    have D3 := D2h.out.later hbq
    have HF3 := Lib.hid (HF2.out.trans (FrP.of_below hbq q base))
    have Q3h := Lib.hid Q3
    have D3h := Lib.hid D3
    clear hbq
    clear q0 q1 d0 d1 d2
    go_wp2_with fail
    go_ret
    exact ⟨by rw [HD.out]; rfl, by rw [HD.out]; exact ⟨_, _, _, _, _, _, Q3h.out⟩, HF3.out⟩
  | true =>
    rw [hid] at hI
    cases hl : hasI ls x with
    | true =>
      have HD := Lib.hid (pdo_gate (p := ⟨hs, ls⟩) (k := k) (x := x) (m := mk) (by simp [hl]))
      rw [hl] at hC
      clear hid hl
      refine wp_region_below (by kernel_rfl) (by kernel_rfl) ?_
      repeat (go_big_quiet_step ((first | (go_at_call 54; exact calls_same (hI _)) | (go_at_call 56; exact calls_same (hC _ (BelW.ok _))) | (go_at_call 55; exact calls_same (hV _)))))
      refine wpQuiet_nil ?_
      intro w3 hw'
      obtain ⟨⟨wq, hbq⟩, hw''⟩ := hw'
      subst hw''
      have hb3w : base ≤ w3.heap.size := Nat.le_trans hb2 hbq.size
      have Q3 := Q2h.out.later hbq
      have D3 := D2h.out.later hbq
      have HF3 := Lib.hid (HF2.out.trans (FrP.of_below hbq q base))
      have Q3h := Lib.hid Q3
      have D3h := Lib.hid D3
      clear hbq
      clear q0 q1 d0 d1 d2
      go_wp2_with fail
      go_ret
      exact ⟨by rw [HD.out]; rfl, by rw [HD.out]; exact ⟨_, _, _, _, _, _, Q3h.out⟩, HF3.out⟩
    | false =>
      rw [hl] at hC
      have HNQ : Hid (w.heap.size ≠ q) := Lib.hid (fun e => by
        have h1 := D2h.out
        rw [e] at h1
        have h2 := Q2h.out.blk
        unfold Blk at h1 h2
        rw [h1] at h2
        injection h2 with h2
        injection h2 with _ h2
        exact absurd h2 (by decide))
      have hAND := and_facts hg0 hg7
      have hOR := or_facts hg0 hg7
      have hNOT := not_facts hg0 hg7
      have hb3g : ∀ W, Below w2.heap.size w2 W → base ≤ W.heap.size := fun W hW => Nat.le_trans hb2 hW.size
      by_cases k2 : k = 2
      · subst k2
        have hways := pdo_ways (p := ⟨hs, ls⟩) HOK.out 2 x mk
        clear hAND hOR hNOT hV
        refine wp_region_below (by kernel_rfl) (by kernel_rfl) ?_
        repeat (go_big_quiet_step ((first | (go_at_call 54; exact calls_same (hI _)) | (go_at_call 56; exact calls_same (hC _ (BelW.ok _))))))
        refine wpQuiet_nil ?_
        intro w3 hw'
        obtain ⟨⟨wq, hbq⟩, hw''⟩ := hw'
        subst hw''
        have hb3w : base ≤ w3.heap.size := Nat.le_trans hb2 hbq.size
        have Q3 := Q2h.out.later hbq
        have D3 := D2h.out.later hbq
        have HF3 := Lib.hid (HF2.out.trans (FrP.of_below hbq q base))
        have Q3h := Lib.hid Q3
        have D3h := Lib.hid D3
        clear hbq
        have hb3 := hb3w
        clear q0 q1 d0 d1 d2
        have q0 := (Q3.blk).cellAt 0 (by simp)
        have q1 := (Q3.blk).cellAt 1 (by simp)
        have qf0 := (Q3.blk).frozen 0
        have qf1 := (Q3.blk).frozen 1
        have d0 := (D3).cellAt 0 (by simp)
        have d1 := (D3).cellAt 1 (by simp)
        have d2 := (D3).cellAt 2 (by simp)
        simp only [List.getElem_cons_zero, List.getElem_cons_succ] at q0 q1 d0 d1 d2
        clear Q3 D3
        by_cases hgz : g = 0
        · have hz1 : (g != 0) = false := by simp [hgz]
          by_cases hm0 : m = 12
          · have hm1 : ((m : Int) == 12) = true := by simp [hm0]
            have HD : Hid (pdo ⟨hs, ls⟩ 2 x mk = (⟨hs, ls⟩, false)) := Lib.hid (by rcases hways with ⟨e, _⟩ | ⟨e, _⟩ | ⟨e, _⟩ | ⟨_, _, _, _, e, _⟩; exact e; omega; omega; have h5 := Q3h.out.hm; dsimp only at e; omega)
            clear hways hid hl hgz hm0
            go_wp2_with fail
            go_ret
            exact ⟨by rw [HD.out]; rfl, by rw [HD.out]; exact ⟨_, _, _, _, _, _, Q3h.out⟩, HF3.out⟩
          · have hm1 : ((m : Int) == 12) = false := by simp; omega
            have HD : Hid (pdo ⟨hs, ls⟩ 2 x mk = (⟨hs, insL ls x⟩, true)) := Lib.hid (by rcases hways with ⟨_, e⟩ | ⟨e, _⟩ | ⟨e, _⟩ | ⟨_, _, _, _, _, e, _⟩; exact absurd ⟨hid, hl, .inr (.inr ⟨rfl, HG.out.trans hgz, by have h5 := Q3h.out.hm; dsimp only; omega⟩)⟩ e; omega; omega; exact e)
            clear hways hid hl hgz
            go_wp2_with fail
            clear q0 q1 qf0 qf1 d0 d1 d2
            have Q3 := Q3h.out
            have D3 := D3h.out
            have q0 : ∀ p : BelW w3, p.W.cell? ⟨q, 0, none⟩ = some (.slice HA n c) := fun p => (Q3.blk.belw p).cellAt 0 (by simp)
            have q1 : ∀ p : BelW w3, p.W.cell? ⟨q, 1, none⟩ = some (.slice LA m lc) := fun p => (Q3.blk.belw p).cellAt 1 (by simp)
            have d0 : ∀ p : BelW w3, p.W.cell? ⟨w.heap.size, 0, none⟩ = some (.int .i64 (2)) := fun p => (D3.belw p).cellAt 0 (by simp)
            have d1 : ∀ p : BelW w3, p.W.cell? ⟨w.heap.size, 1, none⟩ = some (.int .i64 x) := fun p => (D3.belw p).cellAt 1 (by simp)
            have d2 : ∀ p : BelW w3, p.W.cell? ⟨w.heap.size, 2, none⟩ = some (.int .i64 mk) := fun p => (D3.belw p).cellAt 2 (by simp)
            have cB := fun W (hW : Below w3.heap.size w3 W) => search_int LA m lc ls x W Q3.hm ((own_rd Q3.left).below hW) (by omega) HLASC.out
            obtain ⟨hcl, hci⟩ := insL_count (x := x) HLASC.out
            have HCI := Lib.hid hci
            rw [Q3.hm] at hcl
            generalize ls.countP (· < x) = at_ at *
            generalize ls.contains x = cx at *
            clear Q3 D3 hci
            refine wp_region_below (by kernel_rfl) (by kernel_rfl) ?_
            repeat (go_big_quiet_step ((go_at_call 76; exact calls_below (cB _ (BelW.ok _)))))
            refine wpQuiet_nil ?_
            intro w4 hw'
            obtain ⟨⟨wq, hbq⟩, hw''⟩ := hw'
            subst hw''
            have Q4 := Q3h.out.later hbq
            have D4 := D3h.out.later hbq
            have HF4 := Lib.hid (HF3.out.trans (FrP.of_below hbq q base))
            have hb4 : base ≤ w4.heap.size := Nat.le_trans hb3 hbq.size
            clear hbq cB
            clear q0 q1 d0 d1 d2
            have q0 := (Q4.blk).cellAt 0 (by simp)
            have q1 := (Q4.blk).cellAt 1 (by simp)
            have qf0 := (Q4.blk).frozen 0
            have qf1 := (Q4.blk).frozen 1
            have d0 := (D4).cellAt 0 (by simp)
            have d1 := (D4).cellAt 1 (by simp)
            have d2 := (D4).cellAt 2 (by simp)
            simp only [List.getElem_cons_zero, List.getElem_cons_succ] at q0 q1 d0 d1 d2
            have Q4h := Lib.hid Q4
            have qa1 := (Q4.blk.alloc (.cells #[.int .i64 x] 3)).cellAt 1 (by simp)
            simp only [List.getElem_cons_zero, List.getElem_cons_succ] at qa1
            have da1 := (D4.alloc (.cells #[.int .i64 x] 3)).cellAt 1 (by simp)
            simp only [List.getElem_cons_zero, List.getElem_cons_succ] at da1
            have hal4 : Below w4.heap.size w4 (w4.drew.alloc (.cells #[.int .i64 x] 3)) := (Below.drew (Below.refl _ _)).alloc (Nat.le_refl _) _
            have Q5 := Q4.later hal4
            have hB : Blk (w4.drew.alloc (.cells #[.int .i64 x] 3)) w4.heap.size 3 [.int .i64 x] := Blk.new w4.drew _ _
            have hne : (Value.slice LA m lc).ownBlock ≠ some w4.heap.size := fun e => Nat.lt_irrefl _ (Q4.left.lt _ e).2
            have cI := insertI_any LA m lc at_ w4.heap.size ls x base (w4.drew.alloc (.cells #[.int .i64 x] 3)) Q5.hm Q5.left hB hne hcl (by omega) (Nat.le_trans hb4 hal4.size)
            rw [HCI.out] at cI
            have HQ5 := Lib.hid Q5
            have HF5 := Lib.hid (HF4.out.trans (FrP.of_below hal4 q base))
            clear Q4 D4 hal4 Q5 hB hne hcl
            go_wp2_with fail
            go_region_law (first
              | (go_simp; go_at_call 77
                 refine cI.mono ?_
                 rintro e w6 ⟨u, rfl, ho6, hg6, _⟩
                 obtain ⟨A6, c6, rfl, _, _⟩ := own_slice ho6
                 have B6 := own_blk_apart HQ5.out.left hg6 HQ5.out.blk (by decide)
                 have H6 := own_own_apart HQ5.out.left hg6 HQ5.out.hold (by decide)
                 have F6 := HF5.out.trans (FrP.row (q := q) HQ5.out.left hg6 (.inr rfl))
                 have r1 := B6.cellAt 1 (by simp)
                 have rf1 := B6.frozen 1
                 simp only [List.getElem_cons_zero, List.getElem_cons_succ] at r1
                 have HFIN : Hid (PapTo w q base (.bool true) hs (insL ls x) (.returned (.bool true)) (w6.setCell ⟨q, 1, none⟩ (.slice A6 (insL ls x).length c6))) := Lib.hid ⟨rfl, ⟨_, _, _, _, _, _, ⟨HQ5.out.hn, rfl, B6.set_ 1 _, own_setAt H6 B6 (by decide), own_setAt ho6 B6 (by decide)⟩⟩, F6.trans (FrP.set q base 1 _)⟩
                 clear ho6 hg6 B6 H6 F6))
            all_goals
              go_wp2_with fail
              go_ret
              rw [HD.out]
              exact HFIN.out
        · have hz1 : (g != 0) = true := by simp [hgz]
          have HD : Hid (pdo ⟨hs, ls⟩ 2 x mk = (⟨hs, ls⟩, false)) := Lib.hid (by rcases hways with ⟨e, _⟩ | ⟨e, _⟩ | ⟨e, _⟩ | ⟨_, _, _, e, _⟩; exact e; omega; omega; exact absurd (HG.out.symm.trans e) hgz)
          clear hways hid hl hgz
          go_wp2_with fail
          go_ret
          exact ⟨by rw [HD.out]; rfl, by rw [HD.out]; exact ⟨_, _, _, _, _, _, Q3h.out⟩, HF3.out⟩
      · have hk2 : (k != 2) = true := by simpa using k2
        have hk2' : (k == 2) = false := by simpa using k2
        cases hw : inI mk 0 2 with
        | false =>
          have HD := Lib.hid (pdo_gate (p := ⟨hs, ls⟩) (k := k) (x := x) (m := mk) (by
            have : markOk k mk = false := by
              have h5 : (decide (0 ≤ mk) && decide (mk ≤ 2)) = false := hw
              simp [markOk, k2, h5]
            simp [this]))
          rw [hw] at hV
          clear hid hl hw k2 hk2' hAND hOR hNOT
          refine wp_region_below (by kernel_rfl) (by kernel_rfl) ?_
          repeat (go_big_quiet_step ((first | (go_at_call 54; exact calls_same (hI _)) | (go_at_call 56; exact calls_same (hC _ (BelW.ok _))) | (go_at_call 55; exact calls_same (hV _)))))
          refine wpQuiet_nil ?_
          intro w3 hw'
          obtain ⟨⟨wq, hbq⟩, hw''⟩ := hw'
          subst hw''
          have hb3w : base ≤ w3.heap.size := Nat.le_trans hb2 hbq.size
          have Q3 := Q2h.out.later hbq
          have D3 := D2h.out.later hbq
          have HF3 := Lib.hid (HF2.out.trans (FrP.of_below hbq q base))
          have Q3h := Lib.hid Q3
          have D3h := Lib.hid D3
          clear hbq
          clear q0 q1 d0 d1 d2
          go_wp2_with fail
          go_ret
          exact ⟨by rw [HD.out]; rfl, by rw [HD.out]; exact ⟨_, _, _, _, _, _, Q3h.out⟩, HF3.out⟩
        | true =>
          have hmk : 0 ≤ mk ∧ mk ≤ 2 := by
            have h5 : (decide (0 ≤ mk) && decide (mk ≤ 2)) = true := hw
            simpa using h5
          rw [hw] at hV
          have HBF := Lib.hid (bit_facts hg0 hg7 hmk.1 hmk.2)
          have h3 : mk = 0 ∨ mk = 1 ∨ mk = 2 := by omega
          have hways := pdo_ways (p := ⟨hs, ls⟩) HOK.out k x mk
          dsimp only at hways
          rw [HG.out] at hways
          refine wp_region_below (by kernel_rfl) (by kernel_rfl) ?_
          repeat (go_big_quiet_step ((first | (go_at_call 54; exact calls_same (hI _)) | (go_at_call 56; exact calls_same (hC _ (BelW.ok _))) | (go_at_call 55; exact calls_same (hV _)))))
          refine wpQuiet_nil ?_
          intro w3 hw'
          obtain ⟨⟨wq, hbq⟩, hw''⟩ := hw'
          subst hw''
          have hb3w : base ≤ w3.heap.size := Nat.le_trans hb2 hbq.size
          have Q3 := Q2h.out.later hbq
          have D3 := D2h.out.later hbq
          have HF3 := Lib.hid (HF2.out.trans (FrP.of_below hbq q base))
          have Q3h := Lib.hid Q3
          have D3h := Lib.hid D3
          clear hbq
          clear q0 q1 d0 d1 d2
          have hb3 : base ≤ w3.drew.heap.size := hb3w
          have q0 := (Q3.blk).cellAt 0 (by simp)
          have q1 := (Q3.blk).cellAt 1 (by simp)
          have qf0 := (Q3.blk).frozen 0
          have qf1 := (Q3.blk).frozen 1
          have d0 := (D3).cellAt 0 (by simp)
          have d1 := (D3).cellAt 1 (by simp)
          have d2 := (D3).cellAt 2 (by simp)
          simp only [List.getElem_cons_zero, List.getElem_cons_succ] at q0 q1 d0 d1 d2
          clear Q3 D3 hw
          by_cases k0 : k = 0
          · subst k0
            cases hb : bitM g mk with
            | true =>
              have HD : Hid (pdo ⟨hs, ls⟩ 0 x mk = (⟨hs, ls⟩, false)) := Lib.hid (by rcases hways with ⟨e, _⟩ | ⟨_, _, _, _, _, e, _⟩ | ⟨e, _⟩ | ⟨e, _⟩; exact e; rw [hb] at e; cases e; omega; omega)
              clear hways hid hl hmk
              rcases h3 with rfl | rfl | rfl
              · have hbb : (bits .and .i64 (g) 1 == 1) = true := by have h5 := of_decide_eq_true hb; rw [hAND.1]; simp [powM] at h5; simp; omega
                clear hb hAND hOR hNOT
                go_wp2_with fail
                go_ret
                exact ⟨by rw [HD.out]; rfl, by rw [HD.out]; exact ⟨_, _, _, _, _, _, Q3h.out⟩, HF3.out⟩
              · have hbb : (bits .and .i64 (g / 2) 1 == 1) = true := by have h5 := of_decide_eq_true hb; rw [hAND.2.1]; simp [powM] at h5; simp; omega
                clear hb hAND hOR hNOT
                go_wp2_with fail
                go_ret
                exact ⟨by rw [HD.out]; rfl, by rw [HD.out]; exact ⟨_, _, _, _, _, _, Q3h.out⟩, HF3.out⟩
              · have hbb : (bits .and .i64 (g / 4) 1 == 1) = true := by have h5 := of_decide_eq_true hb; rw [hAND.2.2]; simp [powM] at h5; simp; omega
                clear hb hAND hOR hNOT
                go_wp2_with fail
                go_ret
                exact ⟨by rw [HD.out]; rfl, by rw [HD.out]; exact ⟨_, _, _, _, _, _, Q3h.out⟩, HF3.out⟩
            | false =>
              by_cases hfull : g = 0 ∧ n = 12
              · have HD : Hid (pdo ⟨hs, ls⟩ 0 x mk = (⟨hs, ls⟩, false)) := Lib.hid (by rcases hways with ⟨e, _⟩ | ⟨_, _, _, _, _, _, e, _⟩ | ⟨e, _⟩ | ⟨e, _⟩; exact e; exact absurd ⟨hfull.1, by have h5 := Q3h.out.hn; omega⟩ e; omega; omega)
                have hz1 : (g == 0) = true := by simp [hfull.1]
                have hz2 : ((n : Int) == 12) = true := by simp [hfull.2]
                clear hways hid hl hmk
                rcases h3 with rfl | rfl | rfl
                · have hbb : (bits .and .i64 (g) 1 == 1) = false := by have h5 := of_decide_eq_false hb; rw [hAND.1]; simp [powM] at h5; simp; omega
                  clear hb hAND hOR hNOT hfull
                  go_wp2_with fail
                  go_ret
                  exact ⟨by rw [HD.out]; rfl, by rw [HD.out]; exact ⟨_, _, _, _, _, _, Q3h.out⟩, HF3.out⟩
                · have hbb : (bits .and .i64 (g / 2) 1 == 1) = false := by have h5 := of_decide_eq_false hb; rw [hAND.2.1]; simp [powM] at h5; simp; omega
                  clear hb hAND hOR hNOT hfull
                  go_wp2_with fail
                  go_ret
                  exact ⟨by rw [HD.out]; rfl, by rw [HD.out]; exact ⟨_, _, _, _, _, _, Q3h.out⟩, HF3.out⟩
                · have hbb : (bits .and .i64 (g / 4) 1 == 1) = false := by have h5 := of_decide_eq_false hb; rw [hAND.2.2]; simp [powM] at h5; simp; omega
                  clear hb hAND hOR hNOT hfull
                  go_wp2_with fail
                  go_ret
                  exact ⟨by rw [HD.out]; rfl, by rw [HD.out]; exact ⟨_, _, _, _, _, _, Q3h.out⟩, HF3.out⟩
              · have HD : Hid (pdo ⟨hs, ls⟩ 0 x mk = (⟨setH hs x (g + powM mk), ls⟩, true)) := Lib.hid (by rcases hways with ⟨_, e⟩ | ⟨_, _, _, _, _, _, _, e, _⟩ | ⟨e, _⟩ | ⟨e, _⟩; exact absurd ⟨hid, hl, .inl ⟨rfl, hmk, hb, fun h => hfull ⟨h.1, by have h5 := Q3h.out.hn; omega⟩⟩⟩ e; exact e; omega; omega)
                have hz2 : g = 0 → ((n : Int) == 12) = false := fun h => by have : n ≠ 12 := fun e => hfull ⟨h, e⟩; simp; omega
                have hg1 := (HBF.out.1 hb).1
                clear hways hid hl hmk hfull
                rcases h3 with rfl | rfl | rfl
                · have hb5 : g % 2 = 0 := by have h5 := of_decide_eq_false hb; simp [powM] at h5; omega
                  have hbb : (bits .and .i64 (g) 1 == 1) = false := by rw [hAND.1, hb5]; decide
                  have hor : bits .or .i64 g 1 = g + 1 := hOR.1 hb5
                  have ew1 : IntKind.i64.wrap 1 = 1 := IntWalk.i64_in _ (by omega)
                  rw [show powM 0 = 1 from by decide] at HD hg1
                  clear hb hb5 hAND hOR hNOT
                  by_cases hgz : g = 0
                  · have hz1 : (g == 0) = true := by simp [hgz]
                    have hz3 := hz2 hgz
                    clear hz2 hgz
                    go_wp2_with fail
                    have cSet := setMarks_any q base n c m lc HA LA hs ls x (g + 1) w3.drew (Q3h.out.later (Below.drew (Below.refl _ _))) HVAL.out (.inl (by omega)) hn12 hb3
                    unfold PapTo at cSet
                    clear q0 q1 qf0 qf1
                    go_region_held3 (fun W => W.cell? ⟨w.heap.size, 1, none⟩ = some (.int .i64 x) ∧ W.cell? ⟨w.heap.size, 2, none⟩ = some (.int .i64 0))
                      (first
                        | exact ⟨d1, d2⟩
                        | exact ⟨a1, a2⟩)
                      ((go_at_call 75
                        (with_reducible refine cSet.mono ?_)
                        rintro e wa ⟨rfl, hpa, fa⟩
                        have Da := fa.blk D3h.out HNQ.out (by decide) (by decide)
                        have a1 := Da.cellAt 1 (by simp)
                        have a2 := Da.cellAt 2 (by simp)
                        simp only [List.getElem_cons_zero, List.getElem_cons_succ] at a1 a2
                        have HPA := Lib.hid hpa
                        have HFA := Lib.hid fa
                        clear hpa fa Da))
                    clear a1 a2
                    go_wp2_with fail
                    go_ret
                    exact ⟨by rw [HD.out]; rfl, by rw [HD.out]; exact HPA.out, HF3.out.trans ((FrP.of_below (Below.drew (Below.refl _ _)) q base).trans HFA.out)⟩
                  · have hz1 : (g == 0) = false := by simp [hgz]
                    clear hz2 hgz
                    go_wp2_with fail
                    have cSet := setMarks_any q base n c m lc HA LA hs ls x (g + 1) w3.drew (Q3h.out.later (Below.drew (Below.refl _ _))) HVAL.out (.inl (by omega)) hn12 hb3
                    unfold PapTo at cSet
                    clear q0 q1 qf0 qf1
                    go_region_held3 (fun W => W.cell? ⟨w.heap.size, 1, none⟩ = some (.int .i64 x) ∧ W.cell? ⟨w.heap.size, 2, none⟩ = some (.int .i64 0))
                      (first
                        | exact ⟨d1, d2⟩
                        | exact ⟨a1, a2⟩)
                      ((go_at_call 75
                        (with_reducible refine cSet.mono ?_)
                        rintro e wa ⟨rfl, hpa, fa⟩
                        have Da := fa.blk D3h.out HNQ.out (by decide) (by decide)
                        have a1 := Da.cellAt 1 (by simp)
                        have a2 := Da.cellAt 2 (by simp)
                        simp only [List.getElem_cons_zero, List.getElem_cons_succ] at a1 a2
                        have HPA := Lib.hid hpa
                        have HFA := Lib.hid fa
                        clear hpa fa Da))
                    clear a1 a2
                    go_wp2_with fail
                    go_ret
                    exact ⟨by rw [HD.out]; rfl, by rw [HD.out]; exact HPA.out, HF3.out.trans ((FrP.of_below (Below.drew (Below.refl _ _)) q base).trans HFA.out)⟩
                · have hb5 : g / 2 % 2 = 0 := by have h5 := of_decide_eq_false hb; simp [powM] at h5; omega
                  have hbb : (bits .and .i64 (g / 2) 1 == 1) = false := by rw [hAND.2.1, hb5]; decide
                  have hor : bits .or .i64 g 2 = g + 2 := hOR.2.1 hb5
                  have ew1 : IntKind.i64.wrap 2 = 2 := IntWalk.i64_in _ (by omega)
                  rw [show powM 1 = 2 from by decide] at HD hg1
                  clear hb hb5 hAND hOR hNOT
                  by_cases hgz : g = 0
                  · have hz1 : (g == 0) = true := by simp [hgz]
                    have hz3 := hz2 hgz
                    clear hz2 hgz
                    go_wp2_with fail
                    have cSet := setMarks_any q base n c m lc HA LA hs ls x (g + 2) w3.drew (Q3h.out.later (Below.drew (Below.refl _ _))) HVAL.out (.inl (by omega)) hn12 hb3
                    unfold PapTo at cSet
                    clear q0 q1 qf0 qf1
                    go_region_held3 (fun W => W.cell? ⟨w.heap.size, 1, none⟩ = some (.int .i64 x) ∧ W.cell? ⟨w.heap.size, 2, none⟩ = some (.int .i64 1))
                      (first
                        | exact ⟨d1, d2⟩
                        | exact ⟨a1, a2⟩)
                      ((go_at_call 75
                        (with_reducible refine cSet.mono ?_)
                        rintro e wa ⟨rfl, hpa, fa⟩
                        have Da := fa.blk D3h.out HNQ.out (by decide) (by decide)
                        have a1 := Da.cellAt 1 (by simp)
                        have a2 := Da.cellAt 2 (by simp)
                        simp only [List.getElem_cons_zero, List.getElem_cons_succ] at a1 a2
                        have HPA := Lib.hid hpa
                        have HFA := Lib.hid fa
                        clear hpa fa Da))
                    clear a1 a2
                    go_wp2_with fail
                    go_ret
                    exact ⟨by rw [HD.out]; rfl, by rw [HD.out]; exact HPA.out, HF3.out.trans ((FrP.of_below (Below.drew (Below.refl _ _)) q base).trans HFA.out)⟩
                  · have hz1 : (g == 0) = false := by simp [hgz]
                    clear hz2 hgz
                    go_wp2_with fail
                    have cSet := setMarks_any q base n c m lc HA LA hs ls x (g + 2) w3.drew (Q3h.out.later (Below.drew (Below.refl _ _))) HVAL.out (.inl (by omega)) hn12 hb3
                    unfold PapTo at cSet
                    clear q0 q1 qf0 qf1
                    go_region_held3 (fun W => W.cell? ⟨w.heap.size, 1, none⟩ = some (.int .i64 x) ∧ W.cell? ⟨w.heap.size, 2, none⟩ = some (.int .i64 1))
                      (first
                        | exact ⟨d1, d2⟩
                        | exact ⟨a1, a2⟩)
                      ((go_at_call 75
                        (with_reducible refine cSet.mono ?_)
                        rintro e wa ⟨rfl, hpa, fa⟩
                        have Da := fa.blk D3h.out HNQ.out (by decide) (by decide)
                        have a1 := Da.cellAt 1 (by simp)
                        have a2 := Da.cellAt 2 (by simp)
                        simp only [List.getElem_cons_zero, List.getElem_cons_succ] at a1 a2
                        have HPA := Lib.hid hpa
                        have HFA := Lib.hid fa
                        clear hpa fa Da))
                    clear a1 a2
                    go_wp2_with fail
                    go_ret
                    exact ⟨by rw [HD.out]; rfl, by rw [HD.out]; exact HPA.out, HF3.out.trans ((FrP.of_below (Below.drew (Below.refl _ _)) q base).trans HFA.out)⟩
                · have hb5 : g / 4 % 2 = 0 := by have h5 := of_decide_eq_false hb; simp [powM] at h5; omega
                  have hbb : (bits .and .i64 (g / 4) 1 == 1) = false := by rw [hAND.2.2, hb5]; decide
                  have hor : bits .or .i64 g 4 = g + 4 := hOR.2.2 hb5
                  have ew1 : IntKind.i64.wrap 4 = 4 := IntWalk.i64_in _ (by omega)
                  rw [show powM 2 = 4 from by decide] at HD hg1
                  clear hb hb5 hAND hOR hNOT
                  by_cases hgz : g = 0
                  · have hz1 : (g == 0) = true := by simp [hgz]
                    have hz3 := hz2 hgz
                    clear hz2 hgz
                    go_wp2_with fail
                    have cSet := setMarks_any q base n c m lc HA LA hs ls x (g + 4) w3.drew (Q3h.out.later (Below.drew (Below.refl _ _))) HVAL.out (.inl (by omega)) hn12 hb3
                    unfold PapTo at cSet
                    clear q0 q1 qf0 qf1
                    go_region_held3 (fun W => W.cell? ⟨w.heap.size, 1, none⟩ = some (.int .i64 x) ∧ W.cell? ⟨w.heap.size, 2, none⟩ = some (.int .i64 2))
                      (first
                        | exact ⟨d1, d2⟩
                        | exact ⟨a1, a2⟩)
                      ((go_at_call 75
                        (with_reducible refine cSet.mono ?_)
                        rintro e wa ⟨rfl, hpa, fa⟩
                        have Da := fa.blk D3h.out HNQ.out (by decide) (by decide)
                        have a1 := Da.cellAt 1 (by simp)
                        have a2 := Da.cellAt 2 (by simp)
                        simp only [List.getElem_cons_zero, List.getElem_cons_succ] at a1 a2
                        have HPA := Lib.hid hpa
                        have HFA := Lib.hid fa
                        clear hpa fa Da))
                    clear a1 a2
                    go_wp2_with fail
                    go_ret
                    exact ⟨by rw [HD.out]; rfl, by rw [HD.out]; exact HPA.out, HF3.out.trans ((FrP.of_below (Below.drew (Below.refl _ _)) q base).trans HFA.out)⟩
                  · have hz1 : (g == 0) = false := by simp [hgz]
                    clear hz2 hgz
                    go_wp2_with fail
                    have cSet := setMarks_any q base n c m lc HA LA hs ls x (g + 4) w3.drew (Q3h.out.later (Below.drew (Below.refl _ _))) HVAL.out (.inl (by omega)) hn12 hb3
                    unfold PapTo at cSet
                    clear q0 q1 qf0 qf1
                    go_region_held3 (fun W => W.cell? ⟨w.heap.size, 1, none⟩ = some (.int .i64 x) ∧ W.cell? ⟨w.heap.size, 2, none⟩ = some (.int .i64 2))
                      (first
                        | exact ⟨d1, d2⟩
                        | exact ⟨a1, a2⟩)
                      ((go_at_call 75
                        (with_reducible refine cSet.mono ?_)
                        rintro e wa ⟨rfl, hpa, fa⟩
                        have Da := fa.blk D3h.out HNQ.out (by decide) (by decide)
                        have a1 := Da.cellAt 1 (by simp)
                        have a2 := Da.cellAt 2 (by simp)
                        simp only [List.getElem_cons_zero, List.getElem_cons_succ] at a1 a2
                        have HPA := Lib.hid hpa
                        have HFA := Lib.hid fa
                        clear hpa fa Da))
                    clear a1 a2
                    go_wp2_with fail
                    go_ret
                    exact ⟨by rw [HD.out]; rfl, by rw [HD.out]; exact HPA.out, HF3.out.trans ((FrP.of_below (Below.drew (Below.refl _ _)) q base).trans HFA.out)⟩
          · have hk0 : (k == 0) = false := by simpa using k0
            by_cases k1 : k = 1
            · subst k1
              cases hb : bitM g mk with
              | false =>
                have HD : Hid (pdo ⟨hs, ls⟩ 1 x mk = (⟨hs, ls⟩, false)) := Lib.hid (by rcases hways with ⟨e, _⟩ | ⟨e, _⟩ | ⟨_, _, _, _, _, e, _⟩ | ⟨e, _⟩; exact e; omega; rw [hb] at e; cases e; omega)
                clear hways hid hl hmk
                rcases h3 with rfl | rfl | rfl
                · have hbb : (bits .and .i64 (g) 1 == 0) = true := by have h5 := of_decide_eq_false hb; rw [hAND.1]; simp [powM] at h5; simp; omega
                  clear hb hAND hOR hNOT
                  go_wp2_with fail
                  go_ret
                  exact ⟨by rw [HD.out]; rfl, by rw [HD.out]; exact ⟨_, _, _, _, _, _, Q3h.out⟩, HF3.out⟩
                · have hbb : (bits .and .i64 (g / 2) 1 == 0) = true := by have h5 := of_decide_eq_false hb; rw [hAND.2.1]; simp [powM] at h5; simp; omega
                  clear hb hAND hOR hNOT
                  go_wp2_with fail
                  go_ret
                  exact ⟨by rw [HD.out]; rfl, by rw [HD.out]; exact ⟨_, _, _, _, _, _, Q3h.out⟩, HF3.out⟩
                · have hbb : (bits .and .i64 (g / 4) 1 == 0) = true := by have h5 := of_decide_eq_false hb; rw [hAND.2.2]; simp [powM] at h5; simp; omega
                  clear hb hAND hOR hNOT
                  go_wp2_with fail
                  go_ret
                  exact ⟨by rw [HD.out]; rfl, by rw [HD.out]; exact ⟨_, _, _, _, _, _, Q3h.out⟩, HF3.out⟩
              | true =>
                have HD : Hid (pdo ⟨hs, ls⟩ 1 x mk = (⟨setH hs x (g - powM mk), ls⟩, true)) := Lib.hid (by rcases hways with ⟨_, e⟩ | ⟨e, _⟩ | ⟨_, _, _, _, _, _, e, _⟩ | ⟨e, _⟩; exact absurd ⟨hid, hl, .inr (.inl ⟨rfl, hmk, hb⟩)⟩ e; omega; exact e; omega)
                have hg1 := (HBF.out.2.1 hb).2.2.2
                clear hways hid hl hmk
                rcases h3 with rfl | rfl | rfl
                · have hb5 : g % 2 = 1 := by have h5 := of_decide_eq_true hb; simp [powM] at h5; omega
                  have hbb : (bits .and .i64 (g) 1 == 0) = false := by rw [hAND.1, hb5]; decide
                  have hor : bits .andNot .i64 g 1 = g - 1 := hNOT.1 hb5
                  have ew1 : IntKind.i64.wrap 1 = 1 := IntWalk.i64_in _ (by omega)
                  rw [show powM 0 = 1 from by decide] at HD
                  clear hb hb5 hAND hOR hNOT
                  go_wp2_with fail
                  have cSet := setMarks_any q base n c m lc HA LA hs ls x (g - 1) w3.drew (Q3h.out.later (Below.drew (Below.refl _ _))) HVAL.out (.inr (by rw [HG.out]; exact hg1)) hn12 hb3
                  unfold PapTo at cSet
                  clear q0 q1 qf0 qf1
                  go_region_held3 (fun W => W.cell? ⟨w.heap.size, 1, none⟩ = some (.int .i64 x) ∧ W.cell? ⟨w.heap.size, 2, none⟩ = some (.int .i64 0))
                    (first
                      | exact ⟨d1, d2⟩
                      | exact ⟨a1, a2⟩)
                    ((go_at_call 75
                      (with_reducible refine cSet.mono ?_)
                      rintro e wa ⟨rfl, hpa, fa⟩
                      have Da := fa.blk D3h.out HNQ.out (by decide) (by decide)
                      have a1 := Da.cellAt 1 (by simp)
                      have a2 := Da.cellAt 2 (by simp)
                      simp only [List.getElem_cons_zero, List.getElem_cons_succ] at a1 a2
                      have HPA := Lib.hid hpa
                      have HFA := Lib.hid fa
                      clear hpa fa Da))
                  clear a1 a2
                  go_wp2_with fail
                  go_ret
                  exact ⟨by rw [HD.out]; rfl, by rw [HD.out]; exact HPA.out, HF3.out.trans ((FrP.of_below (Below.drew (Below.refl _ _)) q base).trans HFA.out)⟩
                · have hb5 : g / 2 % 2 = 1 := by have h5 := of_decide_eq_true hb; simp [powM] at h5; omega
                  have hbb : (bits .and .i64 (g / 2) 1 == 0) = false := by rw [hAND.2.1, hb5]; decide
                  have hor : bits .andNot .i64 g 2 = g - 2 := hNOT.2.1 hb5
                  have ew1 : IntKind.i64.wrap 2 = 2 := IntWalk.i64_in _ (by omega)
                  rw [show powM 1 = 2 from by decide] at HD
                  clear hb hb5 hAND hOR hNOT
                  go_wp2_with fail
                  have cSet := setMarks_any q base n c m lc HA LA hs ls x (g - 2) w3.drew (Q3h.out.later (Below.drew (Below.refl _ _))) HVAL.out (.inr (by rw [HG.out]; exact hg1)) hn12 hb3
                  unfold PapTo at cSet
                  clear q0 q1 qf0 qf1
                  go_region_held3 (fun W => W.cell? ⟨w.heap.size, 1, none⟩ = some (.int .i64 x) ∧ W.cell? ⟨w.heap.size, 2, none⟩ = some (.int .i64 1))
                    (first
                      | exact ⟨d1, d2⟩
                      | exact ⟨a1, a2⟩)
                    ((go_at_call 75
                      (with_reducible refine cSet.mono ?_)
                      rintro e wa ⟨rfl, hpa, fa⟩
                      have Da := fa.blk D3h.out HNQ.out (by decide) (by decide)
                      have a1 := Da.cellAt 1 (by simp)
                      have a2 := Da.cellAt 2 (by simp)
                      simp only [List.getElem_cons_zero, List.getElem_cons_succ] at a1 a2
                      have HPA := Lib.hid hpa
                      have HFA := Lib.hid fa
                      clear hpa fa Da))
                  clear a1 a2
                  go_wp2_with fail
                  go_ret
                  exact ⟨by rw [HD.out]; rfl, by rw [HD.out]; exact HPA.out, HF3.out.trans ((FrP.of_below (Below.drew (Below.refl _ _)) q base).trans HFA.out)⟩
                · have hb5 : g / 4 % 2 = 1 := by have h5 := of_decide_eq_true hb; simp [powM] at h5; omega
                  have hbb : (bits .and .i64 (g / 4) 1 == 0) = false := by rw [hAND.2.2, hb5]; decide
                  have hor : bits .andNot .i64 g 4 = g - 4 := hNOT.2.2 hb5
                  have ew1 : IntKind.i64.wrap 4 = 4 := IntWalk.i64_in _ (by omega)
                  rw [show powM 2 = 4 from by decide] at HD
                  clear hb hb5 hAND hOR hNOT
                  go_wp2_with fail
                  have cSet := setMarks_any q base n c m lc HA LA hs ls x (g - 4) w3.drew (Q3h.out.later (Below.drew (Below.refl _ _))) HVAL.out (.inr (by rw [HG.out]; exact hg1)) hn12 hb3
                  unfold PapTo at cSet
                  clear q0 q1 qf0 qf1
                  go_region_held3 (fun W => W.cell? ⟨w.heap.size, 1, none⟩ = some (.int .i64 x) ∧ W.cell? ⟨w.heap.size, 2, none⟩ = some (.int .i64 2))
                    (first
                      | exact ⟨d1, d2⟩
                      | exact ⟨a1, a2⟩)
                    ((go_at_call 75
                      (with_reducible refine cSet.mono ?_)
                      rintro e wa ⟨rfl, hpa, fa⟩
                      have Da := fa.blk D3h.out HNQ.out (by decide) (by decide)
                      have a1 := Da.cellAt 1 (by simp)
                      have a2 := Da.cellAt 2 (by simp)
                      simp only [List.getElem_cons_zero, List.getElem_cons_succ] at a1 a2
                      have HPA := Lib.hid hpa
                      have HFA := Lib.hid fa
                      clear hpa fa Da))
                  clear a1 a2
                  go_wp2_with fail
                  go_ret
                  exact ⟨by rw [HD.out]; rfl, by rw [HD.out]; exact HPA.out, HF3.out.trans ((FrP.of_below (Below.drew (Below.refl _ _)) q base).trans HFA.out)⟩
            · have hk1 : (k == 1) = false := by simpa using k1
              have HD : Hid (pdo ⟨hs, ls⟩ k x mk = (⟨hs, ls⟩, false)) := Lib.hid (by rcases hways with ⟨e, _⟩ | ⟨e, _⟩ | ⟨e, _⟩ | ⟨e, _⟩; exact e; exact absurd e k0; exact absurd e k1; exact absurd e k2)
              clear hways hid hl hmk h3 hAND hOR hNOT k0 k1 k2
              go_wp2_with fail
              go_ret
              exact ⟨by rw [HD.out]; rfl, by rw [HD.out]; exact ⟨_, _, _, _, _, _, Q3h.out⟩, HF3.out⟩
end Go.Proofs.Ytpkbipjnobfcdaa
