/- The reference's VisitPath returns the fewest events, in numbers of its own. -/
import Derived.Test.YtadkplonknlfbaaVPathI
import Derived.Test.YtadkplonknlfbaaVPathQ
import Derived.StillTailTactics
namespace Go.Proofs.Ytadkplonknlfbaa
open Go Go.ChangeShapes Go.WideShapes Go.ChangeAt Go.RowKit
/-- block fb has the numbers l; nothing else has turned -/
def FarW (w1 w : World) (fb : Nat) (l : List Int) : Prop := Blk w fb 3 (ints l) ∧ w1.grownBy w (some fb)
theorem FarW.set {w1 w : World} {fb : Nat} {l : List Int} (h : FarW w1 w fb l) (i : Nat) (v : Int) : FarW w1 (w.setCell ⟨fb, i, none⟩ (.int .i64 v)) fb (l.set i v) := by
  refine ⟨?_, ?_⟩
  · have h1 := heap_setCell_same w fb i (ints l).toArray 3 (.int .i64 v) h.1
    unfold Blk
    rw [h1]
    simp [ints]
  · exact World.grownBy.trans h.2 ⟨rfl, rfl, rfl, by simp, fun k _ hk => heap_setCell_other _ _ _ _ (fun e => hk (by rw [e]))⟩
theorem FarW.cell {w1 w : World} {fb : Nat} {l : List Int} (h : FarW w1 w fb l) (hl : l.length = 5) (i : Nat) (hi : i < 5) : w.cell? ⟨fb, i, none⟩ = some (.int .i64 (l.getD i 0)) := by
  rw [h.1.cell, List.getElem?_eq_getElem (by rw [ints_len, hl]; exact hi), ints_at]
  simp [List.getD, hl, hi]
theorem FarW.free {w1 w : World} {fb : Nat} {l : List Int} (h : FarW w1 w fb l) (i : Nat) : w.frozen? ⟨fb, i, none⟩ = false := frozen_of_row w fb i _ _ h.1
theorem FarW.drew {w1 w : World} {fb : Nat} {l : List Int} (h : FarW w1 w fb l) : FarW w1 w.drew fb l := ⟨h.1, ⟨h.2.os, h.2.tape, h.2.output, h.2.size, h.2.block⟩⟩
theorem l1In_true (a lo hi : Int) (w : World) (h : lo ≤ a ∧ a ≤ hi) : Calls Try.prog 15 #[.int .i64 a, .int .i64 lo, .int .i64 hi] w fun r w' => r = .returned (.bool true) ∧ w = w' := by
  refine (l1In_any a lo hi w).mono ?_
  rintro e w' ⟨rfl, rfl⟩
  exact ⟨by simp [h.1, h.2], rfl⟩
/-- the world with both lists laid -/
noncomputable def specW0 (w : World) : World := w.alloc (.cells #[] 3)
set_option maxRecDepth 100000 in
set_option maxHeartbeats 4000000 in
theorem specVisitPath (s t : Int) (w : World) : Calls Try.prog 5 #[.int .i64 s, .int .i64 t] w (PathOut s t w) := by
  by_cases hs : 0 ≤ s ∧ s ≤ 4
  · by_cases ht : 0 ≤ t ∧ t ≤ 4
    · obtain ⟨sn, rfl⟩ := Int.eq_ofNat_of_zero_le hs.1
      obtain ⟨tn, rfl⟩ := Int.eq_ofNat_of_zero_le ht.1
      have hsn : sn < 5 := by omega
      have htn : tn < 5 := by omega
      clear hs ht
      have hF0 : FarW ((w.alloc (.cells #[] 3)).alloc (.cells (ints [99, 99, 99, 99, 99]).toArray 3)) ((w.alloc (.cells #[] 3)).alloc (.cells (ints [99, 99, 99, 99, 99]).toArray 3)) (w.heap.size + 1) [99, 99, 99, 99, 99] := ⟨by
        have := Blk.new (w.alloc (.cells #[] 3)) 3 (ints [99, 99, 99, 99, 99])
        simpa using this, World.grownBy.refl _ _⟩
      have hc0 := hF0.cell rfl tn htn
      have hfr0 := hF0.free tn
      clear hF0
      go_enter Try.func5, Try.ntmps5
      go_wp2_with (first | (go_at_call 15; refine (l1In_true _ _ _ _ (by omega)).mono ?_; rintro e w' ⟨rfl, rfl⟩))
      go_loopw [8] (fun i w1 => ∃ k : Nat, k ≤ 5 ∧ i = .int .i64 k ∧ FarW (specW0 w) w1 (w.heap.size + 1) (relT (far0 tn) k)) (fun i _ => 5 - (intOf i).toNat)
      case atStart =>
        have e : [Value.int IntKind.i64 99, Value.int IntKind.i64 99, Value.int IntKind.i64 99, Value.int IntKind.i64 99, Value.int IntKind.i64 99].set tn (Value.int IntKind.i64 0) = ints (far0 tn) := by simp [ints, far0, List.map_set]
        have := Blk.new (w.alloc (.cells #[] 3)) 3 (ints (far0 tn))
        refine ⟨0, by omega, rfl, ?_, World.grownBy_alloc _ _ _⟩
        rw [e]
        simpa [relT] using this
      case round =>
        obtain ⟨k, hk, rfl, hfar⟩ := hrel
        by_cases hk5 : k < 5
        · have hk5i : (k : Int) < 5 := by omega
          have h5k := five_relT (five_far0 tn) k
          have HW := Lib.hid hfar
          have H5 := Lib.hid h5k
          clear hfar h5k
          go_wp2
          go_loopw [9] (fun i w1 => ∃ k1 : Nat, k1 ≤ 5 ∧ i = .int .i64 k1 ∧ FarW (specW0 w) w1 (w.heap.size + 1) (relS (relT (far0 tn) k) k1)) (fun i _ => 5 - (intOf i).toNat)
          case atStart => exact ⟨0, by omega, rfl, HW.out⟩
          case round =>
            obtain ⟨x, hx, rfl, hfar⟩ := hrel
            by_cases hx5 : x < 5
            · have hx5i : (x : Int) ≤ 4 := by omega
              have h5x := five_relS H5.out x hx
              have HWx := Lib.hid hfar
              have H5x := Lib.hid h5x
              clear hfar h5x
              go_wp2
              go_loopw [10] (fun i w1 => ∃ k2 : Nat, k2 ≤ 5 ∧ i = .int .i64 k2 ∧ FarW (specW0 w) w1 (w.heap.size + 1) (relE (relS (relT (far0 tn) k) x) x k2)) (fun i _ => 5 - (intOf i).toNat)
              case atStart => exact ⟨0, by omega, rfl, HWx.out⟩
              case round =>
                obtain ⟨y, hy, rfl, hfar⟩ := hrel
                by_cases hy5 : y < 5
                · have hy5i : (y : Int) ≤ 4 := by omega
                  have h5 := five_relE H5x.out x y hx5
                  have hE : relE (relS (relT (far0 tn) k) x) x (y + 1) = relax (relE (relS (relT (far0 tn) k) x) x y) x y := rfl
                  have HE := Lib.hid hE
                  clear hE
                  generalize relE (relS (relT (far0 tn) k) x) x y = l at *
                  have hlo := vstep_lo x y
                  by_cases hv : 0 ≤ vstep x y
                  · have hb1 := h5.2 x hx5
                    have hb2 := h5.2 (vstep x y).toNat (by omega)
                    have hc1 := hfar.cell h5.1 x hx5
                    have hc2 := hfar.cell h5.1 (vstep x y).toNat (by omega)
                    have hfr := hfar.free x
                    have HR : Hid (relax l x y = l.set x (min (l.getD x 0) (l.getD (vstep x y).toNat 0 + 1))) := Lib.hid (by unfold relax; rw [if_pos hv])
                    have hd1 : wr.drew.cell? ⟨w.heap.size + 1, x, none⟩ = some (.int .i64 (l.getD x 0)) := hc1
                    have hd2 : wr.drew.cell? ⟨w.heap.size + 1, (vstep x y).toNat, none⟩ = some (.int .i64 (l.getD (vstep x y).toNat 0)) := hc2
                    have hfrd : wr.drew.frozen? ⟨w.heap.size + 1, x, none⟩ = false := hfr
                    have hxi5 : (x : Int) < 5 := by omega
                    have hvi5 : vstep x y < 5 := by omega
                    have HFA := Lib.hid hfar
                    clear hfar h5
                    go_wp2_with (go_at_call 16; refine (specVisitStep _ _ _).mono ?_; rintro e w' ⟨rfl, rfl⟩)
                    refine wp_region_still_tail 13 (by kernel_rfl) (by kernel_rfl) ?_
                    simp only [List.take_succ_cons, List.take_zero, List.drop_succ_cons, List.drop_zero]
                    repeat still_step
                    refine wpStill_nil ?_
                    change wpList _ _ _ _ _ wr.drew
                    go_wp2
                    have hw : wrap64 (l[(vstep x y).toNat]?.getD 0 + 1) = l.getD (vstep x y).toNat 0 + 1 := by
                      rw [← List.getD_eq_getElem?_getD]
                      unfold wrap64
                      omega
                    rw [hw, ← List.getD_eq_getElem?_getD]
                    refine ⟨⟨y + 1, by omega, by go_num, by rw [HE.out, HR.out]; exact (HFA.out.set x _).drew⟩, ?_⟩
                    simp [intOf]
                    omega
                  · have HR : Hid (relax l x y = l) := Lib.hid (by unfold relax; rw [if_neg hv])
                    have HFA := Lib.hid hfar
                    clear hfar h5
                    go_wp2_with (go_at_call 16; refine (specVisitStep _ _ _).mono ?_; rintro e w' ⟨rfl, rfl⟩)
                    refine ⟨⟨y + 1, by omega, by go_num, by rw [HE.out, HR.out]; exact HFA.out⟩, ?_⟩
                    simp [intOf]
                    omega
                · obtain rfl : y = 5 := by omega
                  have HFA := Lib.hid hfar
                  clear hfar
                  go_wp2
                  refine ⟨⟨x + 1, by omega, by go_num, HFA.out⟩, ?_⟩
                  simp [intOf]
                  omega
            · obtain rfl : x = 5 := by omega
              have HFA := Lib.hid hfar
              clear hfar
              go_wp2
              refine ⟨⟨k + 1, by omega, by go_num, HFA.out⟩, ?_⟩
              simp [intOf]
              omega
        · obtain rfl : k = 5 := by omega
          have hfar : FarW (specW0 w) wr (w.heap.size + 1) (far tn) := hfar
          have h5 : Five (far tn) := five_relT (five_far0 tn) 5
          have hc0 := hfar.cell h5.1 sn hsn
          have hown : wr.ownsRow w.heap.size 3 1 (.slice (some ⟨w.heap.size, 0, none⟩) 0 0) 0 (ints []) := (own_of_blk (size := 1) (cs := []) (Blk.new w 3 []) (Nat.le_refl _) rfl (by decide)).kept hfar.2 (.inr (by simp [Value.ownBlock]))
          have hbel : Below w.heap.size w wr := ((Below.refl w.heap.size w).alloc (Nat.le_refl _) _).grown hfar.2 (by simp) (fun k hk => by injection hk with hk; omega)
          have HN : Hid (99 ≤ (far tn).getD sn 0 → vpath sn tn = none) := Lib.hid (way_none hsn htn)
          have HWH : Hid (∀ s : Nat, s < 5 → _ → _ → _) := Lib.hid (fun s hs => way_here (s := s) hs htn)
          have HWS : Hid (∀ s : Nat, s < 5 → _ → _ → _) := Lib.hid (fun s hs => way_step (s := s) hs htn)
          have HFR := Lib.hid hfar
          clear hfar
          generalize far tn = fl at *
          by_cases h99 : 99 ≤ fl.getD sn 0
          · have hv := HN.out h99
            have HV := Lib.hid hv
            have hsi5 : (sn : Int) < 5 := by omega
            have h99p : 99 ≤ fl[sn]?.getD 0 := by rw [← List.getD_eq_getElem?_getD]; exact h99
            clear hv
            go_wp2
            go_ret2
            exact pathOut_none HV.out _ hown hbel
          · have hsi5 : (sn : Int) < 5 := by omega
            obtain ⟨rest0, hr0⟩ : ∃ r, vpath sn tn = some r := by
              by_cases he : sn = tn
              · exact ⟨_, HWH.out sn hsn h99 he⟩
              · obtain ⟨_, _, _, _, _, _, ⟨p, _, hp⟩, _⟩ := HWS.out sn hsn h99 he
                exact ⟨_, hp⟩
            have HR0 := Lib.hid hr0
            have h99d : ¬ 99 ≤ fl[sn]?.getD 0 := by rw [← List.getD_eq_getElem?_getD]; exact h99
            have HB := Lib.hid hbel
            clear hr0 hbel
            go_wp2
            go_loopw [0, 6] (fun cur out w1 => ∃ (c : Nat) (done rest : List Int), cur = .int .i64 c ∧ c < 5 ∧ w1.ownsRow w.heap.size 3 1 out done.length (ints done) ∧ out.ownBlock ≠ some (w.heap.size + 1) ∧ fl.getD c 0 < 99 ∧ vpath c tn = some rest ∧ vpath sn tn = some (done ++ rest) ∧ Blk w1 (w.heap.size + 1) 3 (ints fl) ∧ Below w.heap.size w w1) (fun cur _ _ => (fl.getD (intOf cur).toNat 0).toNat)
            case atStart => exact ⟨sn, [], rest0, rfl, hsn, hown, by simp [Value.ownBlock], by omega, HR0.out, HR0.out, HFR.out.1, HB.out⟩
            case round =>
              obtain ⟨c, done, rest, rfl, hc5, hown, hob, hlt, hvc, hvs, hblk, hbel⟩ := hrel
              by_cases hct : c = tn
              · subst hct
                have hw := HWH.out c hc5 (by omega) rfl
                obtain rfl : rest = [] := by rw [hw] at hvc; injection hvc with hvc; exact hvc.symm
                have hne : ((c : Int) != (c : Int)) = false := by simp
                have HVS := Lib.hid hvs
                have HB := Lib.hid hbel
                have HO := Lib.hid hown
                clear hvs hbel hown hvc hw
                go_wp2
                go_ret2
                exact RTwo.mk ⟨by rw [HVS.out, List.append_nil]; exact HO.out, by rw [HVS.out]; rfl, HB.out⟩
              · obtain ⟨e, s', he5, hs5, hve, hfd, ⟨p, hp1, hp2⟩, hk⟩ := HWS.out c hc5 (by omega) hct
                obtain rfl : rest = (e : Int) :: p := by rw [hp2] at hvc; injection hvc with hvc; exact hvc.symm
                have hne : ((c : Int) != (tn : Int)) = true := by simp; omega
                obtain ⟨wo, rfl⟩ : ∃ wo : World, wo = wr := ⟨_, rfl⟩
                have HVS := Lib.hid hvs
                have HB := Lib.hid hbel
                have HO := Lib.hid hown
                have HP := Lib.hid hp1
                have HBK := Lib.hid hblk
                have HK := Lib.hid hk
                clear hvs hbel hown hvc hp1 hp2 hblk hk
                have hci5 : (c : Int) < 5 := by omega
                go_wp2
                go_loopw [12] (fun ev w1 => ∃ k : Nat, k ≤ e ∧ ev = .int .i64 k ∧ wo.grownBy w1 none) (fun ev _ => 5 - (intOf ev).toNat)
                case atStart => exact ⟨0, Nat.zero_le _, rfl, World.grownBy.refl _ _⟩
                case round =>
                  obtain ⟨k, hke, rfl, hgr⟩ := hrel
                  have hblk : Blk wr (w.heap.size + 1) 3 (ints fl) := (hgr.block _ (Blk.lt HBK.out) (by simp)).trans HBK.out
                  have HG := Lib.hid hgr
                  have hFW : FarW wr wr (w.heap.size + 1) fl := ⟨hblk, World.grownBy.refl _ _⟩
                  have hc1 := hFW.cell h5.1 c hc5
                  have hb1 := h5.2 c hc5
                  clear hgr hblk
                  generalize hdc : fl.getD c 0 = dc at *
                  by_cases hkl : k < e
                  · rcases HK.out k hkl with hneg | ⟨x, hx5, hvx, hfx⟩
                    · clear hFW
                      have hcall : ∀ w0 : World, Calls Try.prog 16 #[.int .i64 c, .int .i64 k] w0 fun r w' => r = .returned (.int .i64 (vstep c k)) ∧ w' = w0 := fun w0 => (specVisitStep c k w0).mono (fun _ _ h => ⟨h.1, h.2.symm⟩)
                      go_wp2_with fail
                      go_quiet ((go_at_call 16; exact Calls.quiet_of_same (hcall _)))
                      go_wp2
                      refine ⟨⟨k + 1, by omega, by go_num, HG.out.os, HG.out.tape, HG.out.output, HG.out.size, HG.out.block⟩, ?_⟩
                      simp [intOf]
                      omega
                    · have hcx := hFW.cell h5.1 x hx5
                      have hcall : ∀ w0 : World, Calls Try.prog 16 #[.int .i64 c, .int .i64 k] w0 fun r w' => r = .returned (.int .i64 (x : Int)) ∧ w' = w0 := fun w0 => (specVisitStep c k w0).mono (fun _ _ h => ⟨by rw [← hvx]; exact h.1, h.2.symm⟩)
                      generalize fl.getD x 0 = dx at *
                      have hxi5 : (x : Int) < 5 := by omega
                      have htest : (dx != dc - 1) = true := by simp; omega
                      have hwr : IntKind.i64.wrap (dc - 1) = dc - 1 := IntWalk.i64_in _ (by omega)
                      clear hFW hvx
                      go_wp2_with fail
                      go_quiet ((go_at_call 16; exact Calls.quiet_of_same (hcall _)))
                      clear hwr
                      go_wp2
                      refine ⟨⟨k + 1, by omega, by go_num, HG.out.os, HG.out.tape, HG.out.output, HG.out.size, HG.out.block⟩, ?_⟩
                      simp [intOf]
                      omega
                  · obtain rfl : k = e := by omega
                    have hcx := hFW.cell h5.1 s' hs5
                    rw [hfd] at hcx
                    have hcall : ∀ w0 : World, Calls Try.prog 16 #[.int .i64 c, .int .i64 k] w0 fun r w' => r = .returned (.int .i64 (s' : Int)) ∧ w' = w0 := fun w0 => (specVisitStep c k w0).mono (fun _ _ h => ⟨by rw [← hve]; exact h.1, h.2.symm⟩)
                    have hxi5 : (s' : Int) < 5 := by omega
                    have htest : (dc - 1 != dc - 1) = false := by simp
                    have hwr : IntKind.i64.wrap (dc - 1) = dc - 1 := IntWalk.i64_in _ (by omega)
                    have HFD := Lib.hid hfd
                    clear hFW hve hfd
                    go_wp2_with fail
                    go_quiet ((go_at_call 16; exact Calls.quiet_of_same (hcall _)))
                    clear hwr
                    have hG5 : wo.grownBy (wr.drewN nq) none := ⟨HG.out.os, HG.out.tape, HG.out.output, HG.out.size, HG.out.block⟩
                    clear hc1 hcx HG
                    generalize wr.drewN nq = w5 at *
                    have hO2 := HO.out.kept hG5 (Classical.em _)
                    have hsz : w.heap.size ≤ w5.heap.size := Nat.le_trans HB.out.size hG5.size
                    have hdl : done.length ≤ 4 := by have := vpath_len HVS.out; rw [List.length_append] at this; omega
                    have HG5 := Lib.hid hG5
                    clear hG5
                    go_wp2_with (first | (at_builtin; refine append_new rfl _ _ 22 rfl 3 _ _ _ Try.underlying22 int_infoD _ w5 _ _ _ rfl hO2 [.int .i64 k] rfl rfl (by simp [Value.oneCell']) (by omega) hsz ?_; intro v' w4 hown4 hg4 hblk4) | (go_at_call 16; refine (hcall _).mono ?_; rintro e w' ⟨rfl, rfl⟩))
                    have hg5 : w5.grownBy w' u6.ownBlock := hg4
                    have hb5 : v'.ownBlock = u6.ownBlock ∨ v'.ownBlock = some (w5.heap.size + 1) := hblk4
                    clear hg4 hblk4
                    have hk5 : Blk w5 (w.heap.size + 1) 3 (ints fl) := (HG5.out.block _ (Blk.lt HBK.out) (by simp)).trans HBK.out
                    have hlt5 := Blk.lt hk5
                    have hz := h5.2 s' hs5
                    have hfd := HFD.out
                    refine ⟨⟨s', done ++ [(k : Int)], p, rfl, hs5, ?_, ?_, by rw [hfd]; omega, HP.out, by rw [List.append_assoc]; exact HVS.out, ?_, ?_⟩, ?_⟩
                    · rw [List.length_append]
                      simpa [ints] using hown4
                    · rcases hb5 with h | h
                      · rw [h]; exact hob
                      · rw [h]; simp; omega
                    · exact (hg5.block _ hlt5 (Ne.symm hob)).trans hk5
                    · exact (HB.out.grown HG5.out HB.out.size (by simp)).grown hg5 hsz (fun b e => (hO2.lt b e).1)
                    · simp only [intOf, Int.toNat_natCast]
                      rw [hfd, hdc]
                      omega
    · have hd1 : (decide (0 ≤ s) && decide (s ≤ 4)) = true := by simp; omega
      have hd2 : (decide (0 ≤ t) && decide (t ≤ 4)) = false := by simp; omega
      have hv : vpath s t = none := by unfold vpath; rw [if_neg (fun h => ht h.2)]
      go_enter Try.func5, Try.ntmps5
      go_wp2_with (first | (go_at_call 15; refine (l1In_any _ _ _ _).mono ?_; rintro e w' ⟨rfl, rfl⟩))
      go_ret2
      exact pathOut_none hv _ (own_of_blk (cs := []) (Blk.new w 3 []) (Nat.le_refl _) rfl (by decide)) ((Below.refl _ _).alloc (Nat.le_refl _) _)
  · have hd1 : (decide (0 ≤ s) && decide (s ≤ 4)) = false := by simp; omega
    have hv : vpath s t = none := by unfold vpath; rw [if_neg (fun h => hs h.1)]
    go_enter Try.func5, Try.ntmps5
    go_wp2_with (first | (go_at_call 15; refine (l1In_any _ _ _ _).mono ?_; rintro e w' ⟨rfl, rfl⟩))
    go_ret2
    exact pathOut_none hv _ (own_of_blk (cs := []) (Blk.new w 3 []) (Nat.le_refl _) rfl (by decide)) ((Below.refl _ _).alloc (Nat.le_refl _) _)
end Go.Proofs.Ytadkplonknlfbaa
