/- The texts that are drawn for reading segments: at most 1100 bytes. -/
import Derived.Test.YtljbbhipdfnppaaDrawSegs
import Derived.Test.YtljbbhipdfnppaaSegTS
import Derived.Deep.RegionWith
namespace Go.Proofs.Ytljbbhipdfnppaa
open Go Go.ChangeShapes Go.WideShapes Go.ChangeAt Go.RowKit
set_option linter.unusedVariables false
theorem only_of_drewT {w w' : World} {row : Option Nat} (h : w.drew.grownBy w' row) : w.grownBy w' row := ⟨h.os, h.tape, h.output, h.size, h.block⟩
theorem Rdr.drewT {w : World} {g q : Nat} (h : Rdr w g q) : Rdr w.drew g q := h
theorem Rdr.allocT {w : World} {g q : Nat} (h : Rdr w g q) (o : Obj) : Rdr (w.alloc o) g q := h.kept ((Below.refl _ _).alloc (Nat.le_refl _) _)
def fiveT : List Value := [.string (txt []), .string (txt [63]), .string (txt [39]), .string (txt [43]), .string (txt [65])]
theorem fiveT_get (v : Int) (h0 : 0 ≤ v) (h1 : v < 5) : ∃ t : List UInt8, fiveT[v.toNat]? = some (.string (txt t)) ∧ t.length ≤ 1 := by
  obtain rfl | rfl | rfl | rfl | rfl : v = 0 ∨ v = 1 ∨ v = 2 ∨ v = 3 ∨ v = 4 := by omega
  all_goals exact ⟨_, rfl, by decide⟩
theorem segText_len (tag : ByteArray) (ess : List (List ByteArray)) : (segText tag ess).length ≤ 344 := by
  unfold segText
  split
  · rename_i h
    have h1 := segUpto_len h ess.length (Nat.le_refl _)
    have h2 := (segOk_parts h).2.1
    rw [List.length_append]
    simp
    omega
  · simp
set_option maxRecDepth 100000 in
set_option maxHeartbeats 4000000 in
theorem l20Stream_any (g q : Nat) (w : World) (hr : Rdr w g q) (hq : q ≤ 1000000) :
    Calls Try.prog 49 #[.pointer (some ⟨g, 0, none⟩)] w (DrawnTxt w g q 400 1100) := by
  go_enter Try.func49, Try.ntmps49
  go_wp2_with fail
  refine (pick_any g q 4 _ hr (by omega) (by omega)).mono ?_
  rintro e w1 ⟨k0, rfl, ⟨hk0, hk1, _⟩, hr1, hg1⟩
  go_wp2_with fail
  go_loopw [3, 4] (fun o i wr => ∃ (k : Nat) (l : List UInt8) (q' : Nat), i = .int .i64 k ∧ o = .string (txt l) ∧ k ≤ 3 ∧ l.length + 344 * k ≤ 1032 ∧ q' + 100 * k ≤ q + 301 ∧ Rdr wr g q' ∧ w.grownBy wr (some g)) (fun _ i _ => (intOf i).toNat)
  case atStart =>
    obtain ⟨k, rfl⟩ := Int.eq_ofNat_of_zero_le hk0
    have := hk1 (by omega)
    exact ⟨k, [], q + 1, rfl, rfl, by omega, by simp; omega, by omega, hr1, hg1⟩
  case round =>
    clear hr1 hg1 hr
    obtain ⟨k, l, q', rfl, rfl, hk4, hlk, hq', hrr, hgr⟩ := hrel
    by_cases hlt0 : 0 < k
    · go_wp2_with fail
      refine (l20Segment_any g q' 0 _ hrr (by omega) (by omega)).mono ?_
      rintro e w2 ⟨_, rfl, tag, A', c', ess, q2, rfl, hO, hL, hq2, hr2, hg2⟩
      have hn4 : ess.length ≤ 4 := hL.2.1
      go_wp2_with fail
      refine (specSegmentText tag A' ess.length c' ess _ rfl hO.rd (by omega)).mono ?_
      rintro e w3 ⟨rfl, hb3⟩
      have hsl := segText_len tag ess
      generalize segText tag ess = sl at *
      have hcat := run_cat (P := Try.prog) l sl (by omega)
      have HG := Lib.hid (only_trans (only_trans hgr hg2) (only_below hb3 g))
      have hr3 := hr2.kept hb3
      clear hg2 hb3 hO hL hr2 hgr hrr
      go_wp2_with fail
      go_roundw
      case rel => exact ⟨k - 1, l ++ sl, q2, by go_num, rfl, by omega, by rw [List.length_append]; omega, by omega, hr3, HG.out⟩
      case measure => simp [intOf]; omega
    · obtain rfl : k = 0 := by omega
      have hsz : (txt l).size = l.length := txt_size l
      by_cases hl0 : l.length = 0
      · have hls : (txt l).size = 0 := by omega
        go_wp2_with fail
        go_ret
        exact RVal.mk ⟨l, q', rfl, by omega, by omega, hrr, hgr⟩
      · have hls : (0 : Int) < ((txt l).size : Int) := by omega
        go_wp2_with fail
        refine (pick_any g q' 3 _ hrr (by omega) (by omega)).mono ?_
        rintro e w2 ⟨z, rfl, _, hr2, hg2⟩
        have HG2 := Lib.hid (only_trans hgr hg2)
        clear hgr hg2 hrr
        by_cases hz : z = 0
        · subst hz
          have hm : (((txt l).size : Nat) : Int) = (l.length : Int) := by omega
          go_wp2_with fail
          refine (pick_any g (q' + 1) (((txt l).size : Nat) : Int) _ hr2 (by omega) (by omega)).mono ?_
          rintro e w3 ⟨y, rfl, ⟨hy0, hy1, _⟩, hr3, hg3⟩
          have hyl := hy1 (by omega)
          obtain ⟨yn, rfl⟩ := Int.eq_ofNat_of_zero_le hy0
          have HG3 := Lib.hid (only_trans HG2.out hg3)
          clear hg3 hr2
          have hup := run_upto (P := Try.prog) 9 Try.underlying9 (txt l) yn (by omega)
          have hfr := run_from (P := Try.prog) 9 Try.underlying9 (txt l) (yn + 1) (by omega)
          have e1 : IntKind.i64.wrap ((yn : Int) + 1) = (yn : Int) + 1 := IntWalk.i64_in _ (by omega)
          rw [show ((yn + 1 : Nat) : Int) = (yn : Int) + 1 from by omega] at hfr
          have htl : (l.take yn).length = yn := by simp; omega
          have hdl : (l.drop (yn + 1)).length = l.length - (yn + 1) := by simp
          rw [show (txt l).data.toList = l from by simp] at hup hfr
          have hT3 := hr3.lt
          go_wp2_with fail
          generalize l.take yn = lt at *
          generalize l.drop (yn + 1) = ld at *
          go_region_with (first
            | (go_at_call 50; (with_reducible refine (pick_any g _ 5 _ hr3.drewT (by omega) (by omega)).mono ?_); rintro e w4 ⟨v, rfl, ⟨hv0, hv1, _⟩, hr4, hg4⟩; obtain ⟨t, ht, htl1⟩ := fiveT_get v hv0 (hv1 (by omega)); have hv5 := hv1 (by omega); have hx := (Blk.new w4 9 fiveT).cell v.toNat; rw [ht] at hx; have hct := run_cat (P := Try.prog) lt t (by omega); have hcu := run_cat (P := Try.prog) (lt ++ t) ld (by rw [List.length_append]; omega); have HG4 := Lib.hid (only_trans HG3.out (only_of_drewT hg4)); have HG5 := Lib.hid (only_trans HG4.out (only_below ((Below.refl _ _).alloc (Nat.le_refl _) (.cells fiveT.toArray 9)) g)); have hr5 := hr4.allocT (.cells fiveT.toArray 9); unfold fiveT at hx hr5)
            | (go_at_call 50; (with_reducible refine (pick_any g _ 5 _ ((hr3.allocT _).drewT) (by omega) (by omega)).mono ?_); rintro e w4 ⟨v, rfl, ⟨hv0, hv1, _⟩, hr5, hg4⟩; obtain ⟨t, ht, htl1⟩ := fiveT_get v hv0 (hv1 (by omega)); have hv5 := hv1 (by omega); have hx := ((Blk.new w3 9 fiveT).drew.only hg4 (by omega)).cell v.toNat; rw [ht] at hx; have hct := run_cat (P := Try.prog) lt t (by omega); have hcu := run_cat (P := Try.prog) (lt ++ t) ld (by rw [List.length_append]; omega); have HG5 := Lib.hid (only_trans (only_trans HG3.out (only_below ((Below.refl _ _).alloc (Nat.le_refl _) (.cells fiveT.toArray 9)) g)) (only_of_drewT hg4))))
          all_goals
            go_wp2_with fail
            go_ret
            exact RVal.mk ⟨lt ++ (t ++ ld), q' + 1 + 1 + 1, rfl, by rw [List.length_append, List.length_append]; omega, by omega, hr5, HG5.out⟩
        · have hzb : (z == 0) = false := by simpa using hz
          go_wp2_with fail
          go_ret
          exact RVal.mk ⟨l, q' + 1, rfl, by omega, by omega, hr2, HG2.out⟩
/-- a text that is drawn -/
theorem drawReadSegment_any (A : Option Addr) (n c : Nat) (bs : List Int) (w : World) (h : Code w A n c bs) :
    Calls Try.prog 27 #[.slice A n c] w (RVal fun v w' => ∃ l : List UInt8, v = .string (txt l) ∧ l.length ≤ 1100 ∧ Below w.heap.size w w') := by
  go_enter Try.func27, Try.ntmps27
  go_wp2_with fail
  refine (open_any A n c bs w h).mono ?_
  rintro e w1 ⟨v, rfl, g, rfl, hg, hr, hb⟩
  go_wp2_with fail
  refine (l20Stream_any g 0 w1 hr (by omega)).mono ?_
  rintro e w2 ⟨_, rfl, l, q', rfl, hl, _, _, hg2⟩
  have HB := Lib.hid (below_only hb hg2 hg)
  clear hb hg2 hr
  go_wp2_with fail
  go_ret
  exact RVal.mk ⟨l, rfl, hl, HB.out⟩
/-- a text that is drawn -/
theorem drawReadSegments_any (A : Option Addr) (n c : Nat) (bs : List Int) (w : World) (h : Code w A n c bs) :
    Calls Try.prog 28 #[.slice A n c] w (RVal fun v w' => ∃ l : List UInt8, v = .string (txt l) ∧ l.length ≤ 1100 ∧ Below w.heap.size w w') := by
  go_enter Try.func28, Try.ntmps28
  go_wp2_with fail
  refine (open_any A n c bs w h).mono ?_
  rintro e w1 ⟨v, rfl, g, rfl, hg, hr, hb⟩
  go_wp2_with fail
  refine (l20Stream_any g 0 w1 hr (by omega)).mono ?_
  rintro e w2 ⟨_, rfl, l, q', rfl, hl, _, _, hg2⟩
  have HB := Lib.hid (below_only hb hg2 hg)
  clear hb hg2 hr
  go_wp2_with fail
  go_ret
  exact RVal.mk ⟨l, rfl, hl, HB.out⟩
end Go.Proofs.Ytljbbhipdfnppaa
