/- PaperDo of the program: the plain word. -/
import Derived.Test.YtpkbipjnobfcdaaPapJ
import Derived.Test.YtpkbipjnobfcdaaPapH
namespace Go.Proofs.Ytpkbipjnobfcdaa
open Go Go.ChangeShapes Go.WideShapes Go.ChangeAt Go.RowKit
set_option linter.unusedVariables false
set_option linter.unusedSimpArgs false
theorem DoAt.below {w0 W W' : World} {n c m lc B : Nat} {HA LA : Option Addr} {k x mk : Int} (h : DoAt w0 W n c m lc HA LA k x mk) (hb : Below B W W') (hB : w0.heap.size + 3 ≤ B) : DoAt w0 W' n c m lc HA LA k x mk :=
  ⟨h.box.below hb (by omega), h.deed.below hb (by omega), h.res.below hb (by omega), h.bel.trans (hb.mono (by omega))⟩
set_option maxRecDepth 100000 in
set_option maxHeartbeats 4000000 in
theorem implPaperDo (HA LA : Option Addr) (n c m lc : Nat) (hs : List HoldV) (ls : List Int) (k x mk : Int) (w : World) (hn : hs.length = n) (hln : ls.length = m) (hr : RdV w HA (holds hs)) (hrl : RdV w LA (ints ls)) (hm : n ≤ 1048576) (hm2 : m ≤ 1048576) :
    Calls Try.prog 17 #[.agg #[.slice HA n c, .slice LA m lc], .agg #[.int .i64 k, .int .i64 x, .int .i64 mk]] w (DoOut w (paperDo ⟨hs, ls⟩ k x mk)) := by
  have HN := Lib.hid hn
  have HLN := Lib.hid hln
  clear hn hln
  go_enter Try.func17, Try.ntmps17
  go_wp2_with fail
  have S0 := doAt_start w n c m lc HA LA k x mk
  generalize ((w.alloc (.cells #[.slice HA n c, .slice LA m lc] 26)).alloc (.cells #[.int .i64 k, .int .i64 x, .int .i64 mk] 41)).alloc (.cells #[.slice none 0 0, .slice none 0 0] 26) = w1 at *
  have x0 := (S0.box).cellAt 0 (by simp)
  have x1 := (S0.box).cellAt 1 (by simp)
  have d0 := (S0.deed).cellAt 0 (by simp)
  have d1 := (S0.deed).cellAt 1 (by simp)
  have d2 := (S0.deed).cellAt 2 (by simp)
  have r0 := (S0.res).cellAt 0 (by simp)
  have r1 := (S0.res).cellAt 1 (by simp)
  have rf0 := (S0.res).frozen 0
  have rf1 := (S0.res).frozen 1
  simp only [List.getElem_cons_zero, List.getElem_cons_succ] at x0 x1 d0 d1 d2 r0 r1
  go_wp2_with fail
  refine (implPapersValid HA LA n c m lc hs ls w1 HN.out HLN.out (hr.below S0.bel) (hrl.below S0.bel) hm hm2).mono ?_
  rintro e w2 ⟨rfl, b2⟩
  have S2 := S0.later b2
  have S2h := Lib.hid S2
  clear x0 x1 d0 d1 d2 r0 r1 rf0 rf1
  clear b2 S0
  have x0 := (S2.box).cellAt 0 (by simp)
  have x1 := (S2.box).cellAt 1 (by simp)
  have d0 := (S2.deed).cellAt 0 (by simp)
  have d1 := (S2.deed).cellAt 1 (by simp)
  have d2 := (S2.deed).cellAt 2 (by simp)
  have r0 := (S2.res).cellAt 0 (by simp)
  have r1 := (S2.res).cellAt 1 (by simp)
  have rf0 := (S2.res).frozen 0
  have rf1 := (S2.res).frozen 1
  simp only [List.getElem_cons_zero, List.getElem_cons_succ] at x0 x1 d0 d1 d2 r0 r1
  cases hok : papOk hs ls with
  | false =>
    have HZ1 : Hid (w2.ownsRow (w.heap.size + 3) 38 2 (.slice none 0 0) 0 (holds [])) := Lib.hid (World.ownsRow_nil _ _ _ _)
    have HZ2 : Hid (w2.ownsRow (w.heap.size + 3) 3 1 (.slice none 0 0) 0 (ints [])) := Lib.hid (World.ownsRow_nil _ _ _ _)
    have HE : Hid (paperDo ⟨hs, ls⟩ k x mk = (⟨[], []⟩, false)) := Lib.hid (by simp [paperDo, papOkV, hok])
    clear hok
    go_wp2_with fail
    have hR := ((S2h.out.res).set_ 0 (.slice none (0) 0)).set_ 1 (.slice none (0) 0)
    have hR1 := (S2h.out.res).set_ 0 (.slice none (0) 0)
    have u0 := hR1.cellAt 1 (by simp)
    have u1 := hR.cellAt 0 (by simp)
    have u2 := hR.cellAt 1 (by simp)
    simp only [List.set_cons_zero, List.set_cons_succ, List.getElem_cons_zero, List.getElem_cons_succ] at u0 u1 u2
    refine bodyPost_ret (v := .tuple #[.agg #[.slice none (0) 0, .slice none (0) 0], .bool false]) (by simp [results, Try.results17, go_sem, *]) rfl ?_
    have h6 : Out (w.heap.size + 1 + 1) (w.heap.size + 3) w2 ((w2.setCell ⟨w.heap.size + 1 + 1, 0, none⟩ (.slice none (0) 0)).setCell ⟨w.heap.size + 1 + 1, 1, none⟩ (.slice none (0) 0)) := out_set (out_set (Out.refl _ _ _) _ _ _ (by omega) (by omega)) _ _ _ (by omega) (by omega)
    refine doOut_mk HE.out rfl rfl (own_base (own_out (HZ1.out) h6 ?_) (Nat.le_add_right _ 3)) (own_base (own_out (HZ2.out) h6 ?_) (Nat.le_add_right _ 3)) (below_out (S2h.out.bel) h6 (by omega))
    · intro g e
      have := ((HZ1.out).lt g e).1
      omega
    · intro g e
      have := ((HZ2.out).lt g e).1
      omega
  | true =>
    have HOK := Lib.hid hok
    have HE : Hid (paperDo ⟨hs, ls⟩ k x mk = pdo ⟨hs, ls⟩ k x mk) := Lib.hid (by unfold paperDo; rw [if_pos (show papOkV ⟨hs, ls⟩ = true from hok)])
    clear hok
    go_wp2_with fail
    refine (implClone HA LA n c m lc hs ls w2 HN.out HLN.out (hr.below S2h.out.bel) (hrl.below S2h.out.bel) hm hm2).mono ?_
    rintro e w3 ⟨_, rfl, CA, cc, CL, clc, rfl, oh3, ol3, b3⟩
    dsimp only at oh3 ol3
    rw [HN.out] at oh3
    rw [HLN.out] at ol3
    dsimp only
    rw [HN.out, HLN.out]
    have hal : Below w3.heap.size w3 (w3.alloc (.cells #[.slice CA n cc, .slice CL m clc] 26)) := (Below.refl _ _).alloc (Nat.le_refl _) _
    have Q4 : PapAt (w3.alloc (.cells #[.slice CA n cc, .slice CL m clc] 26)) w3.heap.size w2.heap.size n cc m clc CA CL hs ls := ⟨HN.out, HLN.out, Blk.new _ _ _, own_later oh3 hal, own_later ol3 hal⟩
    have hsz : w.heap.size + 3 ≤ w2.heap.size := S2h.out.res.lt
    have hb23 := b3.size
    have S4 := (S2h.out.later b3).later hal
    have hb4 : w2.heap.size ≤ (w3.alloc (.cells #[.slice CA n cc, .slice CL m clc] 26)).heap.size := by simp; omega
    clear x0 x1 d0 d1 d2 r0 r1 rf0 rf1
    have x0 := (S4.box).cellAt 0 (by simp)
    have x1 := (S4.box).cellAt 1 (by simp)
    have d0 := (S4.deed).cellAt 0 (by simp)
    have d1 := (S4.deed).cellAt 1 (by simp)
    have d2 := (S4.deed).cellAt 2 (by simp)
    have r0 := (S4.res).cellAt 0 (by simp)
    have r1 := (S4.res).cellAt 1 (by simp)
    have rf0 := (S4.res).frozen 0
    have rf1 := (S4.res).frozen 1
    simp only [List.getElem_cons_zero, List.getElem_cons_succ] at x0 x1 d0 d1 d2 r0 r1
    clear b3 oh3 ol3 hal S2
    go_wp2_with fail
    generalize w3.alloc (.cells #[.slice CA n cc, .slice CL m clc] 26) = w4 at *
    have cD := do_any w3.heap.size w2.heap.size n cc m clc CA CL hs ls k x mk w4 Q4 HOK.out hb4
    unfold PapTo at cD
    generalize hpd : pdo ⟨hs, ls⟩ k x mk = r at *
    obtain ⟨⟨hs2, ls2⟩, bb⟩ := r
    dsimp only at cD
    refine cD.mono ?_
    rintro e w5 ⟨rfl, ⟨n5, c5, m5, lc5, A5, L5, Q5⟩, F5⟩
    have bel5 := F5.below hb23 hb4
    have S5 := S4.below bel5 hsz
    have S5h := Lib.hid S5
    have HN5 := Lib.hid Q5.hn
    have HM5 := Lib.hid Q5.hm
    have O5 := Lib.hid (own_base Q5.hold hsz)
    have P5 := Lib.hid (own_base Q5.left hsz)
    have y0 := Q5.blk.cellAt 0 (by simp)
    have y1 := Q5.blk.cellAt 1 (by simp)
    simp only [List.getElem_cons_zero, List.getElem_cons_succ] at y0 y1
    clear x0 x1 d0 d1 d2 r0 r1 rf0 rf1
    clear Q5 Q4 S4 cD F5 bel5
    have x0 := (S5.box).cellAt 0 (by simp)
    have x1 := (S5.box).cellAt 1 (by simp)
    have d0 := (S5.deed).cellAt 0 (by simp)
    have d1 := (S5.deed).cellAt 1 (by simp)
    have d2 := (S5.deed).cellAt 2 (by simp)
    have r0 := (S5.res).cellAt 0 (by simp)
    have r1 := (S5.res).cellAt 1 (by simp)
    have rf0 := (S5.res).frozen 0
    have rf1 := (S5.res).frozen 1
    simp only [List.getElem_cons_zero, List.getElem_cons_succ] at x0 x1 d0 d1 d2 r0 r1
    go_wp2_with fail
    have hR := ((S5h.out.res).set_ 0 (.slice A5 (n5) c5)).set_ 1 (.slice L5 (m5) lc5)
    have hR1 := (S5h.out.res).set_ 0 (.slice A5 (n5) c5)
    have u0 := hR1.cellAt 1 (by simp)
    have u1 := hR.cellAt 0 (by simp)
    have u2 := hR.cellAt 1 (by simp)
    simp only [List.set_cons_zero, List.set_cons_succ, List.getElem_cons_zero, List.getElem_cons_succ] at u0 u1 u2
    refine bodyPost_ret (v := .tuple #[.agg #[.slice A5 (n5) c5, .slice L5 (m5) lc5], .bool bb]) (by simp [results, Try.results17, go_sem, *]) rfl ?_
    have h6 : Out (w.heap.size + 1 + 1) (w.heap.size + 3) w5 ((w5.setCell ⟨w.heap.size + 1 + 1, 0, none⟩ (.slice A5 (n5) c5)).setCell ⟨w.heap.size + 1 + 1, 1, none⟩ (.slice L5 (m5) lc5)) := out_set (out_set (Out.refl _ _ _) _ _ _ (by omega) (by omega)) _ _ _ (by omega) (by omega)
    refine doOut_mk HE.out HN5.out HM5.out (own_base (own_out O5.out h6 ?_) (Nat.le_add_right _ 3)) (own_base (own_out P5.out h6 ?_) (Nat.le_add_right _ 3)) (below_out (S5h.out.bel) h6 (by omega))
    · intro g e
      have := (O5.out.lt g e).1
      omega
    · intro g e
      have := (P5.out.lt g e).1
      omega
end Go.Proofs.Ytpkbipjnobfcdaa
