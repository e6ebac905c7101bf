/- FnInboxTake returns true, for every code; no condition. -/
import Derived.Test.YtnbppfgfmhfgdaaDrawInbT
import Derived.Test.YtnbppfgfmhfgdaaAlive
import Derived.Test.YtnbppfgfmhfgdaaInbTG
import Derived.Test.YtnbppfgfmhfgdaaSameInb
import Derived.Test.YtnbppfgfmhfgdaaSameI
namespace Go.Proofs.Ytnbppfgfmhfgdaa
open Go Go.ChangeShapes Go.WideShapes Go.ChangeAt Go.RowKit
theorem takeI_small' (next : Int) (held : List MessageV) (m : MessageV) : (takeI next held m).held.length ≤ 6 ∧ (takeI next held m).ids.length ≤ 7 := by
  cases h : inbOk next held with
  | false => rw [takeI_bad h]; simp
  | true =>
    obtain ⟨_, _, _, h1, h2⟩ := takeI_law m h
    exact ⟨h2, h1⟩
theorem implTake {t : TakeV} (next : Int) (A : Option Addr) (n c : Nat) (held : List MessageV) (x0 x1 : Int) (w : World) (ht : takeI next held ⟨x0, x1⟩ = t) (hn : held.length = n) (hr : RdV w A (messages held)) (hm : n ≤ 1048576) :
    Calls Try.prog 26 #[.agg #[.int .i64 next, .slice A n c], .agg #[.int .i64 x0, .int .i64 x1]] w (TakeOwn w t) := ht ▸ implInboxTake next A n c held x0 x1 w hn hr hm
theorem implTakeAgain (next : Int) (A : Option Addr) (n c : Nat) (held : List MessageV) (x0 x1 : Int) (w : World) (ht : takeI next held ⟨x0, x1⟩ = ⟨next, held, []⟩) (hn : held.length = n) (hr : RdV w A (messages held)) (hm : n ≤ 1048576) :
    Calls Try.prog 26 #[.agg #[.int .i64 next, .slice A n c], .agg #[.int .i64 x0, .int .i64 x1]] w (RVal fun u w' => ∃ (A' : Option Addr) (c' : Nat) (O : Option Addr) (oc : Nat), u = .tuple #[.agg #[.int .i64 next, .slice A' n c'], .slice O 0 oc] ∧ RdV w' A' (messages held) ∧ Below w.heap.size w w') := by
  refine (implTake next A n c held x0 x1 w ht hn hr hm).mono ?_
  rintro e w' ⟨_, rfl, A', c', o, rfl, h1, h2, _, hb⟩
  obtain ⟨O, oc, rfl, _, _⟩ := own_slice h2
  exact RVal.mk ⟨A', c', O, oc, by simp [hn], own_rd h1, hb⟩
theorem specTake {t : TakeV} (next : Int) (A : Option Addr) (n c : Nat) (held : List MessageV) (x0 x1 : Int) (w : World) (ht : takeI next held ⟨x0, x1⟩ = t) (hn : held.length = n) (hc : n ≤ c) (hr : RdV w A (messages held)) (hm : n ≤ 1048576) :
    Calls Try.prog 24 #[.agg #[.int .i64 next, .slice A n c], .agg #[.int .i64 x0, .int .i64 x1]] w (TakeOut w t) := ht ▸ specInboxTake next A n c held x0 x1 w hn hc hr hm
set_option maxHeartbeats 4000000 in
theorem walkFnInboxTake (w : World) (A : Option Addr) (n c : Nat) (bs : List Int) (h : Code w A n c bs) :
    Calls Try.prog 7 #[.slice A n c] w fun e w' => e = .returned (.bool true) ∧ Below w.heap.size w w' := by
  by_cases hn : n ≤ 1048576
  · go_enter Try.func7, Try.ntmps7
    go_wp2_with fail
    refine (drawInboxTake_any A n c bs w h).mono ?_
    rintro e w1 ⟨_, rfl, next, A1, n1, c1, held, x0, x1, rfl, hq, hx0, hx1, hn7, b1⟩
    clear h hn
    have hal : Below w1.heap.size w1 ((w1.alloc (.cells #[.int .i64 next, .slice A1 n1 c1] 29)).alloc (.cells #[.int .i64 x0, .int .i64 x1] 41)) := ((Below.refl _ _).alloc (Nat.le_refl _) _).alloc (by simp) _
    have hP : Blk ((w1.alloc (.cells #[.int .i64 next, .slice A1 n1 c1] 29)).alloc (.cells #[.int .i64 x0, .int .i64 x1] 41)) w1.heap.size 29 [.int .i64 next, .slice A1 n1 c1] := (Blk.new _ _ _).alloc _
    have hM : Blk ((w1.alloc (.cells #[.int .i64 next, .slice A1 n1 c1] 29)).alloc (.cells #[.int .i64 x0, .int .i64 x1] 41)) (w1.heap.size + 1) 41 [.int .i64 x0, .int .i64 x1] := by simpa using Blk.new (w1.alloc (.cells #[.int .i64 next, .slice A1 n1 c1] 29)) 41 [.int .i64 x0, .int .i64 x1]
    have HLEN := Lib.hid hq.len
    have hnc := hq.2.1
    have HQ2 := Lib.hid (hq.later hal)
    have HB2 := Lib.hid (below_trans b1 hal)
    obtain ⟨t, ht⟩ : ∃ t, takeI next held ⟨x0, x1⟩ = t := ⟨_, rfl⟩
    have HT := Lib.hid ht
    have hsm := takeI_small' next held ⟨x0, x1⟩
    rw [ht] at hsm
    obtain ⟨hsm1, hsm2⟩ := hsm
    clear hq b1 hal ht
    go_wp2_with fail
    generalize (w1.alloc (.cells #[.int .i64 next, .slice A1 n1 c1] 29)).alloc (.cells #[.int .i64 x0, .int .i64 x1] 41) = w2 at *
    have p0 := hP.cellAt 0 (by simp)
    have p1 := hP.cellAt 1 (by simp)
    have m0 := hM.cellAt 0 (by simp)
    have m1 := hM.cellAt 1 (by simp)
    simp only [List.getElem_cons_zero, List.getElem_cons_succ] at p0 p1 m0 m1
    have HP2 := Lib.hid hP
    have HM2 := Lib.hid hM
    clear hP hM
    go_wp2_with fail
    refine (implTake next A1 n1 c1 held x0 x1 _ HT.out HLEN.out HQ2.out.rd (by omega)).mono ?_
    rintro e w3 ⟨_, rfl, GA, gc, GO, rfl, G3, I3, hdis, hb3⟩
    obtain ⟨IA, ic, rfl, _, _⟩ := own_slice I3
    have hal : Below w3.heap.size w3 (w3.alloc (.cells #[.int .i64 t.next, .slice GA t.held.length gc] 29)) := (Below.refl _ _).alloc (Nat.le_refl _) _
    have hR4 : Blk (w3.alloc (.cells #[.int .i64 t.next, .slice GA t.held.length gc] 29)) w3.heap.size 29 [.int .i64 t.next, .slice GA t.held.length gc] := Blk.new _ _ _
    have hb4 := below_trans hb3 hal
    have hP4 := HP2.out.later hb4
    have hM4 := HM2.out.later hb4
    have HQ4 := Lib.hid (HQ2.out.later hb4)
    have HB4 := Lib.hid (below_trans HB2.out hb4)
    have HG4 := Lib.hid (own_later G3 hal)
    have HI4 := Lib.hid (own_later I3 hal)
    have hz3 := hb3.size
    clear G3 I3 hdis hb3 hal hb4 HP2 HM2 HQ2 HB2 p0 p1 m0 m1
    generalize hml : t.held.length = m at *
    generalize hil : t.ids.length = l at *
    have HML := Lib.hid hml
    have HIL := Lib.hid hil
    clear hml hil
    have p0 := hP4.cellAt 0 (by simp)
    have p1 := hP4.cellAt 1 (by simp)
    have m0 := hM4.cellAt 0 (by simp)
    have m1 := hM4.cellAt 1 (by simp)
    simp only [List.getElem_cons_zero, List.getElem_cons_succ] at p0 p1 m0 m1
    go_wp2_with fail
    generalize w3.alloc (.cells #[.int .i64 t.next, .slice GA m gc] 29) = w4 at *
    have HP4 := Lib.hid hP4
    have HM4 := Lib.hid hM4
    have HR4 := Lib.hid hR4
    clear hP4 hM4 hR4
    refine (specTake next A1 n1 c1 held x0 x1 _ HT.out HLEN.out hnc HQ4.out.rd (by omega)).mono ?_
    rintro e w5 ⟨_, rfl, WA, wn, wcap, WO, rfl, WQ5, WI5, hb5⟩
    have hwn : wn = m := by rw [← WQ5.len]; exact HML.out
    rw [HIL.out] at WI5
    obtain ⟨VA, vc, rfl, _, _⟩ := own_slice WI5
    subst hwn
    have hal : Below w5.heap.size w5 (w5.alloc (.cells #[.int .i64 t.next, .slice WA wn wcap] 29)) := (Below.refl _ _).alloc (Nat.le_refl _) _
    have hS6 : Blk (w5.alloc (.cells #[.int .i64 t.next, .slice WA wn wcap] 29)) w5.heap.size 29 [.int .i64 t.next, .slice WA wn wcap] := Blk.new _ _ _
    have hb6 := below_trans hb5 hal
    have hP6 := HP4.out.later hb6
    have hM6 := HM4.out.later hb6
    have hR6 := HR4.out.later hb6
    have HQ6 := Lib.hid (HQ4.out.later hb6)
    have HB6 := Lib.hid (below_trans HB4.out hb6)
    have HG6 := Lib.hid (own_later HG4.out hb6)
    have HI6 := Lib.hid (own_later HI4.out hb6)
    have HWQ6 := Lib.hid (WQ5.later hal)
    have HWI6 := Lib.hid (own_later WI5 hal)
    clear WQ5 WI5 hb5 hal hb6 HP4 HM4 HR4 HQ4 HB4 HG4 HI4 p0 p1 m0 m1
    have r0 := hR6.cellAt 0 (by simp)
    have r1 := hR6.cellAt 1 (by simp)
    have s0 := hS6.cellAt 0 (by simp)
    have s1 := hS6.cellAt 1 (by simp)
    simp only [List.getElem_cons_zero, List.getElem_cons_succ] at r0 r1 s0 s1
    go_wp2_with fail
    generalize w5.alloc (.cells #[.int .i64 t.next, .slice WA wn wcap] 29) = w6 at *
    have HP6 := Lib.hid hP6
    have HM6 := Lib.hid hM6
    have HR6 := Lib.hid hR6
    clear hP6 hM6 hR6 hS6
    refine (sameInbox_any t.next GA WA t.held wn gc wcap HML.out _ (own_rd HG6.out) HWQ6.out.rd (by omega)).mono ?_
    rintro e w7 ⟨rfl, hb7⟩
    go_wp2_with fail
    refine (sameInts_any IA VA t.ids l ic vc HIL.out _ ((own_rd HI6.out).below hb7) ((own_rd HWI6.out).below hb7) (by omega)).mono ?_
    rintro e w8 ⟨rfl, hb8⟩
    have hbx := below_trans hb7 hb8
    have hP8 := HP6.out.later hbx
    have hM8 := HM6.out.later hbx
    have hR8 := HR6.out.later hbx
    have HQ8 := Lib.hid (HQ6.out.later hbx)
    have HB8 := Lib.hid (below_trans HB6.out hbx)
    have HG8 := Lib.hid (own_later HG6.out hbx)
    clear hb7 hb8 hbx HP6 HM6 HR6 HQ6 HB6 HG6 HI6 HWQ6 HWI6 r0 r1 s0 s1
    have p0 := hP8.cellAt 0 (by simp)
    have p1 := hP8.cellAt 1 (by simp)
    simp only [List.getElem_cons_zero, List.getElem_cons_succ] at p0 p1
    go_wp2_with fail
    refine (specInboxValid next A1 n1 c1 held _ HLEN.out HQ8.out.rd (by omega)).mono ?_
    rintro e w9 ⟨rfl, hb9⟩
    have hP9 := hP8.later hb9
    have hM9 := hM8.later hb9
    have hR9 := hR8.later hb9
    have HG9 := Lib.hid (own_later HG8.out hb9)
    have HB9 := Lib.hid (below_trans HB8.out hb9)
    clear hb9 hP8 hM8 hR8 HQ8 HB8 HG8 p0 p1
    have p0 := hP9.cellAt 0 (by simp)
    have m0 := hM9.cellAt 0 (by simp)
    have m1 := hM9.cellAt 1 (by simp)
    have r0 := hR9.cellAt 0 (by simp)
    have r1 := hR9.cellAt 1 (by simp)
    simp only [List.getElem_cons_zero, List.getElem_cons_succ] at p0 m0 m1 r0 r1
    have HP9 := Lib.hid hP9
    have HM9 := Lib.hid hM9
    have HR9 := Lib.hid hR9
    clear hP9 hM9 hR9
    cases hok : inbOk next held with
    | false =>
      have htb := HT.out
      rw [takeI_bad hok] at htb
      subst htb
      have hl0 : l = 0 := HIL.out.symm
      subst hl0
      dsimp only at r0
      clear hok
      go_wp2_with fail
      refine (alive_any _).mono ?_
      rintro e w' ⟨rfl, rfl⟩
      go_wp2_with fail
      go_ret
      exact ⟨rfl, HB9.out⟩
    | true =>
      obtain ⟨k1, k2, k3, _, _⟩ := takeI_law ⟨x0, x1⟩ hok
      rw [HT.out] at k1 k2 k3
      rw [HIL.out] at k2
      have HK1 := Lib.hid k1
      have HK3 := Lib.hid k3
      have HK2 : Hid (((l : Int) == t.next - next) = true) := Lib.hid (by simp [k2])
      obtain ⟨hb1, hb2, _⟩ := inbOk_bounds k1
      have hw : IntKind.i64.wrap (t.next - next) = t.next - next := IntWalk.i64_in _ (by omega)
      have HW := Lib.hid hw
      clear hok k1 k2 k3 hw
      go_wp2_with fail
      refine (implTakeAgain t.next GA wn gc t.held x0 x1 _ HK3.out HML.out (own_rd HG9.out) (by omega)).mono ?_
      rintro e wa ⟨_, rfl, YA, yc, YO, oc, rfl, Y10, hb10⟩
      have hal : Below wa.heap.size wa (wa.alloc (.cells #[.int .i64 t.next, .slice YA wn yc] 29)) := (Below.refl _ _).alloc (Nat.le_refl _) _
      have hZ : Blk (wa.alloc (.cells #[.int .i64 t.next, .slice YA wn yc] 29)) wa.heap.size 29 [.int .i64 t.next, .slice YA wn yc] := Blk.new _ _ _
      have hbx := below_trans hb10 hal
      have HY := Lib.hid (Y10.below hal)
      have hR10 := HR9.out.later hbx
      have hP10 := HP9.out.later hbx
      have HG10 := Lib.hid (own_later HG9.out hbx)
      have HB10 := Lib.hid (below_trans HB9.out hbx)
      clear hb10 hal hbx Y10 HR9 HP9 HM9 HG9 HB9 p0 m0 m1 r0 r1
      have r0 := hR10.cellAt 0 (by simp)
      have r1 := hR10.cellAt 1 (by simp)
      simp only [List.getElem_cons_zero, List.getElem_cons_succ] at r0 r1
      go_wp2_with fail
      generalize wa.alloc (.cells #[.int .i64 t.next, .slice YA wn yc] 29) = wb at *
      refine (implInboxValid t.next GA wn gc t.held _ HML.out (own_rd HG10.out) (by omega)).mono ?_
      rintro e wd ⟨rfl, hbd⟩
      rw [HK1.out]
      have hR11 := hR10.later hbd
      have hP11 := hP10.later hbd
      have hZ11 := hZ.later hbd
      have HG11 := Lib.hid (own_later HG10.out hbd)
      have HB11 := Lib.hid (below_trans HB10.out hbd)
      have HY11 := Lib.hid (HY.out.below hbd)
      clear hbd hR10 hP10 hZ HG10 HB10 HY r0 r1
      have r0 := hR11.cellAt 0 (by simp)
      have r1 := hR11.cellAt 1 (by simp)
      have p0 := hP11.cellAt 0 (by simp)
      have z0 := hZ11.cellAt 0 (by simp)
      have z1 := hZ11.cellAt 1 (by simp)
      simp only [List.getElem_cons_zero, List.getElem_cons_succ] at r0 r1 p0 z0 z1
      have hk2 := HK2.out
      clear hR11 hP11 hZ11
      go_wp2_with fail
      refine (sameInbox_any t.next YA GA t.held wn yc gc HML.out _ HY11.out (own_rd HG11.out) (by omega)).mono ?_
      rintro e we ⟨rfl, hbe⟩
      have HB12 := Lib.hid (below_trans HB11.out hbe)
      clear hbe r0 r1 p0 z0 z1
      go_wp2_with fail
      go_ret
      exact ⟨rfl, HB12.out⟩
  · obtain ⟨_, hcap, hmax, _, _⟩ := h
    go_enter Try.func7, Try.ntmps7
    go_wp2_with fail
    go_ret
    exact ⟨rfl, Below.refl _ _⟩
end Go.Proofs.Ytnbppfgfmhfgdaa
