/- FnInboxRun returns true, for every code; no condition. -/
import Derived.Test.YtehaacpeamhamaaDrawInbR
import Derived.Test.YtehaacpeamhamaaAlive
import Derived.Test.YtehaacpeamhamaaInbRS
import Derived.Test.YtehaacpeamhamaaSameInb
import Derived.Test.YtehaacpeamhamaaSameI
namespace Go.Proofs.Ytehaacpeamhamaa
open Go Go.ChangeShapes Go.WideShapes Go.ChangeAt Go.RowKit
theorem specRunT {t : TakeV} (next : Int) (A : Option Addr) (n c : Nat) (held : List MessageV) (B : Option Addr) (m d : Nat) (list : List MessageV) (w : World) (ht : runI next held list = t) (hn : held.length = n) (hc : n ≤ c) (hr : RdV w A (messages held)) (hm : n ≤ 1048576) (hln : list.length = m) (hlr : RdV w B (messages list)) (hlm : m ≤ 1048576) :
    Calls Try.prog 7 #[.agg #[.int .i64 next, .slice A n c], .slice B m d] w (TakeOut w t) := ht ▸ specInboxRun next A n c held B m d list w hn hc hr hm hln hlr hlm
/-- an answer that can be read, in new memory -/
def RunRd (w : World) (t : TakeV) : Ending → World → Prop :=
  RVal fun u w' => ∃ (A : Option Addr) (c : Nat) (O : Option Addr) (oc : Nat), u = .tuple #[.agg #[.int .i64 t.next, .slice A t.held.length c], .slice O t.ids.length oc] ∧ RdV w' A (messages t.held) ∧ RdV w' O (ints t.ids) ∧ Below w.heap.size w w'
theorem implRunRd {t : TakeV} (next : Int) (A : Option Addr) (n c : Nat) (held : List MessageV) (B : Option Addr) (m d : Nat) (list : List MessageV) (w : World) (ht : runI next held list = t) (hn : held.length = n) (hr : RdV w A (messages held)) (hm : n ≤ 1048576) (hln : list.length = m) (hlr : RdV w B (messages list)) (hlm : m ≤ 1048576) :
    Calls Try.prog 6 #[.agg #[.int .i64 next, .slice A n c], .slice B m d] w (RunRd w t) := by
  subst ht
  refine (implInboxRun next A n c held B m d list w hn hr hm hln hlr hlm).mono ?_
  rintro e w' ⟨_, rfl, A', c', o, rfl, h1, h2, _, hb⟩
  obtain ⟨O, oc, rfl, _, _⟩ := own_slice h2
  exact RVal.mk ⟨A', c', O, oc, rfl, own_rd h1, own_rd h2, hb⟩
theorem runI_little (next : Int) (held list : List MessageV) : (runI next held list).held.length ≤ 6 ∧ (runI next held list).ids.length ≤ 999 := by
  cases h : inbOk next held with
  | false => rw [runI_bad h]; simp
  | true => rw [runI_ok h]; exact runsI_small h list
theorem idFor_any (n : Int) (w : World) (h0 : 0 ≤ n) (h1 : n ≤ 100000) : Calls Try.prog 10 #[.int .i64 n] w fun e w' => e = .returned (.int .i64 (idOf n)) ∧ w = w' := by
  go_enter Try.func10, Try.ntmps10
  go_wp2_with fail
  go_ret
  exact ⟨by rw [show idOf n = 1 + n * 37 % 999 from by unfold idOf; omega]; rfl, rfl⟩
theorem ids_of_run {list : List MessageV} (hl : AllId list) : (runI 1 [] list).ids = idsFrom 1 (runI 1 [] list).ids.length ∧ ((runI 1 [] list).ids.length : Int) = (runI 1 [] list).next - 1 ∧ (runI 1 [] list).next ≤ 999 ∧ runI 1 [] (twiceM list) = runI 1 [] list := by
  have h : inbOk 1 [] = true := by decide
  have ha : AllId [] := by intro m hm; cases hm
  obtain ⟨h1, h2⟩ := runsI_ok h list
  obtain ⟨_, h3, _⟩ := inbOk_bounds h1
  rw [runI_ok h, runI_ok h]
  exact ⟨runsI_id h ha list hl, h2, h3, runsI_twice h list⟩
theorem keepW {w W : World} {b i j : Nat} {y0 y1 : Value} (hb : Below w.heap.size w W) (lb : b < w.heap.size) (m0 : w.cell? ⟨b, i, none⟩ = some y0) (m1 : w.cell? ⟨b, j, none⟩ = some y1) :
    Below w.heap.size w W ∧ W.cell? ⟨b, i, none⟩ = some y0 ∧ W.cell? ⟨b, j, none⟩ = some y1 :=
  ⟨hb, (hb.cell (p := ⟨b, i, none⟩) lb).trans m0, (hb.cell (p := ⟨b, j, none⟩) lb).trans m1⟩
set_option maxRecDepth 100000 in
set_option maxHeartbeats 4000000 in
theorem walkFnInboxRun (w : World) (A : Option Addr) (n c : Nat) (bs : List Int) (h : Code w A n c bs) :
    Calls Try.prog 3 #[.slice A n c] w fun e w' => e = .returned (.bool true) ∧ Below w.heap.size w w' := by
  by_cases hn : n ≤ 1048576
  · go_enter Try.func3, Try.ntmps3
    go_wp2_with fail
    refine (drawInboxRun_any A n c bs w h).mono ?_
    rintro e w1 ⟨_, rfl, next, A1, n1, c1, held, B, m, d, list, rfl, hq, hx0, hx1, hn7, hlm, hm20, hid, hlr, b1⟩
    clear h hn
    have hal : Below w1.heap.size w1 (w1.alloc (.cells #[.int .i64 next, .slice A1 n1 c1] 25)) := (Below.refl _ _).alloc (Nat.le_refl _) _
    have hP : Blk (w1.alloc (.cells #[.int .i64 next, .slice A1 n1 c1] 25)) w1.heap.size 25 [.int .i64 next, .slice A1 n1 c1] := Blk.new _ _ _
    have HLEN := Lib.hid hq.len
    have hnc := hq.2.1
    have HQ2 := Lib.hid (hq.later hal)
    have HB2 := Lib.hid (below_trans b1 hal)
    have HL2 := Lib.hid (hlr.below hal)
    have HLM := Lib.hid hlm
    obtain ⟨t, ht⟩ : ∃ t, runI next held list = t := ⟨_, rfl⟩
    have hsm := runI_little next held list
    rw [ht] at hsm
    obtain ⟨hsm1, hsm2⟩ := hsm
    have HT := Lib.hid ht
    obtain ⟨hi1, hi2, hi3, hi4⟩ := ids_of_run hid
    have hsm' := runI_little 1 [] list
    obtain ⟨t2, ht2⟩ : ∃ t, runI 1 [] list = t := ⟨_, rfl⟩
    rw [ht2] at hi1 hi2 hi3 hi4 hsm'
    obtain ⟨hsn1, hsn2⟩ := hsm'
    have HT2 := Lib.hid ht2
    have HI1 := Lib.hid hi1
    have HI4 := Lib.hid hi4
    clear hq b1 ht ht2 hlr hlm hid hi1 hi4
    have p0 := hP.cellAt 0 (by simp)
    have p1 := hP.cellAt 1 (by simp)
    simp only [List.getElem_cons_zero, List.getElem_cons_succ] at p0 p1
    go_wp2_with fail
    generalize w1.alloc (.cells #[.int .i64 next, .slice A1 n1 c1] 25) = w2 at *
    refine (implRunRd next A1 n1 c1 held B m d list _ HT.out HLEN.out HQ2.out.rd (by omega) HLM.out HL2.out (by omega)).mono ?_
    rintro e w3 ⟨_, rfl, GA, gc, IA, ic, rfl, G3, I3, hb3⟩
    have hal : Below w3.heap.size w3 (w3.alloc (.cells #[.int .i64 t.next, .slice GA t.held.length gc] 25)) := (Below.refl _ _).alloc (Nat.le_refl _) _
    have hR4 : Blk (w3.alloc (.cells #[.int .i64 t.next, .slice GA t.held.length gc] 25)) w3.heap.size 25 [.int .i64 t.next, .slice GA t.held.length gc] := Blk.new _ _ _
    have hb4 := below_trans hb3 hal
    have hP4 := hP.later hb4
    have HQ4 := Lib.hid (HQ2.out.later hb4)
    have HB4 := Lib.hid (below_trans HB2.out hb4)
    have HL4 := Lib.hid (HL2.out.below hb4)
    have HG4 := Lib.hid (G3.below hal)
    have HI4' := Lib.hid (I3.below hal)
    clear hb3 hal hb4 hP HQ2 HB2 HL2 G3 I3 p0 p1
    have p0 := hP4.cellAt 0 (by simp)
    have p1 := hP4.cellAt 1 (by simp)
    simp only [List.getElem_cons_zero, List.getElem_cons_succ] at p0 p1
    go_wp2_with fail
    generalize w3.alloc (.cells #[.int .i64 t.next, .slice GA t.held.length gc] 25) = w4 at *
    generalize w3.heap.size = r5 at *
    refine (specRunT next A1 n1 c1 held B m d list _ HT.out HLEN.out hnc HQ4.out.rd (by omega) HLM.out HL4.out (by omega)).mono ?_
    rintro e w5 ⟨_, rfl, WA, wn, wcap, WO, rfl, WQ5, WI5, hb5⟩
    have hwn : wn = t.held.length := WQ5.len.symm
    subst hwn
    obtain ⟨VA, vc, rfl, _, _⟩ := own_slice WI5
    have hal : Below w5.heap.size w5 (w5.alloc (.cells #[.int .i64 t.next, .slice WA t.held.length wcap] 25)) := (Below.refl _ _).alloc (Nat.le_refl _) _
    have hS6 : Blk (w5.alloc (.cells #[.int .i64 t.next, .slice WA t.held.length wcap] 25)) w5.heap.size 25 [.int .i64 t.next, .slice WA t.held.length wcap] := Blk.new _ _ _
    have hb6 := below_trans hb5 hal
    have hR6 := hR4.later hb6
    have HB6 := Lib.hid (below_trans HB4.out hb6)
    have HL6 := Lib.hid (HL4.out.below hb6)
    have HG6 := Lib.hid (HG4.out.below hb6)
    have HI6 := Lib.hid (HI4'.out.below hb6)
    have HWQ6 := Lib.hid (WQ5.rd.below hal)
    have HWI6 := Lib.hid ((own_rd WI5).below hal)
    clear WQ5 WI5 hb5 hal hb6 hP4 hR4 HQ4 HB4 HL4 HG4 HI4' p0 p1
    have r0 := hR6.cellAt 0 (by simp)
    have r1 := hR6.cellAt 1 (by simp)
    have s0 := hS6.cellAt 0 (by simp)
    have s1 := hS6.cellAt 1 (by simp)
    simp only [List.getElem_cons_zero, List.getElem_cons_succ] at r0 r1 s0 s1
    clear hR6 hS6
    generalize hml : t.held.length = tm at *
    generalize hil : t.ids.length = tl at *
    have HML := Lib.hid hml
    have HIL := Lib.hid hil
    clear hml hil
    go_wp2_with fail
    generalize w5.alloc (.cells #[.int .i64 t.next, .slice WA tm wcap] 25) = w6 at *
    refine (sameInbox_any t.next GA WA t.held tm gc wcap HML.out _ HG6.out HWQ6.out (by omega)).mono ?_
    rintro e w7 ⟨rfl, hb7⟩
    go_wp2_with fail
    refine (sameInts_any IA VA t.ids tl ic vc HIL.out _ (HI6.out.below hb7) (HWI6.out.below hb7) (by omega)).mono ?_
    rintro e w8 ⟨rfl, hb8⟩
    have hbx := below_trans hb7 hb8
    have HB8 := Lib.hid (below_trans HB6.out hbx)
    have HL8 := Lib.hid (HL6.out.below hbx)
    clear hb7 hb8 hbx HB6 HL6 HG6 HI6 HWQ6 HWI6 r0 r1 s0 s1
    go_wp2_with fail
    refine (implRunRd 1 none 0 0 [] B m d list _ HT2.out rfl RdV.nil_ (by omega) HLM.out HL8.out (by omega)).mono ?_
    rintro e w9 ⟨_, rfl, NA, nc, TA, tc, rfl, N9, T9, hb9⟩
    have hal : Below w9.heap.size w9 (w9.alloc (.cells #[.int .i64 t2.next, .slice NA t2.held.length nc] 25)) := (Below.refl _ _).alloc (Nat.le_refl _) _
    have hN : Blk (w9.alloc (.cells #[.int .i64 t2.next, .slice NA t2.held.length nc] 25)) w9.heap.size 25 [.int .i64 t2.next, .slice NA t2.held.length nc] := Blk.new _ _ _
    have hb10 := below_trans hb9 hal
    have HB10 := Lib.hid (below_trans HB8.out hb10)
    have HL10 := Lib.hid (HL8.out.below hb10)
    have HN10 := Lib.hid (N9.below hal)
    have hT10 := T9.below hal
    have hk2 : ((t2.ids.length : Int) != t2.next - 1) = false := by simp [hi2]
    have n0 := hN.cellAt 0 (by simp)
    have ht1 : 1 ≤ t2.next := by omega
    simp only [List.getElem_cons_zero] at n0
    clear hb9 hal hb10 HB8 HL8 N9 T9
    generalize hml2 : t2.held.length = m2 at *
    generalize hil2 : t2.ids.length = l2 at *
    have HML2 := Lib.hid hml2
    have HIL2 := Lib.hid hil2
    clear hml2 hil2 hi2
    go_wp2_with fail
    generalize w9.alloc (.cells #[.int .i64 t2.next, .slice NA m2 nc] 25) = w10 at *
    generalize hr9 : w9.heap.size = r9 at *
    clear hr9 hk2 n0
    go_loopw [11] (fun i wr => ∃ k : Nat, k ≤ l2 ∧ i = .int .i64 k ∧ Below w10.heap.size w10 wr) (fun i _ => l2 - (intOf i).toNat)
    case atStart => exact ⟨0, Nat.zero_le _, rfl, Below.refl _ _⟩
    case round =>
      obtain ⟨k, hk, rfl, hbl⟩ := hrel
      by_cases hlt : k < l2
      · have hke : k < t2.ids.length := by rw [HIL2.out]; exact hlt
        have hkl : k < (ints t2.ids).length := by rw [ints_len]; exact hke
        obtain ⟨b1, o1, rfl, hl1, hc1⟩ := hT10.pos hkl
        have h1 : wr.cell? ⟨b1, o1 + k, none⟩ = some (ints t2.ids)[k] := (hbl.cell (p := ⟨b1, o1 + k, none⟩) hl1).trans (hc1 k hkl)
        rw [ints_at] at h1
        have hv : t2.ids[k]'hke = idOf ((k : Int) + 1) := by
          have := idsFrom_at 1 l2 k (by rw [idsFrom_len]; exact hlt)
          have e2 := HI1.out
          simp only [e2]
          rw [this]
          congr 1
          omega
        rw [hv] at h1
        have hcl := fun w h0 h1 => idFor_any ((k : Int) + 1) w h0 h1
        have hx : (idOf ((k : Int) + 1) != idOf ((k : Int) + 1)) = false := by simp
        have HCL := Lib.hid hcl
        clear hcl hv hc1
        generalize idOf ((k : Int) + 1) = x at *
        have hki : (k : Int) < (l2 : Int) := by omega
        have hk0 : (0 : Int) ≤ (k : Int) := by omega
        have e1 : IntKind.i64.wrap ((k : Int) + 1) = (k : Int) + 1 := IntWalk.i64_in _ (by omega)
        go_wp2_with fail
        go_quiet ((go_at_call 10; exact Calls.quiet_of_same ((HCL.out _ (by omega) (by omega)).mono (fun e w' h => ⟨h.1, h.2.symm⟩))))
        go_wp2_with fail
        go_roundw
        case rel => exact ⟨k + 1, by omega, by go_num, below_drewN hbl _⟩
        case measure => simp [intOf]; omega
      · obtain ⟨wa, rfl⟩ : ∃ wa : World, wa = wr := ⟨_, rfl⟩
        have hal : Below wa.heap.size wa (wa.alloc (.cells #[] 35)) := (Below.refl _ _).alloc (Nat.le_refl _) _
        have hE : Blk (wa.alloc (.cells #[] 35)) wa.heap.size 35 [] := Blk.new _ _ _
        have HLb := Lib.hid (HL10.out.below hbl)
        have HBb := Lib.hid (below_trans HB10.out hbl)
        have HNb := Lib.hid (HN10.out.below hbl)
        have HTb := Lib.hid (hT10.below hbl)
        have hNb := Lib.hid (hN.later hbl)
        have hown0 := own_of_blk (base := wa.heap.size) (size := 2) (n := 0) hE (Nat.le_refl _) rfl (by decide)
        have hbb : Below wa.heap.size wa (wa.alloc (.cells #[] 35)) := hal
        clear hal hE HL10 HB10 HN10 hT10 hN hbl
        go_wp2_with fail
        generalize wa.alloc (.cells #[] 35) = wb at *
        go_loopw [12, 13] (fun v i wr => ∃ k : Nat, k ≤ m ∧ i = .int .i64 k ∧ wr.ownsRow wa.heap.size 35 2 v (2 * k) (messages (twiceM (list.take k))) ∧ Below wa.heap.size wa wr) (fun _ i _ => m - (intOf i).toNat)
        case atStart => exact ⟨0, Nat.zero_le _, rfl, hown0, hbb⟩
        case round =>
          clear hown0 hbb
          obtain ⟨k, hk, rfl, hown, hB⟩ := hrel
          obtain ⟨VA, vc, rfl, _, _⟩ := own_slice hown
          by_cases hlt : k < m
          · have hke : k < list.length := by rw [HLM.out]; exact hlt
            have hL0 := HLb.out
            obtain ⟨b, o, rfl, hl, d0, d1⟩ := hL0.messageAt hke
            have hst : messages (twiceM (list.take (k + 1))) = messages (twiceM (list.take k)) ++ messages [list[k], list[k]] := by
              rw [List.take_succ_eq_append_getElem hke, twiceM_append, messages_app]
              rfl
            have HST := Lib.hid hst
            clear hst hL0
            generalize list[k] = x at *
            obtain ⟨x0, x1⟩ := x
            dsimp only at d0 d1
            have hki : (k : Int) < (m : Int) := by omega
            have hk0 : (0 : Int) ≤ (k : Int) := by omega
            have hon : ∀ u ∈ [(.int .i64 x0 : Value), .int .i64 x1, .int .i64 x0, .int .i64 x1], u.oneCell' = true := by simp [Value.oneCell']
            have HON := Lib.hid hon
            have hq1 := hB.size
            have HOWN := Lib.hid hown
            have HBE := Lib.hid hB
            have e1 : IntKind.i64.wrap ((k : Int) + 1) = (k : Int) + 1 := IntWalk.i64_in _ (by omega)
            clear hB hown hon
            go_wp2_with fail
            go_region_held3 (fun W => Below wa.heap.size wa W ∧ W.cell? ⟨b, o + k * 2, none⟩ = some (.int .i64 x0) ∧ W.cell? ⟨b, o + k * 2 + 1, none⟩ = some (.int .i64 x1))
              (first
                | exact keepW HBE.out hl d0 d1
                | exact keepW (Below.drew HBE.out) hl d0 d1
                | exact keepW (Below.drew (HBE.out.alloc hq1 _)) hl d0 d1
                | exact kx)
              ((
                 refine step_append_src rfl (.tmp 79) (.tmp 88) 23 rfl 35 _ _ _ Try.underlying23 message_infoD wa.heap.size _ (.slice VA (2 * k) vc) (2 * k) (messages (twiceM (list.take k))) rfl ?own1 (some ⟨wr.heap.size, 0, none⟩) 2 2 [.int .i64 x0, .int .i64 x1, .int .i64 x0, .int .i64 x1] rfl rfl ?rd1 HON.out (by omega) ?le1 ?_
                 case own1 => exact own_later HOWN.out (Below.drew ((Below.refl _ _).alloc (Nat.le_refl _) _))
                 case rd1 => exact (Blk.drew (Blk.new _ _ [.int .i64 x0, .int .i64 x1, .int .i64 x0, .int .i64 x1])).rd
                 case le1 => simp; omega
                 intro v1 w5 hown5 hg5 hb5
                 obtain ⟨A5, c5, rfl, _, _⟩ := own_slice hown5
                 have kb : Below wa.heap.size wa w5 := below_append (Below.drew (HBE.out.alloc hq1 _)) hg5 (own_later HOWN.out (Below.drew ((Below.refl _ _).alloc (Nat.le_refl _) _))) rfl
                 have kx : Below wa.heap.size wa w5 ∧ w5.cell? ⟨b, o + k * 2, none⟩ = some (.int .i64 x0) ∧ w5.cell? ⟨b, o + k * 2 + 1, none⟩ = some (.int .i64 x1) := keepW kb hl d0 d1
                 clear hb5 hg5))
            go_wp2_with fail
            go_roundw
            case rel =>
              refine ⟨k + 1, by omega, by go_num, ?_, kb⟩
              rw [HST.out]
              exact hown5
            case measure => simp [intOf]; omega
          · obtain rfl : k = m := by omega
            have hLx := Lib.hid (HLb.out.below hB)
            have hNx := hNb.out.later hB
            have HTx := Lib.hid (HTb.out.below hB)
            have HNx := Lib.hid (HNb.out.below hB)
            have HBx := Lib.hid (below_trans HBb.out hB)
            have hall : twiceM (list.take k) = twiceM list := by rw [List.take_of_length_le (by rw [HLM.out]; exact Nat.le_refl _)]
            rw [hall] at hown
            have HVx := Lib.hid (own_rd hown)
            have htl : (twiceM list).length = 2 * k := by rw [twiceM_len, HLM.out]
            have HTL := Lib.hid htl
            clear hall htl hown hB HLb HTb HNb HBb hNb HLM
            go_wp2_with fail
            refine (implRunRd 1 none 0 0 [] VA (2 * k) vc (twiceM list) _ HI4.out rfl RdV.nil_ (by omega) HTL.out HVx.out (by omega)).mono ?_
            rintro e wc ⟨_, rfl, ZA, zc, ZO, oc, rfl, Z1, ZI, hbz⟩
            rw [HML2.out, HIL2.out]
            have hal : Below wc.heap.size wc (wc.alloc (.cells #[.int .i64 t2.next, .slice ZA m2 zc] 25)) := (Below.refl _ _).alloc (Nat.le_refl _) _
            have hZ : Blk (wc.alloc (.cells #[.int .i64 t2.next, .slice ZA m2 zc] 25)) wc.heap.size 25 [.int .i64 t2.next, .slice ZA m2 zc] := Blk.new _ _ _
            have hbx := below_trans hbz hal
            have hNy := hNx.later hbx
            have HTy := Lib.hid (HTx.out.below hbx)
            have HNy := Lib.hid (HNx.out.below hbx)
            have HBy := Lib.hid (below_trans HBx.out hbx)
            have HZy := Lib.hid (Z1.below hal)
            have HZI := Lib.hid (ZI.below hal)
            clear hal hbx hbz Z1 ZI hNx HTx HNx HBx HVx hLx
            have n0 := hNy.cellAt 0 (by simp)
            have n1 := hNy.cellAt 1 (by simp)
            have z0 := hZ.cellAt 0 (by simp)
            have z1 := hZ.cellAt 1 (by simp)
            simp only [List.getElem_cons_zero, List.getElem_cons_succ] at n0 n1 z0 z1
            clear hNy hZ
            go_wp2_with fail
            generalize wc.alloc (.cells #[.int .i64 t2.next, .slice ZA m2 zc] 25) = wd at *
            refine (sameInbox_any t2.next ZA NA t2.held m2 zc nc HML2.out _ HZy.out HNy.out (by omega)).mono ?_
            rintro e we ⟨rfl, hbe⟩
            have HTz := Lib.hid (HTy.out.below hbe)
            have HZz := Lib.hid (HZI.out.below hbe)
            have HBz := Lib.hid (below_trans HBy.out hbe)
            clear hbe HTy HZI HBy n0 n1 z0 z1
            go_wp2_with fail
            refine (sameInts_any ZO TA t2.ids l2 oc tc HIL2.out _ HZz.out HTz.out (by omega)).mono ?_
            rintro e wf ⟨rfl, hbf⟩
            have HBf := Lib.hid (below_trans HBz.out hbf)
            clear hbf HBz HZz HTz
            go_wp2_with fail
            refine (alive_any _).mono ?_
            rintro e w' ⟨rfl, rfl⟩
            go_wp2_with fail
            go_ret
            exact ⟨rfl, HBf.out⟩
  · obtain ⟨_, hcap, hmax, _, _⟩ := h
    go_enter Try.func3, Try.ntmps3
    go_wp2_with fail
    go_ret
    exact ⟨rfl, Below.refl _ _⟩
end Go.Proofs.Ytehaacpeamhamaa
