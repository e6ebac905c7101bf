/- FnInboxMissing returns true, for every code; no condition. -/
import Derived.Test.YtehaacpeamhamaaDrawInbs
import Derived.Test.YtehaacpeamhamaaAlive
import Derived.Test.YtehaacpeamhamaaInbRR
import Derived.Test.YtehaacpeamhamaaInbMS
import Derived.Test.YtehaacpeamhamaaInbQP
namespace Go.Proofs.Ytehaacpeamhamaa
open Go Go.ChangeShapes Go.WideShapes Go.ChangeAt Go.RowKit
theorem keepX {w0 w W : World} {b i : Nat} {y : Value} (h0 : Below w0.heap.size w0 w) (hb : Below w.heap.size w W) (lb : b < w.heap.size) (m0 : w.cell? ⟨b, i, none⟩ = some y) :
    Below w0.heap.size w0 W ∧ W.cell? ⟨b, i, none⟩ = some y :=
  ⟨below_trans h0 hb, (hb.cell (p := ⟨b, i, none⟩) lb).trans m0⟩
theorem keepY {w W : World} {b i : Nat} {y : Value} (hb : Below w.heap.size w W) (lb : b < w.heap.size) (m0 : w.cell? ⟨b, i, none⟩ = some y) :
    Below w.heap.size w W ∧ W.cell? ⟨b, i, none⟩ = some y :=
  ⟨hb, (hb.cell (p := ⟨b, i, none⟩) lb).trans m0⟩
theorem comeM_succ {l : List Int} {k : Nat} (h : k < l.length) : messages (comeM (l.take (k + 1))) = messages (comeM (l.take k)) ++ [.int .i64 l[k], .int .i64 (idOf l[k])] := by
  rw [List.take_succ_eq_append_getElem h, comeM, List.map_append, messages_app]
  rfl
theorem missOut {next : Int} {held : List MessageV} {w : World} {l : List Int} (hl : inbMiss next held = l) (f : FuncId) (args : Array Value) (h : Calls Try.prog f args w (MissOut w next held)) :
    Calls Try.prog f args w (RVal fun u w' => ∃ A c, u = .slice A l.length c ∧ RdV w' A (ints l) ∧ Below w.heap.size w w') := by
  subst hl
  refine h.mono ?_
  rintro e w' ⟨v, rfl, ho, hb⟩
  obtain ⟨A, c, rfl, _, _⟩ := own_slice ho
  exact RVal.mk ⟨A, c, rfl, own_rd ho, hb⟩
set_option maxRecDepth 100000 in
set_option maxHeartbeats 4000000 in
theorem walkFnInboxMissing (w : World) (A : Option Addr) (n c : Nat) (bs : List Int) (h : Code w A n c bs) :
    Calls Try.prog 4 #[.slice A n c] w fun e w' => e = .returned (.bool true) ∧ Below w.heap.size w w' := by
  by_cases hn : n ≤ 1048576
  · go_enter Try.func4, Try.ntmps4
    go_wp2_with fail
    refine (drawInboxMissing_any A n c bs w h).mono ?_
    rintro e w1 ⟨_, rfl, next, A1, n1, c1, held, rfl, hq, hx0, hx1, hn7, b1⟩
    clear h hn
    have hal : Below w1.heap.size w1 (w1.alloc (.cells #[.int .i64 next, .slice A1 n1 c1] 25)) := (Below.refl _ _).alloc (Nat.le_refl _) _
    have hI : Blk (w1.alloc (.cells #[.int .i64 next, .slice A1 n1 c1] 25)) w1.heap.size 25 [.int .i64 next, .slice A1 n1 c1] := Blk.new _ _ _
    have hq2 := Lib.hid (hq.later hal)
    have HLEN := Lib.hid hq.len
    have B2 := Lib.hid (below_trans b1 hal)
    clear hq b1 hal
    obtain ⟨l, hl⟩ : ∃ l, inbMiss next held = l := ⟨_, rfl⟩
    have HLL := Lib.hid hl
    have hl7 := inbMiss_len next held
    rw [hl] at hl7
    clear hl
    obtain ⟨m, hm⟩ : ∃ m, l.length = m := ⟨_, rfl⟩
    rw [hm] at hl7
    have HLM := Lib.hid hm
    clear hm
    go_wp2_with fail
    generalize w1.alloc (.cells #[.int .i64 next, .slice A1 n1 c1] 25) = w2 at *
    have i0 := hI.cellAt 0 (by simp)
    have i1 := hI.cellAt 1 (by simp)
    simp only [List.getElem_cons_zero, List.getElem_cons_succ] at i0 i1
    refine (missOut HLL.out _ _ (implInboxMissing next A1 n1 c1 held _ HLEN.out hq2.out.rd (by omega))).mono ?_
    rintro e w3 ⟨_, rfl, LA, lc, rfl, hL3, hb3⟩
    rw [HLM.out]
    have hI3 := hI.later hb3
    have hq3 := Lib.hid (hq2.out.later hb3)
    have B3 := Lib.hid (below_trans B2.out hb3)
    have HL3 := Lib.hid hL3
    have i0 := hI3.cellAt 0 (by simp)
    have i1 := hI3.cellAt 1 (by simp)
    simp only [List.getElem_cons_zero, List.getElem_cons_succ] at i0 i1
    clear hb3 hI hq2 B2 hL3
    go_wp2_with fail
    refine (missOut HLL.out _ _ (specInboxMissing next A1 n1 c1 held _ HLEN.out hq3.out.rd (by omega))).mono ?_
    rintro e w4 ⟨_, rfl, KA, kc, rfl, hL4, hb4⟩
    rw [HLM.out]
    have hI4 := hI3.later hb4
    have hq4 := Lib.hid (hq3.out.later hb4)
    have B4 := Lib.hid (below_trans B3.out hb4)
    have HL4 := Lib.hid (HL3.out.below hb4)
    have HK4 := Lib.hid hL4
    have i0 := hI4.cellAt 0 (by simp)
    have i1 := hI4.cellAt 1 (by simp)
    simp only [List.getElem_cons_zero, List.getElem_cons_succ] at i0 i1
    clear hb4 hI3 hq3 B3 hL4 HL3
    go_wp2_with fail
    refine (sameInts_any LA KA l m lc kc HLM.out _ HL4.out HK4.out (by omega)).mono ?_
    rintro e w5 ⟨rfl, hb5⟩
    have hI5 := hI4.later hb5
    have hq5 := Lib.hid (hq4.out.later hb5)
    have B5 := Lib.hid (below_trans B4.out hb5)
    have HL5 := Lib.hid (HL4.out.below hb5)
    have i0 := hI5.cellAt 0 (by simp)
    have i1 := hI5.cellAt 1 (by simp)
    simp only [List.getElem_cons_zero, List.getElem_cons_succ] at i0 i1
    clear hb5 hI4 hq4 B4 HL4 HK4
    go_wp2_with fail
    refine (specInboxValid next A1 n1 c1 held _ HLEN.out hq5.out.rd (by omega)).mono ?_
    rintro e w6 ⟨rfl, hb6⟩
    have hI6 := hI5.later hb6
    have hq6 := Lib.hid (hq5.out.later hb6)
    have B6 := Lib.hid (below_trans B5.out hb6)
    have HL6 := Lib.hid (HL5.out.below hb6)
    have i0 := hI6.cellAt 0 (by simp)
    have i1 := hI6.cellAt 1 (by simp)
    simp only [List.getElem_cons_zero, List.getElem_cons_succ] at i0 i1
    clear hb6 hI5 hq5 B5 HL5
    cases hok : inbOk next held with
    | false =>
      have hl0 : l = [] := HLL.out.symm.trans (inbMiss_bad hok)
      subst hl0
      obtain rfl : m = 0 := HLM.out.symm
      clear hok
      go_wp2_with fail
      refine (alive_any _).mono ?_
      rintro e w' ⟨rfl, rfl⟩
      go_wp2_with fail
      go_ret
      exact ⟨rfl, B6.out⟩
    | true =>
      obtain ⟨hn1, hn9, _⟩ := inbOk_bounds hok
      have HOK := Lib.hid hok
      clear hok
      have hal : Below w6.heap.size w6 (w6.alloc (.cells #[] 35)) := (Below.refl _ _).alloc (Nat.le_refl _) _
      have hE : Blk (w6.alloc (.cells #[] 35)) w6.heap.size 35 [] := Blk.new _ _ _
      have hown0 := own_of_blk (base := w6.heap.size) (size := 2) (n := 0) hE (Nat.le_refl _) rfl (by decide)
      have HI6 := Lib.hid hI6
      clear hE hI6
      go_wp2_with fail
      generalize w6.alloc (.cells #[] 35) = wb at *
      go_loopw [5, 6] (fun v i wr => ∃ k : Nat, k ≤ m ∧ i = .int .i64 k ∧ wr.ownsRow w6.heap.size 35 2 v k (messages (comeM (l.take k))) ∧ Below w6.heap.size w6 wr) (fun _ i _ => m - (intOf i).toNat)
      case atStart => exact ⟨0, Nat.zero_le _, rfl, hown0, hal⟩
      case round =>
        clear hown0 hal i0 i1
        obtain ⟨k, hk, rfl, hown, hB⟩ := hrel
        obtain ⟨VA, vc, rfl, _, _⟩ := own_slice hown
        by_cases hlt : k < m
        · have hke : k < l.length := by rw [HLM.out]; exact hlt
          have hkl : k < (ints l).length := by rw [ints_len]; exact hke
          obtain ⟨b, o, rfl, hlb, hc⟩ := HL6.out.pos hkl
          have d0 : w6.cell? ⟨b, o + k, none⟩ = some (ints l)[k] := hc k hkl
          rw [ints_at] at d0
          have hst := comeM_succ hke
          have hxi := inbMiss_in HOK.out (l[k]) (by rw [HLL.out]; exact List.getElem_mem _)
          have HST := Lib.hid hst
          clear hst hc
          generalize l[k] = x at *
          obtain ⟨hx0, hx1⟩ := hxi
          have hki : (k : Int) < (m : Int) := by omega
          have hk0 : (0 : Int) ≤ (k : Int) := by omega
          have hq1 := hB.size
          have HOWN := Lib.hid hown
          have HBE := Lib.hid hB
          have e1 : IntKind.i64.wrap ((k : Int) + 1) = (k : Int) + 1 := IntWalk.i64_in _ (by omega)
          clear hB hown
          go_wp2_with fail
          go_region_held3 (fun W => Below w6.heap.size w6 W ∧ W.cell? ⟨b, o + k, none⟩ = some (.int .i64 x))
            (first
              | exact keepY HBE.out hlb d0
              | exact keepY (Below.drew HBE.out) hlb d0
              | exact keepY (Below.drew (HBE.out.alloc hq1 _)) hlb d0
              | exact kx)
            (first
              | (go_at_call 10; (with_reducible refine (idFor_any x _ (by omega) (by omega)).mono ?_); rintro e w' ⟨rfl, rfl⟩)
              | (
                 refine step_append_src rfl (.tmp 37) (.tmp 48) 23 rfl 35 _ _ _ Try.underlying23 message_infoD w6.heap.size _ (.slice VA k vc) k (messages (comeM (l.take k))) rfl ?own1 (some ⟨wr.heap.size, 0, none⟩) 1 1 [.int .i64 x, .int .i64 (idOf x)] rfl rfl ?rd1 (by simp [Value.oneCell']) (by omega) ?le1 ?_
                 case own1 => exact own_later HOWN.out (Below.drew ((Below.refl _ _).alloc (Nat.le_refl _) _))
                 case rd1 => exact (Blk.drew (Blk.new _ _ [.int .i64 x, .int .i64 (idOf x)])).rd
                 case le1 => simp; omega
                 intro v1 w5 hown5 hg5 hb5
                 obtain ⟨A5, c5, rfl, _, _⟩ := own_slice hown5
                 have kb : Below w6.heap.size w6 w5 := below_append (Below.drew (HBE.out.alloc hq1 _)) hg5 (own_later HOWN.out (Below.drew ((Below.refl _ _).alloc (Nat.le_refl _) _))) rfl
                 have kx : Below w6.heap.size w6 w5 ∧ w5.cell? ⟨b, o + k, none⟩ = some (.int .i64 x) := keepY kb hlb d0
                 clear hb5 hg5))
          go_wp2_with fail
          go_roundw
          case rel =>
            refine ⟨k + 1, by omega, by go_num, ?_, kb⟩
            rw [HST.out]
            exact hown5
          case measure => simp [intOf]; omega
        · obtain rfl : k = m := by omega
          obtain ⟨t, ht⟩ : ∃ t, runI next held (comeM l) = t := ⟨_, rfl⟩
          have hrun := fun h9 => inbMiss_run HOK.out h9
          rw [HLL.out, ht, HLM.out, HLEN.out] at hrun
          have hrun : next + 6 < 999 → t.held.length = 0 ∧ t.ids.length = k + n1 := fun h9 => ⟨by rw [(hrun h9).1]; rfl, (hrun h9).2⟩
          have hsm : t.held.length ≤ 6 ∧ t.ids.length ≤ 999 := by
            rw [← ht, runI_ok HOK.out]; exact runsI_small HOK.out _
          have HT := Lib.hid ht
          have hall : comeM (l.take k) = comeM l := by rw [List.take_of_length_le (by rw [HLM.out]; exact Nat.le_refl _)]
          rw [hall] at hown
          have HV := Lib.hid (own_rd hown)
          have hcl : (comeM l).length = k := by rw [comeM, List.length_map, HLM.out]
          have HCL := Lib.hid hcl
          have hIx := HI6.out.later hB
          have hqx := Lib.hid (hq6.out.later hB)
          have HBx := Lib.hid (below_trans B6.out hB)
          have HLx := Lib.hid (HL6.out.below hB)
          have HRUN := Lib.hid hrun
          have i0 := hIx.cellAt 0 (by simp)
          have i1 := hIx.cellAt 1 (by simp)
          simp only [List.getElem_cons_zero, List.getElem_cons_succ] at i0 i1
          clear hall hown hcl hB HI6 hq6 B6 HL6 ht hrun
          go_wp2_with fail
          refine (implRunRd next A1 n1 c1 held VA k vc (comeM l) _ HT.out HLEN.out hqx.out.rd (by omega) HCL.out HV.out (by omega)).mono ?_
          rintro e w7 ⟨_, rfl, GA, gc, IA, ic, rfl, G7, I7, hb7⟩
          generalize t.held.length = tm at *
          generalize t.ids.length = tl at *
          have hal : Below w7.heap.size w7 (w7.alloc (.cells #[.int .i64 t.next, .slice GA tm gc] 25)) := (Below.refl _ _).alloc (Nat.le_refl _) _
          have hR8 : Blk (w7.alloc (.cells #[.int .i64 t.next, .slice GA tm gc] 25)) w7.heap.size 25 [.int .i64 t.next, .slice GA tm gc] := Blk.new _ _ _
          have hb8 := below_trans hb7 hal
          have hI8 := hIx.later hb8
          have HL8 := Lib.hid (HLx.out.below hb8)
          have HB8 := Lib.hid (below_trans HBx.out hb8)
          clear hb7 hal hb8 hIx hqx HBx HLx G7 I7 i0 i1 HV
          have i0 := hI8.cellAt 0 (by simp)
          have i1 := hI8.cellAt 1 (by simp)
          have r1 := hR8.cellAt 1 (by simp)
          simp only [List.getElem_cons_zero, List.getElem_cons_succ] at i0 i1 r1
          clear hI8 hR8
          have e6 : IntKind.i64.wrap (next + 6) = next + 6 := IntWalk.i64_in _ (by omega)
          by_cases h9 : next + 6 < 999
          · have hnl : ¬ (999 : Int) ≤ next + 6 := by omega
            obtain ⟨z0, z1⟩ := HRUN.out h9
            have e7 : IntKind.i64.wrap ((k : Int) + (n1 : Int)) = (k : Int) + (n1 : Int) := IntWalk.i64_in _ (by omega)
            have z2 : ((tl : Int) == (k : Int) + (n1 : Int)) = true := by simp; omega
            subst z0
            have hl0 : l = next :: missGo next held := HLL.out.symm.trans (inbMiss_ok HOK.out)
            have hkp : 0 < k := by
              have := HLM.out
              rw [hl0] at this
              simp at this
              omega
            have hpos : 0 < (ints l).length := by rw [ints_len, HLM.out]; exact hkp
            have HL8' := HL8.out
            obtain ⟨b, o, rfl, hlb, hc⟩ := HL8'.pos hpos
            have d0 := hc 0 hpos
            rw [ints_at, Nat.add_zero] at d0
            have hl1 : l[0]'(by rw [HLM.out]; exact hkp) = next := by simp only [hl0, List.getElem_cons_zero]
            rw [hl1] at d0
            have hkp' : (0 : Int) < (k : Int) := by omega
            have hnn : (next == next) = true := by simp
            have HHA := Lib.hid (show Asc l by rw [← HLL.out]; exact inbMiss_asc _ _)
            clear hc hl0 hl1 HL8' z1 hpos
            go_wp2_with fail
            generalize w7.alloc (.cells #[.int .i64 t.next, .slice GA 0 gc] 25) = w8 at *
            go_quiet ((go_at_call 16; exact Calls.quiet_of (ascend_any (some ⟨b, o, none⟩) l k lc HLM.out _ HL8.out (by omega) HHA.out)))
            go_wp2_with fail
            go_ret
            exact ⟨rfl, below_drewN HB8.out _⟩
          · have hnl : (999 : Int) ≤ next + 6 := by omega
            go_wp2_with fail
            refine (ascend_any LA l k lc HLM.out _ HL8.out (by omega) (by rw [← HLL.out]; exact inbMiss_asc _ _)).mono ?_
            rintro e w9 ⟨rfl, q, rfl⟩
            go_wp2_with fail
            go_ret
            exact ⟨rfl, below_drewN HB8.out _⟩
  · obtain ⟨_, hcap, hmax, _, _⟩ := h
    go_enter Try.func4, Try.ntmps4
    go_wp2_with fail
    go_ret
    exact ⟨rfl, Below.refl _ _⟩
end Go.Proofs.Ytehaacpeamhamaa
