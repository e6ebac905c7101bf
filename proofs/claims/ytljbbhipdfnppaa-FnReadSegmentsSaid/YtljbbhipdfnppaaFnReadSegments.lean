/- FnReadSegments returns true, for every code; no condition. -/
import Derived.Test.YtljbbhipdfnppaaSgSame
import Derived.Test.YtljbbhipdfnppaaDrawStream
import Derived.Test.YtljbbhipdfnppaaAlive

namespace Go.Proofs.Ytljbbhipdfnppaa
open Go Go.ChangeShapes Go.WideShapes Go.ChangeAt Go.RowKit
set_option linter.unusedVariables false
def unt : SegV := ⟨bA [85, 78, 84], [[bA [49]]]⟩
theorem unt_ok : segOk unt.tag unt.ess = true := by decide
theorem unt_text : unt.text = [85, 78, 84, 43, 49, 39] := by decide
set_option maxRecDepth 100000 in
set_option maxHeartbeats 4000000 in
theorem walkFnReadSegments (w : World) (A : Option Addr) (n c : Nat) (bs : List Int) (h : Code w A n c bs) :
    Calls Try.prog 8 #[.slice A n c] w fun e w' => e = .returned (.bool true) ∧ Below w.heap.size w w' := by
  by_cases hn : n ≤ 1048576
  · go_enter Try.func8, Try.ntmps8
    go_wp2_with fail
    refine (drawReadSegments_any A n c bs w h).mono ?_
    rintro e w0 ⟨_, rfl, l, rfl, hl, b0⟩
    obtain ⟨hok, hlen⟩ := rdAll_ok l
    have cS := fun w => specReadSegments l w (by omega)
    have cI := fun w => implReadSegments l w (by omega)
    have hin : ∀ s ∈ rdAll l, s.ess.length ≤ 1099511627776 ∧ ∀ zs ∈ s.ess, zs.length ≤ 1099511627776 := fun s hs => by
      obtain ⟨_, b2, b3, _⟩ := segText_big (hok s hs)
      exact ⟨by omega, fun zs hz => by have := b3 zs hz; omega⟩
    have hbad := rdAll_bad (l := l)
    have htext := rdAll_text (l := l)
    have hmore : rdFine l = true → ∀ w, Calls Try.prog 23 #[.string (txt (l ++ [85, 78, 84, 43, 49, 39]))] w (RTwo fun u b w' => ∃ ps : List SegQ, ps.map SegQ.v = rdAll l ++ [unt] ∧ SegsOwn w' w.heap.size u ps ∧ b = .bool true ∧ Below w.heap.size w w') := fun hf w => by
      have h1 := implReadSegments (l ++ [85, 78, 84, 43, 49, 39]) w (by simp; omega)
      obtain ⟨m1, m2⟩ := rdAll_more hf unt_ok
      rw [unt_text] at m1 m2
      unfold SegsAns at h1
      rw [m1, m2] at h1
      exact h1
    unfold SegsAns at cS cI
    generalize rdFine l = ok at *
    generalize rdAll l = L at *
    have HIN := Lib.hid hin
    generalize hm : L.length = m at *
    have HM := Lib.hid hm
    have hbb : (ok != ok) = false := by simp
    have pl : ∀ ps : List SegQ, ps.map SegQ.v = L → ps.length = m := fun ps e => by rw [← HM.out, ← e, List.length_map]
    have PL := Lib.hid pl
    have HBAD := Lib.hid hbad
    have HTEXT := Lib.hid htext
    have HMORE := Lib.hid hmore
    have HOK := Lib.hid hok
    have B0 := Lib.hid b0
    clear hin hm pl hbad htext hmore b0 h hn hok
    go_wp2_with fail
    refine (cI _).mono ?_
    rintro e w1 ⟨_, _, rfl, ps1, v1, O1, rfl, b1⟩
    obtain ⟨A1, c1, rfl, _, _⟩ := own_slice O1.1
    rw [PL.out ps1 v1] at O1 ⊢
    have R1 : Hid (RdSegs w1 A1 L) := Lib.hid (by have := O1.rd; rw [v1] at this; exact this)
    have B1 := Lib.hid (below_trans B0.out b1)
    clear O1 b1 B0
    go_wp2_with fail
    refine (cS _).mono ?_
    rintro e w2 ⟨_, _, rfl, ps2, v2, O2, rfl, b2⟩
    obtain ⟨A2, c2, rfl, _, _⟩ := own_slice O2.1
    rw [PL.out ps2 v2] at O2 ⊢
    have R2 : Hid (RdSegs w2 A2 L) := Lib.hid (by have := O2.rd; rw [v2] at this; exact this)
    have P2 := Lib.hid (R1.out.below b2)
    have B2 := Lib.hid (below_trans B1.out b2)
    clear O2 b2 B1 R1
    go_wp2_with fail
    refine (sameSegments_any A1 A2 L m c1 c2 HM.out _ P2.out R2.out (by omega) HIN.out).mono ?_
    rintro e w3 ⟨rfl, b3⟩
    have P3 := Lib.hid (P2.out.below b3)
    have B3 := Lib.hid (below_trans B2.out b3)
    clear b3 P2 R2 B2
    cases ok with
    | false =>
      have hL := HBAD.out rfl
      subst hL
      obtain rfl : m = 0 := HM.out.symm
      go_wp2_with fail
      refine (alive_any _).mono ?_
      rintro e w' ⟨rfl, rfl⟩
      go_wp2_with fail
      go_ret
      exact ⟨rfl, B3.out⟩
    | true =>
      have HT := Lib.hid (HTEXT.out rfl)
      go_wp2_with fail
      go_loopw [8, 9] (fun t i wr => ∃ k : Nat, k ≤ m ∧ i = .int .i64 k ∧ t = .string (txt ((L.take k).flatMap SegV.text)) ∧ Below w3.heap.size w3 wr) (fun _ i _ => m - (intOf i).toNat)
      case atStart => exact ⟨0, Nat.zero_le _, rfl, rfl, Below.refl _ _⟩
      case round =>
        obtain ⟨k, hk, rfl, rfl, hb⟩ := hrel
        have hple : ∀ j, ((L.take j).flatMap SegV.text).length ≤ l.length := fun j => by
          have e := congrArg List.length HT.out
          have e2 : L.flatMap SegV.text = (L.take j).flatMap SegV.text ++ (L.drop j).flatMap SegV.text := by rw [← List.flatMap_append, List.take_append_drop]
          rw [e2, List.length_append] at e
          omega
        by_cases hlt : k < m
        · have hkz : k < L.length := by rw [HM.out]; exact hlt
          obtain ⟨b, o, B, cc, rfl, hlb, d0, d1, hr⟩ := (P3.out.below hb).at hkz
          have hst : (L.take (k + 1)).flatMap SegV.text = (L.take k).flatMap SegV.text ++ segText L[k].tag L[k].ess := by
            rw [List.take_succ_eq_append_getElem hkz, List.flatMap_append]
            simp [SegV.text]
          have hp1 := hple (k + 1)
          have hp0 := hple k
          rw [hst, List.length_append] at hp1
          have HST := Lib.hid hst
          have hel := HIN.out L[k] (List.getElem_mem hkz)
          clear hst hple
          generalize L[k] = s at *
          obtain ⟨tg, ess⟩ := s
          dsimp only at d0 d1 hr hp1 hel
          have hcT := fun w (hr : RdRR w B (strss ess)) => implSegmentText tg B ess.length cc ess w rfl hr (by omega)
          have HCT := Lib.hid hcT
          clear hcT
          generalize (L.take k).flatMap SegV.text = tk at *
          generalize segText tg ess = sx at *
          have hcat := run_cat (P := Try.prog) tk sx (by omega)
          have hki : (k : Int) < (m : Int) := by omega
          have e1 : IntKind.i64.wrap ((k : Int) + 1) = (k : Int) + 1 := IntWalk.i64_in _ (by omega)
          have HR := Lib.hid hr
          have HB := Lib.hid hb
          clear hr hb
          go_wp2_with fail
          refine (HCT.out _ HR.out).mono ?_
          rintro e w5 ⟨rfl, b5⟩
          have HB5 := Lib.hid (below_trans HB.out b5)
          clear b5 d0 d1
          go_wp2_with fail
          go_roundw
          case rel => exact ⟨k + 1, by omega, by go_num, by rw [HST.out], HB5.out⟩
          case measure => simp [intOf]; omega
        · obtain rfl : k = m := by omega
          have htl : (L.take k).flatMap SegV.text = l := by rw [List.take_of_length_le (by rw [HM.out]; exact Nat.le_refl _)]; exact HT.out
          rw [htl]
          have hcat := run_cat (P := Try.prog) l [85, 78, 84, 43, 49, 39] (by simp; omega)
          have HMR := Lib.hid (HMORE.out trivial)
          have hql : (l == l) = true := by simp
          have B5 := Lib.hid (below_trans B3.out hb)
          have P5 := Lib.hid (P3.out.below hb)
          clear htl hple hb P3 B3
          go_wp2_with fail
          refine (HMR.out _).mono ?_
          rintro e w6 ⟨_, _, rfl, ps6, v6, O6, rfl, b6⟩
          obtain ⟨A6, c6, rfl, hc61, hc62⟩ := own_slice O6.1
          have hl6 : ps6.length = k + 1 := by
            have := congrArg List.length v6
            rw [List.length_map, List.length_append, HM.out] at this
            exact this
          rw [hl6] at O6 hc61 ⊢
          have R6 : Hid (RdSegs w6 A6 L) := Lib.hid (by have := O6.rd; rw [v6] at this; exact this.front)
          have P6 := Lib.hid (P5.out.below b6)
          have B6 := Lib.hid (below_trans B5.out b6)
          have hkk : ((((k + 1 : Nat)) : Int) == (k : Int) + 1) = true := by simp
          unfold maxLen at hc62
          clear O6 b6 B5 P5
          go_wp2_with fail
          rw [show (min (k : Int) ((k : Int) + 1)).toNat = k from by omega]
          refine (sameSegments_any A6 A1 L k c6 c1 HM.out _ R6.out P6.out (by omega) HIN.out).mono ?_
          rintro e w7 ⟨rfl, b7⟩
          have B7 := Lib.hid (below_trans B6.out b7)
          clear b7
          go_wp2_with fail
          go_ret
          exact ⟨rfl, B7.out⟩
  · obtain ⟨_, hcap, hmax, _, _⟩ := h
    go_enter Try.func8, Try.ntmps8
    go_wp2_with fail
    go_ret
    exact ⟨rfl, Below.refl _ _⟩
end Go.Proofs.Ytljbbhipdfnppaa
