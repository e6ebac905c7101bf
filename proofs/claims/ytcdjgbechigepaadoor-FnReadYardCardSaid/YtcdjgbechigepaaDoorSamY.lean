/- Yards that are compared; a box that is looked for. -/
import Derived.Test.YtcdjgbechigepaaDoorSameI
import Derived.Test.YtcdjgbechigepaaDoorYdV
namespace Go.Proofs.YtcdjgbechigepaaDoor
open Go Go.ChangeShapes Go.WideShapes Go.ChangeAt Go.RowKit
set_option linter.unusedVariables false
theorem sameInts_q (A B : Option Addr) (zs : List Int) (n c d : Nat) (hzn : zs.length = n) (w : World) (ha : RdV w A (ints zs)) (hb : RdV w B (ints zs)) (hn : n ≤ 1099511627776) :
    Calls Tryd.prog 46 #[.slice A n c, .slice B n d] w fun e w' => e = .returned (.bool true) ∧ ∃ q, w' = w.drewN q := by
  have HZ := Lib.hid hzn
  clear hzn
  have hne : ((n : Int) != (n : Int)) = false := by simp
  go_enter Tryd.func46, Tryd.ntmps46
  go_wp2
  go_loopw [5] (fun i wr => ∃ k : Nat, k ≤ n ∧ i = .int .i64 k ∧ ∃ q, wr = w.drewN q) (fun i _ => n - (intOf i).toNat)
  case atStart => exact ⟨0, Nat.zero_le _, rfl, 0, rfl⟩
  case round =>
    obtain ⟨k, hk, rfl, q, hq⟩ := hrel
    by_cases hlt : k < n
    · have hkl : k < (ints zs).length := by rw [ints_len, HZ.out]; exact hlt
      obtain ⟨b1, o1, rfl, hl1, hc1⟩ := ha.pos hkl
      obtain ⟨b2, o2, rfl, hl2, hc2⟩ := hb.pos hkl
      have h1 : wr.cell? ⟨b1, o1 + k, none⟩ = some (ints zs)[k] := by rw [hq]; exact hc1 k hkl
      have h2 : wr.cell? ⟨b2, o2 + k, none⟩ = some (ints zs)[k] := by rw [hq]; exact hc2 k hkl
      rw [ints_at] at h1 h2
      generalize (zs[k]'(by rw [HZ.out]; exact hlt)) = x at h1 h2
      have hx : (x != x) = false := by simp
      have hki : (k : Int) < (n : Int) := by omega
      have HQ := Lib.hid hq
      clear hc1 hc2 hq
      go_wp2
      go_quiet (fail)
      go_wp2
      go_roundw
      case rel => exact ⟨k + 1, by omega, by go_num, q + nq, by rw [HQ.out]; exact World.drewN_drewN _ _ _⟩
      case measure => simp [intOf]; omega
    · go_wp2
      go_ret
      exact ⟨rfl, q, rfl⟩
theorem sameLists_any (A B : Option Addr) (zss : List (List Int)) (n c d : Nat) (hzn : zss.length = n) (w : World) (ha : RdRR w A (intss zss)) (hb : RdRR w B (intss zss)) (hn : n ≤ 1048576) (hin : ∀ zs ∈ zss, zs.length ≤ 1048576) :
    Calls Tryd.prog 29 #[.slice A n c, .slice B n d] w fun e w' => e = .returned (.bool true) ∧ Below w.heap.size w w' := by
  have HZ := Lib.hid hzn
  have HI := Lib.hid hin
  clear hzn hin
  have hne : ((n : Int) != (n : Int)) = false := by simp
  go_enter Tryd.func29, Tryd.ntmps29
  go_wp2_with fail
  go_loopw [5] (fun i wr => ∃ k : Nat, k ≤ n ∧ i = .int .i64 k ∧ Below w.heap.size w wr) (fun i _ => n - (intOf i).toNat)
  case atStart => exact ⟨0, Nat.zero_le _, rfl, Below.refl _ _⟩
  case round =>
    obtain ⟨k, hk, rfl, hb0⟩ := hrel
    by_cases hlt : k < n
    · have hkz : k < zss.length := by rw [HZ.out]; exact hlt
      have hkl : k < (intss zss).length := by rw [intss_len]; exact hkz
      obtain ⟨b1, o1, rfl, hl1, B1, c1, h1, hle1, hmx1, hr1⟩ := (ha.below hb0).pos hkl
      obtain ⟨b2, o2, rfl, hl2, B2, c2, h2, hle2, hmx2, hr2⟩ := (hb.below hb0).pos hkl
      rw [intss_at] at hr1 hr2
      simp only [intss_at, ints_len] at h1 h2
      have hml := HI.out zss[k] (List.getElem_mem hkz)
      generalize zss[k] = zs at *
      generalize hm : zs.length = m at *
      have HM := Lib.hid hm
      have hki : (k : Int) < (n : Int) := by omega
      have e1 : IntKind.i64.wrap ((k : Int) + 1) = (k : Int) + 1 := IntWalk.i64_in _ (by omega)
      have HR1 := Lib.hid hr1
      have HR2 := Lib.hid hr2
      have HB0 := Lib.hid hb0
      clear hm hr1 hr2 hb0
      go_wp2_with fail
      go_quiet ((go_at_call 46; exact Calls.quiet_of (sameInts_q B1 B2 zs m c1 c2 HM.out _ HR1.out HR2.out (by omega))))
      go_wp2_with fail
      go_roundw
      case rel => exact ⟨k + 1, by omega, by go_num, below_drewN HB0.out _⟩
      case measure => simp [intOf]; omega
    · go_wp2_with fail
      go_ret
      exact ⟨rfl, hb0⟩
theorem sameYard_any (high : Int) (A B : Option Addr) (n c d : Nat) (rows : List (List Int)) (w : World) (hn : rows.length = n) (ha : RdRR w A (intss rows)) (hb : RdRR w B (intss rows)) (hm : n ≤ 1048576) (hin : ∀ zs ∈ rows, zs.length ≤ 1048576) :
    Calls Tryd.prog 12 #[.agg #[.int .i64 high, .slice A n c], .agg #[.int .i64 high, .slice B n d]] w fun e w' => e = .returned (.bool true) ∧ Below w.heap.size w w' := by
  have HN := Lib.hid hn
  have HI := Lib.hid hin
  have heq : (high == high) = true := by simp
  have hbl : Below w.heap.size w ((w.alloc (.cells #[.int .i64 high, .slice A n c] 24)).alloc (.cells #[.int .i64 high, .slice B n d] 24)) := ((Below.refl _ _).alloc (Nat.le_refl _) _).alloc (by simp) _
  have HBL := Lib.hid hbl
  have ha' := ha.below hbl
  have hb' := hb.below hbl
  clear hn hin hbl ha hb
  go_enter Tryd.func12, Tryd.ntmps12
  go_wp2_with fail
  refine (sameLists_any A B rows n c d HN.out _ ha' hb' hm HI.out).mono ?_
  rintro e w1 ⟨rfl, hb1⟩
  go_wp2_with fail
  go_ret
  exact ⟨rfl, below_trans HBL.out hb1⟩
end Go.Proofs.YtcdjgbechigepaaDoor
