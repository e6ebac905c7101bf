/- sameTexts, sameSegment: true of equal ones. -/
import Derived.Test.YtljbbhipdfnppaaStrSS
namespace Go.Proofs.Ytljbbhipdfnppaa
open Go Go.ChangeShapes Go.WideShapes Go.ChangeAt Go.RowKit
set_option linter.unusedVariables false
theorem sameTexts_any (A B : Option Addr) (zs : List ByteArray) (n c d : Nat) (hzn : zs.length = n) (w : World) (ha : RdV w A (strs zs)) (hb : RdV w B (strs zs)) (hn : n ≤ 1099511627776) :
    Calls Try.prog 42 #[.slice A n c, .slice B n d] w fun e w' => e = .returned (.bool true) ∧ ∃ q, w' = w.drewN q := by
  have HZ := Lib.hid hzn
  clear hzn
  have hne : ((n : Int) != (n : Int)) = false := by simp
  go_enter Try.func42, Try.ntmps42
  go_wp2
  go_loopw [5] (fun i wr => ∃ k : Nat, k ≤ n ∧ i = .int .i64 k ∧ ∃ q, wr = w.drewN q) (fun i _ => n - (intOf i).toNat)
  case atStart => exact ⟨0, Nat.zero_le _, rfl, 0, rfl⟩
  case round =>
    obtain ⟨k, hk, rfl, q, hq⟩ := hrel
    by_cases hlt : k < n
    · have hkl : k < (strs zs).length := by rw [strs_len, HZ.out]; exact hlt
      obtain ⟨b1, o1, rfl, hl1, hc1⟩ := ha.pos hkl
      obtain ⟨b2, o2, rfl, hl2, hc2⟩ := hb.pos hkl
      have h1 : wr.cell? ⟨b1, o1 + k, none⟩ = some (strs zs)[k] := by rw [hq]; exact hc1 k hkl
      have h2 : wr.cell? ⟨b2, o2 + k, none⟩ = some (strs zs)[k] := by rw [hq]; exact hc2 k hkl
      rw [strs_at] at h1 h2
      generalize (zs[k]'(by rw [HZ.out]; exact hlt)) = x at h1 h2
      have hki : (k : Int) < (n : Int) := by omega
      have HQ := Lib.hid hq
      clear hc1 hc2 hq
      go_wp2
      go_quiet (fail)
      go_wp2
      go_roundw
      case rel => exact ⟨k + 1, by omega, by go_num, q + nq, by rw [HQ.out]; exact World.drewN_drewN _ _ _⟩
      case measure => simp [intOf]; omega
    · go_wp2
      go_ret
      exact ⟨rfl, q, rfl⟩
set_option maxHeartbeats 1000000 in
theorem sameSegment_any (tag : ByteArray) (A B : Option Addr) (zss : List (List ByteArray)) (n c d : Nat) (hzn : zss.length = n) (w : World) (ha : RdRR w A (strss zss)) (hb : RdRR w B (strss zss)) (hn : n ≤ 1099511627776) (hin : ∀ zs ∈ zss, zs.length ≤ 1099511627776) :
    Calls Try.prog 17 #[.agg #[.string tag, .slice A n c], .agg #[.string tag, .slice B n d]] w fun e w' => e = .returned (.bool true) ∧ Below w.heap.size w w' := by
  have HZ := Lib.hid hzn
  have HI := Lib.hid hin
  clear hzn hin
  have hbl : Below w.heap.size w ((w.alloc (.cells #[.string tag, .slice A n c] 25)).alloc (.cells #[.string tag, .slice B n d] 25)) := ((Below.refl _ _).alloc (Nat.le_refl _) _).alloc (by simp) _
  have hP : Blk ((w.alloc (.cells #[.string tag, .slice A n c] 25)).alloc (.cells #[.string tag, .slice B n d] 25)) w.heap.size 25 [.string tag, .slice A n c] := (Blk.new _ _ _).alloc _
  have hQ : Blk ((w.alloc (.cells #[.string tag, .slice A n c] 25)).alloc (.cells #[.string tag, .slice B n d] 25)) (w.heap.size + 1) 25 [.string tag, .slice B n d] := by
    have := Blk.new (w.alloc (.cells #[.string tag, .slice A n c] 25)) 25 [.string tag, .slice B n d]
    simpa using this
  have ha2 := ha.below hbl
  have hb2 := hb.below hbl
  have hne : ((n : Int) != (n : Int)) = false := by simp
  clear ha hb
  go_enter Try.func17, Try.ntmps17
  go_wp2_with fail
  generalize ((w.alloc (.cells #[.string tag, .slice A n c] 25)).alloc (.cells #[.string tag, .slice B n d] 25)) = w0 at *
  go_loopw [5] (fun i wr => ∃ k : Nat, k ≤ n ∧ i = .int .i64 k ∧ Below w0.heap.size w0 wr) (fun i _ => n - (intOf i).toNat)
  case atStart => exact ⟨0, Nat.zero_le _, rfl, Below.refl _ _⟩
  case round =>
    obtain ⟨k, hk, rfl, hb0⟩ := hrel
    have hP1 := hP.later hb0
    have hQ1 := hQ.later hb0
    have x1 := hP1.cellAt 1 (by simp)
    have y1 := hQ1.cellAt 1 (by simp)
    simp only [List.getElem_cons_zero, List.getElem_cons_succ] at x1 y1
    by_cases hlt : k < n
    · have hkz : k < zss.length := by rw [HZ.out]; exact hlt
      have hkl : k < (strss zss).length := by rw [strss_len]; exact hkz
      obtain ⟨b1, o1, rfl, hl1, B1, c1, h1, hle1, hmx1, hr1⟩ := (ha2.below hb0).pos hkl
      obtain ⟨b2, o2, rfl, hl2, B2, c2, h2, hle2, hmx2, hr2⟩ := (hb2.below hb0).pos hkl
      rw [strss_at] at hr1 hr2
      simp only [strss_at, strs_len] at h1 h2
      have hml := HI.out zss[k] (List.getElem_mem hkz)
      generalize zss[k] = zs at *
      generalize hm : zs.length = m at *
      have HM := Lib.hid hm
      have hki : (k : Int) < (n : Int) := by omega
      have e1 : IntKind.i64.wrap ((k : Int) + 1) = (k : Int) + 1 := IntWalk.i64_in _ (by omega)
      have HR1 := Lib.hid hr1
      have HR2 := Lib.hid hr2
      have HB0 := Lib.hid hb0
      clear hm hr1 hr2 hP1 hQ1 hb0
      go_wp2_with fail
      go_quiet ((go_at_call 42; exact Calls.quiet_of (sameTexts_any B1 B2 zs m c1 c2 HM.out _ HR1.out HR2.out (by omega))))
      go_wp2_with fail
      go_roundw
      case rel => exact ⟨k + 1, by omega, by go_num, below_drewN HB0.out _⟩
      case measure => simp [intOf]; omega
    · clear hP1 hQ1
      go_wp2_with fail
      go_ret
      exact ⟨rfl, below_trans hbl hb0⟩
end Go.Proofs.Ytljbbhipdfnppaa
