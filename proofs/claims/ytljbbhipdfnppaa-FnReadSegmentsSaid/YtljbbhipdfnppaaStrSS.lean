/- Lists of lists of texts: copying, comparing. -/
import Derived.Test.YtljbbhipdfnppaaStrS
import Derived.Test.YtljbbhipdfnppaaRRO
import Derived.Deep.RegionHeld3
namespace Go.Proofs.Ytljbbhipdfnppaa
open Go Go.ChangeShapes Go.WideShapes Go.ChangeAt Go.RowKit
theorem strings_info : (Try.prog.info? 28).map (fun i => (i.zero, i.size, i.bytes)) = some (some (.slice none 0 0), 1, 24) := by kernel_rfl
theorem cp_snoc (z : Value) (hs : List Value) (k n : Nat) (h : hs.length = k) (hk : k < n) (u : Value) : (hs ++ List.replicate (n - k) z).set k u = (hs ++ [u]) ++ List.replicate (n - (k + 1)) z := by
  rw [List.set_append_right _ _ (by omega), h, Nat.sub_self]
  obtain ⟨m, hm⟩ : ∃ m, n - k = m + 1 := ⟨n - k - 1, by omega⟩
  have hm' : n - (k + 1) = m := by omega
  rw [hm, hm', List.replicate_succ, List.set_cons_zero, List.append_assoc]
  rfl
set_option maxHeartbeats 1000000 in
theorem eqStringSS_any (A B : Option Addr) (zss : List (List ByteArray)) (n c d : Nat) (hzn : zss.length = n) (w : World) (ha : RdRR w A (strss zss)) (hb : RdRR w B (strss zss)) (hn : n ≤ 1099511627776) (hin : ∀ zs ∈ zss, zs.length ≤ 1099511627776) :
    Calls Try.prog 45 #[.slice A n c, .slice B n d] w fun e w' => e = .returned (.bool true) ∧ Below w.heap.size w w' := by
  have HZ := Lib.hid hzn
  have HI := Lib.hid hin
  clear hzn hin
  have hne : ((n : Int) != (n : Int)) = false := by simp
  go_enter Try.func45, Try.ntmps45
  go_wp2
  go_loopw [5] (fun i wr => ∃ k : Nat, k ≤ n ∧ i = .int .i64 k ∧ Below w.heap.size w wr) (fun i _ => n - (intOf i).toNat)
  case atStart => exact ⟨0, Nat.zero_le _, rfl, Below.refl _ _⟩
  case round =>
    obtain ⟨k, hk, rfl, hbl⟩ := hrel
    by_cases hlt : k < n
    · have hkz : k < zss.length := by rw [HZ.out]; exact hlt
      have hkl : k < (strss zss).length := by rw [strss_len]; exact hkz
      obtain ⟨b1, o1, rfl, hl1, B1, c1, hc1, hle1, hmx1, hr1⟩ := ha.pos hkl
      obtain ⟨b2, o2, rfl, hl2, B2, c2, hc2, hle2, hmx2, hr2⟩ := hb.pos hkl
      have h1 : wr.cell? ⟨b1, o1 + k, none⟩ = some (.slice B1 ((strss zss)[k]).length c1) := (hbl.cell (p := ⟨b1, o1 + k, none⟩) hl1).trans hc1
      have h2 : wr.cell? ⟨b2, o2 + k, none⟩ = some (.slice B2 ((strss zss)[k]).length c2) := (hbl.cell (p := ⟨b2, o2 + k, none⟩) hl2).trans hc2
      have hr1' := hr1.below hbl
      have hr2' := hr2.below hbl
      rw [strss_at] at hr1' hr2'
      simp only [strss_at, strs_len] at h1 h2
      have hml := HI.out zss[k] (List.getElem_mem hkz)
      generalize zss[k] = zs at *
      generalize hm : zs.length = m at *
      have HM := Lib.hid hm
      have hki : (k : Int) < (n : Int) := by omega
      clear hm hr1 hr2 hc1 hc2
      go_wp2_with fail
      go_region_held3 (fun w' => Below wr.heap.size wr w' ∧ w'.cell? ⟨b1, o1 + k, none⟩ = some (.slice B1 m c1) ∧ w'.cell? ⟨b2, o2 + k, none⟩ = some (.slice B2 m c2)) (first | exact ⟨Below.refl _ _, by assumption, by assumption⟩ | exact ⟨Below.drew (Below.refl _ _), by assumption, by assumption⟩ | (exact ⟨hbq, (hbq.cell (p := ⟨b1, o1 + k, none⟩) (Nat.lt_of_lt_of_le hl1 hbl.size)).trans h1, (hbq.cell (p := ⟨b2, o2 + k, none⟩) (Nat.lt_of_lt_of_le hl2 hbl.size)).trans h2⟩))
        (first | (go_at_call 63; (with_reducible refine (eqStringS_any B1 B2 zs m c1 c2 HM.out _ hr1'.drew hr2'.drew (by omega)).mono ?_); rintro e w2 ⟨rfl, hbq0⟩; have hbq : Below wr.heap.size wr w2 := ⟨hbq0.os, hbq0.tape, hbq0.output, hbq0.size, hbq0.block⟩))
      all_goals
        go_wp2_with fail
        go_roundw
        case rel => exact ⟨k + 1, by omega, by go_num, hbl.trans (hbq.mono hbl.size)⟩
        case measure => simp [intOf]; omega
    · go_wp2_with fail
      go_ret
      exact ⟨rfl, hbl⟩
end Go.Proofs.Ytljbbhipdfnppaa
