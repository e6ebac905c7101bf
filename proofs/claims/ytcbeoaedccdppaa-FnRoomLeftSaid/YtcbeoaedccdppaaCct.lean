/- slices.Grow of nil and slices.Concat at []int. -/
import Derived.Test.YtcbeoaedccdppaaIntSS
import Derived.Test.YtcbeoaedccdppaaYdS
import Derived.Test.YtcbeoaedccdppaaOwnSrc
import Derived.Lib.AppendZeros
namespace Go.Proofs.Ytcbeoaedccdppaa
open Go Go.ChangeShapes Go.WideShapes Go.ChangeAt Go.RowKit
set_option linter.unusedVariables false
/-- how many numbers the first rows have -/
def lenK (rows : List (List Int)) (k : Nat) : Nat := ((rows.take k).flatten).length
theorem lenK_step {rows : List (List Int)} {k : Nat} (h : k < rows.length) : lenK rows (k + 1) = lenK rows k + (rows[k]).length := by
  unfold lenK
  rw [List.take_succ_eq_append_getElem h, List.flatten_append, List.length_append, List.flatten_cons, List.flatten_nil, List.append_nil]
theorem lenK_le (rows : List (List Int)) (k : Nat) : lenK rows k ≤ rows.flatten.length := by
  have h : (rows.take k).flatten.length + (rows.drop k).flatten.length = rows.flatten.length := by
    rw [← List.length_append, ← List.flatten_append, List.take_append_drop]
  unfold lenK
  omega
theorem zeros_ints (k : Nat) : Builtin.zeroCells (Value.cells (.int .i64 0)) k = (List.replicate k (Value.int .i64 0)).toArray := by
  have : (Value.cells (.int .i64 0)) = #[.int .i64 0] := rfl
  rw [this]
  unfold Builtin.zeroCells
  apply Array.ext'
  simp
  apply List.ext_getElem <;> simp [Nat.mod_one]
theorem grow_none (k : Nat) (w : World) (hk : k ≤ 1048576) :
    Calls Try.prog 61 #[.slice none 0 0, .int .i64 k] w (RVal fun u w' => ∃ A c, u = .slice A 0 c ∧ w'.ownsRow w.heap.size 3 1 (.slice A 0 c) 0 [] ∧ Below w.heap.size w w') := by
  by_cases h0 : k = 0
  · subst h0
    go_enter Try.func61, Try.ntmps61
    go_wp2_with fail
    go_ret
    exact RVal.mk ⟨none, 0, rfl, World.ownsRow_nil _ _ _ _, Below.refl _ _⟩
  · obtain ⟨i0, hi0, hinf⟩ := Option.map_eq_some_iff.1 int_info
    simp only [Prod.mk.injEq] at hinf
    obtain ⟨hz0, hzs, hzb⟩ := hinf
    obtain ⟨G, hG⟩ : ∃ G, G = grownCap w k 0 3 := ⟨_, rfl⟩
    have hGn : k ≤ G := by rw [hG]; exact grownCap_ge w _ _ _
    have hGm : G ≤ maxLen := by rw [hG]; exact grownCap_le_maxLen w k 0 _ (by unfold maxLen; omega)
    have hrz : ∀ ty, (Builtin.append_ #[37, 3] ty #[.slice none 0 0, .int .i64 (k : Int)]).run Try.prog w =
        .ok (.slice (some ⟨w.heap.size, 0, none⟩) k G) (w.drew.alloc (.cells (List.replicate k (Value.int .i64 0) ++ List.replicate (G - k) (Value.int .i64 0)).toArray 3)) := fun ty => by
      have h := Lib.run_append_nil_zeros (P := Try.prog) w 37 3 ty 3 i0 _ .i64 .i64 Try.underlying37 Try.underlying3 hi0 hz0 k (by omega) (by omega) (by omega) (by rw [hzb]; omega)
      rw [← hG] at h
      rw [h, zeros_ints, zeros_ints]
      simp
    have hlen : (List.replicate k (Value.int .i64 0) ++ List.replicate (G - k) (Value.int .i64 0)).length = G := by simp; omega
    generalize List.replicate k (Value.int .i64 0) ++ List.replicate (G - k) (Value.int .i64 0) = Z at *
    have hB : Blk (w.drew.alloc (.cells Z.toArray 3)) w.heap.size 3 Z := Blk.new w.drew _ Z
    have HO : Hid ((w.drew.alloc (.cells Z.toArray 3)).ownsRow w.heap.size 3 1 (.slice (some ⟨w.heap.size, 0, none⟩) 0 G) 0 []) := Lib.hid ⟨rfl, .inr ⟨w.heap.size, G, Z.toArray, rfl, Nat.le_refl _, hB, Nat.zero_le _, hGm, by simp [hlen], by simp⟩⟩
    have HB : Hid (Below w.heap.size w (w.drew.alloc (.cells Z.toArray 3))) := Lib.hid ((Below.drew (Below.refl _ _)).alloc (Nat.le_refl _) _)
    generalize w.drew.alloc (.cells Z.toArray 3) = w2 at *
    have hk0 : (0 : Int) < (k : Int) := by omega
    have hGi : (G : Int) ≤ 9223372036854775807 := by unfold maxLen at hGm; omega
    clear hi0 hz0 hzs hzb hG hGm hlen hB
    go_enter Try.func61, Try.ntmps61
    go_wp2_with (at_builtin; refine Lib.wpList_append_run _ rfl _ _ _ _ rfl _ _ rfl rfl _ _ (hrz _) ?_)
    go_ret
    exact RVal.mk ⟨_, G, rfl, HO.out, HB.out⟩
set_option maxHeartbeats 1000000 in
theorem concat_int (A : Option Addr) (n c : Nat) (rows : List (List Int)) (w : World) (hn : rows.length = n) (hr : RdRR w A (intss rows)) (hm : n ≤ 1048576) (htot : rows.flatten.length ≤ 1048576) :
    Calls Try.prog 42 #[.slice A n c] w (RVal fun u w' => ∃ B d, u = .slice B rows.flatten.length d ∧ w'.ownsRow w.heap.size 3 1 (.slice B rows.flatten.length d) rows.flatten.length (ints rows.flatten) ∧ Below w.heap.size w w') := by
  have HN := Lib.hid hn
  have HT := Lib.hid htot
  clear hn htot
  go_enter Try.func42, Try.ntmps42
  go_wp2_with fail
  go_loopw [3, 11, 5] (fun s i _ wr => ∃ k : Nat, k ≤ n ∧ i = .int .i64 k ∧ s = .int .i64 (lenK rows k) ∧ w = wr) (fun _ i _ _ => n - (intOf i).toNat)
  case atStart => exact ⟨0, Nat.zero_le _, rfl, rfl, rfl⟩
  case round =>
    obtain ⟨k, hk, rfl, rfl, rfl⟩ := hrel
    by_cases hlt : k < n
    · have hkz : k < rows.length := by rw [HN.out]; exact hlt
      have hkl : k < (intss rows).length := by rw [intss_len]; exact hkz
      obtain ⟨b1, o, rfl, hl, B, c', hcell, hle, hmx, hrB⟩ := hr.pos hkl
      simp only [intss_at, ints_len] at hcell
      have HS := Lib.hid (lenK_step hkz)
      have h2 : lenK rows (k + 1) ≤ 1048576 := Nat.le_trans (lenK_le rows _) HT.out
      rw [HS.out] at h2
      generalize (rows[k]).length = p at *
      generalize lenK rows k = s at *
      have HS := HS
      clear hrB
      go_wp2_with fail
      go_roundw
      case rel => exact ⟨k + 1, by omega, by go_num, by rw [HS.out]; go_num, trivial⟩
      case measure => simp [intOf]; omega
    · obtain rfl : k = n := by omega
      have HE : Hid (lenK rows k = rows.flatten.length) := Lib.hid (by unfold lenK; rw [List.take_of_length_le (by rw [HN.out]; exact Nat.le_refl _)])
      rw [HE.out]
      have h2 := HT.out
      have HFL := Lib.hid (rfl : rows.flatten.length = rows.flatten.length)
      generalize hT : rows.flatten.length = tot at *
      have HTT := Lib.hid hT
      clear hT HE HFL
      go_wp2_with fail
      refine (grow_none tot _ h2).mono ?_
      rintro e w1 ⟨_, rfl, A1, c1, rfl, hown1, hb1⟩
      go_wp2_with fail
      go_loopw [6, 27, 8] (fun s i _ wr => ∃ (j : Nat) (B : Option Addr) (d : Nat), j ≤ k ∧ i = .int .i64 j ∧ s = .slice B (lenK rows j) d ∧ wr.ownsRow w.heap.size 3 1 (.slice B (lenK rows j) d) (lenK rows j) (ints (rows.take j).flatten) ∧ Below w.heap.size w wr) (fun _ i _ _ => k - (intOf i).toNat)
      case atStart => exact ⟨0, A1, c1, Nat.zero_le _, rfl, rfl, hown1, hb1⟩
      case round =>
        obtain ⟨j, B, d, hj, rfl, rfl, hown, hb⟩ := hrel
        have hrr := hr.below hb
        by_cases hlt2 : j < k
        · have hkz : j < rows.length := by rw [HN.out]; exact hlt2
          have hkl : j < (intss rows).length := by rw [intss_len]; exact hkz
          obtain ⟨b1, o, rfl, hl, B1, c', hcell, hle, hmx, hrB⟩ := hrr.pos hkl
          rw [intss_at] at hrB
          simp only [intss_at, ints_len] at hcell hle
          have HS := Lib.hid (lenK_step hkz)
          have hl2 : lenK rows (j + 1) ≤ 1048576 := Nat.le_trans (lenK_le rows _) (by rw [HTT.out]; exact h2)
          rw [HS.out] at hl2
          have HSI : Hid (ints (rows.take (j + 1)).flatten = ints (rows.take j).flatten ++ ints (rows[j])) := Lib.hid (by rw [List.take_succ_eq_append_getElem hkz, List.flatten_append]; simp [ints])
          have hone := ints_one (rows[j])
          have hil := ints_len (rows[j])
          generalize rows[j] = zs at *
          generalize zs.length = p at *
          generalize lenK rows j = s at *
          generalize ints (rows.take j).flatten = xs at *
          generalize ints zs = ys at *
          have hsz := hb.size
          have HB := Lib.hid hb
          have HIL := Lib.hid hil
          have HRB := Lib.hid hrB
          have HOWN := Lib.hid hown
          have HONE := Lib.hid hone
          clear hb hrB hil hown hone
          go_wp2_with (at_builtin; refine append_src rfl (.tmp 31) (.tmp 32) 37 rfl 3 _ _ _ Try.underlying37 int_infoY w.heap.size _ _ s xs rfl HOWN.out B1 p c' ys rfl (by rw [HIL.out, Nat.mul_one]) HRB.out HONE.out (by omega) hsz ?_; intro v6 w6 hown6 hg6 hblk6)
          obtain ⟨B6, d6, rfl, _, _⟩ := own_slice hown6
          have hb6 := below_append HB.out hg6 HOWN.out rfl
          go_roundw
          case rel => exact ⟨j + 1, B6, d6, by omega, by go_num, by rw [HS.out], by rw [HS.out, HSI.out]; exact hown6, hb6⟩
          case measure => simp [intOf]; omega
        · obtain rfl : j = k := by omega
          have HE : Hid (lenK rows j = tot) := Lib.hid (by unfold lenK; rw [List.take_of_length_le (by rw [HN.out]; exact Nat.le_refl _)]; exact HTT.out)
          have HF : Hid (rows.take j = rows) := Lib.hid (List.take_of_length_le (by rw [HN.out]; exact Nat.le_refl _))
          rw [HE.out, HF.out] at hown
          rw [HE.out]
          go_wp2_with fail
          go_ret
          exact RVal.mk ⟨B, d, by rw [HTT.out]; rfl, by rw [HTT.out]; exact hown, hb⟩
end Go.Proofs.Ytcbeoaedccdppaa
