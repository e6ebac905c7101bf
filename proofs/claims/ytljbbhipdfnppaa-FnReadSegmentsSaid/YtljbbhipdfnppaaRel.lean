/- The program's Released and the reference's return the same plain function. -/
import Derived.Test.YtljbbhipdfnppaaRelP
import Derived.Test.YtljbbhipdfnppaaBld
import Derived.Test.YtljbbhipdfnppaaStr
namespace Go.Proofs.Ytljbbhipdfnppaa
open Go Go.ChangeShapes Go.WideShapes Go.ChangeAt Go.RowKit
theorem isMark_true (c : Int) (w : World) (h : mkI c = true) : Calls Try.prog 58 #[.int .u8 c] w fun e w' => e = .returned (.bool true) ∧ w = w' := by
  rcases mkI_cases c with ⟨_, hc⟩ | ⟨h0, _⟩
  · clear h
    rcases hc with rfl | rfl | rfl | rfl
    all_goals
      go_enter Try.func58, Try.ntmps58
      go_wp2
      go_ret
      exact ⟨rfl, rfl⟩
  · rw [h] at h0; cases h0
theorem isMark_false (c : Int) (w : World) (h : mkI c = false) : Calls Try.prog 58 #[.int .u8 c] w fun e w' => e = .returned (.bool false) ∧ w = w' := by
  rcases mkI_cases c with ⟨h0, _⟩ | ⟨_, h1, h2, h3, h4⟩
  · rw [h] at h0; cases h0
  · clear h
    go_enter Try.func58, Try.ntmps58
    go_wp2
    go_ret
    exact ⟨rfl, rfl⟩
set_option maxHeartbeats 1000000 in
theorem implReleased (s : ByteArray) (w : World) (hs : s.size ≤ 274877906944) :
    Calls Try.prog 38 #[.string s] w fun e w' => e = .returned (.string (txt (relL s.data.toList))) ∧ Below w.heap.size w w' := by
  have hB0 := bld_new w
  go_enter Try.func38, Try.ntmps38
  go_wp2
  go_loopw [7] (fun i wr => ∃ k : Nat, k ≤ s.size ∧ i = .int .i64 k ∧ Bld wr w.heap.size w.heap.size (relL (s.data.toList.take k)) ∧ Below w.heap.size w wr) (fun i _ => s.size - (intOf i).toNat)
  case atStart => exact ⟨0, Nat.zero_le _, rfl, hB0, (Below.refl _ _).alloc (Nat.le_refl _) _⟩
  case round =>
    obtain ⟨k, hk, rfl, hb, hbl⟩ := hrel
    have hsz := hbl.size
    have hll : (relL (s.data.toList.take k)).length ≤ 2 * k := by
      rw [relL_len]
      have h1 := mkN_le (s.data.toList.take k)
      have h2 : (s.data.toList.take k).length ≤ k := List.length_take_le _ _
      omega
    by_cases hlt : k < s.size
    · have HT := Lib.hid (relL_take s.data.toList k (by simpa using hlt))
      have HG := Lib.hid (str_get s k hlt)
      generalize relL (s.data.toList.take k) = acc at *
      by_cases hm : mkI (s[k].toNat : Int) = true
      · have HM := Lib.hid hm
        clear hm
        go_wp2_with fail
        refine (isMark_true _ _ HM.out).mono ?_
        rintro e w' ⟨rfl, rfl⟩
        go_wp2_with fail
        refine (writeByte_any w.heap.size w.heap.size acc 63 _ hb (by omega) hsz).mono ?_
        rintro e w1 ⟨rfl, hb1, hbl1⟩
        have hsz1 := hbl1.size
        go_wp2_with fail
        refine (writeByte_any w.heap.size w.heap.size (acc ++ [63]) s[k] _ hb1 (by simp; omega) (by omega)).mono ?_
        rintro e w2 ⟨rfl, hb2, hbl2⟩
        go_wp2_with fail
        go_roundw
        case rel => exact ⟨k + 1, by omega, by go_num, by
          have h2 := hb2
          rw [HT.out, ← HG.out, if_pos (by unfold mk8; exact HM.out)]
          simpa using h2, (hbl.trans hbl1).trans hbl2⟩
        case measure => simp [intOf]; omega
      · have hm : mkI (s[k].toNat : Int) = false := by simpa using hm
        have HM := Lib.hid hm
        clear hm
        go_wp2_with fail
        refine (isMark_false _ _ HM.out).mono ?_
        rintro e w' ⟨rfl, rfl⟩
        go_wp2_with fail
        refine (writeByte_any w.heap.size w.heap.size acc s[k] _ hb (by omega) hsz).mono ?_
        rintro e w1 ⟨rfl, hb1, hbl1⟩
        go_wp2_with fail
        go_roundw
        case rel => exact ⟨k + 1, by omega, by go_num, by
          have h2 := hb1
          rw [HT.out, ← HG.out, if_neg (by unfold mk8; rw [HM.out]; simp)]
          exact h2, hbl.trans hbl1⟩
        case measure => simp [intOf]; omega
    · have hk1 : k = s.size := by omega
      have HL : Hid (relL (s.data.toList.take k) = relL s.data.toList) := Lib.hid (by rw [List.take_of_length_le (by simp; omega)])
      generalize relL (s.data.toList.take k) = acc at *
      clear hk1
      go_wp2_with fail
      refine (string_any w.heap.size w.heap.size acc _ hb hsz).mono ?_
      rintro e w1 ⟨rfl, hbl1⟩
      go_wp2_with fail
      go_ret
      exact ⟨by rw [HL.out]; rfl, hbl.trans hbl1⟩
set_option maxHeartbeats 1000000 in
theorem specReleased (s : ByteArray) (w : World) (hs : s.size ≤ 274877906944) :
    Calls Try.prog 40 #[.string s] w fun e w' => e = .returned (.string (txt (relL s.data.toList))) ∧ w = w' := by
  go_enter Try.func40, Try.ntmps40
  go_wp2
  go_loop [3, 4] (fun o i => ∃ k : Nat, k ≤ s.size ∧ i = .int .i64 k ∧ o = .string (txt (relL (s.data.toList.take k)))) (fun _ i => s.size - (intOf i).toNat)
  case atStart => exact ⟨0, Nat.zero_le _, rfl, rfl⟩
  case round =>
    obtain ⟨k, hk, rfl, rfl⟩ := hrel
    have hll : (relL (s.data.toList.take k)).length ≤ 2 * k := by
      rw [relL_len]
      have h1 := mkN_le (s.data.toList.take k)
      have h2 : (s.data.toList.take k).length ≤ k := List.length_take_le _ _
      omega
    by_cases hlt : k < s.size
    · have HT := Lib.hid (relL_take s.data.toList k (by simpa using hlt))
      have HG := Lib.hid (str_get s k hlt)
      have hsl := run_one (P := Try.prog) 9 Try.underlying9 s k hlt
      generalize relL (s.data.toList.take k) = acc at *
      rcases mkI_cases (s[k].toNat : Int) with ⟨hm, hc⟩ | ⟨hm, h1, h2, h3, h4⟩
      · have HM := Lib.hid hm
        obtain ⟨acc2, h2⟩ : ∃ a, a = acc ++ [63] := ⟨_, rfl⟩
        have hl2 : acc2.length ≤ 2 * k + 1 := by rw [h2]; simp; omega
        have ha1 := run_cat (P := Try.prog) acc [63] (by simp; omega)
        rw [← h2] at ha1
        have ha2 := run_cat (P := Try.prog) acc2 [s[k]] (by simp; omega)
        have H2 := Lib.hid h2
        clear hm h2
        rcases hc with hc | hc | hc | hc
        all_goals
          go_wp2
          go_round
          case rel => exact ⟨k + 1, by omega, by go_num, by rw [HT.out, ← HG.out, if_pos (by unfold mk8; exact HM.out), H2.out, List.append_assoc]; rfl⟩
          case measure => simp [intOf]; omega
      · have HM := Lib.hid hm
        have ha2 := run_cat (P := Try.prog) acc [s[k]] (by simp; omega)
        clear hm
        go_wp2
        go_round
        case rel => exact ⟨k + 1, by omega, by go_num, by rw [HT.out, ← HG.out, if_neg (by unfold mk8; rw [HM.out]; simp)]⟩
        case measure => simp [intOf]; omega
    · have HL : Hid (relL (s.data.toList.take k) = relL s.data.toList) := Lib.hid (by rw [List.take_of_length_le (by simp; omega)])
      generalize relL (s.data.toList.take k) = acc at *
      go_wp2
      go_ret
      exact ⟨by rw [← HL.out]; rfl, rfl⟩
end Go.Proofs.Ytljbbhipdfnppaa
