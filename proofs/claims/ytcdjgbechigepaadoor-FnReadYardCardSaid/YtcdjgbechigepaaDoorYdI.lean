/- Lists of ids, stacks: both programs return the plain word. -/
import Derived.Test.YtcdjgbechigepaaDoorInI
import Derived.Test.YtcdjgbechigepaaDoorYdP
import Derived.Test.YtcdjgbechigepaaDoorIntSS
import Derived.Test.YtcdjgbechigepaaDoorWithin
namespace Go.Proofs.YtcdjgbechigepaaDoor
open Go Go.ChangeShapes Go.WideShapes Go.ChangeAt Go.RowKit
theorem within_any (a lo hi : Int) (w : World) : Calls Tryd.prog 31 #[.int .i64 a, .int .i64 lo, .int .i64 hi] w fun r w' => r = .returned (.bool (inI a lo hi)) ∧ w = w' := by
  by_cases h : lo ≤ a ∧ a ≤ hi
  · rw [show inI a lo hi = true from by simp [inI, h]]; exact within_true a lo hi w h.1 h.2
  · rw [show inI a lo hi = false from by simp [inI]; omega]; exact within_false a lo hi w (by omega)
theorem l1In_any (a lo hi : Int) (w : World) : Calls Tryd.prog 36 #[.int .i64 a, .int .i64 lo, .int .i64 hi] w fun r w' => r = .returned (.bool (inI a lo hi)) ∧ w = w' := by
  by_cases h : lo ≤ a ∧ a ≤ hi
  · rw [show inI a lo hi = true from by simp [inI, h]]; exact l1In_true a lo hi w h.1 h.2
  · rw [show inI a lo hi = false from by simp [inI]; omega]; exact l1In_false a lo hi w (by omega)
theorem isId_any (a : Int) (w : World) : Calls Tryd.prog 51 #[.int .i64 a] w fun r w' => r = .returned (.bool (idI a)) ∧ w = w' := by
  by_cases h : 1 ≤ a ∧ a ≤ 999
  · rw [show idI a = true from by simp [idI, h]]; exact isId_true a w h.1 h.2
  · rw [show idI a = false from by simp [idI]; omega]; exact isId_false a w (by omega)
set_option maxHeartbeats 1000000 in
theorem index_int (A : Option Addr) (n c : Nat) (zs : List Int) (x : Int) (w : World) (hn : zs.length = n) (hr : RdV w A (ints zs)) (hm : n ≤ 9223372036854775807) :
    Calls Tryd.prog 68 #[.slice A n c, .int .i64 x] w fun e w' => (∃ i : Int, e = .returned (.int .i64 i) ∧ decide (0 ≤ i) = hasI zs x) ∧ w = w' := by
  have HN := Lib.hid hn
  clear hn
  go_enter Tryd.func68, Tryd.ntmps68
  go_wp2
  go_loop [8, 5] (fun i _ => ∃ k : Nat, k ≤ n ∧ i = .int .i64 k ∧ Hid (hasI (zs.take k) x = false)) (fun i _ => n - (intOf i).toNat)
  case atStart => exact ⟨0, Nat.zero_le _, rfl, Lib.hid (by simp [hasI])⟩
  case round =>
    obtain ⟨k, hk, rfl, HJ⟩ := hrel
    by_cases hlt : k < n
    · have hkz : k < zs.length := by rw [HN.out]; exact hlt
      have hkl : k < (ints zs).length := by rw [ints_len]; exact hkz
      obtain ⟨b, o, rfl, hl, hc⟩ := hr.pos hkl
      have h1 := hc k hkl
      rw [ints_at] at h1
      have HY := Lib.hid (has_yes (x := x) hkz)
      have HS := Lib.hid (has_step (x := x) hkz HJ.out)
      generalize zs[k] = y at *
      clear hc
      by_cases hxy : y = x
      · have HT := Lib.hid (HY.out hxy)
        have hd : (x == y) = true := by simp [hxy]
        clear hxy
        go_wp2
        go_ret
        exact ⟨⟨_, rfl, by rw [HT.out]; simp⟩, rfl⟩
      · have HT := Lib.hid (HS.out hxy)
        have hd : (x == y) = false := by simpa using fun h => hxy h.symm
        clear hxy
        go_wp2
        go_round
        case rel => exact ⟨k + 1, by omega, by go_num, HT⟩
        case measure => simp [intOf]; omega
    · obtain rfl : k = n := by omega
      have htl : zs.take k = zs := List.take_of_length_le (by rw [HN.out]; exact Nat.le_refl _)
      rw [htl] at HJ
      clear htl
      go_wp2
      go_ret
      exact ⟨⟨_, rfl, by rw [HJ.out]; decide⟩, rfl⟩
theorem contains_int (A : Option Addr) (n c : Nat) (zs : List Int) (x : Int) (w : World) (hn : zs.length = n) (hr : RdV w A (ints zs)) (hm : n ≤ 9223372036854775807) :
    Calls Tryd.prog 52 #[.slice A n c, .int .i64 x] w fun e w' => e = .returned (.bool (hasI zs x)) ∧ w = w' := by
  have HN := Lib.hid hn
  clear hn
  go_enter Tryd.func52, Tryd.ntmps52
  go_wp2_with fail
  refine (index_int A n c zs x w HN.out hr hm).mono ?_
  rintro e w' ⟨⟨i, rfl, hi⟩, rfl⟩
  have HI := Lib.hid hi
  clear hi
  go_wp2_with fail
  go_ret
  exact ⟨by rw [← HI.out]; rfl, rfl⟩
set_option maxHeartbeats 1000000 in
theorem l1Has_any (A : Option Addr) (n c : Nat) (zs : List Int) (x : Int) (w : World) (hn : zs.length = n) (hr : RdV w A (ints zs)) (hm : n ≤ 9223372036854775806) :
    Calls Tryd.prog 38 #[.slice A n c, .int .i64 x] w fun e w' => e = .returned (.bool (hasI zs x)) ∧ w = w' := by
  have HN := Lib.hid hn
  clear hn
  go_enter Tryd.func38, Tryd.ntmps38
  go_wp2
  go_loop [5] (fun i => ∃ k : Nat, k ≤ n ∧ i = .int .i64 k ∧ Hid (hasI (zs.take k) x = false)) (fun i => n - (intOf i).toNat)
  case atStart => exact ⟨0, Nat.zero_le _, rfl, Lib.hid (by simp [hasI])⟩
  case round =>
    obtain ⟨k, hk, rfl, HJ⟩ := hrel
    by_cases hlt : k < n
    · have hkz : k < zs.length := by rw [HN.out]; exact hlt
      have hkl : k < (ints zs).length := by rw [ints_len]; exact hkz
      obtain ⟨b, o, rfl, hl, hc⟩ := hr.pos hkl
      have h1 := hc k hkl
      rw [ints_at] at h1
      have HY := Lib.hid (has_yes (x := x) hkz)
      have HS := Lib.hid (has_step (x := x) hkz HJ.out)
      generalize zs[k] = y at *
      clear hc
      by_cases hxy : y = x
      · have HT := Lib.hid (HY.out hxy)
        have hd : (y == x) = true := by simp [hxy]
        clear hxy
        go_wp2
        go_ret
        exact ⟨by rw [HT.out]; rfl, rfl⟩
      · have HT := Lib.hid (HS.out hxy)
        have hd : (y == x) = false := by simpa using hxy
        clear hxy
        go_wp2
        go_round
        case rel => exact ⟨k + 1, by omega, by go_num, HT⟩
        case measure => simp [intOf]; omega
    · obtain rfl : k = n := by omega
      have htl : zs.take k = zs := List.take_of_length_le (by rw [HN.out]; exact Nat.le_refl _)
      rw [htl] at HJ
      clear htl
      go_wp2
      go_ret
      exact ⟨by rw [HJ.out]; rfl, rfl⟩
theorem RdV.takeI {w : World} {b o : Nat} {zs : List Int} (hl : b < w.heap.size) (hc : ∀ k (h : k < (ints zs).length), w.cell? ⟨b, o + k, none⟩ = some (ints zs)[k]) (i : Nat) : RdV w (some ⟨b, o, none⟩) (ints (zs.take i)) := by
  refine .inr ⟨b, o, rfl, hl, fun k hk => ?_⟩
  have hk2 : k < (ints zs).length := by rw [ints_len] at hk ⊢; rw [List.length_take] at hk; omega
  rw [hc k hk2, ints_at, ints_at, List.getElem_take]
set_option maxHeartbeats 1000000 in
theorem implStackValid (A : Option Addr) (n c : Nat) (zs : List Int) (high : Int) (w : World) (hn : zs.length = n) (hr : RdV w A (ints zs)) (hnc : n ≤ c) (hm : c ≤ 9223372036854775807) :
    Calls Tryd.prog 32 #[.slice A n c, .int .i64 high] w fun e w' => e = .returned (.bool (stackOk zs high)) ∧ w = w' := by
  have HN := Lib.hid hn
  clear hn
  go_enter Tryd.func32, Tryd.ntmps32
  go_wp2
  go_loop [9, 5, 6] (fun i _ _ => ∃ k : Nat, k ≤ n ∧ i = .int .i64 k ∧ Hid (sOk [] zs = sOk (zs.take k) (zs.drop k))) (fun i _ _ => n - (intOf i).toNat)
  case atStart => exact ⟨0, Nat.zero_le _, rfl, Lib.hid (by simp)⟩
  case round =>
    obtain ⟨k, hk, rfl, HJ⟩ := hrel
    by_cases hlt : k < n
    · have hkz : k < zs.length := by rw [HN.out]; exact hlt
      have hkl : k < (ints zs).length := by rw [ints_len]; exact hkz
      obtain ⟨b, o, rfl, hl, hc⟩ := hr.pos hkl
      have h1 := hc k hkl
      rw [ints_at] at h1
      have hst := sOk_step (p := []) hkz
      rw [List.nil_append, List.nil_append, ← HJ.out] at hst
      have HST := Lib.hid hst
      have HTL : Hid ((zs.take k).length = k) := Lib.hid (by rw [List.length_take]; omega)
      have hrt := RdV.takeI hl hc k
      have hkc : (k : Int) ≤ (c : Int) := by omega
      generalize zs[k] = y at *
      generalize zs.take k = pre at *
      clear hc hst
      go_wp2_with fail
      refine (isId_any y _).mono ?_
      rintro e w' ⟨rfl, rfl⟩
      cases hid : idI y with
      | false =>
        rw [hid] at HST
        clear hid
        go_wp2_with fail
        go_ret
        exact ⟨by rw [stackOk, HST.out]; simp, rfl⟩
      | true =>
        rw [hid] at HST
        clear hid
        go_wp2_with fail
        refine (contains_int (some ⟨b, o, none⟩) k _ pre y _ HTL.out hrt (by omega)).mono ?_
        rintro e w' ⟨rfl, rfl⟩
        cases hhas : hasI pre y with
        | true =>
          rw [hhas] at HST
          clear hhas
          go_wp2_with fail
          go_ret
          exact ⟨by rw [stackOk, HST.out]; simp, rfl⟩
        | false =>
          rw [hhas] at HST
          clear hhas
          go_wp2_with fail
          go_round
          case rel => exact ⟨k + 1, by omega, by go_num, Lib.hid (by rw [HST.out]; simp)⟩
          case measure => simp [intOf]; omega
    · have hend : sOk (zs.take k) (zs.drop k) = true := by have := sOk_end (s := zs) (p := []) (k := k) (by rw [HN.out]; omega); rwa [List.nil_append] at this
      have HE := Lib.hid (HJ.out.trans hend)
      clear hend
      go_wp2_with fail
      refine (within_any high 1 5 _).mono ?_
      rintro e w' ⟨rfl, rfl⟩
      cases hi : inI high 1 5 with
      | false =>
        have HI := Lib.hid hi
        clear hi
        go_wp2_with fail
        go_ret
        exact ⟨by rw [stackOk, HE.out, show (decide (1 ≤ high) && decide (high ≤ 5)) = inI high 1 5 from rfl, HI.out]; rfl, rfl⟩
      | true =>
        have HI := Lib.hid hi
        clear hi
        go_wp2_with fail
        go_ret
        exact ⟨by rw [stackOk, HE.out, show (decide (1 ≤ high) && decide (high ≤ 5)) = inI high 1 5 from rfl, HI.out, HN.out]; rfl, rfl⟩
end Go.Proofs.YtcdjgbechigepaaDoor
