/- How great texts are: what is not too great is bounded. -/
import Derived.Test.YtndhienobbnfeaaStrSS
namespace Go.Proofs.Ytndhienobbnfeaa
open Go Go.ChangeShapes Go.WideShapes Go.ChangeAt Go.RowKit
set_option maxHeartbeats 1000000 in
theorem szStringS_any (A : Option Addr) (zs : List ByteArray) (n c : Nat) (hzn : zs.length = n) (w : World) (hr : RdV w A (strs zs)) (hm : n ≤ 9223372036854775807) (hs : ∀ p ∈ zs, p.size ≤ 9223372036854775807) (l : Int) (h0 : 0 ≤ l) (h1 : l ≤ 1048576) :
    Calls Try.prog 69 #[.slice A n c, .int .i64 l] w (RInt fun r w' => r ≤ l ∧ (0 ≤ r → (n : Int) ≤ l ∧ ∀ p ∈ zs, (p.size : Int) ≤ l) ∧ w = w') := by
  have HZ := Lib.hid hzn
  have HS := Lib.hid hs
  clear hzn hs
  by_cases hn : (n : Int) ≤ l
  · go_enter Try.func69, Try.ntmps69
    go_wp2
    go_loop [1, 5] (fun q i => ∃ (k : Nat) (m : Int), k ≤ n ∧ i = .int .i64 k ∧ q = .int .i64 m ∧ 0 ≤ m ∧ m ≤ l ∧ Hid (∀ j (hj : j < k) (hl : j < zs.length), ((zs[j]).size : Int) ≤ l)) (fun _ i => n - (intOf i).toNat)
    case atStart => exact ⟨0, _, Nat.zero_le _, rfl, rfl, by omega, by omega, Lib.hid (fun j hj => absurd hj (by omega))⟩
    case round =>
      obtain ⟨k, m, hk, rfl, rfl, hm0, hm1, HJ⟩ := hrel
      by_cases hlt : k < n
      · have hkz : k < zs.length := by rw [HZ.out]; exact hlt
        have hkl : k < (strs zs).length := by rw [strs_len]; exact hkz
        obtain ⟨b, o, rfl, hl, hc⟩ := hr.pos hkl
        have hcell := hc k hkl
        rw [strs_at] at hcell
        have hsz := HS.out zs[k] (List.getElem_mem hkz)
        generalize hx : zs[k] = x at *
        have HX := Lib.hid hx
        clear hx hc
        by_cases hgo : (x.size : Int) ≤ m
        · go_wp2
          go_round
          case rel => exact ⟨k + 1, _, by omega, by go_num, rfl, by omega, by omega, Lib.hid (fun j hj hl => by
            rcases Nat.lt_or_ge j k with h | h
            · exact HJ.out j h hl
            · obtain rfl : j = k := by omega
              rw [HX.out]; omega)⟩
          case measure => simp [intOf]; omega
        · go_wp2
          go_ret
          exact RInt.mk ⟨by omega, fun h => by omega, rfl⟩
      · obtain rfl : k = n := by omega
        go_wp2
        go_ret
        refine RInt.mk ⟨hm1, fun _ p hp => ?_, rfl⟩
        obtain ⟨j, hj, rfl⟩ := List.getElem_of_mem hp
        exact HJ.out j (by rw [← HZ.out]; exact hj) hj
  · go_enter Try.func69, Try.ntmps69
    go_wp2
    go_ret
    exact RInt.mk ⟨by omega, fun h => by omega, rfl⟩
set_option maxHeartbeats 1000000 in
theorem szStringSS_any (A : Option Addr) (zss : List (List ByteArray)) (n c : Nat) (hzn : zss.length = n) (w : World) (hr : RdRR w A (strss zss)) (hm : n ≤ 9223372036854775807) (hs : ∀ zs ∈ zss, ∀ p ∈ zs, p.size ≤ 9223372036854775807) (l : Int) (h0 : 0 ≤ l) (h1 : l ≤ 1048576) :
    Calls Try.prog 45 #[.slice A n c, .int .i64 l] w (RInt fun r w' => r ≤ l ∧ (0 ≤ r → (n : Int) ≤ l ∧ ∀ zs ∈ zss, (zs.length : Int) ≤ l ∧ ∀ p ∈ zs, (p.size : Int) ≤ l) ∧ w = w') := by
  have HZ := Lib.hid hzn
  have HS := Lib.hid hs
  clear hzn hs
  by_cases hn : (n : Int) ≤ l
  · go_enter Try.func45, Try.ntmps45
    go_wp2
    go_loop [1, 5] (fun q i => ∃ (k : Nat) (m : Int), k ≤ n ∧ i = .int .i64 k ∧ q = .int .i64 m ∧ 0 ≤ m ∧ m ≤ l ∧ Hid (∀ j (hj : j < k) (hl : j < zss.length), ((zss[j]).length : Int) ≤ l ∧ ∀ p ∈ zss[j], (p.size : Int) ≤ l)) (fun _ i => n - (intOf i).toNat)
    case atStart => exact ⟨0, _, Nat.zero_le _, rfl, rfl, by omega, by omega, Lib.hid (fun j hj => absurd hj (by omega))⟩
    case round =>
      obtain ⟨k, m, hk, rfl, rfl, hm0, hm1, HJ⟩ := hrel
      by_cases hlt : k < n
      · have hkz : k < zss.length := by rw [HZ.out]; exact hlt
        have hkl : k < (strss zss).length := by rw [strss_len]; exact hkz
        obtain ⟨b, o, rfl, hl, B, c', hcell, hle, hmx, hrB⟩ := hr.pos hkl
        rw [strss_at] at hrB
        simp only [strss_at, strs_len] at hcell hle
        have hsz := Lib.hid (HS.out zss[k] (List.getElem_mem hkz))
        unfold maxLen at hmx
        generalize hx : zss[k] = zs at *
        have HX := Lib.hid hx
        generalize hm' : zs.length = q at *
        have HM := Lib.hid hm'
        clear hx hm'
        go_wp2_with fail
        refine (szStringS_any B zs q c' HM.out _ hrB (by omega) hsz.out m hm0 (by omega)).mono ?_
        rintro e w' ⟨r, rfl, hr1, hr2, rfl⟩
        have HR := Lib.hid hr2
        clear hr2
        by_cases hgo : 0 ≤ r
        · have hq := HR.out hgo
          go_wp2_with fail
          go_round
          case rel => exact ⟨k + 1, r, by omega, by go_num, rfl, by omega, by omega, Lib.hid (fun j hj hl => by
            rcases Nat.lt_or_ge j k with h | h
            · exact HJ.out j h hl
            · obtain rfl : j = k := by omega
              rw [HX.out]
              have h5 := HR.out hgo
              rw [HM.out]
              exact ⟨by omega, fun p hp => by have := h5.2 p hp; omega⟩)⟩
          case measure => simp [intOf]; omega
        · go_wp2_with fail
          go_ret
          exact RInt.mk ⟨by omega, fun h => by omega, rfl⟩
      · obtain rfl : k = n := by omega
        go_wp2_with fail
        go_ret
        refine RInt.mk ⟨hm1, fun _ p hp => ?_, rfl⟩
        obtain ⟨j, hj, rfl⟩ := List.getElem_of_mem hp
        exact HJ.out j (by rw [← HZ.out]; exact hj) hj
  · go_enter Try.func45, Try.ntmps45
    go_wp2
    go_ret
    exact RInt.mk ⟨by omega, fun h => by omega, rfl⟩
end Go.Proofs.Ytndhienobbnfeaa
