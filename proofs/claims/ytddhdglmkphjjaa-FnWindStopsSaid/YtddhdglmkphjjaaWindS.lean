/- WindStops, the reference's and the program's, returns what the plain function says. -/
import Derived.Test.YtddhdglmkphjjaaWindR
import Derived.Test.YtddhdglmkphjjaaWindSP
namespace Go.Proofs.Ytddhdglmkphjjaa
open Go.ChangeShapes Go.WideShapes Go.ChangeAt Go.RowKit
theorem specWindStops (A : Option Addr) (gs : List Int) (n c : Nat) (hgn : gs.length = n) (w : World) (hr : RdV w A (ints gs)) (hn : n ≤ 1048576) :
    Calls Try.prog 30 #[.slice A n c] w fun e w' => e = .returned (.int .i64 (windStops gs)) ∧ Below w.heap.size w w' := by
  have HG := Lib.hid hgn
  go_enter Try.func30, Try.ntmps30
  go_wp2_with fail
  refine (specWindRun (-1) A gs n c hgn w hr hn).mono ?_
  rintro e w1 ⟨_, v, rfl, rfl, hown, hb⟩
  obtain ⟨A1, c1, rfl, hc1, hm1⟩ := own_slice hown
  have hrd := own_rd hown
  clear hgn
  by_cases hok : wok (-1) gs = true
  · have e1 : windRun (-1) gs = (wst (-1) gs, wworks (-1) gs) := by unfold windRun; rw [if_pos ⟨by omega, hok⟩]
    have e2 : windStops gs = stopsGo true (wworks (-1) gs) := by unfold windStops; rw [if_pos hok]
    have hst := wst_bd (-1) gs (by omega) hok
    have hne : (wst (-1) gs == -2) = false := by simp; omega
    have hl := wworks_len (-1) gs
    rw [HG.out] at hl
    rw [e1] at hrd ⊢
    clear e1 hok hown
    simp only [hl]
    generalize wst (-1) gs = st at *
    generalize wworks (-1) gs = bs at *
    have hne2 : ((n : Int) != (n : Int)) = false := by simp
    have HL := Lib.hid hl
    have E2 := Lib.hid e2
    clear hl e2
    go_wp2
    go_loop [5, 6] (fun m i => ∃ k : Nat, k ≤ n ∧ i = .int .i64 k ∧ m = .int .i64 (stopsGo true (bs.take k))) (fun _ i => n - (intOf i).toNat)
    case atStart => exact ⟨0, Nat.zero_le _, rfl, rfl⟩
    case round =>
      obtain ⟨k, hk, rfl, rfl⟩ := hrel
      have hbd := stopsGo_bd true (bs.take k)
      have htl : (bs.take k).length ≤ k := List.length_take_le _ _
      by_cases hlt : k < n
      · have hkl : k < (bools bs).length := by rw [bools_len, HL.out]; exact hlt
        obtain ⟨b, off, rfl, hlb, hc⟩ := hrd.pos hkl
        have hx := hc k hkl
        rw [bools_at] at hx
        have hsn : stopsGo true (bs.take (k + 1)) = stopsGo true (bs.take k) + b2i (!(bs[k]'(by rw [HL.out]; exact hlt)) && lastOr true (bs.take k)) := by rw [take_snoc bs k (by rw [HL.out]; exact hlt), stopsGo_snoc]
        generalize (bs[k]'(by rw [HL.out]; exact hlt)) = x at hx hsn
        have HS := Lib.hid hsn
        clear hsn
        cases x
        · by_cases hk0 : k = 0
          · subst hk0
            clear hc
            simp only [Nat.add_zero] at hx
            have hz : stopsGo true [] = 0 := rfl
            go_wp2
            go_round
            case rel => exact ⟨1, by omega, by go_num, by rw [HS.out]; rfl⟩
            case measure => simp [intOf]; omega
          · have hy := hc (k - 1) (by omega)
            rw [bools_at] at hy
            have hlast := take_last bs k (by omega) (by rw [HL.out]; exact hk)
            generalize (bs[k - 1]'(by rw [HL.out]; omega)) = y at hy hlast
            have HLA := Lib.hid hlast
            have hkb : ((k : Int) == 0) = false := by simp; omega
            have hk1 : (0 : Int) ≤ (k : Int) - 1 := by omega
            have hk2 : (1 : Int) ≤ (k : Int) := by omega
            have hk3 : ((k : Int) - 1).toNat = k - 1 := by omega
            clear hc hlast
            cases y
            · go_wp2
              go_round
              case rel => exact ⟨k + 1, by omega, by go_num, by rw [HS.out, HLA.out]; simp [b2i]⟩
              case measure => simp [intOf]; omega
            · go_wp2
              go_round
              case rel => exact ⟨k + 1, by omega, by go_num, by rw [HS.out, HLA.out]; simp [b2i]⟩
              case measure => simp [intOf]; omega
        · clear hc
          go_wp2
          go_round
          case rel => exact ⟨k + 1, by omega, by go_num, by rw [HS.out]; simp [b2i]⟩
          case measure => simp [intOf]; omega
      · go_wp2
        go_ret
        obtain rfl : k = n := by omega
        rw [List.take_of_length_le (by rw [HL.out]; exact Nat.le_refl _), E2.out]
        exact ⟨rfl, hb⟩
  · have e1 : windRun (-1) gs = (-2, []) := by
      unfold windRun
      rw [if_neg]
      rintro ⟨_, hw⟩
      exact hok hw
    have e2 : windStops gs = -1 := by unfold windStops; rw [if_neg hok]
    have hn0 : n ≠ 0 := by
      rintro rfl
      obtain rfl : gs = [] := List.eq_nil_of_length_eq_zero HG.out
      exact hok rfl
    have hne : ((0 : Int) != (n : Int)) = true := by simp; omega
    rw [e1]
    have E2 := Lib.hid e2
    clear e1 e2 hown hrd hok hn0
    go_wp2
    go_ret
    exact ⟨by rw [E2.out]; rfl, hb⟩
theorem implWindStops (A : Option Addr) (gs : List Int) (n c : Nat) (hgn : gs.length = n) (w : World) (hr : RdV w A (ints gs)) (hn : n ≤ 1048576) :
    Calls Try.prog 31 #[.slice A n c] w fun e w' => e = .returned (.int .i64 (windStops gs)) ∧ Below w.heap.size w w' := by
  have HG := Lib.hid hgn
  go_enter Try.func31, Try.ntmps31
  go_wp2_with fail
  refine (implWindRun (-1) A gs n c hgn w hr hn).mono ?_
  rintro e w1 ⟨_, v, rfl, rfl, hown, hb⟩
  obtain ⟨A1, c1, rfl, hc1, hm1⟩ := own_slice hown
  have hrd := own_rd hown
  clear hgn
  by_cases hok : wok (-1) gs = true
  · have e1 : windRun (-1) gs = (wst (-1) gs, wworks (-1) gs) := by unfold windRun; rw [if_pos ⟨by omega, hok⟩]
    have e2 : windStops gs = stopsGo true (wworks (-1) gs) := by unfold windStops; rw [if_pos hok]
    have hst := wst_bd (-1) gs (by omega) hok
    have hne : (wst (-1) gs == -2) = false := by simp; omega
    have hl := wworks_len (-1) gs
    rw [HG.out] at hl
    rw [e1] at hrd ⊢
    clear e1 hok hown
    simp only [hl]
    generalize wst (-1) gs = st at *
    generalize wworks (-1) gs = bs at *
    have hne2 : ((n : Int) != (n : Int)) = false := by simp
    have HL := Lib.hid hl
    have E2 := Lib.hid e2
    clear hl e2
    go_wp2
    go_loop [5, 17] (fun m i => ∃ k : Nat, k ≤ n ∧ i = .int .i64 k ∧ m = .int .i64 (stopsGo true (bs.take k))) (fun _ i => n - (intOf i).toNat)
    case atStart => exact ⟨0, Nat.zero_le _, rfl, rfl⟩
    case round =>
      obtain ⟨k, hk, rfl, rfl⟩ := hrel
      have hbd := stopsGo_bd true (bs.take k)
      have htl : (bs.take k).length ≤ k := List.length_take_le _ _
      by_cases hlt : k < n
      · have hkl : k < (bools bs).length := by rw [bools_len, HL.out]; exact hlt
        obtain ⟨b, off, rfl, hlb, hc⟩ := hrd.pos hkl
        have hx := hc k hkl
        rw [bools_at] at hx
        have hsn : stopsGo true (bs.take (k + 1)) = stopsGo true (bs.take k) + b2i (!(bs[k]'(by rw [HL.out]; exact hlt)) && lastOr true (bs.take k)) := by rw [take_snoc bs k (by rw [HL.out]; exact hlt), stopsGo_snoc]
        generalize (bs[k]'(by rw [HL.out]; exact hlt)) = x at hx hsn
        have HS := Lib.hid hsn
        clear hsn
        cases x
        · by_cases hk0 : k = 0
          · subst hk0
            clear hc
            simp only [Nat.add_zero] at hx
            have hz : stopsGo true [] = 0 := rfl
            go_wp2
            go_round
            case rel => exact ⟨1, by omega, by go_num, by rw [HS.out]; rfl⟩
            case measure => simp [intOf]; omega
          · have hy := hc (k - 1) (by omega)
            rw [bools_at] at hy
            have hlast := take_last bs k (by omega) (by rw [HL.out]; exact hk)
            generalize (bs[k - 1]'(by rw [HL.out]; omega)) = y at hy hlast
            have HLA := Lib.hid hlast
            have hkb : ((k : Int) == 0) = false := by simp; omega
            have hk1 : (0 : Int) ≤ (k : Int) - 1 := by omega
            have hk2 : (1 : Int) ≤ (k : Int) := by omega
            have hk3 : ((k : Int) - 1).toNat = k - 1 := by omega
            clear hc hlast
            cases y
            · go_wp2
              go_round
              case rel => exact ⟨k + 1, by omega, by go_num, by rw [HS.out, HLA.out]; simp [b2i]⟩
              case measure => simp [intOf]; omega
            · go_wp2
              go_round
              case rel => exact ⟨k + 1, by omega, by go_num, by rw [HS.out, HLA.out]; simp [b2i]⟩
              case measure => simp [intOf]; omega
        · clear hc
          go_wp2
          go_round
          case rel => exact ⟨k + 1, by omega, by go_num, by rw [HS.out]; simp [b2i]⟩
          case measure => simp [intOf]; omega
      · go_wp2
        go_ret
        obtain rfl : k = n := by omega
        rw [List.take_of_length_le (by rw [HL.out]; exact Nat.le_refl _), E2.out]
        exact ⟨rfl, hb⟩
  · have e1 : windRun (-1) gs = (-2, []) := by
      unfold windRun
      rw [if_neg]
      rintro ⟨_, hw⟩
      exact hok hw
    have e2 : windStops gs = -1 := by unfold windStops; rw [if_neg hok]
    have hn0 : n ≠ 0 := by
      rintro rfl
      obtain rfl : gs = [] := List.eq_nil_of_length_eq_zero HG.out
      exact hok rfl
    have hne : ((0 : Int) != (n : Int)) = true := by simp; omega
    rw [e1]
    have E2 := Lib.hid e2
    clear e1 e2 hown hrd hok hn0
    go_wp2
    go_ret
    exact ⟨by rw [E2.out]; rfl, hb⟩
end Go.Proofs.Ytddhdglmkphjjaa
