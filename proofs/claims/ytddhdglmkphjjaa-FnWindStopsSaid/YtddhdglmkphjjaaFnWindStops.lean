/- FnWindStops returns true, for every code; no condition. -/
import Derived.Test.YtddhdglmkphjjaaWindS
import Derived.Test.YtddhdglmkphjjaaWindTP
import Derived.Test.YtddhdglmkphjjaaDrawAll
import Derived.Test.YtddhdglmkphjjaaAlive
import Derived.Test.YtddhdglmkphjjaaOut
namespace Go.Proofs.Ytddhdglmkphjjaa
open Go.ChangeShapes Go.WideShapes Go.ChangeAt Go.RowKit
set_option maxHeartbeats 1000000 in
theorem walkFnWindStops (w : World) (A : Option Addr) (n c : Nat) (bs : List Int) (h : Code w A n c bs) :
    Calls Try.prog 15 #[.slice A n c] w fun e w' => e = .returned (.bool true) ∧ Below w.heap.size w w' := by
  by_cases hn : n ≤ 1048576
  · go_enter Try.func15, Try.ntmps15
    go_wp2_with fail
    refine (drawWindStops_any A n c bs w h).mono ?_
    rintro e w1 ⟨v, rfl, gs, hg, hgl, b1⟩
    obtain ⟨GA, gc, rfl, _, _⟩ := own_slice hg
    have G1 := OwnI.of hg
    clear hg
    generalize hm : gs.length = m at *
    have HM := Lib.hid hm
    clear hm h
    go_wp2_with fail
    refine (implWindStops _ gs m gc HM.out _ G1.rd (by omega)).mono ?_
    rintro e w2 ⟨rfl, hb2⟩
    have G2 := G1.later hb2
    have b2 := below_trans b1 hb2
    go_wp2_with fail
    refine (specWindStops _ gs m gc HM.out _ G2.rd (by omega)).mono ?_
    rintro e w3 ⟨rfl, hb3⟩
    have G3 := (G2.later hb3).rd
    have b3 := below_trans b2 hb3
    have hpe : (windStops gs != windStops gs) = false := by simp
    clear G1 G2 b1 b2 hb2 hb3
    by_cases hx : 0 ≤ windStops gs
    · obtain ⟨l1, l2⟩ := law_stops gs hx
      have e1 : strong gs = strong (gs.take m) := by rw [List.take_of_length_le (by rw [HM.out]; exact Nat.le_refl _)]
      have E1 := Lib.hid e1
      have L2 := Lib.hid l2
      have L1 := Lib.hid l1
      clear l1 l2 e1
      generalize windStops gs = x at *
      go_wp2_with fail
      go_loop [5, 6] (fun cnt i => ∃ k : Nat, k ≤ m ∧ i = .int .i64 k ∧ cnt = .int .i64 (strong (gs.take k))) (fun _ i => m - (intOf i).toNat)
      case atStart => exact ⟨0, Nat.zero_le _, rfl, rfl⟩
      case round =>
        obtain ⟨k, hk, rfl, rfl⟩ := hrel
        have hbd := strong_bd (gs.take k)
        have htl : (gs.take k).length ≤ k := List.length_take_le _ _
        by_cases hlt : k < m
        · have hkl : k < (ints gs).length := by rw [ints_len, HM.out]; exact hlt
          obtain ⟨b, off, rfl, hlb, hc⟩ := G3.pos hkl
          have hsrc := hc k hkl
          rw [ints_at] at hsrc
          have hsn : strong (gs.take (k + 1)) = strong (gs.take k) + b2i (decide (20 < gs[k]'(by rw [HM.out]; exact hlt))) := by rw [take_snoc gs k (by rw [HM.out]; exact hlt), strong_snoc]
          generalize (gs[k]'(by rw [HM.out]; exact hlt)) = y at hsrc hsn
          have HS := Lib.hid hsn
          clear hsn hc
          by_cases h20 : 20 < y
          · go_wp2
            go_round
            case rel => exact ⟨k + 1, by omega, by go_num, by rw [HS.out]; simp [h20, b2i]⟩
            case measure => simp [intOf]; omega
          · go_wp2
            go_round
            case rel => exact ⟨k + 1, by omega, by go_num, by rw [HS.out]; simp [h20, b2i]⟩
            case measure => simp [intOf]; omega
        · obtain rfl : k = m := by omega
          have l1 := L1.out
          have l2 := L2.out
          rw [E1.out] at l1 l2
          generalize strong (gs.take k) = z at *
          by_cases hx0 : 0 < x
          · have hz0 := l2.1 hx0
            clear l2
            go_wp2
            go_ret
            exact ⟨rfl, b3⟩
          · have hz0 : ¬ 0 < z := fun h => hx0 (l2.2 h)
            clear l2
            go_wp2
            go_ret
            exact ⟨rfl, b3⟩
    · have e1 := law_stops_neg gs (by omega)
      have e2 : (windStops gs == -1) = true := by simp [e1]
      clear e1
      generalize windStops gs = x at *
      go_wp2_with fail
      refine (alive_any _).mono ?_
      rintro e w' ⟨rfl, rfl⟩
      go_wp2_with fail
      go_ret
      exact ⟨rfl, b3⟩
  · obtain ⟨_, hcap, hmax, _, _⟩ := h
    go_enter Try.func15, Try.ntmps15
    go_wp2_with fail
    go_ret
    exact ⟨rfl, Below.refl _ _⟩
end Go.Proofs.Ytddhdglmkphjjaa
