/- VisitMany, the reference's and the program's, returns what the plain function says. -/
import Derived.Test.YtddhdglmkphjjaaVisit
namespace Go.Proofs.Ytddhdglmkphjjaa
open Go.ChangeShapes Go.WideShapes Go.ChangeAt Go.RowKit
def visitMany (s : Int) (es : List Int) (x : Int) : Int := if 0 ≤ s ∧ s ≤ 4 then (vmany x (s, 0) es).2 else 0
theorem implVisitMany (s x : Int) (A : Option Addr) (es : List Int) (n c : Nat) (hen : es.length = n) (w : World) (hr : RdV w A (ints es)) (hn : n ≤ 1048576) :
    Calls Try.prog 26 #[.int .i64 s, .slice A n c, .int .i64 x] w fun r w' => r = .returned (.int .i64 (visitMany s es x)) ∧ w = w' := by
  have HE := Lib.hid hen
  clear hen
  by_cases h : 0 ≤ s ∧ s ≤ 4
  · obtain ⟨h0, h4⟩ := h
    have hbd := Lib.hid (fun k => vmany_bd x (s, 0) (es.take k) ⟨h0, h4⟩)
    have e1 : visitMany s es x = (vmany x (s, 0) (es.take n)).2 := by rw [visitMany, if_pos ⟨h0, h4⟩, ← HE.out, List.take_length]
    have E1 := Lib.hid e1
    clear e1
    go_enter Try.func26, Try.ntmps26
    go_wp2_with (go_at_call 51; refine (isVisit_any _ _).mono ?_; rintro e w' ⟨rfl, rfl⟩)
    go_loop [0, 7, 16] (fun st m i => ∃ k : Nat, k ≤ n ∧ i = .int .i64 k ∧ st = .int .i64 (vmany x (s, 0) (es.take k)).1 ∧ m = .int .i64 (vmany x (s, 0) (es.take k)).2) (fun _ _ i => n - (intOf i).toNat)
    case atStart => exact ⟨0, Nat.zero_le _, rfl, rfl, rfl⟩
    case round =>
      obtain ⟨k, hk, rfl, rfl, rfl⟩ := hrel
      have hb := hbd.out k
      have htl : (es.take k).length ≤ k := List.length_take_le _ _
      by_cases hlt : k < n
      · have hkl : k < (ints es).length := by rw [ints_len, HE.out]; exact hlt
        obtain ⟨b, off, rfl, hlb, hc⟩ := hr.pos hkl
        have hsrc := hc k hkl
        rw [ints_at] at hsrc
        have hsn : vmany x (s, 0) (es.take (k + 1)) = vmnext x (vmany x (s, 0) (es.take k)) (es[k]'(by rw [HE.out]; exact hlt)) := by rw [take_snoc es k (by rw [HE.out]; exact hlt), vmany_snoc]
        generalize (es[k]'(by rw [HE.out]; exact hlt)) = y at hsrc hsn
        have HS := Lib.hid hsn
        generalize vmany x (s, 0) (es.take k) = p at *
        clear hc hsn E1
        by_cases hv : 0 ≤ vstep p.1 y
        · by_cases hy : y = x
          · have hyb : (y == x) = true := by simp [hy]
            have HY := Lib.hid hy
            clear hy
            go_wp2_with (go_at_call 18; refine (implVisitStep _ _ _).mono ?_; rintro e w' ⟨rfl, rfl⟩)
            go_round
            case rel => exact ⟨k + 1, by omega, by go_num, by rw [HS.out]; unfold vmnext; rw [if_pos hv], by rw [HS.out]; unfold vmnext; rw [if_pos hv, if_pos HY.out]⟩
            case measure => simp [intOf]; omega
          · have hyb : (y == x) = false := by simp [hy]
            have HY := Lib.hid hy
            clear hy
            go_wp2_with (go_at_call 18; refine (implVisitStep _ _ _).mono ?_; rintro e w' ⟨rfl, rfl⟩)
            go_round
            case rel => exact ⟨k + 1, by omega, by go_num, by rw [HS.out]; unfold vmnext; rw [if_pos hv], by rw [HS.out]; unfold vmnext; rw [if_pos hv, if_neg HY.out]⟩
            case measure => simp [intOf]; omega
        · go_wp2_with (go_at_call 18; refine (implVisitStep _ _ _).mono ?_; rintro e w' ⟨rfl, rfl⟩)
          go_round
          case rel => exact ⟨k + 1, by omega, by go_num, by rw [HS.out]; unfold vmnext; rw [if_neg (by omega)], by rw [HS.out]; unfold vmnext; rw [if_neg (by omega)]⟩
          case measure => simp [intOf]; omega
      · go_wp2
        go_ret
        obtain rfl : k = n := by omega
        exact ⟨by rw [E1.out]; rfl, rfl⟩
  ·
    have hd : (decide (0 ≤ s) && decide (s ≤ 4)) = false := by simp; omega
    go_enter Try.func26, Try.ntmps26
    go_wp2_with (go_at_call 51; refine (isVisit_any _ _).mono ?_; rintro e w' ⟨rfl, rfl⟩)
    go_ret
    exact ⟨by rw [visitMany, if_neg h]; rfl, rfl⟩

theorem specVisitMany (s x : Int) (A : Option Addr) (es : List Int) (n c : Nat) (hen : es.length = n) (w : World) (hr : RdV w A (ints es)) (hn : n ≤ 1048576) :
    Calls Try.prog 25 #[.int .i64 s, .slice A n c, .int .i64 x] w fun r w' => r = .returned (.int .i64 (visitMany s es x)) ∧ w = w' := by
  have HE := Lib.hid hen
  clear hen
  by_cases h : 0 ≤ s ∧ s ≤ 4
  · obtain ⟨h0, h4⟩ := h
    have hbd := Lib.hid (fun k => vmany_bd x (s, 0) (es.take k) ⟨h0, h4⟩)
    have e1 : visitMany s es x = (vmany x (s, 0) (es.take n)).2 := by rw [visitMany, if_pos ⟨h0, h4⟩, ← HE.out, List.take_length]
    have E1 := Lib.hid e1
    clear e1
    go_enter Try.func25, Try.ntmps25
    go_wp2
    go_loop [0, 7, 8] (fun st m i => ∃ k : Nat, k ≤ n ∧ i = .int .i64 k ∧ st = .int .i64 (vmany x (s, 0) (es.take k)).1 ∧ m = .int .i64 (vmany x (s, 0) (es.take k)).2) (fun _ _ i => n - (intOf i).toNat)
    case atStart => exact ⟨0, Nat.zero_le _, rfl, rfl, rfl⟩
    case round =>
      obtain ⟨k, hk, rfl, rfl, rfl⟩ := hrel
      have hb := hbd.out k
      have htl : (es.take k).length ≤ k := List.length_take_le _ _
      by_cases hlt : k < n
      · have hkl : k < (ints es).length := by rw [ints_len, HE.out]; exact hlt
        obtain ⟨b, off, rfl, hlb, hc⟩ := hr.pos hkl
        have hsrc := hc k hkl
        rw [ints_at] at hsrc
        have hsn : vmany x (s, 0) (es.take (k + 1)) = vmnext x (vmany x (s, 0) (es.take k)) (es[k]'(by rw [HE.out]; exact hlt)) := by rw [take_snoc es k (by rw [HE.out]; exact hlt), vmany_snoc]
        generalize (es[k]'(by rw [HE.out]; exact hlt)) = y at hsrc hsn
        have HS := Lib.hid hsn
        generalize vmany x (s, 0) (es.take k) = p at *
        clear hc hsn E1
        by_cases hv : 0 ≤ vstep p.1 y
        · by_cases hy : y = x
          · have hyb : (y == x) = true := by simp [hy]
            have HY := Lib.hid hy
            clear hy
            go_wp2_with (first | (go_at_call 17; refine (specVisitStep _ _ _).mono ?_; rintro e w' ⟨rfl, rfl⟩) | (go_at_call 48; refine (l1In_any _ _ _ _).mono ?_; rintro e w' ⟨rfl, rfl⟩))
            go_round
            case rel => exact ⟨k + 1, by omega, by go_num, by rw [HS.out]; unfold vmnext; rw [if_pos hv], by rw [HS.out]; unfold vmnext; rw [if_pos hv, if_pos HY.out]⟩
            case measure => simp [intOf]; omega
          · have hyb : (y == x) = false := by simp [hy]
            have HY := Lib.hid hy
            clear hy
            go_wp2_with (first | (go_at_call 17; refine (specVisitStep _ _ _).mono ?_; rintro e w' ⟨rfl, rfl⟩) | (go_at_call 48; refine (l1In_any _ _ _ _).mono ?_; rintro e w' ⟨rfl, rfl⟩))
            go_round
            case rel => exact ⟨k + 1, by omega, by go_num, by rw [HS.out]; unfold vmnext; rw [if_pos hv], by rw [HS.out]; unfold vmnext; rw [if_pos hv, if_neg HY.out]⟩
            case measure => simp [intOf]; omega
        · go_wp2_with (first | (go_at_call 17; refine (specVisitStep _ _ _).mono ?_; rintro e w' ⟨rfl, rfl⟩) | (go_at_call 48; refine (l1In_any _ _ _ _).mono ?_; rintro e w' ⟨rfl, rfl⟩))
          go_round
          case rel => exact ⟨k + 1, by omega, by go_num, by rw [HS.out]; unfold vmnext; rw [if_neg (by omega)], by rw [HS.out]; unfold vmnext; rw [if_neg (by omega)]⟩
          case measure => simp [intOf]; omega
      · go_wp2
        go_ret
        obtain rfl : k = n := by omega
        exact ⟨by rw [E1.out]; rfl, rfl⟩
  ·
    have hd : (decide (0 ≤ s) && decide (s ≤ 4)) = false := by simp; omega
    by_cases h0 : 0 < n
    all_goals
      go_enter Try.func25, Try.ntmps25
      go_wp2
      refine wp_loop_rounds 1 ?_
      rw [rounds_succ]
      go_wp2_with (go_at_call 48; refine (l1In_any _ _ _ _).mono ?_; rintro e w' ⟨rfl, rfl⟩)
      go_ret
      exact ⟨by rw [visitMany, if_neg h]; rfl, rfl⟩
end Go.Proofs.Ytddhdglmkphjjaa
