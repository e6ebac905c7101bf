/- VisitStep, VisitRun and VisitMany, the reference's and the program's, return what the plain functions say. -/
import Derived.Test.YtadkplonknlfbaaBase
import Derived.Test.YtadkplonknlfbaaProg
import Derived.Test.YtadkplonknlfbaaVisitP
import Derived.Deep.QuietTactic
import Derived.BigQuiet
namespace Go.Proofs.Ytadkplonknlfbaa
open Go.ChangeShapes Go.WideShapes Go.ChangeAt Go.RowKit

theorem specVisitStep (s e : Int) (w : World) :
    Calls Try.prog 16 #[.int .i64 s, .int .i64 e] w fun r w' => r = .returned (.int .i64 (vstep s e)) ∧ w = w' := by
  go_enter Try.func16, Try.ntmps16
  go_wp2
  all_goals
    go_ret
    refine ⟨ret_int ?_, rfl⟩
    try simp only [beq_iff_eq, beq_eq_false_iff_ne] at *
    unfold vstep
    repeat' split
    all_goals omega
theorem implVisitStep (s e : Int) (w : World) :
    Calls Try.prog 18 #[.int .i64 s, .int .i64 e] w fun r w' => r = .returned (.int .i64 (vstep s e)) ∧ w = w' := by
  go_enter Try.func18, Try.ntmps18
  go_wp2
  all_goals
    go_ret
    refine ⟨ret_int ?_, rfl⟩
    try simp only [beq_iff_eq, beq_eq_false_iff_ne] at *
    unfold vstep
    repeat' split
    all_goals omega

theorem take_snoc {α : Type} (l : List α) (k : Nat) (h : k < l.length) : l.take (k + 1) = l.take k ++ [l[k]] := List.take_succ_eq_append_getElem h

theorem l1In_any (a lo hi : Int) (w : World) : Calls Try.prog 15 #[.int .i64 a, .int .i64 lo, .int .i64 hi] w fun r w' => r = .returned (.bool (decide (lo ≤ a) && decide (a ≤ hi))) ∧ w = w' := by
  by_cases h1 : lo ≤ a
  all_goals
    by_cases h2 : a ≤ hi
    all_goals
      go_enter Try.func15, Try.ntmps15
      go_wp2
      go_ret
      exact ⟨ret_bool (by simp [h1, h2]), rfl⟩
theorem within_any (a lo hi : Int) (w : World) : Calls Try.prog 25 #[.int .i64 a, .int .i64 lo, .int .i64 hi] w fun r w' => r = .returned (.bool (decide (lo ≤ a) && decide (a ≤ hi))) ∧ w = w' := by
  by_cases h1 : lo ≤ a
  all_goals
    by_cases h2 : a ≤ hi
    all_goals
      go_enter Try.func25, Try.ntmps25
      go_wp2
      go_ret
      exact ⟨ret_bool (by simp [h1, h2]), rfl⟩

theorem isVisit_any (a : Int) (w : World) : Calls Try.prog 17 #[.int .i64 a] w fun r w' => r = .returned (.bool (decide (0 ≤ a) && decide (a ≤ 4))) ∧ w = w' := by
  go_enter Try.func17, Try.ntmps17
  go_wp2_with (go_at_call 25; refine (within_any _ _ _ _).mono ?_; rintro e w' ⟨rfl, rfl⟩)
  go_ret
  exact ⟨rfl, rfl⟩

/-- of a state that is none: -1 and 0 -/
def visitRun (s : Int) (es : List Int) : Int × Int := if 0 ≤ s ∧ s ≤ 4 then vrun (s, 0) es else (-1, 0)

theorem implVisitRun (s : Int) (A : Option Addr) (es : List Int) (n c : Nat) (hen : es.length = n) (w : World) (hr : RdV w A (ints es)) (hn : n ≤ 1048576) :
    Calls Try.prog 13 #[.int .i64 s, .slice A n c] w fun r w' => r = .returned (.tuple #[.int .i64 (visitRun s es).1, .int .i64 (visitRun s es).2]) ∧ w = w' := by
  have HE := Lib.hid hen
  clear hen
  by_cases h : 0 ≤ s ∧ s ≤ 4
  · obtain ⟨h0, h4⟩ := h
    have hbd := Lib.hid (fun k => vrun_bd (s, 0) (es.take k) ⟨h0, h4⟩)
    have e1 : visitRun s es = vrun (s, 0) (es.take n) := by rw [visitRun, if_pos ⟨h0, h4⟩, ← HE.out, List.take_length]
    have E1 := Lib.hid e1
    clear e1
    go_enter Try.func13, Try.ntmps13
    go_wp2_with (go_at_call 17; refine (isVisit_any _ _).mono ?_; rintro e w' ⟨rfl, rfl⟩)
    go_loop [0, 6, 15] (fun st m i => ∃ k : Nat, k ≤ n ∧ i = .int .i64 k ∧ st = .int .i64 (vrun (s, 0) (es.take k)).1 ∧ m = .int .i64 (vrun (s, 0) (es.take k)).2) (fun _ _ i => n - (intOf i).toNat)
    case atStart => exact ⟨0, Nat.zero_le _, rfl, rfl, rfl⟩
    case round =>
      obtain ⟨k, hk, rfl, rfl, rfl⟩ := hrel
      have hb := hbd.out k
      have htl : (es.take k).length ≤ k := List.length_take_le _ _
      by_cases hlt : k < n
      · have hkl : k < (ints es).length := by rw [ints_len, HE.out]; exact hlt
        obtain ⟨b, off, rfl, hlb, hc⟩ := hr.pos hkl
        have hsrc := hc k hkl
        rw [ints_at] at hsrc
        have hsn : vrun (s, 0) (es.take (k + 1)) = vnext (vrun (s, 0) (es.take k)) (es[k]'(by rw [HE.out]; exact hlt)) := by rw [take_snoc es k (by rw [HE.out]; exact hlt), vrun_snoc]
        generalize (es[k]'(by rw [HE.out]; exact hlt)) = x at hsrc hsn
        have HS := Lib.hid hsn
        generalize vrun (s, 0) (es.take k) = p at *
        clear hc hsn E1
        by_cases hv : 0 ≤ vstep p.1 x
        all_goals
          go_wp2_with (go_at_call 18; refine (implVisitStep _ _ _).mono ?_; rintro e w' ⟨rfl, rfl⟩)
          go_round
          case rel => exact ⟨k + 1, by omega, by go_num, by rw [HS.out]; unfold vnext; split <;> first | rfl | omega, by rw [HS.out]; unfold vnext; split <;> first | rfl | omega⟩
          case measure => simp [intOf]; omega
      · go_wp2
        go_ret2
        obtain rfl : k = n := by omega
        exact ⟨by rw [E1.out]; rfl, rfl⟩
  ·
    have hd : (decide (0 ≤ s) && decide (s ≤ 4)) = false := by simp; omega
    go_enter Try.func13, Try.ntmps13
    go_wp2_with (go_at_call 17; refine (isVisit_any _ _).mono ?_; rintro e w' ⟨rfl, rfl⟩)
    go_ret2
    exact ⟨by rw [visitRun, if_neg h]; rfl, rfl⟩

end Go.Proofs.Ytadkplonknlfbaa
