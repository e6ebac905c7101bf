/- WindRun, the reference's and the program's, returns what the plain function says, in memory of its own. -/
import Derived.Test.YtddhdglmkphjjaaWind
import Derived.Test.YtddhdglmkphjjaaWindQ
import Derived.Test.YtddhdglmkphjjaaOwn
namespace Go.Proofs.Ytddhdglmkphjjaa
open Go.ChangeShapes Go.WideShapes Go.ChangeAt Go.RowKit
theorem bool_info : Info Try.prog 4 (.bool false) 1 1 := Info.mk' (by kernel_rfl) rfl (by decide) (by decide)

/-- two results: a number, and truths in memory of the call's own -/
def IntBools (B : Nat) (w : World) (p : Int × List Bool) : Ending → World → Prop :=
  RTwo fun u v w' => u = .int .i64 p.1 ∧ w'.ownsRow B 4 1 v p.2.length (bools p.2) ∧ Below w.heap.size w w'

theorem implWindRun (s : Int) (A : Option Addr) (gs : List Int) (n c : Nat) (hgn : gs.length = n) (w : World) (hr : RdV w A (ints gs)) (hn : n ≤ 1048576) :
    Calls Try.prog 33 #[.int .i64 s, .slice A n c] w (IntBools w.heap.size w (windRun s gs)) := by
  have HG := Lib.hid hgn
  clear hgn
  by_cases h : -1 ≤ s ∧ s ≤ 2
  · have H := Lib.hid h
    obtain ⟨h0, h1⟩ := h
    go_enter Try.func33, Try.ntmps33
    go_wp2_with (go_at_call 49; refine (isWind_any _ _).mono ?_; rintro e w' ⟨rfl, rfl⟩)
    go_loopw [0, 6, 14] (fun st v i wr => ∃ k : Nat, k ≤ n ∧ i = .int .i64 k ∧ st = .int .i64 (wst s (gs.take k)) ∧ Hid (wok s (gs.take k) = true) ∧ wr.ownsRow w.heap.size 4 1 v k (bools (wworks s (gs.take k))) ∧ Below w.heap.size w wr) (fun _ _ i _ => n - (intOf i).toNat)
    case atStart => exact ⟨0, Nat.zero_le _, rfl, rfl, rfl, World.ownsRow_nil _ _ _ _, Below.refl _ _⟩
    case round =>
      obtain ⟨k, hk, rfl, rfl, hok, hown, hb⟩ := hrel
      by_cases hlt : k < n
      · have hkl : k < (ints gs).length := by rw [ints_len, HG.out]; exact hlt
        obtain ⟨b, off, rfl, hlb, hc⟩ := hr.pos hkl
        have hsrc : wr.cell? ⟨b, off + k, none⟩ = some (ints gs)[k] := (hb.cell (p := ⟨b, off + k, none⟩) hlb).trans (hc k hkl)
        rw [ints_at] at hsrc
        have hts := take_snoc gs k (by rw [HG.out]; exact hlt)
        have hs1 : wst s (gs.take (k + 1)) = wstep (wst s (gs.take k)) (gs[k]'(by rw [HG.out]; exact hlt)) := by rw [hts, wst_snoc]
        have hs2 : wok s (gs.take (k + 1)) = (wok s (gs.take k) && !(wstep (wst s (gs.take k)) (gs[k]'(by rw [HG.out]; exact hlt)) == -2)) := by rw [hts, wok_snoc]
        have hs3 : wworks s (gs.take (k + 1)) = wworks s (gs.take k) ++ [wstep (wst s (gs.take k)) (gs[k]'(by rw [HG.out]; exact hlt)) == -1] := by rw [hts, wworks_snoc]
        generalize (gs[k]'(by rw [HG.out]; exact hlt)) = x at hsrc hs1 hs2 hs3
        rw [hok.out, Bool.true_and] at hs2
        have HS1 := Lib.hid hs1
        have HS2 := Lib.hid hs2
        have HS3 := Lib.hid hs3
        generalize wst s (gs.take k) = p at *
        generalize wworks s (gs.take k) = bs at *
        clear hc hts hs1 hs2 hs3
        by_cases hv : wstep p x = -2
        · have hvb : (wstep p x == -2) = true := by simp [hv]
          have HV := Lib.hid hv
          clear hv
          go_wp2_with (go_at_call 20; refine (implWindStep _ _ _).mono ?_; rintro e w' ⟨rfl, rfl⟩)
          go_ret2
          have e0 : windRun s gs = (-2, []) := by
            unfold windRun
            rw [if_neg]
            rintro ⟨_, hw⟩
            rw [wok_take s gs (k + 1) (by rw [HS2.out]; simp [HV.out])] at hw
            cases hw
          rw [e0]
          exact RTwo.mk ⟨rfl, World.ownsRow_nil _ _ _ _, hb⟩
        · have hvb : (wstep p x == -2) = false := by simp [hv]
          have HV := Lib.hid hv
          clear hv
          go_wp2_with (first
            | (go_at_call 20; refine (implWindStep _ _ _).mono ?_; rintro e w' ⟨rfl, rfl⟩)
            | (at_builtin; refine append_new rfl _ _ 38 rfl 4 _ _ _ Try.underlying38 bool_info _ wr _ _ _ rfl hown [.bool (wstep p x == -1)] rfl rfl (by simp [Value.oneCell']) (by omega) hb.size ?_; intro v' w1 hown1 hg1 hblk1))
          go_roundw
          case rel => exact ⟨k + 1, by omega, by go_num, by rw [HS1.out], by show _ = true; rw [HS2.out]; simp [HV.out], by rw [HS3.out]; simpa [bools] using hown1, below_append hb hg1 hown rfl⟩
          case measure => simp [intOf]; omega
      · go_wp2
        go_ret2
        obtain rfl : k = n := by omega
        have e0 : windRun s gs = (wst s gs, wworks s gs) := by
          unfold windRun
          rw [if_pos ⟨H.out, by have := hok.out; rwa [List.take_of_length_le (by rw [HG.out]; exact Nat.le_refl _)] at this⟩]
        rw [List.take_of_length_le (by rw [HG.out]; exact Nat.le_refl _)] at hown ⊢
        rw [e0]
        exact RTwo.mk ⟨rfl, by rw [wworks_len, HG.out]; exact hown, hb⟩
  ·
    have hd : (decide (-1 ≤ s) && decide (s ≤ 2)) = false := by simp; omega
    go_enter Try.func33, Try.ntmps33
    go_wp2_with (go_at_call 49; refine (isWind_any _ _).mono ?_; rintro e w' ⟨rfl, rfl⟩)
    go_ret2
    have e0 : windRun s gs = (-2, []) := by
      unfold windRun
      rw [if_neg]
      rintro ⟨hw, _⟩
      exact h hw
    rw [e0]
    exact RTwo.mk ⟨rfl, World.ownsRow_nil _ _ _ _, Below.refl _ _⟩
theorem specWindRun (s : Int) (A : Option Addr) (gs : List Int) (n c : Nat) (hgn : gs.length = n) (w : World) (hr : RdV w A (ints gs)) (hn : n ≤ 1048576) :
    Calls Try.prog 32 #[.int .i64 s, .slice A n c] w (IntBools w.heap.size w (windRun s gs)) := by
  have HG := Lib.hid hgn
  clear hgn
  by_cases h : -1 ≤ s ∧ s ≤ 2
  · have H := Lib.hid h
    obtain ⟨h0, h1⟩ := h
    go_enter Try.func32, Try.ntmps32
    go_wp2_with (go_at_call 48; refine (l1In_any _ _ _ _).mono ?_; rintro e w' ⟨rfl, rfl⟩)
    go_loopw [0, 6, 7] (fun st v i wr => ∃ k : Nat, k ≤ n ∧ i = .int .i64 k ∧ st = .int .i64 (wst s (gs.take k)) ∧ Hid (wok s (gs.take k) = true) ∧ wr.ownsRow w.heap.size 4 1 v k (bools (wworks s (gs.take k))) ∧ Below w.heap.size w wr) (fun _ _ i _ => n - (intOf i).toNat)
    case atStart => exact ⟨0, Nat.zero_le _, rfl, rfl, rfl, World.ownsRow_made _ _ 0 (Nat.le_refl _) (by decide) rfl, (Below.refl _ _).alloc (Nat.le_refl _) _⟩
    case round =>
      obtain ⟨k, hk, rfl, rfl, hok, hown, hb⟩ := hrel
      by_cases hlt : k < n
      · have hkl : k < (ints gs).length := by rw [ints_len, HG.out]; exact hlt
        obtain ⟨b, off, rfl, hlb, hc⟩ := hr.pos hkl
        have hsrc : wr.cell? ⟨b, off + k, none⟩ = some (ints gs)[k] := (hb.cell (p := ⟨b, off + k, none⟩) hlb).trans (hc k hkl)
        rw [ints_at] at hsrc
        have hts := take_snoc gs k (by rw [HG.out]; exact hlt)
        have hs1 : wst s (gs.take (k + 1)) = wstep (wst s (gs.take k)) (gs[k]'(by rw [HG.out]; exact hlt)) := by rw [hts, wst_snoc]
        have hs2 : wok s (gs.take (k + 1)) = (wok s (gs.take k) && !(wstep (wst s (gs.take k)) (gs[k]'(by rw [HG.out]; exact hlt)) == -2)) := by rw [hts, wok_snoc]
        have hs3 : wworks s (gs.take (k + 1)) = wworks s (gs.take k) ++ [wstep (wst s (gs.take k)) (gs[k]'(by rw [HG.out]; exact hlt)) == -1] := by rw [hts, wworks_snoc]
        generalize (gs[k]'(by rw [HG.out]; exact hlt)) = x at hsrc hs1 hs2 hs3
        rw [hok.out, Bool.true_and] at hs2
        have HS1 := Lib.hid hs1
        have HS2 := Lib.hid hs2
        have HS3 := Lib.hid hs3
        generalize wst s (gs.take k) = p at *
        generalize wworks s (gs.take k) = bs at *
        clear hc hts hs1 hs2 hs3
        by_cases hv : wstep p x = -2
        · have hvb : (wstep p x == -2) = true := by simp [hv]
          have HV := Lib.hid hv
          clear hv
          go_wp2_with (go_at_call 19; refine (specWindStep _ _ _).mono ?_; rintro e w' ⟨rfl, rfl⟩)
          go_ret2
          have e0 : windRun s gs = (-2, []) := by
            unfold windRun
            rw [if_neg]
            rintro ⟨_, hw⟩
            rw [wok_take s gs (k + 1) (by rw [HS2.out]; simp [HV.out])] at hw
            cases hw
          rw [e0]
          exact RTwo.mk ⟨rfl, World.ownsRow_made _ _ 0 hb.size (by decide) rfl, hb.alloc hb.size _⟩
        · have hvb : (wstep p x == -2) = false := by simp [hv]
          have HV := Lib.hid hv
          clear hv
          go_wp2_with (first
            | (go_at_call 19; refine (specWindStep _ _ _).mono ?_; rintro e w' ⟨rfl, rfl⟩)
            | (at_builtin; refine append_new rfl _ _ 38 rfl 4 _ _ _ Try.underlying38 bool_info _ wr _ _ _ rfl hown [.bool (wstep p x == -1)] rfl rfl (by simp [Value.oneCell']) (by omega) hb.size ?_; intro v' w1 hown1 hg1 hblk1))
          go_roundw
          case rel => exact ⟨k + 1, by omega, by go_num, by rw [HS1.out], by show _ = true; rw [HS2.out]; simp [HV.out], by rw [HS3.out]; simpa [bools] using hown1, below_append hb hg1 hown rfl⟩
          case measure => simp [intOf]; omega
      · go_wp2
        go_ret2
        obtain rfl : k = n := by omega
        have e0 : windRun s gs = (wst s gs, wworks s gs) := by
          unfold windRun
          rw [if_pos ⟨H.out, by have := hok.out; rwa [List.take_of_length_le (by rw [HG.out]; exact Nat.le_refl _)] at this⟩]
        rw [List.take_of_length_le (by rw [HG.out]; exact Nat.le_refl _)] at hown ⊢
        rw [e0]
        exact RTwo.mk ⟨rfl, by rw [wworks_len, HG.out]; exact hown, hb⟩
  ·
    have hd : (decide (-1 ≤ s) && decide (s ≤ 2)) = false := by simp; omega
    go_enter Try.func32, Try.ntmps32
    go_wp2_with (go_at_call 48; refine (l1In_any _ _ _ _).mono ?_; rintro e w' ⟨rfl, rfl⟩)
    go_ret2
    have e0 : windRun s gs = (-2, []) := by
      unfold windRun
      rw [if_neg]
      rintro ⟨hw, _⟩
      exact h hw
    rw [e0]
    exact RTwo.mk ⟨rfl, World.ownsRow_made _ _ 0 (Nat.le_refl _) (by decide) rfl, (Below.refl _ _).alloc (Nat.le_refl _) _⟩
end Go.Proofs.Ytddhdglmkphjjaa
