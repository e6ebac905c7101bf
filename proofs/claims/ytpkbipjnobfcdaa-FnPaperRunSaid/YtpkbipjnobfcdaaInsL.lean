/- A number put at its place in a list: the reference's l4Sorted. -/
import Derived.Test.YtpkbipjnobfcdaaYdS
import Derived.Test.YtpkbipjnobfcdaaOwnSrc
import Derived.Deep.RegionLaw
namespace Go.Proofs.Ytpkbipjnobfcdaa
open Go Go.ChangeShapes Go.WideShapes Go.ChangeAt Go.RowKit
set_option linter.unusedVariables false
/-- a number at its place -/
def insL : List Int → Int → List Int
  | [], x => [x]
  | y :: r, x => if y < x then y :: insL r x else x :: y :: r
theorem insL_mem {ls : List Int} {x b : Int} : b ∈ insL ls x ↔ b = x ∨ b ∈ ls := by
  induction ls with
  | nil => simp [insL]
  | cons a r ih =>
    unfold insL
    by_cases h : a < x
    · rw [if_pos h, List.mem_cons, ih, List.mem_cons]
      constructor
      · rintro (h | h | h)
        · exact .inr (.inl h)
        · exact .inl h
        · exact .inr (.inr h)
      · rintro (h | h | h)
        · exact .inr (.inl h)
        · exact .inl h
        · exact .inr (.inr h)
    · rw [if_neg h, List.mem_cons]
theorem insL_len (ls : List Int) (x : Int) : (insL ls x).length = ls.length + 1 := by
  induction ls with
  | nil => rfl
  | cons a r ih =>
    unfold insL
    by_cases h : a < x
    · rw [if_pos h, List.length_cons, ih, List.length_cons]
    · rw [if_neg h]; rfl
theorem insL_asc {ls : List Int} {x : Int} (hp : ls.Pairwise (· < ·)) (hx : x ∉ ls) : (insL ls x).Pairwise (· < ·) := by
  induction ls with
  | nil => simp [insL]
  | cons a r ih =>
    have hr := (List.pairwise_cons.1 hp).2
    have ha := (List.pairwise_cons.1 hp).1
    have h1 : x ≠ a := fun e => hx (by rw [e]; exact List.mem_cons_self ..)
    have h2 : x ∉ r := fun e => hx (List.mem_cons_of_mem _ e)
    unfold insL
    by_cases h : a < x
    · rw [if_pos h, List.pairwise_cons]
      refine ⟨fun b hb => ?_, ih hr h2⟩
      rcases insL_mem.1 hb with rfl | hb
      · exact h
      · exact ha b hb
    · rw [if_neg h, List.pairwise_cons]
      refine ⟨fun b hb => ?_, hp⟩
      rcases List.mem_cons.1 hb with rfl | hb
      · omega
      · have := ha b hb; omega
theorem insL_step {zs : List Int} {x : Int} {k : Nat} (hk : k < zs.length) (h : insL zs x = zs.take k ++ insL (zs.drop k) x) (hx : zs[k] < x) : insL zs x = zs.take (k + 1) ++ insL (zs.drop (k + 1)) x := by
  rw [h, List.drop_eq_getElem_cons hk, insL, if_pos hx, List.take_succ_eq_append_getElem hk, List.append_assoc]
  rfl
theorem insL_stop {zs : List Int} {x : Int} {k : Nat} (hk : k < zs.length) (h : insL zs x = zs.take k ++ insL (zs.drop k) x) (hx : ¬ zs[k] < x) : insL zs x = zs.take k ++ (x :: zs.drop k) := by
  rw [h, List.drop_eq_getElem_cons hk, insL, if_neg hx]
theorem insL_out {zs : List Int} {x : Int} {k : Nat} (hk : zs.length ≤ k) (h : insL zs x = zs.take k ++ insL (zs.drop k) x) : insL zs x = zs.take k ++ (x :: zs.drop k) := by
  rw [h, List.drop_of_length_le hk]
  rfl
theorem rdInts_drop {w : World} {b o : Nat} {zs : List Int} (h : RdV w (some ⟨b, o, none⟩) (ints zs)) (k : Nat) : RdV w (some ⟨b, o + k, none⟩) (ints (zs.drop k)) := by
  rcases h with h | ⟨b', o', e, hl, hc⟩
  · have : zs = [] := by simpa [ints] using h
    subst this
    simp [ints, RdV]
  · injection e with e
    injection e with e1 e2
    subst e1 e2
    refine .inr ⟨b, o + k, rfl, hl, fun j hj => ?_⟩
    rw [ints_len, List.length_drop] at hj
    have := hc (k + j) (by rw [ints_len]; omega)
    rw [Nat.add_assoc, this]
    simp [ints]
set_option maxRecDepth 100000 in
set_option maxHeartbeats 4000000 in
theorem l4Sorted_any (A : Option Addr) (n c : Nat) (zs : List Int) (x : Int) (w : World) (hn : zs.length = n) (hnc : n ≤ c) (hr : RdV w A (ints zs)) (hm : n ≤ 1048576) :
    Calls Try.prog 51 #[.slice A n c, .int .i64 x] w (RVal fun u w' => ∃ B d, u = .slice B (n + 1) d ∧ w'.ownsRow w.heap.size 3 1 (.slice B (n + 1) d) (n + 1) (ints (insL zs x)) ∧ Below w.heap.size w w') := by
  have HN := Lib.hid hn
  clear hn
  go_enter Try.func51, Try.ntmps51
  go_wp2_with fail
  go_loopw [5, 6] (fun o i wr => ∃ (k : Nat) (B : Option Addr) (d : Nat), k ≤ n ∧ i = .int .i64 k ∧ o = .slice B k d ∧ Hid (insL zs x = zs.take k ++ insL (zs.drop k) x) ∧ wr.ownsRow w.heap.size 3 1 (.slice B k d) k (ints (zs.take k)) ∧ Below w.heap.size w wr) (fun _ i _ => n - (intOf i).toNat)
  case atStart =>
    exact ⟨0, _, _, Nat.zero_le _, rfl, rfl, Lib.hid rfl, own_of_blk (cs := []) (Blk.new w 3 []) (Nat.le_refl _) rfl (by decide), (Below.refl _ _).alloc (Nat.le_refl _) _⟩
  case round =>
    obtain ⟨k, B, d, hk, rfl, rfl, HJ, hown, hb⟩ := hrel
    have hrd0 := hr.below hb
    by_cases hlt : k < n
    · have hkz : k < zs.length := by rw [HN.out]; exact hlt
      have hkl : k < (ints zs).length := by rw [ints_len]; exact hkz
      obtain ⟨b, oo, rfl, hl, hc⟩ := hrd0.pos hkl
      have h1 := hc k hkl
      rw [ints_at] at h1
      clear hc
      have hki : (k : Int) < (n : Int) := by omega
      by_cases hx : zs[k] < x
      · have HS := Lib.hid (insL_step hkz HJ.out hx)
        have HTK : Hid (ints (zs.take (k + 1)) = ints (zs.take k) ++ [.int .i64 zs[k]]) := Lib.hid (by rw [List.take_succ_eq_append_getElem hkz, ints_app]; rfl)
        generalize zs[k] = y at *
        have hd : decide (y < x) = true := decide_eq_true hx
        have HO := Lib.hid hown
        have hsz := hb.size
        have HB := Lib.hid hb
        clear hown hb hx
        go_wp2_with (at_builtin; refine append_new rfl (.tmp 20) (.tmp 25) 24 rfl 3 _ _ _ Try.underlying24 int_infoY w.heap.size wr (.slice B k d) k _ rfl HO.out [.int .i64 y] (by first | rfl | (simp; with_unfolding_all rfl)) rfl (by simp [Value.oneCell']) (by omega) hsz ?_; intro v4 w4 hown4 hg4 hblk4)
        obtain ⟨B4, d4, rfl, _, _⟩ := own_slice hown4
        rw [← HTK.out] at hown4
        have hb4 := below_append HB.out hg4 HO.out rfl
        clear hg4 hblk4
        go_wp2_with fail
        go_roundw
        case rel => exact ⟨k + 1, B4, d4, by omega, by go_num, rfl, HS, hown4, hb4⟩
        case measure => simp [intOf]; omega
      · have HI := Lib.hid (insL_stop hkz HJ.out hx)
        generalize zs[k] = y at *
        have hd : decide (y < x) = false := decide_eq_false hx
        have hck : ¬ c = k := by omega
        have HRD : Hid (∀ W, Below w.heap.size w W → RdV W (some ⟨b, oo + k, none⟩) (ints (zs.drop k))) := Lib.hid (fun W hW => rdInts_drop (hr.below hW) k)
        clear hrd0
        have HR := Lib.hid hr
        have HB := Lib.hid hb
        have HO := Lib.hid hown
        have hsz := hb.size
        have hle := hk
        clear hr hb hown
        go_wp2_with fail
        go_region_law (first
          | (refine step_append_new rfl (.tmp 29) (.tmp 31) 24 rfl 3 _ _ _ Try.underlying24 int_infoY w.heap.size wr.drew (.slice B k d) k (ints (zs.take k)) rfl HO.out [.int .i64 x] (by first | rfl | (simp; with_unfolding_all rfl)) rfl (by simp [Value.oneCell']) (by omega) hsz ?_
             intro v7 w7 hown7 hg7 hb7
             obtain ⟨A7, c7, rfl, hA7, hA8⟩ := own_slice hown7
             have hb8 : Below w.heap.size w w7 := below_append (Below.drew HB.out) hg7 HO.out rfl
             have hsz8 := hb8.size)
          | (refine step_append_src rfl (.tmp 32) (.tmp 35) 24 rfl 3 _ _ _ Try.underlying24 int_infoY w.heap.size w7 (.slice A7 (k + 1) c7) (k + 1) (ints (zs.take k) ++ [.int .i64 x]) rfl hown7 _ (n - k) _ (ints (zs.drop k)) (by first | rfl | (simp; with_unfolding_all rfl)) (by simp [ints, HN.out]) (HRD.out _ hb8) (ints_one _) (by omega) hsz8 ?_
             intro v9 w9 hown9 hg9 hb9
             rw [show k + 1 + (n - k) = n + 1 from by omega] at hown9
             obtain ⟨A9, c9, rfl, hA9, hA10⟩ := own_slice hown9
             have hb10 : Below w.heap.size w w9 := below_append hb8 hg9 hown7 rfl))
        all_goals
          go_wp2_with fail
          go_ret
          exact RVal.mk ⟨_, _, rfl, by rw [show ints (insL zs x) = ints (zs.take k) ++ [.int .i64 x] ++ ints (zs.drop k) from by rw [HI.out, ints_app, List.append_assoc]; rfl]; exact hown9, hb10⟩
    · obtain rfl : k = n := by omega
      have HI := Lib.hid (insL_out (by rw [HN.out]; exact Nat.le_refl _) HJ.out)
      have HNL : Hid (ints (zs.drop k) = []) := Lib.hid (by rw [List.drop_of_length_le (by rw [HN.out]; exact Nat.le_refl _)]; rfl)
      clear hrd0
      by_cases hck0 : k = c
      · subst hck0
        have HR := Lib.hid hr
        have HB := Lib.hid hb
        have HO := Lib.hid hown
        have hsz := hb.size
        have hle := hk
        clear hr hb hown
        go_wp2_with fail
        go_region_law (first
          | (refine step_append_new rfl (.tmp 29) (.tmp 31) 24 rfl 3 _ _ _ Try.underlying24 int_infoY w.heap.size wr.drew (.slice B k d) k (ints (zs.take k)) rfl HO.out [.int .i64 x] (by first | rfl | (simp; with_unfolding_all rfl)) rfl (by simp [Value.oneCell']) (by omega) hsz ?_
             intro v7 w7 hown7 hg7 hb7
             obtain ⟨A7, c7, rfl, hA7, hA8⟩ := own_slice hown7
             have hb8 : Below w.heap.size w w7 := below_append (Below.drew HB.out) hg7 HO.out rfl
             have hsz8 := hb8.size)
          | (refine step_append_src rfl (.tmp 32) (.tmp 35) 24 rfl 3 _ _ _ Try.underlying24 int_infoY w.heap.size w7 (.slice A7 (k + 1) c7) (k + 1) (ints (zs.take k) ++ [.int .i64 x]) rfl hown7 _ 0 _ (ints (zs.drop k)) (by first | rfl | (simp; with_unfolding_all rfl)) (by simp [ints, HN.out]) (by rw [HNL.out]; exact RdV.nil_) (ints_one _) (by omega) hsz8 ?_
             intro v9 w9 hown9 hg9 hb9
             rw [show k + 1 + 0 = k + 1 from by omega] at hown9
             obtain ⟨A9, c9, rfl, hA9, hA10⟩ := own_slice hown9
             have hb10 : Below w.heap.size w w9 := below_append hb8 hg9 hown7 rfl))
        all_goals
          go_wp2_with fail
          go_ret
          exact RVal.mk ⟨_, _, rfl, by rw [show ints (insL zs x) = ints (zs.take k) ++ [.int .i64 x] ++ ints (zs.drop k) from by rw [HI.out, ints_app, List.append_assoc]; rfl]; exact hown9, hb10⟩
      · have hck : ¬ c = k := fun e => hck0 e.symm
        have HR := Lib.hid hr
        have HB := Lib.hid hb
        have HO := Lib.hid hown
        have hsz := hb.size
        have hle := hk
        clear hr hb hown
        go_wp2_with fail
        go_region_law (first
          | (refine step_append_new rfl (.tmp 29) (.tmp 31) 24 rfl 3 _ _ _ Try.underlying24 int_infoY w.heap.size wr.drew (.slice B k d) k (ints (zs.take k)) rfl HO.out [.int .i64 x] (by first | rfl | (simp; with_unfolding_all rfl)) rfl (by simp [Value.oneCell']) (by omega) hsz ?_
             intro v7 w7 hown7 hg7 hb7
             obtain ⟨A7, c7, rfl, hA7, hA8⟩ := own_slice hown7
             have hb8 : Below w.heap.size w w7 := below_append (Below.drew HB.out) hg7 HO.out rfl
             have hsz8 := hb8.size)
          | (refine step_append_src rfl (.tmp 32) (.tmp 35) 24 rfl 3 _ _ _ Try.underlying24 int_infoY w.heap.size w7 (.slice A7 (k + 1) c7) (k + 1) (ints (zs.take k) ++ [.int .i64 x]) rfl hown7 _ 0 _ (ints (zs.drop k)) (by first | rfl | (simp; with_unfolding_all rfl)) (by simp [ints, HN.out]) (by rw [HNL.out]; exact RdV.nil_) (ints_one _) (by omega) hsz8 ?_
             intro v9 w9 hown9 hg9 hb9
             rw [show k + 1 + 0 = k + 1 from by omega] at hown9
             obtain ⟨A9, c9, rfl, hA9, hA10⟩ := own_slice hown9
             have hb10 : Below w.heap.size w w9 := below_append hb8 hg9 hown7 rfl))
        all_goals
          go_wp2_with fail
          go_ret
          exact RVal.mk ⟨_, _, rfl, by rw [show ints (insL zs x) = ints (zs.take k) ++ [.int .i64 x] ++ ints (zs.drop k) from by rw [HI.out, ints_app, List.append_assoc]; rfl]; exact hown9, hb10⟩
end Go.Proofs.Ytpkbipjnobfcdaa
