/- FnReleased returns true, for every code; no condition. -/
import Derived.Test.YtndhienobbnfeaaDrawPart
import Derived.Test.YtndhienobbnfeaaRel
import Derived.Test.YtndhienobbnfeaaAlive
import Derived.Deep.RegionHeld3
namespace Go.Proofs.Ytndhienobbnfeaa
open Go Go.ChangeShapes Go.WideShapes Go.ChangeAt Go.RowKit
theorem drawReleased_any (A : Option Addr) (n c : Nat) (bs : List Int) (w : World) (h : Code w A n c bs) :
    Calls Try.prog 15 #[.slice A n c] w (RVal fun v w' => ∃ l, v = .string (txt l) ∧ l.length ≤ 8 ∧ Below w.heap.size w w') := by
  go_enter Try.func15, Try.ntmps15
  go_wp2_with fail
  refine (open_any A n c bs w h).mono ?_
  rintro e w1 ⟨v, rfl, g, rfl, hg, hr, hb⟩
  go_wp2_with fail
  refine (l20Part_any g 0 w1 hr (by omega)).mono ?_
  rintro e w2 ⟨_, rfl, l1, q1, rfl, hl1, hq1, hr1, hg1⟩
  go_wp2_with fail
  refine (l20Part_any g q1 _ hr1 (by omega)).mono ?_
  rintro e w3 ⟨_, rfl, l2, q2, rfl, hl2, hq2, hr2, hg2⟩
  have ha := run_cat (P := Try.prog) l1 l2 (by omega)
  have hbb := Lib.hid (below_only hb (only_trans hg1 hg2) hg)
  clear hb hg1 hg2 hr hr1 hr2
  go_wp2_with fail
  go_ret
  exact RVal.mk ⟨l1 ++ l2, rfl, by simp; omega, hbb.out⟩
theorem half_bd (n : Nat) : 0 ≤ (n : Int) / 2 ∧ (n : Int) / 2 ≤ n ∧ ((n : Int) / 2).toNat = n / 2 := by omega
set_option maxHeartbeats 2000000 in
theorem walkFnReleased (w : World) (A : Option Addr) (n c : Nat) (bs : List Int) (h : Code w A n c bs) :
    Calls Try.prog 4 #[.slice A n c] w fun e w' => e = .returned (.bool true) ∧ Below w.heap.size w w' := by
  by_cases hn : n ≤ 1048576
  · go_enter Try.func4, Try.ntmps4
    go_wp2_with fail
    refine (drawReleased_any A n c bs w h).mono ?_
    rintro e w1 ⟨_, rfl, l, rfl, hl, b1⟩
    have hls : (txt l).size ≤ 8 := by rw [txt_size]; exact hl
    generalize txt l = s at *
    clear h hl l
    go_wp2_with fail
    refine (implReleased s _ (by omega)).mono ?_
    rintro e w2 ⟨rfl, b2⟩
    have b2 := below_trans b1 b2
    clear b1
    go_wp2_with fail
    refine (specReleased s _ (by omega)).mono ?_
    rintro e w' ⟨rfl, rfl⟩
    go_wp2_with fail
    have hxs : (txt (relL s.data.toList)).size = s.size + mkN s.data.toList := by rw [txt_size, relL_len, list_len]
    have hmn := mkN_le s.data.toList
    rw [list_len] at hmn
    have hsp : relL s.data.toList = relL (s.data.toList.take (s.size / 2)) ++ relL (s.data.toList.drop (s.size / 2)) := by rw [← relL_append, List.take_append_drop]
    have la : (relL (s.data.toList.take (s.size / 2))).length ≤ 16 := by
      rw [relL_len]
      have h1 := mkN_le (s.data.toList.take (s.size / 2))
      have h2 : (s.data.toList.take (s.size / 2)).length ≤ s.size / 2 := List.length_take_le _ _
      omega
    have lb : (relL (s.data.toList.drop (s.size / 2))).length ≤ 16 := by
      rw [relL_len]
      have h1 := mkN_le (s.data.toList.drop (s.size / 2))
      have h2 : (s.data.toList.drop (s.size / 2)).length ≤ s.data.toList.length := by rw [List.length_drop]; omega
      rw [list_len] at h2
      omega
    have hadd : ∀ w : World, (Op.stringOp .add (txt (relL (s.data.toList.take (s.size / 2)))) (txt (relL (s.data.toList.drop (s.size / 2))))).run Try.prog w = .ok (.string (txt (relL s.data.toList))) w := fun w => by
      rw [run_cat _ _ (by omega), ← hsp]
    have HA := Lib.hid hadd
    have HX := Lib.hid hxs
    clear hsp hadd hxs la lb
    generalize hx : txt (relL s.data.toList) = x at *
    clear hx
    go_loop [5, 6] (fun n i => ∃ k : Nat, k ≤ s.size ∧ i = .int .i64 k ∧ n = .int .i64 (mkN (s.data.toList.take k))) (fun _ i => s.size - (intOf i).toNat)
    case atStart => exact ⟨0, Nat.zero_le _, rfl, rfl⟩
    case round =>
      obtain ⟨k, hk, rfl, rfl⟩ := hrel
      by_cases hlt : k < s.size
      · have HT := Lib.hid (mkN_take s.data.toList k (by simpa using hlt))
        have HG := Lib.hid (str_get s k hlt)
        have hmk := mkN_le (s.data.toList.take k)
        have h2 : (s.data.toList.take k).length ≤ k := List.length_take_le _ _
        generalize mkN (s.data.toList.take k) = m at *
        have hm8 : m ≤ 8 := by omega
        clear hmk h2
        rcases mkI_cases (s[k].toNat : Int) with ⟨hm, hc⟩ | ⟨hm, h1, h2, h3, h4⟩
        · have HM := Lib.hid hm
          clear hm
          rcases hc with hc | hc | hc | hc
          all_goals
            go_wp2_with fail
            go_round
            case rel => exact ⟨k + 1, by omega, by go_num, by rw [HT.out, ← HG.out, if_pos (by unfold mk8; exact HM.out)]; go_num⟩
            case measure => simp [intOf]; omega
        · have HM := Lib.hid hm
          clear hm
          go_wp2_with fail
          go_round
          case rel => exact ⟨k + 1, by omega, by go_num, by rw [HT.out, ← HG.out, if_neg (by unfold mk8; rw [HM.out]; simp)]; rfl⟩
          case measure => simp [intOf]; omega
      · obtain rfl : k = s.size := by omega
        rw [List.take_of_length_le (by simp)]
        generalize mkN s.data.toList = m at *
        have hm8 : m ≤ 8 := by omega
        go_wp2_with fail
        have hh : (s.size : Int) / 2 = ((s.size / 2 : Nat) : Int) := by omega
        have hsl1 := run_upto (P := Try.prog) 9 Try.underlying9 s (s.size / 2) (by omega)
        have hsl2 := run_from (P := Try.prog) 9 Try.underlying9 s (s.size / 2) (by omega)
        rw [← hh] at hsl1 hsl2
        have hw : IntKind.i64.wrap ((s.size : Int) + (m : Int)) = (s.size : Int) + m := IntWalk.i64_in _ (by omega)
        have hd1 : ((x.size : Int) == (s.size : Int) + (m : Int)) = true := by rw [HX.out]; simp
        have hadd := HA.out
        have l1 : (txt (s.data.toList.take (s.size / 2))).size ≤ 8 := by
          rw [txt_size]
          have h2 : (s.data.toList.take (s.size / 2)).length ≤ s.size / 2 := List.length_take_le _ _
          omega
        have l2 : (txt (s.data.toList.drop (s.size / 2))).size ≤ 8 := by
          rw [txt_size, List.length_drop, list_len]
          omega
        generalize s.data.toList.take (s.size / 2) = sa at *
        generalize s.data.toList.drop (s.size / 2) = sb at *
        clear hh HX
        go_region_held3 (fun w' => Below w.heap.size w w') (first | assumption | exact Below.drew (by assumption) | (refine below_trans ?_ (by assumption); assumption))
          (first
            | (go_at_call 14; (with_reducible refine (implReleased (txt sa) _ (by omega)).mono ?_); rintro e w3 ⟨rfl, b3⟩)
            | (go_at_call 14; (with_reducible refine (implReleased (txt sb) _ (by omega)).mono ?_); rintro e w4 ⟨rfl, b4⟩)
            | (go_at_call 14; (with_reducible refine (implReleased (txt []) _ (by decide)).mono ?_); rintro e w5 ⟨rfl, b5⟩)
            | (go_at_call 16; (with_reducible refine (alive_any _).mono ?_); rintro e w' ⟨rfl, rfl⟩))
        go_wp2_with fail
        go_ret
        exact ⟨rfl, by assumption⟩
  · obtain ⟨_, hcap, hmax, _, _⟩ := h
    go_enter Try.func4, Try.ntmps4
    go_wp2_with fail
    go_ret
    exact ⟨rfl, Below.refl _ _⟩
end Go.Proofs.Ytndhienobbnfeaa
