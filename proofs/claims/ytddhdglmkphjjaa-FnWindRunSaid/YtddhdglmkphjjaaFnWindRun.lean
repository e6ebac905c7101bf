/- FnWindRun returns true, for every code; no condition. -/
import Derived.Test.YtddhdglmkphjjaaWindR
import Derived.Test.YtddhdglmkphjjaaWindLP
import Derived.Test.YtddhdglmkphjjaaDrawAll
import Derived.Test.YtddhdglmkphjjaaAlive
import Derived.Test.YtddhdglmkphjjaaSameB
import Derived.Test.YtddhdglmkphjjaaOut
namespace Go.Proofs.Ytddhdglmkphjjaa
open Go.ChangeShapes Go.WideShapes Go.ChangeAt Go.RowKit
/-- up to j: if all was calm then at least three gusts, and all of the last three up to j are calm -/
def CalmTo (gs : List Int) (m j : Nat) (c : Bool) : Prop := (c = true → 3 ≤ m) ∧ (c = true → ∀ i y, m ≤ i + 3 → i < j → gs[i]? = some y → y ≤ 14)
theorem calmTo_false (gs : List Int) (m j : Nat) : CalmTo gs m j false := ⟨(fun h => nomatch h), (fun h => nomatch h)⟩
theorem calmTo_start (gs : List Int) (m j : Nat) (c : Bool) (hj : j + 3 ≤ m ∨ j = 0) (hc : c = true → 3 ≤ m) : CalmTo gs m j c :=
  ⟨hc, fun _ i _ h1 h2 => by omega⟩
theorem calmTo_step {gs : List Int} {m j : Nat} {g : Int} (h : CalmTo gs m j true) (hg : gs[j]? = some g) (h14 : g ≤ 14) : CalmTo gs m (j + 1) true := by
  refine ⟨h.1, fun _ i y h1 h2 hy => ?_⟩
  rcases Nat.lt_or_ge i j with hlt | hge
  · exact h.2 rfl i y h1 hlt hy
  · obtain rfl : i = j := by omega
    rw [hg] at hy
    injection hy with hy
    omega
set_option maxRecDepth 100000 in
set_option maxHeartbeats 4000000 in
theorem walkFnWindRun (w : World) (A : Option Addr) (n c : Nat) (bs : List Int) (h : Code w A n c bs) :
    Calls Try.prog 12 #[.slice A n c] w fun e w' => e = .returned (.bool true) ∧ Below w.heap.size w w' := by
  by_cases hn : n ≤ 1048576
  · go_enter Try.func12, Try.ntmps12
    go_wp2_with fail
    refine (drawWindRun_any A n c bs w h).mono ?_
    rintro e w1 ⟨_, v, rfl, ⟨s, rfl, hs0, hs1⟩, ⟨gs, hg, hgl⟩, b1⟩
    obtain ⟨GA, gc, rfl, _, _⟩ := own_slice hg
    have G1 := OwnI.of hg
    clear hg
    generalize hm : gs.length = m at *
    have HM := Lib.hid hm
    clear hm h
    go_wp2_with fail
    refine (implWindRun s _ gs m gc HM.out _ G1.rd (by omega)).mono ?_
    rintro e w2 ⟨_, v2, rfl, rfl, hW, hb2⟩
    have G2 := G1.later hb2
    have b2 := below_trans b1 hb2
    obtain ⟨WA, wc, rfl, _, _⟩ := own_slice hW
    have W2 := OwnI.of hW
    clear hW G1 b1 hb2
    go_wp2_with fail
    refine (specWindRun s _ gs m gc HM.out _ G2.rd (by omega)).mono ?_
    rintro e w3 ⟨_, v3, rfl, rfl, hV, hb3⟩
    have G3 := G2.later hb3
    have W3 := W2.later hb3
    have b3 := below_trans b2 hb3
    obtain ⟨VA, vc, rfl, _, _⟩ := own_slice hV
    have V3 := OwnI.of hV
    clear hV G2 W2 b2 hb3
    have hpe : ((windRun s gs).1 != (windRun s gs).1) = false := by simp
    go_wp2_with fail
    refine (sameBools_any _ _ (windRun s gs).2 _ _ _ rfl _ W3.rd V3.rd (by have := windRun_le s gs; rw [HM.out] at this; omega)).mono ?_
    rintro e w4 ⟨rfl, hb4⟩
    have G4 := G3.later hb4
    have W4 := W3.later hb4
    have b4 := below_trans b3 hb4
    clear V3 W3 G3 b3 hb4
    by_cases hok : (-1 ≤ s ∧ s ≤ 2) ∧ wok s gs = true
    · have e1 : windRun s gs = (wst s gs, wworks s gs) := by unfold windRun; rw [if_pos hok]
      obtain ⟨hs, hok⟩ := hok
      have hst := wst_bd s gs hs hok
      have hl := wworks_len s gs
      rw [HM.out] at hl
      have F1 := Lib.hid (law_soon' hs hok)
      have F2 := Lib.hid (law_again' hs hok)
      have F3 := Lib.hid (law_calm' hs hok)
      rw [e1] at W4 hpe ⊢
      dsimp only at W4 hpe ⊢
      clear e1 hok
      generalize wst s gs = x at *
      generalize wworks s gs = ws at *
      have hx2 : (x == -2) = false := by simp; omega
      rw [hl] at W4 ⊢
      have HL := Lib.hid hl
      clear hl
      have RG := G4.rd
      have RW := W4.rd
      clear G4 W4
      have CG : Hid (∀ j, j < m → ∀ b off, GA = some ⟨b, off, none⟩ → ∃ y, gs[j]? = some y ∧ w4.cell? ⟨b, off + j, none⟩ = some (.int .i64 y)) := by
        intro j hj b off e
        obtain ⟨b', off', e', _, hc⟩ := RG.pos (k := j) (by rw [ints_len, HM.out]; exact hj)
        rw [e'] at e
        injection e with e
        injection e with e1 e2
        subst e1; subst e2
        have := hc j (by rw [ints_len, HM.out]; exact hj)
        rw [ints_at] at this
        exact ⟨_, List.getElem?_eq_getElem (by rw [HM.out]; exact hj), this⟩
      have CW : Hid (∀ j, j < m → ∀ b off, WA = some ⟨b, off, none⟩ → ∃ y, ws[j]? = some y ∧ w4.cell? ⟨b, off + j, none⟩ = some (.bool y)) := by
        intro j hj b off e
        obtain ⟨b', off', e', _, hc⟩ := RW.pos (k := j) (by rw [bools_len, HL.out]; exact hj)
        rw [e'] at e
        injection e with e
        injection e with e1 e2
        subst e1; subst e2
        have := hc j (by rw [bools_len, HL.out]; exact hj)
        rw [bools_at] at this
        exact ⟨_, List.getElem?_eq_getElem (by rw [HL.out]; exact hj), this⟩
      have AG : Hid (0 < m → ∃ b off, GA = some ⟨b, off, none⟩) := by
        intro h0
        obtain ⟨b', off', e', _, hc⟩ := RG.pos (k := 0) (by rw [ints_len, HM.out]; exact h0)
        exact ⟨b', off', e'⟩
      have AW : Hid (0 < m → ∃ b off, WA = some ⟨b, off, none⟩) := by
        intro h0
        obtain ⟨b', off', e', _, hc⟩ := RW.pos (k := 0) (by rw [bools_len, HL.out]; exact h0)
        exact ⟨b', off', e'⟩
      clear RG RW
      go_wp2_with fail
      go_loop [9] (fun i => ∃ k : Nat, k ≤ m ∧ i = .int .i64 k) (fun i => m - (intOf i).toNat)
      case atStart => exact ⟨0, Nat.zero_le _, rfl⟩
      case round =>
        obtain ⟨k, hk, rfl⟩ := hrel
        by_cases hlt : k < m
        · obtain ⟨gb, go, rfl⟩ := AG.out (by omega)
          obtain ⟨wb, wo, rfl⟩ := AW.out (by omega)
          obtain ⟨gk, hgk, hcg⟩ := CG.out k hlt _ _ rfl
          obtain ⟨bk, hbk, hcb⟩ := CW.out k hlt _ _ rfl
          have HGK := Lib.hid hgk
          have HBK := Lib.hid hbk
          clear hgk hbk
          by_cases h20 : 20 < gk
          · obtain rfl := F1.out k k gk bk (Nat.le_refl _) (by omega) HGK.out HBK.out h20
            go_wp2
            go_loop [10] (fun i => ∃ j : Nat, k + 1 ≤ j ∧ j ≤ m ∧ i = .int .i64 j) (fun i => m - (intOf i).toNat)
            case atStart => exact ⟨k + 1, Nat.le_refl _, by omega, by go_num⟩
            case round =>
              obtain ⟨j, hj0, hj1, rfl⟩ := hrel
              by_cases hjm : j < m ∧ j < k + 3
              · obtain ⟨hjm, hjk⟩ := hjm
                obtain ⟨bj, hbj, hcj⟩ := CW.out j hjm _ _ rfl
                obtain rfl := F1.out k j gk bj (by omega) hjk HGK.out hbj h20
                clear hbj
                go_wp2
                go_round
                case rel => exact ⟨j + 1, by omega, by omega, by go_num⟩
                case measure => simp [intOf]; omega
              · by_cases hjm2 : j < m
                · have hjk : k + 3 ≤ j := by omega
                  clear hjm
                  by_cases hk0 : 0 < k
                  all_goals
                    go_wp2
                    go_round
                    case rel => exact ⟨k + 1, by omega, by go_num⟩
                    case measure => simp [intOf]; omega
                · clear hjm
                  by_cases hk0 : 0 < k
                  all_goals
                    go_wp2
                    go_round
                    case rel => exact ⟨k + 1, by omega, by go_num⟩
                    case measure => simp [intOf]; omega
          · by_cases hk1 : k + 1 < m
            all_goals
              by_cases hk0 : 0 < k
              · have hkz : (0 : Int) ≤ (k : Int) - 1 := by omega
                have hkz1 : (1 : Int) ≤ (k : Int) := by omega
                have hkz3 : ((k : Int) - 1).toNat = k - 1 := by omega
                obtain ⟨b0, hb0, hc0⟩ := CW.out (k - 1) (by omega) _ _ rfl
                have HB0 := Lib.hid hb0
                clear hb0
                cases bk
                · go_wp2
                  refine wp_loop_rounds 1 ?_
                  rw [rounds_succ]
                  go_wp2
                  go_round
                  case rel => exact ⟨k + 1, by omega, by go_num⟩
                  case measure => simp [intOf]; omega
                · cases b0
                  · go_wp2
                    refine wp_loop_rounds 1 ?_
                    rw [rounds_succ]
                    go_wp2
                    all_goals
                      go_loop [11] (fun i => ∃ j : Nat, j ≤ k + 1 ∧ k ≤ j + 2 ∧ i = .int .i64 j) (fun i => k + 1 - (intOf i).toNat)
                      case atStart => first | exact ⟨0, by omega, by omega, rfl⟩ | exact ⟨k - 2, by omega, by omega, by go_num⟩
                      case round =>
                        obtain ⟨j, hj0, hj1, rfl⟩ := hrel
                        by_cases hjk : j ≤ k
                        · obtain ⟨gj, hgj, hcj⟩ := CG.out j (by omega) _ _ rfl
                          have h14 := F2.out k j gj hk0 HBK.out HB0.out hjk hj1 hgj
                          clear hgj
                          go_wp2
                          go_round
                          case rel => exact ⟨j + 1, by omega, by omega, by go_num⟩
                          case measure => simp [intOf]; omega
                        · go_wp2
                          go_round
                          case rel => exact ⟨k + 1, by omega, by go_num⟩
                          case measure => simp [intOf]; omega
                  · go_wp2
                    refine wp_loop_rounds 1 ?_
                    rw [rounds_succ]
                    go_wp2
                    go_round
                    case rel => exact ⟨k + 1, by omega, by go_num⟩
                    case measure => simp [intOf]; omega
              · go_wp2
                refine wp_loop_rounds 1 ?_
                rw [rounds_succ]
                go_wp2
                go_round
                case rel => exact ⟨k + 1, by omega, by go_num⟩
                case measure => simp [intOf]; omega
        · go_wp2
          all_goals
            go_loop [12, 13] (fun cc i => ∃ (j : Nat) (cv : Bool), i = .int .i64 j ∧ j ≤ m ∧ cc = .bool cv ∧ CalmTo gs m j cv) (fun _ i => m - (intOf i).toNat)
            case atStart => first | exact ⟨0, _, rfl, by omega, rfl, calmTo_start _ _ _ _ (by omega) (by simp; omega)⟩ | exact ⟨m - 3, _, by go_num, by omega, rfl, calmTo_start _ _ _ _ (by omega) (by simp; omega)⟩
            case round =>
              obtain ⟨j, cv, rfl, hj, rfl, hcalm⟩ := hrel
              have HC := Lib.hid hcalm
              clear hcalm
              by_cases hjm : j < m
              · obtain ⟨gb, go, rfl⟩ := AG.out (by omega)
                obtain ⟨gj, hgj, hcj⟩ := CG.out j hjm _ _ rfl
                have HGJ := Lib.hid hgj
                clear hgj
                cases cv
                · go_wp2
                  go_round
                  case rel => exact ⟨j + 1, false, by go_num, by omega, rfl, calmTo_false _ _ _⟩
                  case measure => simp [intOf]; omega
                · by_cases h14 : gj ≤ 14
                  · go_wp2
                    go_round
                    case rel => exact ⟨j + 1, true, by go_num, by omega, rfl, calmTo_step HC.out HGJ.out h14⟩
                    case measure => simp [intOf]; omega
                  · go_wp2
                    go_round
                    case rel => exact ⟨j + 1, false, by go_num, by omega, rfl, calmTo_false _ _ _⟩
                    case measure => simp [intOf]; omega
              · obtain rfl : j = m := by omega
                have hmm : ((j : Int) == (j : Int)) = true := by simp
                cases cv
                · go_wp2
                  go_ret
                  exact ⟨rfl, b4⟩
                · have hx1 : x = -1 := F3.out (by rw [HM.out]; exact HC.out.1 rfl) (fun i y hi hy => HC.out.2 rfl i y (by rw [← HM.out]; exact hi) (by have := (List.getElem?_eq_some_iff.1 hy).1; rw [HM.out] at this; exact this) hy)
                  have hx1b : (x == -1) = true := by simp [hx1]
                  clear hx1
                  go_wp2
                  go_ret
                  exact ⟨rfl, b4⟩
    · have e1 : windRun s gs = (-2, []) := by unfold windRun; rw [if_neg hok]
      rw [e1]
      clear e1 hok W4
      go_wp2_with fail
      refine (alive_any _).mono ?_
      rintro e w' ⟨rfl, rfl⟩
      go_wp2_with fail
      go_ret
      exact ⟨rfl, b4⟩
  · obtain ⟨_, hcap, hmax, _, _⟩ := h
    go_enter Try.func12, Try.ntmps12
    go_wp2_with fail
    go_ret
    exact ⟨rfl, Below.refl _ _⟩
end Go.Proofs.Ytddhdglmkphjjaa
