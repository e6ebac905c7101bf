/- FnVisitMany returns true, for every code; no condition. -/
import Derived.Test.YtddhdglmkphjjaaVisitLP
import Derived.Test.YtddhdglmkphjjaaDrawAll
import Derived.Test.YtddhdglmkphjjaaAlive
import Derived.Test.YtddhdglmkphjjaaOut
namespace Go.Proofs.Ytddhdglmkphjjaa
open Go.ChangeShapes Go.WideShapes Go.ChangeAt Go.RowKit
set_option maxHeartbeats 1000000 in
theorem walkFnVisitMany (w : World) (A : Option Addr) (n c : Nat) (bs : List Int) (h : Code w A n c bs) :
    Calls Try.prog 13 #[.slice A n c] w fun e w' => e = .returned (.bool true) ∧ Below w.heap.size w w' := by
  by_cases hn : n ≤ 1048576
  · go_enter Try.func13, Try.ntmps13
    go_wp2_with fail
    refine (drawVisitMany_any A n c bs w h).mono ?_
    rintro e w1 ⟨_, v, _, rfl, ⟨s, rfl, hs0, hs1⟩, ⟨es, hg, hgl⟩, ⟨x, rfl⟩, b1⟩
    obtain ⟨GA, gc, rfl, _, _⟩ := own_slice hg
    have G1 := OwnI.of hg
    clear hg
    generalize hm : es.length = m at *
    have HM := Lib.hid hm
    clear hm h
    go_wp2_with fail
    refine (implVisitMany s x _ es m gc HM.out _ G1.rd (by omega)).mono ?_
    rintro e w' ⟨rfl, rfl⟩
    go_wp2_with fail
    refine (specVisitMany s x _ es m gc HM.out _ G1.rd (by omega)).mono ?_
    rintro e w' ⟨rfl, rfl⟩
    have hpe : (visitMany s es x != visitMany s es x) = false := by simp
    have hx0 := visitMany_bd s es x
    rw [HM.out] at hx0
    have HS := Lib.hid (vsum_all s es)
    have HB := Lib.hid (fun k => visitMany_bd s es k)
    have HV := Lib.hid (fun k => vsum_bd s es k)
    rw [HM.out] at HB HV
    generalize visitMany s es x = xx at *
    go_wp2_with fail
    go_loop [7, 8] (fun sum i => ∃ k : Nat, k ≤ 5 ∧ i = .int .i64 k ∧ sum = .int .i64 (vsum s es k)) (fun _ i => 5 - (intOf i).toNat)
    case atStart => exact ⟨0, by omega, rfl, rfl⟩
    case round =>
      obtain ⟨k, hk, rfl, rfl⟩ := hrel
      by_cases hlt : k < 5
      · have hb := HB.out k
        have hv := HV.out k
        have hv2 : ((k : Int) * (m : Int)) ≤ 350 := by
          have : k * m ≤ 5 * 70 := Nat.mul_le_mul (by omega) (by omega)
          omega
        have e1 : vsum s es (k + 1) = vsum s es k + visitMany s es k := rfl
        have E1 := Lib.hid e1
        clear e1
        go_wp2_with fail
        refine (implVisitMany s _ _ es m gc HM.out _ G1.rd (by omega)).mono ?_
        rintro e w' ⟨rfl, rfl⟩
        generalize visitMany s es k = y at *
        generalize vsum s es k = z at *
        go_wp2_with fail
        go_round
        case rel => exact ⟨k + 1, by omega, by go_num, by rw [E1.out]⟩
        case measure => simp [intOf]; omega
      · obtain rfl : k = 5 := by omega
        go_wp2_with fail
        refine (implVisitRun s _ es m gc HM.out _ G1.rd (by omega)).mono ?_
        rintro e w' ⟨rfl, rfl⟩
        have hse : (vsum s es 5 == (visitRun s es).2) = true := by rw [HS.out]; simp
        go_wp2_with fail
        refine (alive_any _).mono ?_
        rintro e w' ⟨rfl, rfl⟩
        go_wp2_with fail
        go_ret
        exact ⟨rfl, b1⟩
  · obtain ⟨_, hcap, hmax, _, _⟩ := h
    go_enter Try.func13, Try.ntmps13
    go_wp2_with fail
    go_ret
    exact ⟨rfl, Below.refl _ _⟩
end Go.Proofs.Ytddhdglmkphjjaa
