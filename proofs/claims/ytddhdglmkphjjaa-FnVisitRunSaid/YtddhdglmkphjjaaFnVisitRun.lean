/- FnVisitRun returns true, for every code; no condition. -/
import Derived.Test.YtddhdglmkphjjaaVisitLQ
import Derived.Test.YtddhdglmkphjjaaDrawAll
import Derived.Test.YtddhdglmkphjjaaAlive
import Derived.Test.YtddhdglmkphjjaaOut
namespace Go.Proofs.Ytddhdglmkphjjaa
open Go.ChangeShapes Go.WideShapes Go.ChangeAt Go.RowKit
set_option maxHeartbeats 2000000 in
theorem walkFnVisitRun (w : World) (A : Option Addr) (n c : Nat) (bs : List Int) (h : Code w A n c bs) :
    Calls Try.prog 14 #[.slice A n c] w fun e w' => e = .returned (.bool true) ∧ Below w.heap.size w w' := by
  by_cases hn : n ≤ 1048576
  · go_enter Try.func14, Try.ntmps14
    go_wp2_with fail
    refine (drawVisitRun_any A n c bs w h).mono ?_
    rintro e w1 ⟨_, v, rfl, ⟨s, rfl, hs0, hs1⟩, ⟨es, hg, hgl⟩, b1⟩
    obtain ⟨GA, gc, rfl, _, _⟩ := own_slice hg
    have G1 := OwnI.of hg
    clear hg
    generalize hm : es.length = m at *
    have HM := Lib.hid hm
    clear hm h
    go_wp2_with fail
    refine (implVisitRun s _ es m gc HM.out _ G1.rd (by omega)).mono ?_
    rintro e w' ⟨rfl, rfl⟩
    go_wp2_with fail
    refine (specVisitRun s _ es m gc HM.out _ G1.rd (by omega)).mono ?_
    rintro e w' ⟨rfl, rfl⟩
    have hp1 : ((visitRun s es).1 != (visitRun s es).1) = false := by simp
    have hp2 : ((visitRun s es).2 != (visitRun s es).2) = false := by simp
    have hbd := visitRun_bd s es
    rw [HM.out] at hbd
    have HT := Lib.hid (told_all es)
    have HB := Lib.hid (fun k => visitMany_bd 0 es k)
    rw [HM.out] at HB
    generalize visitRun s es = p at *
    obtain ⟨x, nn⟩ := p
    dsimp only at hp1 hp2 hbd ⊢
    by_cases hx : x < 0
    · obtain rfl : nn = 0 := hbd.2.2.2.2 hx
      clear hbd
      go_wp2_with fail
      refine (alive_any _).mono ?_
      rintro e w' ⟨rfl, rfl⟩
      go_wp2_with fail
      go_ret
      exact ⟨rfl, b1⟩
    · have hnn := hbd.2.2.2.1
      clear hbd
      go_wp2_with fail
      refine (implVisitRun 0 _ es m gc HM.out _ G1.rd (by omega)).mono ?_
      rintro e w' ⟨rfl, rfl⟩
      go_wp2_with fail
      refine (implVisitMany 0 0 _ es m gc HM.out _ G1.rd (by omega)).mono ?_
      rintro e w' ⟨rfl, rfl⟩
      go_wp2_with fail
      refine (implVisitMany 0 1 _ es m gc HM.out _ G1.rd (by omega)).mono ?_
      rintro e w' ⟨rfl, rfl⟩
      go_wp2_with fail
      refine (implVisitMany 0 2 _ es m gc HM.out _ G1.rd (by omega)).mono ?_
      rintro e w' ⟨rfl, rfl⟩
      have b1' := HB.out 1
      have b2' := HB.out 2
      go_wp2_with fail
      refine (implVisitMany 0 3 _ es m gc HM.out _ G1.rd (by omega)).mono ?_
      rintro e w' ⟨rfl, rfl⟩
      go_wp2_with fail
      refine (implVisitMany 0 4 _ es m gc HM.out _ G1.rd (by omega)).mono ?_
      rintro e w' ⟨rfl, rfl⟩
      have ht := HT.out
      clear HT HB
      generalize (visitRun 0 es).1 = st at *
      generalize visitMany 0 es 0 = ka at *
      generalize visitMany 0 es 1 = kb at *
      generalize visitMany 0 es 2 = kc at *
      generalize visitMany 0 es 3 = kd at *
      generalize visitMany 0 es 4 = kf at *
      unfold Told.ok at ht
      dsimp only at ht
      rcases ht with ht | ht | ht | ht | ht
      all_goals
        obtain ⟨rfl, rfl, hbc, rfl, rfl⟩ := ht
        first | (have ho : kb - kc = 0 := by omega) | (have ho : kb - kc = 1 := by omega)
        rw [ho]
        clear hbc ho b1' b2'
        go_wp2_with fail
        go_ret
        exact ⟨rfl, b1⟩
  · obtain ⟨_, hcap, hmax, _, _⟩ := h
    go_enter Try.func14, Try.ntmps14
    go_wp2_with fail
    go_ret
    exact ⟨rfl, Below.refl _ _⟩
end Go.Proofs.Ytddhdglmkphjjaa
