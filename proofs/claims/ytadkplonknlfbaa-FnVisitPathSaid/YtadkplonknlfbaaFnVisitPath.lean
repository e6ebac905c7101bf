/- FnVisitPath returns true, for all codes; no condition. -/
import Derived.Test.YtadkplonknlfbaaVPathLP
import Derived.Test.YtadkplonknlfbaaVisitLQ
import Derived.Test.YtadkplonknlfbaaVPathS
import Derived.Test.YtadkplonknlfbaaSameI
import Derived.Test.YtadkplonknlfbaaDrawAll
import Derived.Test.YtadkplonknlfbaaAlive
import Derived.Test.YtadkplonknlfbaaOut
namespace Go.Proofs.Ytadkplonknlfbaa
open Go Go.ChangeShapes Go.WideShapes Go.ChangeAt Go.RowKit
theorem code_below {w w' : World} {A : Option Addr} {n c : Nat} {bs : List Int} (h : Code w A n c bs) (hb : Below w.heap.size w w') : Code w' A n c bs := ⟨h.len, h.cap, h.max, h.rd.below hb, h.byte⟩
set_option maxHeartbeats 2000000 in
theorem walkFnVisitPath (w : World) (A : Option Addr) (n c : Nat) (bs : List Int) (h : Code w A n c bs) (B : Option Addr) (n2 c2 : Nat) (bs2 : List Int) (h2 : Code w B n2 c2 bs2) :
    Calls Try.prog 4 #[.slice A n c, .slice B n2 c2] w fun e w' => e = .returned (.bool true) ∧ Below w.heap.size w w' := by
  by_cases hn : n ≤ 1048576
  · by_cases hn2 : n2 ≤ 1048576
    · go_enter Try.func4, Try.ntmps4
      go_wp2_with fail
      refine (drawVisitPath_any A n c bs w h).mono ?_
      rintro e w1 ⟨_, _, rfl, ⟨s, rfl, hs0, hs1⟩, ⟨t, rfl, ht0, ht1⟩, b1⟩
      have s1 : w.heap.size ≤ w1.heap.size := b1.size
      have HK := Lib.hid (fun es => vless_all (s := s) (t := t) (es := es))
      have HG := Lib.hid (fun p => vgo (s := s) (t := t) (p := p))
      have hlen : ((vpath s t).getD []).length ≤ 4 := by
        cases h : vpath s t with
        | none => simp
        | some p => exact vpath_len h
      have hnone : (vpath s t).isSome = false → ((vpath s t).getD []).length = 0 := by
        cases h : vpath s t with
        | none => simp
        | some p => simp
      have hsome : (vpath s t).isSome = true → vpath s t = some ((vpath s t).getD []) := by
        cases h : vpath s t with
        | none => simp
        | some p => simp
      have HN := Lib.hid hnone
      have HS := Lib.hid hsome
      clear hnone hsome
      generalize hps : (vpath s t).getD [] = ps at *
      generalize hok : (vpath s t).isSome = ok at *
      generalize hm : ps.length = m at *
      have HP := Lib.hid hps
      have HL := Lib.hid hm
      have HO := Lib.hid hok
      clear hps hm hok
      have hoo : (ok != ok) = false := by simp
      go_wp2_with fail
      refine (implVisitPath s t _).mono ?_
      rintro e w2 ⟨_, _, rfl, hR, rfl, hb2⟩
      have s2 : w1.heap.size ≤ w2.heap.size := hb2.size
      have b2 := below_trans b1 hb2
      clear b1
      rw [HP.out, HL.out] at hR
      rw [HO.out]
      obtain ⟨SA, Sc, rfl, _, _⟩ := own_slice hR
      have S2 := OwnI.of hR
      clear hR
      go_wp2_with fail
      refine (specVisitPath s t _).mono ?_
      rintro e w3 ⟨_, _, rfl, hR, rfl, hb3⟩
      have s3 : w2.heap.size ≤ w3.heap.size := hb3.size
      have b3 := below_trans b2 hb3
      have S3 := S2.later hb3
      clear b2 S2
      rw [HP.out, HL.out] at hR
      rw [HO.out]
      obtain ⟨GA, Gc, rfl, _, _⟩ := own_slice hR
      have G3 := OwnI.of hR
      clear hR
      go_wp2_with fail
      refine (sameInts_any _ _ ps m _ _ HL.out _ S3.rd G3.rd (by omega)).mono ?_
      rintro e w4 ⟨rfl, hb4⟩
      have s4 : w3.heap.size ≤ w4.heap.size := hb4.size
      have b4 := below_trans b3 hb4
      have S4 := S3.later hb4
      clear b3 S3 G3
      go_wp2_with fail
      refine (drawVisitRun_any B n2 c2 bs2 _ (code_below h2 b4)).mono ?_
      rintro e w5 ⟨_, v, rfl, ⟨s', rfl, _, _⟩, ⟨es, hg, hgl⟩, hb5⟩
      have s5 : w4.heap.size ≤ w5.heap.size := hb5.size
      have b5 := below_trans b4 hb5
      have S5 := S4.later hb5
      clear b4 S4
      obtain ⟨HA, Hc, rfl, _, _⟩ := own_slice hg
      have H5 := OwnI.of hg
      clear hg
      generalize hm : es.length = q at *
      have HM := Lib.hid hm
      clear hm h h2
      go_wp2_with fail
      refine (implVisitRun s _ es q Hc HM.out _ H5.rd (by omega)).mono ?_
      rintro e w' ⟨rfl, rfl⟩
      have hbd := visitRun_bd s es
      have hk := HK.out es
      generalize visitRun s es = p at *
      obtain ⟨x, nn⟩ := p
      dsimp only at hbd hk ⊢
      have hx0 := hbd.1
      have hn0 := hbd.2.2.1
      have hnn : ok = true → 0 ≤ t → x = t → (m : Int) ≤ nn := by
        intro h1 h2 h3
        obtain ⟨p, hp, hl⟩ := hk h2 h3
        have := HS.out h1
        rw [hp] at this
        injection this with this
        rw [← HL.out, ← this]
        exact hl
      have hno : 0 ≤ t → x = t → ok = true := by
        intro h2 h3
        obtain ⟨p, hp, hl⟩ := hk h2 h3
        rw [← HO.out, hp]
        rfl
      have HNN := Lib.hid hnn
      have HNO := Lib.hid hno
      clear hbd hk HK hnn hno HP HO
      cases ok
      · obtain rfl : m = 0 := HN.out rfl
        by_cases hx : x < 0
        · go_wp2_with fail
          refine (alive_any _).mono ?_
          rintro e w' ⟨rfl, rfl⟩
          go_wp2_with fail
          go_ret
          exact ⟨rfl, b5⟩
        · have hne : (x == t) = false := by
            rw [beq_eq_false_iff_ne]
            intro e
            cases HNO.out (by omega) e
          go_wp2_with fail
          refine (alive_any _).mono ?_
          rintro e w' ⟨rfl, rfl⟩
          go_wp2_with fail
          go_ret
          exact ⟨rfl, b5⟩
      · have HV : Hid (visitRun s ps = (t, (m : Int))) := Lib.hid (by rw [HG.out ps (HS.out rfl), HL.out])
        have htt : (t == t) = true := by simp
        have hmm : ((m : Int) == (m : Int)) = true := by simp
        have hml : (m : Int) ≤ 4 := by omega
        by_cases hx : x < 0
        · go_wp2_with fail
          refine (implVisitRun s _ ps m Sc HL.out _ S5.rd (by omega)).mono ?_
          rintro e w' ⟨rfl, rfl⟩
          rw [HV.out]
          go_wp2_with fail
          go_ret
          exact ⟨rfl, b5⟩
        · by_cases hxt : x = t
          · subst hxt
            have hle := HNN.out rfl (by omega) rfl
            go_wp2_with fail
            refine (implVisitRun s _ ps m Sc HL.out _ S5.rd (by omega)).mono ?_
            rintro e w' ⟨rfl, rfl⟩
            rw [HV.out]
            go_wp2_with fail
            go_ret
            exact ⟨rfl, b5⟩
          · have hne : (x == t) = false := by simp [hxt]
            clear hxt
            go_wp2_with fail
            refine (implVisitRun s _ ps m Sc HL.out _ S5.rd (by omega)).mono ?_
            rintro e w' ⟨rfl, rfl⟩
            rw [HV.out]
            go_wp2_with fail
            go_ret
            exact ⟨rfl, b5⟩
    · obtain ⟨_, hcap, hmax, _, _⟩ := h
      obtain ⟨_, hcap2, hmax2, _, _⟩ := h2
      go_enter Try.func4, Try.ntmps4
      go_wp2_with fail
      go_ret
      exact ⟨rfl, Below.refl _ _⟩
  · obtain ⟨_, hcap, hmax, _, _⟩ := h
    go_enter Try.func4, Try.ntmps4
    go_wp2_with fail
    go_ret
    exact ⟨rfl, Below.refl _ _⟩
end Go.Proofs.Ytadkplonknlfbaa
