/- FnReadYard returns true, for every code; no condition beyond the laid tables. -/
import Derived.Test.YtcdjgbechigepaaDoorDrawYardY
import Derived.Test.YtcdjgbechigepaaDoorSamY
import Derived.Test.YtcdjgbechigepaaDoorRdK
import Derived.Test.YtcdjgbechigepaaDoorAlive
namespace Go.Proofs.YtcdjgbechigepaaDoor
open Go Go.ChangeShapes Go.WideShapes Go.ChangeAt Go.RowKit
set_option linter.unusedVariables false
set_option linter.unusedSimpArgs false
/-- what is not a text of a yard gives nothing -/
theorem rdYard_zero {high : Int} {s : List UInt8} (h : (rdYard high s).2.2 = false) : rdYard high s = (0, [], false) := by
  unfold rdYard at h ⊢
  cases hr : rdRows (cutB 32 s) with
  | none => rfl
  | some rows =>
    simp only [hr] at h ⊢
    split
    · rename_i h2
      rw [if_pos h2] at h
      cases h
    · rfl
theorem cutB_end {c : UInt8} : ∀ {s : List UInt8}, cutB c (s ++ [c]) = cutB c s ++ [[]]
  | [] => by simp [cutB]
  | b :: r => by
    have ih := cutB_end (c := c) (s := r)
    have hne := cutB_ne c r
    unfold cutB
    rw [List.cons_append]
    simp only
    rw [ih]
    split
    · rfl
    · cases e : cutB c r with
      | nil => exact absurd e hne
      | cons a q => rfl
/-- with a space behind it a text is refused -/
theorem rdYard_space {high : Int} {s : List UInt8} (h : (rdYard high s).2.2 = true) : rdYard high (s ++ [32]) = (0, [], false) := by
  refine rdYard_zero ?_
  cases hx : (rdYard high (s ++ [32])).2.2 with
  | false => rfl
  | true =>
    unfold rdYard at hx
    rw [cutB_end, rdRows_snoc] at hx
    cases hr : rdRows (cutB 32 s) with
    | none => simp [hr, rowStep] at hx
    | some rows =>
      have e : rdStack [] = none := rfl
      simp [hr, rowStep, e] at hx
set_option maxRecDepth 100000 in
set_option maxHeartbeats 4000000 in
theorem walkFnReadYard (w : World) (A : Option Addr) (n c : Nat) (bs : List Int) (h : Code w A n c bs) (ht : TabW w) (he : ErrsW w) :
    Calls Tryd.prog 4 #[.slice A n c] w fun e w' => e = .returned (.bool true) ∧ Below w.heap.size w w' := by
  have hmx := h.max
  have HTB := Lib.hid ht
  have HER := Lib.hid he
  clear ht he
  by_cases hn : n ≤ 1048576
  · go_enter Tryd.func4, Tryd.ntmps4
    go_wp2_with fail
    refine (drawReadYard_any A n c bs _ h).mono ?_
    rintro e w1 ⟨_, rfl, s, high, rfl, hsl, b1⟩
    have B1 := Lib.hid b1
    clear b1 h
    have cI := fun (W : World) (ht : TabW W) (he : ErrsW W) => implReadYard high s (by omega) W ht he
    have cS := fun (W : World) => specReadYard high s (by omega) W
    rw [← rdYard_spec] at cS
    have hx := rdYard_small high s
    have HOKS := Lib.hid (rdYard_ok (high := high) (s := s))
    have HZ := Lib.hid (rdYard_zero (high := high) (s := s))
    have HSP := Lib.hid (rdYard_space (high := high) (s := s))
    have cM := fun (W : World) (ht : TabW W) (he : ErrsW W) => implReadYard high (s ++ [32]) (by simp; omega) W ht he
    generalize rdYard high s = X at *
    obtain ⟨h', rows', rr⟩ := X
    dsimp only at hx HOKS HZ HSP
    obtain ⟨x1, x2, x3⟩ := hx
    have HM2 : Hid (∀ s ∈ rows', s.length ≤ 1048576) := Lib.hid (fun s hs => by have := x2 s hs; omega)
    have HM1 := Lib.hid (rfl : rows'.length = rows'.length)
    replace cS := fun w => rd_use (cS w) HM1.out
    replace cI := fun w ht he => rd_use (cI w ht he) HM1.out
    clear HM1 x2 x3
    generalize hm : rows'.length = m at *
    have HM := Lib.hid hm
    have hrr : (rr != rr) = false := by simp
    clear hm
    go_wp2_with fail
    refine (cI _ (HTB.out.later B1.out) (HER.out.later B1.out (Nat.le_refl _))).mono ?_
    rintro e w3 ⟨_, rfl, A1, c1, rfl, O3, b3⟩
    have hal4 : Below w3.heap.size w3 (w3.alloc (.cells #[.int .i64 h', .slice A1 m c1] 24)) := (Below.refl _ _).alloc (Nat.le_refl _) _
    have hN4 : Blk (w3.alloc (.cells #[.int .i64 h', .slice A1 m c1] 24)) w3.heap.size 24 [.int .i64 h', .slice A1 m c1] := Blk.new _ _ _
    have B4 := Lib.hid (below_trans B1.out (below_trans b3 hal4))
    have O4 := Lib.hid (O3.later hal4)
    have Q4 := Lib.hid hN4
    clear b3 O3 hal4
    have q0 := hN4.cellAt 0 (by simp)
    have q1 := hN4.cellAt 1 (by simp)
    simp only [List.getElem_cons_zero, List.getElem_cons_succ] at q0 q1
    clear hN4
    go_wp2_with fail
    generalize w3.alloc (.cells #[.int .i64 h', .slice A1 m c1] 24) = w4 at *
    refine (cS _).mono ?_
    rintro e w7 ⟨_, rfl, GA, gc, rfl, G7, b7⟩
    have hal8 : Below w7.heap.size w7 (w7.alloc (.cells #[.int .i64 h', .slice GA m gc] 24)) := (Below.refl _ _).alloc (Nat.le_refl _) _
    have hN8 : Blk (w7.alloc (.cells #[.int .i64 h', .slice GA m gc] 24)) w7.heap.size 24 [.int .i64 h', .slice GA m gc] := Blk.new _ _ _
    have b8 := below_trans b7 hal8
    have B8 := Lib.hid (below_trans B4.out b8)
    have O8 := Lib.hid (O4.out.later b8)
    have Q8 := Lib.hid (Q4.out.later b8)
    have G8 := Lib.hid (G7.later hal8)
    have Z8 := Lib.hid hN8
    clear b7 G7 hal8 b8 O4 Q4 hN8 q0 q1 cS
    have q0 := Q8.out.cellAt 0 (by simp)
    have q1 := Q8.out.cellAt 1 (by simp)
    simp only [List.getElem_cons_zero, List.getElem_cons_succ] at q0 q1
    have z0 := Z8.out.cellAt 0 (by simp)
    have z1 := Z8.out.cellAt 1 (by simp)
    simp only [List.getElem_cons_zero, List.getElem_cons_succ] at z0 z1
    go_wp2_with fail
    generalize w7.alloc (.cells #[.int .i64 h', .slice GA m gc] 24) = w8 at *
    refine (sameYard_any h' A1 GA m c1 gc rows' _ HM.out O8.out.rd G8.out.rd (by omega) HM2.out).mono ?_
    rintro e wd ⟨rfl, bd⟩
    have Bd := Lib.hid (below_trans B8.out bd)
    have Od := Lib.hid (O8.out.later bd)
    have Qd := Lib.hid (Q8.out.later bd)
    clear bd O8 Q8 G8 Z8 B8 q0 q1 z0 z1 cI
    have q0 := Qd.out.cellAt 0 (by simp)
    have q1 := Qd.out.cellAt 1 (by simp)
    simp only [List.getElem_cons_zero, List.getElem_cons_succ] at q0 q1
    cases rr with
    | false =>
      have e := HZ.out rfl
      simp only [Prod.mk.injEq, and_true] at e
      obtain ⟨rfl, rfl⟩ := e
      have hm0 : m = 0 := by have := HM.out; simpa using this.symm
      subst hm0
      clear cM HOKS HSP HZ
      go_wp2_with fail
      refine (alive_any _).mono ?_
      rintro e w9 ⟨rfl, rfl⟩
      go_wp2_with fail
      go_ret
      exact ⟨rfl, Bd.out⟩
    | true =>
      obtain ⟨rfl, hok, hst⟩ := HOKS.out rfl
      rw [HSP.out rfl] at cM
      replace cM := fun W ht he => rd_use (m := 0) (cM W ht he) rfl
      have hcat := fun (W : World) => run_cat (P := Tryd.prog) s [32] (by simp; omega) W
      have cV := fun (W : World) (h : RdRR W A1 (intss rows')) => implYardValid h' A1 m c1 rows' W HM.out h (by omega)
      have cT := fun (W : World) (h : RdRR W A1 (intss rows')) (ht : TabW W) => implYardText h' A1 m c1 rows' W HM.out h (by omega) ht
      rw [hst] at cT
      rw [hok] at cV
      have hss : (s == s) = true := by simp
      have hhh : (h' == h') = true := by simp
      clear HOKS HSP HZ hok hst
      generalize s ++ [32] = s2 at *
      go_wp2_with fail
      refine (cM _ (HTB.out.later Bd.out) (HER.out.later Bd.out (Nat.le_refl _))).mono ?_
      rintro e we ⟨_, rfl, NA, nc, rfl, _, be⟩
      have half : Below we.heap.size we (we.alloc (.cells #[.int .i64 0, .slice NA 0 nc] 24)) := (Below.refl _ _).alloc (Nat.le_refl _) _
      have hNf : Blk (we.alloc (.cells #[.int .i64 0, .slice NA 0 nc] 24)) we.heap.size 24 [.int .i64 0, .slice NA 0 nc] := Blk.new _ _ _
      have bf := below_trans be half
      have Bf := Lib.hid (below_trans Bd.out bf)
      have Of := Lib.hid (Od.out.later bf)
      have Qf := Lib.hid (Qd.out.later bf)
      clear be bf half hNf Bd Od Qd q0 q1 cM
      have q0 := Qf.out.cellAt 0 (by simp)
      have q1 := Qf.out.cellAt 1 (by simp)
      simp only [List.getElem_cons_zero, List.getElem_cons_succ] at q0 q1
      go_wp2_with fail
      generalize we.alloc (.cells #[.int .i64 0, .slice NA 0 nc] 24) = wf at *
      refine (cV _ Of.out.rd).mono ?_
      rintro e wg ⟨rfl, bg⟩
      have Bg := Lib.hid (below_trans Bf.out bg)
      have Og := Lib.hid (Of.out.later bg)
      have Qg := Lib.hid (Qf.out.later bg)
      clear bg Of Qf Bf q0 q1 cV
      have q0 := Qg.out.cellAt 0 (by simp)
      have q1 := Qg.out.cellAt 1 (by simp)
      simp only [List.getElem_cons_zero, List.getElem_cons_succ] at q0 q1
      go_wp2_with fail
      refine (cT _ Og.out.rd (HTB.out.later Bg.out)).mono ?_
      rintro e wh ⟨rfl, bh⟩
      have Bh := Lib.hid (below_trans Bg.out bh)
      have Qh := Lib.hid (Qg.out.later bh)
      clear bh Og Qg Bg q0 q1 cT
      have q0 := Qh.out.cellAt 0 (by simp)
      have q1 := Qh.out.cellAt 1 (by simp)
      simp only [List.getElem_cons_zero, List.getElem_cons_succ] at q0 q1
      go_wp2_with fail
      go_ret
      exact ⟨rfl, Bh.out⟩
  · go_enter Tryd.func4, Tryd.ntmps4
    go_wp2_with fail
    go_ret
    exact ⟨rfl, Below.refl _ _⟩
end Go.Proofs.YtcdjgbechigepaaDoor
