/- FnReadSegment returns true, for every code; no condition. -/
import Derived.Test.YtljbbhipdfnppaaSegW
import Derived.Test.YtljbbhipdfnppaaDrawStream
import Derived.Test.YtljbbhipdfnppaaSameSeg
import Derived.Test.YtljbbhipdfnppaaAlive
namespace Go.Proofs.Ytljbbhipdfnppaa
open Go Go.ChangeShapes Go.WideShapes Go.ChangeAt Go.RowKit
set_option linter.unusedVariables false
theorem rd_none {l : List UInt8} (h : rdN (rdSeg l) = 0) : bA (rdT l (rdSeg l)) = ⟨#[]⟩ ∧ (tx (rdE (rdSeg l))).length = 0 := by
  cases hs : rdSeg l with
  | none => exact ⟨rfl, rfl⟩
  | some x =>
    obtain ⟨E, n⟩ := x
    have := (rdSeg_ok hs).2.1
    rw [hs] at h
    simp only [rdN] at h
    omega
theorem rd_some {l : List UInt8} (h : rdN (rdSeg l) ≠ 0) : segOk (bA (rdT l (rdSeg l))) (tx (rdE (rdSeg l))) = true ∧ segText (bA (rdT l (rdSeg l))) (tx (rdE (rdSeg l))) = l.take (rdN (rdSeg l)) := by
  cases hs : rdSeg l with
  | none => rw [hs] at h; exact absurd rfl h
  | some x =>
    obtain ⟨E, n⟩ := x
    obtain ⟨h1, _, _, h4⟩ := rdSeg_ok hs
    exact ⟨h4, h1⟩
set_option maxRecDepth 100000 in
set_option maxHeartbeats 4000000 in
theorem walkFnReadSegment (w : World) (A : Option Addr) (n c : Nat) (bs : List Int) (h : Code w A n c bs) :
    Calls Try.prog 7 #[.slice A n c] w fun e w' => e = .returned (.bool true) ∧ Below w.heap.size w w' := by
  by_cases hn : n ≤ 1048576
  · go_enter Try.func7, Try.ntmps7
    go_wp2_with fail
    refine (drawReadSegment_any A n c bs w h).mono ?_
    rintro e w0 ⟨_, rfl, l, rfl, hl, b0⟩
    have hls : (txt l).size = l.length := txt_size l
    have hld : (txt l).data.toList = l := by simp
    have hz : (txt l).size ≤ 1073741824 := by omega
    obtain ⟨f1, f2, f3, f4⟩ := rd_facts l
    have hxl : (tx (rdE (rdSeg l))).length ≤ 5 := by rw [tx, List.length_map]; exact f1
    have cS := fun w => specReadSegment (txt l) w hz
    have cI := fun w => implRd (txt l) w hz
    rw [hld] at cS cI
    have cS' := fun w => segRd (cS w) rfl rfl rfl rfl
    have cI' := fun w => segRd (cI w) rfl rfl rfl rfl
    have hrn := rd_none (l := l)
    have hrs := rd_some (l := l)
    have B0 := Lib.hid b0
    clear cS cI b0 h hn
    generalize bA (rdT l (rdSeg l)) = tg at *
    generalize tx (rdE (rdSeg l)) = ess at *
    generalize rdN (rdSeg l) = N at *
    have HRN := Lib.hid hrn
    have HRS := Lib.hid hrs
    clear hrn hrs
    generalize hm : ess.length = m at *
    have HM := Lib.hid hm
    have HIN : Hid (∀ zs ∈ ess, zs.length ≤ 1099511627776) := Lib.hid (fun zs hz => by have := f2 zs hz; omega)
    have hNN : ((N : Int) != (N : Int)) = false := by simp
    clear hm f1 f2 hld
    go_wp2_with fail
    refine (cI' _).mono ?_
    rintro e w1 ⟨_, rfl, A1, c1, rfl, O1, b1⟩
    have hal2 : Below w1.heap.size w1 (w1.alloc (.cells #[.string tg, .slice A1 m c1] 25)) := (Below.refl _ _).alloc (Nat.le_refl _) _
    have hN2 : Blk (w1.alloc (.cells #[.string tg, .slice A1 m c1] 25)) w1.heap.size 25 [.string tg, .slice A1 m c1] := Blk.new _ _ _
    have B2 := Lib.hid (below_trans B0.out (below_trans b1 hal2))
    have O2 := Lib.hid (O1.later hal2)
    have Q2 := Lib.hid hN2
    clear b1 O1 hal2 hN2 B0
    go_wp2_with fail
    generalize w1.alloc (.cells #[.string tg, .slice A1 m c1] 25) = w2 at *
    generalize w1.heap.size = q3 at *
    refine (cS' _).mono ?_
    rintro e w3 ⟨_, rfl, A2, c2, rfl, O3, b3⟩
    have hal4 : Below w3.heap.size w3 (w3.alloc (.cells #[.string tg, .slice A2 m c2] 25)) := (Below.refl _ _).alloc (Nat.le_refl _) _
    have hN4 : Blk (w3.alloc (.cells #[.string tg, .slice A2 m c2] 25)) w3.heap.size 25 [.string tg, .slice A2 m c2] := Blk.new _ _ _
    have b4 := below_trans b3 hal4
    have B4 := Lib.hid (below_trans B2.out b4)
    have P4 := Lib.hid (O2.out.later b4)
    have R4 := Lib.hid (O3.later hal4)
    have Q4 := Q2.out.later b4
    have x0 := Q4.cellAt 0 (by simp)
    have x1 := Q4.cellAt 1 (by simp)
    have y0 := hN4.cellAt 0 (by simp)
    have y1 := hN4.cellAt 1 (by simp)
    simp only [List.getElem_cons_zero, List.getElem_cons_succ] at x0 x1 y0 y1
    have HQ4 := Lib.hid Q4
    clear b3 b4 O3 hal4 hN4 Q4 B2 O2 Q2
    go_wp2_with fail
    generalize w3.alloc (.cells #[.string tg, .slice A2 m c2] 25) = w4 at *
    refine (sameSegment_any tg A1 A2 ess m c1 c2 HM.out _ P4.out.rd R4.out.rd (by omega) HIN.out).mono ?_
    rintro e w5 ⟨rfl, b5⟩
    have B5 := Lib.hid (below_trans B4.out b5)
    have P5 := Lib.hid (P4.out.later b5)
    have hQ5 := HQ4.out.later b5
    clear x0 x1 y0 y1
    have x0 := hQ5.cellAt 0 (by simp)
    have x1 := hQ5.cellAt 1 (by simp)
    simp only [List.getElem_cons_zero, List.getElem_cons_succ] at x0 x1
    have hlq := hQ5.lt
    clear b5 B4 P4 R4 HQ4 hQ5
    by_cases hN0 : N = 0
    · obtain ⟨t1, t2⟩ := HRN.out hN0
      subst hN0
      subst t1
      subst t2
      go_wp2_with fail
      refine (alive_any _).mono ?_
      rintro e w' ⟨rfl, rfl⟩
      go_wp2_with fail
      go_ret
      exact ⟨rfl, B5.out⟩
    · obtain ⟨t1, t2⟩ := HRS.out hN0
      have hN1 : ((N : Int) == 0) = false := by simp; omega
      have hN2 : (0 : Int) < (N : Int) := by omega
      have hN3 : (N : Int) ≤ (((txt l).size : Nat) : Int) := by omega
      have hN4 : (N : Int) ≤ (l.length : Int) := by omega
      have hN5 : 0 < N := by omega
      have hN6 : decide ((0 : Int) < (N : Int)) = true := decide_eq_true hN2
      have hN7 : decide ((N : Int) ≤ (l.length : Int)) = true := decide_eq_true hN4
      have hN8 : N ≤ l.length := by omega
      have hup := run_upto (P := Try.prog) 9 Try.underlying9 (txt l) N (by omega)
      rw [show (txt l).data.toList = l from by simp] at hup
      have hll : ((l.take N) == (l.take N)) = true := by simp
      have T1 := Lib.hid t1
      have T2 := Lib.hid t2
      clear t1 t2
      go_wp2_with fail
      go_region_held3 (fun W => Below w5.heap.size w5 W ∧ W.cell? ⟨q3, 0, none⟩ = some (.string tg) ∧ W.cell? ⟨q3, 1, none⟩ = some (.slice A1 m c1))
        (first | exact keepQ (Below.refl _ _) hlq x0 x1 | exact keepQ (Below.drew (Below.refl _ _)) hlq x0 x1 | exact k7 | exact k6)
        (first
          | (go_at_call 10; (with_reducible refine (implSegmentValid tg A1 m c1 ess _ HM.out (P5.out.later (Below.drew (Below.refl _ _))).rd (by omega)).mono ?_); rintro e w6 ⟨rfl, b6⟩; rw [T1.out]; have k6 := keepQ (below_trans (Below.drew (Below.refl _ _)) b6) hlq x0 x1; have P6 := Lib.hid (P5.out.later k6.1); clear b6)
          | (go_at_call 14; (with_reducible refine (implSegmentText tg A1 m c1 ess _ HM.out P6.out.rd (by omega)).mono ?_); rintro e w7 ⟨rfl, b7⟩; rw [T2.out]; have k7 := keepQ (below_trans k6.1 b7) hlq x0 x1; clear b7))
      go_wp2_with fail
      go_ret
      exact ⟨rfl, below_trans B5.out k7.1⟩
  · obtain ⟨_, hcap, hmax, _, _⟩ := h
    go_enter Try.func7, Try.ntmps7
    go_wp2_with fail
    go_ret
    exact ⟨rfl, Below.refl _ _⟩
end Go.Proofs.Ytljbbhipdfnppaa
