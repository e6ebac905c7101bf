/- FnExactReadYard returns true, for all arguments; no condition beyond the laid tables. -/
import Derived.Test.YtcdjgbechigepaaDoorRdK
namespace Go.Proofs.YtcdjgbechigepaaDoor
open Go Go.ChangeShapes Go.WideShapes Go.ChangeAt Go.RowKit
set_option linter.unusedVariables false
set_option maxRecDepth 100000 in
set_option maxHeartbeats 4000000 in
theorem walkFnExactReadYard (w : World) (s : ByteArray) (_ : s.size ≤ maxLen) (high : Int) (_ : (Lit.int .i64 high).wf = true) (ht : TabW w) (he : ErrsW w) :
    Calls Tryd.prog 3 #[.string s, .int .i64 high] w fun e w' => e = .returned (.bool true) ∧ Below w.heap.size w w' := by
  obtain ⟨l, rfl⟩ : ∃ l, s = txt l := ⟨s.data.toList, (txt_list s).symm⟩
  by_cases hn : l.length ≤ 1048576
  · have hn0 : ¬ (1048576 : Int) < (l.length : Int) := by omega
    have hn1 : ¬ (1048576 : Int) < ((txt l).size : Int) := by rw [txt_size]; exact hn0
    have cS := fun (w : World) => specReadYard high l (by omega) w
    rw [← rdYard_spec] at cS
    have cI := fun (w : World) (ht : TabW w) (he : ErrsW w) => implReadYard high l (by omega) w ht he
    have hx := rdYard_small high l
    generalize rdYard high l = X at *
    obtain ⟨h', rows', rr⟩ := X
    dsimp only at hx
    obtain ⟨x1, x2, x3⟩ := hx
    have HM2 : Hid (∀ s ∈ rows', s.length ≤ 1099511627776) := Lib.hid (fun s hs => by have := x2 s hs; omega)
    have HM1 := Lib.hid (rfl : rows'.length = rows'.length)
    replace cS := fun w => rd_use (cS w) HM1.out
    replace cI := fun w ht he => rd_use (cI w ht he) HM1.out
    clear HM1 x2
    generalize hm : rows'.length = m at *
    have HM := Lib.hid hm
    generalize htt0 : totI rows' = tot at *
    have HT := Lib.hid htt0
    have hrr : (rr != rr) = false := by simp
    have htt : (1 + (tot : Int) != 1 + (tot : Int)) = false := by simp
    have ht0 : ¬ (1 + (tot : Int) < 0) := by omega
    have HTB := Lib.hid ht
    have HER := Lib.hid he
    clear hm htt0 ht he
    go_enter Tryd.func3, Tryd.ntmps3
    go_wp2_with fail
    refine (cS _).mono ?_
    rintro e w3 ⟨_, rfl, A1, c1, rfl, O3, b3⟩
    have hal4 : Below w3.heap.size w3 (w3.alloc (.cells #[.int .i64 h', .slice A1 m c1] 24)) := (Below.refl _ _).alloc (Nat.le_refl _) _
    have hN4 : Blk (w3.alloc (.cells #[.int .i64 h', .slice A1 m c1] 24)) w3.heap.size 24 [.int .i64 h', .slice A1 m c1] := Blk.new _ _ _
    have B4 := Lib.hid (below_trans b3 hal4)
    have O4 := Lib.hid (O3.later hal4)
    have Q4 := Lib.hid hN4
    have lq := hN4.lt
    have lo3 : w.heap.size ≤ w3.heap.size := b3.size
    clear b3 O3 hal4
    have q0 := hN4.cellAt 0 (by simp)
    have q1 := hN4.cellAt 1 (by simp)
    simp only [List.getElem_cons_zero, List.getElem_cons_succ] at q0 q1
    clear hN4
    go_wp2_with fail
    generalize w3.alloc (.cells #[.int .i64 h', .slice A1 m c1] 24) = w4 at *
    refine (cI _ (HTB.out.later B4.out) (HER.out.later B4.out (Nat.le_refl _))).mono ?_
    rintro e w7 ⟨_, rfl, GA, gc, rfl, G7, b7⟩
    have hal8 : Below w7.heap.size w7 (w7.alloc (.cells #[.int .i64 h', .slice GA m gc] 24)) := (Below.refl _ _).alloc (Nat.le_refl _) _
    have hN8 : Blk (w7.alloc (.cells #[.int .i64 h', .slice GA m gc] 24)) w7.heap.size 24 [.int .i64 h', .slice GA m gc] := Blk.new _ _ _
    have b8 := below_trans b7 hal8
    have B8 := Lib.hid (below_trans B4.out b8)
    have O8 := Lib.hid (O4.out.later b8)
    have Q8 := Lib.hid (Q4.out.later b8)
    have G8 := Lib.hid (G7.later hal8)
    have Z8 := Lib.hid hN8
    have l7 := b7.size
    have l8 := hN8.lt
    clear b7 G7 hal8 b8 O4 Q4 hN8 q0 q1
    have q0 := Q8.out.cellAt 0 (by simp)
    have q1 := Q8.out.cellAt 1 (by simp)
    simp only [List.getElem_cons_zero, List.getElem_cons_succ] at q0 q1
    have z0 := Z8.out.cellAt 0 (by simp)
    have z1 := Z8.out.cellAt 1 (by simp)
    simp only [List.getElem_cons_zero, List.getElem_cons_succ] at z0 z1
    go_wp2_with fail
    generalize w7.alloc (.cells #[.int .i64 h', .slice GA m gc] 24) = w8 at *
    refine (eqYard_any h' GA A1 m gc c1 rows' _ HM.out G8.out.rd O8.out.rd (by omega) HM2.out).mono ?_
    rintro e wd ⟨rfl, bd⟩
    have Bd := Lib.hid (below_trans B8.out bd)
    have Od := Lib.hid (O8.out.later bd)
    have Qd := Lib.hid (Q8.out.later bd)
    have Gd := Lib.hid (G8.out.later bd)
    have Zd := Lib.hid (Z8.out.later bd)
    clear bd O8 Q8 G8 Z8 B8 q0 q1 z0 z1
    have z0 := Zd.out.cellAt 0 (by simp)
    have z1 := Zd.out.cellAt 1 (by simp)
    simp only [List.getElem_cons_zero, List.getElem_cons_succ] at z0 z1
    have hmk2 := markYard_any h' GA m gc w4.heap.size w7.heap.size 1 rows' wd HM.out Gd.out (Nat.le_refl _) (by rw [HT.out]; omega) (by omega)
    rw [HT.out, show ((1 : Nat) : Int) = 1 from rfl] at hmk2
    have HMK2 := Lib.hid hmk2
    clear hmk2
    go_wp2_with fail
    refine HMK2.out.mono ?_
    rintro e we ⟨rfl, G5, oe⟩
    have Be := Lib.hid (below_out Bd.out oe (by have := B4.out.size; omega))
    have Oe := Lib.hid (Od.out.out oe (.inl (by omega)))
    have Ge := Lib.hid G5
    have Qe : Hid (Blk we w3.heap.size 24 [.int .i64 h', .slice A1 m c1]) := Lib.hid ((oe.block _ Qd.out.lt (.inl (by omega))).trans Qd.out)
    have Ze : Hid (Blk we w7.heap.size 24 [.int .i64 h', .slice GA m gc]) := Lib.hid ((oe.block _ Zd.out.lt (.inr (Nat.le_refl _))).trans Zd.out)
    clear oe Od Qd Gd Zd Bd G5 z0 z1 HMK2
    have z0 := Ze.out.cellAt 0 (by simp)
    have z1 := Ze.out.cellAt 1 (by simp)
    simp only [List.getElem_cons_zero, List.getElem_cons_succ] at z0 z1
    have hhd := heldYard_any h' GA m gc 1 rows' we HM.out Ge.out.rd (Nat.le_refl _) (by rw [HT.out]; omega) (by omega)
    rw [HT.out, show ((1 : Nat) : Int) = 1 from rfl] at hhd
    have HHD := Lib.hid hhd
    clear hhd
    go_wp2_with fail
    refine HHD.out.mono ?_
    rintro e wf ⟨rfl, bf⟩
    have Bg := Lib.hid (below_trans Be.out bf)
    have Og := Lib.hid (Oe.out.later bf)
    have Qg := Lib.hid (Qe.out.later bf)
    have Gg := Lib.hid (Ge.out.later bf)
    have Zg := Lib.hid (Ze.out.later bf)
    clear bf Oe Qe Ge Ze Be z0 z1 HHD
    go_wp2_with fail
    refine (cI _ (HTB.out.later Bg.out) (HER.out.later Bg.out (Nat.le_refl _))).mono ?_
    rintro e wh ⟨_, rfl, NA, nc, rfl, Nh, bh⟩
    have halj : Below wh.heap.size wh (wh.alloc (.cells #[.int .i64 h', .slice NA m nc] 24)) := (Below.refl _ _).alloc (Nat.le_refl _) _
    have hNj : Blk (wh.alloc (.cells #[.int .i64 h', .slice NA m nc] 24)) wh.heap.size 24 [.int .i64 h', .slice NA m nc] := Blk.new _ _ _
    have bj := below_trans bh halj
    have Bj := Lib.hid (below_trans Bg.out bj)
    have Oj := Lib.hid (Og.out.later bj)
    have Qj := Lib.hid (Qg.out.later bj)
    have Gj := Lib.hid (Gg.out.later bj)
    have Zj := Lib.hid (Zg.out.later bj)
    have Nj := Lib.hid (Nh.later halj)
    clear bh bj Og Qg Gg Zg Bg Nh halj
    have y0 := hNj.cellAt 0 (by simp)
    have y1 := hNj.cellAt 1 (by simp)
    simp only [List.getElem_cons_zero, List.getElem_cons_succ] at y0 y1
    have q0 := Qj.out.cellAt 0 (by simp)
    have q1 := Qj.out.cellAt 1 (by simp)
    simp only [List.getElem_cons_zero, List.getElem_cons_succ] at q0 q1
    clear hNj
    go_wp2_with fail
    generalize wh.alloc (.cells #[.int .i64 h', .slice NA m nc] 24) = wj at *
    refine (eqYard_any h' NA A1 m nc c1 rows' _ HM.out Nj.out.rd Oj.out.rd (by omega) HM2.out).mono ?_
    rintro e wk ⟨rfl, bk⟩
    have Bk := Lib.hid (below_trans Bj.out bk)
    have Gk := Lib.hid (Gj.out.later bk)
    have Zk := Lib.hid (Zj.out.later bk)
    clear bk Oj Qj Gj Zj Bj Nj y0 y1 q0 q1
    have z0 := Zk.out.cellAt 0 (by simp)
    have z1 := Zk.out.cellAt 1 (by simp)
    simp only [List.getElem_cons_zero, List.getElem_cons_succ] at z0 z1
    have hhd := heldYard_any h' GA m gc 1 rows' wk HM.out Gk.out.rd (Nat.le_refl _) (by rw [HT.out]; omega) (by omega)
    rw [HT.out, show ((1 : Nat) : Int) = 1 from rfl] at hhd
    have HHE := Lib.hid hhd
    clear hhd
    go_wp2_with fail
    refine HHE.out.mono ?_
    rintro e wl ⟨rfl, bl⟩
    have Bl := Lib.hid (below_trans Bk.out bl)
    clear bl z0 z1 HHE
    go_wp2_with fail
    go_ret
    exact ⟨rfl, Bl.out⟩
  · have hn0 : (1048576 : Int) < (l.length : Int) := by omega
    have hn1 : (1048576 : Int) < ((txt l).size : Int) := by rw [txt_size]; exact hn0
    go_enter Tryd.func3, Tryd.ntmps3
    go_wp2_with fail
    go_ret
    exact ⟨rfl, Below.refl _ _⟩
end Go.Proofs.YtcdjgbechigepaaDoor
