/- A text of a yard and a height that are drawn. -/
import Derived.Test.YtcdjgbechigepaaDoorDrawYardX
import Derived.Test.YtcdjgbechigepaaDoorStr
import Derived.Deep.RegionLaw
namespace Go.Proofs.YtcdjgbechigepaaDoor
open Go Go.ChangeShapes Go.WideShapes Go.ChangeAt Go.RowKit
set_option linter.unusedVariables false
set_option linter.unusedSimpArgs false
/-- a text and a number that were drawn -/
def ReadYardD (w : World) : Ending → World → Prop :=
  RVal fun u w' => ∃ l, ∃ high : Int, u = .tuple #[.string (txt l), .int .i64 high] ∧ l.length ≤ 200 ∧ Below w.heap.size w w'
def rdCells : List Value := [.string (txt [32]), .string (txt [32, 45]), .string (txt [44, 55]), .string (txt [32, 48, 55]), .string (txt [32, 49, 44])]
theorem rd_get (v : Int) (h0 : 0 ≤ v) (h1 : v < 5) : ∃ t : List UInt8, rdCells[v.toNat]? = some (.string (txt t)) ∧ t.length ≤ 3 := by
  obtain rfl | rfl | rfl | rfl | rfl : v = 0 ∨ v = 1 ∨ v = 2 ∨ v = 3 ∨ v = 4 := by omega
  all_goals exact ⟨_, rfl, by decide⟩
set_option maxHeartbeats 2000000 in
theorem drawReadYard_any (A : Option Addr) (n c : Nat) (bs : List Int) (w : World) (h : Code w A n c bs) : Calls Tryd.prog 11 #[.slice A n c] w (ReadYardD w) := by
  go_enter Tryd.func11, Tryd.ntmps11
  go_wp2_with fail
  refine (open_any A n c bs _ h).mono ?_
  rintro e w1 ⟨v, rfl, g, rfl, hg, hr, hb⟩
  have HB1 := Lib.hid hb
  have hs1 : w.heap.size ≤ w1.heap.size := hb.size
  clear hb h
  go_wp2_with fail
  refine (l20Yard_any g 0 0 w1 hr (by omega) (by omega)).mono ?_
  rintro e w2 ⟨_, rfl, high, A2, c2, rows, q2, rfl, ⟨lo, hlo, hO⟩, hL, hq, hr2, hg2⟩
  have hgl := hr.lt
  have HB2 := Lib.hid (HB1.out.grown hg2 (by omega) (fun k e => by injection e with e; omega))
  have hal3 : Below w2.heap.size w2 (w2.alloc (.cells #[.int .i64 high, .slice A2 rows.length c2] 24)) := (Below.refl _ _).alloc (Nat.le_refl _) _
  have hY3 : Blk (w2.alloc (.cells #[.int .i64 high, .slice A2 rows.length c2] 24)) w2.heap.size 24 [.int .i64 high, .slice A2 rows.length c2] := Blk.new _ _ _
  have hr3 := hr2.kept hal3
  have HO3 := Lib.hid (hO.later hal3)
  have HB3 := Lib.hid (below_trans HB2.out hal3)
  have hrow7 : rows.length ≤ 7 := hL.1
  have hs2 : w1.heap.size ≤ w2.heap.size := hg2.size
  clear hg2 hr hr2 hal3 hO HB1 hL
  have y0 := hY3.cellAt 0 (by simp)
  have y1 := hY3.cellAt 1 (by simp)
  simp only [List.getElem_cons_zero, List.getElem_cons_succ] at y0 y1
  go_wp2_with fail
  generalize w2.alloc (.cells #[.int .i64 high, .slice A2 rows.length c2] 24) = w3 at *
  generalize w2.heap.size = qy at *
  have hlt := yardT_len high rows
  refine (specYardText high A2 rows.length c2 rows _ rfl HO3.out.rd (by omega)).mono ?_
  rintro e w4 ⟨rfl, b4⟩
  generalize yardT high rows = t at *
  have hY4 := hY3.later b4
  have hr4 := hr3.kept b4
  have HB4 := Lib.hid (below_trans HB3.out b4)
  have hlq := hY3.lt
  have hqg : g < qy := by omega
  clear hY3 hr3 HO3 HB3 y0 y1
  go_wp2_with fail
  refine (pick_any g q2 5 _ hr4 (by omega) (by omega)).mono ?_
  rintro e w5 ⟨v5, rfl, ⟨v50, v51, _⟩, hr5, hg5⟩
  have HY5 := Lib.hid (hY4.only hg5 (by omega))
  have HB5 := Lib.hid (HB4.out.grown hg5 (by have := HB4.out.size; omega) (fun k e => by injection e with e; omega))
  have y0 := HY5.out.cellAt 0 (by simp)
  simp only [List.getElem_cons_zero, List.getElem_cons_succ] at y0
  clear hY4 hr4 hg5 b4 HB4 v51
  by_cases h0 : v5 = 0
  · subst h0
    have HRD := Lib.hid hr5
    have lq5 := HY5.out.lt
    have ya : (w5.alloc (.cells rdCells.toArray 9)).cell? ⟨qy, 0, none⟩ = some (.int .i64 high) := (HY5.out.alloc _).cellAt 0 (by simp)
    have lg5 := hr5.lt
    have hb5s := HB5.out.size
    clear hr5
    go_upto_region 6 with fail
    go_region_law (first
      | (go_simp; go_at_call 28;
         (with_reducible refine (pick_any g (q2 + 1) 5 _ (HRD.out.kept (by first | exact Below.refl _ _ | exact Below.drew (Below.refl _ _) | exact (Below.refl _ _).alloc (Nat.le_refl _) _ | exact (Below.drew (Below.refl _ _)).alloc (Nat.le_refl _) _ | exact Below.drew ((Below.refl _ _).alloc (Nat.le_refl _) _))) (by omega) (by omega)).mono ?_)
         rintro e w6 ⟨v6, rfl, ⟨v60, v61, _⟩, hr6, hg6⟩
         obtain ⟨p, hp, hpl⟩ := rd_get v6 v60 (v61 (by omega))
         have hcat := fun (W : World) => run_cat (P := Tryd.prog) t p (by omega) W
         have HG6 : Hid (Below w.heap.size w w6) := Lib.hid (HB5.out.grown (by first | exact only_trans (only_below (by first | exact Below.refl _ _ | exact Below.drew (Below.refl _ _) | exact (Below.refl _ _).alloc (Nat.le_refl _) _ | exact (Below.drew (Below.refl _ _)).alloc (Nat.le_refl _) _ | exact Below.drew ((Below.refl _ _).alloc (Nat.le_refl _) _)) g) hg6) (by omega) (fun k e => by injection e with e; omega))
         have x6 : w6.cell? ⟨qy, 0, none⟩ = some (.int .i64 high) := by first | exact (((HY5.out.alloc _).later (Below.drew (Below.refl _ _))).only hg6 (by omega)).cellAt 0 (by simp) | exact ((HY5.out.alloc _).only hg6 (by omega)).cellAt 0 (by simp) | exact ((HY5.out.later (Below.drew (Below.refl _ _))).only hg6 (by omega)).cellAt 0 (by simp) | exact (HY5.out.only hg6 (by omega)).cellAt 0 (by simp)
         have l6 : qy < w6.heap.size := by have := hg6.size; simp at this; omega
         first
           | (have t6 : w6.cell? ⟨w5.heap.size, v6.toNat, none⟩ = some (.string (txt p)) := by first | exact ((((Blk.new w5 9 rdCells).later (Below.drew (Below.refl _ _))).only hg6 (by omega)).cell v6.toNat).trans hp | exact (((Blk.new w5 9 rdCells).only hg6 (by omega)).cell v6.toNat).trans hp)
           | (have t6 := ((Blk.new w6 9 rdCells).cell v6.toNat).trans hp
              simp only [rdCells, txt] at t6)
         clear hg6 hr6))
    all_goals
      go_wp2_with fail
      refine bodyPost_ret (v := .tuple #[.string (txt (t ++ p)), .int .i64 high]) (by simp [results, Tryd.results11, go_sem, *]) rfl ?_
      exact RVal.mk ⟨t ++ p, high, rfl, by rw [List.length_append]; omega, by first | exact HG6.out | exact HG6.out.alloc HG6.out.size _⟩
  · by_cases h1 : v5 = 1
    · subst h1
      go_wp2_with fail
      refine (pick_any g _ 7 _ hr5 (by omega) (by omega)).mono ?_
      rintro e w6 ⟨v6, rfl, _, hr6, hg6⟩
      have HB6 := Lib.hid (HB5.out.grown hg6 (by have := HB5.out.size; omega) (fun k e => by injection e with e; omega))
      clear hg6
      go_wp2_with fail
      refine bodyPost_ret (v := .tuple #[.string (txt t), .int .i64 v6]) (by simp [results, Tryd.results11, go_sem, *]) rfl ?_
      exact RVal.mk ⟨t, v6, rfl, by omega, HB6.out⟩
    · go_upto_region 9 with fail
      go_quiet (fail)
      go_wp2_with fail
      refine bodyPost_ret (v := .tuple #[.string (txt t), .int .i64 high]) (by simp [results, Tryd.results11, go_sem, *]) rfl ?_
      exact RVal.mk ⟨t, high, rfl, by omega, below_drewN HB5.out _⟩
end Go.Proofs.YtcdjgbechigepaaDoor
