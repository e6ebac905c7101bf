/- Several texts of the proof in one; each says at its head what it proves; no condition. -/
import Derived.Test.YtbkfhcbecejomaaGreatMg1
import Derived.Test.YtbkfhcbecejomaaGreatMg2
import Derived.Test.YtbkfhcbecejomaaGreatMg6
import Derived.Test.YtbkfhcbecejomaaGreatMg9
import Derived.Deep.RegionHeld3
import Derived.Deep.DeepCutAuto
import Derived.Test.YtbkfhcbecejomaaGreatMg5
import Derived.StillTailTactics
section
/- A copy of a terminal, the reference: all its rows are new. Printed by gen_copy32.py. -/
namespace Go.Proofs.YtbkfhcbecejomaaGreat
open Go Go.ChangeShapes Go.WideShapes Go.ChangeAt Go.RowKit
set_option linter.unusedVariables false
set_option linter.unusedSimpArgs false
theorem below_new2 {w W : World} (h : Below w.heap.size w W) (o : Obj) : Below w.heap.size w (W.alloc o) := h.alloc h.size o
theorem copyS {w w1 W : World} {s : TypeId} {u0 u1 u2 u3 u4 u5 u6 u7 u8 : Value} (hal : Below w.heap.size w w1) (hb : Below w1.heap.size w1 W) (A : Blk w1 w.heap.size s [u0, u1, u2, u3, u4, u5, u6, u7, u8]) :
    Below w.heap.size w W ∧ W.cell? ⟨w.heap.size, 0, none⟩ = some (u0) ∧ W.cell? ⟨w.heap.size, 1, none⟩ = some (u1) ∧ W.cell? ⟨w.heap.size, 2, none⟩ = some (u2) ∧ W.cell? ⟨w.heap.size, 3, none⟩ = some (u3) ∧ W.cell? ⟨w.heap.size, 4, none⟩ = some (u4) ∧ W.cell? ⟨w.heap.size, 5, none⟩ = some (u5) ∧ W.cell? ⟨w.heap.size, 6, none⟩ = some (u6) ∧ W.cell? ⟨w.heap.size, 7, none⟩ = some (u7) ∧ W.cell? ⟨w.heap.size, 8, none⟩ = some (u8) :=
  have la := A.lt
  ⟨below_trans hal hb, (hb.cell (p := ⟨w.heap.size, 0, none⟩) la).trans (by simpa using A.cellAt 0 (by simp)), (hb.cell (p := ⟨w.heap.size, 1, none⟩) la).trans (by simpa using A.cellAt 1 (by simp)), (hb.cell (p := ⟨w.heap.size, 2, none⟩) la).trans (by simpa using A.cellAt 2 (by simp)), (hb.cell (p := ⟨w.heap.size, 3, none⟩) la).trans (by simpa using A.cellAt 3 (by simp)), (hb.cell (p := ⟨w.heap.size, 4, none⟩) la).trans (by simpa using A.cellAt 4 (by simp)), (hb.cell (p := ⟨w.heap.size, 5, none⟩) la).trans (by simpa using A.cellAt 5 (by simp)), (hb.cell (p := ⟨w.heap.size, 6, none⟩) la).trans (by simpa using A.cellAt 6 (by simp)), (hb.cell (p := ⟨w.heap.size, 7, none⟩) la).trans (by simpa using A.cellAt 7 (by simp)), (hb.cell (p := ⟨w.heap.size, 8, none⟩) la).trans (by simpa using A.cellAt 8 (by simp))⟩
/-- a world of which only the result's cell has turned since w1 grew -/
def NearW (w1 : World) (b : Nat) (W : World) : Prop := ∃ V, Below w1.heap.size w1 V ∧ Out b (b + 1) V W
theorem near_below {w1 W : World} {b : Nat} (h : Below w1.heap.size w1 W) : NearW w1 b W := ⟨W, h, Out.refl _ _ _⟩
theorem near_set {w1 W : World} {b : Nat} (h : NearW w1 b W) (i : Nat) (v : Value) : NearW w1 b (W.setCell ⟨b, i, none⟩ v) := by
  obtain ⟨V, h1, h2⟩ := h
  exact ⟨V, h1, out_set h2 b i v (Nat.le_refl _) (Nat.lt_succ_self _)⟩
theorem copyO {w w1 W' : World} {s : TypeId} {u0 u1 u2 u3 u4 u5 u6 u7 u8 : Value} (hal : Below w.heap.size w w1) (hn : NearW w1 (w.heap.size + 1) W') (A : Blk w1 w.heap.size s [u0, u1, u2, u3, u4, u5, u6, u7, u8]) :
    Below w.heap.size w W' ∧ W'.cell? ⟨w.heap.size, 0, none⟩ = some (u0) ∧ W'.cell? ⟨w.heap.size, 1, none⟩ = some (u1) ∧ W'.cell? ⟨w.heap.size, 2, none⟩ = some (u2) ∧ W'.cell? ⟨w.heap.size, 3, none⟩ = some (u3) ∧ W'.cell? ⟨w.heap.size, 4, none⟩ = some (u4) ∧ W'.cell? ⟨w.heap.size, 5, none⟩ = some (u5) ∧ W'.cell? ⟨w.heap.size, 6, none⟩ = some (u6) ∧ W'.cell? ⟨w.heap.size, 7, none⟩ = some (u7) ∧ W'.cell? ⟨w.heap.size, 8, none⟩ = some (u8) := by
  obtain ⟨V, hb, ho⟩ := hn
  have B : Blk W' w.heap.size s [u0, u1, u2, u3, u4, u5, u6, u7, u8] := (ho.block _ (A.later hb).lt (by omega)).trans (A.later hb)
  exact ⟨below_out (below_trans hal hb) ho (by omega), by simpa using B.cellAt 0 (by simp), by simpa using B.cellAt 1 (by simp), by simpa using B.cellAt 2 (by simp), by simpa using B.cellAt 3 (by simp), by simpa using B.cellAt 4 (by simp), by simpa using B.cellAt 5 (by simp), by simpa using B.cellAt 6 (by simp), by simpa using B.cellAt 7 (by simp), by simpa using B.cellAt 8 (by simp)⟩
theorem storeFacts {W : World} {b : Nat} {t : TypeId} {z0 z1 z2 z3 z4 z5 z6 z7 z8 : Value} (u0 u1 u2 u3 u4 u5 u6 u7 u8 : Value) (h : Blk W b t [z0, z1, z2, z3, z4, z5, z6, z7, z8]) : W.cell? ⟨b, 0, none⟩ = some z0 ∧ W.frozen? ⟨b, 0, none⟩ = false ∧ (W.setCell ⟨b, 0, none⟩ u0).cell? ⟨b, 1, none⟩ = some z1 ∧ (W.setCell ⟨b, 0, none⟩ u0).frozen? ⟨b, 1, none⟩ = false ∧ ((W.setCell ⟨b, 0, none⟩ u0).setCell ⟨b, 1, none⟩ u1).cell? ⟨b, 2, none⟩ = some z2 ∧ ((W.setCell ⟨b, 0, none⟩ u0).setCell ⟨b, 1, none⟩ u1).frozen? ⟨b, 2, none⟩ = false ∧ (((W.setCell ⟨b, 0, none⟩ u0).setCell ⟨b, 1, none⟩ u1).setCell ⟨b, 2, none⟩ u2).cell? ⟨b, 3, none⟩ = some z3 ∧ (((W.setCell ⟨b, 0, none⟩ u0).setCell ⟨b, 1, none⟩ u1).setCell ⟨b, 2, none⟩ u2).frozen? ⟨b, 3, none⟩ = false ∧ ((((W.setCell ⟨b, 0, none⟩ u0).setCell ⟨b, 1, none⟩ u1).setCell ⟨b, 2, none⟩ u2).setCell ⟨b, 3, none⟩ u3).cell? ⟨b, 4, none⟩ = some z4 ∧ ((((W.setCell ⟨b, 0, none⟩ u0).setCell ⟨b, 1, none⟩ u1).setCell ⟨b, 2, none⟩ u2).setCell ⟨b, 3, none⟩ u3).frozen? ⟨b, 4, none⟩ = false ∧ (((((W.setCell ⟨b, 0, none⟩ u0).setCell ⟨b, 1, none⟩ u1).setCell ⟨b, 2, none⟩ u2).setCell ⟨b, 3, none⟩ u3).setCell ⟨b, 4, none⟩ u4).cell? ⟨b, 5, none⟩ = some z5 ∧ (((((W.setCell ⟨b, 0, none⟩ u0).setCell ⟨b, 1, none⟩ u1).setCell ⟨b, 2, none⟩ u2).setCell ⟨b, 3, none⟩ u3).setCell ⟨b, 4, none⟩ u4).frozen? ⟨b, 5, none⟩ = false ∧ ((((((W.setCell ⟨b, 0, none⟩ u0).setCell ⟨b, 1, none⟩ u1).setCell ⟨b, 2, none⟩ u2).setCell ⟨b, 3, none⟩ u3).setCell ⟨b, 4, none⟩ u4).setCell ⟨b, 5, none⟩ u5).cell? ⟨b, 6, none⟩ = some z6 ∧ ((((((W.setCell ⟨b, 0, none⟩ u0).setCell ⟨b, 1, none⟩ u1).setCell ⟨b, 2, none⟩ u2).setCell ⟨b, 3, none⟩ u3).setCell ⟨b, 4, none⟩ u4).setCell ⟨b, 5, none⟩ u5).frozen? ⟨b, 6, none⟩ = false ∧ (((((((W.setCell ⟨b, 0, none⟩ u0).setCell ⟨b, 1, none⟩ u1).setCell ⟨b, 2, none⟩ u2).setCell ⟨b, 3, none⟩ u3).setCell ⟨b, 4, none⟩ u4).setCell ⟨b, 5, none⟩ u5).setCell ⟨b, 6, none⟩ u6).cell? ⟨b, 7, none⟩ = some z7 ∧ (((((((W.setCell ⟨b, 0, none⟩ u0).setCell ⟨b, 1, none⟩ u1).setCell ⟨b, 2, none⟩ u2).setCell ⟨b, 3, none⟩ u3).setCell ⟨b, 4, none⟩ u4).setCell ⟨b, 5, none⟩ u5).setCell ⟨b, 6, none⟩ u6).frozen? ⟨b, 7, none⟩ = false ∧ ((((((((W.setCell ⟨b, 0, none⟩ u0).setCell ⟨b, 1, none⟩ u1).setCell ⟨b, 2, none⟩ u2).setCell ⟨b, 3, none⟩ u3).setCell ⟨b, 4, none⟩ u4).setCell ⟨b, 5, none⟩ u5).setCell ⟨b, 6, none⟩ u6).setCell ⟨b, 7, none⟩ u7).cell? ⟨b, 8, none⟩ = some z8 ∧ ((((((((W.setCell ⟨b, 0, none⟩ u0).setCell ⟨b, 1, none⟩ u1).setCell ⟨b, 2, none⟩ u2).setCell ⟨b, 3, none⟩ u3).setCell ⟨b, 4, none⟩ u4).setCell ⟨b, 5, none⟩ u5).setCell ⟨b, 6, none⟩ u6).setCell ⟨b, 7, none⟩ u7).frozen? ⟨b, 8, none⟩ = false :=
  ⟨by simpa using (h).cellAt 0 (by simp), (h).frozen 0, by simpa using (((h).set_ 0 u0)).cellAt 1 (by simp), (((h).set_ 0 u0)).frozen 1, by simpa using (((((h).set_ 0 u0)).set_ 1 u1)).cellAt 2 (by simp), (((((h).set_ 0 u0)).set_ 1 u1)).frozen 2, by simpa using (((((((h).set_ 0 u0)).set_ 1 u1)).set_ 2 u2)).cellAt 3 (by simp), (((((((h).set_ 0 u0)).set_ 1 u1)).set_ 2 u2)).frozen 3, by simpa using (((((((((h).set_ 0 u0)).set_ 1 u1)).set_ 2 u2)).set_ 3 u3)).cellAt 4 (by simp), (((((((((h).set_ 0 u0)).set_ 1 u1)).set_ 2 u2)).set_ 3 u3)).frozen 4, by simpa using (((((((((((h).set_ 0 u0)).set_ 1 u1)).set_ 2 u2)).set_ 3 u3)).set_ 4 u4)).cellAt 5 (by simp), (((((((((((h).set_ 0 u0)).set_ 1 u1)).set_ 2 u2)).set_ 3 u3)).set_ 4 u4)).frozen 5, by simpa using (((((((((((((h).set_ 0 u0)).set_ 1 u1)).set_ 2 u2)).set_ 3 u3)).set_ 4 u4)).set_ 5 u5)).cellAt 6 (by simp), (((((((((((((h).set_ 0 u0)).set_ 1 u1)).set_ 2 u2)).set_ 3 u3)).set_ 4 u4)).set_ 5 u5)).frozen 6, by simpa using (((((((((((((((h).set_ 0 u0)).set_ 1 u1)).set_ 2 u2)).set_ 3 u3)).set_ 4 u4)).set_ 5 u5)).set_ 6 u6)).cellAt 7 (by simp), (((((((((((((((h).set_ 0 u0)).set_ 1 u1)).set_ 2 u2)).set_ 3 u3)).set_ 4 u4)).set_ 5 u5)).set_ 6 u6)).frozen 7, by simpa using (((((((((((((((((h).set_ 0 u0)).set_ 1 u1)).set_ 2 u2)).set_ 3 u3)).set_ 4 u4)).set_ 5 u5)).set_ 6 u6)).set_ 7 u7)).cellAt 8 (by simp), (((((((((((((((((h).set_ 0 u0)).set_ 1 u1)).set_ 2 u2)).set_ 3 u3)).set_ 4 u4)).set_ 5 u5)).set_ 6 u6)).set_ 7 u7)).frozen 8⟩
theorem finFacts {W : World} {b : Nat} {t : TypeId} {z0 z1 z2 z3 z4 z5 z6 z7 z8 : Value} (u0 u1 u2 u3 u4 u5 u6 u7 u8 : Value) (h : Blk W b t [z0, z1, z2, z3, z4, z5, z6, z7, z8]) : (((((((((W.setCell ⟨b, 0, none⟩ u0).setCell ⟨b, 1, none⟩ u1).setCell ⟨b, 2, none⟩ u2).setCell ⟨b, 3, none⟩ u3).setCell ⟨b, 4, none⟩ u4).setCell ⟨b, 5, none⟩ u5).setCell ⟨b, 6, none⟩ u6).setCell ⟨b, 7, none⟩ u7).setCell ⟨b, 8, none⟩ u8).cell? ⟨b, 0, none⟩ = some u0 ∧ (((((((((W.setCell ⟨b, 0, none⟩ u0).setCell ⟨b, 1, none⟩ u1).setCell ⟨b, 2, none⟩ u2).setCell ⟨b, 3, none⟩ u3).setCell ⟨b, 4, none⟩ u4).setCell ⟨b, 5, none⟩ u5).setCell ⟨b, 6, none⟩ u6).setCell ⟨b, 7, none⟩ u7).setCell ⟨b, 8, none⟩ u8).cell? ⟨b, 1, none⟩ = some u1 ∧ (((((((((W.setCell ⟨b, 0, none⟩ u0).setCell ⟨b, 1, none⟩ u1).setCell ⟨b, 2, none⟩ u2).setCell ⟨b, 3, none⟩ u3).setCell ⟨b, 4, none⟩ u4).setCell ⟨b, 5, none⟩ u5).setCell ⟨b, 6, none⟩ u6).setCell ⟨b, 7, none⟩ u7).setCell ⟨b, 8, none⟩ u8).cell? ⟨b, 2, none⟩ = some u2 ∧ (((((((((W.setCell ⟨b, 0, none⟩ u0).setCell ⟨b, 1, none⟩ u1).setCell ⟨b, 2, none⟩ u2).setCell ⟨b, 3, none⟩ u3).setCell ⟨b, 4, none⟩ u4).setCell ⟨b, 5, none⟩ u5).setCell ⟨b, 6, none⟩ u6).setCell ⟨b, 7, none⟩ u7).setCell ⟨b, 8, none⟩ u8).cell? ⟨b, 3, none⟩ = some u3 ∧ (((((((((W.setCell ⟨b, 0, none⟩ u0).setCell ⟨b, 1, none⟩ u1).setCell ⟨b, 2, none⟩ u2).setCell ⟨b, 3, none⟩ u3).setCell ⟨b, 4, none⟩ u4).setCell ⟨b, 5, none⟩ u5).setCell ⟨b, 6, none⟩ u6).setCell ⟨b, 7, none⟩ u7).setCell ⟨b, 8, none⟩ u8).cell? ⟨b, 4, none⟩ = some u4 ∧ (((((((((W.setCell ⟨b, 0, none⟩ u0).setCell ⟨b, 1, none⟩ u1).setCell ⟨b, 2, none⟩ u2).setCell ⟨b, 3, none⟩ u3).setCell ⟨b, 4, none⟩ u4).setCell ⟨b, 5, none⟩ u5).setCell ⟨b, 6, none⟩ u6).setCell ⟨b, 7, none⟩ u7).setCell ⟨b, 8, none⟩ u8).cell? ⟨b, 5, none⟩ = some u5 ∧ (((((((((W.setCell ⟨b, 0, none⟩ u0).setCell ⟨b, 1, none⟩ u1).setCell ⟨b, 2, none⟩ u2).setCell ⟨b, 3, none⟩ u3).setCell ⟨b, 4, none⟩ u4).setCell ⟨b, 5, none⟩ u5).setCell ⟨b, 6, none⟩ u6).setCell ⟨b, 7, none⟩ u7).setCell ⟨b, 8, none⟩ u8).cell? ⟨b, 6, none⟩ = some u6 ∧ (((((((((W.setCell ⟨b, 0, none⟩ u0).setCell ⟨b, 1, none⟩ u1).setCell ⟨b, 2, none⟩ u2).setCell ⟨b, 3, none⟩ u3).setCell ⟨b, 4, none⟩ u4).setCell ⟨b, 5, none⟩ u5).setCell ⟨b, 6, none⟩ u6).setCell ⟨b, 7, none⟩ u7).setCell ⟨b, 8, none⟩ u8).cell? ⟨b, 7, none⟩ = some u7 ∧ (((((((((W.setCell ⟨b, 0, none⟩ u0).setCell ⟨b, 1, none⟩ u1).setCell ⟨b, 2, none⟩ u2).setCell ⟨b, 3, none⟩ u3).setCell ⟨b, 4, none⟩ u4).setCell ⟨b, 5, none⟩ u5).setCell ⟨b, 6, none⟩ u6).setCell ⟨b, 7, none⟩ u7).setCell ⟨b, 8, none⟩ u8).cell? ⟨b, 8, none⟩ = some u8 := by
  have B := ((((((((((((((((((h).set_ 0 u0)).set_ 1 u1)).set_ 2 u2)).set_ 3 u3)).set_ 4 u4)).set_ 5 u5)).set_ 6 u6)).set_ 7 u7)).set_ 8 u8)
  simp only [List.set_cons_zero, List.set_cons_succ] at B
  exact ⟨by simpa using B.cellAt 0 (by simp), by simpa using B.cellAt 1 (by simp), by simpa using B.cellAt 2 (by simp), by simpa using B.cellAt 3 (by simp), by simpa using B.cellAt 4 (by simp), by simpa using B.cellAt 5 (by simp), by simpa using B.cellAt 6 (by simp), by simpa using B.cellAt 7 (by simp), by simpa using B.cellAt 8 (by simp)⟩
theorem box_infoC : Info Tryz.prog 79 (.agg #[.int .i64 0, .int .i64 0, .int .i64 0, .int .i64 0, .bool false]) 5 40 := Info.mk' (by kernel_rfl) rfl (by decide) (by decide)
theorem boxs_ones (zs : List BoxV) : ∀ u ∈ boxs zs, u.oneCell' = true := fun u hu => by
  simp only [boxs, cellsOf, List.mem_flatMap] at hu
  obtain ⟨x, _, hx⟩ := hu
  simp only [boxC, List.mem_cons, List.not_mem_nil, or_false] at hx
  rcases hx with rfl | rfl | rfl | rfl | rfl <;> rfl
theorem int_infoC : Info Tryz.prog 3 (.int .i64 0) 1 8 := Info.mk' (by kernel_rfl) rfl (by decide) (by decide)
/-- a terminal whose rows lie in memory from s on; the yard's rows, the plan and what has left lie apart from one another -/
def TOwn (W : World) (s : Nat) (YB : Option Addr) (yn yd : Nat) (BB : Option Addr) (bn bd : Nat) (PB : Option Addr) (pn pd : Nat) (HB : Option Addr) (hn hd : Nat) (LB : Option Addr) (ln ld : Nat) (rows : List (List Int)) (bs : List BoxV) (plan : List Int) (hs : List HoldV) (ls : List Int) : Prop :=
  ∃ ly hy lp hp ll hl : Nat, (s ≤ ly ∧ s ≤ lp ∧ s ≤ ll) ∧ ((hy ≤ lp ∨ hp ≤ ly) ∧ (hy ≤ ll ∨ hl ≤ ly) ∧ (hp ≤ ll ∨ hl ≤ lp)) ∧ OwnRR W ly hy 29 3 (.slice YB yn yd) (intss rows) ∧ (bs = [] ∨ W.ownsRow s 79 5 (.slice BB bn bd) bn (boxs bs)) ∧ OwnI W lp hp 3 1 (.slice PB pn pd) pn (ints plan) ∧ W.ownsRow s 88 2 (.slice HB hn hd) hn (holds hs) ∧ OwnI W ll hl 3 1 (.slice LB ln ld) ln (ints ls)
section
variable {W W' : World} {s : Nat} {YB BB PB HB LB : Option Addr} {yn yd bn bd pn pd hn hd ln ld : Nat} {rows : List (List Int)} {bs : List BoxV} {plan : List Int} {hs : List HoldV} {ls : List Int}
theorem TOwn.out {lo hi : Nat} (h : TOwn W s YB yn yd BB bn bd PB pn pd HB hn hd LB ln ld rows bs plan hs ls) (ho : Out lo hi W W') (hd' : hi ≤ s) : TOwn W' s YB yn yd BB bn bd PB pn pd HB hn hd LB ln ld rows bs plan hs ls := by
  obtain ⟨ly, hy, lp, hp, ll, hl, ⟨a1, a2, a3⟩, d, o1, o2, o3, o4, o5⟩ := h
  exact ⟨ly, hy, lp, hp, ll, hl, ⟨a1, a2, a3⟩, d, o1.out ho (.inr (by omega)), o2.imp id (fun h => ((OwnI.of h).out ho (.inr hd')).row), o3.out ho (.inr (by omega)), ((OwnI.of o4).out ho (.inr hd')).row, o5.out ho (.inr (by omega))⟩
theorem TOwn.later (h : TOwn W s YB yn yd BB bn bd PB pn pd HB hn hd LB ln ld rows bs plan hs ls) (hb : Below W.heap.size W W') : TOwn W' s YB yn yd BB bn bd PB pn pd HB hn hd LB ln ld rows bs plan hs ls :=
  h.out (lo := 0) (hi := 0) (Below.out hb 0 0) (Nat.zero_le _)
theorem TOwn.set (h : TOwn W s YB yn yd BB bn bd PB pn pd HB hn hd LB ln ld rows bs plan hs ls) (b i : Nat) (v : Value) (hb : b < s) : TOwn (W.setCell ⟨b, i, none⟩ v) s YB yn yd BB bn bd PB pn pd HB hn hd LB ln ld rows bs plan hs ls :=
  h.out (out_set (Out.refl b (b + 1) W) b i v (Nat.le_refl _) (Nat.lt_succ_self _)) hb
theorem TOwn.base {s' : Nat} (h : TOwn W s YB yn yd BB bn bd PB pn pd HB hn hd LB ln ld rows bs plan hs ls) (hs' : s' ≤ s) : TOwn W s' YB yn yd BB bn bd PB pn pd HB hn hd LB ln ld rows bs plan hs ls := by
  obtain ⟨ly, hy, lp, hp, ll, hl, ⟨a1, a2, a3⟩, d, o1, o2, o3, o4, o5⟩ := h
  exact ⟨ly, hy, lp, hp, ll, hl, ⟨by omega, by omega, by omega⟩, d, o1, o2.imp id (fun h => own_base h hs'), o3, own_base o4 hs', o5⟩
end
theorem near_bel {w w1 W : World} (hal : Below w.heap.size w w1) (hn : NearW w1 (w.heap.size + 1) W) : Below w.heap.size w W := by
  obtain ⟨V, h1, h2⟩ := hn
  exact below_out (below_trans hal h1) h2 (by omega)
/-- what l32Copy returns: the terminal in new memory -/
def CopyOut (w : World) (high y0 y1 y2 : Int) (yn bn pn hn ln : Nat) (rows : List (List Int)) (bs : List BoxV) (plan : List Int) (hs : List HoldV) (ls : List Int) : Ending → World → Prop :=
  RVal fun u w' => ∃ YB yd BB bd PB pd HB hd LB ld, u = .agg #[.int .i64 high, .slice YB yn yd, .int .i64 y0, .int .i64 y1, .int .i64 y2, .slice BB bn bd, .slice PB pn pd, .slice HB hn hd, .slice LB ln ld] ∧ TOwn w' w.heap.size YB yn yd BB bn bd PB pn pd HB hn hd LB ln ld rows bs plan hs ls ∧ Below w.heap.size w w'
theorem papOut_use {w w' : World} {e : Ending} {hs : List HoldV} {ls : List Int} {n m : Nat} (h : PapOut w ⟨hs, ls⟩ e w') (hn : hs.length = n) (hm : ls.length = m) : ∃ HB hd LB ld, e = .returned (.agg #[.slice HB n hd, .slice LB m ld]) ∧ w'.ownsRow w.heap.size 88 2 (.slice HB n hd) n (holds hs) ∧ w'.ownsRow w.heap.size 3 1 (.slice LB m ld) m (ints ls) ∧ Below w.heap.size w w' := by
  subst hn hm
  obtain ⟨_, rfl, HB, hd, LB, ld, rfl, h1, h2, h3⟩ := h
  exact ⟨HB, hd, LB, ld, rfl, h1, h2, h3⟩
set_option maxHeartbeats 40000000 in
set_option maxRecDepth 100000 in
theorem specL32Copy (high : Int) (y0 y1 y2 : Int) (YA BA PA HA LA : Option Addr) (yn yc bn bc pn pc hn hc ln lc : Nat) (rows : List (List Int)) (bs : List BoxV) (plan : List Int) (hs : List HoldV) (ls : List Int) (w : World) (T : TrmRd w YA BA PA HA LA yn bn bc pn pc hn ln rows bs plan hs ls) (hin : ∀ s ∈ rows, s.length ≤ 1048576) (hp0 : 0 < pn) :
    Calls Tryz.prog 86 #[.agg #[.int .i64 high, .slice YA yn yc, .int .i64 y0, .int .i64 y1, .int .i64 y2, .slice BA bn bc, .slice PA pn pc, .slice HA hn hc, .slice LA ln lc]] w (CopyOut w high y0 y1 y2 yn bn pn hn ln rows bs plan hs ls) := by
  have hal : Below w.heap.size w ((w.alloc (.cells #[.int .i64 high, .slice YA yn yc, .int .i64 y0, .int .i64 y1, .int .i64 y2, .slice BA bn bc, .slice PA pn pc, .slice HA hn hc, .slice LA ln lc] 34)).alloc (.cells #[.int .i64 0, .slice none 0 0, .int .i64 0, .int .i64 0, .int .i64 0, .slice none 0 0, .slice none 0 0, .slice none 0 0, .slice none 0 0] 34)) := ((Below.refl _ _).alloc (Nat.le_refl _) _).alloc (by simp) _
  have hP := (Blk.new w 34 [.int .i64 high, .slice YA yn yc, .int .i64 y0, .int .i64 y1, .int .i64 y2, .slice BA bn bc, .slice PA pn pc, .slice HA hn hc, .slice LA ln lc]).alloc (.cells #[.int .i64 0, .slice none 0 0, .int .i64 0, .int .i64 0, .int .i64 0, .slice none 0 0, .slice none 0 0, .slice none 0 0, .slice none 0 0] 34)
  have hQ := Blk.new (w.alloc (.cells #[.int .i64 high, .slice YA yn yc, .int .i64 y0, .int .i64 y1, .int .i64 y2, .slice BA bn bc, .slice PA pn pc, .slice HA hn hc, .slice LA ln lc] 34)) 34 [.int .i64 0, .slice none 0 0, .int .i64 0, .int .i64 0, .int .i64 0, .slice none 0 0, .slice none 0 0, .slice none 0 0, .slice none 0 0]
  simp only [World.size_alloc] at hQ
  go_enter Tryz.func86, Tryz.ntmps86
  go_wp2_with fail
  generalize (w.alloc (.cells #[.int .i64 high, .slice YA yn yc, .int .i64 y0, .int .i64 y1, .int .i64 y2, .slice BA bn bc, .slice PA pn pc, .slice HA hn hc, .slice LA ln lc] 34)).alloc (.cells #[.int .i64 0, .slice none 0 0, .int .i64 0, .int .i64 0, .int .i64 0, .slice none 0 0, .slice none 0 0, .slice none 0 0, .slice none 0 0] 34) = w1 at *
  have T1 := T.below hal
  have t1 := T.ym
  have t2 := T.bm
  have t3 := T.pm
  have t4 := T.hm
  have t5 := T.lm
  have k0 := copyS hal (Below.refl _ _) hP
  have hY := fun W (hW : Below w1.heap.size w1 W) => specCopy high YA yn yc rows W T1.yl (T1.yr.below hW) (by omega) hin
  have hC := fun W (hW : Below w1.heap.size w1 W) => (specClone HA LA hn hc ln lc hs ls W T1.hl T1.ll (T1.hr.below hW) (T1.lr.below hW) (by omega) (by omega)).mono (fun _ _ h => papOut_use h T1.hl T1.ll)
  go_region_held3 (fun W => Below w.heap.size w W ∧ W.cell? ⟨w.heap.size, 0, none⟩ = some (.int .i64 high) ∧ W.cell? ⟨w.heap.size, 1, none⟩ = some (.slice YA yn yc) ∧ W.cell? ⟨w.heap.size, 2, none⟩ = some (.int .i64 y0) ∧ W.cell? ⟨w.heap.size, 3, none⟩ = some (.int .i64 y1) ∧ W.cell? ⟨w.heap.size, 4, none⟩ = some (.int .i64 y2) ∧ W.cell? ⟨w.heap.size, 5, none⟩ = some (.slice BA bn bc) ∧ W.cell? ⟨w.heap.size, 6, none⟩ = some (.slice PA pn pc) ∧ W.cell? ⟨w.heap.size, 7, none⟩ = some (.slice HA hn hc) ∧ W.cell? ⟨w.heap.size, 8, none⟩ = some (.slice LA ln lc))
    (first
      | with_reducible assumption
      | with_reducible exact k0
      | (with_reducible refine copyS hal ?_ hP; focus ((repeat (first | with_reducible exact Below.refl _ _ | with_reducible assumption | with_reducible refine Below.drew ?_ | with_reducible refine below_new2 ?_ _)); done))
      | (with_reducible refine copyO hal ?_ hP; focus ((repeat (first | with_reducible refine near_set ?_ _ _ | with_reducible refine near_below ?_ | with_reducible exact Below.refl _ _ | with_reducible assumption | with_reducible refine Below.drew ?_ | with_reducible refine below_new2 ?_ _)); done)))
    (first
      | (go_at_call 102; (with_reducible refine (hY _ (by repeat (first | with_reducible exact Below.refl _ _ | with_reducible assumption | with_reducible refine Below.drew ?_ | with_reducible refine below_new2 ?_ _))).mono ?_); rintro e w5 ⟨_, rfl, YB, yd, rfl, oY, bY⟩; have kY : Below w1.heap.size w1 w5 := below_trans (by repeat (first | with_reducible exact Below.refl _ _ | with_reducible assumption | with_reducible refine Below.drew ?_ | with_reducible refine below_new2 ?_ _)) bY; try (have hst := storeFacts (.int .i64 high) (.slice YB yn yd) (.int .i64 y0) (.int .i64 y1) (.int .i64 y2) (.slice BB bn bd) (.slice PB pn pd) (.slice HB hn hd) (.slice LB ln ld) (hQ.later kY)))
      | (go_at_call 103; (with_reducible refine (hC _ (by repeat (first | with_reducible exact Below.refl _ _ | with_reducible assumption | with_reducible refine Below.drew ?_ | with_reducible refine below_new2 ?_ _))).mono ?_); rintro e w6 ⟨HB, hd, LB, ld, rfl, oH, oL, bC⟩; have kC : Below w1.heap.size w1 w6 := below_trans (by repeat (first | with_reducible exact Below.refl _ _ | with_reducible assumption | with_reducible refine Below.drew ?_ | with_reducible refine below_new2 ?_ _)) bC; try (have hst := storeFacts (.int .i64 high) (.slice YB yn yd) (.int .i64 y0) (.int .i64 y1) (.int .i64 y2) (.slice BB bn bd) (.slice PB pn pd) (.slice HB hn hd) (.slice LB ln ld) (hQ.later kC)))
      | (refine step_append_fresh rfl (.tmp 8) (.tmp 10) 28 rfl 79 _ _ _ Tryz.underlying28 box_infoC _ _ rfl BA bn bc (boxs bs) rfl (by rw [boxs_len, T1.bl]) (T1.br.below (by repeat (first | with_reducible exact Below.refl _ _ | with_reducible assumption | with_reducible refine Below.drew ?_ | with_reducible refine below_new2 ?_ _))) (boxs_ones bs) (by omega) ?_; intro BB bd w7 oB bB; have kB : Below w1.heap.size w1 w7 := below_trans (by repeat (first | with_reducible exact Below.refl _ _ | with_reducible assumption | with_reducible refine Below.drew ?_ | with_reducible refine below_new2 ?_ _)) bB; try (have hst := storeFacts (.int .i64 high) (.slice YB yn yd) (.int .i64 y0) (.int .i64 y1) (.int .i64 y2) (.slice BB bn bd) (.slice PB pn pd) (.slice HB hn hd) (.slice LB ln ld) (hQ.later kB)))
      | (refine step_append_fresh rfl (.tmp 12) (.tmp 14) 29 rfl 3 _ _ _ Tryz.underlying29 int_infoC _ _ rfl PA pn pc (ints plan) rfl (by rw [ints_len, T1.pl, Nat.mul_one]) (T1.pr.below (by repeat (first | with_reducible exact Below.refl _ _ | with_reducible assumption | with_reducible refine Below.drew ?_ | with_reducible refine below_new2 ?_ _))) (ints_one plan) (by omega) ?_; intro PB pd w8 oP bP; have kP : Below w1.heap.size w1 w8 := below_trans (by repeat (first | with_reducible exact Below.refl _ _ | with_reducible assumption | with_reducible refine Below.drew ?_ | with_reducible refine below_new2 ?_ _)) bP; try (have hst := storeFacts (.int .i64 high) (.slice YB yn yd) (.int .i64 y0) (.int .i64 y1) (.int .i64 y2) (.slice BB bn bd) (.slice PB pn pd) (.slice HB hn hd) (.slice LB ln ld) (hQ.later kP))))
  all_goals
    have FY := finFacts (.int .i64 high) (.slice YB yn yd) (.int .i64 y0) (.int .i64 y1) (.int .i64 y2) (.slice BB bn bd) (.slice PB pn pd) (.slice HB hn hd) (.slice LB ln ld) (hQ.later kY)
    have FC := finFacts (.int .i64 high) (.slice YB yn yd) (.int .i64 y0) (.int .i64 y1) (.int .i64 y2) (.slice BB bn bd) (.slice PB pn pd) (.slice HB hn hd) (.slice LB ln ld) (hQ.later kC)
    have FB := finFacts (.int .i64 high) (.slice YB yn yd) (.int .i64 y0) (.int .i64 y1) (.int .i64 y2) (.slice BB bn bd) (.slice PB pn pd) (.slice HB hn hd) (.slice LB ln ld) (hQ.later kB)
    have FP := finFacts (.int .i64 high) (.slice YB yn yd) (.int .i64 y0) (.int .i64 y1) (.int .i64 y2) (.slice BB bn bd) (.slice PB pn pd) (.slice HB hn hd) (.slice LB ln ld) (hQ.later kP)
    have sY := bY.size
    have sC := bC.size
    have sB := bB.size
    have sP := bP.size
    have s1 := hQ.lt
    have kY' := kY.size
    have kC' := kC.size
    have kB' := kB.size
    have kP' := kP.size
    simp only [World.size_alloc, World.size_drew] at sY sC sB sP
    have HK := Lib.hid (And.intro kY (And.intro kC (And.intro kB kP)))
    have HF := Lib.hid (And.intro FY (And.intro FC (And.intro FB FP)))
    have HO := Lib.hid (And.intro oY (And.intro oB (And.intro (oP hp0) (And.intro oH oL))))
    have HBB := Lib.hid (And.intro bY (And.intro bC (And.intro bB bP)))
    clear FY FC FB FP oY oB oP oH oL bY bC bB bP kY kC kB kP
    go_wp2_with fail
    obtain ⟨FY, FC, FB, FP⟩ := HF.out
    refine bodyPost_ret (v := .agg #[.int .i64 high, .slice YB yn yd, .int .i64 y0, .int .i64 y1, .int .i64 y2, .slice BB bn bd, .slice PB pn pd, .slice HB hn hd, .slice LB ln ld]) (by simp [results, Tryz.results86, go_sem, FY, FC, FB, FP]) rfl ?_
    obtain ⟨oY, oB, oP, oH, oL⟩ := HO.out
    clear FY FC FB FP HF HO
    refine RVal.mk ⟨_, _, _, _, _, _, _, _, _, _, rfl, TOwn.base (s := w1.heap.size) ?_ hal.size, near_bel hal ?_⟩
    · repeat (with_reducible refine TOwn.set ?_ _ _ _ (by omega))
      obtain ⟨bY, bC, bB, bP⟩ := HBB.out
      refine ⟨_, _, _, _, _, _, ⟨?_, ?_, ?_⟩, ⟨?_, ?_, ?_⟩, OwnRR.later oY ?_, ?_, OwnI.later (OwnI.of oP) ?_, own_later (own_base oH ?_) ?_, OwnI.later (OwnI.of oL) ?_⟩
      · first | omega | (simp only [World.size_alloc, World.size_drew]; omega)
      · first | omega | (simp only [World.size_alloc, World.size_drew]; omega)
      · first | omega | (simp only [World.size_alloc, World.size_drew]; omega)
      · first | omega | (simp only [World.size_alloc, World.size_drew]; omega)
      · first | omega | (simp only [World.size_alloc, World.size_drew]; omega)
      · first | omega | (simp only [World.size_alloc, World.size_drew]; omega)
      · (repeat (first | with_reducible exact Below.refl _ _ | with_reducible refine Below.drew ?_ | with_reducible refine below_new2 ?_ _ | (with_reducible refine below_trans ?_ (by with_reducible assumption))))
      · rcases Nat.eq_zero_or_pos bn with h0 | h0
        · exact .inl (List.eq_nil_of_length_eq_zero (T1.bl.trans h0))
        · refine .inr (own_later (own_base (oB h0) ?_) ?_)
          · first | omega | (simp only [World.size_alloc, World.size_drew]; omega)
          · (repeat (first | with_reducible exact Below.refl _ _ | with_reducible refine Below.drew ?_ | with_reducible refine below_new2 ?_ _ | (with_reducible refine below_trans ?_ (by with_reducible assumption))))
      · (repeat (first | with_reducible exact Below.refl _ _ | with_reducible refine Below.drew ?_ | with_reducible refine below_new2 ?_ _ | (with_reducible refine below_trans ?_ (by with_reducible assumption))))
      · first | omega | (simp only [World.size_alloc, World.size_drew]; omega)
      · (repeat (first | with_reducible exact Below.refl _ _ | with_reducible refine Below.drew ?_ | with_reducible refine below_new2 ?_ _ | (with_reducible refine below_trans ?_ (by with_reducible assumption))))
      · (repeat (first | with_reducible exact Below.refl _ _ | with_reducible refine Below.drew ?_ | with_reducible refine below_new2 ?_ _ | (with_reducible refine below_trans ?_ (by with_reducible assumption))))
    · obtain ⟨kY, kC, kB, kP⟩ := HK.out
      repeat (first | with_reducible refine near_set ?_ _ _ | with_reducible refine near_below ?_ | with_reducible exact Below.refl _ _ | with_reducible assumption | with_reducible refine Below.drew ?_ | with_reducible refine below_new2 ?_ _)
end Go.Proofs.YtbkfhcbecejomaaGreat
end
section
/- Putting a box onto a stack: the plain words. -/
namespace Go.Proofs.YtbkfhcbecejomaaGreat
theorem hasI_iff {p : List Int} {x : Int} : hasI p x = true ↔ x ∈ p := by simp [hasI]
theorem hasI_no {p : List Int} {x : Int} : hasI p x = false ↔ x ∉ p := by simp [hasI]
theorem idI_iff {x : Int} : idI x = true ↔ 1 ≤ x ∧ x ≤ 999 := by simp [idI]
theorem sOk_iff {p s : List Int} : sOk p s = true ↔ (∀ x ∈ s, idI x = true) ∧ s.Nodup ∧ ∀ x ∈ s, x ∉ p := by
  induction s generalizing p with
  | nil => simp [sOk]
  | cons a s ih =>
    simp only [sOk, Bool.and_eq_true, Bool.not_eq_true', ih, hasI_no, List.mem_append, List.mem_cons, List.not_mem_nil, or_false, List.nodup_cons]
    constructor
    · rintro ⟨⟨h1, h2⟩, h3, h4, h5⟩
      refine ⟨?_, ⟨fun ha => (h5 a ha) (.inr rfl), h4⟩, ?_⟩
      · rintro x (rfl | hx)
        · exact h1
        · exact h3 x hx
      · rintro x (rfl | hx)
        · exact h2
        · exact fun hp => h5 x hx (.inl hp)
    · rintro ⟨h1, ⟨h2, h3⟩, h4⟩
      refine ⟨⟨h1 a (.inl rfl), h4 a (.inl rfl)⟩, fun x hx => h1 x (.inr hx), h3, fun x hx => ?_⟩
      rintro (hp | rfl)
      · exact h4 x (.inr hx) hp
      · exact h2 hx
theorem dOk_iff {p s : List Int} : dOk p s = true ↔ s.Nodup ∧ ∀ x ∈ s, x ∉ p := by
  induction s generalizing p with
  | nil => simp [dOk]
  | cons a s ih =>
    simp only [dOk, Bool.and_eq_true, Bool.not_eq_true', ih, hasI_no, List.mem_append, List.mem_cons, List.not_mem_nil, or_false, List.nodup_cons]
    constructor
    · rintro ⟨h2, h4, h5⟩
      refine ⟨⟨fun ha => (h5 a ha) (.inr rfl), h4⟩, ?_⟩
      rintro x (rfl | hx)
      · exact h2
      · exact fun hp => h5 x hx (.inl hp)
    · rintro ⟨⟨h2, h3⟩, h4⟩
      refine ⟨h4 a (.inl rfl), h3, fun x hx => ?_⟩
      rintro (hp | rfl)
      · exact h4 x (.inr hx) hp
      · exact h2 hx
/-- one stack -/
def Stk (high : Int) (s : List Int) : Prop := (1 ≤ high ∧ high ≤ 5) ∧ (s.length : Int) ≤ high ∧ ∀ x ∈ s, idI x = true
theorem stackOk_iff {s : List Int} {high : Int} : stackOk s high = true ↔ Stk high s ∧ s.Nodup := by
  simp only [stackOk, Bool.and_eq_true, decide_eq_true_eq, sOk_iff, Stk]
  constructor
  · rintro ⟨⟨h1, h2, _⟩, h3, h4⟩
    exact ⟨⟨h3, h4, h1⟩, h2⟩
  · rintro ⟨⟨h3, h4, h1⟩, h2⟩
    exact ⟨⟨h1, h2, by simp⟩, h3, h4⟩
theorem yOk_iff {high : Int} {p : List Int} {l : List (List Int)} : yOk high p l = true ↔ (∀ s ∈ l, Stk high s) ∧ l.flatten.Nodup ∧ ∀ x ∈ l.flatten, x ∉ p := by
  induction l generalizing p with
  | nil => simp [yOk]
  | cons a l ih =>
    simp only [yOk, Bool.and_eq_true, ih, stackOk_iff, dOk_iff, List.flatten_cons, List.nodup_append, List.mem_append, List.mem_cons]
    constructor
    · rintro ⟨⟨h1, h2⟩, ⟨_, h3⟩, h4, h5, h6⟩
      refine ⟨?_, ⟨h2, h5, fun x hx y hy e => h6 y hy (.inr (e ▸ hx))⟩, ?_⟩
      · rintro s (rfl | hs)
        · exact h1
        · exact h4 s hs
      · rintro x (hx | hx)
        · exact h3 x hx
        · exact fun hp => h6 x hx (.inl hp)
    · rintro ⟨h1, ⟨h2, h3, h4⟩, h5⟩
      refine ⟨⟨h1 a (.inl rfl), h2⟩, ⟨h2, fun x hx => h5 x (.inl hx)⟩, fun s hs => h1 s (.inr hs), h3, fun x hx => ?_⟩
      rintro (hp | ha)
      · exact h5 x (.inr hx) hp
      · exact h4 x ha x hx rfl
/-- is a box anywhere -/
def anyI (l : List (List Int)) (x : Int) : Bool := hasI l.flatten x
/-- pushing keeps a yard valid exactly if the box is new and there is room -/
theorem yardOk_push {high : Int} {rows : List (List Int)} {k : Nat} {x : Int} (h : yardOk high rows = true) (hk : k < rows.length) :
    yardOk high (rows.set k (rows[k] ++ [x])) = (idI x && (!(anyI rows x) && decide ((rows[k].length : Int) ≠ high))) := by
  simp only [yardOk, Bool.and_eq_true, decide_eq_true_eq, yOk_iff] at h
  obtain ⟨⟨h1, h2⟩, hs, hn, _⟩ := h
  have e1 : rows = rows.take k ++ rows[k] :: rows.drop (k + 1) := by rw [← List.drop_eq_getElem_cons hk, List.take_append_drop]
  have e2 : rows.set k (rows[k] ++ [x]) = rows.take k ++ (rows[k] ++ [x]) :: rows.drop (k + 1) := by
    rw [List.set_eq_take_append_cons_drop, if_pos hk]
  have hp : (rows.set k (rows[k] ++ [x])).flatten.Perm (x :: rows.flatten) := by
    rw [e2]
    conv => rhs; rw [e1]
    simp only [List.flatten_append, List.flatten_cons, List.append_assoc]
    have := List.perm_middle (a := x) (l₁ := (rows.take k).flatten ++ rows[k]) (l₂ := (rows.drop (k + 1)).flatten)
    simpa [List.append_assoc] using this
  have hmem : rows[k] ∈ rows := List.getElem_mem hk
  apply Bool.eq_iff_iff.2
  simp only [yardOk, Bool.and_eq_true, decide_eq_true_eq, yOk_iff, List.length_set, Bool.not_eq_true', hp.nodup_iff, List.nodup_cons, anyI, hasI_no]
  constructor
  · rintro ⟨_, a1, ⟨a2, _⟩, _⟩
    have hm : rows[k] ++ [x] ∈ rows.set k (rows[k] ++ [x]) := List.mem_iff_getElem.2 ⟨k, by simpa using hk, by simp⟩
    obtain ⟨_, b1, b2⟩ := a1 _ hm
    refine ⟨b2 x (by simp), a2, ?_⟩
    rw [List.length_append, List.length_singleton] at b1
    omega
  · rintro ⟨a1, a2, a3⟩
    refine ⟨⟨h1, h2⟩, fun s hsm => ?_, ⟨a2, hn⟩, by simp⟩
    rcases List.mem_or_eq_of_mem_set hsm with hsm | rfl
    · exact hs s hsm
    · obtain ⟨b0, b1, b2⟩ := hs _ hmem
      refine ⟨b0, ?_, fun y hy => ?_⟩
      · rw [List.length_append, List.length_singleton]; omega
      · rcases List.mem_append.1 hy with hy | hy
        · exact b2 y hy
        · rw [List.mem_singleton.1 hy]; exact a1
/-- which yard a putting gives, and whether the box was put -/
def yput (high : Int) (rows : List (List Int)) (i x : Int) : Int × List (List Int) × Bool :=
  if yardOk high rows = false then (0, [], false)
  else if (0 ≤ i ∧ i < rows.length) ∧ yardOk high (rows.set i.toNat ((rows.getD i.toNat []) ++ [x])) = true then (high, rows.set i.toNat ((rows.getD i.toNat []) ++ [x]), true)
  else (high, rows, false)
theorem getD_at {rows : List (List Int)} {k : Nat} (hk : k < rows.length) : rows.getD k [] = rows[k] := by rw [List.getD_eq_getElem?_getD, List.getElem?_eq_getElem hk]; rfl
theorem yput_bad {high : Int} {rows : List (List Int)} (i x : Int) (h : yardOk high rows = false) : yput high rows i x = (0, [], false) := by rw [yput, if_pos h]
theorem yput_out {high : Int} {rows : List (List Int)} {i : Int} (x : Int) (h : yardOk high rows = true) (h2 : ¬ (0 ≤ i ∧ i < rows.length)) : yput high rows i x = (high, rows, false) := by
  rw [yput, if_neg (by simp [h]), if_neg (fun h => h2 h.1)]
theorem yput_no {high : Int} {rows : List (List Int)} {k : Nat} {x : Int} (h : yardOk high rows = true) (hk : k < rows.length) (h2 : yardOk high (rows.set k (rows[k] ++ [x])) = false) : yput high rows (k : Int) x = (high, rows, false) := by
  rw [yput, if_neg (by simp [h]), Int.toNat_natCast, getD_at hk, if_neg (by simp [h2])]
theorem yput_yes {high : Int} {rows : List (List Int)} {k : Nat} {x : Int} (h : yardOk high rows = true) (hk : k < rows.length) (h2 : yardOk high (rows.set k (rows[k] ++ [x])) = true) : yput high rows (k : Int) x = (high, rows.set k (rows[k] ++ [x]), true) := by
  rw [yput, if_neg (by simp [h]), Int.toNat_natCast, getD_at hk, if_pos ⟨by omega, h2⟩]
end Go.Proofs.YtbkfhcbecejomaaGreat
end
section
/- Yards: what a taking gives, in plain words; the parts of the taking. -/
namespace Go.Proofs.YtbkfhcbecejomaaGreat
open Go Go.ChangeShapes Go.WideShapes Go.ChangeAt Go.RowKit
set_option linter.unusedVariables false
/-- a row of its own, made shorter -/
theorem own_take {w : World} {base : Nat} {e : TypeId} {A : Option Addr} {n c m : Nat} {xs : List Value} (h : w.ownsRow base e 1 (.slice A n c) n xs) (hm : m ≤ n) : w.ownsRow base e 1 (.slice A m c) m (xs.take m) := by
  have hl := h.1
  rcases h.2 with ⟨hv, hn⟩ | ⟨g, cap, cur, hv, hb, hg, h1, h2, h3, h4⟩
  · subst hn
    obtain rfl : m = 0 := by omega
    rw [List.take_zero]
    injection hv with e1 e2 e3
    subst e1 e3
    exact World.ownsRow_nil _ _ _ _
  · injection hv with e1 e2 e3
    subst e1 e3
    refine ⟨by rw [List.length_take]; omega, .inr ⟨g, c, cur, rfl, hb, hg, by omega, h2, h3, ?_⟩⟩
    rw [← h4, List.take_take, Nat.mul_one, Nat.mul_one, Nat.min_eq_left hm]
/-- which yard and which box a taking gives -/
def ytake (high : Int) (rows : List (List Int)) (i : Int) : Int × List (List Int) × Int :=
  if yardOk high rows = false then (0, [], -1)
  else if h : (0 ≤ i ∧ i < rows.length) ∧ (rows.getD i.toNat []) ≠ [] then (high, rows.set i.toNat (rows.getD i.toNat []).dropLast, (rows.getD i.toNat []).getLast h.2)
  else (high, rows, -1)
/-- the answer, in memory of the call's own -/
def YTOut (w : World) (x : Int × List (List Int) × Int) : Ending → World → Prop :=
  RVal fun u w' => ∃ A c, u = .tuple #[.agg #[.int .i64 x.1, .slice A x.2.1.length c], .int .i64 x.2.2] ∧ OwnRR w' w.heap.size w'.heap.size 29 3 (.slice A x.2.1.length c) (intss x.2.1) ∧ Below w.heap.size w w'
theorem ytake_bad {high : Int} {rows : List (List Int)} (i : Int) (h : yardOk high rows = false) : ytake high rows i = (0, [], -1) := by rw [ytake, if_pos h]
theorem ytake_no {high : Int} {rows : List (List Int)} {i : Int} (h : yardOk high rows = true) (h2 : ¬ ((0 ≤ i ∧ i < rows.length) ∧ (rows.getD i.toNat []) ≠ [])) : ytake high rows i = (high, rows, -1) := by rw [ytake, if_neg (by simp [h]), dif_neg h2]
theorem ytake_yes {high : Int} {rows : List (List Int)} {k : Nat} (h : yardOk high rows = true) (hk : k < rows.length) (hz : rows[k] ≠ []) : ytake high rows (k : Int) = (high, rows.set k rows[k].dropLast, rows[k].getLast hz) := by
  have e : rows.getD k [] = rows[k] := by rw [List.getD_eq_getElem?_getD, List.getElem?_eq_getElem hk]; rfl
  rw [ytake, if_neg (by simp [h]), dif_pos (by rw [Int.toNat_natCast, e]; exact ⟨by omega, hz⟩)]
  simp only [Int.toNat_natCast, e]
theorem inI_no {i : Int} {n : Nat} (h : inI i 0 ((n : Int) - 1) = false) : ¬ (0 ≤ i ∧ i < n) := by simp [inI] at h; omega
theorem inI_yes {i : Int} {n : Nat} (h : inI i 0 ((n : Int) - 1) = true) : ∃ k : Nat, i = (k : Int) ∧ k < n := by
  simp [inI] at h
  exact ⟨i.toNat, by omega, by omega⟩
theorem ints_take (zs : List Int) (m : Nat) : (ints zs).take m = ints (zs.take m) := by simp [ints]
/-- the highest box of a row of its own is taken away -/
theorem OwnRR.pop {w : World} {lo hi : Nat} {A : Option Addr} {n c : Nat} {rows : List (List Int)} (h : OwnRR w lo hi 29 3 (.slice A n c) (intss rows)) {k : Nat} (hk : k < rows.length) (hz : rows[k] ≠ []) :
    ∃ g b c', A = some ⟨g, 0, none⟩ ∧ lo ≤ g ∧ g < hi ∧ g < w.heap.size ∧ b < w.heap.size ∧ lo ≤ b ∧ w.cell? ⟨g, k, none⟩ = some (.slice (some ⟨b, 0, none⟩) (rows[k]).length c') ∧ w.frozen? ⟨g, k, none⟩ = false ∧ (rows[k]).length ≤ c' ∧ w.cell? ⟨b, (rows[k]).length - 1, none⟩ = some (.int .i64 (rows[k].getLast hz)) ∧
      OwnRR (w.setCell ⟨g, k, none⟩ (.slice (some ⟨b, 0, none⟩) ((rows[k]).length - 1) c')) lo (w.setCell ⟨g, k, none⟩ (.slice (some ⟨b, 0, none⟩) ((rows[k]).length - 1) c')).heap.size 29 3 (.slice A n c) (intss (rows.set k rows[k].dropLast)) ∧ Out lo hi w (w.setCell ⟨g, k, none⟩ (.slice (some ⟨b, 0, none⟩) ((rows[k]).length - 1) c')) := by
  have hkl : k < (intss rows).length := by rw [intss_len]; exact hk
  have htop : hi ≤ w.heap.size := by obtain ⟨hs, h1, _⟩ := h; exact h1.top
  obtain ⟨g, cc, B, c', hv, h1, h2, h3, h4, h5, h6, h7⟩ := h.put hkl
  rw [intss_at, ints_len] at h5
  simp only [intss_at, ints_len] at h3 h6 h7
  injection hv with e1 e2 e3
  have hpos : 0 < (rows[k]).length := List.length_pos_iff.2 hz
  rcases own_form h5.row with ⟨e, h0, _⟩ | ⟨b, c2, e, hb1, hb2, hb3⟩
  · omega
  injection e with eB _ ec
  subst eB ec
  have hrow := own_take h5.row (m := (rows[k]).length - 1) (by omega)
  rw [ints_take, ← List.dropLast_eq_take] at hrow
  have hcell := h5.row.cellAt ((rows[k]).length - 1) (by omega)
  rw [List.getElem?_eq_getElem (by rw [ints_len]; omega), ints_at, ← List.getLast_eq_getElem hz] at hcell
  obtain ⟨p1, p2⟩ := h7 w (.slice (some ⟨b, 0, none⟩) ((rows[k]).length - 1) c') (ints rows[k].dropLast) (World.grownBy.refl _ _) (by rw [ints_len, List.length_dropLast]; exact hrow) (.inl rfl)
  have es : (intss rows).set k (ints rows[k].dropLast) = intss (rows.set k rows[k].dropLast) := by simp [intss, List.map_set]
  rw [es] at p1
  exact ⟨g, b, c', e1, h1, h2, by omega, hb2, hb1, h3, h4, hb3, hcell, p1, p2⟩
end Go.Proofs.YtbkfhcbecejomaaGreat
end
section
/- YardTake, both programs: the plain word. -/
namespace Go.Proofs.YtbkfhcbecejomaaGreat
open Go Go.ChangeShapes Go.WideShapes Go.ChangeAt Go.RowKit
set_option linter.unusedVariables false
theorem yt_zero {w wz : World} {x : Int × List (List Int) × Int} {u1 u2 : Value} (h : x = (0, [], -1)) (hB : Below w.heap.size w wz) :
    YTOut w x (.returned (.tuple #[.agg #[.int .i64 0, .slice none 0 0], .int .i64 (-1)])) ((wz.setCell ⟨w.heap.size + 1, 0, none⟩ u1).setCell ⟨w.heap.size + 1, 1, none⟩ u2) := by
  subst h
  exact RVal.mk ⟨none, 0, rfl, ownRR_none _ _ _ _, (hB.setCell (Nat.le_succ _) _).setCell (Nat.le_succ _) _⟩
theorem yt_out {w wz : World} {x : Int × List (List Int) × Int} {high id : Int} {rows : List (List Int)} {n c lo hi : Nat} {A : Option Addr} {u1 u2 : Value} (h : x = (high, rows, id)) (hn : rows.length = n) (hO : OwnRR wz lo hi 29 3 (.slice A n c) (intss rows)) (hlo : w.heap.size + 2 ≤ lo) (hB : Below w.heap.size w wz) :
    YTOut w x (.returned (.tuple #[.agg #[.int .i64 high, .slice A n c], .int .i64 id])) ((wz.setCell ⟨w.heap.size + 1, 0, none⟩ u1).setCell ⟨w.heap.size + 1, 1, none⟩ u2) := by
  subst h hn
  have htop : hi ≤ wz.heap.size := by obtain ⟨hs, h1, _⟩ := hO; exact h1.top
  exact RVal.mk ⟨A, c, rfl, ((hO.set_far _ _ _ (by omega) htop).set_far _ _ _ (by omega) (Nat.le_refl _)).base (by omega), (hB.setCell (Nat.le_succ _) _).setCell (Nat.le_succ _) _⟩
/-- five cells -/
def Keep5 (W : World) (p b i b2 j q : Nat) (v1 v2 v3 v4 v5 : Value) : Prop := W.cell? ⟨p, 1, none⟩ = some v1 ∧ W.cell? ⟨b, i, none⟩ = some v2 ∧ W.cell? ⟨b2, j, none⟩ = some v3 ∧ W.cell? ⟨q, 0, none⟩ = some v4 ∧ W.cell? ⟨q, 1, none⟩ = some v5
theorem Keep5.drew {W : World} {p b i b2 j q : Nat} {v1 v2 v3 v4 v5 : Value} (h : Keep5 W p b i b2 j q v1 v2 v3 v4 v5) : Keep5 W.drew p b i b2 j q v1 v2 v3 v4 v5 := h
theorem far_cell {W : World} {x y i j : Nat} {u v : Value} (h : W.cell? ⟨x, i, none⟩ = some v) (hne : x ≠ y) : (W.setCell ⟨y, j, none⟩ u).cell? ⟨x, i, none⟩ = some v :=
  (World.cell?_of_block (Below.heap_setCell W ⟨y, j, none⟩ u x hne)).trans h
theorem Keep5.set2 {W : World} {p b i b2 j q r : Nat} {v1 v2 v3 v4 v5 u1 u2 : Value} (h : Keep5 W p b i b2 j q v1 v2 v3 v4 v5) (n1 : p ≠ r) (n2 : b ≠ r) (n3 : b2 ≠ r) (n4 : q ≠ r) : Keep5 ((W.setCell ⟨r, 0, none⟩ u1).setCell ⟨r, 1, none⟩ u2) p b i b2 j q v1 v2 v3 v4 v5 :=
  ⟨far_cell (far_cell h.1 n1) n1, far_cell (far_cell h.2.1 n2) n2, far_cell (far_cell h.2.2.1 n3) n3, far_cell (far_cell h.2.2.2.1 n4) n4, far_cell (far_cell h.2.2.2.2 n4) n4⟩
set_option maxRecDepth 100000 in
set_option maxHeartbeats 4000000 in
theorem specYardTake (high i : Int) (A : Option Addr) (n c : Nat) (rows : List (List Int)) (w : World) (hn : rows.length = n) (hr : RdRR w A (intss rows)) (hm : n ≤ 1048576) (hin : ∀ s ∈ rows, s.length ≤ 1048576) :
    Calls Tryz.prog 104 #[.agg #[.int .i64 high, .slice A n c], .int .i64 i] w (YTOut w (ytake high rows i)) := by
  have en : IntKind.i64.wrap ((n : Int) - 1) = (n : Int) - 1 := IntWalk.i64_in _ (by omega)
  have HN := Lib.hid hn
  have HR := Lib.hid hr
  have HIN := Lib.hid hin
  clear hn hin
  have hal : Below w.heap.size w ((w.alloc (.cells #[.int .i64 high, .slice A n c] 25)).alloc (.cells #[.int .i64 0, .slice none 0 0] 25)) := ((Below.refl _ _).alloc (Nat.le_refl _) _).alloc (by simp) _
  have hP : Blk ((w.alloc (.cells #[.int .i64 high, .slice A n c] 25)).alloc (.cells #[.int .i64 0, .slice none 0 0] 25)) w.heap.size 25 [.int .i64 high, .slice A n c] := (Blk.new _ _ _).alloc _
  have hQ : Blk ((w.alloc (.cells #[.int .i64 high, .slice A n c] 25)).alloc (.cells #[.int .i64 0, .slice none 0 0] 25)) (w.heap.size + 1) 25 [.int .i64 0, .slice none 0 0] := by simpa using Blk.new (w.alloc (.cells #[.int .i64 high, .slice A n c] 25)) 25 [.int .i64 0, .slice none 0 0]
  have hs1 : w.heap.size + 2 ≤ ((w.alloc (.cells #[.int .i64 high, .slice A n c] 25)).alloc (.cells #[.int .i64 0, .slice none 0 0] 25)).heap.size := by simp
  go_enter Tryz.func104, Tryz.ntmps104
  go_wp2_with fail
  generalize (w.alloc (.cells #[.int .i64 high, .slice A n c] 25)).alloc (.cells #[.int .i64 0, .slice none 0 0] 25) = w1 at *
  refine (specYardValid high A n c rows _ HN.out (hr.below hal) (by omega)).mono ?_
  rintro e w2 ⟨rfl, b2⟩
  have hP2 := hP.later b2
  have hQ2 := hQ.later b2
  have B2 := below_trans hal b2
  have hs2 : w.heap.size + 2 ≤ w2.heap.size := Nat.le_trans hs1 b2.size
  have x0 := hP2.cellAt 0 (by simp)
  have x1 := hP2.cellAt 1 (by simp)
  have y0 := hQ2.cellAt 0 (by simp)
  have y1 := hQ2.cellAt 1 (by simp)
  have f0 := hQ2.frozen 0
  have f1 := hQ2.frozen 1
  simp only [List.getElem_cons_zero, List.getElem_cons_succ] at x0 x1 y0 y1
  clear hal hP hQ hs1 b2
  have l0 := hP2.lt
  have l1 := hQ2.lt
  cases hok : yardOk high rows with
  | false =>
    have H0 := Lib.hid (ytake_bad i hok)
    have HB2 := Lib.hid B2
    have HQ2 := Lib.hid hQ2
    clear hok B2 hQ2
    go_wp2_with fail
    have hR := (HQ2.out.set_ 0 (.int .i64 0)).set_ 1 (.slice none 0 0)
    have z0 := hR.cellAt 0 (by simp)
    have z1 := hR.cellAt 1 (by simp)
    simp only [List.set_cons_zero, List.set_cons_succ, List.getElem_cons_zero, List.getElem_cons_succ] at z0 z1
    refine bodyPost_ret (v := .tuple #[.agg #[.int .i64 0, .slice none 0 0], .int .i64 (-1)]) (by simp [results, Tryz.results104, go_sem, z0, z1]) rfl ?_
    exact yt_zero H0.out HB2.out
  | true =>
    obtain ⟨g1, g2, g3, g4, g5, g6⟩ := yardOk_parts hok
    have HG5 := Lib.hid g5
    clear g3 g4 g5 g6
    have HOK := Lib.hid hok
    have HB2 := Lib.hid B2
    have HP2 := Lib.hid hP2
    have HQ2 := Lib.hid hQ2
    clear hok B2 hP2 hQ2
    go_wp2_with fail
    refine (specCopy high A n c rows _ HN.out (HR.out.below HB2.out) (by omega) HIN.out).mono ?_
    rintro e w3 ⟨_, rfl, A1, c1, rfl, O3, b3⟩
    have hal3 : Below w3.heap.size w3 (w3.alloc (.cells #[.int .i64 high, .slice A1 n c1] 25)) := (Below.refl _ _).alloc (Nat.le_refl _) _
    have b4 := below_trans b3 hal3
    have hX4 : Blk (w3.alloc (.cells #[.int .i64 high, .slice A1 n c1] 25)) w3.heap.size 25 [.int .i64 high, .slice A1 n c1] := Blk.new _ _ _
    have hP4 := HP2.out.later b4
    have hQ4 := HQ2.out.later b4
    have O4 := O3.later hal3
    have hs23 := b3.size
    have B4 := below_trans HB2.out b4
    clear x0 x1 y0 y1 f0 f1 b3 hal3 O3 b4
    have x0 := hP4.cellAt 0 (by simp)
    have x1 := hP4.cellAt 1 (by simp)
    simp only [List.getElem_cons_zero, List.getElem_cons_succ] at x0 x1
    have HP4 := Lib.hid hP4
    have HQ4 := Lib.hid hQ4
    have HX4 := Lib.hid hX4
    have HO4 := Lib.hid O4
    have HB4 := Lib.hid B4
    clear hP4 hQ4 hX4 O4 B4
    go_wp2_with fail
    generalize w3.alloc (.cells #[.int .i64 high, .slice A1 n c1] 25) = w4 at *
    refine (l1In_any i 0 ((n : Int) - 1) _).mono ?_
    rintro e w5 ⟨rfl, rfl⟩
    have P5 := HP4.out
    have Q5 := HQ4.out
    have X5 := HX4.out
    clear x0 x1
    have x0 := P5.cellAt 0 (by simp)
    have x1 := P5.cellAt 1 (by simp)
    have y0 := Q5.cellAt 0 (by simp)
    have y1 := Q5.cellAt 1 (by simp)
    have f0 := Q5.frozen 0
    have f1 := Q5.frozen 1
    have v0 := X5.cellAt 0 (by simp)
    have v1 := X5.cellAt 1 (by simp)
    simp only [List.getElem_cons_zero, List.getElem_cons_succ] at x0 x1 y0 y1 v0 v1
    have HP5 := Lib.hid P5
    have HQ5 := Lib.hid Q5
    have HX5 := Lib.hid X5
    have HO5 := HO4
    have HB5 := HB4
    have l2 := Q5.lt
    have l3 := X5.lt
    cases hi : inI i 0 ((n : Int) - 1) with
    | false =>
      have H0 := Lib.hid (ytake_no HOK.out (fun h => by have := inI_no hi; rw [HN.out] at h; exact this h.1))
      clear hi P5 Q5 X5
      go_wp2_with fail
      have hR := (HQ5.out.set_ 0 (.int .i64 high)).set_ 1 (.slice A1 n c1)
      have z0 := hR.cellAt 0 (by simp)
      have z1 := hR.cellAt 1 (by simp)
      simp only [List.set_cons_zero, List.set_cons_succ, List.getElem_cons_zero, List.getElem_cons_succ] at z0 z1
      refine bodyPost_ret (v := .tuple #[.agg #[.int .i64 high, .slice A1 n c1], .int .i64 (-1)]) (by simp [results, Tryz.results104, go_sem, z0, z1]) rfl ?_
      exact yt_out H0.out HN.out HO5.out hs2 HB5.out
    | true =>
      obtain ⟨k, rfl, hk⟩ := inI_yes hi
      have hkz : k < rows.length := by rw [HN.out]; exact hk
      have hkl : k < (intss rows).length := by rw [intss_len]; exact hkz
      obtain ⟨b, o, rfl, hl0, B, c', hcell0, hle, hmx, hrB0⟩ := HR.out.pos hkl
      have hl : b < w4.heap.size := Nat.lt_of_lt_of_le hl0 HB5.out.size
      have hcell := (HB5.out.cell (p := ⟨b, o + k, none⟩) hl0).trans hcell0
      simp only [intss_at, ints_len] at hcell hcell0
      rw [intss_at] at hrB0
      have hki : (k : Int) < (n : Int) := by omega
      by_cases hz : rows[k] = []
      · have H0 := Lib.hid (ytake_no HOK.out (i := (k : Int)) (fun h => by
          have e : rows.getD (k : Int).toNat [] = rows[k] := by rw [Int.toNat_natCast, List.getD_eq_getElem?_getD, List.getElem?_eq_getElem hkz]; rfl
          rw [e] at h
          exact h.2 hz))
        have hz0 : (rows[k]).length = 0 := by rw [hz]; rfl
        rw [hz0] at hcell
        clear hi P5 Q5 X5 hcell0 hle hmx hrB0 hz hz0 hr
        go_wp2_with fail
        have hR := (HQ5.out.set_ 0 (.int .i64 high)).set_ 1 (.slice A1 n c1)
        have z0 := hR.cellAt 0 (by simp)
        have z1 := hR.cellAt 1 (by simp)
        simp only [List.set_cons_zero, List.set_cons_succ, List.getElem_cons_zero, List.getElem_cons_succ] at z0 z1
        refine bodyPost_ret (v := .tuple #[.agg #[.int .i64 high, .slice A1 n c1], .int .i64 (-1)]) (by simp [results, Tryz.results104, go_sem, z0, z1]) rfl ?_
        exact yt_out H0.out HN.out HO5.out hs2 HB5.out
      · have H0 := Lib.hid (ytake_yes HOK.out hkz hz)
        have hpl := HG5.out rows[k] (List.getElem_mem hkz)
        have hzp : 0 < (rows[k]).length := List.length_pos_iff.2 hz
        obtain ⟨b2, o2, rfl, hl2, hc2⟩ := hrB0.pos (k := (rows[k]).length - 1) (by rw [ints_len]; omega)
        have hlast0 := hc2 ((rows[k]).length - 1) (by rw [ints_len]; omega)
        rw [ints_at, ← List.getLast_eq_getElem hz] at hlast0
        have hlast := (HB5.out.cell (p := ⟨b2, o2 + ((rows[k]).length - 1), none⟩) hl2).trans hlast0
        obtain ⟨g, bb, cc, rfl, t1, t2, t3, t4, t4', t5, t6, t7, t8, t9, t10⟩ := HO5.out.pop hkz hz
        have HSL : Hid ((rows.set k rows[k].dropLast).length = n) := Lib.hid (by rw [List.length_set]; exact HN.out)
        have hne : ¬ ((rows[k]).length : Int) = 0 := by omega
        have HOP := Lib.hid t9
        have HOU := Lib.hid t10
        have HC0 := Lib.hid hcell0
        have HL0 := Lib.hid hlast0
        generalize rows[k].getLast hz = id at *
        generalize rows.set k rows[k].dropLast = rows2 at *
        generalize (rows[k]).length = p at *
        obtain ⟨m, rfl⟩ : ∃ m, p = m + 1 := ⟨p - 1, by omega⟩
        rw [Nat.add_sub_cancel] at *
        have em : IntKind.i64.wrap (((m + 1 : Nat) : Int) - 1) = (m : Int) := by rw [IntWalk.i64_in _ (by omega)]; omega
        have q1 : (m : Int) < ((m + 1 : Nat) : Int) := by omega
        have q2 : (0 : Int) ≤ (m : Int) := by omega
        have q3 : (m : Int) ≤ (cc : Int) := by omega
        have q4 : (m : Int) < (m : Int) + 1 := by omega
        clear hi P5 Q5 X5 hcell0 hle hmx hrB0 hz hr t9 t10 t8 hc2 hlast0
        have HLA := Lib.hid hlast
        have HCE := Lib.hid hcell
        go_wp2_with fail
        go_still_tail 11, (by kernel_rfl)
        change wpList _ _ _ _ _ w4.drew
        have t5' : w4.drew.cell? ⟨g, k, none⟩ = some (.slice (some ⟨bb, 0, none⟩) (m + 1) cc) := t5
        have t6' : w4.drew.frozen? ⟨g, k, none⟩ = false := t6
        have O6 : OwnRR (w4.drew.setCell ⟨g, k, none⟩ (.slice (some ⟨bb, 0, none⟩) m cc)) w2.heap.size (w4.drew.setCell ⟨g, k, none⟩ (.slice (some ⟨bb, 0, none⟩) m cc)).heap.size 29 3 (.slice (some ⟨g, 0, none⟩) n c1) (intss rows2) := HOP.out.later (Below.drew (Below.refl _ _))
        have o6 : Out w2.heap.size w3.heap.size w4 (w4.drew.setCell ⟨g, k, none⟩ (.slice (some ⟨bb, 0, none⟩) m cc)) := HOU.out.trans (Below.out (Below.drew (Below.refl _ _)) _ _)
        clear x0 x1 y0 y1 f0 f1 v0 v1 hcell hlast t5 t6
        go_wp2_with fail
        clear t5' t6'
        change OwnRR (w4.setCell ⟨g, k, none⟩ (.slice (some ⟨bb, 0, none⟩) m cc)).drew _ _ _ _ _ _ at O6
        change Out _ _ _ (w4.setCell ⟨g, k, none⟩ (.slice (some ⟨bb, 0, none⟩) m cc)).drew at o6
        generalize (w4.setCell ⟨g, k, none⟩ (.slice (some ⟨bb, 0, none⟩) m cc)).drew = w6 at *
        have hP6 : Blk w6 w.heap.size 25 [.int .i64 high, .slice (some ⟨b, o, none⟩) n c] := (o6.block _ HP5.out.lt (.inl (by omega))).trans HP5.out
        have hQ6 : Blk w6 (w.heap.size + 1) 25 [.int .i64 0, .slice none 0 0] := (o6.block _ HQ5.out.lt (.inl (by omega))).trans HQ5.out
        have hX6 : Blk w6 w3.heap.size 25 [.int .i64 high, .slice (some ⟨g, 0, none⟩) n c1] := (o6.block _ HX5.out.lt (.inr (Nat.le_refl _))).trans HX5.out
        have b6 := below_out HB5.out o6 (by omega)
        have hcell6 := (b6.cell (p := ⟨b, o + k, none⟩) hl0).trans HC0.out
        have hlast6 := (b6.cell (p := ⟨b2, o2 + m, none⟩) hl2).trans HL0.out
        have x0 := hP6.cellAt 0 (by simp)
        have x1 := hP6.cellAt 1 (by simp)
        have y0 := hQ6.cellAt 0 (by simp)
        have y1 := hQ6.cellAt 1 (by simp)
        have f0 := hQ6.frozen 0
        have f1 := hQ6.frozen 1
        have v0 := hX6.cellAt 0 (by simp)
        have v1 := hX6.cellAt 1 (by simp)
        simp only [List.getElem_cons_zero, List.getElem_cons_succ] at x0 x1 y0 y1 v0 v1
        have HQ6 := Lib.hid hQ6
        have HO6 := Lib.hid O6
        have HB6 := Lib.hid b6
        clear hP6 hQ6 hX6 O6 o6 b6 em q3 en t1 t2 t3 t4 t4' t7 hl
        have l6 := HQ6.out.lt
        have n1 : w.heap.size ≠ w.heap.size + 1 := by omega
        have n2 : b ≠ w.heap.size + 1 := by omega
        have n3 : b2 ≠ w.heap.size + 1 := by omega
        have n4 : w3.heap.size ≠ w.heap.size + 1 := by omega
        have K6 : Keep5 w6 w.heap.size b (o + k) b2 (o2 + m) w3.heap.size (.slice (some ⟨b, o, none⟩) n c) (.slice (some ⟨b2, o2, none⟩) (m + 1) c') (.int .i64 id) (.int .i64 high) (.slice (some ⟨g, 0, none⟩) n c1) := ⟨x1, hcell6, hlast6, v0, v1⟩
        have HK6 := Lib.hid K6
        clear K6
        go_region_held3 (fun W => W.cell? ⟨w.heap.size, 1, none⟩ = some (.slice (some ⟨b, o, none⟩) n c) ∧ W.cell? ⟨b, o + k, none⟩ = some (.slice (some ⟨b2, o2, none⟩) (m + 1) c') ∧ W.cell? ⟨b2, o2 + m, none⟩ = some (.int .i64 id) ∧ W.cell? ⟨w3.heap.size, 0, none⟩ = some (.int .i64 high) ∧ W.cell? ⟨w3.heap.size, 1, none⟩ = some (.slice (some ⟨g, 0, none⟩) n c1))
          (first | exact HK6.out.drew | exact (HK6.out.drew).set2 n1 n2 n3 n4) (fail)
        go_wp2_with fail
        have hR0 := HQ6.out.set_ 0 (.int .i64 high)
        have hR := hR0.set_ 1 (.slice (some ⟨g, 0, none⟩) n c1)
        have z0 := hR0.cellAt 0 (by simp)
        have z1 := hR.cellAt 1 (by simp)
        simp only [List.set_cons_zero, List.set_cons_succ, List.getElem_cons_zero, List.getElem_cons_succ] at z0 z1
        refine bodyPost_ret (v := .tuple #[.agg #[.int .i64 high, .slice (some ⟨g, 0, none⟩) n c1], .int .i64 id]) (by simp [results, Tryz.results104, go_sem, z0, z1]) rfl ?_
        have hfin := yt_out (w := w) (u1 := .int .i64 high) (u2 := .slice (some ⟨g, 0, none⟩) n c1) H0.out HSL.out (HO6.out.later (Below.drew (Below.refl _ _))) hs2 (Below.drew HB6.out)
        exact hfin
end Go.Proofs.YtbkfhcbecejomaaGreat
end
