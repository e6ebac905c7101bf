/- Several texts of the proof in one; each says at its head what it proves; no condition. -/
import Derived.Test.YtbkfhcbecejomaaGreatMg14
import Derived.Test.YtbkfhcbecejomaaGreatMg13
import Derived.Test.YtbkfhcbecejomaaGreatMg20
import Derived.Deep.RegionLaw
import Derived.Deep.DrawnRows
import Derived.Deep.CutRange
import Derived.Test.YtbkfhcbecejomaaGreatMg12
import Derived.Test.YtbkfhcbecejomaaGreatMg1
import Derived.Lib.SliceRun
section
/- A deed of a terminal that is drawn: four numbers, whatever they are. Printed by gen_drawtd.py. -/
namespace Go.Proofs.YtbkfhcbecejomaaGreat
open Go Go.ChangeShapes Go.WideShapes Go.ChangeAt Go.RowKit
set_option linter.unusedVariables false
set_option linter.unusedSimpArgs false
attribute [local go_sem ↓] Go.wp_at_zero Go.wp_at_succ
def tkAt (v : Int) : Int := [0, 0, 0, 1, 2, 2, 2, 3, 4, 5, 6].getD v.toNat 0
theorem tkAt_some (v : Int) (h0 : 0 ≤ v) (h1 : v < 11) : [Value.int .i64 0, .int .i64 0, .int .i64 0, .int .i64 1, .int .i64 2, .int .i64 2, .int .i64 2, .int .i64 3, .int .i64 4, .int .i64 5, .int .i64 6][v.toNat]? = some (.int .i64 (tkAt v)) := by
  obtain rfl | rfl | rfl | rfl | rfl | rfl | rfl | rfl | rfl | rfl | rfl : v = 0 ∨ v = 1 ∨ v = 2 ∨ v = 3 ∨ v = 4 ∨ v = 5 ∨ v = 6 ∨ v = 7 ∨ v = 8 ∨ v = 9 ∨ v = 10 := by omega
  all_goals rfl
/-- the reader has gone on; all else lies as it lay in w -/
structure TdAt (w W : World) (g q : Nat) : Prop where
  rd : Rdr W g q
  gr : w.grownBy W (some g)
theorem TdAt.lt {w W : World} {g q : Nat} (h : TdAt w W g q) : g < W.heap.size := h.rd.lt
theorem TdAt.drew {w W : World} {g q : Nat} (h : TdAt w W g q) : TdAt w W.drew g q := ⟨h.rd, only_drewN h.gr 1⟩
theorem TdAt.alloc {w W : World} {g q : Nat} (h : TdAt w W g q) (o : Obj) : TdAt w (W.alloc o) g q := ⟨h.rd.kept ((Below.refl _ _).alloc (Nat.le_refl _) _), only_trans h.gr (only_below ((Below.refl _ _).alloc (Nat.le_refl _) _) g)⟩
theorem TdAt.below {w W W' : World} {g q : Nat} (h : TdAt w W g q) (hb : Below W.heap.size W W') : TdAt w W' g q := ⟨h.rd.kept hb, only_trans h.gr (only_below hb g)⟩
theorem TdAt.set {w W : World} {g q : Nat} (h : TdAt w W g q) (b i : Nat) (v : Value) (hb : w.heap.size ≤ b) (hg : g < b) : TdAt w (W.setCell ⟨b, i, none⟩ v) g q := ⟨h.rd.setT b i v hg, onlyT_set h.gr hb⟩
theorem pickT {w W : World} {g q : Nat} {m : Int} (h : TdAt w W g q) (hq : q ≤ 1000000000) (hm : 1 ≤ m ∧ m ≤ 1000000000) :
    Calls Tryz.prog 45 #[.pointer (some ⟨g, 0, none⟩), .int .i64 m] W (RInt fun v w' => (0 ≤ v ∧ v < m) ∧ TdAt w w' g (q + 1) ∧ W.grownBy w' (some g)) :=
  (pick_any g q m W h.rd hq hm.2).mono fun e w' ⟨v, he, ⟨h0, h1, _⟩, hr, hg⟩ => ⟨v, he, ⟨h0, h1 hm.1⟩, ⟨hr, only_trans h.gr hg⟩, hg⟩
def DeedD (w : World) (g q : Nat) : Ending → World → Prop :=
  RVal fun u w' => ∃ k i f t : Int, u = .agg #[.int .i64 k, .int .i64 i, .int .i64 f, .int .i64 t] ∧ ∃ q', q' ≤ q + 20 ∧ Rdr w' g q' ∧ w.grownBy w' (some g)
/-- behind the first draws -/
def DeedC (w1 : World) (g q : Nat) (s6 : Value) (wx : World) : Prop := ∃ (sb : Nat) (k i f t : Int), s6 = .pointer (some ⟨sb, 0, none⟩) ∧ w1.heap.size ≤ sb ∧ Blk wx sb 81 [.int .i64 k, .int .i64 i, .int .i64 f, .int .i64 t] ∧ ∃ q', q' ≤ q + 3 ∧ TdAt w1 wx g q'
/-- the region's invariant: what has come up gave what it should -/
def TdJ (w1 : World) (g q : Nat) (a0 : Act) (D : Nat → Bool) (a : Act) (W : World) : Prop :=
  ∃ v13 v14 v15 v16 v17 v18 v19 v20 v21 v22 v23 v24 v25 v26 v6 : Value, a = puts a0 [(13, v13), (14, v14), (15, v15), (16, v16), (17, v17), (18, v18), (19, v19), (20, v20), (21, v21), (22, v22), (23, v23), (24, v24), (25, v25), (26, v26), (6, v6)] ∧
    (∃ q', q' ≤ q + (D 2).toNat + (D 6).toNat + (D 11).toNat ∧ TdAt w1 W g q') ∧
    (D 0 = true → D 3 = false → ∃ b, v13 = .slice (some ⟨b, 0, none⟩) 11 11 ∧ Blk W b 3 [Value.int .i64 0, .int .i64 0, .int .i64 0, .int .i64 1, .int .i64 2, .int .i64 2, .int .i64 2, .int .i64 3, .int .i64 4, .int .i64 5, .int .i64 6] ∧ g < b) ∧
    (D 1 = true → v14 = .pointer (some ⟨g, 0, none⟩)) ∧
    (D 2 = true → ∃ z : Int, v15 = .int .i64 z ∧ 0 ≤ z ∧ z < 11) ∧
    (D 3 = true → D 4 = false → ∃ (b : Nat) (z : Int), v16 = .pointer (some ⟨b, z.toNat, none⟩) ∧ Blk W b 3 [Value.int .i64 0, .int .i64 0, .int .i64 0, .int .i64 1, .int .i64 2, .int .i64 2, .int .i64 2, .int .i64 3, .int .i64 4, .int .i64 5, .int .i64 6] ∧ g < b ∧ 0 ≤ z ∧ z < 11) ∧
    (D 4 = true → ∃ z : Int, v17 = .int .i64 z) ∧
    (D 5 = true → v18 = .pointer (some ⟨g, 0, none⟩)) ∧
    (D 6 = true → ∃ z : Int, v19 = .int .i64 z) ∧
    (D 7 = true → ∃ z : Int, v20 = .int .i64 z) ∧
    (D 8 = true → ∃ z : Int, v21 = .int .i64 z) ∧
    (D 9 = true → ∃ z : Int, v22 = .int .i64 z) ∧
    (D 10 = true → v23 = .pointer (some ⟨g, 0, none⟩)) ∧
    (D 11 = true → ∃ z : Int, v24 = .int .i64 z) ∧
    (D 12 = true → ∃ z : Int, v25 = .int .i64 z) ∧
    (D 13 = true → ∃ k i : Int, v26 = .agg #[.int .i64 k, .int .i64 i, .int .i64 0, .int .i64 0]) ∧
    (D 14 = true → ∃ (sb : Nat) (k i f t : Int), v6 = .pointer (some ⟨sb, 0, none⟩) ∧ w1.heap.size ≤ sb ∧ Blk W sb 81 [.int .i64 k, .int .i64 i, .int .i64 f, .int .i64 t])
set_option maxRecDepth 100000 in
set_option maxHeartbeats 16000000 in
theorem l20TermDeed_any (g q : Nat) (high : Int) (x : HullV) (YA BA PA HA LA : Option Addr) (yn yc bn bc pn pc hn hc ln lc : Nat) (rows : List (List Int)) (bs : List BoxV) (plan : List Int) (hs : List HoldV) (ls : List Int) (w : World) (T : ∀ W, w.grownBy W (some g) → TrmRd W YA BA PA HA LA yn bn bc pn pc hn ln rows bs plan hs ls) (hr : Rdr w g q) (hq : q ≤ 100000000) :
    Calls Tryz.prog 54 #[.pointer (some ⟨g, 0, none⟩), .agg #[.int .i64 high, .slice YA yn yc, .int .i64 x.f0, .int .i64 x.f1, .int .i64 x.f2, .slice BA bn bc, .slice PA pn pc, .slice HA hn hc, .slice LA ln lc]] w (DeedD w g q) := by
  obtain ⟨y0, y1, y2⟩ := x
  have t1 := (T w (only_refl _ _)).ym
  have t2 := (T w (only_refl _ _)).pm
  have t3 := (T w (only_refl _ _)).bm
  have hal : Below w.heap.size w ((w.alloc (.cells #[.int .i64 high, .slice YA yn yc, .int .i64 y0, .int .i64 y1, .int .i64 y2, .slice BA bn bc, .slice PA pn pc, .slice HA hn hc, .slice LA ln lc] 34)).alloc (.cells #[.int .i64 0, .int .i64 0, .int .i64 0, .int .i64 0] 81)) := ((Below.refl _ _).alloc (Nat.le_refl _) _).alloc (by simp) _
  have hP := (Blk.new w 34 [.int .i64 high, .slice YA yn yc, .int .i64 y0, .int .i64 y1, .int .i64 y2, .slice BA bn bc, .slice PA pn pc, .slice HA hn hc, .slice LA ln lc]).alloc (.cells #[.int .i64 0, .int .i64 0, .int .i64 0, .int .i64 0] 81)
  have hR := Blk.new (w.alloc (.cells #[.int .i64 high, .slice YA yn yc, .int .i64 y0, .int .i64 y1, .int .i64 y2, .slice BA bn bc, .slice PA pn pc, .slice HA hn hc, .slice LA ln lc] 34)) 81 [.int .i64 0, .int .i64 0, .int .i64 0, .int .i64 0]
  simp only [World.size_alloc] at hR
  change Blk ((w.alloc (.cells #[.int .i64 high, .slice YA yn yc, .int .i64 y0, .int .i64 y1, .int .i64 y2, .slice BA bn bc, .slice PA pn pc, .slice HA hn hc, .slice LA ln lc] 34)).alloc (.cells #[.int .i64 0, .int .i64 0, .int .i64 0, .int .i64 0] 81)) _ _ _ at hP
  change Blk ((w.alloc (.cells #[.int .i64 high, .slice YA yn yc, .int .i64 y0, .int .i64 y1, .int .i64 y2, .slice BA bn bc, .slice PA pn pc, .slice HA hn hc, .slice LA ln lc] 34)).alloc (.cells #[.int .i64 0, .int .i64 0, .int .i64 0, .int .i64 0] 81)) _ _ _ at hR
  have p0 := hP.cellAt 0 (by simp)
  have p1 := hP.cellAt 1 (by simp)
  have p2 := hP.cellAt 2 (by simp)
  have p3 := hP.cellAt 3 (by simp)
  have p4 := hP.cellAt 4 (by simp)
  have p5 := hP.cellAt 5 (by simp)
  have p6 := hP.cellAt 6 (by simp)
  have p7 := hP.cellAt 7 (by simp)
  have p8 := hP.cellAt 8 (by simp)
  simp only [List.getElem_cons_zero, List.getElem_cons_succ] at p0 p1 p2 p3 p4 p5 p6 p7 p8
  go_enter Tryz.func54, Tryz.ntmps54
  go_upto_region 2 with fail
  generalize (w.alloc (.cells #[.int .i64 high, .slice YA yn yc, .int .i64 y0, .int .i64 y1, .int .i64 y2, .slice BA bn bc, .slice PA pn pc, .slice HA hn hc, .slice LA ln lc] 34)).alloc (.cells #[.int .i64 0, .int .i64 0, .int .i64 0, .int .i64 0] 81) = w1 at *
  have D0 : TdAt w1 w1 g q := ⟨hr.kept hal, only_refl _ _⟩
  have HD0 := Lib.hid D0
  have HP := Lib.hid hP
  have HR := Lib.hid hR
  have HAL := Lib.hid hal
  have hgl := hr.lt
  have hgl1 : g < w1.heap.size := D0.lt
  have T1 := Lib.hid T
  clear D0 hP hR hal hr T p0 p1 p2 p3 p4 p5 p6 p7 p8
  go_cut [6] from 13 to 26 (fun s6 wx => DeedC w1 g q s6 wx)
  case first =>
    refine wp_region_invJ (by kernel_rfl) (TdJ w1 g q) (by kernel_rfl) ?_ ?_ ?_
    · exact ⟨undef, undef, undef, undef, undef, undef, undef, undef, undef, undef, undef, undef, undef, undef, undef, (by simp only [puts, Act.put, List.setIfInBounds_toArray, List.set_cons_succ, List.set_cons_zero]), ⟨q, Nat.le_refl _, HD0.out.drew⟩, (fun h => by cases h), (fun h => by cases h), (fun h => by cases h), (fun h => by cases h), (fun h => by cases h), (fun h => by cases h), (fun h => by cases h), (fun h => by cases h), (fun h => by cases h), (fun h => by cases h), (fun h => by cases h), (fun h => by cases h), (fun h => by cases h), (fun h => by cases h), (fun h => by cases h)⟩
    · rintro i o D a W ho hD hdep ⟨v13, v14, v15, v16, v17, v18, v19, v20, v21, v22, v23, v24, v25, v26, v6, rfl, ⟨q', hq', HT⟩, F0, F1, F2, F3, F4, F5, F6, F7, F8, F9, F10, F11, F12, F13, F14⟩ K hK
      have hi : i < 16 := by have := (Array.getElem?_eq_some_iff.1 ho).1; simpa using this
      simp only [puts, Act.put, List.setIfInBounds_toArray, List.set_cons_succ, List.set_cons_zero]
      obtain rfl | rfl | rfl | rfl | rfl | rfl | rfl | rfl | rfl | rfl | rfl | rfl | rfl | rfl | rfl | rfl : i = 0 ∨ i = 1 ∨ i = 2 ∨ i = 3 ∨ i = 4 ∨ i = 5 ∨ i = 6 ∨ i = 7 ∨ i = 8 ∨ i = 9 ∨ i = 10 ∨ i = 11 ∨ i = 12 ∨ i = 13 ∨ i = 14 ∨ i = 15 := by omega
      all_goals (simp only [List.getElem?_toArray, List.getElem?_cons_zero, List.getElem?_cons_succ, Option.some.injEq] at ho; subst ho; simp [Region.binds] at hdep)
      · go_simp
        have hM : ∀ b t cs, g < b → Blk W b t cs → Blk (W.alloc (.cells ([Value.int .i64 0, .int .i64 0, .int .i64 0, .int .i64 1, .int .i64 2, .int .i64 2, .int .i64 2, .int .i64 3, .int .i64 4, .int .i64 5, .int .i64 6]).toArray 3)) b t cs := fun b t cs _ h => h.alloc _
        refine hK _ _ ?_
        refine ⟨(.slice (some ⟨W.heap.size, 0, none⟩) 11 11), v14, v15, v16, v17, v18, v19, v20, v21, v22, v23, v24, v25, v26, v6, (by simp only [puts, Act.put, List.setIfInBounds_toArray, List.set_cons_succ, List.set_cons_zero] <;> rfl), ⟨q', (by simpa using hq'), HT.alloc _⟩, (fun _ => fun _ => ⟨W.heap.size, rfl, Blk.new _ _ _, HT.lt⟩), (fun h => F1 (by simpa using h)), (fun h => F2 (by simpa using h)), (fun h h4 => (F3 (by simpa using h) (by simpa using h4)).imp fun b h => h.imp fun z ⟨e, hb, hl, hz⟩ => ⟨e, hM _ _ _ hl hb, hl, hz⟩), (fun h => F4 (by simpa using h)), (fun h => F5 (by simpa using h)), (fun h => F6 (by simpa using h)), (fun h => F7 (by simpa using h)), (fun h => F8 (by simpa using h)), (fun h => F9 (by simpa using h)), (fun h => F10 (by simpa using h)), (fun h => F11 (by simpa using h)), (fun h => F12 (by simpa using h)), (fun h => F13 (by simpa using h)), (fun h => by obtain ⟨sb, k, i, f, t, e, hs, hb⟩ := F14 (by simpa using h); exact ⟨sb, k, i, f, t, e, hs, hM _ _ _ (by omega) hb⟩)⟩
      · go_simp
        have hM : ∀ b t cs, g < b → Blk W b t cs → Blk W b t cs := fun _ _ _ _ h => h
        refine hK _ _ ?_
        refine ⟨v13, (.pointer (some ⟨g, 0, none⟩)), v15, v16, v17, v18, v19, v20, v21, v22, v23, v24, v25, v26, v6, (by simp only [puts, Act.put, List.setIfInBounds_toArray, List.set_cons_succ, List.set_cons_zero] <;> rfl), ⟨q', (by simpa using hq'), HT⟩, (fun h h3 => (F0 (by simpa using h) (by simpa using h3)).imp fun b ⟨e, hb, hl⟩ => ⟨e, hM _ _ _ hl hb, hl⟩), (fun _ => rfl), (fun h => F2 (by simpa using h)), (fun h h4 => (F3 (by simpa using h) (by simpa using h4)).imp fun b h => h.imp fun z ⟨e, hb, hl, hz⟩ => ⟨e, hM _ _ _ hl hb, hl, hz⟩), (fun h => F4 (by simpa using h)), (fun h => F5 (by simpa using h)), (fun h => F6 (by simpa using h)), (fun h => F7 (by simpa using h)), (fun h => F8 (by simpa using h)), (fun h => F9 (by simpa using h)), (fun h => F10 (by simpa using h)), (fun h => F11 (by simpa using h)), (fun h => F12 (by simpa using h)), (fun h => F13 (by simpa using h)), (fun h => by obtain ⟨sb, k, i, f, t, e, hs, hb⟩ := F14 (by simpa using h); exact ⟨sb, k, i, f, t, e, hs, hM _ _ _ (by omega) hb⟩)⟩
      · obtain rfl := F1 (by simp [hdep])
        go_simp
        go_at_call 45
        refine (pickT (w := w1) (g := g) (q := q') (m := 11) HT (by have a1 := Bool.toNat_le (D 2); have a2 := Bool.toNat_le (D 6); have a3 := Bool.toNat_le (D 11); omega) (by decide)).mono ?_
        rintro e W' ⟨v, rfl, ⟨va, vb⟩, HT', hg⟩
        have hM : ∀ b t cs, g < b → Blk W b t cs → Blk W' b t cs := fun b t cs hl h => Blk.only h hg (by omega)
        (try go_simp)
        refine hK _ _ ?_
        refine ⟨v13, (.pointer (some ⟨g, 0, none⟩)), (.int .i64 v), v16, v17, v18, v19, v20, v21, v22, v23, v24, v25, v26, v6, (by simp only [puts, Act.put, List.setIfInBounds_toArray, List.set_cons_succ, List.set_cons_zero] <;> rfl), ⟨q' + 1, (by simp [hD] at hq' ⊢; omega), HT'⟩, (fun h h3 => (F0 (by simpa using h) (by simpa using h3)).imp fun b ⟨e, hb, hl⟩ => ⟨e, hM _ _ _ hl hb, hl⟩), (fun h => F1 (by simpa using h)), (fun _ => ⟨v, rfl, va, vb⟩), (fun h h4 => (F3 (by simpa using h) (by simpa using h4)).imp fun b h => h.imp fun z ⟨e, hb, hl, hz⟩ => ⟨e, hM _ _ _ hl hb, hl, hz⟩), (fun h => F4 (by simpa using h)), (fun h => F5 (by simpa using h)), (fun h => F6 (by simpa using h)), (fun h => F7 (by simpa using h)), (fun h => F8 (by simpa using h)), (fun h => F9 (by simpa using h)), (fun h => F10 (by simpa using h)), (fun h => F11 (by simpa using h)), (fun h => F12 (by simpa using h)), (fun h => F13 (by simpa using h)), (fun h => by obtain ⟨sb, k, i, f, t, e, hs, hb⟩ := F14 (by simpa using h); exact ⟨sb, k, i, f, t, e, hs, hM _ _ _ (by omega) hb⟩)⟩
      · obtain ⟨d0, d2⟩ : D 0 = true ∧ D 2 = true := by simpa using hdep
        obtain ⟨b, rfl, hb, hl⟩ := F0 d0 hD
        obtain ⟨z, rfl, hz0, hz1⟩ := F2 d2
        go_simp
        have hM : ∀ b t cs, g < b → Blk W b t cs → Blk W b t cs := fun _ _ _ _ h => h
        refine hK _ _ ?_
        refine ⟨(.slice (some ⟨b, 0, none⟩) 11 11), v14, (.int .i64 z), (.pointer (some ⟨b, z.toNat, none⟩)), v17, v18, v19, v20, v21, v22, v23, v24, v25, v26, v6, (by simp only [puts, Act.put, List.setIfInBounds_toArray, List.set_cons_succ, List.set_cons_zero] <;> rfl), ⟨q', (by simpa using hq'), HT⟩, (fun h h3 => absurd h3 (by simp [hdep])), (fun h => F1 (by simpa using h)), (fun h => F2 (by simpa using h)), (fun _ => fun _ => ⟨b, z, rfl, hb, hl, hz0, hz1⟩), (fun h => F4 (by simpa using h)), (fun h => F5 (by simpa using h)), (fun h => F6 (by simpa using h)), (fun h => F7 (by simpa using h)), (fun h => F8 (by simpa using h)), (fun h => F9 (by simpa using h)), (fun h => F10 (by simpa using h)), (fun h => F11 (by simpa using h)), (fun h => F12 (by simpa using h)), (fun h => F13 (by simpa using h)), (fun h => by obtain ⟨sb, k, i, f, t, e, hs, hb⟩ := F14 (by simpa using h); exact ⟨sb, k, i, f, t, e, hs, hM _ _ _ (by omega) hb⟩)⟩
      · have d3 : D 3 = true := by simpa using hdep
        obtain ⟨b, z, rfl, hb, hl, hz0, hz1⟩ := F3 d3 hD
        have hc : W.cell? ⟨b, z.toNat, none⟩ = some (.int .i64 (tkAt z)) := (hb.cell z.toNat).trans (tkAt_some z hz0 hz1)
        go_simp
        have hM : ∀ b t cs, g < b → Blk W b t cs → Blk W b t cs := fun _ _ _ _ h => h
        refine hK _ _ ?_
        refine ⟨v13, v14, v15, (.pointer (some ⟨b, z.toNat, none⟩)), (.int .i64 (tkAt z)), v18, v19, v20, v21, v22, v23, v24, v25, v26, v6, (by simp only [puts, Act.put, List.setIfInBounds_toArray, List.set_cons_succ, List.set_cons_zero] <;> rfl), ⟨q', (by simpa using hq'), HT⟩, (fun h h3 => (F0 (by simpa using h) (by simpa using h3)).imp fun b ⟨e, hb, hl⟩ => ⟨e, hM _ _ _ hl hb, hl⟩), (fun h => F1 (by simpa using h)), (fun h => F2 (by simpa using h)), (fun h h4 => absurd h4 (by simp [hdep])), (fun _ => ⟨_, rfl⟩), (fun h => F5 (by simpa using h)), (fun h => F6 (by simpa using h)), (fun h => F7 (by simpa using h)), (fun h => F8 (by simpa using h)), (fun h => F9 (by simpa using h)), (fun h => F10 (by simpa using h)), (fun h => F11 (by simpa using h)), (fun h => F12 (by simpa using h)), (fun h => F13 (by simpa using h)), (fun h => by obtain ⟨sb, k, i, f, t, e, hs, hb⟩ := F14 (by simpa using h); exact ⟨sb, k, i, f, t, e, hs, hM _ _ _ (by omega) hb⟩)⟩
      · go_simp
        have hM : ∀ b t cs, g < b → Blk W b t cs → Blk W b t cs := fun _ _ _ _ h => h
        refine hK _ _ ?_
        refine ⟨v13, v14, v15, v16, v17, (.pointer (some ⟨g, 0, none⟩)), v19, v20, v21, v22, v23, v24, v25, v26, v6, (by simp only [puts, Act.put, List.setIfInBounds_toArray, List.set_cons_succ, List.set_cons_zero] <;> rfl), ⟨q', (by simpa using hq'), HT⟩, (fun h h3 => (F0 (by simpa using h) (by simpa using h3)).imp fun b ⟨e, hb, hl⟩ => ⟨e, hM _ _ _ hl hb, hl⟩), (fun h => F1 (by simpa using h)), (fun h => F2 (by simpa using h)), (fun h h4 => (F3 (by simpa using h) (by simpa using h4)).imp fun b h => h.imp fun z ⟨e, hb, hl, hz⟩ => ⟨e, hM _ _ _ hl hb, hl, hz⟩), (fun h => F4 (by simpa using h)), (fun _ => rfl), (fun h => F6 (by simpa using h)), (fun h => F7 (by simpa using h)), (fun h => F8 (by simpa using h)), (fun h => F9 (by simpa using h)), (fun h => F10 (by simpa using h)), (fun h => F11 (by simpa using h)), (fun h => F12 (by simpa using h)), (fun h => F13 (by simpa using h)), (fun h => by obtain ⟨sb, k, i, f, t, e, hs, hb⟩ := F14 (by simpa using h); exact ⟨sb, k, i, f, t, e, hs, hM _ _ _ (by omega) hb⟩)⟩
      · obtain rfl := F5 (by simp [hdep])
        go_simp
        go_at_call 45
        refine (pickT (w := w1) (g := g) (q := q') (m := 50) HT (by have a1 := Bool.toNat_le (D 2); have a2 := Bool.toNat_le (D 6); have a3 := Bool.toNat_le (D 11); omega) (by decide)).mono ?_
        rintro e W' ⟨v, rfl, ⟨va, vb⟩, HT', hg⟩
        have hM : ∀ b t cs, g < b → Blk W b t cs → Blk W' b t cs := fun b t cs hl h => Blk.only h hg (by omega)
        (try go_simp)
        refine hK _ _ ?_
        refine ⟨v13, v14, v15, v16, v17, (.pointer (some ⟨g, 0, none⟩)), (.int .i64 v), v20, v21, v22, v23, v24, v25, v26, v6, (by simp only [puts, Act.put, List.setIfInBounds_toArray, List.set_cons_succ, List.set_cons_zero] <;> rfl), ⟨q' + 1, (by simp [hD] at hq' ⊢; omega), HT'⟩, (fun h h3 => (F0 (by simpa using h) (by simpa using h3)).imp fun b ⟨e, hb, hl⟩ => ⟨e, hM _ _ _ hl hb, hl⟩), (fun h => F1 (by simpa using h)), (fun h => F2 (by simpa using h)), (fun h h4 => (F3 (by simpa using h) (by simpa using h4)).imp fun b h => h.imp fun z ⟨e, hb, hl, hz⟩ => ⟨e, hM _ _ _ hl hb, hl, hz⟩), (fun h => F4 (by simpa using h)), (fun h => F5 (by simpa using h)), (fun _ => ⟨v, rfl⟩), (fun h => F7 (by simpa using h)), (fun h => F8 (by simpa using h)), (fun h => F9 (by simpa using h)), (fun h => F10 (by simpa using h)), (fun h => F11 (by simpa using h)), (fun h => F12 (by simpa using h)), (fun h => F13 (by simpa using h)), (fun h => by obtain ⟨sb, k, i, f, t, e, hs, hb⟩ := F14 (by simpa using h); exact ⟨sb, k, i, f, t, e, hs, hM _ _ _ (by omega) hb⟩)⟩
      · have d6 : D 6 = true := by simpa using hdep
        obtain ⟨z6, rfl⟩ := F6 d6
        go_simp
        have hM : ∀ b t cs, g < b → Blk W b t cs → Blk W b t cs := fun _ _ _ _ h => h
        refine hK _ _ ?_
        refine ⟨v13, v14, v15, v16, v17, v18, (.int .i64 z6), _, v21, v22, v23, v24, v25, v26, v6, (by simp only [puts, Act.put, List.setIfInBounds_toArray, List.set_cons_succ, List.set_cons_zero] <;> rfl), ⟨q', (by simpa using hq'), HT⟩, (fun h h3 => (F0 (by simpa using h) (by simpa using h3)).imp fun b ⟨e, hb, hl⟩ => ⟨e, hM _ _ _ hl hb, hl⟩), (fun h => F1 (by simpa using h)), (fun h => F2 (by simpa using h)), (fun h h4 => (F3 (by simpa using h) (by simpa using h4)).imp fun b h => h.imp fun z ⟨e, hb, hl, hz⟩ => ⟨e, hM _ _ _ hl hb, hl, hz⟩), (fun h => F4 (by simpa using h)), (fun h => F5 (by simpa using h)), (fun h => F6 (by simpa using h)), (fun _ => ⟨_, rfl⟩), (fun h => F8 (by simpa using h)), (fun h => F9 (by simpa using h)), (fun h => F10 (by simpa using h)), (fun h => F11 (by simpa using h)), (fun h => F12 (by simpa using h)), (fun h => F13 (by simpa using h)), (fun h => by obtain ⟨sb, k, i, f, t, e, hs, hb⟩ := F14 (by simpa using h); exact ⟨sb, k, i, f, t, e, hs, hM _ _ _ (by omega) hb⟩)⟩
      · have d7 : D 7 = true := by simpa using hdep
        obtain ⟨z7, rfl⟩ := F7 d7
        go_simp
        have hM : ∀ b t cs, g < b → Blk W b t cs → Blk W b t cs := fun _ _ _ _ h => h
        refine hK _ _ ?_
        refine ⟨v13, v14, v15, v16, v17, v18, v19, (.int .i64 z7), _, v22, v23, v24, v25, v26, v6, (by simp only [puts, Act.put, List.setIfInBounds_toArray, List.set_cons_succ, List.set_cons_zero] <;> rfl), ⟨q', (by simpa using hq'), HT⟩, (fun h h3 => (F0 (by simpa using h) (by simpa using h3)).imp fun b ⟨e, hb, hl⟩ => ⟨e, hM _ _ _ hl hb, hl⟩), (fun h => F1 (by simpa using h)), (fun h => F2 (by simpa using h)), (fun h h4 => (F3 (by simpa using h) (by simpa using h4)).imp fun b h => h.imp fun z ⟨e, hb, hl, hz⟩ => ⟨e, hM _ _ _ hl hb, hl, hz⟩), (fun h => F4 (by simpa using h)), (fun h => F5 (by simpa using h)), (fun h => F6 (by simpa using h)), (fun h => F7 (by simpa using h)), (fun _ => ⟨_, rfl⟩), (fun h => F9 (by simpa using h)), (fun h => F10 (by simpa using h)), (fun h => F11 (by simpa using h)), (fun h => F12 (by simpa using h)), (fun h => F13 (by simpa using h)), (fun h => by obtain ⟨sb, k, i, f, t, e, hs, hb⟩ := F14 (by simpa using h); exact ⟨sb, k, i, f, t, e, hs, hM _ _ _ (by omega) hb⟩)⟩
      · obtain ⟨d4, d8⟩ : D 4 = true ∧ D 8 = true := by simpa using hdep
        obtain ⟨z4, rfl⟩ := F4 d4
        obtain ⟨z8, rfl⟩ := F8 d8
        go_simp
        have hM : ∀ b t cs, g < b → Blk W b t cs → Blk W b t cs := fun _ _ _ _ h => h
        refine hK _ _ ?_
        refine ⟨v13, v14, v15, v16, (.int .i64 z4), v18, v19, v20, (.int .i64 z8), _, v23, v24, v25, v26, v6, (by simp only [puts, Act.put, List.setIfInBounds_toArray, List.set_cons_succ, List.set_cons_zero] <;> rfl), ⟨q', (by simpa using hq'), HT⟩, (fun h h3 => (F0 (by simpa using h) (by simpa using h3)).imp fun b ⟨e, hb, hl⟩ => ⟨e, hM _ _ _ hl hb, hl⟩), (fun h => F1 (by simpa using h)), (fun h => F2 (by simpa using h)), (fun h h4 => (F3 (by simpa using h) (by simpa using h4)).imp fun b h => h.imp fun z ⟨e, hb, hl, hz⟩ => ⟨e, hM _ _ _ hl hb, hl, hz⟩), (fun h => F4 (by simpa using h)), (fun h => F5 (by simpa using h)), (fun h => F6 (by simpa using h)), (fun h => F7 (by simpa using h)), (fun h => F8 (by simpa using h)), (fun _ => ⟨_, rfl⟩), (fun h => F10 (by simpa using h)), (fun h => F11 (by simpa using h)), (fun h => F12 (by simpa using h)), (fun h => F13 (by simpa using h)), (fun h => by obtain ⟨sb, k, i, f, t, e, hs, hb⟩ := F14 (by simpa using h); exact ⟨sb, k, i, f, t, e, hs, hM _ _ _ (by omega) hb⟩)⟩
      · go_simp
        have hM : ∀ b t cs, g < b → Blk W b t cs → Blk W b t cs := fun _ _ _ _ h => h
        refine hK _ _ ?_
        refine ⟨v13, v14, v15, v16, v17, v18, v19, v20, v21, v22, (.pointer (some ⟨g, 0, none⟩)), v24, v25, v26, v6, (by simp only [puts, Act.put, List.setIfInBounds_toArray, List.set_cons_succ, List.set_cons_zero] <;> rfl), ⟨q', (by simpa using hq'), HT⟩, (fun h h3 => (F0 (by simpa using h) (by simpa using h3)).imp fun b ⟨e, hb, hl⟩ => ⟨e, hM _ _ _ hl hb, hl⟩), (fun h => F1 (by simpa using h)), (fun h => F2 (by simpa using h)), (fun h h4 => (F3 (by simpa using h) (by simpa using h4)).imp fun b h => h.imp fun z ⟨e, hb, hl, hz⟩ => ⟨e, hM _ _ _ hl hb, hl, hz⟩), (fun h => F4 (by simpa using h)), (fun h => F5 (by simpa using h)), (fun h => F6 (by simpa using h)), (fun h => F7 (by simpa using h)), (fun h => F8 (by simpa using h)), (fun h => F9 (by simpa using h)), (fun _ => rfl), (fun h => F11 (by simpa using h)), (fun h => F12 (by simpa using h)), (fun h => F13 (by simpa using h)), (fun h => by obtain ⟨sb, k, i, f, t, e, hs, hb⟩ := F14 (by simpa using h); exact ⟨sb, k, i, f, t, e, hs, hM _ _ _ (by omega) hb⟩)⟩
      · obtain rfl := F10 (by simp [hdep])
        go_simp
        go_at_call 45
        refine (pickT (w := w1) (g := g) (q := q') (m := 10) HT (by have a1 := Bool.toNat_le (D 2); have a2 := Bool.toNat_le (D 6); have a3 := Bool.toNat_le (D 11); omega) (by decide)).mono ?_
        rintro e W' ⟨v, rfl, ⟨va, vb⟩, HT', hg⟩
        have hM : ∀ b t cs, g < b → Blk W b t cs → Blk W' b t cs := fun b t cs hl h => Blk.only h hg (by omega)
        (try go_simp)
        refine hK _ _ ?_
        refine ⟨v13, v14, v15, v16, v17, v18, v19, v20, v21, v22, (.pointer (some ⟨g, 0, none⟩)), (.int .i64 v), v25, v26, v6, (by simp only [puts, Act.put, List.setIfInBounds_toArray, List.set_cons_succ, List.set_cons_zero] <;> rfl), ⟨q' + 1, (by simp [hD] at hq' ⊢; omega), HT'⟩, (fun h h3 => (F0 (by simpa using h) (by simpa using h3)).imp fun b ⟨e, hb, hl⟩ => ⟨e, hM _ _ _ hl hb, hl⟩), (fun h => F1 (by simpa using h)), (fun h => F2 (by simpa using h)), (fun h h4 => (F3 (by simpa using h) (by simpa using h4)).imp fun b h => h.imp fun z ⟨e, hb, hl, hz⟩ => ⟨e, hM _ _ _ hl hb, hl, hz⟩), (fun h => F4 (by simpa using h)), (fun h => F5 (by simpa using h)), (fun h => F6 (by simpa using h)), (fun h => F7 (by simpa using h)), (fun h => F8 (by simpa using h)), (fun h => F9 (by simpa using h)), (fun h => F10 (by simpa using h)), (fun _ => ⟨v, rfl⟩), (fun h => F12 (by simpa using h)), (fun h => F13 (by simpa using h)), (fun h => by obtain ⟨sb, k, i, f, t, e, hs, hb⟩ := F14 (by simpa using h); exact ⟨sb, k, i, f, t, e, hs, hM _ _ _ (by omega) hb⟩)⟩
      · have d11 : D 11 = true := by simpa using hdep
        obtain ⟨z11, rfl⟩ := F11 d11
        go_simp
        have hM : ∀ b t cs, g < b → Blk W b t cs → Blk W b t cs := fun _ _ _ _ h => h
        refine hK _ _ ?_
        refine ⟨v13, v14, v15, v16, v17, v18, v19, v20, v21, v22, v23, (.int .i64 z11), _, v26, v6, (by simp only [puts, Act.put, List.setIfInBounds_toArray, List.set_cons_succ, List.set_cons_zero] <;> rfl), ⟨q', (by simpa using hq'), HT⟩, (fun h h3 => (F0 (by simpa using h) (by simpa using h3)).imp fun b ⟨e, hb, hl⟩ => ⟨e, hM _ _ _ hl hb, hl⟩), (fun h => F1 (by simpa using h)), (fun h => F2 (by simpa using h)), (fun h h4 => (F3 (by simpa using h) (by simpa using h4)).imp fun b h => h.imp fun z ⟨e, hb, hl, hz⟩ => ⟨e, hM _ _ _ hl hb, hl, hz⟩), (fun h => F4 (by simpa using h)), (fun h => F5 (by simpa using h)), (fun h => F6 (by simpa using h)), (fun h => F7 (by simpa using h)), (fun h => F8 (by simpa using h)), (fun h => F9 (by simpa using h)), (fun h => F10 (by simpa using h)), (fun h => F11 (by simpa using h)), (fun _ => ⟨_, rfl⟩), (fun h => F13 (by simpa using h)), (fun h => by obtain ⟨sb, k, i, f, t, e, hs, hb⟩ := F14 (by simpa using h); exact ⟨sb, k, i, f, t, e, hs, hM _ _ _ (by omega) hb⟩)⟩
      · obtain ⟨d9, d12⟩ : D 9 = true ∧ D 12 = true := by simpa using hdep
        obtain ⟨z9, rfl⟩ := F9 d9
        obtain ⟨z12, rfl⟩ := F12 d12
        go_simp
        have hM : ∀ b t cs, g < b → Blk W b t cs → Blk W b t cs := fun _ _ _ _ h => h
        refine hK _ _ ?_
        refine ⟨v13, v14, v15, v16, v17, v18, v19, v20, v21, (.int .i64 z9), v23, v24, (.int .i64 z12), _, v6, (by simp only [puts, Act.put, List.setIfInBounds_toArray, List.set_cons_succ, List.set_cons_zero] <;> rfl), ⟨q', (by simpa using hq'), HT⟩, (fun h h3 => (F0 (by simpa using h) (by simpa using h3)).imp fun b ⟨e, hb, hl⟩ => ⟨e, hM _ _ _ hl hb, hl⟩), (fun h => F1 (by simpa using h)), (fun h => F2 (by simpa using h)), (fun h h4 => (F3 (by simpa using h) (by simpa using h4)).imp fun b h => h.imp fun z ⟨e, hb, hl, hz⟩ => ⟨e, hM _ _ _ hl hb, hl, hz⟩), (fun h => F4 (by simpa using h)), (fun h => F5 (by simpa using h)), (fun h => F6 (by simpa using h)), (fun h => F7 (by simpa using h)), (fun h => F8 (by simpa using h)), (fun h => F9 (by simpa using h)), (fun h => F10 (by simpa using h)), (fun h => F11 (by simpa using h)), (fun h => F12 (by simpa using h)), (fun _ => ⟨_, _, rfl⟩), (fun h => by obtain ⟨sb, k, i, f, t, e, hs, hb⟩ := F14 (by simpa using h); exact ⟨sb, k, i, f, t, e, hs, hM _ _ _ (by omega) hb⟩)⟩
      · go_simp
        have hM : ∀ b t cs, g < b → Blk W b t cs → Blk (W.alloc (.cells #[.int .i64 0, .int .i64 0, .int .i64 0, .int .i64 0] 81)) b t cs := fun b t cs _ h => h.alloc _
        refine hK _ _ ?_
        refine ⟨v13, v14, v15, v16, v17, v18, v19, v20, v21, v22, v23, v24, v25, v26, (.pointer (some ⟨W.heap.size, 0, none⟩)), (by simp only [puts, Act.put, List.setIfInBounds_toArray, List.set_cons_succ, List.set_cons_zero] <;> rfl), ⟨q', (by simpa using hq'), HT.alloc _⟩, (fun h h3 => (F0 (by simpa using h) (by simpa using h3)).imp fun b ⟨e, hb, hl⟩ => ⟨e, hM _ _ _ hl hb, hl⟩), (fun h => F1 (by simpa using h)), (fun h => F2 (by simpa using h)), (fun h h4 => (F3 (by simpa using h) (by simpa using h4)).imp fun b h => h.imp fun z ⟨e, hb, hl, hz⟩ => ⟨e, hM _ _ _ hl hb, hl, hz⟩), (fun h => F4 (by simpa using h)), (fun h => F5 (by simpa using h)), (fun h => F6 (by simpa using h)), (fun h => F7 (by simpa using h)), (fun h => F8 (by simpa using h)), (fun h => F9 (by simpa using h)), (fun h => F10 (by simpa using h)), (fun h => F11 (by simpa using h)), (fun h => F12 (by simpa using h)), (fun h => F13 (by simpa using h)), (fun _ => ⟨W.heap.size, _, _, _, _, rfl, HT.gr.size, Blk.new _ _ _⟩)⟩
      · obtain ⟨sb, k, i, f, t, rfl, hs, hb⟩ := F14 (by simp [hdep])
        obtain ⟨k', i', rfl⟩ := F13 (by simp [hdep])
        obtain rfl := F1 (by simp [hdep])
        obtain rfl := F5 (by simp [hdep])
        obtain rfl := F10 (by simp [hdep])
        have z0 := hb.cellAt 0 (by simp)
        have z1 := (hb.set_ 0 (.int .i64 k')).cellAt 1 (by simp)
        have z2 := ((hb.set_ 0 (.int .i64 k')).set_ 1 (.int .i64 i')).cellAt 2 (by simp)
        have z3 := (((hb.set_ 0 (.int .i64 k')).set_ 1 (.int .i64 i')).set_ 2 (.int .i64 0)).cellAt 3 (by simp)
        have f0 := hb.frozen 0
        have f1 := (hb.set_ 0 (.int .i64 k')).frozen 1
        have f2 := ((hb.set_ 0 (.int .i64 k')).set_ 1 (.int .i64 i')).frozen 2
        have f3 := (((hb.set_ 0 (.int .i64 k')).set_ 1 (.int .i64 i')).set_ 2 (.int .i64 0)).frozen 3
        simp only [List.set_cons_zero, List.set_cons_succ, List.getElem_cons_zero, List.getElem_cons_succ] at z0 z1 z2 z3
        go_simp
        refine hK _ _ ?_
        refine ⟨v13, (.pointer (some ⟨g, 0, none⟩)), v15, v16, v17, (.pointer (some ⟨g, 0, none⟩)), v19, v20, v21, v22, (.pointer (some ⟨g, 0, none⟩)), v24, v25, (.agg #[.int .i64 k', .int .i64 i', .int .i64 0, .int .i64 0]), (.pointer (some ⟨sb, 0, none⟩)), (by simp only [puts, Act.put, List.setIfInBounds_toArray, List.set_cons_succ, List.set_cons_zero] <;> rfl), ⟨q', (by simpa using hq'), (((HT.set sb 0 _ hs (by omega)).set sb 1 _ hs (by omega)).set sb 2 _ hs (by omega)).set sb 3 _ hs (by omega)⟩, (fun h h3 => absurd h3 (by simp [hdep])), (fun h => F1 (by simpa using h)), (fun h => F2 (by simpa using h)), (fun h h4 => absurd h4 (by simp [hdep])), (fun h => F4 (by simpa using h)), (fun h => F5 (by simpa using h)), (fun h => F6 (by simpa using h)), (fun h => F7 (by simpa using h)), (fun h => F8 (by simpa using h)), (fun h => F9 (by simpa using h)), (fun h => F10 (by simpa using h)), (fun h => F11 (by simpa using h)), (fun h => F12 (by simpa using h)), (fun h => F13 (by simpa using h)), (fun _ => ⟨sb, k', i', 0, 0, rfl, hs, (((hb.set_ 0 _).set_ 1 _).set_ 2 _).set_ 3 _⟩)⟩
    · rintro D a W hall ⟨v13, v14, v15, v16, v17, v18, v19, v20, v21, v22, v23, v24, v25, v26, v6, rfl, ⟨q', hq', HT⟩, _, _, _, _, _, _, _, _, _, _, _, _, _, _, F14⟩
      obtain ⟨sb, k, i, f, t, rfl, hs, hb⟩ := F14 (hall 14 (by simp))
      simp only [puts, Act.put, List.setIfInBounds_toArray, List.set_cons_succ, List.set_cons_zero]
      go_wp2_with fail
      go_meet
      exact ⟨sb, k, i, f, t, rfl, hs, hb, q', (by have a1 := Bool.toNat_le (D 2); have a2 := Bool.toNat_le (D 6); have a3 := Bool.toNat_le (D 11); omega), HT⟩
  case rest =>
    obtain ⟨sb, k, i, f, t, rfl, hs, hb, q1, hq1, HT⟩ := hcut
    have HX := Lib.hid HT
    have HB := Lib.hid hb
    have hgs : g < sb := by omega
    have hy1 : (1 : Int) ≤ max (yn : Int) 1 := by omega
    have hy2 : max (yn : Int) 1 ≤ 1000000000 := by omega
    generalize max (yn : Int) 1 = my at *
    clear HT hb HD0
    go_wp2_with fail
    refine (pickT (m := my) (HX.out) (by omega) (by omega)).mono ?_
    rintro e W2 ⟨v2, rfl, ⟨va2, vb2⟩, ht2, hg2⟩
    have HB2 := Lib.hid ((HB.out).only hg2 (by omega))
    have HX2 := Lib.hid ht2
    clear ht2 hg2
    clear HX HB
    go_wp2_with fail
    refine (pickT (m := 40) (HX2.out) (by omega) (by omega)).mono ?_
    rintro e W3 ⟨v3, rfl, ⟨va3, vb3⟩, ht3, hg3⟩
    have HB3 := Lib.hid ((HB2.out).only hg3 (by omega))
    have HX3 := Lib.hid ht3
    clear ht3 hg3
    clear HX2 HB2
    have x2 := (HB3.out).cellAt 2 (by simp)
    have xf2 := (HB3.out).frozen 2
    simp only [List.getElem_cons_zero, List.getElem_cons_succ] at x2
    go_wp2_with fail
    have HB4 := Lib.hid (HB3.out.set_ 2 (.int .i64 (v2 + v3 / 39 * 5)))
    have HX4 := Lib.hid (HX3.out.set sb 2 (.int .i64 (v2 + v3 / 39 * 5)) hs hgs)
    simp only [List.set_cons_zero, List.set_cons_succ] at HB4
    generalize W3.setCell ⟨sb, 2, none⟩ (.int .i64 (v2 + v3 / 39 * 5)) = W4 at *
    generalize v2 + v3 / 39 * 5 = f2 at *
    clear x2 xf2 va2 vb2 va3 vb3 HX3 HB3
    refine (pickT (m := my) (HX4.out) (by omega) (by omega)).mono ?_
    rintro e W5 ⟨v5, rfl, ⟨va5, vb5⟩, ht5, hg5⟩
    have HB5 := Lib.hid ((HB4.out).only hg5 (by omega))
    have HX5 := Lib.hid ht5
    clear ht5 hg5
    clear HX4 HB4
    go_wp2_with fail
    refine (pickT (m := 40) (HX5.out) (by omega) (by omega)).mono ?_
    rintro e W6 ⟨v6, rfl, ⟨va6, vb6⟩, ht6, hg6⟩
    have HB6 := Lib.hid ((HB5.out).only hg6 (by omega))
    have HX6 := Lib.hid ht6
    clear ht6 hg6
    clear HX5 HB5
    have x3 := (HB6.out).cellAt 3 (by simp)
    have xf3 := (HB6.out).frozen 3
    simp only [List.getElem_cons_zero, List.getElem_cons_succ] at x3
    go_upto_region 5 with fail
    have HB7 := Lib.hid (HB6.out.set_ 3 (.int .i64 (v5 + v6 / 39 * 5)))
    have HX7 := Lib.hid (HX6.out.set sb 3 (.int .i64 (v5 + v6 / 39 * 5)) hs hgs)
    simp only [List.set_cons_zero, List.set_cons_succ] at HB7
    generalize W6.setCell ⟨sb, 3, none⟩ (.int .i64 (v5 + v6 / 39 * 5)) = W7 at *
    generalize v5 + v6 / 39 * 5 = t2 at *
    clear x3 xf3 va5 vb5 va6 vb6 HX6 HB6
    have P7 := HP.out.only HX7.out.gr (by omega)
    have hgw := only_trans (only_below HAL.out g) HX7.out.gr
    have x0 := (HB7.out).cellAt 0 (by simp)
    have xf0 := (HB7.out).frozen 0
    simp only [List.getElem_cons_zero, List.getElem_cons_succ] at x0
    by_cases h2 : k = 2
    · subst h2
      have p2 := P7.cellAt 2 (by simp)
      have p3 := P7.cellAt 3 (by simp)
      have p4 := P7.cellAt 4 (by simp)
      have p5 := P7.cellAt 5 (by simp)
      have p6 := P7.cellAt 6 (by simp)
      simp only [List.getElem_cons_zero, List.getElem_cons_succ] at p2 p3 p4 p5 p6
      have hh := P7.lt
      have TW := T1.out W7 hgw
      go_wp2_with fail
      refine (specPlanNext ⟨y0, y1, y2⟩ BA PA bn bc pn pc bs plan W7 TW.bl TW.br TW.bk (by omega) TW.pl TW.pr TW.pk TW.px).mono ?_
      rintro e W8 ⟨_, rfl, LB, lk, ld, zs, rfl, hk36, hzl, hown, hbel, _, _⟩
      have HX8 := Lib.hid (HX7.out.below hbel)
      have HB8 := Lib.hid (HB7.out.later hbel)
      have hgl8 : g < W7.heap.size := HX7.out.lt
      have HO := Lib.hid hown
      have HZ := Lib.hid hzl
      clear TW p2 p3 p4 p5 p6 P7 hgw hbel hown hzl HX7 HB7 x0 xf0 hh
      by_cases hlk : 0 < lk
      · have hlk1 : (0 : Int) < (lk : Int) := by omega
        go_wp2_with fail
        refine (pickT (m := (lk : Int)) (HX8.out) (by omega) (by omega)).mono ?_
        rintro e W9 ⟨v9, rfl, ⟨va9, vb9⟩, ht9, hg9⟩
        have HB9 := Lib.hid ((HB8.out).only hg9 (by omega))
        have HX9 := Lib.hid ht9
        have HX9g := hg9
        clear ht9 hg9
        have HO9 := Lib.hid (own_only HO.out HX9g (own_ne HO.out hgl8))
        obtain ⟨vn, rfl⟩ := Int.eq_ofNat_of_zero_le va9
        have hvn : vn < zs.length := by rw [HZ.out]; omega
        obtain ⟨b9, o9, rfl, hl9, hc9⟩ := ints_cellP (own_rd HO9.out) hvn
        have hc := hc9 vn hvn
        generalize zs[vn] = zv at *
        clear hc9 HX8 HB8 HO HO9
        have x3 := (HB9.out).cellAt 3 (by simp)
        have xf3 := (HB9.out).frozen 3
        simp only [List.getElem_cons_zero, List.getElem_cons_succ] at x3
        go_upto_region 15 with fail
        have HB10 := Lib.hid (HB9.out.set_ 3 (.int .i64 (zv)))
        have HX10 := Lib.hid (HX9.out.set sb 3 (.int .i64 (zv)) hs hgs)
        simp only [List.set_cons_zero, List.set_cons_succ] at HB10
        generalize W9.setCell ⟨sb, 3, none⟩ (.int .i64 (zv)) = W10 at *
        clear x3 xf3 HX9 HB9
        have RR := (HR.out).only (HX10.out).gr (by omega)
        have y0 := (HB10.out).cellAt 0 (by simp)
        have y1 := (HB10.out).cellAt 1 (by simp)
        have y2 := (HB10.out).cellAt 2 (by simp)
        have y3 := (HB10.out).cellAt 3 (by simp)
        simp only [List.getElem_cons_zero, List.getElem_cons_succ, List.set_cons_zero, List.set_cons_succ] at y0 y1 y2 y3
        have z0 := (RR).cellAt 0 (by simp)
        have zf0 := (RR).frozen 0
        have z1 := ((RR).set_ 0 (.int .i64 (2))).cellAt 1 (by simp)
        have zf1 := ((RR).set_ 0 (.int .i64 (2))).frozen 1
        have z2 := (((RR).set_ 0 (.int .i64 (2))).set_ 1 (.int .i64 (i))).cellAt 2 (by simp)
        have zf2 := (((RR).set_ 0 (.int .i64 (2))).set_ 1 (.int .i64 (i))).frozen 2
        have z3 := ((((RR).set_ 0 (.int .i64 (2))).set_ 1 (.int .i64 (i))).set_ 2 (.int .i64 (f2))).cellAt 3 (by simp)
        have zf3 := ((((RR).set_ 0 (.int .i64 (2))).set_ 1 (.int .i64 (i))).set_ 2 (.int .i64 (f2))).frozen 3
        have EE := ((((RR).set_ 0 (.int .i64 (2))).set_ 1 (.int .i64 (i))).set_ 2 (.int .i64 (f2))).set_ 3 (.int .i64 (zv))
        have e0 := EE.cellAt 0 (by simp)
        have e1 := EE.cellAt 1 (by simp)
        have e2 := EE.cellAt 2 (by simp)
        have e3 := EE.cellAt 3 (by simp)
        simp only [List.set_cons_zero, List.set_cons_succ, List.getElem_cons_zero, List.getElem_cons_succ] at z0 z1 z2 z3 e0 e1 e2 e3
        have HGG := Lib.hid (only_trans (only_below HAL.out g) (HX10.out).gr)
        have HRD := Lib.hid (HX10.out).rd
        clear EE RR
        go_wp2_with fail
        refine bodyPost_ret (v := .agg #[.int .i64 (2), .int .i64 (i), .int .i64 (f2), .int .i64 (zv)]) (by simp [results, Tryz.results54, go_sem, e0, e1, e2, e3]) rfl ?_
        refine RVal.mk ⟨_, _, _, _, rfl, q1 + 1 + 1 + 1 + 1 + 1, (by omega), ?_, ?_⟩
        · exact (((HRD.out.setT (w.heap.size + 1) 0 _ (by omega)).setT (w.heap.size + 1) 1 _ (by omega)).setT (w.heap.size + 1) 2 _ (by omega)).setT (w.heap.size + 1) 3 _ (by omega)
        · exact onlyT_set (onlyT_set (onlyT_set (onlyT_set HGG.out (by omega)) (by omega)) (by omega)) (by omega)
      · have hlk1 : ¬ (0 : Int) < (lk : Int) := by omega
        go_upto_region 15 with fail
        have RR := (HR.out).only (HX8.out).gr (by omega)
        have y0 := (HB8.out).cellAt 0 (by simp)
        have y1 := (HB8.out).cellAt 1 (by simp)
        have y2 := (HB8.out).cellAt 2 (by simp)
        have y3 := (HB8.out).cellAt 3 (by simp)
        simp only [List.getElem_cons_zero, List.getElem_cons_succ, List.set_cons_zero, List.set_cons_succ] at y0 y1 y2 y3
        have z0 := (RR).cellAt 0 (by simp)
        have zf0 := (RR).frozen 0
        have z1 := ((RR).set_ 0 (.int .i64 (2))).cellAt 1 (by simp)
        have zf1 := ((RR).set_ 0 (.int .i64 (2))).frozen 1
        have z2 := (((RR).set_ 0 (.int .i64 (2))).set_ 1 (.int .i64 (i))).cellAt 2 (by simp)
        have zf2 := (((RR).set_ 0 (.int .i64 (2))).set_ 1 (.int .i64 (i))).frozen 2
        have z3 := ((((RR).set_ 0 (.int .i64 (2))).set_ 1 (.int .i64 (i))).set_ 2 (.int .i64 (f2))).cellAt 3 (by simp)
        have zf3 := ((((RR).set_ 0 (.int .i64 (2))).set_ 1 (.int .i64 (i))).set_ 2 (.int .i64 (f2))).frozen 3
        have EE := ((((RR).set_ 0 (.int .i64 (2))).set_ 1 (.int .i64 (i))).set_ 2 (.int .i64 (f2))).set_ 3 (.int .i64 (t2))
        have e0 := EE.cellAt 0 (by simp)
        have e1 := EE.cellAt 1 (by simp)
        have e2 := EE.cellAt 2 (by simp)
        have e3 := EE.cellAt 3 (by simp)
        simp only [List.set_cons_zero, List.set_cons_succ, List.getElem_cons_zero, List.getElem_cons_succ] at z0 z1 z2 z3 e0 e1 e2 e3
        have HGG := Lib.hid (only_trans (only_below HAL.out g) (HX8.out).gr)
        have HRD := Lib.hid (HX8.out).rd
        clear EE RR
        go_wp2_with fail
        refine bodyPost_ret (v := .agg #[.int .i64 (2), .int .i64 (i), .int .i64 (f2), .int .i64 (t2)]) (by simp [results, Tryz.results54, go_sem, e0, e1, e2, e3]) rfl ?_
        refine RVal.mk ⟨_, _, _, _, rfl, q1 + 1 + 1 + 1 + 1, (by omega), ?_, ?_⟩
        · exact (((HRD.out.setT (w.heap.size + 1) 0 _ (by omega)).setT (w.heap.size + 1) 1 _ (by omega)).setT (w.heap.size + 1) 2 _ (by omega)).setT (w.heap.size + 1) 3 _ (by omega)
        · exact onlyT_set (onlyT_set (onlyT_set (onlyT_set HGG.out (by omega)) (by omega)) (by omega)) (by omega)
    by_cases h3 : k = 3
    · subst h3
      have p6 := P7.cellAt 6 (by simp)
      simp only [List.getElem_cons_zero, List.getElem_cons_succ] at p6
      have hh := P7.lt
      have hz1 : (1 : Int) ≤ max (pn : Int) 1 := by omega
      have hz2 : max (pn : Int) 1 ≤ 1000000000 := by omega
      go_wp2_with fail
      generalize max (pn : Int) 1 = mp at *
      refine (pickT (m := mp) (HX7.out) (by omega) (by omega)).mono ?_
      rintro e W9 ⟨v9, rfl, ⟨va9, vb9⟩, ht9, hg9⟩
      have HB9 := Lib.hid ((HB7.out).only hg9 (by omega))
      have HX9 := Lib.hid ht9
      clear ht9 hg9
      have x2 := (HB9.out).cellAt 2 (by simp)
      have xf2 := (HB9.out).frozen 2
      simp only [List.getElem_cons_zero, List.getElem_cons_succ] at x2
      clear p6 P7 hgw HX7 HB7 x0 xf0 hh
      go_upto_region 15 with fail
      have HB10 := Lib.hid (HB9.out.set_ 2 (.int .i64 (v9)))
      have HX10 := Lib.hid (HX9.out.set sb 2 (.int .i64 (v9)) hs hgs)
      simp only [List.set_cons_zero, List.set_cons_succ] at HB10
      generalize W9.setCell ⟨sb, 2, none⟩ (.int .i64 (v9)) = W10 at *
      clear x2 xf2 HX9 HB9
      have RR := (HR.out).only (HX10.out).gr (by omega)
      have y0 := (HB10.out).cellAt 0 (by simp)
      have y1 := (HB10.out).cellAt 1 (by simp)
      have y2 := (HB10.out).cellAt 2 (by simp)
      have y3 := (HB10.out).cellAt 3 (by simp)
      simp only [List.getElem_cons_zero, List.getElem_cons_succ, List.set_cons_zero, List.set_cons_succ] at y0 y1 y2 y3
      have z0 := (RR).cellAt 0 (by simp)
      have zf0 := (RR).frozen 0
      have z1 := ((RR).set_ 0 (.int .i64 (3))).cellAt 1 (by simp)
      have zf1 := ((RR).set_ 0 (.int .i64 (3))).frozen 1
      have z2 := (((RR).set_ 0 (.int .i64 (3))).set_ 1 (.int .i64 (i))).cellAt 2 (by simp)
      have zf2 := (((RR).set_ 0 (.int .i64 (3))).set_ 1 (.int .i64 (i))).frozen 2
      have z3 := ((((RR).set_ 0 (.int .i64 (3))).set_ 1 (.int .i64 (i))).set_ 2 (.int .i64 (v9))).cellAt 3 (by simp)
      have zf3 := ((((RR).set_ 0 (.int .i64 (3))).set_ 1 (.int .i64 (i))).set_ 2 (.int .i64 (v9))).frozen 3
      have EE := ((((RR).set_ 0 (.int .i64 (3))).set_ 1 (.int .i64 (i))).set_ 2 (.int .i64 (v9))).set_ 3 (.int .i64 (t2))
      have e0 := EE.cellAt 0 (by simp)
      have e1 := EE.cellAt 1 (by simp)
      have e2 := EE.cellAt 2 (by simp)
      have e3 := EE.cellAt 3 (by simp)
      simp only [List.set_cons_zero, List.set_cons_succ, List.getElem_cons_zero, List.getElem_cons_succ] at z0 z1 z2 z3 e0 e1 e2 e3
      have HGG := Lib.hid (only_trans (only_below HAL.out g) (HX10.out).gr)
      have HRD := Lib.hid (HX10.out).rd
      clear EE RR
      go_wp2_with fail
      refine bodyPost_ret (v := .agg #[.int .i64 (3), .int .i64 (i), .int .i64 (v9), .int .i64 (t2)]) (by simp [results, Tryz.results54, go_sem, e0, e1, e2, e3]) rfl ?_
      refine RVal.mk ⟨_, _, _, _, rfl, q1 + 1 + 1 + 1 + 1 + 1, (by omega), ?_, ?_⟩
      · exact (((HRD.out.setT (w.heap.size + 1) 0 _ (by omega)).setT (w.heap.size + 1) 1 _ (by omega)).setT (w.heap.size + 1) 2 _ (by omega)).setT (w.heap.size + 1) 3 _ (by omega)
      · exact onlyT_set (onlyT_set (onlyT_set (onlyT_set HGG.out (by omega)) (by omega)) (by omega)) (by omega)
    by_cases h5 : k = 5
    · subst h5
      go_wp2_with fail
      refine (pickT (m := 3) (HX7.out) (by omega) (by omega)).mono ?_
      rintro e W9 ⟨v9, rfl, ⟨va9, vb9⟩, ht9, hg9⟩
      have HB9 := Lib.hid ((HB7.out).only hg9 (by omega))
      have HX9 := Lib.hid ht9
      clear ht9 hg9
      go_wp2_with fail
      refine (pickT (m := 40) (HX9.out) (by omega) (by omega)).mono ?_
      rintro e W11 ⟨v11, rfl, ⟨va11, vb11⟩, ht11, hg11⟩
      have HB11 := Lib.hid ((HB9.out).only hg11 (by omega))
      have HX11 := Lib.hid ht11
      clear ht11 hg11
      have x3 := (HB11.out).cellAt 3 (by simp)
      have xf3 := (HB11.out).frozen 3
      simp only [List.getElem_cons_zero, List.getElem_cons_succ] at x3
      clear P7 hgw HX7 HB7 x0 xf0 HX9 HB9
      go_upto_region 15 with fail
      have HB12 := Lib.hid (HB11.out.set_ 3 (.int .i64 (v9 + v11 / 39 * 3)))
      have HX12 := Lib.hid (HX11.out.set sb 3 (.int .i64 (v9 + v11 / 39 * 3)) hs hgs)
      simp only [List.set_cons_zero, List.set_cons_succ] at HB12
      generalize W11.setCell ⟨sb, 3, none⟩ (.int .i64 (v9 + v11 / 39 * 3)) = W12 at *
      generalize v9 + v11 / 39 * 3 = t3 at *
      clear x3 xf3 HX11 HB11
      have RR := (HR.out).only (HX12.out).gr (by omega)
      have y0 := (HB12.out).cellAt 0 (by simp)
      have y1 := (HB12.out).cellAt 1 (by simp)
      have y2 := (HB12.out).cellAt 2 (by simp)
      have y3 := (HB12.out).cellAt 3 (by simp)
      simp only [List.getElem_cons_zero, List.getElem_cons_succ, List.set_cons_zero, List.set_cons_succ] at y0 y1 y2 y3
      have z0 := (RR).cellAt 0 (by simp)
      have zf0 := (RR).frozen 0
      have z1 := ((RR).set_ 0 (.int .i64 (5))).cellAt 1 (by simp)
      have zf1 := ((RR).set_ 0 (.int .i64 (5))).frozen 1
      have z2 := (((RR).set_ 0 (.int .i64 (5))).set_ 1 (.int .i64 (i))).cellAt 2 (by simp)
      have zf2 := (((RR).set_ 0 (.int .i64 (5))).set_ 1 (.int .i64 (i))).frozen 2
      have z3 := ((((RR).set_ 0 (.int .i64 (5))).set_ 1 (.int .i64 (i))).set_ 2 (.int .i64 (f2))).cellAt 3 (by simp)
      have zf3 := ((((RR).set_ 0 (.int .i64 (5))).set_ 1 (.int .i64 (i))).set_ 2 (.int .i64 (f2))).frozen 3
      have EE := ((((RR).set_ 0 (.int .i64 (5))).set_ 1 (.int .i64 (i))).set_ 2 (.int .i64 (f2))).set_ 3 (.int .i64 (t3))
      have e0 := EE.cellAt 0 (by simp)
      have e1 := EE.cellAt 1 (by simp)
      have e2 := EE.cellAt 2 (by simp)
      have e3 := EE.cellAt 3 (by simp)
      simp only [List.set_cons_zero, List.set_cons_succ, List.getElem_cons_zero, List.getElem_cons_succ] at z0 z1 z2 z3 e0 e1 e2 e3
      have HGG := Lib.hid (only_trans (only_below HAL.out g) (HX12.out).gr)
      have HRD := Lib.hid (HX12.out).rd
      clear EE RR
      go_wp2_with fail
      refine bodyPost_ret (v := .agg #[.int .i64 (5), .int .i64 (i), .int .i64 (f2), .int .i64 (t3)]) (by simp [results, Tryz.results54, go_sem, e0, e1, e2, e3]) rfl ?_
      refine RVal.mk ⟨_, _, _, _, rfl, q1 + 1 + 1 + 1 + 1 + 1 + 1, (by omega), ?_, ?_⟩
      · exact (((HRD.out.setT (w.heap.size + 1) 0 _ (by omega)).setT (w.heap.size + 1) 1 _ (by omega)).setT (w.heap.size + 1) 2 _ (by omega)).setT (w.heap.size + 1) 3 _ (by omega)
      · exact onlyT_set (onlyT_set (onlyT_set (onlyT_set HGG.out (by omega)) (by omega)) (by omega)) (by omega)
    by_cases h6 : k = 6
    · subst h6
      go_wp2_with fail
      refine (pickT (m := 3) (HX7.out) (by omega) (by omega)).mono ?_
      rintro e W9 ⟨v9, rfl, ⟨va9, vb9⟩, ht9, hg9⟩
      have HB9 := Lib.hid ((HB7.out).only hg9 (by omega))
      have HX9 := Lib.hid ht9
      clear ht9 hg9
      go_wp2_with fail
      refine (pickT (m := 40) (HX9.out) (by omega) (by omega)).mono ?_
      rintro e W11 ⟨v11, rfl, ⟨va11, vb11⟩, ht11, hg11⟩
      have HB11 := Lib.hid ((HB9.out).only hg11 (by omega))
      have HX11 := Lib.hid ht11
      clear ht11 hg11
      have x3 := (HB11.out).cellAt 3 (by simp)
      have xf3 := (HB11.out).frozen 3
      simp only [List.getElem_cons_zero, List.getElem_cons_succ] at x3
      clear P7 hgw HX7 HB7 x0 xf0 HX9 HB9
      go_upto_region 15 with fail
      have HB12 := Lib.hid (HB11.out.set_ 3 (.int .i64 (v9 + v11 / 39 * 3)))
      have HX12 := Lib.hid (HX11.out.set sb 3 (.int .i64 (v9 + v11 / 39 * 3)) hs hgs)
      simp only [List.set_cons_zero, List.set_cons_succ] at HB12
      generalize W11.setCell ⟨sb, 3, none⟩ (.int .i64 (v9 + v11 / 39 * 3)) = W12 at *
      generalize v9 + v11 / 39 * 3 = t3 at *
      clear x3 xf3 HX11 HB11
      have RR := (HR.out).only (HX12.out).gr (by omega)
      have y0 := (HB12.out).cellAt 0 (by simp)
      have y1 := (HB12.out).cellAt 1 (by simp)
      have y2 := (HB12.out).cellAt 2 (by simp)
      have y3 := (HB12.out).cellAt 3 (by simp)
      simp only [List.getElem_cons_zero, List.getElem_cons_succ, List.set_cons_zero, List.set_cons_succ] at y0 y1 y2 y3
      have z0 := (RR).cellAt 0 (by simp)
      have zf0 := (RR).frozen 0
      have z1 := ((RR).set_ 0 (.int .i64 (6))).cellAt 1 (by simp)
      have zf1 := ((RR).set_ 0 (.int .i64 (6))).frozen 1
      have z2 := (((RR).set_ 0 (.int .i64 (6))).set_ 1 (.int .i64 (i))).cellAt 2 (by simp)
      have zf2 := (((RR).set_ 0 (.int .i64 (6))).set_ 1 (.int .i64 (i))).frozen 2
      have z3 := ((((RR).set_ 0 (.int .i64 (6))).set_ 1 (.int .i64 (i))).set_ 2 (.int .i64 (f2))).cellAt 3 (by simp)
      have zf3 := ((((RR).set_ 0 (.int .i64 (6))).set_ 1 (.int .i64 (i))).set_ 2 (.int .i64 (f2))).frozen 3
      have EE := ((((RR).set_ 0 (.int .i64 (6))).set_ 1 (.int .i64 (i))).set_ 2 (.int .i64 (f2))).set_ 3 (.int .i64 (t3))
      have e0 := EE.cellAt 0 (by simp)
      have e1 := EE.cellAt 1 (by simp)
      have e2 := EE.cellAt 2 (by simp)
      have e3 := EE.cellAt 3 (by simp)
      simp only [List.set_cons_zero, List.set_cons_succ, List.getElem_cons_zero, List.getElem_cons_succ] at z0 z1 z2 z3 e0 e1 e2 e3
      have HGG := Lib.hid (only_trans (only_below HAL.out g) (HX12.out).gr)
      have HRD := Lib.hid (HX12.out).rd
      clear EE RR
      go_wp2_with fail
      refine bodyPost_ret (v := .agg #[.int .i64 (6), .int .i64 (i), .int .i64 (f2), .int .i64 (t3)]) (by simp [results, Tryz.results54, go_sem, e0, e1, e2, e3]) rfl ?_
      refine RVal.mk ⟨_, _, _, _, rfl, q1 + 1 + 1 + 1 + 1 + 1 + 1, (by omega), ?_, ?_⟩
      · exact (((HRD.out.setT (w.heap.size + 1) 0 _ (by omega)).setT (w.heap.size + 1) 1 _ (by omega)).setT (w.heap.size + 1) 2 _ (by omega)).setT (w.heap.size + 1) 3 _ (by omega)
      · exact onlyT_set (onlyT_set (onlyT_set (onlyT_set HGG.out (by omega)) (by omega)) (by omega)) (by omega)
    have g2 : (k == 2) = false := by simp [h2]
    have g3 : (k == 3) = false := by simp [h3]
    have g5 : (k == 5) = false := by simp [h5]
    have g6 : (k == 6) = false := by simp [h6]
    clear P7 hgw
    go_upto_region 15 with fail
    clear x0 xf0
    have RR := (HR.out).only (HX7.out).gr (by omega)
    have y0 := (HB7.out).cellAt 0 (by simp)
    have y1 := (HB7.out).cellAt 1 (by simp)
    have y2 := (HB7.out).cellAt 2 (by simp)
    have y3 := (HB7.out).cellAt 3 (by simp)
    simp only [List.getElem_cons_zero, List.getElem_cons_succ, List.set_cons_zero, List.set_cons_succ] at y0 y1 y2 y3
    have z0 := (RR).cellAt 0 (by simp)
    have zf0 := (RR).frozen 0
    have z1 := ((RR).set_ 0 (.int .i64 (k))).cellAt 1 (by simp)
    have zf1 := ((RR).set_ 0 (.int .i64 (k))).frozen 1
    have z2 := (((RR).set_ 0 (.int .i64 (k))).set_ 1 (.int .i64 (i))).cellAt 2 (by simp)
    have zf2 := (((RR).set_ 0 (.int .i64 (k))).set_ 1 (.int .i64 (i))).frozen 2
    have z3 := ((((RR).set_ 0 (.int .i64 (k))).set_ 1 (.int .i64 (i))).set_ 2 (.int .i64 (f2))).cellAt 3 (by simp)
    have zf3 := ((((RR).set_ 0 (.int .i64 (k))).set_ 1 (.int .i64 (i))).set_ 2 (.int .i64 (f2))).frozen 3
    have EE := ((((RR).set_ 0 (.int .i64 (k))).set_ 1 (.int .i64 (i))).set_ 2 (.int .i64 (f2))).set_ 3 (.int .i64 (t2))
    have e0 := EE.cellAt 0 (by simp)
    have e1 := EE.cellAt 1 (by simp)
    have e2 := EE.cellAt 2 (by simp)
    have e3 := EE.cellAt 3 (by simp)
    simp only [List.set_cons_zero, List.set_cons_succ, List.getElem_cons_zero, List.getElem_cons_succ] at z0 z1 z2 z3 e0 e1 e2 e3
    have HGG := Lib.hid (only_trans (only_below HAL.out g) (HX7.out).gr)
    have HRD := Lib.hid (HX7.out).rd
    clear EE RR
    go_wp2_with fail
    refine bodyPost_ret (v := .agg #[.int .i64 (k), .int .i64 (i), .int .i64 (f2), .int .i64 (t2)]) (by simp [results, Tryz.results54, go_sem, e0, e1, e2, e3]) rfl ?_
    refine RVal.mk ⟨_, _, _, _, rfl, q1 + 1 + 1 + 1 + 1, (by omega), ?_, ?_⟩
    · exact (((HRD.out.setT (w.heap.size + 1) 0 _ (by omega)).setT (w.heap.size + 1) 1 _ (by omega)).setT (w.heap.size + 1) 2 _ (by omega)).setT (w.heap.size + 1) 3 _ (by omega)
    · exact onlyT_set (onlyT_set (onlyT_set (onlyT_set HGG.out (by omega)) (by omega)) (by omega)) (by omega)
end Go.Proofs.YtbkfhcbecejomaaGreat
end
section
/- Boxes cloned, boxes by ascending ids as the reference lists them. -/
namespace Go.Proofs.YtbkfhcbecejomaaGreat
open Go Go.ChangeShapes Go.WideShapes Go.ChangeAt Go.RowKit
set_option linter.unusedVariables false
theorem box_infoD : Info Tryz.prog 79 (.agg #[.int .i64 0, .int .i64 0, .int .i64 0, .int .i64 0, .bool false]) 5 40 := Info.mk' box_info rfl (by decide) (by decide)
theorem boxs_cell (zs : List BoxV) : ∀ u ∈ boxs zs, u.oneCell' = true := by
  intro u hu
  simp only [boxs, cellsOf, List.mem_flatMap] at hu
  obtain ⟨z, _, hz⟩ := hu
  simp only [boxC, List.mem_cons, List.not_mem_nil, or_false] at hz
  rcases hz with rfl | rfl | rfl | rfl | rfl <;> rfl
theorem boxs_rd_none {w : World} {zs : List BoxV} (h : RdV w none (boxs zs)) : zs = [] := by
  rcases h with h | ⟨b, off, e, _⟩
  · have := boxs_len zs
    rw [h] at this
    exact List.eq_nil_of_length_eq_zero (by simp at this; omega)
  · cases e
/-- a slice of boxes of the call's own -/
def BoxOut (w : World) (base : Nat) (L : List BoxV) : Ending → World → Prop :=
  RVal fun u w' => ∃ A n c, u = .slice A n c ∧ L.length = n ∧ w'.ownsRow base 79 5 (.slice A n c) n (boxs L) ∧ Below w.heap.size w w'
theorem BoxOut.mk {w w' : World} {base : Nat} {L : List BoxV} {A : Option Addr} {n c : Nat} (hl : L.length = n) (ho : w'.ownsRow base 79 5 (.slice A n c) n (boxs L)) (hb : Below w.heap.size w w') : BoxOut w base L (.returned (.slice A n c)) w' := RVal.mk ⟨A, n, c, rfl, hl, ho, hb⟩
theorem eqn_box (w : World) (a : Option Addr) (n c n' c' : Nat) : (binOp .eql 28 (.slice a n c) (.slice none n' c')).run Tryz.prog w = .ok (.bool a.isNone) w := Lib.run_eql_slice_nil w _ _ a n c n' c' Tryz.underlying28
end Go.Proofs.YtbkfhcbecejomaaGreat
end
