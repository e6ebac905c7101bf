/- Several texts of the proof in one; each says at its head what it proves; no condition. -/
import Derived.Test.YtbllbpjlkechdaaGreatMg7
import Derived.Test.YtbllbpjlkechdaaGreatMg2
import Derived.Lib.SmallJoins
import Derived.Deep.Strs
import Derived.Test.YtbllbpjlkechdaaGreatMg5
import Derived.Test.YtbllbpjlkechdaaGreatMg3
import Derived.Lib.SliceRun
section
/- What the exact laws do with papers: their size, a copy, whether two are equal, marks; what a row's reading gives. -/
namespace Go.Proofs.YtbllbpjlkechdaaGreat
open Go Go.ChangeShapes Go.WideShapes Go.ChangeAt Go.RowKit Go.Deep
set_option linter.unusedVariables false
/-- papers that may be read -/
structure PapRd (w : World) (HA LA : Option Addr) (n m : Nat) (hs : List HoldV) (ls : List Int) : Prop where
  hn : hs.length = n
  hm : ls.length = m
  hold : RdV w HA (holds hs)
  left : RdV w LA (ints ls)
theorem PapRd.later {w w' : World} {HA LA : Option Addr} {n m : Nat} {hs : List HoldV} {ls : List Int} (h : PapRd w HA LA n m hs ls) (hb : Below w.heap.size w w') : PapRd w' HA LA n m hs ls := ⟨h.hn, h.hm, h.hold.below hb, h.left.below hb⟩
/-- papers whose rows lie between lo and hi -/
structure PapI (w : World) (lo hi : Nat) (HA : Option Addr) (n hc : Nat) (LA : Option Addr) (m lc : Nat) (hs : List HoldV) (ls : List Int) : Prop where
  hn : hs.length = n
  hm : ls.length = m
  hold : OwnI w lo hi 94 2 (.slice HA n hc) n (holds hs)
  left : OwnI w lo hi 3 1 (.slice LA m lc) m (ints ls)
section
variable {w w' : World} {lo hi n hc m lc : Nat} {HA LA : Option Addr} {hs : List HoldV} {ls : List Int}
theorem PapI.rd (h : PapI w lo hi HA n hc LA m lc hs ls) : PapRd w HA LA n m hs ls := ⟨h.hn, h.hm, h.hold.rd, h.left.rd⟩
theorem PapI.out {lo' hi' : Nat} (h : PapI w lo hi HA n hc LA m lc hs ls) (ho : Out lo' hi' w w') (hd : hi ≤ lo' ∨ hi' ≤ lo) : PapI w' lo hi HA n hc LA m lc hs ls := ⟨h.hn, h.hm, h.hold.out ho hd, h.left.out ho hd⟩
theorem PapI.later (h : PapI w lo hi HA n hc LA m lc hs ls) (hb : Below w.heap.size w w') : PapI w' lo hi HA n hc LA m lc hs ls := ⟨h.hn, h.hm, h.hold.later hb, h.left.later hb⟩
theorem PapI.cap (h : PapI w lo hi HA n hc LA m lc hs ls) : m ≤ lc := by
  obtain ⟨A, c, e, h1, h2⟩ := own_slice h.left.row
  injection e with _ _ e3
  omega
end
theorem ownI_set {w : World} {lo hi b i : Nat} {e : TypeId} {size n : Nat} {v : Value} {xs : List Value} (h : OwnI w lo hi e size v n xs) (u : Value) (hb : b < lo ∨ hi ≤ b) : OwnI (w.setCell ⟨b, i, none⟩ u) lo hi e size v n xs :=
  h.out (lo' := b) (hi' := b + 1) ⟨rfl, rfl, rfl, by simp [World.setCell], fun k _ hk => Below.heap_setCell w ⟨b, i, none⟩ u k (by show k ≠ b; omega)⟩ (by omega)
theorem szPapers_any (HA LA : Option Addr) (n hc m lc : Nat) (w : World) (h1' : n ≤ maxLen) (h2' : m ≤ maxLen) :
    Calls Tryz.prog 15 #[.agg #[.slice HA n hc, .slice LA m lc], .int .i64 1048576] w (RInt fun r w' => r ≤ 1048576 ∧ (0 ≤ r → n ≤ 1048576 ∧ m ≤ 1048576) ∧ Below w.heap.size w w') := by
  have h1 : n ≤ 9223372036854775807 := h1'
  have h2 : m ≤ 9223372036854775807 := h2'
  have hbl : Below w.heap.size w (w.alloc (.cells #[.slice HA n hc, .slice LA m lc] 31)) := (Below.refl _ _).alloc (Nat.le_refl _) _
  have HBL := Lib.hid hbl
  clear hbl h1' h2'
  go_enter Tryz.func15, Tryz.ntmps15
  go_wp2_with fail
  refine (szHoldS_any HA n hc _ h1 _ (by omega) (by omega)).mono ?_
  rintro e w' ⟨r, rfl, hr1, hr2, rfl⟩
  by_cases h0 : 0 ≤ r
  · have hn := hr2 h0
    clear hr2
    go_wp2_with fail
    refine (szIntS_any LA m lc _ h2 r h0 hr1).mono ?_
    rintro e w' ⟨r2, rfl, hq1, hq2, rfl⟩
    have HQ := Lib.hid hq2
    clear hq2
    by_cases h3 : 0 ≤ r2
    · have hm : m ≤ 1048576 := by have := HQ.out h3; omega
      go_wp2_with fail
      go_ret
      exact RInt.mk ⟨by omega, fun _ => ⟨by omega, hm⟩, HBL.out⟩
    · go_wp2_with fail
      go_ret
      exact RInt.mk ⟨by omega, fun h => by omega, HBL.out⟩
  · clear hr2
    go_wp2_with fail
    go_ret
    exact RInt.mk ⟨by omega, fun h => by omega, HBL.out⟩
/-- papers in memory of the call's own -/
def PapNew (w : World) (n m : Nat) (hs : List HoldV) (ls : List Int) : Ending → World → Prop :=
  RVal fun u w' => ∃ HA hc LA lc, u = .agg #[.slice HA n hc, .slice LA m lc] ∧ PapI w' w.heap.size w'.heap.size HA n hc LA m lc hs ls ∧ Below w.heap.size w w'
theorem Out.base' {lo hi : Nat} {w : World} {e : TypeId} {size n lo' : Nat} {v : Value} {xs : List Value} (h : OwnI w lo hi e size v n xs) (h1 : lo' ≤ lo) : OwnI w lo' w.heap.size e size v n xs :=
  ⟨own_base h.row h1, fun g e => Nat.lt_of_lt_of_le (h.lt g e) h.top, Nat.le_refl _⟩
set_option maxHeartbeats 1000000 in
theorem toPapers_any (HA LA : Option Addr) (n hc m lc : Nat) (hs : List HoldV) (ls : List Int) (w : World) (h : PapRd w HA LA n m hs ls) (h1 : n ≤ 1048576) (h2 : m ≤ 1048576) :
    Calls Tryz.prog 23 #[.agg #[.slice HA n hc, .slice LA m lc]] w (PapNew w n m hs ls) := by
  obtain ⟨hn, hm, hr, hl⟩ := h
  have HN := Lib.hid hn
  have HM := Lib.hid hm
  have hbl : Below w.heap.size w (((w.alloc (.cells #[.slice HA n hc, .slice LA m lc] 31)).alloc (.cells #[.slice none 0 0, .slice none 0 0] 41)).alloc (.cells #[.slice none 0 0, .slice none 0 0] 41)) := (((Below.refl _ _).alloc (Nat.le_refl _) _).alloc (by simp) _).alloc (by simp; omega) _
  have a0 := (Blk.new w 31 [.slice HA n hc, .slice LA m lc]).alloc (.cells #[.slice none 0 0, .slice none 0 0] 41) |>.alloc (.cells #[.slice none 0 0, .slice none 0 0] 41)
  have a1 := (Blk.new (w.alloc (.cells #[.slice HA n hc, .slice LA m lc] 31)) 41 [.slice none 0 0, .slice none 0 0]).alloc (.cells #[.slice none 0 0, .slice none 0 0] 41)
  have a2 := Blk.new ((w.alloc (.cells #[.slice HA n hc, .slice LA m lc] 31)).alloc (.cells #[.slice none 0 0, .slice none 0 0] 41)) 41 [.slice none 0 0, .slice none 0 0]
  simp only [World.size_alloc] at a1 a2
  have hr' := hr.below hbl
  have HL := Lib.hid hl
  have HBL := Lib.hid hbl
  have hsz : w.heap.size + 1 + 1 + 1 ≤ (((w.alloc (.cells #[.slice HA n hc, .slice LA m lc] 31)).alloc (.cells #[.slice none 0 0, .slice none 0 0] 41)).alloc (.cells #[.slice none 0 0, .slice none 0 0] 41)).heap.size := by simp
  clear hn hm hr hl hbl
  go_enter Tryz.func23, Tryz.ntmps23
  go_wp2_with fail
  generalize ((w.alloc (.cells #[.slice HA n hc, .slice LA m lc] 31)).alloc (.cells #[.slice none 0 0, .slice none 0 0] 41)).alloc (.cells #[.slice none 0 0, .slice none 0 0] 41) = w3 at *
  refine (toHoldS_any HA hs n hc HN.out _ hr' h1).mono ?_
  rintro e w4 ⟨rfl, hO, hb4⟩
  have b0 := a0.later hb4
  have b1 := a1.later hb4
  have b2 := a2.later hb4
  have HB4 := Lib.hid (below_trans HBL.out hb4)
  have hO4 := Lib.hid (blk_ownI (size := 2) (n := n) hO (Nat.le_refl _) (by rw [holds_len, HN.out]) (by unfold maxLen; omega))
  have x1 := b0.cellAt 1 (by simp)
  simp only [List.getElem_cons_zero, List.getElem_cons_succ] at x1
  have f0 := b2.frozen 0
  have z0 := b2.cellAt 0 (by simp)
  simp only [List.getElem_cons_zero] at z0
  have hlo4 : w3.heap.size ≤ w4.heap.size := hb4.size
  generalize w3.heap.size = k3 at *
  have c1 := b1.far (p := ⟨w.heap.size + 1 + 1, 0, none⟩) (by show w.heap.size + 1 ≠ w.heap.size + 1 + 1; omega) (.slice (some ⟨k3, 0, none⟩) n n)
  have c2 := b2.set_ 0 (.slice (some ⟨k3, 0, none⟩) n n)
  have x1' := (b0.far (p := ⟨w.heap.size + 1 + 1, 0, none⟩) (by show w.heap.size ≠ w.heap.size + 1 + 1; omega) (.slice (some ⟨k3, 0, none⟩) n n)).cellAt 1 (by simp)
  simp only [List.getElem_cons_zero, List.getElem_cons_succ] at x1'
  have hO5 := Lib.hid (ownI_set (b := w.heap.size + 1 + 1) (i := 0) hO4.out (.slice (some ⟨k3, 0, none⟩) n n) (.inl (by omega)))
  have HB5 := Lib.hid (HB4.out.setCell (p := ⟨w.heap.size + 1 + 1, 0, none⟩) (by show w.heap.size ≤ w.heap.size + 1 + 1; omega) (.slice (some ⟨k3, 0, none⟩) n n))
  have HC1 := Lib.hid c1
  have HC2 := Lib.hid c2
  clear a0 a1 a2 hb4 hO b0 b1 b2 hO4 HB4 hr' c1 c2
  go_wp2_with fail
  generalize w4.setCell ⟨w.heap.size + 1 + 1, 0, none⟩ (.slice (some ⟨k3, 0, none⟩) n n) = w5 at *
  refine (toIntS_any LA ls m lc HM.out _ (HL.out.below HB5.out) h2).mono ?_
  rintro e w6 ⟨rfl, hI, hb6⟩
  have d1 := HC1.out.later hb6
  have d2 := HC2.out.later hb6
  have hO6 := hO5.out.later hb6
  have hI6 := blk_ownI (size := 1) (n := m) hI (Nat.le_refl _) (by rw [ints_len, HM.out, Nat.mul_one]) (by unfold maxLen; omega)
  have HB6 := Lib.hid (below_trans HB5.out hb6)
  have hs5 : k3 ≤ w5.heap.size := Nat.le_trans (Nat.le_trans hlo4 hO5.out.top) (Nat.le_refl _)
  have p0 := d2.frozen 1
  have p1 := d1.frozen 0
  have p2 := d1.frozen 1
  have v0 := d2.cellAt 0 (by simp)
  have v1 := d2.cellAt 1 (by simp)
  have u0 := d1.cellAt 0 (by simp)
  have u1 := d1.cellAt 1 (by simp)
  simp only [List.set_cons_zero, List.getElem_cons_zero, List.getElem_cons_succ] at v0 v1 u0 u1
  have lt2 := d2.lt
  have hOut : Out w.heap.size (w.heap.size + 1 + 1 + 1) w6 (((w6.setCell ⟨w.heap.size + 1 + 1, 1, none⟩ (.slice (some ⟨w5.heap.size, 0, none⟩) m m)).setCell ⟨w.heap.size + 1, 0, none⟩ (.slice (some ⟨k3, 0, none⟩) n n)).setCell ⟨w.heap.size + 1, 1, none⟩ (.slice (some ⟨w5.heap.size, 0, none⟩) m m)) :=
    out_set (out_set (out_set (Out.refl _ _ _) _ _ _ (by omega) (by omega)) _ _ _ (by omega) (by omega)) _ _ _ (by omega) (by omega)
  have hA := Out.base' (hO6.out hOut (.inr hsz)) (show w.heap.size ≤ k3 by omega)
  have hB := Out.base' (hI6.out hOut (.inr (by omega))) (show w.heap.size ≤ w5.heap.size by omega)
  have HBF := Lib.hid (below_out HB6.out hOut (Nat.le_refl _))
  have HPI : Hid (PapI (((w6.setCell ⟨w.heap.size + 1 + 1, 1, none⟩ (.slice (some ⟨w5.heap.size, 0, none⟩) m m)).setCell ⟨w.heap.size + 1, 0, none⟩ (.slice (some ⟨k3, 0, none⟩) n n)).setCell ⟨w.heap.size + 1, 1, none⟩ (.slice (some ⟨w5.heap.size, 0, none⟩) m m)) w.heap.size _ _ n n _ m m hs ls) := Lib.hid ⟨HN.out, HM.out, hA, hB⟩
  clear hI hb6 d1 d2 hO6 hI6 HB6 hA hB hOut
  generalize w5.heap.size = k5 at *
  go_wp2_with fail
  refine bodyPost_ret (v := .agg #[.slice (some ⟨k3, 0, none⟩) n n, .slice (some ⟨k5, 0, none⟩) m m]) (by simp [results, Tryz.results23, go_sem, *]) rfl ?_
  exact RVal.mk ⟨_, _, _, _, rfl, HPI.out, HBF.out⟩
set_option maxHeartbeats 1000000 in
theorem eqPapers_any (HA HB LA LB : Option Addr) (n hc hd m lc ld : Nat) (hs : List HoldV) (ls : List Int) (w : World) (ha : PapRd w HA LA n m hs ls) (hb : PapRd w HB LB n m hs ls) (h1 : n ≤ 1099511627776) (h2 : m ≤ 1099511627776) :
    Calls Tryz.prog 30 #[.agg #[.slice HA n hc, .slice LA m lc], .agg #[.slice HB n hd, .slice LB m ld]] w fun e w' => e = .returned (.bool true) ∧ Below w.heap.size w w' := by
  have hbl : Below w.heap.size w ((w.alloc (.cells #[.slice HA n hc, .slice LA m lc] 41)).alloc (.cells #[.slice HB n hd, .slice LB m ld] 41)) := ((Below.refl _ _).alloc (Nat.le_refl _) _).alloc (by simp) _
  have a0 := (Blk.new w 41 [.slice HA n hc, .slice LA m lc]).alloc (.cells #[.slice HB n hd, .slice LB m ld] 41)
  have a1 := Blk.new (w.alloc (.cells #[.slice HA n hc, .slice LA m lc] 41)) 41 [.slice HB n hd, .slice LB m ld]
  simp only [World.size_alloc] at a1
  have HBL := Lib.hid hbl
  have HA' := Lib.hid (ha.later hbl)
  have HB' := Lib.hid (hb.later hbl)
  clear ha hb hbl
  go_enter Tryz.func30, Tryz.ntmps30
  go_wp2_with fail
  generalize (w.alloc (.cells #[.slice HA n hc, .slice LA m lc] 41)).alloc (.cells #[.slice HB n hd, .slice LB m ld] 41) = w2 at *
  refine (eqHoldS_any HA HB hs n hc hd HA'.out.hn _ HA'.out.hold HB'.out.hold h1).mono ?_
  rintro e w3 ⟨rfl, hb3⟩
  have x1 := (a0.later hb3).cellAt 1 (by simp)
  have y1 := (a1.later hb3).cellAt 1 (by simp)
  simp only [List.getElem_cons_zero, List.getElem_cons_succ] at x1 y1
  have HB3 := Lib.hid hb3
  clear hb3 a0 a1
  go_wp2_with fail
  refine (eqIntS_any LA LB ls m lc ld HA'.out.hm _ (HA'.out.left.below HB3.out) (HB'.out.left.below HB3.out) h2).mono ?_
  rintro e w4 ⟨rfl, hb4⟩
  have HB4 := Lib.hid (below_trans (below_trans HBL.out HB3.out) hb4)
  clear hb4
  go_wp2_with fail
  go_ret
  exact ⟨rfl, HB4.out⟩
instance : Inhabited HoldV := ⟨⟨0, 0⟩⟩
instance : Inhabited PaperDeedV := ⟨⟨0, 0, 0⟩⟩
/-- papers that came in -/
structure PapD where
  HA : Option Addr
  hc : Nat
  LA : Option Addr
  lc : Nat
  hs : List HoldV
  ls : List Int
def IsPap (w : World) (v : Value) (d : PapD) : Prop := v = .agg #[.slice d.HA d.hs.length d.hc, .slice d.LA d.ls.length d.lc] ∧ PapRd w d.HA d.LA d.hs.length d.ls.length d.hs d.ls ∧ d.hs.length ≤ maxLen ∧ d.ls.length ≤ maxLen
set_option maxRecDepth 100000 in
theorem read_papers {H : Type} {enc : TypeId × Value → H} {w : World} {base b0 : Nat} {spare : Nat → Bool} {held : Bool} {r : Reach} {v : Value} {d : DataW H} {p : List MemPlace}
    (hv : Value.okWide Tryz.prog w r b0 31 v) (h : DataW.Trod enc Tryz.prog w base spare held 31 v d p) : ∃ a, IsPap w v a := by
  obtain ⟨v0, v1, y0, y1, n, rfl, _, _, h0, h1⟩ := Joins.open_agg2 Tryz.underlying31 (by kernel_rfl) (by kernel_rfl) hv h
  obtain ⟨HA, n0, hc, hs, rfl, rfl, g1, g2, g3⟩ := read_list (α := HoldV) (ec := holdC) holdC_len (by decide) Tryz.underlying29 (by kernel_rfl) (fun cs n y hy => by
    obtain ⟨q0, q1, m, _, hl, t0, t1⟩ := trod_struct2 Tryz.underlying110 hy
    rw [show Tryz.prog.cellsOf 110 = 2 from by kernel_rfl] at hl
    rw [show Tryz.prog.cellsOf _ = 1 from by kernel_rfl] at t0 t1
    obtain ⟨c0, c1, rfl⟩ : ∃ a b, cs = [a, b] := by
      match cs, hl with
      | [a, b], _ => exact ⟨a, b, rfl⟩
    obtain ⟨a0, e0, _⟩ := DataW.trod_int (t := 3) Tryz.underlying3 t0
    obtain ⟨a1, e1, _⟩ := DataW.trod_int (t := 3) Tryz.underlying3 t1
    simp at e0 e1
    exact ⟨⟨a0, a1⟩, by rw [e0, e1]; rfl⟩) h0
  obtain ⟨LA, n1, lc, ls, rfl, rfl, k1, k2, k3⟩ := read_intlist Tryz.underlying28 Tryz.underlying3 (by kernel_rfl) h1
  exact ⟨⟨HA, hc, LA, lc, hs, ls⟩, rfl, ⟨rfl, rfl, g3, k3⟩, Nat.le_trans g1 g2, Nat.le_trans k1 k2⟩
/-- a deed that came in -/
def IsDeed (_ : World) (v : Value) (m : PaperDeedV) : Prop := v = .agg #[.int .i64 m.f0, .int .i64 m.f1, .int .i64 m.f2]
/-- deeds that came in -/
structure DeedsD where
  A : Option Addr
  c : Nat
  ds : List PaperDeedV
def IsDeeds (w : World) (v : Value) (d : DeedsD) : Prop := v = .slice d.A d.ds.length d.c ∧ RdV w d.A (paperdeeds d.ds) ∧ d.ds.length ≤ maxLen
end Go.Proofs.YtbllbpjlkechdaaGreat
end
section
/- Lists of Box: marking them, reading the marks. -/
namespace Go.Proofs.YtbllbpjlkechdaaGreat
open Go Go.ChangeShapes Go.WideShapes Go.ChangeAt Go.RowKit
def marksX (k : Int) (n : Nat) : List BoxV := (List.range n).map fun (i : Nat) => ⟨k + ((5 * i : Nat) : Int), k + ((5 * i : Nat) : Int) + 1, k + ((5 * i : Nat) : Int) + 1 + 1, k + ((5 * i : Nat) : Int) + 1 + 1 + 1, (k + ((5 * i : Nat) : Int) + 1 + 1 + 1 + 1) % 3 == 0⟩
theorem marksX_len (k : Int) (n : Nat) : (marksX k n).length = n := by simp [marksX]
theorem marksX_succ (k : Int) (n : Nat) : marksX k (n + 1) = marksX k n ++ [⟨k + ((5 * n : Nat) : Int), k + ((5 * n : Nat) : Int) + 1, k + ((5 * n : Nat) : Int) + 1 + 1, k + ((5 * n : Nat) : Int) + 1 + 1 + 1, (k + ((5 * n : Nat) : Int) + 1 + 1 + 1 + 1) % 3 == 0⟩] := by simp [marksX, List.range_succ]
theorem marksX_at (k : Int) (n j : Nat) (h : j < (marksX k n).length) : (marksX k n)[j] = ⟨k + ((5 * j : Nat) : Int), k + ((5 * j : Nat) : Int) + 1, k + ((5 * j : Nat) : Int) + 1 + 1, k + ((5 * j : Nat) : Int) + 1 + 1 + 1, (k + ((5 * j : Nat) : Int) + 1 + 1 + 1 + 1) % 3 == 0⟩ := by simp [marksX]
theorem boxs_append (a b : List BoxV) : boxs (a ++ b) = boxs a ++ boxs b := cellsOf_append _ _ _
theorem boxs_one (a : BoxV) : boxs [a] = [.int .i64 a.f0, .int .i64 a.f1, .int .i64 a.f2, .int .i64 a.f3, .bool a.f4] := cellsOf_one _ _
theorem set_f5 (a r : List Value) (x0 x1 x2 x3 x4 y0 y1 y2 y3 y4 : Value) (o : Nat) (ho : a.length = o) : (((((a ++ ([x0, x1, x2, x3, x4] ++ r)).set (o) y0).set (o + 1) y1).set (o + 2) y2).set (o + 3) y3).set (o + 4) y4 = a ++ ([y0, y1, y2, y3, y4] ++ r) := by
  subst ho
  simp [List.set_append_right]
end Go.Proofs.YtbllbpjlkechdaaGreat
end
section
/- Valid boxes, FindBox: both programs return the plain word. -/
namespace Go.Proofs.YtbllbpjlkechdaaGreat
open Go Go.ChangeShapes Go.WideShapes Go.ChangeAt Go.RowKit
set_option linter.unusedVariables false
theorem RdV.boxTake {w : World} {A : Option Addr} {zs : List BoxV} (h : RdV w A (boxs zs)) (k : Nat) : RdV w A (boxs (zs.take k)) := by
  rcases h with h | ⟨b, o, rfl, hl, hc⟩
  · left
    have : zs = [] := by
      have := boxs_len zs
      rw [h] at this
      simp at this
      exact List.eq_nil_of_length_eq_zero (by omega)
    rw [this]; simp [boxs, cellsOf]
  · refine .inr ⟨b, o, rfl, hl, fun j hj => ?_⟩
    have he : boxs zs = boxs (zs.take k) ++ boxs (zs.drop k) := by rw [← boxs_append, List.take_append_drop]
    have hj2 : j < (boxs zs).length := by rw [he, List.length_append]; omega
    rw [hc j hj2]
    congr 1
    have : (boxs zs)[j]? = (boxs (zs.take k))[j]? := by rw [he, List.getElem?_append_left hj]
    rw [List.getElem?_eq_getElem hj2, List.getElem?_eq_getElem hj] at this
    injection this
set_option maxHeartbeats 2000000 in
theorem specBoxesValid (A : Option Addr) (n c : Nat) (zs : List BoxV) (w : World) (hn : zs.length = n) (hr : RdV w A (boxs zs)) (hm : n ≤ 1099511627776) :
    Calls Tryz.prog 58 #[.slice A n c] w fun e w' => e = .returned (.bool (boxesOk zs)) ∧ Below w.heap.size w w' := by
  have HN := Lib.hid hn
  clear hn
  go_enter Tryz.func58, Tryz.ntmps58
  go_wp2_with fail
  go_loopw [3] (fun i wr => ∃ k : Nat, k ≤ n ∧ i = .int .i64 k ∧ Hid (okGo [] zs = okGo (zs.take k) (zs.drop k)) ∧ Below w.heap.size w wr) (fun i _ => n - (intOf i).toNat)
  case atStart => exact ⟨0, Nat.zero_le _, rfl, Lib.hid (by simp), Below.refl _ _⟩
  case round =>
    obtain ⟨k, hk, rfl, HJ, hb⟩ := hrel
    by_cases hlt : k < n
    · have hkz : k < zs.length := by rw [HN.out]; exact hlt
      obtain ⟨b, o, rfl, hl, c0, c1, c2, c3, c4⟩ := (hr.below hb).boxAt hkz
      have hst := okGo_at hkz
      rw [← HJ.out] at hst
      have HST := Lib.hid hst
      have HLT := Lib.hid (findF_lt hkz)
      have hV := specBoxValid (zs[k]) wr
      have hF := fun (W : World) (hW : Below wr.heap.size wr W) => l2Find_any (some ⟨b, o, none⟩) n c zs (zs[k]).f0 W HN.out (hr.below (below_trans hb hW)) (by omega)
      have hki : (k : Int) < (n : Int) := by omega
      generalize zs[k] = y at *
      obtain ⟨y0, y1, y2, y3, y4⟩ := y
      dsimp only at c0 c1 c2 c3 c4 HLT hV hF HST
      clear hst
      have d0 : ∀ W : World, Below wr.heap.size wr W → W.cell? ⟨b, o + k * 5, none⟩ = some (.int .i64 y0) := fun W hW => (hW.cell (p := ⟨b, o + k * 5, none⟩) hl).trans c0
      cases hbv : bOk ⟨y0, y1, y2, y3, y4⟩ with
      | false =>
        have HF2 : Hid (boxesOk zs = false) := Lib.hid (by unfold boxesOk; rw [HST.out, hbv]; rfl)
        rw [hbv] at hV
        clear hbv
        go_wp2_with (go_at_call 85; refine hV.mono ?_; rintro e w2 ⟨rfl, hb2⟩)
        go_ret
        exact ⟨by rw [HF2.out]; rfl, below_trans hb hb2⟩
      | true =>
        rw [hbv] at hV
        generalize hid : idxI (findF zs y0) = iv at *
        have HID := Lib.hid hid
        clear hid
        by_cases hlk : iv < (k : Int)
        · have HF2 : Hid (boxesOk zs = false) := Lib.hid (by unfold boxesOk; rw [HST.out, ← HLT.out, decide_eq_true hlk]; simp)
          clear hbv
          go_wp2_with fail
          refine hV.mono ?_
          rintro e w2 ⟨rfl, hb2⟩
          have e0 := d0 w2 hb2
          have hF3 := hF w2 hb2
          clear hF hV
          go_wp2_with (go_at_call 16; refine hF3.mono ?_; rintro e w3 ⟨rfl, rfl⟩)
          go_ret
          exact ⟨by rw [HF2.out]; rfl, below_trans hb hb2⟩
        · have HG : Hid (okGo [] zs = okGo (zs.take (k + 1)) (zs.drop (k + 1))) := Lib.hid (by rw [HST.out, ← HLT.out, decide_eq_false hlk, hbv]; rfl)
          clear hbv
          go_wp2_with fail
          refine hV.mono ?_
          rintro e w2 ⟨rfl, hb2⟩
          have e0 := d0 w2 hb2
          have hF3 := hF w2 hb2
          clear hF hV
          go_wp2_with (go_at_call 16; refine hF3.mono ?_; rintro e w3 ⟨rfl, rfl⟩)
          go_roundw
          case rel => exact ⟨k + 1, by omega, by go_num, HG, below_trans hb hb2⟩
          case measure => simp [intOf]; omega
    · obtain rfl : k = n := by omega
      have HE : Hid (boxesOk zs = decide ((k : Int) ≤ 10)) := Lib.hid (by
        unfold boxesOk
        rw [HJ.out, List.drop_of_length_le (by rw [HN.out]; exact Nat.le_refl _), HN.out]
        by_cases h : k ≤ 10
        · rw [decide_eq_true h, decide_eq_true (by omega : (k : Int) ≤ 10)]; rfl
        · rw [decide_eq_false h, decide_eq_false (by omega : ¬ (k : Int) ≤ 10)]; rfl)
      go_wp2_with fail
      go_ret
      exact ⟨by rw [HE.out]; rfl, hb⟩
set_option maxHeartbeats 4000000 in
theorem implBoxesValid (A : Option Addr) (n c : Nat) (zs : List BoxV) (w : World) (hn : zs.length = n) (hr : RdV w A (boxs zs)) (hnc : n ≤ c) (hm : n ≤ 1099511627776) :
    Calls Tryz.prog 68 #[.slice A n c] w fun e w' => e = .returned (.bool (boxesOk zs)) ∧ Below w.heap.size w w' := by
  have HN := Lib.hid hn
  clear hn
  go_enter Tryz.func68, Tryz.ntmps68
  go_wp2_with fail
  go_loopw [7, 3, 4] (fun i _ _ wr => ∃ k : Nat, k ≤ n ∧ i = .int .i64 k ∧ Hid (okGo [] zs = okGo (zs.take k) (zs.drop k)) ∧ Below w.heap.size w wr) (fun i _ _ _ => n - (intOf i).toNat)
  case atStart => exact ⟨0, Nat.zero_le _, rfl, Lib.hid (by simp), Below.refl _ _⟩
  case round =>
    obtain ⟨k, hk, rfl, HJ, hb⟩ := hrel
    by_cases hlt : k < n
    · have hkz : k < zs.length := by rw [HN.out]; exact hlt
      obtain ⟨b, o, rfl, hl, c0, c1, c2, c3, c4⟩ := (hr.below hb).boxAt hkz
      have hst := okGo_at hkz
      rw [← HJ.out] at hst
      have HST := Lib.hid hst
      have HTL : (zs.take k).length = k := by rw [List.length_take]; omega
      have hV := fun W => implBoxValid (zs[k]) W
      have hF := fun (W : World) (hW : Below wr.heap.size wr W) => boxAt_any (some ⟨b, o, none⟩) k c (zs.take k) (zs[k]).f0 W HTL ((hr.below (below_trans hb hW)).boxTake k) (by omega)
      have hHS := findF_has (zs := zs.take k) (id := (zs[k]).f0)
      have hki : (k : Int) < (n : Int) := by omega
      have hkc : (k : Int) ≤ (c : Int) := by omega
      generalize zs[k] = y at *
      obtain ⟨y0, y1, y2, y3, y4⟩ := y
      dsimp only at c0 c1 c2 c3 c4 hV hF HST hHS
      clear hst HTL
      have hal : Below wr.heap.size wr (wr.alloc (.cells #[.int .i64 y0, .int .i64 y1, .int .i64 y2, .int .i64 y3, .bool y4] 78)) := (Below.refl _ _).alloc (Nat.le_refl _) _
      have H2 : Blk (wr.alloc (.cells #[.int .i64 y0, .int .i64 y1, .int .i64 y2, .int .i64 y3, .bool y4] 78)) wr.heap.size 78 [.int .i64 y0, .int .i64 y1, .int .i64 y2, .int .i64 y3, .bool y4] := Blk.new _ _ _
      have HB2 := Lib.hid (below_trans hb hal)
      have hF := fun (W : World) (hW : Below _ _ W) => hF W (below_trans hal hW)
      clear hb hal
      go_wp2_with fail
      generalize wr.alloc (.cells #[.int .i64 y0, .int .i64 y1, .int .i64 y2, .int .i64 y3, .bool y4] 78) = w4 at *
      have d0 : ∀ p : BelW w4, p.W.cell? ⟨wr.heap.size, 0, none⟩ = some (.int .i64 y0) := fun p => (H2.belw p).cellAt 0 (by simp)
      have d1 : ∀ p : BelW w4, p.W.cell? ⟨wr.heap.size, 1, none⟩ = some (.int .i64 y1) := fun p => (H2.belw p).cellAt 1 (by simp)
      have d2 : ∀ p : BelW w4, p.W.cell? ⟨wr.heap.size, 2, none⟩ = some (.int .i64 y2) := fun p => (H2.belw p).cellAt 2 (by simp)
      have d3 : ∀ p : BelW w4, p.W.cell? ⟨wr.heap.size, 3, none⟩ = some (.int .i64 y3) := fun p => (H2.belw p).cellAt 3 (by simp)
      have d4 : ∀ p : BelW w4, p.W.cell? ⟨wr.heap.size, 4, none⟩ = some (.bool y4) := fun p => (H2.belw p).cellAt 4 (by simp)
      clear c0 c1 c2 c3 c4 H2
      cases hbv : bOk ⟨y0, y1, y2, y3, y4⟩ with
      | false =>
        have HF2 : Hid (boxesOk zs = false) := Lib.hid (by unfold boxesOk; rw [HST.out, hbv]; rfl)
        rw [hbv] at hV
        clear hbv hHS
        refine wp_region_below (by kernel_rfl) (by kernel_rfl) ?_
        repeat (go_big_quiet_step ((first | (go_at_call 88; exact calls_below (hV _)) | (go_at_call 24; exact calls_below (hF _ (BelW.ok _))))))
        refine wpQuiet_nil ?_
        intro _ hw'
        obtain ⟨⟨wq, hbq⟩, hw''⟩ := hw'
        subst hw''
        have HBQ := Lib.hid (below_trans HB2.out hbq)
        clear hbq hV hF
        go_wp2_with fail
        go_ret
        exact ⟨by rw [HF2.out]; rfl, HBQ.out⟩
      | true =>
        rw [hbv] at hV
        generalize idxI (findF (zs.take k) y0) = iv at *
        cases hh : hasF (zs.take k) y0 with
        | true =>
          have HF2 : Hid (boxesOk zs = false) := Lib.hid (by unfold boxesOk; rw [HST.out, hh]; simp)
          rw [hh] at hHS
          clear hbv hh
          refine wp_region_below (by kernel_rfl) (by kernel_rfl) ?_
          repeat (go_big_quiet_step ((first | (go_at_call 88; exact calls_below (hV _)) | (go_at_call 24; exact calls_below (hF _ (BelW.ok _))))))
          refine wpQuiet_nil ?_
          intro _ hw'
          obtain ⟨⟨wq, hbq⟩, hw''⟩ := hw'
          subst hw''
          have HBQ := Lib.hid (below_trans HB2.out hbq)
          clear hbq hV hF
          go_wp2_with fail
          go_ret
          exact ⟨by rw [HF2.out]; rfl, HBQ.out⟩
        | false =>
          have HG : Hid (okGo [] zs = okGo (zs.take (k + 1)) (zs.drop (k + 1))) := Lib.hid (by rw [HST.out, hh, hbv]; rfl)
          rw [hh] at hHS
          clear hbv hh
          refine wp_region_below (by kernel_rfl) (by kernel_rfl) ?_
          repeat (go_big_quiet_step ((first | (go_at_call 88; exact calls_below (hV _)) | (go_at_call 24; exact calls_below (hF _ (BelW.ok _))))))
          refine wpQuiet_nil ?_
          intro _ hw'
          obtain ⟨⟨wq, hbq⟩, hw''⟩ := hw'
          subst hw''
          have HBQ := Lib.hid (below_trans HB2.out hbq)
          clear hbq hV hF
          go_wp2_with fail
          go_roundw
          case rel => exact ⟨k + 1, by omega, by go_num, HG, HBQ.out⟩
          case measure => simp [intOf]; omega
    · obtain rfl : k = n := by omega
      have HE : Hid (boxesOk zs = decide ((k : Int) ≤ 10)) := Lib.hid (by
        unfold boxesOk
        rw [HJ.out, List.drop_of_length_le (by rw [HN.out]; exact Nat.le_refl _), HN.out]
        by_cases h : k ≤ 10
        · rw [decide_eq_true h, decide_eq_true (by omega : (k : Int) ≤ 10)]; rfl
        · rw [decide_eq_false h, decide_eq_false (by omega : ¬ (k : Int) ≤ 10)]; rfl)
      go_wp2_with fail
      go_ret
      exact ⟨by rw [HE.out]; rfl, hb⟩
end Go.Proofs.YtbllbpjlkechdaaGreat
end
section
/- Boxes cloned, boxes by ascending ids as the reference lists them. -/
namespace Go.Proofs.YtbllbpjlkechdaaGreat
open Go Go.ChangeShapes Go.WideShapes Go.ChangeAt Go.RowKit
set_option linter.unusedVariables false
theorem box_infoD : Info Tryz.prog 78 (.agg #[.int .i64 0, .int .i64 0, .int .i64 0, .int .i64 0, .bool false]) 5 40 := Info.mk' box_info rfl (by decide) (by decide)
theorem boxs_cell (zs : List BoxV) : ∀ u ∈ boxs zs, u.oneCell' = true := by
  intro u hu
  simp only [boxs, cellsOf, List.mem_flatMap] at hu
  obtain ⟨z, _, hz⟩ := hu
  simp only [boxC, List.mem_cons, List.not_mem_nil, or_false] at hz
  rcases hz with rfl | rfl | rfl | rfl | rfl <;> rfl
theorem boxs_rd_none {w : World} {zs : List BoxV} (h : RdV w none (boxs zs)) : zs = [] := by
  rcases h with h | ⟨b, off, e, _⟩
  · have := boxs_len zs
    rw [h] at this
    exact List.eq_nil_of_length_eq_zero (by simp at this; omega)
  · cases e
/-- a slice of boxes of the call's own -/
def BoxOut (w : World) (base : Nat) (L : List BoxV) : Ending → World → Prop :=
  RVal fun u w' => ∃ A n c, u = .slice A n c ∧ L.length = n ∧ w'.ownsRow base 78 5 (.slice A n c) n (boxs L) ∧ Below w.heap.size w w'
theorem BoxOut.mk {w w' : World} {base : Nat} {L : List BoxV} {A : Option Addr} {n c : Nat} (hl : L.length = n) (ho : w'.ownsRow base 78 5 (.slice A n c) n (boxs L)) (hb : Below w.heap.size w w') : BoxOut w base L (.returned (.slice A n c)) w' := RVal.mk ⟨A, n, c, rfl, hl, ho, hb⟩
theorem eqn_box (w : World) (a : Option Addr) (n c n' c' : Nat) : (binOp .eql 38 (.slice a n c) (.slice none n' c')).run Tryz.prog w = .ok (.bool a.isNone) w := Lib.run_eql_slice_nil w _ _ a n c n' c' Tryz.underlying38
end Go.Proofs.YtbllbpjlkechdaaGreat
end
section
/- Boxes and differences that came in, read. -/
namespace Go.Proofs.YtbllbpjlkechdaaGreat
open Go Go.ChangeShapes Go.WideShapes Go.ChangeAt Go.RowKit Go.Deep
set_option linter.unusedVariables false
section
variable {H : Type} {enc : TypeId × Value → H} {P : Program} {w : World} {base : Nat} {spare : Nat → Bool} {held : Bool}
theorem trod_struct5 {t : TypeId} {f0 f1 f2 f3 f4 : Field} {fuel : Nat} {cs : List Value} {x : DataW H × List MemPlace} (ht : P.underlying t = some (.struct #[f0, f1, f2, f3, f4])) (h : DataW.trod enc P w base spare held fuel t cs = some x) :
    ∃ y0 y1 y2 y3 y4 n, cs.length = P.cellsOf t ∧ DataW.trod enc P w base spare held n f0.type ((cs.drop f0.offset).take (P.cellsOf f0.type)) = some y0 ∧ DataW.trod enc P w base spare held n f1.type ((cs.drop f1.offset).take (P.cellsOf f1.type)) = some y1 ∧
      DataW.trod enc P w base spare held n f2.type ((cs.drop f2.offset).take (P.cellsOf f2.type)) = some y2 ∧ DataW.trod enc P w base spare held n f3.type ((cs.drop f3.offset).take (P.cellsOf f3.type)) = some y3 ∧ DataW.trod enc P w base spare held n f4.type ((cs.drop f4.offset).take (P.cellsOf f4.type)) = some y4 := by
  obtain ⟨xs, n, _, rfl, hl, hlen, hf⟩ := DataW.trod_struct ht h
  match xs, hlen with
  | [y0, y1, y2, y3, y4], _ => exact ⟨y0, y1, y2, y3, y4, n, hl, by simpa using hf 0 f0 rfl, by simpa using hf 1 f1 rfl, by simpa using hf 2 f2 rfl, by simpa using hf 3 f3 rfl, by simpa using hf 4 f4 rfl⟩
end
section
variable {H : Type} {enc : TypeId × Value → H} {w : World} {base : Nat} {spare : Nat → Bool} {held : Bool}
set_option maxRecDepth 100000 in
theorem box_one {cs : List Value} {n : Nat} {y : DataW H × List MemPlace} (hy : DataW.trod enc Tryz.prog w base spare held n 81 cs = some y) : ∃ z : BoxV, cs = boxC z := by
  obtain ⟨q0, q1, q2, q3, q4, m, hl, t0, t1, t2, t3, t4⟩ := trod_struct5 Tryz.underlying81 hy
  rw [show Tryz.prog.cellsOf 81 = 5 from by kernel_rfl] at hl
  rw [show Tryz.prog.cellsOf _ = 1 from by kernel_rfl] at t0 t1 t2 t3 t4
  obtain ⟨c0, c1, c2, c3, c4, rfl⟩ : ∃ a b c d e, cs = [a, b, c, d, e] := by
    match cs, hl with
    | [a, b, c, d, e], _ => exact ⟨a, b, c, d, e, rfl⟩
  obtain ⟨a0, e0, _⟩ := DataW.trod_int (t := 3) Tryz.underlying3 t0
  obtain ⟨a1, e1, _⟩ := DataW.trod_int (t := 3) Tryz.underlying3 t1
  obtain ⟨a2, e2, _⟩ := DataW.trod_int (t := 3) Tryz.underlying3 t2
  obtain ⟨a3, e3, _⟩ := DataW.trod_int (t := 3) Tryz.underlying3 t3
  obtain ⟨a4, e4, _⟩ := DataW.trod_bool (t := 4) Tryz.underlying4 t4
  simp at e0 e1 e2 e3 e4
  exact ⟨⟨a0, a1, a2, a3, a4⟩, by rw [e0, e1, e2, e3, e4]; rfl⟩
/-- boxes that came in -/
structure BoxsD where
  A : Option Addr
  c : Nat
  zs : List BoxV
def IsBoxs (w : World) (v : Value) (d : BoxsD) : Prop := v = .slice d.A d.zs.length d.c ∧ RdV w d.A (boxs d.zs) ∧ d.zs.length ≤ maxLen
set_option maxRecDepth 100000 in
theorem read_boxes {b0 : Nat} {r : Reach} {v : Value} {d : DataW H} {p : List MemPlace}
    (hv : Value.okWide Tryz.prog w r b0 27 v) (h : DataW.Trod enc Tryz.prog w base spare held 27 v d p) : ∃ a, IsBoxs w v a := by
  obtain ⟨A, n, c, rfl⟩ := okWide_slice Tryz.underlying27 hv
  obtain ⟨fuel, h⟩ := h
  obtain ⟨A', n', c', ds, e, rfl, g1, g2, g3⟩ := read_list (α := BoxV) (ec := boxC) boxC_len (by decide) Tryz.underlying27 (by kernel_rfl) (fun cs n y hy => box_one hy) h
  injection e with e1 e2 e3
  subst e1 e2 e3
  exact ⟨⟨A, c, ds⟩, rfl, g3, Nat.le_trans g1 g2⟩
end
end Go.Proofs.YtbllbpjlkechdaaGreat
end
