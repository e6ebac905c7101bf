/- What the exact laws do with papers: their size, a copy, whether two are equal, marks; what a row's reading gives. -/
import Derived.Test.YtpkbipjnobfcdaaPapG
import Derived.Test.YtpkbipjnobfcdaaHldM
import Derived.Test.YtpkbipjnobfcdaaDedS
import Derived.Test.YtpkbipjnobfcdaaFlatR
import Derived.Test.YtpkbipjnobfcdaaIntM
import Derived.Test.YtpkbipjnobfcdaaIntSS
import Derived.Test.YtpkbipjnobfcdaaRRO
import Derived.Lib.SmallJoins
import Derived.Deep.Strs
namespace Go.Proofs.Ytpkbipjnobfcdaa
open Go Go.ChangeShapes Go.WideShapes Go.ChangeAt Go.RowKit Go.Deep
set_option linter.unusedVariables false
/-- papers that may be read -/
structure PapRd (w : World) (HA LA : Option Addr) (n m : Nat) (hs : List HoldV) (ls : List Int) : Prop where
  hn : hs.length = n
  hm : ls.length = m
  hold : RdV w HA (holds hs)
  left : RdV w LA (ints ls)
theorem PapRd.later {w w' : World} {HA LA : Option Addr} {n m : Nat} {hs : List HoldV} {ls : List Int} (h : PapRd w HA LA n m hs ls) (hb : Below w.heap.size w w') : PapRd w' HA LA n m hs ls := ⟨h.hn, h.hm, h.hold.below hb, h.left.below hb⟩
/-- papers whose rows lie between lo and hi -/
structure PapI (w : World) (lo hi : Nat) (HA : Option Addr) (n hc : Nat) (LA : Option Addr) (m lc : Nat) (hs : List HoldV) (ls : List Int) : Prop where
  hn : hs.length = n
  hm : ls.length = m
  hold : OwnI w lo hi 38 2 (.slice HA n hc) n (holds hs)
  left : OwnI w lo hi 3 1 (.slice LA m lc) m (ints ls)
section
variable {w w' : World} {lo hi n hc m lc : Nat} {HA LA : Option Addr} {hs : List HoldV} {ls : List Int}
theorem PapI.rd (h : PapI w lo hi HA n hc LA m lc hs ls) : PapRd w HA LA n m hs ls := ⟨h.hn, h.hm, h.hold.rd, h.left.rd⟩
theorem PapI.out {lo' hi' : Nat} (h : PapI w lo hi HA n hc LA m lc hs ls) (ho : Out lo' hi' w w') (hd : hi ≤ lo' ∨ hi' ≤ lo) : PapI w' lo hi HA n hc LA m lc hs ls := ⟨h.hn, h.hm, h.hold.out ho hd, h.left.out ho hd⟩
theorem PapI.later (h : PapI w lo hi HA n hc LA m lc hs ls) (hb : Below w.heap.size w w') : PapI w' lo hi HA n hc LA m lc hs ls := ⟨h.hn, h.hm, h.hold.later hb, h.left.later hb⟩
theorem PapI.cap (h : PapI w lo hi HA n hc LA m lc hs ls) : m ≤ lc := by
  obtain ⟨A, c, e, h1, h2⟩ := own_slice h.left.row
  injection e with _ _ e3
  omega
end
theorem ownI_set {w : World} {lo hi b i : Nat} {e : TypeId} {size n : Nat} {v : Value} {xs : List Value} (h : OwnI w lo hi e size v n xs) (u : Value) (hb : b < lo ∨ hi ≤ b) : OwnI (w.setCell ⟨b, i, none⟩ u) lo hi e size v n xs :=
  h.out (lo' := b) (hi' := b + 1) ⟨rfl, rfl, rfl, by simp [World.setCell], fun k _ hk => Below.heap_setCell w ⟨b, i, none⟩ u k (by show k ≠ b; omega)⟩ (by omega)
theorem szPapers_any (HA LA : Option Addr) (n hc m lc : Nat) (w : World) (h1' : n ≤ maxLen) (h2' : m ≤ maxLen) :
    Calls Try.prog 24 #[.agg #[.slice HA n hc, .slice LA m lc], .int .i64 1048576] w (RInt fun r w' => r ≤ 1048576 ∧ (0 ≤ r → n ≤ 1048576 ∧ m ≤ 1048576) ∧ Below w.heap.size w w') := by
  have h1 : n ≤ 9223372036854775807 := h1'
  have h2 : m ≤ 9223372036854775807 := h2'
  have hbl : Below w.heap.size w (w.alloc (.cells #[.slice HA n hc, .slice LA m lc] 50)) := (Below.refl _ _).alloc (Nat.le_refl _) _
  have HBL := Lib.hid hbl
  clear hbl h1' h2'
  go_enter Try.func24, Try.ntmps24
  go_wp2_with fail
  refine (szHoldS_any HA n hc _ h1 _ (by omega) (by omega)).mono ?_
  rintro e w' ⟨r, rfl, hr1, hr2, rfl⟩
  by_cases h0 : 0 ≤ r
  · have hn := hr2 h0
    clear hr2
    go_wp2_with fail
    refine (szIntS_any LA m lc _ h2 r h0 hr1).mono ?_
    rintro e w' ⟨r2, rfl, hq1, hq2, rfl⟩
    have HQ := Lib.hid hq2
    clear hq2
    by_cases h3 : 0 ≤ r2
    · have hm : m ≤ 1048576 := by have := HQ.out h3; omega
      go_wp2_with fail
      go_ret
      exact RInt.mk ⟨by omega, fun _ => ⟨by omega, hm⟩, HBL.out⟩
    · go_wp2_with fail
      go_ret
      exact RInt.mk ⟨by omega, fun h => by omega, HBL.out⟩
  · clear hr2
    go_wp2_with fail
    go_ret
    exact RInt.mk ⟨by omega, fun h => by omega, HBL.out⟩
/-- papers in memory of the call's own -/
def PapNew (w : World) (n m : Nat) (hs : List HoldV) (ls : List Int) : Ending → World → Prop :=
  RVal fun u w' => ∃ HA hc LA lc, u = .agg #[.slice HA n hc, .slice LA m lc] ∧ PapI w' w.heap.size w'.heap.size HA n hc LA m lc hs ls ∧ Below w.heap.size w w'
theorem Out.base' {lo hi : Nat} {w : World} {e : TypeId} {size n lo' : Nat} {v : Value} {xs : List Value} (h : OwnI w lo hi e size v n xs) (h1 : lo' ≤ lo) : OwnI w lo' w.heap.size e size v n xs :=
  ⟨own_base h.row h1, fun g e => Nat.lt_of_lt_of_le (h.lt g e) h.top, Nat.le_refl _⟩
set_option maxHeartbeats 1000000 in
theorem toPapers_any (HA LA : Option Addr) (n hc m lc : Nat) (hs : List HoldV) (ls : List Int) (w : World) (h : PapRd w HA LA n m hs ls) (h1 : n ≤ 1048576) (h2 : m ≤ 1048576) :
    Calls Try.prog 25 #[.agg #[.slice HA n hc, .slice LA m lc]] w (PapNew w n m hs ls) := by
  obtain ⟨hn, hm, hr, hl⟩ := h
  have HN := Lib.hid hn
  have HM := Lib.hid hm
  have hbl : Below w.heap.size w (((w.alloc (.cells #[.slice HA n hc, .slice LA m lc] 50)).alloc (.cells #[.slice none 0 0, .slice none 0 0] 26)).alloc (.cells #[.slice none 0 0, .slice none 0 0] 26)) := (((Below.refl _ _).alloc (Nat.le_refl _) _).alloc (by simp) _).alloc (by simp; omega) _
  have a0 := (Blk.new w 50 [.slice HA n hc, .slice LA m lc]).alloc (.cells #[.slice none 0 0, .slice none 0 0] 26) |>.alloc (.cells #[.slice none 0 0, .slice none 0 0] 26)
  have a1 := (Blk.new (w.alloc (.cells #[.slice HA n hc, .slice LA m lc] 50)) 26 [.slice none 0 0, .slice none 0 0]).alloc (.cells #[.slice none 0 0, .slice none 0 0] 26)
  have a2 := Blk.new ((w.alloc (.cells #[.slice HA n hc, .slice LA m lc] 50)).alloc (.cells #[.slice none 0 0, .slice none 0 0] 26)) 26 [.slice none 0 0, .slice none 0 0]
  simp only [World.size_alloc] at a1 a2
  have hr' := hr.below hbl
  have HL := Lib.hid hl
  have HBL := Lib.hid hbl
  have hsz : w.heap.size + 1 + 1 + 1 ≤ (((w.alloc (.cells #[.slice HA n hc, .slice LA m lc] 50)).alloc (.cells #[.slice none 0 0, .slice none 0 0] 26)).alloc (.cells #[.slice none 0 0, .slice none 0 0] 26)).heap.size := by simp
  clear hn hm hr hl hbl
  go_enter Try.func25, Try.ntmps25
  go_wp2_with fail
  generalize ((w.alloc (.cells #[.slice HA n hc, .slice LA m lc] 50)).alloc (.cells #[.slice none 0 0, .slice none 0 0] 26)).alloc (.cells #[.slice none 0 0, .slice none 0 0] 26) = w3 at *
  refine (toHoldS_any HA hs n hc HN.out _ hr' h1).mono ?_
  rintro e w4 ⟨rfl, hO, hb4⟩
  have b0 := a0.later hb4
  have b1 := a1.later hb4
  have b2 := a2.later hb4
  have HB4 := Lib.hid (below_trans HBL.out hb4)
  have hO4 := Lib.hid (blk_ownI (size := 2) (n := n) hO (Nat.le_refl _) (by rw [holds_len, HN.out]) (by unfold maxLen; omega))
  have x1 := b0.cellAt 1 (by simp)
  simp only [List.getElem_cons_zero, List.getElem_cons_succ] at x1
  have f0 := b2.frozen 0
  have z0 := b2.cellAt 0 (by simp)
  simp only [List.getElem_cons_zero] at z0
  have hlo4 : w3.heap.size ≤ w4.heap.size := hb4.size
  generalize w3.heap.size = k3 at *
  have c1 := b1.far (p := ⟨w.heap.size + 1 + 1, 0, none⟩) (by show w.heap.size + 1 ≠ w.heap.size + 1 + 1; omega) (.slice (some ⟨k3, 0, none⟩) n n)
  have c2 := b2.set_ 0 (.slice (some ⟨k3, 0, none⟩) n n)
  have x1' := (b0.far (p := ⟨w.heap.size + 1 + 1, 0, none⟩) (by show w.heap.size ≠ w.heap.size + 1 + 1; omega) (.slice (some ⟨k3, 0, none⟩) n n)).cellAt 1 (by simp)
  simp only [List.getElem_cons_zero, List.getElem_cons_succ] at x1'
  have hO5 := Lib.hid (ownI_set (b := w.heap.size + 1 + 1) (i := 0) hO4.out (.slice (some ⟨k3, 0, none⟩) n n) (.inl (by omega)))
  have HB5 := Lib.hid (HB4.out.setCell (p := ⟨w.heap.size + 1 + 1, 0, none⟩) (by show w.heap.size ≤ w.heap.size + 1 + 1; omega) (.slice (some ⟨k3, 0, none⟩) n n))
  have HC1 := Lib.hid c1
  have HC2 := Lib.hid c2
  clear a0 a1 a2 hb4 hO b0 b1 b2 hO4 HB4 hr' c1 c2
  go_wp2_with fail
  generalize w4.setCell ⟨w.heap.size + 1 + 1, 0, none⟩ (.slice (some ⟨k3, 0, none⟩) n n) = w5 at *
  refine (toIntS_any LA ls m lc HM.out _ (HL.out.below HB5.out) h2).mono ?_
  rintro e w6 ⟨rfl, hI, hb6⟩
  have d1 := HC1.out.later hb6
  have d2 := HC2.out.later hb6
  have hO6 := hO5.out.later hb6
  have hI6 := blk_ownI (size := 1) (n := m) hI (Nat.le_refl _) (by rw [ints_len, HM.out, Nat.mul_one]) (by unfold maxLen; omega)
  have HB6 := Lib.hid (below_trans HB5.out hb6)
  have hs5 : k3 ≤ w5.heap.size := Nat.le_trans (Nat.le_trans hlo4 hO5.out.top) (Nat.le_refl _)
  have p0 := d2.frozen 1
  have p1 := d1.frozen 0
  have p2 := d1.frozen 1
  have v0 := d2.cellAt 0 (by simp)
  have v1 := d2.cellAt 1 (by simp)
  have u0 := d1.cellAt 0 (by simp)
  have u1 := d1.cellAt 1 (by simp)
  simp only [List.set_cons_zero, List.getElem_cons_zero, List.getElem_cons_succ] at v0 v1 u0 u1
  have lt2 := d2.lt
  have hOut : Out w.heap.size (w.heap.size + 1 + 1 + 1) w6 (((w6.setCell ⟨w.heap.size + 1 + 1, 1, none⟩ (.slice (some ⟨w5.heap.size, 0, none⟩) m m)).setCell ⟨w.heap.size + 1, 0, none⟩ (.slice (some ⟨k3, 0, none⟩) n n)).setCell ⟨w.heap.size + 1, 1, none⟩ (.slice (some ⟨w5.heap.size, 0, none⟩) m m)) :=
    out_set (out_set (out_set (Out.refl _ _ _) _ _ _ (by omega) (by omega)) _ _ _ (by omega) (by omega)) _ _ _ (by omega) (by omega)
  have hA := Out.base' (hO6.out hOut (.inr hsz)) (show w.heap.size ≤ k3 by omega)
  have hB := Out.base' (hI6.out hOut (.inr (by omega))) (show w.heap.size ≤ w5.heap.size by omega)
  have HBF := Lib.hid (below_out HB6.out hOut (Nat.le_refl _))
  have HPI : Hid (PapI (((w6.setCell ⟨w.heap.size + 1 + 1, 1, none⟩ (.slice (some ⟨w5.heap.size, 0, none⟩) m m)).setCell ⟨w.heap.size + 1, 0, none⟩ (.slice (some ⟨k3, 0, none⟩) n n)).setCell ⟨w.heap.size + 1, 1, none⟩ (.slice (some ⟨w5.heap.size, 0, none⟩) m m)) w.heap.size _ _ n n _ m m hs ls) := Lib.hid ⟨HN.out, HM.out, hA, hB⟩
  clear hI hb6 d1 d2 hO6 hI6 HB6 hA hB hOut
  generalize w5.heap.size = k5 at *
  go_wp2_with fail
  refine bodyPost_ret (v := .agg #[.slice (some ⟨k3, 0, none⟩) n n, .slice (some ⟨k5, 0, none⟩) m m]) (by simp [results, Try.results25, go_sem, *]) rfl ?_
  exact RVal.mk ⟨_, _, _, _, rfl, HPI.out, HBF.out⟩
set_option maxHeartbeats 1000000 in
theorem eqPapers_any (HA HB LA LB : Option Addr) (n hc hd m lc ld : Nat) (hs : List HoldV) (ls : List Int) (w : World) (ha : PapRd w HA LA n m hs ls) (hb : PapRd w HB LB n m hs ls) (h1 : n ≤ 1099511627776) (h2 : m ≤ 1099511627776) :
    Calls Try.prog 27 #[.agg #[.slice HA n hc, .slice LA m lc], .agg #[.slice HB n hd, .slice LB m ld]] w fun e w' => e = .returned (.bool true) ∧ Below w.heap.size w w' := by
  have hbl : Below w.heap.size w ((w.alloc (.cells #[.slice HA n hc, .slice LA m lc] 26)).alloc (.cells #[.slice HB n hd, .slice LB m ld] 26)) := ((Below.refl _ _).alloc (Nat.le_refl _) _).alloc (by simp) _
  have a0 := (Blk.new w 26 [.slice HA n hc, .slice LA m lc]).alloc (.cells #[.slice HB n hd, .slice LB m ld] 26)
  have a1 := Blk.new (w.alloc (.cells #[.slice HA n hc, .slice LA m lc] 26)) 26 [.slice HB n hd, .slice LB m ld]
  simp only [World.size_alloc] at a1
  have HBL := Lib.hid hbl
  have HA' := Lib.hid (ha.later hbl)
  have HB' := Lib.hid (hb.later hbl)
  clear ha hb hbl
  go_enter Try.func27, Try.ntmps27
  go_wp2_with fail
  generalize (w.alloc (.cells #[.slice HA n hc, .slice LA m lc] 26)).alloc (.cells #[.slice HB n hd, .slice LB m ld] 26) = w2 at *
  refine (eqHoldS_any HA HB hs n hc hd HA'.out.hn _ HA'.out.hold HB'.out.hold h1).mono ?_
  rintro e w3 ⟨rfl, hb3⟩
  have x1 := (a0.later hb3).cellAt 1 (by simp)
  have y1 := (a1.later hb3).cellAt 1 (by simp)
  simp only [List.getElem_cons_zero, List.getElem_cons_succ] at x1 y1
  have HB3 := Lib.hid hb3
  clear hb3 a0 a1
  go_wp2_with fail
  refine (eqIntS_any LA LB ls m lc ld HA'.out.hm _ (HA'.out.left.below HB3.out) (HB'.out.left.below HB3.out) h2).mono ?_
  rintro e w4 ⟨rfl, hb4⟩
  have HB4 := Lib.hid (below_trans (below_trans HBL.out HB3.out) hb4)
  clear hb4
  go_wp2_with fail
  go_ret
  exact ⟨rfl, HB4.out⟩
set_option maxHeartbeats 1000000 in
theorem markPapers_any (HA LA : Option Addr) (n hc m lc lo hi : Nat) (k : Int) (hs : List HoldV) (ls : List Int) (w : World) (h : PapI w lo hi HA n hc LA m lc hs ls) (h0 : 0 ≤ k) (hk : k + 2 * n + m ≤ 1099511627776) :
    Calls Try.prog 28 #[.agg #[.slice HA n hc, .slice LA m lc], .int .i64 k] w fun e w' => e = .returned (.int .i64 (k + ((2 * n : Nat) : Int) + (m : Int))) ∧ PapI w' lo hi HA n hc LA m lc (marksH k n) (marksI (k + ((2 * n : Nat) : Int)) m) ∧ Out lo hi w w' ∧ (∀ g cs, Blk w g 26 cs → Blk w' g 26 cs) := by
  have hbl : Below w.heap.size w (w.alloc (.cells #[.slice HA n hc, .slice LA m lc] 26)) := (Below.refl _ _).alloc (Nat.le_refl _) _
  have hp := h.later hbl
  have a0 := Blk.new w 26 [.slice HA n hc, .slice LA m lc]
  have hO1 := Lib.hid (Below.out hbl lo hi)
  have HK1 : Hid (∀ g cs, Blk w g 26 cs → Blk (w.alloc (.cells #[.slice HA n hc, .slice LA m lc] 26)) g 26 cs) := Lib.hid fun g cs hb => hb.alloc _
  have htop : hi ≤ w.heap.size := h.hold.top
  have hsz := hbl.size
  clear h hbl
  go_enter Try.func28, Try.ntmps28
  go_wp2_with fail
  generalize w.alloc (.cells #[.slice HA n hc, .slice LA m lc] 26) = w1 at *
  refine (markHoldS_any HA n hc lo k _ _ hp.hold.row h0 (by omega)).mono ?_
  rintro e w2 ⟨rfl, hrow, hgr⟩
  obtain ⟨hH2, ho2⟩ := hp.hold.turned hrow hgr
  have hrow2 := own_own_apart hp.hold.row hgr hp.left.row (by decide)
  have hL2 : OwnI w2 lo hi 3 1 (.slice LA m lc) m (ints ls) := ⟨hrow2, hp.left.lt, Nat.le_trans hp.left.top hgr.size⟩
  have a2 : Blk w2 w.heap.size 26 [.slice HA n hc, .slice LA m lc] := (ho2.block _ a0.lt (.inr htop)).trans a0
  have x1 := a2.cellAt 1 (by simp)
  simp only [List.getElem_cons_zero, List.getElem_cons_succ] at x1
  have HO2 := Lib.hid (hO1.out.trans ho2)
  have HK2 : Hid (∀ g cs, Blk w g 26 cs → Blk w2 g 26 cs) := Lib.hid fun g cs hb => own_blk_apart hp.hold.row hgr (HK1.out g cs hb) (by decide)
  have HH := Lib.hid hH2
  have HL := Lib.hid hL2
  have hk2 : 0 ≤ k + ((2 * n : Nat) : Int) := by omega
  clear hp hrow hgr ho2 hrow2 hH2 hL2 a0 a2
  go_wp2_with fail
  refine (markIntS_any LA m lc lo (k + ((2 * n : Nat) : Int)) _ _ HL.out.row hk2 (by omega)).mono ?_
  rintro e w3 ⟨rfl, hrow, hgr⟩
  obtain ⟨hL3, ho3⟩ := HL.out.turned hrow hgr
  have hrow3 := own_own_apart HL.out.row hgr HH.out.row (by decide)
  have hH3 : OwnI w3 lo hi 38 2 (.slice HA n hc) n (holds (marksH k n)) := ⟨hrow3, HH.out.lt, Nat.le_trans HH.out.top hgr.size⟩
  have HF := Lib.hid (HO2.out.trans ho3)
  have HK3 : Hid (∀ g cs, Blk w g 26 cs → Blk w3 g 26 cs) := Lib.hid fun g cs hb => own_blk_apart HL.out.row hgr (HK2.out g cs hb) (by decide)
  have HP : Hid (PapI w3 lo hi HA n hc LA m lc (marksH k n) (marksI (k + ((2 * n : Nat) : Int)) m)) := Lib.hid ⟨marksH_len _ _, marksI_len _ _, hH3, hL3⟩
  clear hrow hgr hL3 ho3 hrow3 hH3
  go_wp2_with fail
  go_ret
  exact ⟨rfl, HP.out, HF.out, HK3.out⟩
set_option maxHeartbeats 1000000 in
theorem heldPapers_any (HA LA : Option Addr) (n hc m lc : Nat) (k : Int) (w : World) (h : PapRd w HA LA n m (marksH k n) (marksI (k + ((2 * n : Nat) : Int)) m)) (h0 : 0 ≤ k) (hk : k + 2 * n + m ≤ 1099511627776) :
    Calls Try.prog 29 #[.agg #[.slice HA n hc, .slice LA m lc], .int .i64 k] w fun e w' => e = .returned (.int .i64 (k + ((2 * n : Nat) : Int) + (m : Int))) ∧ Below w.heap.size w w' := by
  have hbl : Below w.heap.size w (w.alloc (.cells #[.slice HA n hc, .slice LA m lc] 26)) := (Below.refl _ _).alloc (Nat.le_refl _) _
  have hp := h.later hbl
  have a0 := Blk.new w 26 [.slice HA n hc, .slice LA m lc]
  have HBL := Lib.hid hbl
  clear h hbl
  go_enter Try.func29, Try.ntmps29
  go_wp2_with fail
  generalize w.alloc (.cells #[.slice HA n hc, .slice LA m lc] 26) = w1 at *
  refine (heldHoldS_any HA n hc k _ hp.hold h0 (by omega)).mono ?_
  rintro e w2 ⟨rfl, hb2⟩
  have x1 := (a0.later hb2).cellAt 1 (by simp)
  simp only [List.getElem_cons_zero, List.getElem_cons_succ] at x1
  have HL := Lib.hid (hp.left.below hb2)
  have HB2 := Lib.hid (below_trans HBL.out hb2)
  have hk2 : 0 ≤ k + ((2 * n : Nat) : Int) := by omega
  clear hp hb2 a0
  go_wp2_with fail
  refine (heldIntS_any LA m lc (k + ((2 * n : Nat) : Int)) _ HL.out hk2 (by omega)).mono ?_
  rintro e w3 ⟨rfl, hb3⟩
  have HB3 := Lib.hid (below_trans HB2.out hb3)
  have hk3 : 0 ≤ k + ((2 * n : Nat) : Int) + (m : Int) := by omega
  clear hb3
  go_wp2_with fail
  go_ret
  exact ⟨rfl, HB3.out⟩
instance : Inhabited HoldV := ⟨⟨0, 0⟩⟩
instance : Inhabited PaperDeedV := ⟨⟨0, 0, 0⟩⟩
/-- papers that came in -/
structure PapD where
  HA : Option Addr
  hc : Nat
  LA : Option Addr
  lc : Nat
  hs : List HoldV
  ls : List Int
def IsPap (w : World) (v : Value) (d : PapD) : Prop := v = .agg #[.slice d.HA d.hs.length d.hc, .slice d.LA d.ls.length d.lc] ∧ PapRd w d.HA d.LA d.hs.length d.ls.length d.hs d.ls ∧ d.hs.length ≤ maxLen ∧ d.ls.length ≤ maxLen
set_option maxRecDepth 100000 in
theorem read_papers {H : Type} {enc : TypeId × Value → H} {w : World} {base b0 : Nat} {spare : Nat → Bool} {held : Bool} {r : Reach} {v : Value} {d : DataW H} {p : List MemPlace}
    (hv : Value.okWide Try.prog w r b0 50 v) (h : DataW.Trod enc Try.prog w base spare held 50 v d p) : ∃ a, IsPap w v a := by
  obtain ⟨v0, v1, y0, y1, n, rfl, _, _, h0, h1⟩ := Joins.open_agg2 Try.underlying50 (by kernel_rfl) (by kernel_rfl) hv h
  obtain ⟨HA, n0, hc, hs, rfl, rfl, g1, g2, g3⟩ := read_list (α := HoldV) (ec := holdC) holdC_len (by decide) Try.underlying48 (by kernel_rfl) (fun cs n y hy => by
    obtain ⟨q0, q1, m, _, hl, t0, t1⟩ := trod_struct2 Try.underlying99 hy
    rw [show Try.prog.cellsOf 99 = 2 from by kernel_rfl] at hl
    rw [show Try.prog.cellsOf _ = 1 from by kernel_rfl] at t0 t1
    obtain ⟨c0, c1, rfl⟩ : ∃ a b, cs = [a, b] := by
      match cs, hl with
      | [a, b], _ => exact ⟨a, b, rfl⟩
    obtain ⟨a0, e0, _⟩ := DataW.trod_int (t := 3) Try.underlying3 t0
    obtain ⟨a1, e1, _⟩ := DataW.trod_int (t := 3) Try.underlying3 t1
    simp at e0 e1
    exact ⟨⟨a0, a1⟩, by rw [e0, e1]; rfl⟩) h0
  obtain ⟨LA, n1, lc, ls, rfl, rfl, k1, k2, k3⟩ := read_intlist Try.underlying24 Try.underlying3 (by kernel_rfl) h1
  exact ⟨⟨HA, hc, LA, lc, hs, ls⟩, rfl, ⟨rfl, rfl, g3, k3⟩, Nat.le_trans g1 g2, Nat.le_trans k1 k2⟩
/-- a deed that came in -/
def IsDeed (_ : World) (v : Value) (m : PaperDeedV) : Prop := v = .agg #[.int .i64 m.f0, .int .i64 m.f1, .int .i64 m.f2]
set_option maxRecDepth 100000 in
theorem read_deed {H : Type} {enc : TypeId × Value → H} {w : World} {base b0 : Nat} {spare : Nat → Bool} {held : Bool} {r : Reach} {v : Value} {d : DataW H} {p : List MemPlace}
    (hv : Value.okWide Try.prog w r b0 51 v) (h : DataW.Trod enc Try.prog w base spare held 51 v d p) : ∃ a, IsDeed w v a := by
  obtain ⟨v0, v1, v2, y0, y1, y2, n, rfl, _, _, h0, h1, h2⟩ := Joins.open_agg3 Try.underlying51 (by kernel_rfl) (by kernel_rfl) hv h
  obtain ⟨a0, e0, _⟩ := DataW.trod_int (t := 3) Try.underlying3 h0
  obtain ⟨a1, e1, _⟩ := DataW.trod_int (t := 3) Try.underlying3 h1
  obtain ⟨a2, e2, _⟩ := DataW.trod_int (t := 3) Try.underlying3 h2
  simp at e0 e1 e2
  subst e0 e1 e2
  exact ⟨⟨a0, a1, a2⟩, rfl⟩
/-- deeds that came in -/
structure DeedsD where
  A : Option Addr
  c : Nat
  ds : List PaperDeedV
def IsDeeds (w : World) (v : Value) (d : DeedsD) : Prop := v = .slice d.A d.ds.length d.c ∧ RdV w d.A (paperdeeds d.ds) ∧ d.ds.length ≤ maxLen
set_option maxRecDepth 100000 in
theorem read_deeds {H : Type} {enc : TypeId × Value → H} {w : World} {base b0 : Nat} {spare : Nat → Bool} {held : Bool} {r : Reach} {v : Value} {d : DataW H} {p : List MemPlace}
    (hv : Value.okWide Try.prog w r b0 59 v) (h : DataW.Trod enc Try.prog w base spare held 59 v d p) : ∃ a, IsDeeds w v a := by
  obtain ⟨A, n, c, rfl⟩ := okWide_slice Try.underlying59 hv
  obtain ⟨fuel, h⟩ := h
  obtain ⟨A', n', c', ds, e, rfl, g1, g2, g3⟩ := read_list (α := PaperDeedV) (ec := paperdeedC) paperdeedC_len (by decide) Try.underlying59 (by kernel_rfl) (fun cs n y hy => by
    obtain ⟨q0, q1, q2, m, _, hl, t0, t1, t2⟩ := trod_struct3 Try.underlying51 hy
    rw [show Try.prog.cellsOf 51 = 3 from by kernel_rfl] at hl
    rw [show Try.prog.cellsOf _ = 1 from by kernel_rfl] at t0 t1 t2
    obtain ⟨c0, c1, c2, rfl⟩ : ∃ a b c, cs = [a, b, c] := by
      match cs, hl with
      | [a, b, c], _ => exact ⟨a, b, c, rfl⟩
    obtain ⟨a0, e0, _⟩ := DataW.trod_int (t := 3) Try.underlying3 t0
    obtain ⟨a1, e1, _⟩ := DataW.trod_int (t := 3) Try.underlying3 t1
    obtain ⟨a2, e2, _⟩ := DataW.trod_int (t := 3) Try.underlying3 t2
    simp at e0 e1 e2
    exact ⟨⟨a0, a1, a2⟩, by rw [e0, e1, e2]; rfl⟩) h
  injection e with e1 e2 e3
  subst e1 e2 e3
  exact ⟨⟨A, c, ds⟩, rfl, g3, Nat.le_trans g1 g2⟩
end Go.Proofs.Ytpkbipjnobfcdaa
