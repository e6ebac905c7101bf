/- What the exact laws do with a yard: its size, a copy, whether two are equal, marks; what a row's reading gives. -/
import Derived.Test.YtenhmndknfhigaaDoorYdC
import Derived.Test.YtenhmndknfhigaaDoorFrame
import Derived.Lib.SmallJoins
import Derived.Deep.Strs
import Derived.Deep.Slices
namespace Go.Proofs.YtenhmndknfhigaaDoor
open Go Go.ChangeShapes Go.WideShapes Go.ChangeAt Go.RowKit Go.Deep
set_option linter.unusedVariables false
/-- a yard as it came in -/
structure YardIn (w : World) (A : Option Addr) (n : Nat) (rows : List (List Int)) : Prop where
  len : rows.length = n
  rd : RdRR w A (intss rows)
  max : n ≤ 9223372036854775807
theorem YardIn.below {w w' : World} {A : Option Addr} {n : Nat} {rows : List (List Int)} (h : YardIn w A n rows) (hb : Below w.heap.size w w') : YardIn w' A n rows := ⟨h.len, h.rd.below hb, h.max⟩
/-- none of it is great -/
def YardSmall (n : Nat) (rows : List (List Int)) : Prop := n + totI rows ≤ 1048576
theorem tot_mem {rows : List (List Int)} : ∀ s ∈ rows, s.length ≤ totI rows := by
  induction rows with
  | nil => intro s hs; simp at hs
  | cons a l ih =>
    intro s hs
    have e : totI (a :: l) = a.length + totI l := by simp [totI]
    rcases List.mem_cons.1 hs with rfl | hs
    · omega
    · have := ih s hs
      omega
theorem szYard_any (high : Int) (A : Option Addr) (n c : Nat) (rows : List (List Int)) (w : World) (h : YardIn w A n rows) :
    Calls Tryd.prog 4 #[.agg #[.int .i64 high, .slice A n c], .int .i64 1048576] w (RInt fun r w' => (0 ≤ r → YardSmall n rows) ∧ Below w.heap.size w w') := by
  obtain ⟨h2, h3, h4⟩ := h
  have H2 := Lib.hid h2
  have hbl : Below w.heap.size w (w.alloc (.cells #[.int .i64 high, .slice A n c] 24)) := (Below.refl _ _).alloc (Nat.le_refl _) _
  have HBL := Lib.hid hbl
  have h3' := h3.below hbl
  clear h2 h3 hbl
  go_enter Tryd.func4, Tryd.ntmps4
  go_wp2_with fail
  refine (szIntSS_any A rows n c H2.out _ h3' h4 _ (by omega) (by omega)).mono ?_
  rintro e w' ⟨r, rfl, hr1, hr2, rfl⟩
  have HR : Hid (0 ≤ r → YardSmall n rows) := Lib.hid fun h => by
    have := hr2 h
    unfold YardSmall
    omega
  clear hr2
  by_cases h0 : 0 ≤ r
  · go_wp2_with fail
    go_ret
    exact RInt.mk ⟨HR.out, HBL.out⟩
  · go_wp2_with fail
    go_ret
    exact RInt.mk ⟨fun h => by omega, HBL.out⟩
set_option maxHeartbeats 1000000 in
theorem toYard_any (high : Int) (A : Option Addr) (n c : Nat) (rows : List (List Int)) (w : World) (h : YardIn w A n rows) (hs : YardSmall n rows) :
    Calls Tryd.prog 6 #[.agg #[.int .i64 high, .slice A n c]] w (YardOut w high n rows) := by
  obtain ⟨h2, h3, h4⟩ := h
  have H2 := Lib.hid h2
  unfold YardSmall at hs
  have hbl : Below w.heap.size w (((w.alloc (.cells #[.int .i64 high, .slice A n c] 24)).alloc (.cells #[.int .i64 0, .slice none 0 0] 27)).alloc (.cells #[.int .i64 high, .slice none 0 0] 27)) := (((Below.refl _ _).alloc (Nat.le_refl _) _).alloc (by simp) _).alloc (by simp; omega) _
  have HBL := Lib.hid hbl
  have h3' := h3.below hbl
  clear h2 h3 hbl
  go_enter Tryd.func6, Tryd.ntmps6
  go_wp2_with fail
  refine (toIntSS_any A rows n c H2.out _ h3' (by omega) (fun zs hz => by have := tot_mem zs hz; omega)).mono ?_
  rintro e w1 ⟨rfl, ho, hb1⟩
  obtain ⟨hc, hf⟩ := bcell hb1
  have hz : w.heap.size + 1 + 1 + 1 ≤ w1.heap.size := by have := hb1.size; simp at this; omega
  simp only [World.size_alloc] at ho
  have HO := Lib.hid ho
  have HB := Lib.hid hb1
  clear ho hb1 h3'
  go_wp2_with fail
  refine bodyPost_ret (v := .agg #[.int .i64 high, .slice (some ⟨w.heap.size + 1 + 1 + 1, 0, none⟩) n n]) (by simp [results, Tryd.results6, go_sem, hc]) rfl ?_
  have hO : Out w.heap.size (w.heap.size + 1 + 1 + 1) w1 (((w1.setCell ⟨w.heap.size + 1 + 1, 1, none⟩ (.slice (some ⟨w.heap.size + 1 + 1 + 1, 0, none⟩) n n)).setCell ⟨w.heap.size + 1, 0, none⟩ (.int .i64 high)).setCell ⟨w.heap.size + 1, 1, none⟩ (.slice (some ⟨w.heap.size + 1 + 1 + 1, 0, none⟩) n n)) :=
    out_set (out_set (out_set (Out.refl _ _ _) _ _ _ (by omega) (by omega)) _ _ _ (by omega) (by omega)) _ _ _ (by omega) (by omega)
  have hbb : Below w.heap.size w w1 := HBL.out.trans (HB.out.mono (by simp; omega))
  exact RVal.mk ⟨_, _, rfl, ((HO.out.out hO (.inr (Nat.le_refl _))).base (by omega)).hi hO.size (Nat.le_refl _), below_out hbb hO (Nat.le_refl _)⟩
set_option maxHeartbeats 1000000 in
theorem eqYard_any (high : Int) (A B : Option Addr) (n c d : Nat) (rows : List (List Int)) (w : World) (hn : rows.length = n) (ha : RdRR w A (intss rows)) (hb : RdRR w B (intss rows)) (hm : n ≤ 1099511627776) (hin : ∀ zs ∈ rows, zs.length ≤ 1099511627776) :
    Calls Tryd.prog 8 #[.agg #[.int .i64 high, .slice A n c], .agg #[.int .i64 high, .slice B n d]] w fun e w' => e = .returned (.bool true) ∧ Below w.heap.size w w' := by
  have HN := Lib.hid hn
  have HI := Lib.hid hin
  have hne : (high != high) = false := by simp
  have hbl : Below w.heap.size w ((w.alloc (.cells #[.int .i64 high, .slice A n c] 27)).alloc (.cells #[.int .i64 high, .slice B n d] 27)) := ((Below.refl _ _).alloc (Nat.le_refl _) _).alloc (by simp) _
  have HBL := Lib.hid hbl
  have ha' := ha.below hbl
  have hb' := hb.below hbl
  clear hn hin hbl ha hb
  go_enter Tryd.func8, Tryd.ntmps8
  go_wp2_with fail
  refine (eqIntSS_any A B rows n c d HN.out _ ha' hb' hm HI.out).mono ?_
  rintro e w1 ⟨rfl, hb1⟩
  go_wp2_with fail
  go_ret
  exact ⟨rfl, below_trans HBL.out hb1⟩
theorem rdVI_of_cells {w : World} {x : Addr} {cs : List Value} (hc : ∀ i (h : i < cs.length), w.cell? (x.add i) = some cs[i]) : RdV w (some x) cs := by
  rcases Nat.eq_zero_or_pos cs.length with h0 | h0
  · exact .inl (List.eq_nil_of_length_eq_zero h0)
  · obtain ⟨b, off, spot⟩ := x
    have h1 := hc 0 h0
    have hs : spot = none := by simpa [Addr.add] using World.cell?_spot h1
    subst hs
    have hlt : b < w.heap.size := by
      have := World.block_lt_of_cell? w _ h1
      simpa [Addr.add] using this
    refine .inr ⟨b, off, rfl, hlt, fun j hj => ?_⟩
    have h2 := hc j hj
    have he : (⟨b, off, none⟩ : Addr).add j = ⟨b, off + j, none⟩ := by
      unfold Addr.add; split <;> simp_all
    rw [he] at h2
    exact h2
section
variable {H : Type} {enc : TypeId × Value → H} {P : Program} {w : World} {base : Nat} {spare : Nat → Bool} {held : Bool}
theorem read_introw {t e : TypeId} {v : Value} {fuel : Nat} {x : DataW H × List MemPlace} (ht : P.underlying t = some (.slice e)) (he : P.underlying e = some (.int .i64)) (hC : P.cellsOf e = 1)
    (h : DataW.trod enc P w base spare held fuel t [v] = some x) : ∃ (A : Option Addr) (n c : Nat) (ss : List Int), v = .slice A n c ∧ ss.length = n ∧ n ≤ c ∧ c ≤ maxLen ∧ RdV w A (ints ss) := by
  rcases open_ints ht he hC h with ⟨hcs, _⟩ | ⟨a, l, c', zs, hcs, _, hl, hm, hz, _, hcell, hwz⟩
  · simp at hcs
    exact ⟨none, 0, 0, [], hcs, rfl, Nat.le_refl _, by decide, RdV.nil_⟩
  · simp at hcs
    have hz' : l ≤ zs.length := by rw [hz]; split <;> omega
    exact ⟨some a, l, c', zs.take l, hcs, by simp; omega, hl, hm, row_of_cells l (by omega) hcell⟩
theorem read_introws {t e q : TypeId} {v : Value} {fuel : Nat} {x : DataW H × List MemPlace} (ht : P.underlying t = some (.slice e)) (he : P.underlying e = some (.slice q)) (hq : P.underlying q = some (.int .i64)) (ce : P.cellsOf e = 1) (cq : P.cellsOf q = 1)
    (h : DataW.trod enc P w base spare held fuel t [v] = some x) : ∃ (A : Option Addr) (n c : Nat) (ess : List (List Int)), v = .slice A n c ∧ ess.length = n ∧ n ≤ c ∧ c ≤ maxLen ∧ RdRR w A (intss ess) := by
  rcases open_slice1 ht ce h with ⟨hcs, _⟩ | ⟨a, len, cap, m, n, V, D, Pl, hcs, _, hl, hm, hmm, _, hx⟩
  · simp at hcs
    exact ⟨none, 0, 0, [], hcs, rfl, Nat.le_refl _, by decide, RdRR.nil_⟩
  · simp at hcs
    have hlm : len ≤ m := by rw [hmm]; split <;> omega
    have each : ∀ i, i < len → ∃ ss : List Int, ∃ A c, V i = .slice A ss.length c ∧ ss.length ≤ c ∧ c ≤ maxLen ∧ RdV w A (ints ss) := fun i hi => by
      obtain ⟨A, n', c, ss, h1, h2, h3, h4, h5⟩ := read_introw he hq cq (hx i (by omega)).2
      subst h2
      exact ⟨ss, A, c, h1, h3, h4, h5⟩
    obtain ⟨F, hF⟩ := choose_lt each
    refine ⟨some a, len, cap, (List.range len).map F, hcs, by simp, hl, hm, ⟨(List.range len).map V, by simp [intss], rdVI_of_cells fun i hi => ?_, fun i hi => ?_⟩⟩
    · have hi' : i < len := by simpa using hi
      rw [(hx i (by omega)).1]
      simp
    · have hi' : i < len := by simpa [intss] using hi
      obtain ⟨A, c, h1, h3, h4, h5⟩ := hF i hi'
      have e : (intss ((List.range len).map F))[i]'hi = ints (F i) := by simp [intss]
      rw [e, ints_len]
      exact ⟨A, c, by simp [hi', h1], h3, h4, h5⟩
end
/-- a yard that came in -/
structure YardD where
  high : Int
  A : Option Addr
  n : Nat
  c : Nat
  rows : List (List Int)
def IsYard (w : World) (v : Value) (d : YardD) : Prop := v = .agg #[.int .i64 d.high, .slice d.A d.n d.c] ∧ YardIn w d.A d.n d.rows
set_option maxRecDepth 100000 in
theorem read_yard {H : Type} {enc : TypeId × Value → H} {w : World} {base b0 : Nat} {spare : Nat → Bool} {held : Bool} {r : Reach} {v : Value} {d : DataW H} {p : List MemPlace}
    (hv : Value.okWide Tryd.prog w r b0 24 v) (h : DataW.Trod enc Tryd.prog w base spare held 24 v d p) : ∃ a, IsYard w v a := by
  obtain ⟨v0, v1, y0, y1, n, rfl, _, _, h0, h1⟩ := Joins.open_agg2 Tryd.underlying24 (by kernel_rfl) (by kernel_rfl) hv h
  obtain ⟨a0, e0, _⟩ := DataW.trod_int (t := 3) Tryd.underlying3 h0
  simp at e0
  subst e0
  obtain ⟨A, n', c, ess, rfl, h2, h3, h4, h5⟩ := read_introws (t := 22) (e := 34) (q := 3) Tryd.underlying22 Tryd.underlying34 Tryd.underlying3 (by kernel_rfl) (by kernel_rfl) h1
  unfold maxLen at h4
  exact ⟨⟨a0, A, n', c, ess⟩, rfl, h2, h5, by show n' ≤ _; omega⟩
end Go.Proofs.YtenhmndknfhigaaDoor
