/- What the exact laws do with a yard: its size, a copy, whether two are equal, marks; what a row's reading gives. -/
import Derived.Test.YtcdjgbechigepaaDoorYdC
import Derived.Test.YtcdjgbechigepaaDoorFrame
import Derived.Lib.SmallJoins
import Derived.Deep.Strs
import Derived.Deep.Slices
namespace Go.Proofs.YtcdjgbechigepaaDoor
open Go Go.ChangeShapes Go.WideShapes Go.ChangeAt Go.RowKit Go.Deep
set_option linter.unusedVariables false
/-- a yard as it came in -/
structure YardIn (w : World) (A : Option Addr) (n : Nat) (rows : List (List Int)) : Prop where
  len : rows.length = n
  rd : RdRR w A (intss rows)
  max : n ≤ 9223372036854775807
theorem YardIn.below {w w' : World} {A : Option Addr} {n : Nat} {rows : List (List Int)} (h : YardIn w A n rows) (hb : Below w.heap.size w w') : YardIn w' A n rows := ⟨h.len, h.rd.below hb, h.max⟩
/-- none of it is great -/
def YardSmall (n : Nat) (rows : List (List Int)) : Prop := n + totI rows ≤ 1048576
theorem tot_mem {rows : List (List Int)} : ∀ s ∈ rows, s.length ≤ totI rows := by
  induction rows with
  | nil => intro s hs; simp at hs
  | cons a l ih =>
    intro s hs
    have e : totI (a :: l) = a.length + totI l := by simp [totI]
    rcases List.mem_cons.1 hs with rfl | hs
    · omega
    · have := ih s hs
      omega
set_option maxHeartbeats 1000000 in
theorem eqYard_any (high : Int) (A B : Option Addr) (n c d : Nat) (rows : List (List Int)) (w : World) (hn : rows.length = n) (ha : RdRR w A (intss rows)) (hb : RdRR w B (intss rows)) (hm : n ≤ 1099511627776) (hin : ∀ zs ∈ rows, zs.length ≤ 1099511627776) :
    Calls Tryd.prog 8 #[.agg #[.int .i64 high, .slice A n c], .agg #[.int .i64 high, .slice B n d]] w fun e w' => e = .returned (.bool true) ∧ Below w.heap.size w w' := by
  have HN := Lib.hid hn
  have HI := Lib.hid hin
  have hne : (high != high) = false := by simp
  have hbl : Below w.heap.size w ((w.alloc (.cells #[.int .i64 high, .slice A n c] 24)).alloc (.cells #[.int .i64 high, .slice B n d] 24)) := ((Below.refl _ _).alloc (Nat.le_refl _) _).alloc (by simp) _
  have HBL := Lib.hid hbl
  have ha' := ha.below hbl
  have hb' := hb.below hbl
  clear hn hin hbl ha hb
  go_enter Tryd.func8, Tryd.ntmps8
  go_wp2_with fail
  refine (eqIntSS_any A B rows n c d HN.out _ ha' hb' hm HI.out).mono ?_
  rintro e w1 ⟨rfl, hb1⟩
  go_wp2_with fail
  go_ret
  exact ⟨rfl, below_trans HBL.out hb1⟩
theorem markYard_any (high : Int) (A : Option Addr) (n c lo hi k : Nat) (ess : List (List Int)) (w : World) (hn : ess.length = n) (h : OwnRR w lo hi 40 3 (.slice A n c) (intss ess)) (h0 : 1 ≤ k) (hk : k + totI ess ≤ 100000000000) (hn1 : n ≤ 9223372036854775807) :
    Calls Tryd.prog 9 #[.agg #[.int .i64 high, .slice A n c], .int .i64 k] w fun e w' => e = .returned (.int .i64 ((k : Int) + (totI ess : Int))) ∧ OwnRR w' lo hi 40 3 (.slice A n c) (intss (mkRI k ess)) ∧ Out lo hi w w' := by
  have hbl : Below w.heap.size w (w.alloc (.cells #[.int .i64 high, .slice A n c] 24)) := (Below.refl _ _).alloc (Nat.le_refl _) _
  have h1 := h.later hbl
  have HO := Lib.hid (Below.out hbl lo hi)
  clear hbl h
  go_enter Tryd.func9, Tryd.ntmps9
  go_wp2_with fail
  refine (markIntSS_any A n c lo hi k ess _ hn h1 h0 hk hn1).mono ?_
  rintro e w1 ⟨rfl, h2, ho2⟩
  have HO2 := Lib.hid (HO.out.trans ho2)
  clear ho2 h1
  go_wp2_with fail
  go_ret
  exact ⟨rfl, h2, HO2.out⟩
theorem heldYard_any (high : Int) (A : Option Addr) (n c k : Nat) (ess : List (List Int)) (w : World) (hn : ess.length = n) (h : RdRR w A (intss (mkRI k ess))) (h0 : 1 ≤ k) (hk : k + totI ess ≤ 100000000000) (hn1 : n ≤ 9223372036854775807) :
    Calls Tryd.prog 10 #[.agg #[.int .i64 high, .slice A n c], .int .i64 k] w fun e w' => e = .returned (.int .i64 ((k : Int) + (totI ess : Int))) ∧ Below w.heap.size w w' := by
  have hbl : Below w.heap.size w (w.alloc (.cells #[.int .i64 high, .slice A n c] 24)) := (Below.refl _ _).alloc (Nat.le_refl _) _
  have h1 := h.below hbl
  have HB := Lib.hid hbl
  clear hbl h
  go_enter Tryd.func10, Tryd.ntmps10
  go_wp2_with fail
  refine (heldIntSS_any A n c k ess _ hn h1 h0 hk hn1).mono ?_
  rintro e w1 ⟨rfl, hb1⟩
  have hnn : 0 ≤ (k : Int) + (totI ess : Int) := by omega
  have HB1 := Lib.hid (below_trans HB.out hb1)
  clear hb1
  go_wp2_with fail
  go_ret
  exact ⟨rfl, HB1.out⟩
theorem rdVI_of_cells {w : World} {x : Addr} {cs : List Value} (hc : ∀ i (h : i < cs.length), w.cell? (x.add i) = some cs[i]) : RdV w (some x) cs := by
  rcases Nat.eq_zero_or_pos cs.length with h0 | h0
  · exact .inl (List.eq_nil_of_length_eq_zero h0)
  · obtain ⟨b, off, spot⟩ := x
    have h1 := hc 0 h0
    have hs : spot = none := by simpa [Addr.add] using World.cell?_spot h1
    subst hs
    have hlt : b < w.heap.size := by
      have := World.block_lt_of_cell? w _ h1
      simpa [Addr.add] using this
    refine .inr ⟨b, off, rfl, hlt, fun j hj => ?_⟩
    have h2 := hc j hj
    have he : (⟨b, off, none⟩ : Addr).add j = ⟨b, off + j, none⟩ := by
      unfold Addr.add; split <;> simp_all
    rw [he] at h2
    exact h2
section
variable {H : Type} {enc : TypeId × Value → H} {P : Program} {w : World} {base : Nat} {spare : Nat → Bool} {held : Bool}
theorem read_introw {t e : TypeId} {v : Value} {fuel : Nat} {x : DataW H × List MemPlace} (ht : P.underlying t = some (.slice e)) (he : P.underlying e = some (.int .i64)) (hC : P.cellsOf e = 1)
    (h : DataW.trod enc P w base spare held fuel t [v] = some x) : ∃ (A : Option Addr) (n c : Nat) (ss : List Int), v = .slice A n c ∧ ss.length = n ∧ n ≤ c ∧ c ≤ maxLen ∧ RdV w A (ints ss) := by
  rcases open_ints ht he hC h with ⟨hcs, _⟩ | ⟨a, l, c', zs, hcs, _, hl, hm, hz, _, hcell, hwz⟩
  · simp at hcs
    exact ⟨none, 0, 0, [], hcs, rfl, Nat.le_refl _, by decide, RdV.nil_⟩
  · simp at hcs
    have hz' : l ≤ zs.length := by rw [hz]; split <;> omega
    exact ⟨some a, l, c', zs.take l, hcs, by simp; omega, hl, hm, row_of_cells l (by omega) hcell⟩
theorem read_introws {t e q : TypeId} {v : Value} {fuel : Nat} {x : DataW H × List MemPlace} (ht : P.underlying t = some (.slice e)) (he : P.underlying e = some (.slice q)) (hq : P.underlying q = some (.int .i64)) (ce : P.cellsOf e = 1) (cq : P.cellsOf q = 1)
    (h : DataW.trod enc P w base spare held fuel t [v] = some x) : ∃ (A : Option Addr) (n c : Nat) (ess : List (List Int)), v = .slice A n c ∧ ess.length = n ∧ n ≤ c ∧ c ≤ maxLen ∧ RdRR w A (intss ess) := by
  rcases open_slice1 ht ce h with ⟨hcs, _⟩ | ⟨a, len, cap, m, n, V, D, Pl, hcs, _, hl, hm, hmm, _, hx⟩
  · simp at hcs
    exact ⟨none, 0, 0, [], hcs, rfl, Nat.le_refl _, by decide, RdRR.nil_⟩
  · simp at hcs
    have hlm : len ≤ m := by rw [hmm]; split <;> omega
    have each : ∀ i, i < len → ∃ ss : List Int, ∃ A c, V i = .slice A ss.length c ∧ ss.length ≤ c ∧ c ≤ maxLen ∧ RdV w A (ints ss) := fun i hi => by
      obtain ⟨A, n', c, ss, h1, h2, h3, h4, h5⟩ := read_introw he hq cq (hx i (by omega)).2
      subst h2
      exact ⟨ss, A, c, h1, h3, h4, h5⟩
    obtain ⟨F, hF⟩ := choose_lt each
    refine ⟨some a, len, cap, (List.range len).map F, hcs, by simp, hl, hm, ⟨(List.range len).map V, by simp [intss], rdVI_of_cells fun i hi => ?_, fun i hi => ?_⟩⟩
    · have hi' : i < len := by simpa using hi
      rw [(hx i (by omega)).1]
      simp
    · have hi' : i < len := by simpa [intss] using hi
      obtain ⟨A, c, h1, h3, h4, h5⟩ := hF i hi'
      have e : (intss ((List.range len).map F))[i]'hi = ints (F i) := by simp [intss]
      rw [e, ints_len]
      exact ⟨A, c, by simp [hi', h1], h3, h4, h5⟩
end
/-- a yard that came in -/
structure YardD where
  high : Int
  A : Option Addr
  n : Nat
  c : Nat
  rows : List (List Int)
def IsYard (w : World) (v : Value) (d : YardD) : Prop := v = .agg #[.int .i64 d.high, .slice d.A d.n d.c] ∧ YardIn w d.A d.n d.rows
end Go.Proofs.YtcdjgbechigepaaDoor
