/- Rows of segments of the call's own. -/
import Derived.Test.YtljbbhipdfnppaaSgP
import Derived.Test.YtljbbhipdfnppaaFlat
namespace Go.Proofs.Ytljbbhipdfnppaa
open Go Go.ChangeShapes Go.WideShapes Go.ChangeAt Go.RowKit
set_option linter.unusedVariables false
/-- a segment in memory: its rows lie in blocks lo to hi -/
structure SegQ where
  tag : ByteArray
  ess : List (List ByteArray)
  A : Option Addr
  c : Nat
  lo : Nat
  hi : Nat
def SegQ.v (p : SegQ) : SegV := ⟨p.tag, p.ess⟩
def segC (p : SegQ) : List Value := [.string p.tag, .slice p.A p.ess.length p.c]
theorem segC_len (p : SegQ) : (segC p).length = 2 := rfl
theorem segment_infoE : Info Try.prog 25 (.agg #[.string ⟨#[]⟩, .slice none 0 0]) 2 40 := Info.mk' (by kernel_rfl) rfl (by decide) (by decide)
theorem segC_one (ps : List SegQ) : ∀ u ∈ cellsOf segC ps, u.oneCell' = true := by
  intro u hu
  simp only [cellsOf, List.mem_flatMap] at hu
  obtain ⟨p, _, hu⟩ := hu
  simp only [segC, List.mem_cons, List.not_mem_nil, or_false] at hu
  rcases hu with rfl | rfl <;> rfl
/-- rows that can be read -/
def RdSegs (w : World) (A : Option Addr) (L : List SegV) : Prop :=
  ∃ ps : List SegQ, ps.map SegQ.v = L ∧ RdV w A (cellsOf segC ps) ∧ ∀ p ∈ ps, RdRR w p.A (strss p.ess)
theorem RdSegs.below {w w' : World} {A : Option Addr} {L : List SegV} (h : RdSegs w A L) (hb : Below w.heap.size w w') : RdSegs w' A L := by
  obtain ⟨ps, h1, h2, h3⟩ := h
  exact ⟨ps, h1, h2.below hb, fun p hp => (h3 p hp).below hb⟩
theorem RdSegs.at {w : World} {A : Option Addr} {L : List SegV} (h : RdSegs w A L) {j : Nat} (hj : j < L.length) :
    ∃ b o B c, A = some ⟨b, o, none⟩ ∧ b < w.heap.size ∧ w.cell? ⟨b, o + j * 2, none⟩ = some (.string L[j].tag) ∧ w.cell? ⟨b, o + j * 2 + 1, none⟩ = some (.slice B L[j].ess.length c) ∧ RdRR w B (strss L[j].ess) := by
  obtain ⟨ps, rfl, h2, h3⟩ := h
  have hjp : j < ps.length := by simpa using hj
  obtain ⟨b, o, hA, hl, hc⟩ := RdV.fieldAt segC_len h2 hjp (by decide)
  have e : (ps.map SegQ.v)[j] = ps[j].v := by simp
  refine ⟨b, o, ps[j].A, ps[j].c, hA, hl, ?_, ?_, ?_⟩
  · rw [e]; exact hc 0 _ rfl
  · rw [e]; exact hc 1 _ rfl
  · rw [e]; exact h3 _ (List.getElem_mem hjp)
def SegsOwn (w : World) (lo : Nat) (v : Value) (ps : List SegQ) : Prop :=
  w.ownsRow lo 25 2 v ps.length (cellsOf segC ps) ∧ (∀ p ∈ ps, lo ≤ p.lo ∧ p.hi ≤ w.heap.size ∧ OwnRR w p.lo p.hi 28 9 (.slice p.A p.ess.length p.c) (strss p.ess) ∧ ∀ g, v.ownBlock = some g → g < p.lo ∨ p.hi ≤ g) ∧ ps.Pairwise (fun a b => a.hi ≤ b.lo)
section
variable {w w' : World} {lo : Nat} {v : Value} {ps : List SegQ}
theorem SegsOwn.later (h : SegsOwn w lo v ps) (hb : Below w.heap.size w w') : SegsOwn w' lo v ps := by
  obtain ⟨h1, h2, h3⟩ := h
  exact ⟨own_later h1 hb, fun p hp => by
    obtain ⟨a, b, c, d⟩ := h2 p hp
    exact ⟨a, Nat.le_trans b hb.size, c.later hb, d⟩, h3⟩
theorem SegsOwn.out {lo1 hi1 : Nat} (h : SegsOwn w lo v ps) (ho : Out lo1 hi1 w w') (hd : hi1 ≤ lo) : SegsOwn w' lo v ps := by
  obtain ⟨h1, h2, h3⟩ := h
  refine ⟨?_, fun p hp => ?_, h3⟩
  · have := (OwnI.of h1).out ho (.inr hd)
    exact this.row
  · obtain ⟨a, b, c, d⟩ := h2 p hp
    exact ⟨a, Nat.le_trans b ho.size, c.out ho (.inr (by omega)), d⟩
theorem SegsOwn.rd {A : Option Addr} {n c : Nat} (h : SegsOwn w lo (.slice A n c) ps) : RdSegs w A (ps.map SegQ.v) := by
  obtain ⟨h1, h2, _⟩ := h
  obtain ⟨A', c', e, _, _⟩ := own_slice h1
  injection e with e1 e2 e3
  subst e1 e2
  exact ⟨ps, rfl, own_rd h1, fun p hp => (h2 p hp).2.2.1.rd⟩
theorem SegsOwn.nil_ (w : World) (lo : Nat) : SegsOwn w lo (.slice none 0 0) [] := ⟨World.ownsRow_nil _ _ _ _, fun p hp => (by cases hp), List.Pairwise.nil⟩
theorem SegsOwn.empty {g : Nat} (hb : Blk w g 25 []) (hlo : lo ≤ g) : SegsOwn w lo (.slice (some ⟨g, 0, none⟩) 0 0) [] := ⟨own_of_blk hb hlo rfl (by decide), fun p hp => (by cases hp), List.Pairwise.nil⟩
/-- one more behind them -/
theorem SegsOwn.snoc {w0 w1 wa : World} (h : SegsOwn w0 lo v ps) (hb1 : Below w0.heap.size w0 w1) (hba : Below w1.heap.size w1 wa) {p : SegQ} (hlo : lo ≤ w0.heap.size) (hpl : p.lo = w0.heap.size) (hph : p.hi = w1.heap.size)
    (hp : OwnRR w1 p.lo p.hi 28 9 (.slice p.A p.ess.length p.c) (strss p.ess)) {v' : Value} (hown : w'.ownsRow lo 25 2 v' (ps.length + 1) (cellsOf segC ps ++ segC p)) (hg : wa.grownBy w' v.ownBlock)
    (hbk : v'.ownBlock = v.ownBlock ∨ ∃ g, v'.ownBlock = some g ∧ w1.heap.size ≤ g) : SegsOwn w' lo v' (ps ++ [p]) := by
  obtain ⟨h1, h2, h3⟩ := h
  have hvlt : ∀ g, v.ownBlock = some g → g < w0.heap.size := fun g e => (h1.lt g e).2
  have s1 := hb1.size
  have s2 := hba.size
  have s3 := hg.size
  have hba' : Below w0.heap.size w0 wa := below_trans hb1 hba
  have hnew : ∀ g, v'.ownBlock = some g → (v.ownBlock = some g) ∨ w1.heap.size ≤ g := by
    intro g e
    rcases hbk with hk | ⟨g', e', hge⟩
    · left; rw [← hk]; exact e
    · right; rw [e'] at e; injection e with e; omega
  refine ⟨?_, fun q hq => ?_, ?_⟩
  · rw [List.length_append, cellsOf_append, cellsOf_one]; exact hown
  · rcases List.mem_append.1 hq with hq | hq
    · obtain ⟨a, b, c, d⟩ := h2 q hq
      refine ⟨a, by omega, ?_, fun g e => ?_⟩
      · have c2 := c.later hba'
        cases hv : v.ownBlock with
        | none =>
          rw [hv] at hg
          exact c2.out (lo' := w'.heap.size) (hi' := w'.heap.size) ⟨hg.os, hg.tape, hg.output, hg.size, fun k hk _ => hg.block k hk (by simp)⟩ (.inl (by omega))
        | some g =>
          rw [hv] at hg
          have hd := d g hv
          exact c2.out (lo' := g) (hi' := g + 1) (out_of_grown hg (fun b e => by injection e with e; omega)) (by omega)
      · rcases hnew g e with hg' | hg'
        · exact d g hg'
        · right; omega
    · obtain rfl := List.mem_singleton.1 hq
      refine ⟨by omega, by omega, ?_, fun g e => ?_⟩
      · have c2 := hp.later hba
        cases hv : v.ownBlock with
        | none =>
          rw [hv] at hg
          exact c2.out (lo' := w'.heap.size) (hi' := w'.heap.size) ⟨hg.os, hg.tape, hg.output, hg.size, fun k hk _ => hg.block k hk (by simp)⟩ (.inl (by omega))
        | some g =>
          rw [hv] at hg
          have := hvlt g hv
          exact c2.out (lo' := g) (hi' := g + 1) (out_of_grown hg (fun b e => by injection e with e; omega)) (.inr (by omega))
      · rcases hnew g e with hg' | hg'
        · left; have := hvlt g hg'; omega
        · right; omega
  · rw [List.pairwise_append]
    refine ⟨h3, List.pairwise_singleton _ _, fun a ha b hb => ?_⟩
    obtain rfl := List.mem_singleton.1 hb
    have := (h2 a ha).2.1
    omega
theorem SegsOwn.at {A : Option Addr} {n c : Nat} (h : SegsOwn w lo (.slice A n c) ps) {j : Nat} (hj : j < ps.length) :
    ∃ g, A = some ⟨g, 0, none⟩ ∧ n = ps.length ∧ lo ≤ g ∧ g < w.heap.size ∧ w.cell? ⟨g, j * 2, none⟩ = some (.string ps[j].tag) ∧ w.cell? ⟨g, j * 2 + 1, none⟩ = some (.slice ps[j].A ps[j].ess.length ps[j].c) ∧ (∀ i, w.frozen? ⟨g, i, none⟩ = false) := by
  obtain ⟨h1, h2, _⟩ := h
  rcases own_form h1 with ⟨_, h0, _⟩ | ⟨g, c', e, hb1, hb2, _⟩
  · omega
  · injection e with e1 e2 e3
    subst e1 e2 e3
    have hl := cellsOf_len segC 2 segC_len ps
    have k0 := cellsOf_at segC 2 segC_len ps j hj 0 (by decide)
    have k1 := cellsOf_at segC 2 segC_len ps j hj 1 (by decide)
    rw [Nat.add_zero] at k0
    refine ⟨g, rfl, rfl, hb1, hb2, ?_, ?_, fun i => h1.frozenAt i⟩
    · rw [h1.cellAt (j * 2) (by omega), k0]; rfl
    · rw [h1.cellAt (j * 2 + 1) (by omega), k1]; rfl
theorem cellsOf_set (ps : List SegQ) (j : Nat) (hj : j < ps.length) (t : ByteArray) : (cellsOf segC ps).set (j * 2) (.string t) = cellsOf segC (ps.set j { ps[j] with tag := t }) := by
  induction ps generalizing j with
  | nil => simp at hj
  | cons p ps ih =>
    cases j with
    | zero => rfl
    | succ j =>
      show (segC p ++ cellsOf segC ps).set ((j + 1) * 2) _ = segC p ++ cellsOf segC (ps.set j _)
      rw [List.set_append_right _ _ (by rw [segC_len]; omega), segC_len, show (j + 1) * 2 - 2 = j * 2 from by omega, ih j (by simpa using hj)]
      rfl
theorem SegsOwn.setTag {g n c : Nat} (h : SegsOwn w lo (.slice (some ⟨g, 0, none⟩) n c) ps) {j : Nat} (hj : j < ps.length) (t : ByteArray) :
    SegsOwn (w.setCell ⟨g, j * 2, none⟩ (.string t)) lo (.slice (some ⟨g, 0, none⟩) n c) (ps.set j { ps[j] with tag := t }) := by
  obtain ⟨h1, h2, h3⟩ := h
  obtain ⟨A', c', e, _, _⟩ := own_slice h1
  injection e with e1 e2 e3
  subst e2 e3
  have hs := (h1.stored (j * 2) (.string t)).1
  rw [cellsOf_set ps j hj t] at hs
  have hset : ∀ q ∈ ps.set j { ps[j] with tag := t }, ∃ p ∈ ps, q.ess = p.ess ∧ q.A = p.A ∧ q.c = p.c ∧ q.lo = p.lo ∧ q.hi = p.hi := by
    intro q hq
    rcases List.mem_or_eq_of_mem_set hq with hq | rfl
    · exact ⟨q, hq, rfl, rfl, rfl, rfl, rfl⟩
    · exact ⟨ps[j], List.getElem_mem hj, rfl, rfl, rfl, rfl, rfl⟩
  refine ⟨by rw [List.length_set]; exact hs, fun q hq => ?_, ?_⟩
  · obtain ⟨p, hp, e1, e2, e3, e4, e5⟩ := hset q hq
    obtain ⟨a, b, cc, d⟩ := h2 p hp
    rw [e1, e2, e3, e4, e5]
    have hd := d g rfl
    refine ⟨a, by simp [World.setCell]; exact b, ?_, d⟩
    exact cc.out (lo' := g) (hi' := g + 1) (out_set (Out.refl g (g + 1) w) g (j * 2) _ (Nat.le_refl _) (by omega)) (by omega)
  · rw [List.pairwise_iff_getElem] at h3 ⊢
    intro a b ha hb hab
    rw [List.length_set] at ha hb
    have h4 := h3 a b ha hb hab
    have ga : ∀ i (hi : i < (ps.set j { ps[j] with tag := t }).length) (hi' : i < ps.length), ((ps.set j { ps[j] with tag := t })[i]).lo = (ps[i]).lo ∧ ((ps.set j { ps[j] with tag := t })[i]).hi = (ps[i]).hi := by
      intro i hi hi'
      by_cases hij : j = i
      · subst hij; rw [List.getElem_set_self]; exact ⟨rfl, rfl⟩
      · rw [List.getElem_set_ne hij]; exact ⟨rfl, rfl⟩
    rw [(ga a _ ha).2, (ga b _ hb).1]
    exact h4
theorem SegsOwn.setEss {g n c : Nat} (h : SegsOwn w lo (.slice (some ⟨g, 0, none⟩) n c) ps) {j : Nat} (hj : j < ps.length) (ess' : List (List ByteArray)) (hl : ess'.length = ps[j].ess.length)
    (ho : Out ps[j].lo ps[j].hi w w') (hr : OwnRR w' ps[j].lo ps[j].hi 28 9 (.slice ps[j].A ps[j].ess.length ps[j].c) (strss ess')) :
    SegsOwn w' lo (.slice (some ⟨g, 0, none⟩) n c) (ps.set j { ps[j] with ess := ess' }) := by
  obtain ⟨h1, h2, h3⟩ := h
  obtain ⟨A', c', e, _, _⟩ := own_slice h1
  injection e with e1 e2 e3
  subst e2 e3
  have hcs : cellsOf segC (ps.set j { ps[j] with ess := ess' }) = cellsOf segC ps := by
    have gen : ∀ (qs : List SegQ) (i : Nat) (hi : i < qs.length), ess'.length = qs[i].ess.length → cellsOf segC (qs.set i { qs[i] with ess := ess' }) = cellsOf segC qs := by
      intro qs
      induction qs with
      | nil => intro i hi; simp at hi
      | cons q qs ih =>
        intro i hi hl
        cases i with
        | zero =>
          show segC { q with ess := ess' } ++ cellsOf segC qs = segC q ++ cellsOf segC qs
          congr 1
          simp only [segC]
          rw [show ess'.length = q.ess.length from hl]
        | succ i =>
          show segC q ++ cellsOf segC (qs.set i _) = segC q ++ cellsOf segC qs
          congr 1
          exact ih i (by simpa using hi) hl
    exact gen ps j hj hl
  obtain ⟨pa, pb, pc, pd⟩ := h2 ps[j] (List.getElem_mem hj)
  have hgd := pd g rfl
  have hge := h1.lt g rfl
  have hrow : w'.ownsRow lo 25 2 (.slice (some ⟨g, 0, none⟩) ps.length c) ps.length (cellsOf segC ps) := by
    refine ⟨h1.1, ?_⟩
    rcases h1.2 with ⟨e, _⟩ | ⟨g', cap, cur, e, hb, hh, rest⟩
    · cases e
    · injection e with e1 e2 e3
      injection e1 with e1
      injection e1 with e1
      subst e1
      exact .inr ⟨g, cap, cur, by rw [e3], hb, (ho.block g hge.2 hgd).trans hh, rest⟩
  refine ⟨by rw [List.length_set, hcs]; exact hrow, fun q hq => ?_, ?_⟩
  · obtain ⟨i, hi, rfl⟩ := List.getElem_of_mem hq
    rw [List.length_set] at hi
    by_cases hij : j = i
    · subst hij
      rw [List.getElem_set_self]
      refine ⟨pa, Nat.le_trans pb ho.size, ?_, pd⟩
      show OwnRR w' ps[j].lo ps[j].hi 28 9 (.slice ps[j].A ess'.length ps[j].c) (strss ess')
      rw [hl]
      exact hr
    · rw [List.getElem_set_ne hij]
      obtain ⟨a, b, cc, d⟩ := h2 ps[i] (List.getElem_mem hi)
      refine ⟨a, Nat.le_trans b ho.size, cc.out ho ?_, d⟩
      rw [List.pairwise_iff_getElem] at h3
      rcases Nat.lt_or_gt_of_ne hij with hlt | hgt
      · exact .inr (h3 j i hj hi hlt)
      · exact .inl (h3 i j hi hj hgt)
  · rw [List.pairwise_iff_getElem] at h3 ⊢
    intro a b ha hb hab
    rw [List.length_set] at ha hb
    have h4 := h3 a b ha hb hab
    have ga : ∀ i (hi : i < (ps.set j { ps[j] with ess := ess' }).length) (hi' : i < ps.length), ((ps.set j { ps[j] with ess := ess' })[i]).lo = (ps[i]).lo ∧ ((ps.set j { ps[j] with ess := ess' })[i]).hi = (ps[i]).hi := by
      intro i hi hi'
      by_cases hij : j = i
      · subst hij; rw [List.getElem_set_self]; exact ⟨rfl, rfl⟩
      · rw [List.getElem_set_ne hij]; exact ⟨rfl, rfl⟩
    rw [(ga a _ ha).2, (ga b _ hb).1]
    exact h4
end
end Go.Proofs.Ytljbbhipdfnppaa
