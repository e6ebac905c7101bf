/- FnSegmentValid returns true, for every code; no condition. -/
import Derived.Test.YtkdaekiihkkpkaaDrawSegs
import Derived.Test.YtkdaekiihkkpkaaSegS
import Derived.Test.YtkdaekiihkkpkaaAlive
import Derived.Deep.RegionHeld3
import Derived.Deep.DeepCutAuto
import Derived.OwnWalk
namespace Go.Proofs.Ytkdaekiihkkpkaa
open Go Go.ChangeShapes Go.WideShapes Go.ChangeAt Go.RowKit
theorem keep_set {w4 w' W : World} {row : Option Nat} (h : Below w4.heap.size w4 W) (hg : W.grownBy w' row) (hr : ∀ b, row = some b → w4.heap.size ≤ b) : Below w4.heap.size w4 w' := h.grown hg h.size hr
theorem blk_new' {W : World} {b : Nat} {t : TypeId} {cs : List Value} (h : b = W.heap.size) : Blk (W.alloc (.cells cs.toArray t)) b t cs := by rw [h]; exact Blk.new _ _ _
theorem keep3 {w4 W : World} {xb : Nat} {a b : Value} (h : Below w4.heap.size w4 W) (lx : xb < w4.heap.size) (x0 : w4.cell? ⟨xb, 0, none⟩ = some a) (x1 : w4.cell? ⟨xb, 1, none⟩ = some b) : Below w4.heap.size w4 W ∧ W.cell? ⟨xb, 0, none⟩ = some a ∧ W.cell? ⟨xb, 1, none⟩ = some b :=
  ⟨h, (h.cell (p := ⟨xb, 0, none⟩) lx).trans x0, (h.cell (p := ⟨xb, 1, none⟩) lx).trans x1⟩
theorem rr_snoc {w4 w' : World} {A D : Option Addr} {xss : List (List Value)} {hs : List Value} (hl : hs.length = xss.length) (h2 : ∀ i (h : i < xss.length), ∃ B c, hs[i]? = some (.slice B (xss[i]).length c) ∧ (xss[i]).length ≤ c ∧ c ≤ maxLen ∧ RdV w4 B xss[i])
    (hb : Below w4.heap.size w4 w') (hr : RdV w' A (hs ++ [.slice D 0 0])) : RdRR w' A (xss ++ [[]]) := by
  refine ⟨hs ++ [.slice D 0 0], by simp [hl], hr, fun i hi => ?_⟩
  rw [List.length_append, List.length_singleton] at hi
  by_cases hlt : i < xss.length
  · obtain ⟨B, c, e, e1, e2, hrb⟩ := h2 i hlt
    rw [List.getElem_append_left hlt]
    exact ⟨B, c, by rw [List.getElem?_append_left (by omega)]; exact e, e1, e2, hrb.below hb⟩
  · obtain rfl : i = xss.length := by omega
    have e1 : (xss ++ [[]])[xss.length]'(by simp) = ([] : List Value) := by simp
    rw [e1]
    exact ⟨D, 0, by rw [List.getElem?_append_right (by omega), hl, Nat.sub_self]; rfl, Nat.le_refl _, by decide, RdV.nil_⟩
theorem grown_set' (w : World) (g i : Nat) (u : Value) : w.grownBy (w.setCell ⟨g, i, none⟩ u) (some g) :=
  ⟨rfl, rfl, rfl, by simp [World.setCell], fun k _ hn => Below.heap_setCell w ⟨g, i, none⟩ u k (by show k ≠ g; intro e; exact hn (by rw [e]))⟩
theorem rd_bel {w W : World} {A : Option Addr} {cs : List Value} (h : RdV w A cs) (hb : Below w.heap.size w W) : RdV W A cs := h.below hb
theorem sz_bel {w W : World} (hb : Below w.heap.size w W) : w.heap.size ≤ W.heap.size := hb.size
theorem row_ge {g B : Nat} (h : B ≤ g) : ∀ b, Value.ownBlock (.slice (some ⟨g, 0, none⟩) 0 0) = some b → B ≤ b := by
  intro b e
  obtain rfl : g = b := by simpa [Value.ownBlock] using e
  exact h
theorem oeS {W : World} {g base : Nat} (h : Blk W g 28 []) (hb : base ≤ g) : W.ownsRow base 28 1 (.slice (some ⟨g, 0, none⟩) 0 0) 0 [] := own_of_blk (cs := []) h hb rfl (by decide)
theorem bel_alloc {w W : World} (h : Below w.heap.size w W) (o : Obj) : Below w.heap.size w (W.alloc o) := h.alloc h.size o
theorem bel_set {w W : World} {B g i : Nat} {u : Value} (h : Below B w W) (hg : B ≤ g) : Below B w (W.setCell ⟨g, i, none⟩ u) := h.setCell (p := ⟨g, i, none⟩) hg u
theorem ne_types {W : World} {base g k n : Nat} {e t : TypeId} {v : Value} {xs cs : List Value} (h : W.ownsRow base e k v n xs) (hb : Blk W g t cs) (hne : e ≠ t) : v.ownBlock ≠ some g := by
  intro e1
  rcases h.2 with ⟨rfl, _⟩ | ⟨g1, cap, cur, rfl, _, hg, _⟩
  · cases e1
  · obtain rfl : g1 = g := by simpa [Value.ownBlock] using e1
    unfold Blk at hb
    rw [hb] at hg
    injection hg with hg
    injection hg with _ hg
    exact hne hg.symm
theorem blk_types {W w' : World} {base g k n : Nat} {e t : TypeId} {v : Value} {xs cs : List Value} (hb : Blk W g t cs) (h : W.ownsRow base e k v n xs) (hg : W.grownBy w' v.ownBlock) (hne : e ≠ t) : Blk w' g t cs :=
  (hg.block g hb.lt (fun e => ne_types h hb hne e.symm)).trans hb
theorem blk_keep {W w' : World} {base g k n : Nat} {e t : TypeId} {v : Value} {xs cs : List Value} (h : W.ownsRow base e k v n xs) (hg : W.grownBy w' v.ownBlock) (hne : e ≠ t) (hb : Blk W g t cs) : Blk w' g t cs := blk_types hb h hg hne
def EmpB (W : World) (b : Nat) : Prop := ∃ D, Blk W b 28 [.slice D 0 0]
theorem emp_rd {W : World} {b : Nat} (h : EmpB W b) : 1 = 1 ∧ ∃ D, RdV W (some ⟨b, 0, none⟩) [.slice D 0 0] := by
  obtain ⟨D, h⟩ := h
  exact ⟨rfl, D, h.rd⟩
theorem emp_new {W : World} {b : Nat} {D : Option Addr} (h : b = W.heap.size) : EmpB (W.alloc (.cells #[.slice D 0 0] 28)) b := ⟨D, by rw [h]; exact Blk.new _ _ _⟩
theorem emp_alloc {W : World} {b : Nat} (h : EmpB W b) (o : Obj) : EmpB (W.alloc o) b := by
  obtain ⟨D, h⟩ := h
  exact ⟨D, h.alloc o⟩
theorem emp_only {W W' : World} {b g : Nat} (hg : W.grownBy W' (some g)) (hb : b ≠ g) (h : EmpB W b) : EmpB W' b := by
  obtain ⟨D, h⟩ := h
  exact ⟨D, h.only hg hb⟩
def SegB (W : World) (b : Nat) : Prop := Blk W b 25 [.string { data := #[] }, .slice none 0 0]
theorem segb_new {W : World} : SegB (W.alloc (.cells #[.string { data := #[] }, .slice none 0 0] 25)) W.heap.size := Blk.new _ _ _
theorem segb_alloc {W : World} {b : Nat} (h : SegB W b) (o : Obj) : SegB (W.alloc o) b := Blk.alloc h o
theorem step_append_emp {P : Program} {ops : Array Oper} {o : Oper} {a : Act} {K : Act → World → Prop} {Q : Exit → Act → World → Prop} {E : Prop} (hgd : o.guard = none) (s x : Operand) (t : TypeId)
    (ho : o.op = .call { callee := .builtin .append, args := #[s, x], argTypes := #[t, t] })
    (e : TypeId) (z : Value) (size bytes : Nat) (ht : P.underlying t = some (.slice e)) (hi : Info P e z size bytes)
    (base : Nat) (w : World) (v : Value) (n : Nat) (xs : List Value) (hs : a.eval s = v) (hown : w.ownsRow base e size v n xs)
    (A : Option Addr) (hx : a.eval x = .slice A 1 1) (hr : size = 1 ∧ ∃ D, RdV w A [.slice D 0 0])
    (hn : n + 1 ≤ 8589934593) (hbase : base ≤ w.heap.size)
    (h : ∀ D v' w', w'.ownsRow base e size v' (n + 1) (xs ++ [.slice D 0 0]) → w.grownBy w' v.ownBlock → (v'.ownBlock = v.ownBlock ∨ v'.ownBlock = some w.heap.size) → K (a.put o.dst v') w') :
    if Region.wanted o (yielded ops a.tmps) = true then Oper.wp P o a w K Q else E := by
  obtain ⟨h1, D, hr⟩ := hr
  exact step_append_src hgd s x t ho e z size bytes ht hi base w v n xs hs hown A 1 1 [.slice D 0 0] hx (by rw [h1]; rfl) hr (by intro u hu; rw [List.mem_singleton] at hu; subst hu; rfl) hn hbase (h D)
/-- the store of the longer segment: what the rest of the function needs -/
def SegCut (w4 : World) (tag : ByteArray) (m : Nat) (hs : List Value) (s5 : Value) (wx : World) : Prop :=
  ∃ g A c C, s5 = .pointer (some ⟨g, 0, none⟩) ∧ Below w4.heap.size w4 wx ∧ Blk wx g 25 [.string tag, .slice A (m + 1) c] ∧ RdV wx A (hs ++ [.slice C 0 0])
theorem segCut_mk {w4 W : World} {tag : ByteArray} {hs : List Value} {g m c : Nat} {A : Option Addr} (hm : hs.length = m) (hk : Below w4.heap.size w4 W) (hg : w4.heap.size ≤ g) (hb : SegB W g)
    (h : ∃ C, ∀ W', Below W.heap.size W W' → W'.ownsRow w4.heap.size 28 1 (.slice A (m + 1) c) (m + 1) (hs ++ [.slice C 0 0])) :
    SegCut w4 tag m hs (.pointer (some ⟨g, 0, none⟩)) ((W.setCell ⟨g, 0, none⟩ (.string tag)).setCell ⟨g, 1, none⟩ (.slice A (m + 1) c)) := by
  subst hm
  obtain ⟨C, h⟩ := h
  have ho := h W (Below.refl _ _)
  have e0 : W.grownBy (W.setCell ⟨g, 0, none⟩ (.string tag)) (some g) := grown_set' _ _ _ _
  have o1 := own_only ho e0 (ne_types ho hb (by decide))
  have b1 := Blk.set_ hb 0 (.string tag)
  have e1 : (W.setCell ⟨g, 0, none⟩ (.string tag)).grownBy ((W.setCell ⟨g, 0, none⟩ (.string tag)).setCell ⟨g, 1, none⟩ (.slice A (hs.length + 1) c)) (some g) := grown_set' _ _ _ _
  exact ⟨g, A, c, C, rfl, bel_set (bel_set hk hg) hg, b1.set_ 1 _, own_rd (own_only o1 e1 (ne_types o1 b1 (by decide)))⟩
theorem segCut_alloc {w4 W : World} {tag : ByteArray} {hs : List Value} {m c : Nat} {A : Option Addr} (hk : Below w4.heap.size w4 W)
    (h : ∃ C, ∀ W', Below W.heap.size W W' → W'.ownsRow w4.heap.size 28 1 (.slice A (m + 1) c) (m + 1) (hs ++ [.slice C 0 0])) :
    SegCut w4 tag m hs (.pointer (some ⟨W.heap.size, 0, none⟩)) (W.alloc (.cells #[.string tag, .slice A (m + 1) c] 25)) := by
  obtain ⟨C, h⟩ := h
  exact ⟨W.heap.size, A, c, C, rfl, bel_alloc hk _, Blk.new _ _ _, own_rd (h _ ((Below.refl _ _).alloc (Nat.le_refl _) _))⟩
theorem segOk_nil {tag : ByteArray} {ess : List (List ByteArray)} (h : segOk tag ess = true) : segOk tag [] = true := by
  unfold segOk at h ⊢
  simp only [Bool.and_eq_true] at h
  simp [h.1.1]
theorem segOk_snoc (tag : ByteArray) (ess : List (List ByteArray)) : segOk tag (ess ++ [[]]) = false := by
  have : partsOk ([] : List ByteArray) = false := by decide
  simp [segOk, this]
theorem rr_nil {w : World} : RdRR w none (strss []) := RdRR.nil_
set_option maxHeartbeats 4000000 in
theorem walkFnSegmentValid (w : World) (A : Option Addr) (n c : Nat) (bs : List Int) (h : Code w A n c bs) :
    Calls Try.prog 3 #[.slice A n c] w fun e w' => e = .returned (.bool true) ∧ Below w.heap.size w w' := by
  by_cases hn : n ≤ 1048576
  · go_enter Try.func3, Try.ntmps3
    go_wp2_with fail
    refine (drawSegmentValid_any A n c bs w h).mono ?_
    rintro e w1 ⟨_, rfl, tag, XA, xc, ess, rfl, hO, hL, hb1⟩
    have hal : Below w1.heap.size w1 (w1.alloc (.cells #[.string tag, .slice XA ess.length xc] 25)) := (Below.refl _ _).alloc (Nat.le_refl _) _
    have hX0 : Blk (w1.alloc (.cells #[.string tag, .slice XA ess.length xc] 25)) w1.heap.size 25 [.string tag, .slice XA ess.length xc] := Blk.new _ _ _
    have O2 := hO.later hal
    have b2 := Lib.hid (below_trans hb1 hal)
    have hn4 : ess.length ≤ 4 := hL.2.1
    have HL := Lib.hid hL
    generalize hm : ess.length = m at *
    have HM := Lib.hid hm
    clear hal hO hb1 hm h hL
    go_wp2_with fail
    refine (implSegmentValid tag XA m xc ess _ HM.out O2.rd (by omega)).mono ?_
    rintro e w3 ⟨rfl, hb3⟩
    have O3 := O2.later hb3
    have hX3' := hX0.later hb3
    have b3 := Lib.hid (below_trans b2.out hb3)
    clear hb3 O2 hX0
    have X3 := hX3'
    clear hX3'
    generalize hxb : w1.heap.size = xb at *
    clear hxb
    have x0 := X3.cellAt 0 (by simp)
    have x1 := X3.cellAt 1 (by simp)
    simp only [List.getElem_cons_zero, List.getElem_cons_succ] at x0 x1
    go_wp2_with fail
    refine (specSegmentValid tag XA m xc ess _ HM.out O3.rd (by omega)).mono ?_
    rintro e w4 ⟨rfl, hb4⟩
    have O4 := O3.later hb4
    have b4 := Lib.hid (below_trans b3.out hb4)
    have X4 := X3.later hb4
    clear hb4 O3 X3 x0 x1
    have x0 := X4.cellAt 0 (by simp)
    have x1 := X4.cellAt 1 (by simp)
    simp only [List.getElem_cons_zero, List.getElem_cons_succ] at x0 x1
    generalize hok : segOk tag ess = ok at *
    have HK := Lib.hid hok
    clear hok
    have hoo : (ok != ok) = false := by simp
    obtain ⟨hs, hsl, hsr, hsi⟩ := O4.rd
    have hone : ∀ u ∈ hs, u.oneCell' = true := by
      intro u hu
      obtain ⟨i, hi, rfl⟩ := List.getElem_of_mem hu
      obtain ⟨B, c, e, _⟩ := hsi i (by omega)
      rw [List.getElem?_eq_getElem hi] at e
      injection e with e
      rw [e]
      rfl
    have hsm : hs.length = m := by rw [hsl, strss_len, HM.out]
    have HSM := Lib.hid hsm
    have HSL := Lib.hid hsl
    have HSI := Lib.hid hsi
    have HONE := Lib.hid hone
    have HSR := Lib.hid hsr
    have lx := X4.lt
    clear hsm hsl hsi hone hsr O4 X4
    go_upto_region 7 with fail
    go_cut [5] from 17 to 26 (fun s5 wx => SegCut w4 tag m hs s5 wx)
    case first =>
      go_region_held3 (fun W => Below w4.heap.size w4 W ∧ W.cell? ⟨xb, 0, none⟩ = some (.string tag) ∧ W.cell? ⟨xb, 1, none⟩ = some (.slice XA m xc))
        (exact keep3 (by (repeat (first | assumption | exact Below.refl _ _ | with_reducible refine Below.drew ?_ | with_reducible refine bel_alloc ?_ _ | with_reducible refine bel_set ?_ (by first | omega | (simp; omega))))) lx x0 x1)
        (first
          | (refine step_append_src rfl (.tmp 19) (.tmp 21) 23 rfl 28 _ _ _ Try.underlying23 strings_infoD w4.heap.size _ _ 0 [] rfl (by exact oeS (by (repeat (first | assumption | exact blk_new' (by simp) | with_reducible refine Blk.drew ?_ | with_reducible refine Blk.alloc ?_ _))) (by omega)) XA m xc hs rfl (by rw [HSM.out, Nat.mul_one]) (rd_bel HSR.out (by (repeat (first | assumption | exact Below.refl _ _ | with_reducible refine Below.drew ?_ | with_reducible refine bel_alloc ?_ _ | with_reducible refine bel_set ?_ (by first | omega | (simp; omega)))))) HONE.out (by omega) (sz_bel (by (repeat (first | assumption | exact Below.refl _ _ | with_reducible refine Below.drew ?_ | with_reducible refine bel_alloc ?_ _ | with_reducible refine bel_set ?_ (by first | omega | (simp; omega)))))) ?_
             intro v1 w5 o1 g1 _
             obtain ⟨A1, c1, rfl, _, _⟩ := own_slice o1
             rw [Nat.zero_add, List.nil_append] at o1
             rw [Nat.zero_add]
             have kb1 : Below w4.heap.size w4 w5 := keep_set (by (repeat (first | assumption | exact Below.refl _ _ | with_reducible refine Below.drew ?_ | with_reducible refine bel_alloc ?_ _ | with_reducible refine bel_set ?_ (by first | omega | (simp; omega))))) g1 (row_ge (by omega))
             have HA1 : Hid (∀ W', Below w5.heap.size w5 W' → W'.ownsRow w4.heap.size 28 1 (.slice A1 m c1) m hs) := Lib.hid fun W' h => own_later o1 h
             have s1 := sz_bel kb1
             have hO : ∀ b, SegB _ b → SegB w5 b := fun b => blk_keep (t := 25) (oeS (base := w4.heap.size) (by (repeat (first | assumption | exact blk_new' (by simp) | with_reducible refine Blk.drew ?_ | with_reducible refine Blk.alloc ?_ _))) (by omega)) g1 (by decide)
             have hE : ∀ b, EmpB _ b → b ≠ _ → EmpB w5 b := fun b h hb => emp_only g1 hb h
             try (have hV1 := hO _ (by (repeat (first | exact segb_new | apply segb_alloc))); try simp only [World.size_alloc] at hV1)
             try (have hU0 := hE _ (by (repeat (first | exact emp_new rfl | apply emp_alloc))); have hU1 := hU0 (by first | omega | (simp only [World.size_alloc]; omega)); clear hU0; try simp only [World.size_alloc] at hU1)
             clear hO hE
             clear o1 g1)
          | (refine step_append_emp rfl (.tmp 22) (.tmp 24) 23 rfl 28 _ _ _ Try.underlying23 strings_infoD w4.heap.size _ _ m hs rfl ?_ _ rfl ?_ (by omega) ?_ ?_
             · exact HA1.out _ (by (repeat (first | assumption | exact Below.refl _ _ | with_reducible refine Below.drew ?_ | with_reducible refine bel_alloc ?_ _ | with_reducible refine bel_set ?_ (by first | omega | (simp; omega)))))
             · exact emp_rd (by (repeat (first | exact emp_new (by simp) | apply emp_alloc | exact hU1)))
             · exact (sz_bel (by (repeat (first | assumption | exact Below.refl _ _ | with_reducible refine Below.drew ?_ | with_reducible refine bel_alloc ?_ _ | with_reducible refine bel_set ?_ (by first | omega | (simp; omega))))))
             intro D v2 w6 o2 g2 _
             obtain ⟨A2, c2, rfl, _, _⟩ := own_slice o2
             have kb2 : Below w4.heap.size w4 w6 := keep_set (by (repeat (first | assumption | exact Below.refl _ _ | with_reducible refine Below.drew ?_ | with_reducible refine bel_alloc ?_ _ | with_reducible refine bel_set ?_ (by first | omega | (simp; omega))))) g2 (fun b hb => ((HA1.out w5 (Below.refl _ _)).lt b hb).1)
             have HA2 : Hid (∃ C, ∀ W', Below w6.heap.size w6 W' → W'.ownsRow w4.heap.size 28 1 (.slice A2 (m + 1) c2) (m + 1) (hs ++ [.slice C 0 0])) := Lib.hid ⟨D, fun W' h => own_later o2 h⟩
             have s2 := sz_bel kb2
             have hO : ∀ b, SegB _ b → SegB w6 b := fun b => blk_keep (t := 25) (HA1.out _ (by (repeat (first | assumption | exact Below.refl _ _ | with_reducible refine Below.drew ?_ | with_reducible refine bel_alloc ?_ _ | with_reducible refine bel_set ?_ (by first | omega | (simp; omega)))))) g2 (by decide)
             try (have hV2 := hO _ (by (repeat (first | exact segb_new | apply segb_alloc | exact hV1))); try simp only [World.size_alloc] at hV2
                  have vv0 := hV2.cellAt 0 (by simp); have vv1 := hV2.cellAt 1 (by simp); have vf0 := hV2.frozen 0; have vf1 := hV2.frozen 1; simp only [List.getElem_cons_zero, List.getElem_cons_succ] at vv0 vv1)
             clear o2 g2 hO))
      all_goals (go_wp2_with fail; go_meet)
      all_goals (first | exact segCut_alloc kb2 HA2.out | exact segCut_mk HSM.out kb2 (by omega) hV2 HA2.out)
    case rest =>
      obtain ⟨g, A5, c5, C5, rfl, hb5, hB5, hr5⟩ := hcut
      generalize hwx : wc = w5 at *
      clear hwx
      have z0 := (hb5.cell (p := ⟨xb, 0, none⟩) lx).trans x0
      have lg := hB5.lt
      have y0 := hB5.cellAt 0 (by simp)
      have y1 := hB5.cellAt 1 (by simp)
      simp only [List.getElem_cons_zero, List.getElem_cons_succ] at y0 y1
      have hrr := rr_snoc HSL.out HSI.out hb5 hr5
      have hst : strss ess ++ [[]] = strss (ess ++ [[]]) := by simp [strss, strs]
      rw [hst] at hrr
      have HRR := Lib.hid hrr
      have b5 := Lib.hid (below_trans b4.out hb5)
      have hf := segOk_snoc tag ess
      have HF := Lib.hid hf
      have HLE : Hid ((ess ++ [[]]).length = m + 1) := Lib.hid (by rw [List.length_append, HM.out]; rfl)
      clear hrr hf hst hr5 hB5 hb5 x0 x1
      cases ok
      · go_wp2_with fail
        refine (implSegmentValid tag A5 (m + 1) c5 (ess ++ [[]]) _ HLE.out HRR.out (by omega)).mono ?_
        rintro e w6 ⟨rfl, hb6⟩
        rw [HF.out]
        have b6 := Lib.hid (below_trans b5.out hb6)
        clear hb6
        go_wp2_with fail
        refine (alive_any _).mono ?_
        rintro e w' ⟨rfl, rfl⟩
        go_wp2_with fail
        go_ret
        exact ⟨rfl, b6.out⟩
      · go_wp2_with fail
        refine (implSegmentValid tag none 0 0 [] _ rfl rr_nil (by omega)).mono ?_
        rintro e w6 ⟨rfl, hb6⟩
        rw [segOk_nil HK.out]
        have b6 := Lib.hid (below_trans b5.out hb6)
        have R6 := Lib.hid (RdRR.below HRR.out hb6)
        have y0' := (hb6.cell (p := ⟨g, 0, none⟩) lg).trans y0
        have y1' := (hb6.cell (p := ⟨g, 1, none⟩) lg).trans y1
        clear hb6 y0 y1 z0
        go_wp2_with fail
        refine (implSegmentValid tag A5 (m + 1) c5 (ess ++ [[]]) _ HLE.out R6.out (by omega)).mono ?_
        rintro e w7 ⟨rfl, hb7⟩
        rw [HF.out]
        have b7 := Lib.hid (below_trans b6.out hb7)
        clear hb7
        go_wp2_with fail
        refine (alive_any _).mono ?_
        rintro e w' ⟨rfl, rfl⟩
        go_wp2_with fail
        go_ret
        exact ⟨rfl, b7.out⟩
  · obtain ⟨_, hcap, hmax, _, _⟩ := h
    go_enter Try.func3, Try.ntmps3
    go_wp2_with fail
    go_ret
    exact ⟨rfl, Below.refl _ _⟩
end Go.Proofs.Ytkdaekiihkkpkaa
