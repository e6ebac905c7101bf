/- Papers copied: both programs give the same papers in new memory. -/
import Derived.Test.YtpkbipjnobfcdaaPapE
import Derived.Test.YtpkbipjnobfcdaaIntI
import Derived.Deep.RegionHeld3
namespace Go.Proofs.Ytpkbipjnobfcdaa
open Go Go.ChangeShapes Go.WideShapes Go.ChangeAt Go.RowKit
set_option linter.unusedVariables false
set_option linter.unusedSimpArgs false
/-- papers in memory of the call's own -/
def PapOut (w : World) (p : PapV) : Ending → World → Prop :=
  RVal fun u w' => ∃ HA hc LA lc, u = .agg #[.slice HA p.hs.length hc, .slice LA p.ls.length lc] ∧ w'.ownsRow w.heap.size 38 2 (.slice HA p.hs.length hc) p.hs.length (holds p.hs) ∧ w'.ownsRow w.heap.size 3 1 (.slice LA p.ls.length lc) p.ls.length (ints p.ls) ∧ Below w.heap.size w w'
theorem papOut_mk {w w' : World} {hs : List HoldV} {ls : List Int} {n m hc lc : Nat} {HA LA : Option Addr} (hn : hs.length = n) (hm : ls.length = m) (h1 : w'.ownsRow w.heap.size 38 2 (.slice HA n hc) n (holds hs)) (h2 : w'.ownsRow w.heap.size 3 1 (.slice LA m lc) m (ints ls)) (hb : Below w.heap.size w w') :
    PapOut w ⟨hs, ls⟩ (.returned (.agg #[.slice HA n hc, .slice LA m lc])) w' := by
  subst hn hm
  exact RVal.mk ⟨HA, hc, LA, lc, rfl, h1, h2, hb⟩
theorem keepP {w0 w W : World} {a : Nat} {u v : Value} (h0 : Below w0.heap.size w0 w) (hb : Below w.heap.size w W) (lx : a < w.heap.size) (x0 : w.cell? ⟨a, 0, none⟩ = some u) (x1 : w.cell? ⟨a, 1, none⟩ = some v) :
    Below w0.heap.size w0 W ∧ W.cell? ⟨a, 0, none⟩ = some u ∧ W.cell? ⟨a, 1, none⟩ = some v :=
  ⟨below_trans h0 hb, (hb.cell (p := ⟨a, 0, none⟩) lx).trans x0, (hb.cell (p := ⟨a, 1, none⟩) lx).trans x1⟩
theorem keepPs {w0 W : World} {a q : Nat} {ty : TypeId} {u v u1 u2 : Value} (hb : Below w0.heap.size w0 W) (hq : w0.heap.size ≤ q) (hP : Blk W a ty [u, v]) (hne : a ≠ q) :
    Below w0.heap.size w0 ((W.setCell ⟨q, 0, none⟩ u1).setCell ⟨q, 1, none⟩ u2) ∧ ((W.setCell ⟨q, 0, none⟩ u1).setCell ⟨q, 1, none⟩ u2).cell? ⟨a, 0, none⟩ = some u ∧ ((W.setCell ⟨q, 0, none⟩ u1).setCell ⟨q, 1, none⟩ u2).cell? ⟨a, 1, none⟩ = some v := by
  have h2 : Blk ((W.setCell ⟨q, 0, none⟩ u1).setCell ⟨q, 1, none⟩ u2) a ty [u, v] := (Below.heap_setCell _ ⟨q, 1, none⟩ _ a hne).trans ((Below.heap_setCell _ ⟨q, 0, none⟩ _ a hne).trans hP)
  exact ⟨(hb.setCell hq _).setCell hq _, h2.cellAt 0 (by simp), h2.cellAt 1 (by simp)⟩
theorem eqn_int (w : World) (a : Option Addr) (n c n' c' : Nat) : (binOp .eql 24 (.slice a n c) (.slice none n' c')).run Try.prog w = .ok (.bool a.isNone) w := Lib.run_eql_slice_nil w _ _ a n c n' c' Try.underlying24
theorem clone_ints (A : Option Addr) (n c : Nat) (zs : List Int) (w : World) (hn : zs.length = n) (hr : RdV w A (ints zs)) (hm : n ≤ 1048576) :
    Calls Try.prog 74 #[.slice A n c] w (RVal fun u w' => ∃ A' c', u = .slice A' n c' ∧ w'.ownsRow w.heap.size 3 1 (.slice A' n c') n (ints zs) ∧ Below w.heap.size w w') := by
  have HN := Lib.hid hn
  have qe := eqn_int
  rcases A with _ | ad
  · have h0 : zs = [] := by
      rcases hr with h | ⟨b, off, e, _⟩
      · simpa [ints] using h
      · cases e
    subst h0
    have hn0 : n = 0 := by simpa using hn.symm
    subst hn0
    clear hn
    go_enter Try.func74, Try.ntmps74
    go_wp2_with fail
    go_ret
    exact RVal.mk ⟨none, 0, rfl, World.ownsRow_nil _ _ _ _, Below.refl _ _⟩
  · have hml : (ints zs).length = n * 1 := by rw [ints_len, HN.out, Nat.mul_one]
    have HML := Lib.hid hml
    clear hn hml
    have hown : (w.alloc (.cells #[] 3)).ownsRow w.heap.size 3 1 (.slice (some ⟨w.heap.size, 0, none⟩) 0 0) 0 [] := own_of_blk (cs := []) (Blk.new _ _ _) (Nat.le_refl _) rfl (by decide)
    have hal : Below w.heap.size w (w.alloc (.cells #[] 3)) := (Below.refl _ _).alloc (Nat.le_refl _) _
    go_enter Try.func74, Try.ntmps74
    go_wp2_with (at_builtin; refine append_src rfl (.tmp 5) (.tmp 6) 24 rfl 3 _ _ _ Try.underlying24 int_infoY w.heap.size _ _ 0 [] rfl hown (some ad) n c (ints zs) rfl HML.out (hr.below hal) (ints_one _) (by omega) (by simp) ?_; intro v' w6 hown6 hg6 hblk6)
    go_ret
    rw [Nat.zero_add, List.nil_append] at hown6
    obtain ⟨A6, c6, rfl, _, _⟩ := own_slice hown6
    exact RVal.mk ⟨A6, c6, rfl, hown6, below_append hal hg6 hown rfl⟩
set_option maxHeartbeats 2000000 in
theorem implClone (HA LA : Option Addr) (n c m lc : Nat) (hs : List HoldV) (ls : List Int) (w : World) (hn : hs.length = n) (hln : ls.length = m) (hr : RdV w HA (holds hs)) (hrl : RdV w LA (ints ls)) (hm : n ≤ 1048576) (hm2 : m ≤ 1048576) :
    Calls Try.prog 46 #[.agg #[.slice HA n c, .slice LA m lc]] w (PapOut w ⟨hs, ls⟩) := by
  have HN := Lib.hid hn
  have HLN := Lib.hid hln
  clear hn hln
  go_enter Try.func46, Try.ntmps46
  go_wp2_with fail
  have hP : Blk ((w.alloc (.cells #[.slice HA n c, .slice LA m lc] 26)).alloc (.cells #[.slice none 0 0, .slice none 0 0] 26)) w.heap.size 26 [.slice HA n c, .slice LA m lc] := (Blk.new _ _ _).alloc _
  have hQ : Blk ((w.alloc (.cells #[.slice HA n c, .slice LA m lc] 26)).alloc (.cells #[.slice none 0 0, .slice none 0 0] 26)) (w.heap.size + 1) 26 [.slice none 0 0, .slice none 0 0] := by simpa using Blk.new (w.alloc (.cells #[.slice HA n c, .slice LA m lc] 26)) 26 [.slice none 0 0, .slice none 0 0]
  have hB : Below w.heap.size w ((w.alloc (.cells #[.slice HA n c, .slice LA m lc] 26)).alloc (.cells #[.slice none 0 0, .slice none 0 0] 26)) := ((Below.refl _ _).alloc (Nat.le_refl _) _).alloc (by simp) _
  have hsz : w.heap.size + 2 ≤ ((w.alloc (.cells #[.slice HA n c, .slice LA m lc] 26)).alloc (.cells #[.slice none 0 0, .slice none 0 0] 26)).heap.size := by simp
  generalize (w.alloc (.cells #[.slice HA n c, .slice LA m lc] 26)).alloc (.cells #[.slice none 0 0, .slice none 0 0] 26) = w2 at *
  have c0 := hP.cellAt 0 (by simp)
  have c1 := hP.cellAt 1 (by simp)
  simp only [List.getElem_cons_zero, List.getElem_cons_succ] at c0 c1
  have HP := Lib.hid hP
  have HQ := Lib.hid hQ
  have HB := Lib.hid hB
  have lp := hP.lt
  have lq := hQ.lt
  have hr2 := hr.below hB
  have hrl2 := hrl.below hB
  clear hP hQ hB hr hrl
  go_region_held3 (fun W => Below w.heap.size w W ∧ W.cell? ⟨w.heap.size, 0, none⟩ = some (.slice HA n c) ∧ W.cell? ⟨w.heap.size, 1, none⟩ = some (.slice LA m lc))
    (first
      | exact keepP HB.out (Below.refl _ _) lp c0 c1
      | exact keepP HB.out (Below.drew (Below.refl _ _)) lp c0 c1
      | exact keepP HB.out ka lp c0 c1
      | exact keepP HB.out kb lp c0 c1
      | exact keepPs (below_trans HB.out ka) (Nat.le_succ _) (HP.out.later ka) (Nat.ne_of_lt (Nat.lt_succ_self _))
      | exact keepPs (below_trans HB.out kb) (Nat.le_succ _) (HP.out.later kb) (Nat.ne_of_lt (Nat.lt_succ_self _)))
    (first
      | (go_at_call 73
         (with_reducible refine (clone_hold HA n c hs _ HN.out (hr2.below (by first | assumption | exact Below.drew (Below.refl _ _))) hm).mono ?_)
         rintro e wa ⟨_, rfl, A1, c1', rfl, oa, ba⟩
         have ka : Below w2.heap.size w2 wa := below_trans (by first | assumption | exact Below.drew (Below.refl _ _)) ba
         have oa2 := own_base (base' := w2.heap.size) oa (Below.size (B := w2.heap.size) (by first | assumption | exact Below.drew (Below.refl _ _)))
         have HA1 : Hid (∀ W', Below wa.heap.size wa W' → W'.ownsRow w2.heap.size 38 2 (.slice A1 n c1') n (holds hs)) := Lib.hid fun W' h => own_later oa2 h
         have ea0 := ((HQ.out.later ka).cellAt 0 (by simp))
         have ea1 := ((HQ.out.later ka).cellAt 1 (by simp))
         simp only [List.getElem_cons_zero, List.getElem_cons_succ] at ea0 ea1
         have fa0 := (HQ.out.later ka).frozen 0
         have fa1 := (HQ.out.later ka).frozen 1
         clear oa oa2)
      | (go_at_call 74
         (with_reducible refine (clone_ints LA m lc ls _ HLN.out (hrl2.below (by first | assumption | exact Below.drew (Below.refl _ _))) hm2).mono ?_)
         rintro e wb ⟨_, rfl, A2, c2', rfl, ob, bb⟩
         have kb : Below w2.heap.size w2 wb := below_trans (by first | assumption | exact Below.drew (Below.refl _ _)) bb
         have ob2 := own_base (base' := w2.heap.size) ob (Below.size (B := w2.heap.size) (by first | assumption | exact Below.drew (Below.refl _ _)))
         have HA2 : Hid (∀ W', Below wb.heap.size wb W' → W'.ownsRow w2.heap.size 3 1 (.slice A2 m c2') m (ints ls)) := Lib.hid fun W' h => own_later ob2 h
         have eb0 := ((HQ.out.later kb).cellAt 0 (by simp))
         have eb1 := ((HQ.out.later kb).cellAt 1 (by simp))
         simp only [List.getElem_cons_zero, List.getElem_cons_succ] at eb0 eb1
         have fb0 := (HQ.out.later kb).frozen 0
         have fb1 := (HQ.out.later kb).frozen 1
         clear ob ob2))
  have OA := Lib.hid (HA1.out _ bb)
  have OB := Lib.hid (HA2.out _ (Below.refl _ _))
  have KK := Lib.hid kb
  go_wp2_with fail
  refine bodyPost_ret (v := .agg #[.slice A1 n c1', .slice A2 m c2']) (by simp [results, Try.results46, go_sem, *]) rfl ?_
  have h6 : Out w.heap.size (w.heap.size + 2) wb ((wb.setCell ⟨w.heap.size + 1, 0, none⟩ (.slice A1 n c1')).setCell ⟨w.heap.size + 1, 1, none⟩ (.slice A2 m c2')) := out_set (out_set (Out.refl _ _ _) _ _ _ (by omega) (by omega)) _ _ _ (by omega) (by omega)
  refine papOut_mk HN.out HLN.out (own_out (own_base OA.out (by omega)) h6 ?_) (own_out (own_base OB.out (by omega)) h6 ?_) (below_out (below_trans HB.out KK.out) h6 (Nat.le_refl _))
  · intro g e
    have := (OA.out.lt g e).1
    omega
  · intro g e
    have := (OB.out.lt g e).1
    omega
theorem oeH {W : World} {g base : Nat} (h : Blk W g 38 []) (hb : base ≤ g) : W.ownsRow base 38 2 (.slice (some ⟨g, 0, none⟩) 0 0) 0 [] := own_of_blk (cs := []) h hb rfl (by decide)
theorem oeI {W : World} {g base : Nat} (h : Blk W g 3 []) (hb : base ≤ g) : W.ownsRow base 3 1 (.slice (some ⟨g, 0, none⟩) 0 0) 0 [] := own_of_blk (cs := []) h hb rfl (by decide)
/-- rows of two element types lie apart -/
theorem own_types {W : World} {b b' k k' n n' : Nat} {e e' : TypeId} {v v' : Value} {xs ys : List Value} (h : W.ownsRow b e k v n xs) (h' : W.ownsRow b' e' k' v' n' ys) (hne : e ≠ e') : ∀ g, v.ownBlock = some g → v'.ownBlock = some g → False := by
  intro g e1 e2
  rcases h.2 with ⟨rfl, _⟩ | ⟨g1, cap, cur, rfl, _, hg, _⟩
  · cases e1
  · rcases h'.2 with ⟨rfl, _⟩ | ⟨g2, cap2, cur2, rfl, _, hg2, _⟩
    · cases e2
    · obtain rfl : g1 = g := by simpa [Value.ownBlock] using e1
      obtain rfl : g2 = g1 := by simpa [Value.ownBlock] using e2
      rw [hg] at hg2
      injection hg2 with hg2
      injection hg2 with _ hg2
      exact hne hg2
set_option maxHeartbeats 2000000 in
theorem specClone (HA LA : Option Addr) (n c m lc : Nat) (hs : List HoldV) (ls : List Int) (w : World) (hn : hs.length = n) (hln : ls.length = m) (hr : RdV w HA (holds hs)) (hrl : RdV w LA (ints ls)) (hm : n ≤ 1048576) (hm2 : m ≤ 1048576) :
    Calls Try.prog 49 #[.agg #[.slice HA n c, .slice LA m lc]] w (PapOut w ⟨hs, ls⟩) := by
  have HN := Lib.hid hn
  have HLN := Lib.hid hln
  clear hn hln
  go_enter Try.func49, Try.ntmps49
  go_wp2_with fail
  have hP : Blk ((w.alloc (.cells #[.slice HA n c, .slice LA m lc] 26)).alloc (.cells #[.slice none 0 0, .slice none 0 0] 26)) w.heap.size 26 [.slice HA n c, .slice LA m lc] := (Blk.new _ _ _).alloc _
  have hQ : Blk ((w.alloc (.cells #[.slice HA n c, .slice LA m lc] 26)).alloc (.cells #[.slice none 0 0, .slice none 0 0] 26)) (w.heap.size + 1) 26 [.slice none 0 0, .slice none 0 0] := by simpa using Blk.new (w.alloc (.cells #[.slice HA n c, .slice LA m lc] 26)) 26 [.slice none 0 0, .slice none 0 0]
  have hB : Below w.heap.size w ((w.alloc (.cells #[.slice HA n c, .slice LA m lc] 26)).alloc (.cells #[.slice none 0 0, .slice none 0 0] 26)) := ((Below.refl _ _).alloc (Nat.le_refl _) _).alloc (by simp) _
  have hsz : w.heap.size + 2 ≤ ((w.alloc (.cells #[.slice HA n c, .slice LA m lc] 26)).alloc (.cells #[.slice none 0 0, .slice none 0 0] 26)).heap.size := by simp
  generalize (w.alloc (.cells #[.slice HA n c, .slice LA m lc] 26)).alloc (.cells #[.slice none 0 0, .slice none 0 0] 26) = w2 at *
  have c0 := hP.cellAt 0 (by simp)
  have c1 := hP.cellAt 1 (by simp)
  simp only [List.getElem_cons_zero, List.getElem_cons_succ] at c0 c1
  have HP := Lib.hid hP
  have HQ := Lib.hid hQ
  have HB := Lib.hid hB
  have lp := hP.lt
  have lq := hQ.lt
  have hr2 := hr.below hB
  have hrl2 := hrl.below hB
  clear hP hQ hB hr hrl
  have HML : Hid ((holds hs).length = n * 2) := Lib.hid (by rw [holds_len, HN.out])
  have HML2 : Hid ((ints ls).length = m * 1) := Lib.hid (by rw [ints_len, HLN.out, Nat.mul_one])
  have hone := Lib.hid (holds_cell hs)
  have hone2 := Lib.hid (ints_one ls)
  have oH_H : (w2.drew.alloc (.cells #[] 38)).ownsRow w2.heap.size 38 2 (.slice (some ⟨w2.heap.size, 0, none⟩) 0 0) 0 [] := oeH (Blk.new w2.drew _ []) (Nat.le_refl _)
  have oI_I : (w2.drew.alloc (.cells #[] 3)).ownsRow w2.heap.size 3 1 (.slice (some ⟨w2.heap.size, 0, none⟩) 0 0) 0 [] := oeI (Blk.new w2.drew _ []) (Nat.le_refl _)
  have oHI_H : ((w2.alloc (.cells #[] 38)).alloc (.cells #[] 3)).drew.ownsRow w2.heap.size 38 2 (.slice (some ⟨w2.heap.size, 0, none⟩) 0 0) 0 [] := oeH (Blk.drew ((Blk.new w2 _ []).alloc _)) (Nat.le_refl _)
  have oHI_I : ((w2.alloc (.cells #[] 38)).alloc (.cells #[] 3)).drew.ownsRow w2.heap.size 3 1 (.slice (some ⟨w2.heap.size + 1, 0, none⟩) 0 0) 0 [] := oeI (Blk.drew (by simpa using Blk.new (w2.alloc (.cells #[] 38)) 3 [])) (Nat.le_succ _)
  have oIH_I : ((w2.alloc (.cells #[] 3)).alloc (.cells #[] 38)).drew.ownsRow w2.heap.size 3 1 (.slice (some ⟨w2.heap.size, 0, none⟩) 0 0) 0 [] := oeI (Blk.drew ((Blk.new w2 _ []).alloc _)) (Nat.le_refl _)
  have oIH_H : ((w2.alloc (.cells #[] 3)).alloc (.cells #[] 38)).drew.ownsRow w2.heap.size 38 2 (.slice (some ⟨w2.heap.size + 1, 0, none⟩) 0 0) 0 [] := oeH (Blk.drew (by simpa using Blk.new (w2.alloc (.cells #[] 3)) 38 [])) (Nat.le_succ _)
  go_region_held3 (fun W => Below w.heap.size w W ∧ W.cell? ⟨w.heap.size, 0, none⟩ = some (.slice HA n c) ∧ W.cell? ⟨w.heap.size, 1, none⟩ = some (.slice LA m lc))
    (first
      | exact keepP HB.out (Below.refl _ _) lp c0 c1
      | exact keepP HB.out (by first | assumption | exact Below.drew ((Below.refl _ _).alloc (Nat.le_refl _) _) | exact Below.drew (((Below.refl _ _).alloc (Nat.le_refl _) _).alloc (by simp) _) | exact Below.alloc (by assumption) (Below.size (by assumption)) _) lp c0 c1
      | exact keepP HB.out (Below.drew (Below.refl _ _)) lp c0 c1
      | exact keepPs (below_trans HB.out (by assumption)) (Nat.le_succ _) (HP.out.later (by assumption)) (Nat.ne_of_lt (Nat.lt_succ_self _)))
    (first
      | (refine step_append_src rfl (.tmp 3) (.tmp 5) 23 rfl 38 _ _ _ Try.underlying23 hold_infoD w2.heap.size _ _ 0 [] rfl (by first | exact oH_H | exact oHI_H | exact oIH_H | exact oWH | exact oH') HA n c (holds hs) rfl HML.out (hr2.below (by first | assumption | exact Below.drew ((Below.refl _ _).alloc (Nat.le_refl _) _) | exact Below.drew (((Below.refl _ _).alloc (Nat.le_refl _) _).alloc (by simp) _) | exact Below.alloc (by assumption) (Below.size (by assumption)) _)) hone.out (by omega) (Below.size (by first | assumption | exact Below.drew ((Below.refl _ _).alloc (Nat.le_refl _) _) | exact Below.drew (((Below.refl _ _).alloc (Nat.le_refl _) _).alloc (by simp) _) | exact Below.alloc (by assumption) (Below.size (by assumption)) _)) ?_
         intro v1 wa oa ga ba
         obtain ⟨A1, c1', rfl, _, _⟩ := own_slice oa
         rw [Nat.zero_add, List.nil_append] at oa
         have ka : Below w2.heap.size w2 wa := below_append (by first | assumption | exact Below.drew ((Below.refl _ _).alloc (Nat.le_refl _) _) | exact Below.drew (((Below.refl _ _).alloc (Nat.le_refl _) _).alloc (by simp) _) | exact Below.alloc (by assumption) (Below.size (by assumption)) _) ga (by first | exact oH_H | exact oHI_H | exact oIH_H | exact oWH | exact oH') rfl
         try have oI' := own_only oHI_I ga (by simp [Value.ownBlock])
         try have oI' := own_only oIH_I ga (by simp [Value.ownBlock])
         have oWI : (wa.alloc (.cells #[] 3)).ownsRow w2.heap.size 3 1 (.slice (some ⟨wa.heap.size, 0, none⟩) 0 0) 0 [] := oeI (Blk.new wa _ []) (Below.size ka)
         have HA1 : Hid (∀ W', Below wa.heap.size wa W' → W'.ownsRow w2.heap.size 38 2 (.slice A1 n c1') n (holds hs)) := Lib.hid fun W' h => own_later oa h
         have la := (OwnI.of oa).lt
         have ea0 := ((HQ.out.later ka).cellAt 0 (by simp))
         have ea1 := ((HQ.out.later ka).cellAt 1 (by simp))
         simp only [List.getElem_cons_zero, List.getElem_cons_succ] at ea0 ea1
         have fa0 := (HQ.out.later ka).frozen 0
         have fa1 := (HQ.out.later ka).frozen 1
         skip)
      | (refine step_append_src rfl (.tmp 7) (.tmp 9) 24 rfl 3 _ _ _ Try.underlying24 int_infoY w2.heap.size _ _ 0 [] rfl (by first | exact oI_I | exact oHI_I | exact oIH_I | exact oWI | exact oI') LA m lc (ints ls) rfl HML2.out (hrl2.below (by first | assumption | exact Below.drew ((Below.refl _ _).alloc (Nat.le_refl _) _) | exact Below.drew (((Below.refl _ _).alloc (Nat.le_refl _) _).alloc (by simp) _) | exact Below.alloc (by assumption) (Below.size (by assumption)) _)) hone2.out (by omega) (Below.size (by first | assumption | exact Below.drew ((Below.refl _ _).alloc (Nat.le_refl _) _) | exact Below.drew (((Below.refl _ _).alloc (Nat.le_refl _) _).alloc (by simp) _) | exact Below.alloc (by assumption) (Below.size (by assumption)) _)) ?_
         intro v2 wb ob gb bb
         obtain ⟨A2, c2', rfl, _, _⟩ := own_slice ob
         rw [Nat.zero_add, List.nil_append] at ob
         have kb : Below w2.heap.size w2 wb := below_append (by first | assumption | exact Below.drew ((Below.refl _ _).alloc (Nat.le_refl _) _) | exact Below.drew (((Below.refl _ _).alloc (Nat.le_refl _) _).alloc (by simp) _) | exact Below.alloc (by assumption) (Below.size (by assumption)) _) gb (by first | exact oI_I | exact oHI_I | exact oIH_I | exact oWI | exact oI') rfl
         try have oH' := own_only oHI_H gb (by simp [Value.ownBlock])
         try have oH' := own_only oIH_H gb (by simp [Value.ownBlock])
         have oWH : (wb.alloc (.cells #[] 38)).ownsRow w2.heap.size 38 2 (.slice (some ⟨wb.heap.size, 0, none⟩) 0 0) 0 [] := oeH (Blk.new wb _ []) (Below.size kb)
         have HA2 : Hid (∀ W', Below wb.heap.size wb W' → W'.ownsRow w2.heap.size 3 1 (.slice A2 m c2') m (ints ls)) := Lib.hid fun W' h => own_later ob h
         have eb0 := ((HQ.out.later kb).cellAt 0 (by simp))
         have eb1 := ((HQ.out.later kb).cellAt 1 (by simp))
         simp only [List.getElem_cons_zero, List.getElem_cons_succ] at eb0 eb1
         have fb0 := (HQ.out.later kb).frozen 0
         have fb1 := (HQ.out.later kb).frozen 1
         skip))
  all_goals
    first
      | (have hA := own_only oa gb (fun e => own_types oa oI' (by decide) _ e rfl)
         clear ga gb ba bb la
         have OA := Lib.hid hA
         have OB := Lib.hid ob
         have KK := Lib.hid kb
         go_wp2_with fail
         refine bodyPost_ret (v := .agg #[.slice A1 n c1', .slice A2 m c2']) (by simp [results, Try.results49, go_sem, *]) rfl ?_
         have h6 : Out w.heap.size (w.heap.size + 2) wb ((wb.setCell ⟨w.heap.size + 1, 0, none⟩ (.slice A1 n c1')).setCell ⟨w.heap.size + 1, 1, none⟩ (.slice A2 m c2')) := out_set (out_set (Out.refl _ _ _) _ _ _ (by omega) (by omega)) _ _ _ (by omega) (by omega)
         refine papOut_mk HN.out HLN.out (own_out (own_base OA.out (by omega)) h6 ?_) (own_out (own_base OB.out (by omega)) h6 ?_) (below_out (below_trans HB.out KK.out) h6 (Nat.le_refl _))
         · intro g e
           have := (OA.out.lt g e).1
           omega
         · intro g e
           have := (OB.out.lt g e).1
           omega
         skip)
      | (have hA := own_only (own_later oa ((Below.refl _ _).alloc (Nat.le_refl _) _)) gb (fun e => Nat.lt_irrefl _ (oa.lt _ e).2)
         clear ga gb ba bb la
         have OA := Lib.hid hA
         have OB := Lib.hid ob
         have KK := Lib.hid kb
         go_wp2_with fail
         refine bodyPost_ret (v := .agg #[.slice A1 n c1', .slice A2 m c2']) (by simp [results, Try.results49, go_sem, *]) rfl ?_
         have h6 : Out w.heap.size (w.heap.size + 2) wb ((wb.setCell ⟨w.heap.size + 1, 0, none⟩ (.slice A1 n c1')).setCell ⟨w.heap.size + 1, 1, none⟩ (.slice A2 m c2')) := out_set (out_set (Out.refl _ _ _) _ _ _ (by omega) (by omega)) _ _ _ (by omega) (by omega)
         refine papOut_mk HN.out HLN.out (own_out (own_base OA.out (by omega)) h6 ?_) (own_out (own_base OB.out (by omega)) h6 ?_) (below_out (below_trans HB.out KK.out) h6 (Nat.le_refl _))
         · intro g e
           have := (OA.out.lt g e).1
           omega
         · intro g e
           have := (OB.out.lt g e).1
           omega
         skip)
      | (have hB := own_only ob ga (fun e => own_types ob oH' (by decide) _ e rfl)
         clear ga gb ba bb la
         have OA := Lib.hid oa
         have OB := Lib.hid hB
         have KK := Lib.hid ka
         go_wp2_with fail
         refine bodyPost_ret (v := .agg #[.slice A1 n c1', .slice A2 m c2']) (by simp [results, Try.results49, go_sem, *]) rfl ?_
         have h6 : Out w.heap.size (w.heap.size + 2) wa ((wa.setCell ⟨w.heap.size + 1, 0, none⟩ (.slice A1 n c1')).setCell ⟨w.heap.size + 1, 1, none⟩ (.slice A2 m c2')) := out_set (out_set (Out.refl _ _ _) _ _ _ (by omega) (by omega)) _ _ _ (by omega) (by omega)
         refine papOut_mk HN.out HLN.out (own_out (own_base OA.out (by omega)) h6 ?_) (own_out (own_base OB.out (by omega)) h6 ?_) (below_out (below_trans HB.out KK.out) h6 (Nat.le_refl _))
         · intro g e
           have := (OA.out.lt g e).1
           omega
         · intro g e
           have := (OB.out.lt g e).1
           omega
         skip)
      | (have hB := own_only (own_later ob ((Below.refl _ _).alloc (Nat.le_refl _) _)) ga (fun e => Nat.lt_irrefl _ (ob.lt _ e).2)
         clear ga gb ba bb la
         have OA := Lib.hid oa
         have OB := Lib.hid hB
         have KK := Lib.hid ka
         go_wp2_with fail
         refine bodyPost_ret (v := .agg #[.slice A1 n c1', .slice A2 m c2']) (by simp [results, Try.results49, go_sem, *]) rfl ?_
         have h6 : Out w.heap.size (w.heap.size + 2) wa ((wa.setCell ⟨w.heap.size + 1, 0, none⟩ (.slice A1 n c1')).setCell ⟨w.heap.size + 1, 1, none⟩ (.slice A2 m c2')) := out_set (out_set (Out.refl _ _ _) _ _ _ (by omega) (by omega)) _ _ _ (by omega) (by omega)
         refine papOut_mk HN.out HLN.out (own_out (own_base OA.out (by omega)) h6 ?_) (own_out (own_base OB.out (by omega)) h6 ?_) (below_out (below_trans HB.out KK.out) h6 (Nat.le_refl _))
         · intro g e
           have := (OA.out.lt g e).1
           omega
         · intro g e
           have := (OB.out.lt g e).1
           omega
         skip)
end Go.Proofs.Ytpkbipjnobfcdaa
