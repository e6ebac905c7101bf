/- The drawing of FnApplyDiffs: boxes, and differences of which one may be spoilt. -/
import Derived.Test.YtbhnlooellgfaaaDrawTold
import Derived.Test.YtbhnlooellgfaaaBxD
namespace Go.Proofs.Ytbhnlooellgfaaa
open Go Go.ChangeShapes Go.WideShapes Go.ChangeAt Go.RowKit
set_option linter.unusedVariables false
theorem diffs_mid (a b : List DiffV) (x : DiffV) : diffs (a ++ x :: b) = diffs a ++ ([.int .i64 x.k, .int .i64 x.b.f0, .int .i64 x.b.f1, .int .i64 x.b.f2, .int .i64 x.b.f3, .bool x.b.f4] ++ diffs b) := by
  rw [diffs_append]
  rfl
theorem own_setDiff {w : World} {base g n c i j : Nat} {L : List DiffV} {u : Value} {y : DiffV} (h : w.ownsRow base 56 6 (.slice (some ⟨g, 0, none⟩) n c) n (diffs L)) (hl : L.length = n) (hi : i < n) (hj : j < 6)
    (hy : (diffC (L[i]'(by omega))).set j u = diffC y) :
    (w.setCell ⟨g, i * 6 + j, none⟩ u).ownsRow base 56 6 (.slice (some ⟨g, 0, none⟩) n c) n (diffs (L.set i y)) ∧ w.grownBy (w.setCell ⟨g, i * 6 + j, none⟩ u) (some g) ∧ (∃ v, w.cell? ⟨g, i * 6 + j, none⟩ = some v ∧ (diffC (L[i]'(by omega)))[j]? = some v) ∧ w.frozen? ⟨g, i * 6 + j, none⟩ = false := by
  have hml : (diffs (L.take i)).length = i * 6 := by rw [diffs_len, List.length_take, Nat.min_eq_left (by omega)]
  have hsp : diffs L = diffs (L.take i) ++ (diffC (L[i]'(by omega)) ++ diffs (L.drop (i + 1))) := by
    conv => lhs; rw [← List.take_append_drop i L, List.drop_eq_getElem_cons (show i < L.length by omega)]
    rw [diffs_mid]; rfl
  have hst : (diffs L).set (i * 6 + j) u = diffs (L.set i y) := by
    rw [hsp, List.set_append_right _ _ (by omega), hml, Nat.add_sub_cancel_left, List.set_append_left _ _ (by rw [diffC_len]; exact hj), hy, List.set_eq_take_append_cons_drop, if_pos (by omega), diffs_mid]
    rfl
  obtain ⟨h1, h2⟩ := h.stored (i * 6 + j) u
  rw [hst] at h1
  refine ⟨h1, h2, ?_, h.frozenAt _⟩
  have hlen : i * 6 + j < (diffs L).length := by rw [diffs_len, hl]; omega
  refine ⟨_, (h.cellAt (i * 6 + j) (by omega)).trans (List.getElem?_eq_getElem hlen), ?_⟩
  rw [← List.getElem?_eq_getElem hlen, hsp, List.getElem?_append_right (by omega), hml, Nat.add_sub_cancel_left, List.getElem?_append_left (by rw [diffC_len]; exact hj)]
def DiffD (w : World) : Ending → World → Prop := RVal fun v w' => ∃ A n c zs B m d ds, v = .tuple #[.slice A n c, .slice B m d] ∧ RdV w' A (boxs zs) ∧ zs.length = n ∧ n ≤ c ∧ n ≤ 20 ∧ RdV w' B (diffs ds) ∧ ds.length = m ∧ m ≤ d ∧ m ≤ 20 ∧ Below w.heap.size w w'
theorem DiffD.mk {w w' : World} {A : Option Addr} {n c : Nat} {zs : List BoxV} {B : Option Addr} {m d : Nat} {ds : List DiffV} (h1 : RdV w' A (boxs zs)) (h2 : zs.length = n) (h3 : n ≤ c) (h4 : n ≤ 20) (h5 : RdV w' B (diffs ds)) (h6 : ds.length = m) (h7 : m ≤ d) (h8 : m ≤ 20) (h9 : Below w.heap.size w w') :
    DiffD w (.returned (.tuple #[.slice A n c, .slice B m d])) w' := RVal.mk ⟨A, n, c, zs, B, m, d, ds, rfl, h1, h2, h3, h4, h5, h6, h7, h8, h9⟩
theorem rd_own {w w' : World} {base : Nat} {e : TypeId} {k n c : Nat} {A B : Option Addr} {xs cs : List Value} (ho : w.ownsRow base e k (.slice B n c) n xs) (hr : RdV w A cs) (hg : w.grownBy w' (Value.slice B n c).ownBlock) (hA : ∀ b o, A = some ⟨b, o, none⟩ → b < base) : RdV w' A cs := by
  rcases hr with h | ⟨b, o, rfl, hl, hc⟩
  · exact .inl h
  · have hb := hA b o rfl
    exact .inr ⟨b, o, rfl, Nat.lt_of_lt_of_le hl hg.size, fun k hk => (World.cell?_of_block (hg.block b hl (fun e => by have := (ho.lt b e.symm).1; omega))).trans (hc k hk)⟩
/-- whatever differences of the call's own, beside boxes that can be read and a reader -/
structure ADAt (w W : World) (base g q : Nat) (A : Option Addr) (n c : Nat) (zs : List BoxV) (B : Option Addr) (m d : Nat) (ds : List DiffV) : Prop where
  rd1 : RdV W A (boxs zs)
  old : A = none ∨ zs = [] ∨ ∃ b o, A = some ⟨b, o, none⟩ ∧ b < base
  own : W.ownsRow base 56 6 (.slice B m d) m (diffs ds)
  len : ds.length = m
  rdr : Rdr W g q
  bel : Below w.heap.size w W
  lt : g < base
  lw : w.heap.size ≤ g
section
variable {w W W' : World} {base g q q' n c m d : Nat} {A B : Option Addr} {zs : List BoxV} {ds ds' : List DiffV}
theorem rdV_nilB {W : World} {A : Option Addr} : RdV W A (boxs []) := .inl rfl
theorem ADAt.pick (h : ADAt w W base g q A n c zs B m d ds) (hr : Rdr W' g q') (hg : W.grownBy W' (some g)) (hne : ∀ b o, A = some ⟨b, o, none⟩ → zs = [] ∨ b ≠ g) : ADAt w W' base g q' A n c zs B m d ds :=
  ⟨by
    rcases A with _ | ⟨b, o, sp⟩
    · rw [boxs_rd_none h.rd1]; exact rdV_nilB
    · rcases h.rd1 with e | ⟨b', o', e, hl, hc⟩
      · exact .inl e
      · injection e with e
        injection e with e1 e2 e3
        subst e1 e2 e3
        rcases hne b o rfl with e | hne
        · rw [e]; exact rdV_nilB
        · exact RdV.only h.rd1 hg hne,
   h.old, own_only h.own hg (own_ne h.own h.lt), h.len, hr, below_only h.bel hg h.lw, h.lt, h.lw⟩
theorem ADAt.stored (h : ADAt w W base g q A n c zs B m d ds) (ho : W'.ownsRow base 56 6 (.slice B m d) m (diffs ds')) (hg : W.grownBy W' (Value.slice B m d).ownBlock) (hl : ds'.length = m) : ADAt w W' base g q A n c zs B m d ds' :=
  ⟨by
    rcases h.old with e | e | ⟨b, o, e, hb⟩
    · subst e; rw [boxs_rd_none h.rd1]; exact rdV_nilB
    · subst e; exact rdV_nilB
    · exact rd_own h.own h.rd1 hg (fun b' o' e' => by rw [e] at e'; injection e' with e'; injection e' with e1 _; omega),
   h.old, ho, hl, h.rdr.away hg (fun b e => by have := (h.own.lt b e).1; have := h.lt; omega), h.bel.grown hg h.bel.size (fun b e => by have := (h.own.lt b e).1; have := h.lt; have := h.lw; omega), h.lt, h.lw⟩
end
set_option maxRecDepth 100000 in
set_option maxHeartbeats 8000000 in
theorem drawApplyDiffs_any (A : Option Addr) (n c : Nat) (bs : List Int) (w : World) (h : Code w A n c bs) : Calls Try.prog 32 #[.slice A n c] w (DiffD w) := by
  have h1 := open_any A n c bs w h
  clear h
  go_enter Try.func32, Try.ntmps32
  go_wp2_with fail
  refine h1.mono ?_
  rintro e w1 ⟨_, rfl, g, rfl, hg, hr, hb⟩
  have HB := Lib.hid hb
  clear hb h1
  go_wp2_with fail
  refine (l20Told_any g 0 9 _ hr (by omega) (by omega) (by omega)).mono ?_
  rintro e w2 ⟨_, rfl, A1, n1, c1, zs, A2, m, d, ss, rfl, hT⟩
  have HT := Lib.hid hT
  clear hT hr
  go_wp2_with fail
  refine (specDiffsOf A1 A2 n1 c1 m d zs ss w2 HT.out.len1 HT.out.len2 HT.out.rd1 HT.out.rd2 (by have := HT.out.mx1; omega) (by have := HT.out.mx2; omega)).mono ?_
  rintro e w3 ⟨_, rfl, D, p, dc, rfl, hDl, hDo, hDb⟩
  obtain ⟨q, hq, hrd⟩ := HT.out.rdr
  have hp20 : p ≤ 20 := by rw [← hDl]; exact diffsB_len zs ss
  have hol : A1 = none ∨ zs = [] ∨ ∃ b o, A1 = some ⟨b, o, none⟩ ∧ b < w2.heap.size := by
    rcases HT.out.rd1 with e | ⟨b, o, e, hl, _⟩
    · refine .inr (.inl ?_)
      have := boxs_len zs
      rw [e] at this
      exact List.eq_nil_of_length_eq_zero (by simp at this; omega)
    · exact .inr (.inr ⟨b, o, e, hl⟩)
  have HA : Hid (ADAt w w3 w2.heap.size g q A1 n1 c1 zs D p dc (diffsB zs ss)) := Lib.hid ⟨HT.out.rd1.below hDb, hol, hDo, hDl, hrd.kept hDb, below_trans (below_only HB.out HT.out.gr hg) hDb, hrd.lt, hg⟩
  have HNE := Lib.hid (show ∀ b o, A1 = some ⟨b, o, none⟩ → zs = [] ∨ b ≠ g from fun b o e => .inr (HT.out.ne1 b o e))
  have HL1 := Lib.hid HT.out.len1
  have HC1 := Lib.hid HT.out.cap1
  have HM1 := Lib.hid HT.out.mx1
  obtain ⟨_, _, ecap, hpd, _⟩ := own_slice hDo
  injection ecap with ec1 _ ec3
  subst ec1 ec3
  clear hDl hDo hDb hrd hol HB
  generalize w2.heap.size = base at *
  generalize diffsB zs ss = L at *
  clear HT
  have END : ∀ (W : World) (q : Nat) (L : List DiffV), ADAt w W base g q A1 n1 c1 zs D p dc L → DiffD w (.returned (.tuple #[.slice A1 n1 c1, .slice D p dc])) W := fun W q L h => DiffD.mk h.rd1 HL1.out HC1.out HM1.out (own_rd h.own) h.len hpd hp20 h.bel
  have HEND := Lib.hid END
  clear END
  by_cases hp0 : 0 < p
  · have hd0 : decide (0 < p) = true := decide_eq_true hp0
    go_wp2_with fail
    refine (odd_any g q 5 _ HA.out.rdr (by omega) (by omega)).mono ?_
    rintro e w4 ⟨bo, rfl, q4, hq4, hq4', hr4, hg4⟩
    have HA4 := Lib.hid (HA.out.pick hr4 hg4 HNE.out)
    clear HA hr4 hg4
    cases bo with
    | false =>
      go_wp2_with fail
      go_ret2
      exact HEND.out _ _ _ HA4.out
    | true =>
      go_wp2_with fail
      refine (pick_any g q4 (p : Int) _ HA4.out.rdr (by omega) (by omega)).mono ?_
      rintro e w5 ⟨v5, rfl, ⟨hv0, hv1, _⟩, hr5, hg5⟩
      have hv1 := hv1 (by omega)
      obtain ⟨i, rfl⟩ := Int.eq_ofNat_of_zero_le hv0
      have hip : i < p := by omega
      have HA5 := Lib.hid (HA4.out.pick hr5 hg5 HNE.out)
      clear HA4 hr5 hg5
      go_wp2_with fail
      refine (pick_any g (q4 + 1) 4 _ HA5.out.rdr (by omega) (by omega)).mono ?_
      rintro e w6 ⟨v6, rfl, _, hr6, hg6⟩
      have HA6 := Lib.hid (HA5.out.pick hr6 hg6 HNE.out)
      clear HA5 hr6 hg6
      rcases own_form HA6.out.own with ⟨_, hn0, _⟩ | ⟨gD, c', hv, _, hgl, _⟩
      · omega
      injection hv with hA _ hc9
      subst hA hc9
      have hiL : i < L.length := by rw [HA6.out.len]; exact hip
      obtain ⟨ho7, hg7, ⟨u, hu, hu2⟩, hfz⟩ := own_setDiff (j := 0) (u := .int .i64 v6) (y := ⟨v6, (L[i]).b⟩) HA6.out.own HA6.out.len hip (by decide) rfl
      simp only [diffC, List.getElem?_cons_zero, Option.some.injEq] at hu2
      subst hu2
      have HA7 := Lib.hid (HA6.out.stored ho7 hg7 (by rw [List.length_set]; exact HA6.out.len))
      rw [Nat.add_zero] at HA7 hu hfz
      generalize L[i] = li at *
      clear HA6 ho7 hg7
      generalize li.k = k0 at *
      go_wp2_with fail
      generalize w6.setCell ⟨gD, i * 6, none⟩ (.int .i64 v6) = w7 at *
      generalize L.set i ⟨v6, li.b⟩ = L7 at *
      clear hu hfz
      refine (pick_any g (q4 + 1 + 1) 2 _ HA7.out.rdr (by omega) (by omega)).mono ?_
      rintro e w8 ⟨v8, rfl, _, hr8, hg8⟩
      have HA8 := Lib.hid (HA7.out.pick hr8 hg8 HNE.out)
      clear HA7 hr8 hg8
      by_cases k8 : v8 = 0
      · have t8 : (v8 == 0) = true := by simp [k8]
        clear k8
        go_wp2_with fail
        refine (pick_any g (q4 + 1 + 1 + 1) 40 _ HA8.out.rdr (by omega) (by omega)).mono ?_
        rintro e w9 ⟨v9, rfl, _, hr9, hg9⟩
        have HA9 := Lib.hid (HA8.out.pick hr9 hg9 HNE.out)
        clear HA8 hr9 hg9
        have hiL : i < L7.length := by rw [HA9.out.len]; exact hip
        obtain ⟨ho7, hg7, ⟨u, hu, hu2⟩, hfz⟩ := own_setDiff (j := 2) (u := .int .i64 v9) (y := ⟨(L7[i]).k, ⟨(L7[i]).b.f0, v9, (L7[i]).b.f2, (L7[i]).b.f3, (L7[i]).b.f4⟩⟩) HA9.out.own HA9.out.len hip (by decide) rfl
        simp only [diffC, List.getElem?_cons_zero, List.getElem?_cons_succ, Option.some.injEq] at hu2
        subst hu2
        have HAa := Lib.hid (HA9.out.stored ho7 hg7 (by rw [List.length_set]; exact HA9.out.len))
        generalize L7[i] = li7 at *
        clear HA9 ho7 hg7
        generalize li7.b.f1 = k1 at *
        go_wp2_with fail
        go_ret2
        exact HEND.out _ _ _ HAa.out
      · have t8 : (v8 == 0) = false := by simpa using k8
        clear k8
        go_wp2_with fail
        go_ret2
        exact HEND.out _ _ _ HA8.out
  · have hd0 : decide (0 < p) = false := decide_eq_false hp0
    go_wp2_with fail
    go_ret2
    exact HEND.out _ _ _ HA.out
end Go.Proofs.Ytbhnlooellgfaaa
