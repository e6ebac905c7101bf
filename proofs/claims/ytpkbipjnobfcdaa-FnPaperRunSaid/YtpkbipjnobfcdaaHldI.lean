/- The library's Insert and Delete on lists of holds. -/
import Derived.Test.YtpkbipjnobfcdaaHldL
import Derived.Deep.RegionLaw

namespace Go.Proofs.Ytpkbipjnobfcdaa
open Go Go.ChangeShapes Go.WideShapes Go.ChangeAt Go.RowKit
theorem hold_size : (Try.prog.info? 38).map (·.size) = some 2 := by kernel_rfl
theorem add_lit' (b o j : Nat) : (⟨b, o, none⟩ : Addr).add j = ⟨b, o + j, none⟩ := by unfold Addr.add; split <;> simp_all
theorem holds_drop (zs : List HoldV) (i : Nat) (hi : i ≤ zs.length) : holds (zs.drop i) = (holds zs).drop (i * 2) := by
  have h : holds zs = holds (zs.take i) ++ holds (zs.drop i) := by rw [← holds_app, List.take_append_drop]
  have hl : (holds (zs.take i)).length = i * 2 := by rw [holds_len, List.length_take, Nat.min_eq_left hi]
  conv => rhs; rw [h]
  rw [List.drop_append_of_le_length (Nat.le_of_eq hl.symm), List.drop_of_length_le (Nat.le_of_eq hl), List.nil_append]
theorem overlaps_no {w : World} {vb b o m vc lb cb : Nat} {ta tb : TypeId} {ca cb' : List Value} (ha : Blk w vb ta ca) (hb : Blk w b tb cb') (hne : vb ≠ b) (h0 : cb' ≠ []) :
    (callFunc 94 #[.slice (some ⟨vb, 0, none⟩) m vc, .slice (some ⟨b, o, none⟩) lb cb]).run Try.prog w = .ok (.value (.bool false)) w := by
  rw [run_callFunc_extern Try.func94 (by kernel_rfl) (by kernel_rfl) (by kernel_rfl) (e := Extern.SlicesOverlaps.overlaps #[23, 23] #[4]) (by kernel_rfl),
    Lib.run_overlaps_apart w 23 4 38 Try.underlying23 2 (fun w => by
      have h := hold_size
      obtain ⟨i, hi, hs⟩ := Option.map_eq_some_iff.1 h
      simp [sizeOf, typeInfo, hi, hs]) ⟨vb, 0, none⟩ ⟨b, o, none⟩ m vc lb cb hne ta tb ca.length cb'.length (blk_shape ha) (blk_shape hb) (fun h => h0 (List.eq_nil_of_length_eq_zero h)) (ha.frozen 0) (ha.frozen ca.length)]
  rfl
theorem addr_run {w : World} {b off : Nat} {cs : List Value} (h : ∀ k (h : k < cs.length), w.cell? ⟨b, off + k, none⟩ = some cs[k]) : ∀ j v, cs[j]? = some v → w.cell? ((⟨b, off, none⟩ : Addr).add j) = some v := by
  intro j v hj
  obtain ⟨hl, rfl⟩ := List.getElem?_eq_some_iff.1 hj
  rw [add_lit']
  exact h j hl
theorem blk_src {w : World} {g : Nat} {t : TypeId} {a cs b : List Value} (h : Blk w g t (a ++ (cs ++ b))) : ∀ j v, cs[j]? = some v → w.cell? ((⟨g, a.length, none⟩ : Addr).add j) = some v := by
  intro j v hj
  obtain ⟨hl, rfl⟩ := List.getElem?_eq_some_iff.1 hj
  rw [add_lit', h.cell, List.getElem?_append_right (by omega), Nat.add_sub_cancel_left, List.getElem?_append_left hl, List.getElem?_eq_getElem hl]
def InsOut (w : World) (base : Nat) (v : Value) (zs : List HoldV) : Ending → World → Prop :=
  RVal fun u w' => w'.ownsRow base 38 2 u zs.length (holds zs) ∧ w.grownBy w' v.ownBlock ∧ (u.ownBlock = v.ownBlock ∨ ∃ g, u.ownBlock = some g ∧ w.heap.size ≤ g)
def insH (zs : List HoldV) (i : Nat) (x : HoldV) : List HoldV := zs.take i ++ (x :: zs.drop i)
theorem insH_len (zs : List HoldV) (i : Nat) (x : HoldV) (hi : i ≤ zs.length) : (insH zs i x).length = zs.length + 1 := by simp [insH]; omega
theorem holds_ins (zs : List HoldV) (i : Nat) (x : HoldV) : holds (insH zs i x) = holds (zs.take i) ++ ([.int .i64 x.f0, .int .i64 x.f1] ++ holds (zs.drop i)) := by
  unfold insH
  rw [holds_app]
  rfl
set_option maxRecDepth 100000 in
set_option maxHeartbeats 4000000 in
/-- in place -/
theorem insert_room (g n c i vb : Nat) (zs : List HoldV) (x : HoldV) (base : Nat) (w : World) (hn : zs.length = n) (h : w.ownsRow base 38 2 (.slice (some ⟨g, 0, none⟩) n c) n (holds zs))
    (hv : Blk w vb 38 [.int .i64 x.f0, .int .i64 x.f1]) (hne : vb ≠ g) (hi : i < n) (hroom : n + 1 ≤ c) (hm : n ≤ 1048576) :
    Calls Try.prog 86 #[.slice (some ⟨g, 0, none⟩) n c, .int .i64 i, .slice (some ⟨vb, 0, none⟩) 1 1] w (InsOut w base (.slice (some ⟨g, 0, none⟩) n c) (insH zs i x)) := by
  have HN := Lib.hid hn
  rcases own_blk h with ⟨e, _⟩ | ⟨g', sp, e, hbg, hblk, hsp, hnc, hcm⟩
  · cases e
  injection e with e
  injection e with e _
  subst e
  have hml : (holds zs).length = n * 2 := by rw [holds_len, hn]
  have hsplit : holds zs = holds (zs.take i) ++ holds (zs.drop i) := by rw [← holds_app, List.take_append_drop]
  have hT : (holds (zs.take i)).length = i * 2 := by rw [holds_len, List.length_take, Nat.min_eq_left (by omega)]
  have hD : (holds (zs.drop i)).length = (n - i) * 2 := by rw [holds_len, List.length_drop, hn]
  have hone := holds_cell (zs.drop i)
  generalize hTg : holds (zs.take i) = T at *
  generalize hDg : holds (zs.drop i) = D at *
  -- the cells behind i: two, then as many as D, then the rest
  obtain ⟨p, q, r, hpqr, hp, hq, hr⟩ : ∃ p q r, D ++ sp = p ++ (q ++ r) ∧ p.length = 2 ∧ q.length = D.length ∧ r.length = sp.length - 2 :=
    ⟨(D ++ sp).take 2, ((D ++ sp).drop 2).take D.length, ((D ++ sp).drop 2).drop D.length, by rw [List.take_append_drop, List.take_append_drop], by rw [List.length_take, List.length_append]; omega, by rw [List.length_take, List.length_drop, List.length_append]; omega, by rw [List.length_drop, List.length_drop, List.length_append]; omega⟩
  have hB0 : Blk w g 38 (T ++ (D ++ sp)) := by rw [hsplit, List.append_assoc] at hblk; exact hblk
  have hB1 : Blk w.drew g 38 ((T ++ p) ++ (q ++ r)) := by
    have := hB0
    rw [hpqr] at this
    rw [List.append_assoc]
    exact this
  have hB2 : Blk (w.drew.setCells g ((i + 1) * 2) D) g 38 ((T ++ p) ++ (D ++ r)) := hB1.setCells_ D (by rw [List.length_append, hT, hp]; omega) hq
  have hB2' : Blk (w.drew.setCells g ((i + 1) * 2) D) g 38 (T ++ (p ++ (D ++ r))) := by rw [← List.append_assoc]; exact hB2
  have hB3 : Blk ((w.drew.setCells g ((i + 1) * 2) D).setCells g (i * 2) [.int .i64 x.f0, .int .i64 x.f1]) g 38 (T ++ ([.int .i64 x.f0, .int .i64 x.f1] ++ (D ++ r))) := hB2'.setCells_ _ hT (by rw [hp]; rfl)
  have hv2 : Blk (w.drew.setCells g ((i + 1) * 2) D) vb 38 [.int .i64 x.f0, .int .i64 x.f1] := ((grown_setCells g D _ w.drew).block vb hv.lt (fun e => hne (by injection e))).trans hv
  have hov : ∀ lb cb, (callFunc 94 #[.slice (some ⟨vb, 0, none⟩) 1 1, .slice (some ⟨g, (i + 1) * 2, none⟩) lb cb]).run Try.prog w = .ok (.value (.bool false)) w := fun lb cb => overlaps_no hv hB0 hne (by intro e; have := congrArg List.length e; simp at this; have h1 := List.length_eq_zero_iff.2 this.2.1; omega)
  have hcp1 : ∀ ty dc sc, (Builtin.copy_ #[23, 23] ty #[.slice (some ⟨g, (i + 1) * 2, none⟩) (n - i) dc, .slice (some ⟨g, i * 2, none⟩) (n + 1 - i) sc]).run Try.prog w.drew = .ok (goInt (Nat.min (n + 1 - i) (n - i))) (w.drew.setCells g ((i + 1) * 2) D) := fun ty dc sc =>
    run_copy_blk w.drew _ _ ty 38 2 g ((i + 1) * 2) _ dc ⟨g, i * 2, none⟩ _ sc 38 (T ++ p) q r D Try.underlying23 hold_size (by rw [hD]; simp only [Nat.min_def]; split <;> omega)
      (by rw [← hT]; exact blk_src (b := sp) (w := w.drew) hB0) hB1 (by rw [List.length_append, hT, hp]; omega) hq hone
  have hcp2 : ∀ (W : World), W = (w.drew.setCells g ((i + 1) * 2) D) → ∀ ty dc, (Builtin.copy_ #[23, 23] ty #[.slice (some ⟨g, i * 2, none⟩) (n + 1 - i) dc, .slice (some ⟨vb, 0, none⟩) 1 1]).run Try.prog W = .ok (goInt (Nat.min 1 (n + 1 - i))) (W.setCells g (i * 2) [.int .i64 x.f0, .int .i64 x.f1]) := fun W hW ty dc => by
    subst hW
    exact run_copy_blk _ _ _ ty 38 2 g (i * 2) _ dc ⟨vb, 0, none⟩ 1 1 38 T p (D ++ r) _ Try.underlying23 hold_size (by simp only [Nat.min_def]; split <;> simp; omega)
      (addr_run (fun k hk => by rw [Nat.zero_add]; exact hv2.cellAt k hk)) hB2' hT (by rw [hp]; rfl) (by simp [Value.oneCell'])
  have hfin : ((w.drew.setCells g ((i + 1) * 2) D).setCells g (i * 2) [.int .i64 x.f0, .int .i64 x.f1]).ownsRow base 38 2 (.slice (some ⟨g, 0, none⟩) (n + 1) c) (n + 1) (holds (insH zs i x)) := by
    rw [holds_ins, hTg, hDg]
    refine own_mk (sp := r) (by rw [List.append_assoc, List.append_assoc]; exact hB3) hbg ?_ ?_ hroom hcm
    · simp only [List.length_append, hT, hD, List.length_cons, List.length_nil]; omega
    · rw [hr, hsp]; omega
  have hgr : w.grownBy ((w.drew.setCells g ((i + 1) * 2) D).setCells g (i * 2) [.int .i64 x.f0, .int .i64 x.f1]) (some g) := World.grownBy.trans (World.grownBy.trans (b := w.drew) ⟨rfl, rfl, rfl, Nat.le_refl _, fun _ _ _ => rfl⟩ (grown_setCells g D _ _)) (grown_setCells g _ _ _)
  have HF := Lib.hid hfin
  have HG := Lib.hid hgr
  have hil : (insH zs i x).length = n + 1 := by rw [insH_len _ _ _ (by omega), hn]
  have HIL := Lib.hid hil
  obtain ⟨W1, hW1⟩ : ∃ W1, W1 = w.drew.setCells g ((i + 1) * 2) D := ⟨_, rfl⟩
  rw [← hW1] at hcp1 hcp2 HF HG
  clear hW1
  have hz2 : ¬ ((i : Int) = (n : Int)) := by omega
  have hb1 : (i : Int) ≤ (n : Int) + 1 := by omega
  have hb2 : ¬ (c = i + 1) := by omega
  have hb4 : ¬ (c = i) := by omega
  have hb5 : (n : Int) + 1 ≤ (c : Int) := by omega
  have hci : (c : Int) ≤ 9223372036854775807 := by unfold maxLen at hcm; omega
  clear hn hml hsplit hT hD hone hTg hDg hpqr hp hq hr hB0 hB1 hB2 hB2' hB3 hv2 hfin hgr hil hblk hsp h hv
  go_enter Try.func86, Try.ntmps86
  go_wp2_with (simp only [hov])
  have hw1 : IntKind.i64.wrap ((i : Int) + 1) = (i : Int) + 1 := by rw [IntKind.wrap_i64]; omega
  have hw2 : (0 : Int) ≤ (i : Int) + 1 := by omega
  have htn : ((i : Int) + 1).toNat = i + 1 := by omega
  have hin : i ≤ n := by omega
  go_region_law (refine step_copy_runE rfl _ _ 23 23 rfl _ _ (by simp [Act.eval, Act.put]) (by simp [Act.eval, Act.put]) (hcp1 _ _ _) ?_)
  clear hw1 hw2 htn hcp1
  go_wp2_with (at_builtin; refine wpList_copy_runE _ rfl _ _ 23 23 rfl _ _ rfl rfl (hcp2 _ rfl _ _) ?_)
  go_ret
  exact RVal.mk ⟨by rw [HIL.out]; exact HF.out, HG.out, .inl rfl⟩
set_option maxRecDepth 100000 in
set_option maxHeartbeats 4000000 in
/-- at the end -/
theorem insert_end (A : Option Addr) (n c vb : Nat) (zs : List HoldV) (x : HoldV) (base : Nat) (w : World) (hn : zs.length = n) (h : w.ownsRow base 38 2 (.slice A n c) n (holds zs))
    (hv : Blk w vb 38 [.int .i64 x.f0, .int .i64 x.f1]) (hbase : base ≤ w.heap.size) (hm : n ≤ 1048576) :
    Calls Try.prog 86 #[.slice A n c, .int .i64 n, .slice (some ⟨vb, 0, none⟩) 1 1] w (InsOut w base (.slice A n c) (insH zs n x)) := by
  have HN := Lib.hid hn
  obtain ⟨_, _, e, hnc, hcm⟩ := own_slice h
  injection e with e1 _ e3
  subst e1 e3
  have hrd : RdV w (some ⟨vb, 0, none⟩) [.int .i64 x.f0, .int .i64 x.f1] := .inr ⟨vb, 0, rfl, hv.lt, fun k hk => by rw [Nat.zero_add]; exact hv.cellAt k hk⟩
  have hil : (insH zs n x).length = n + 1 := by rw [insH_len _ _ _ (by omega), hn]
  have HIL := Lib.hid hil
  have hie : holds (insH zs n x) = holds zs ++ [.int .i64 x.f0, .int .i64 x.f1] := by
    rw [holds_ins, List.take_of_length_le (by omega), List.drop_of_length_le (by omega)]
    rfl
  have HIE := Lib.hid hie
  unfold maxLen at hcm
  clear hn hil hie
  by_cases hcn : c = n
  · subst hcn
    go_enter Try.func86, Try.ntmps86
    go_wp2_with (at_builtin; refine append_src rfl (.tmp 23) (.tmp 24) 23 rfl 38 _ _ _ Try.underlying23 hold_infoD base _ (.slice A c c) c _ rfl h (some ⟨vb, 0, none⟩) 1 1 [.int .i64 x.f0, .int .i64 x.f1] rfl rfl hrd (by simp [Value.oneCell']) (by omega) hbase ?_; intro v' w6 hown6 hg6 hblk6)
    go_ret
    exact RVal.mk ⟨by rw [HIL.out, HIE.out]; exact hown6, hg6, by
      rcases hblk6 with h | h
      · exact .inl h
      · exact .inr ⟨_, h, Nat.le_refl _⟩⟩
  · skip
    go_enter Try.func86, Try.ntmps86
    go_wp2_with (at_builtin; refine append_src rfl (.tmp 23) (.tmp 24) 23 rfl 38 _ _ _ Try.underlying23 hold_infoD base _ (.slice A n c) n _ rfl h (some ⟨vb, 0, none⟩) 1 1 [.int .i64 x.f0, .int .i64 x.f1] rfl rfl hrd (by simp [Value.oneCell']) (by omega) hbase ?_; intro v' w6 hown6 hg6 hblk6)
    go_ret
    exact RVal.mk ⟨by rw [HIL.out, HIE.out]; exact hown6, hg6, by
      rcases hblk6 with h | h
      · exact .inl h
      · exact .inr ⟨_, h, Nat.le_refl _⟩⟩
set_option maxRecDepth 100000 in
set_option maxHeartbeats 4000000 in
/-- within, no room -/
theorem insert_grow (g n c i vb : Nat) (zs : List HoldV) (x : HoldV) (base : Nat) (w : World) (hn : zs.length = n) (h : w.ownsRow base 38 2 (.slice (some ⟨g, 0, none⟩) n c) n (holds zs))
    (hv : Blk w vb 38 [.int .i64 x.f0, .int .i64 x.f1]) (hi : i < n) (hroom : c < n + 1) (hm : n ≤ 1048576) (hbase : base ≤ w.heap.size) :
    Calls Try.prog 86 #[.slice (some ⟨g, 0, none⟩) n c, .int .i64 i, .slice (some ⟨vb, 0, none⟩) 1 1] w (InsOut w base (.slice (some ⟨g, 0, none⟩) n c) (insH zs i x)) := by
  have HN := Lib.hid hn
  rcases own_blk h with ⟨e, _⟩ | ⟨g', sp, e, hbg, hblk, hsp, hnc, hcm⟩
  · cases e
  injection e with e
  injection e with e _
  subst e
  obtain rfl : c = n := by omega
  have hml : (holds zs).length = c * 2 := by rw [holds_len, hn]
  have hsplit : holds zs = holds (zs.take i) ++ holds (zs.drop i) := by rw [← holds_app, List.take_append_drop]
  have hT : (holds (zs.take i)).length = i * 2 := by rw [holds_len, List.length_take, Nat.min_eq_left (by omega)]
  have hD : (holds (zs.drop i)).length = (c - i) * 2 := by rw [holds_len, List.length_drop, hn]
  have honeD := holds_cell (zs.drop i)
  have honeT := holds_cell (zs.take i)
  have hins := holds_ins zs i x
  generalize hTg : holds (zs.take i) = T at *
  generalize hDg : holds (zs.drop i) = D at *
  have hB0 : Blk w g 38 (T ++ (D ++ sp)) := by rw [hsplit, List.append_assoc] at hblk; exact hblk
  obtain ⟨i0, hi0, hinf⟩ := Option.map_eq_some_iff.1 hold_info
  simp only [Prod.mk.injEq] at hinf
  obtain ⟨hz0, hzs, hzb⟩ := hinf
  have hold : (Builtin.firstCells i0.size i (.slice (some ⟨g, 0, none⟩) i c)).run Try.prog w.drew = .ok T.toArray w.drew := by
    rw [hzs]
    exact run_firstCells_some w.drew 2 i ⟨g, 0, none⟩ i c T hT (blk_src (a := []) (b := D ++ sp) (w := w.drew) hB0)
  obtain ⟨G, hG⟩ : ∃ G, G = grownCap w (c + 1) c 38 := ⟨_, rfl⟩
  have hGn : c + 1 ≤ G := by rw [hG]; exact grownCap_ge w _ _ _
  have hGm : G ≤ maxLen := by rw [hG]; exact grownCap_le_maxLen w (c + 1) c _ (by unfold maxLen; omega)
  have hrz : ∀ ty, (Builtin.append_ #[23, 3] ty #[.slice (some ⟨g, 0, none⟩) i c, .int .i64 ((c : Int) + 1 - (i : Int))]).run Try.prog w =
      .ok (.slice (some ⟨w.heap.size, 0, none⟩) (c + 1) G) (w.drew.alloc (.cells (T ++ ((List.replicate (c + 1 - i) [Value.int .i64 0, Value.int .i64 0]).flatten ++ (List.replicate (G - (c + 1)) [Value.int .i64 0, Value.int .i64 0]).flatten)).toArray 38)) := fun ty => by
    have hik : i + (c + 1 - i) = c + 1 := by omega
    have h := Lib.run_append_grow_zeros (P := Try.prog) w 23 3 ty 38 i0 _ .i64 .i64 Try.underlying23 Try.underlying3 hi0 hz0 (some ⟨g, 0, none⟩) i c T hold (c + 1 - i) (by omega) (by omega) (by omega) (by omega) (by rw [hzb]; omega) (by rw [hzb, hik]; exact growslice_fits (by omega) (by omega))
    rw [hik, ← hG] at h
    rw [show (c : Int) + 1 - (i : Int) = ((c + 1 - i : Nat) : Int) from by omega, h]
    congr 3
    rw [show (Value.agg #[Value.int .i64 0, Value.int .i64 0]).cells = [Value.int .i64 0, Value.int .i64 0].toArray from rfl, zeroCells_k _ _ (by decide), zeroCells_k _ _ (by decide)]
    simp
  have hZ1 : ((List.replicate (c + 1 - i) [Value.int .i64 0, Value.int .i64 0]).flatten).length = (c + 1 - i) * 2 := by simp
  have hZ2 : ((List.replicate (G - (c + 1)) [Value.int .i64 0, Value.int .i64 0]).flatten).length = (G - (c + 1)) * 2 := by simp
  generalize (List.replicate (c + 1 - i) [Value.int .i64 0, Value.int .i64 0]).flatten = Z1 at *
  generalize (List.replicate (G - (c + 1)) [Value.int .i64 0, Value.int .i64 0]).flatten = Z2 at *
  obtain ⟨p, q, rfl, hp, hq⟩ : ∃ p q, Z1 = p ++ q ∧ p.length = 2 ∧ q.length = D.length := ⟨Z1.take 2, Z1.drop 2, by rw [List.take_append_drop], by rw [List.length_take]; omega, by rw [List.length_drop]; omega⟩
  have hR1 : Blk (w.drew.alloc (.cells (T ++ (p ++ q ++ Z2)).toArray 38)) w.heap.size 38 (T ++ (p ++ (q ++ Z2))) := by
    have := Blk.new w.drew 38 (T ++ (p ++ q ++ Z2))
    rw [List.append_assoc p] at this ⊢
    exact this
  have hg1 : w.grownBy (w.drew.alloc (.cells (T ++ (p ++ q ++ Z2)).toArray 38)) none := World.grownBy.trans (b := w.drew) ⟨rfl, rfl, rfl, Nat.le_refl _, fun _ _ _ => rfl⟩ (World.grownBy_alloc _ _ _)
  generalize w.drew.alloc (.cells (T ++ (p ++ q ++ Z2)).toArray 38) = W1 at *
  have hvlt := hv.lt
  have hglt := hB0.lt
  have hv1 : Blk W1 vb 38 [.int .i64 x.f0, .int .i64 x.f1] := (hg1.block vb hvlt (by simp)).trans hv
  have hB1 : Blk W1 g 38 (T ++ (D ++ sp)) := (hg1.block g hglt (by simp)).trans hB0
  have hcpA : ∀ ty dc, (Builtin.copy_ #[23, 23] ty #[.slice (some ⟨w.heap.size, i * 2, none⟩) (c + 1 - i) dc, .slice (some ⟨vb, 0, none⟩) 1 1]).run Try.prog W1 = .ok (goInt (Nat.min 1 (c + 1 - i))) (W1.setCells w.heap.size (i * 2) [.int .i64 x.f0, .int .i64 x.f1]) := fun ty dc =>
    run_copy_blk _ _ _ ty 38 2 w.heap.size (i * 2) _ dc ⟨vb, 0, none⟩ 1 1 38 T p (q ++ Z2) _ Try.underlying23 hold_size (by simp only [Nat.min_def]; split <;> simp; omega)
      (addr_run (fun k hk => by rw [Nat.zero_add]; exact hv1.cellAt k hk)) hR1 hT (by rw [hp]; rfl) (by simp [Value.oneCell'])
  have hR2 : Blk (W1.setCells w.heap.size (i * 2) [.int .i64 x.f0, .int .i64 x.f1]) w.heap.size 38 (T ++ ([.int .i64 x.f0, .int .i64 x.f1] ++ (q ++ Z2))) := hR1.setCells_ _ hT (by rw [hp]; rfl)
  have hg2 := grown_setCells w.heap.size [.int .i64 x.f0, .int .i64 x.f1] (i * 2) W1
  generalize W1.setCells w.heap.size (i * 2) [.int .i64 x.f0, .int .i64 x.f1] = W2 at *
  have hB2 : Blk W2 g 38 (T ++ (D ++ sp)) := (hg2.block g (Nat.lt_of_lt_of_le hglt hg1.size) (fun e => by injection e with e; omega)).trans hB1
  have hR2' : Blk W2.drew w.heap.size 38 ((T ++ [.int .i64 x.f0, .int .i64 x.f1]) ++ (q ++ Z2)) := by rw [List.append_assoc]; exact hR2
  have hcpB : ∀ ty dc sc, (Builtin.copy_ #[23, 23] ty #[.slice (some ⟨w.heap.size, (i + 1) * 2, none⟩) (c - i) dc, .slice (some ⟨g, i * 2, none⟩) (c - i) sc]).run Try.prog W2.drew = .ok (goInt (Nat.min (c - i) (c - i))) (W2.drew.setCells w.heap.size ((i + 1) * 2) D) := fun ty dc sc =>
    run_copy_blk _ _ _ ty 38 2 w.heap.size ((i + 1) * 2) _ dc ⟨g, i * 2, none⟩ _ sc 38 (T ++ [.int .i64 x.f0, .int .i64 x.f1]) q Z2 D Try.underlying23 hold_size (by rw [hD]; simp)
      (by rw [← hT]; exact blk_src (b := sp) (w := W2.drew) hB2) hR2' (by rw [List.length_append, hT]; simp; omega) hq honeD
  have hR3 : Blk (W2.drew.setCells w.heap.size ((i + 1) * 2) D) w.heap.size 38 ((T ++ [.int .i64 x.f0, .int .i64 x.f1]) ++ (D ++ Z2)) := hR2'.setCells_ _ (by rw [List.length_append, hT]; simp; omega) hq
  have hg3 := grown_setCells w.heap.size D ((i + 1) * 2) W2.drew
  generalize W2.drew.setCells w.heap.size ((i + 1) * 2) D = W3 at *
  have HF : Hid (W3.ownsRow base 38 2 (.slice (some ⟨w.heap.size, 0, none⟩) (c + 1) G) (c + 1) (holds (insH zs i x))) := Lib.hid (by
    rw [hins]
    refine own_mk (sp := Z2) (by rw [List.append_assoc] at hR3; rw [List.append_assoc, List.append_assoc]; exact hR3) hbase ?_ ?_ hGn hGm
    · simp only [List.length_append, hT, hD, List.length_cons, List.length_nil]; omega
    · exact hZ2)
  have HG : Hid (w.grownBy W3 (some g)) := Lib.hid ⟨hg3.os.trans (hg2.os.trans hg1.os), hg3.tape.trans (hg2.tape.trans hg1.tape), hg3.output.trans (hg2.output.trans hg1.output), Nat.le_trans hg1.size (Nat.le_trans hg2.size hg3.size), fun k hk hne => (hg3.block k (Nat.lt_of_lt_of_le hk (Nat.le_trans hg1.size hg2.size)) (fun e => by injection e with e; omega)).trans ((hg2.block k (Nat.lt_of_lt_of_le hk hg1.size) (fun e => by injection e with e; omega)).trans (hg1.block k hk (by simp)))⟩
  have HIL : Hid ((insH zs i x).length = c + 1) := Lib.hid (by rw [insH_len _ _ _ (by omega), hn])
  have hz2 : ¬ ((i : Int) = (c : Int)) := by omega
  have hb1 : (i : Int) ≤ (c : Int) + 1 := by omega
  have hb2 : ¬ (G = i + 1) := by omega
  have hb3 : ¬ (G = i) := by omega
  have hb4 : ¬ (c = i) := by omega
  have hGi : (G : Int) ≤ 9223372036854775807 := by unfold maxLen at hGm; omega
  have hGc : (c : Int) + 1 ≤ (G : Int) := by omega
  have hii : (i : Int) ≤ (c : Int) := by omega
  have hin : i ≤ c := by omega
  clear hn hml hsplit hT hD honeD honeT hTg hDg hins hB0 hi0 hz0 hzs hzb hold hG hZ1 hZ2 hp hq hR1 hg1 hvlt hglt hv1 hB1 hR2 hg2 hB2 hR2' hR3 hg3 hblk hsp h hv
  go_enter Try.func86, Try.ntmps86
  go_wp2_with (first
    | (at_builtin; refine wpList_append_runE _ rfl _ _ _ _ rfl _ _ rfl rfl (hrz _) ?_)
    | (at_builtin; refine wpList_copy_runE _ rfl _ _ 23 23 rfl _ _ rfl rfl (hcpA _ _) ?_))
  have hw1 : IntKind.i64.wrap ((i : Int) + 1) = (i : Int) + 1 := by rw [IntKind.wrap_i64]; omega
  have hw2 : (0 : Int) ≤ (i : Int) + 1 := by omega
  have htn : ((i : Int) + 1).toNat = i + 1 := by omega
  go_region_law (refine step_copy_runE rfl _ _ 23 23 rfl _ _ (by simp [Act.eval, Act.put]) (by simp [Act.eval, Act.put]) (hcpB _ _ _) ?_)
  clear hw1 hw2 htn
  go_wp2_with fail
  go_ret
  exact RVal.mk ⟨by rw [HIL.out]; exact HF.out, HG.out, .inr ⟨_, rfl, Nat.le_refl _⟩⟩
theorem insertH_any (A : Option Addr) (n c i vb : Nat) (zs : List HoldV) (x : HoldV) (base : Nat) (w : World) (hn : zs.length = n) (h : w.ownsRow base 38 2 (.slice A n c) n (holds zs))
    (hv : Blk w vb 38 [.int .i64 x.f0, .int .i64 x.f1]) (hne : (Value.slice A n c).ownBlock ≠ some vb) (hi : i ≤ n) (hm : n ≤ 1048576) (hbase : base ≤ w.heap.size) :
    Calls Try.prog 86 #[.slice A n c, .int .i64 i, .slice (some ⟨vb, 0, none⟩) 1 1] w (InsOut w base (.slice A n c) (insH zs i x)) := by
  rcases Nat.eq_or_lt_of_le hi with rfl | hlt
  · exact insert_end A i c vb zs x base w hn h hv hbase hm
  · rcases own_form h with ⟨_, h0, _⟩ | ⟨g, c', e, _, _, _⟩
    · omega
    · injection e with e1 _ e3
      subst e1 e3
      rcases Nat.lt_or_ge c (n + 1) with hc | hc
      · exact insert_grow g n c i vb zs x base w hn h hv hlt hc hm hbase
      · exact insert_room g n c i vb zs x base w hn h hv (fun e => hne (by rw [e]; rfl)) hlt hc hm
theorem hold_zero (w : World) : (zeroValue 38).run Try.prog w = .ok (.agg #[.int .i64 0, .int .i64 0]) w := by
  obtain ⟨i0, hi0, hinf⟩ := Option.map_eq_some_iff.1 hold_info
  simp only [Prod.mk.injEq] at hinf
  simp [zeroValue, typeInfo, hi0, hinf.1]
/-- without the element i -/
def delH (zs : List HoldV) (i : Nat) : List HoldV := zs.take i ++ zs.drop (i + 1)
def DelOut (w : World) (base : Nat) (A : Option Addr) (n c i : Nat) (zs : List HoldV) : Ending → World → Prop :=
  RVal fun u w' => u = .slice A (n - 1) c ∧ w'.ownsRow base 38 2 (.slice A (n - 1) c) (n - 1) (holds (delH zs i)) ∧ w.grownBy w' (Value.slice A n c).ownBlock
set_option maxRecDepth 100000 in
set_option maxHeartbeats 4000000 in
theorem deleteH_k (A : Option Addr) (n c i k : Nat) (hk : k = i + 1) (zs : List HoldV) (base : Nat) (w : World) (hn : zs.length = n) (h : w.ownsRow base 38 2 (.slice A n c) n (holds zs)) (hi : i < n) (hm : n ≤ 1048576) :
    Calls Try.prog 87 #[.slice A n c, .int .i64 i, .int .i64 k] w (DelOut w base A n c i zs) := by
  have HN := Lib.hid hn
  obtain ⟨_, _, e, hnc, hcm⟩ := own_slice h
  injection e with e1 _ e3
  subst e1 e3
  have hci : (c : Int) ≤ 9223372036854775807 := by unfold maxLen at hcm; omega
  rcases own_blk h with ⟨_, hn0, _⟩ | ⟨g, sp, rfl, hbg, hblk, hsp, _, _⟩
  · omega
  have hT : (holds (zs.take i)).length = i * 2 := by rw [holds_len, List.length_take, hn, Nat.min_eq_left (by omega)]
  have hX : (holds [zs[i]'(by omega)]).length = 2 := by rw [holds_len]; rfl
  have hD : (holds (zs.drop (i + 1))).length = (n - 1 - i) * 2 := by rw [holds_len, List.length_drop, hn]; omega
  have hone := holds_cell (zs.drop (i + 1))
  have hsplit : holds zs = holds (zs.take i) ++ (holds [zs[i]'(by omega)] ++ holds (zs.drop (i + 1))) := by
    rw [← holds_app, ← holds_app]
    congr 1
    show zs = zs.take i ++ (zs[i]'(by omega) :: zs.drop (i + 1))
    rw [← List.drop_eq_getElem_cons, List.take_append_drop]
  have hdl : holds (delH zs i) = holds (zs.take i) ++ holds (zs.drop (i + 1)) := holds_app _ _
  generalize holds (zs.take i) = T at *
  generalize holds [zs[i]'(by omega)] = X at *
  generalize holds (zs.drop (i + 1)) = D at *
  obtain ⟨p, q, hpq, hp, hq⟩ : ∃ p q, X ++ D = p ++ q ∧ p.length = D.length ∧ q.length = 2 := ⟨(X ++ D).take D.length, (X ++ D).drop D.length, by rw [List.take_append_drop], by rw [List.length_take, List.length_append]; omega, by rw [List.length_drop, List.length_append]; omega⟩
  have hB0 : Blk w.drew g 38 ((T ++ X) ++ (D ++ sp)) := by rw [hsplit, ← List.append_assoc T, List.append_assoc] at hblk; exact hblk
  have hB0' : Blk w.drew g 38 (T ++ (p ++ (q ++ sp))) := by rw [hsplit, hpq, List.append_assoc, List.append_assoc] at hblk; exact hblk
  have hTX : (T ++ X).length = (i + 1) * 2 := by rw [List.length_append]; omega
  obtain ⟨i0, hi0, hinf⟩ := Option.map_eq_some_iff.1 hold_info
  simp only [Prod.mk.injEq] at hinf
  obtain ⟨hz0, hzs, hzb⟩ := hinf
  have hsrcS : ∀ a k, (a = ⟨g, (i + 1) * 2, none⟩ ∨ n - 1 - i = 0) → Src Try.prog i0.size 23 (.slice (some a) (n - 1 - i) k) (n - 1 - i) D w.drew := fun a k ha => by
    rw [hzs]
    refine Src.ofSlice w.drew Try.underlying23 a (n - 1 - i) k D hD ?_ hone
    rcases ha with rfl | h0
    · rw [← hTX]; exact blk_src (b := sp) hB0
    · intro s v hs
      obtain rfl : D = [] := List.eq_nil_of_length_eq_zero (by rw [hD, h0, Nat.zero_mul])
      simp at hs
  have hap : ∀ ty a k, (a = ⟨g, (i + 1) * 2, none⟩ ∨ n - 1 - i = 0) → (Builtin.append_ #[23, 23] ty #[.slice (some ⟨g, 0, none⟩) i c, .slice (some a) (n - 1 - i) k]).run Try.prog w.drew = .ok (.slice (some ⟨g, 0, none⟩) (n - 1) c) (w.drew.setCells g (i * 2) D) := fun ty a k ha => by
    have := run_append_room_src (P := Try.prog) w.drew 23 23 ty 38 i0 Try.underlying23 hi0 g 0 i c _ (n - 1 - i) D (hsrcS a k ha) (by omega) (fun s hs => by rw [hzs, Nat.zero_add]; exact blk_some hB0' _ (by simp only [List.length_append]; omega)) (fun s _ => hB0'.frozen _)
    rw [hzs, Nat.zero_add, show i + (n - 1 - i) = n - 1 from by omega] at this
    exact this
  have hB1 : Blk (w.drew.setCells g (i * 2) D) g 38 (T ++ (D ++ (q ++ sp))) := hB0'.setCells_ _ hT hp
  have hg1 : w.grownBy (w.drew.setCells g (i * 2) D) (some g) := World.grownBy.trans (b := w.drew) ⟨rfl, rfl, rfl, Nat.le_refl _, fun _ _ _ => rfl⟩ (grown_setCells g D (i * 2) w.drew)
  generalize w.drew.setCells g (i * 2) D = W1 at *
  have hB1' : Blk W1 g 38 ((T ++ D) ++ (q ++ sp)) := by rw [List.append_assoc]; exact hB1
  have hTD : (T ++ D).length = (n - 1) * 2 := by rw [List.length_append]; omega
  have hcl : ∀ ty k, (Builtin.clear_ #[23] ty #[.slice (some ⟨g, (n - 1) * 2, none⟩) 1 k]).run Try.prog W1 = .ok (.tuple #[]) (W1.setCells g ((n - 1) * 2) (List.replicate 1 [Value.int .i64 0, Value.int .i64 0]).flatten) := fun ty k =>
    run_clear_k W1 23 38 ty (.agg #[.int .i64 0, .int .i64 0]) [.int .i64 0, .int .i64 0] Try.underlying23 hold_zero rfl (by decide) (by simp [Value.oneCell']) g ((n - 1) * 2) 1 k (by omega) (fun s hs => blk_some hB1' _ (by rw [List.length_append, hTD, List.length_append, hq]; simp only [List.length_cons, List.length_nil] at hs; omega)) (fun s _ => hB1'.frozen _)
  have hZ : ((List.replicate 1 [Value.int .i64 0, Value.int .i64 0]).flatten).length = 2 := by simp
  generalize (List.replicate 1 [Value.int .i64 0, Value.int .i64 0]).flatten = Z at *
  have hB2 : Blk (W1.setCells g ((n - 1) * 2) Z) g 38 ((T ++ D) ++ (Z ++ sp)) := hB1'.setCells_ _ hTD (by omega)
  have hg2 := grown_setCells g Z ((n - 1) * 2) W1
  generalize W1.setCells g ((n - 1) * 2) Z = W2 at *
  have HF : Hid (W2.ownsRow base 38 2 (.slice (some ⟨g, 0, none⟩) (n - 1) c) (n - 1) (holds (delH zs i))) := Lib.hid (by rw [hdl]; exact own_mk (sp := Z ++ sp) hB2 hbg hTD (by rw [List.length_append, hZ, hsp]; omega) (by omega) hcm)
  have HG : Hid (w.grownBy W2 (some g)) := Lib.hid (World.grownBy.trans hg1 hg2)
  have hki : ¬ ((i : Int) = (k : Int)) := by omega
  have hkn : (k : Int) ≤ (n : Int) := by omega
  have hkn' : k ≤ n := by omega
  have hik : (i : Int) ≤ (k : Int) := by omega
  have hik' : i ≤ k := by omega
  have hic : (i : Int) ≤ (c : Int) := by omega
  have hic' : i ≤ c := by omega
  have hb4 : ¬ (c = n - 1) := by omega
  have hnn : n - (n - 1) = 1 := by omega
  have hnj : n - 1 ≤ n := by omega
  have hnji : ((n - 1 : Nat) : Int) ≤ (n : Int) := by omega
  have HK := Lib.hid hk
  clear hn hD hone hsplit hT hpq hp hq hB0 hB0' hi0 hz0 hzs hzb hsrcS hB1 hg1 hB1' hZ hB2 hg2 hblk hsp h hTX hTD hdl hX
  by_cases hck : c = k
  · obtain rfl : n = c := by omega
    subst hck
    have hni : n - 1 = i := by omega
    have hap2 : ∀ ty k, (Builtin.append_ #[23, 23] ty #[.slice (some ⟨g, 0, none⟩) i n, .slice (some ⟨g, 0, none⟩) 0 k]).run Try.prog w.drew = .ok (.slice (some ⟨g, 0, none⟩) (n - 1) n) W1 := fun ty k => by
      have := hap ty ⟨g, 0, none⟩ k (.inr (by omega))
      rw [show n - 1 - i = 0 from by omega] at this
      exact this
    clear hap hk hni
    go_enter Try.func87, Try.ntmps87
    go_wp2_with fail
    go_region_law (refine step_append_runE rfl (.tmp 22) (.tmp 25) 23 23 rfl (.slice (some ⟨g, 0, none⟩) i (n)) (.slice (some ⟨g, 0, none⟩) 0 0) (by simp [Act.eval, Act.put]) (by simp [Act.eval, Act.put]) (hap2 _ _) ?_)
    go_wp2_with (refine wpList_clear_runE _ rfl _ 23 rfl _ rfl (hcl _ _) ?_)
    go_ret
    exact RVal.mk ⟨by simp, by simpa using HF.out, HG.out⟩
  · have hap2 : ∀ ty q, (Builtin.append_ #[23, 23] ty #[.slice (some ⟨g, 0, none⟩) i c, .slice (some ⟨g, k * 2, none⟩) (n - k) q]).run Try.prog w.drew = .ok (.slice (some ⟨g, 0, none⟩) (n - 1) c) W1 := fun ty q => by rw [show n - k = n - 1 - i from by omega, hk]; exact hap ty _ q (.inl rfl)
    clear hap hk
    go_enter Try.func87, Try.ntmps87
    go_wp2_with fail
    go_region_law (refine step_append_runE rfl (.tmp 22) (.tmp 25) 23 23 rfl (.slice (some ⟨g, 0, none⟩) i (c)) (.slice (some ⟨g, k * 2, none⟩) (n - k) (c - k)) (by simp [Act.eval, Act.put]) (by simp [Act.eval, Act.put]) (hap2 _ _) ?_)
    go_wp2_with (refine wpList_clear_runE _ rfl _ 23 rfl _ rfl (hcl _ _) ?_)
    go_ret
    exact RVal.mk ⟨by simp, by simpa using HF.out, HG.out⟩
theorem deleteH_one (A : Option Addr) (n c i : Nat) (zs : List HoldV) (base : Nat) (w : World) (hn : zs.length = n) (h : w.ownsRow base 38 2 (.slice A n c) n (holds zs)) (hi : i < n) (hm : n ≤ 1048576) :
    Calls Try.prog 87 #[.slice A n c, .int .i64 i, .int .i64 ((i : Int) + 1)] w (DelOut w base A n c i zs) := by
  have := deleteH_k A n c i (i + 1) rfl zs base w hn h hi hm
  rwa [Int.natCast_add, show ((1 : Nat) : Int) = 1 from rfl] at this
end Go.Proofs.Ytpkbipjnobfcdaa
