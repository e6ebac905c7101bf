/- The library's Insert and Delete on lists of ints. -/
import Derived.Test.YtpkbipjnobfcdaaHldI
import Derived.Test.YtpkbipjnobfcdaaInsL
import Derived.Deep.RegionLaw

namespace Go.Proofs.Ytpkbipjnobfcdaa
open Go Go.ChangeShapes Go.WideShapes Go.ChangeAt Go.RowKit
theorem int_size : (Try.prog.info? 3).map (·.size) = some 1 := by kernel_rfl
theorem ints_len1 (zs : List Int) : (ints zs).length = zs.length := ints_len zs
theorem overlapsI_no {w : World} {vb b o m vc lb cb : Nat} {ta tb : TypeId} {ca cb' : List Value} (ha : Blk w vb ta ca) (hb : Blk w b tb cb') (hne : vb ≠ b) (h0 : cb' ≠ []) :
    (callFunc 90 #[.slice (some ⟨vb, 0, none⟩) m vc, .slice (some ⟨b, o, none⟩) lb cb]).run Try.prog w = .ok (.value (.bool false)) w := by
  rw [run_callFunc_extern Try.func90 (by kernel_rfl) (by kernel_rfl) (by kernel_rfl) (e := Extern.SlicesOverlaps.overlaps #[24, 24] #[4]) (by kernel_rfl),
    Lib.run_overlaps_apart w 24 4 3 Try.underlying24 1 (fun w => by
      have h := int_size
      obtain ⟨i, hi, hs⟩ := Option.map_eq_some_iff.1 h
      simp [sizeOf, typeInfo, hi, hs]) ⟨vb, 0, none⟩ ⟨b, o, none⟩ m vc lb cb hne ta tb ca.length cb'.length (blk_shape ha) (blk_shape hb) (fun h => h0 (List.eq_nil_of_length_eq_zero h)) (ha.frozen 0) (ha.frozen ca.length)]
  rfl
def InsOutI (w : World) (base : Nat) (v : Value) (zs : List Int) : Ending → World → Prop :=
  RVal fun u w' => w'.ownsRow base 3 1 u zs.length (ints zs) ∧ w.grownBy w' v.ownBlock ∧ (u.ownBlock = v.ownBlock ∨ ∃ g, u.ownBlock = some g ∧ w.heap.size ≤ g)
def insI (zs : List Int) (i : Nat) (x : Int) : List Int := zs.take i ++ (x :: zs.drop i)
theorem insI_len (zs : List Int) (i : Nat) (x : Int) (hi : i ≤ zs.length) : (insI zs i x).length = zs.length + 1 := by simp [insI]; omega
theorem ints_ins (zs : List Int) (i : Nat) (x : Int) : ints (insI zs i x) = ints (zs.take i) ++ ([.int .i64 x] ++ ints (zs.drop i)) := by
  unfold insI
  rw [ints_app]
  rfl
set_option maxRecDepth 100000 in
set_option maxHeartbeats 4000000 in
/-- in place -/
theorem insertI_room (g n c i vb : Nat) (zs : List Int) (x : Int) (base : Nat) (w : World) (hn : zs.length = n) (h : w.ownsRow base 3 1 (.slice (some ⟨g, 0, none⟩) n c) n (ints zs))
    (hv : Blk w vb 3 [.int .i64 x]) (hne : vb ≠ g) (hi : i < n) (hroom : n + 1 ≤ c) (hm : n ≤ 1048576) :
    Calls Try.prog 77 #[.slice (some ⟨g, 0, none⟩) n c, .int .i64 i, .slice (some ⟨vb, 0, none⟩) 1 1] w (InsOutI w base (.slice (some ⟨g, 0, none⟩) n c) (insI zs i x)) := by
  have HN := Lib.hid hn
  rcases own_blk h with ⟨e, _⟩ | ⟨g', sp, e, hbg, hblk, hsp, hnc, hcm⟩
  · cases e
  injection e with e
  injection e with e _
  subst e
  have hml : (ints zs).length = n := by rw [ints_len1, hn]
  have hsplit : ints zs = ints (zs.take i) ++ ints (zs.drop i) := by rw [← ints_app, List.take_append_drop]
  have hT : (ints (zs.take i)).length = i := by rw [ints_len1, List.length_take, Nat.min_eq_left (by omega)]
  have hD : (ints (zs.drop i)).length = (n - i) := by rw [ints_len1, List.length_drop, hn]
  have hone := ints_one (zs.drop i)
  generalize hTg : ints (zs.take i) = T at *
  generalize hDg : ints (zs.drop i) = D at *
  -- the cells behind i: two, then as many as D, then the rest
  obtain ⟨p, q, r, hpqr, hp, hq, hr⟩ : ∃ p q r, D ++ sp = p ++ (q ++ r) ∧ p.length = 1 ∧ q.length = D.length ∧ r.length = sp.length - 1 :=
    ⟨(D ++ sp).take 1, ((D ++ sp).drop 1).take D.length, ((D ++ sp).drop 1).drop D.length, by rw [List.take_append_drop, List.take_append_drop], by rw [List.length_take, List.length_append]; omega, by rw [List.length_take, List.length_drop, List.length_append]; omega, by rw [List.length_drop, List.length_drop, List.length_append]; omega⟩
  have hB0 : Blk w g 3 (T ++ (D ++ sp)) := by rw [hsplit, List.append_assoc] at hblk; exact hblk
  have hB1 : Blk w.drew g 3 ((T ++ p) ++ (q ++ r)) := by
    have := hB0
    rw [hpqr] at this
    rw [List.append_assoc]
    exact this
  have hB2 : Blk (w.drew.setCells g ((i + 1)) D) g 3 ((T ++ p) ++ (D ++ r)) := hB1.setCells_ D (by simp only [List.length_append, hT, hp]) hq
  have hB2' : Blk (w.drew.setCells g ((i + 1)) D) g 3 (T ++ (p ++ (D ++ r))) := by rw [← List.append_assoc]; exact hB2
  have hB3 : Blk ((w.drew.setCells g ((i + 1)) D).setCells g (i) [.int .i64 x]) g 3 (T ++ ([.int .i64 x] ++ (D ++ r))) := hB2'.setCells_ _ hT (by rw [hp]; rfl)
  have hv2 : Blk (w.drew.setCells g ((i + 1)) D) vb 3 [.int .i64 x] := ((grown_setCells g D _ w.drew).block vb hv.lt (fun e => hne (by injection e))).trans hv
  have hov : ∀ lb cb, (callFunc 90 #[.slice (some ⟨vb, 0, none⟩) 1 1, .slice (some ⟨g, (i + 1), none⟩) lb cb]).run Try.prog w = .ok (.value (.bool false)) w := fun lb cb => overlapsI_no hv hB0 hne (by intro e; have := congrArg List.length e; simp at this; have h1 := List.length_eq_zero_iff.2 this.2.1; omega)
  have hcp1 : ∀ ty dc sc, (Builtin.copy_ #[24, 24] ty #[.slice (some ⟨g, (i + 1), none⟩) (n - i) dc, .slice (some ⟨g, i, none⟩) (n + 1 - i) sc]).run Try.prog w.drew = .ok (goInt (Nat.min (n + 1 - i) (n - i))) (w.drew.setCells g ((i + 1)) D) := fun ty dc sc =>
    run_copy_blk w.drew _ _ ty 3 1 g ((i + 1)) _ dc ⟨g, i, none⟩ _ sc 3 (T ++ p) q r D Try.underlying24 int_size (by rw [hD]; simp only [Nat.min_def]; split <;> omega)
      (by rw [← hT]; exact blk_src (b := sp) (w := w.drew) hB0) hB1 (by simp only [List.length_append, hT, hp]) hq hone
  have hcp2 : ∀ (W : World), W = (w.drew.setCells g ((i + 1)) D) → ∀ ty dc, (Builtin.copy_ #[24, 24] ty #[.slice (some ⟨g, i, none⟩) (n + 1 - i) dc, .slice (some ⟨vb, 0, none⟩) 1 1]).run Try.prog W = .ok (goInt (Nat.min 1 (n + 1 - i))) (W.setCells g (i) [.int .i64 x]) := fun W hW ty dc => by
    subst hW
    exact run_copy_blk _ _ _ ty 3 1 g (i) _ dc ⟨vb, 0, none⟩ 1 1 3 T p (D ++ r) _ Try.underlying24 int_size (by simp only [Nat.min_def]; split <;> simp; omega)
      (addr_run (fun k hk => by rw [Nat.zero_add]; exact hv2.cellAt k hk)) hB2' hT (by rw [hp]; rfl) (by simp [Value.oneCell'])
  have hfin : ((w.drew.setCells g ((i + 1)) D).setCells g (i) [.int .i64 x]).ownsRow base 3 1 (.slice (some ⟨g, 0, none⟩) (n + 1) c) (n + 1) (ints (insI zs i x)) := by
    rw [ints_ins, hTg, hDg]
    refine own_mk (sp := r) (by rw [List.append_assoc, List.append_assoc]; exact hB3) hbg ?_ ?_ hroom hcm
    · simp only [List.length_append, hT, hD, List.length_cons, List.length_nil]; omega
    · rw [hr, hsp]; omega
  have hgr : w.grownBy ((w.drew.setCells g ((i + 1)) D).setCells g (i) [.int .i64 x]) (some g) := World.grownBy.trans (World.grownBy.trans (b := w.drew) ⟨rfl, rfl, rfl, Nat.le_refl _, fun _ _ _ => rfl⟩ (grown_setCells g D _ _)) (grown_setCells g _ _ _)
  have HF := Lib.hid hfin
  have HG := Lib.hid hgr
  have hil : (insI zs i x).length = n + 1 := by rw [insI_len _ _ _ (by omega), hn]
  have HIL := Lib.hid hil
  obtain ⟨W1, hW1⟩ : ∃ W1, W1 = w.drew.setCells g ((i + 1)) D := ⟨_, rfl⟩
  rw [← hW1] at hcp1 hcp2 HF HG
  clear hW1
  have hz2 : ¬ ((i : Int) = (n : Int)) := by omega
  have hb1 : (i : Int) ≤ (n : Int) + 1 := by omega
  have hb2 : ¬ (c = i + 1) := by omega
  have hb4 : ¬ (c = i) := by omega
  have hb5 : (n : Int) + 1 ≤ (c : Int) := by omega
  have hci : (c : Int) ≤ 9223372036854775807 := by unfold maxLen at hcm; omega
  clear hn hml hsplit hT hD hone hTg hDg hpqr hp hq hr hB0 hB1 hB2 hB2' hB3 hv2 hfin hgr hil hblk hsp h hv
  go_enter Try.func77, Try.ntmps77
  go_wp2_with (simp only [hov])
  have hw1 : IntKind.i64.wrap ((i : Int) + 1) = (i : Int) + 1 := by rw [IntKind.wrap_i64]; omega
  have hw2 : (0 : Int) ≤ (i : Int) + 1 := by omega
  have htn : ((i : Int) + 1).toNat = i + 1 := by omega
  have hin : i ≤ n := by omega
  go_region_law (refine step_copy_runE rfl _ _ 24 24 rfl _ _ (by simp [Act.eval, Act.put]) (by simp [Act.eval, Act.put]) (hcp1 _ _ _) ?_)
  clear hw1 hw2 htn hcp1
  go_wp2_with (at_builtin; refine wpList_copy_runE _ rfl _ _ 24 24 rfl _ _ rfl rfl (hcp2 _ rfl _ _) ?_)
  go_ret
  exact RVal.mk ⟨by rw [HIL.out]; exact HF.out, HG.out, .inl rfl⟩
set_option maxRecDepth 100000 in
set_option maxHeartbeats 4000000 in
/-- at the end -/
theorem insertI_end (A : Option Addr) (n c vb : Nat) (zs : List Int) (x : Int) (base : Nat) (w : World) (hn : zs.length = n) (h : w.ownsRow base 3 1 (.slice A n c) n (ints zs))
    (hv : Blk w vb 3 [.int .i64 x]) (hbase : base ≤ w.heap.size) (hm : n ≤ 1048576) :
    Calls Try.prog 77 #[.slice A n c, .int .i64 n, .slice (some ⟨vb, 0, none⟩) 1 1] w (InsOutI w base (.slice A n c) (insI zs n x)) := by
  have HN := Lib.hid hn
  obtain ⟨_, _, e, hnc, hcm⟩ := own_slice h
  injection e with e1 _ e3
  subst e1 e3
  have hrd : RdV w (some ⟨vb, 0, none⟩) [.int .i64 x] := .inr ⟨vb, 0, rfl, hv.lt, fun k hk => by rw [Nat.zero_add]; exact hv.cellAt k hk⟩
  have hil : (insI zs n x).length = n + 1 := by rw [insI_len _ _ _ (by omega), hn]
  have HIL := Lib.hid hil
  have hie : ints (insI zs n x) = ints zs ++ [.int .i64 x] := by
    rw [ints_ins, List.take_of_length_le (by omega), List.drop_of_length_le (by omega)]
    rfl
  have HIE := Lib.hid hie
  unfold maxLen at hcm
  clear hn hil hie
  by_cases hcn : c = n
  · subst hcn
    go_enter Try.func77, Try.ntmps77
    go_wp2_with (at_builtin; refine append_src rfl (.tmp 23) (.tmp 24) 24 rfl 3 _ _ _ Try.underlying24 int_infoY base _ (.slice A c c) c _ rfl h (some ⟨vb, 0, none⟩) 1 1 [.int .i64 x] rfl rfl hrd (by simp [Value.oneCell']) (by omega) hbase ?_; intro v' w6 hown6 hg6 hblk6)
    go_ret
    exact RVal.mk ⟨by rw [HIL.out, HIE.out]; exact hown6, hg6, by
      rcases hblk6 with h | h
      · exact .inl h
      · exact .inr ⟨_, h, Nat.le_refl _⟩⟩
  · skip
    go_enter Try.func77, Try.ntmps77
    go_wp2_with (at_builtin; refine append_src rfl (.tmp 23) (.tmp 24) 24 rfl 3 _ _ _ Try.underlying24 int_infoY base _ (.slice A n c) n _ rfl h (some ⟨vb, 0, none⟩) 1 1 [.int .i64 x] rfl rfl hrd (by simp [Value.oneCell']) (by omega) hbase ?_; intro v' w6 hown6 hg6 hblk6)
    go_ret
    exact RVal.mk ⟨by rw [HIL.out, HIE.out]; exact hown6, hg6, by
      rcases hblk6 with h | h
      · exact .inl h
      · exact .inr ⟨_, h, Nat.le_refl _⟩⟩
set_option maxRecDepth 100000 in
set_option maxHeartbeats 4000000 in
/-- within, no room -/
theorem insertI_grow (g n c i vb : Nat) (zs : List Int) (x : Int) (base : Nat) (w : World) (hn : zs.length = n) (h : w.ownsRow base 3 1 (.slice (some ⟨g, 0, none⟩) n c) n (ints zs))
    (hv : Blk w vb 3 [.int .i64 x]) (hi : i < n) (hroom : c < n + 1) (hm : n ≤ 1048576) (hbase : base ≤ w.heap.size) :
    Calls Try.prog 77 #[.slice (some ⟨g, 0, none⟩) n c, .int .i64 i, .slice (some ⟨vb, 0, none⟩) 1 1] w (InsOutI w base (.slice (some ⟨g, 0, none⟩) n c) (insI zs i x)) := by
  have HN := Lib.hid hn
  rcases own_blk h with ⟨e, _⟩ | ⟨g', sp, e, hbg, hblk, hsp, hnc, hcm⟩
  · cases e
  injection e with e
  injection e with e _
  subst e
  obtain rfl : c = n := by omega
  have hml : (ints zs).length = c := by rw [ints_len1, hn]
  have hsplit : ints zs = ints (zs.take i) ++ ints (zs.drop i) := by rw [← ints_app, List.take_append_drop]
  have hT : (ints (zs.take i)).length = i := by rw [ints_len1, List.length_take, Nat.min_eq_left (by omega)]
  have hD : (ints (zs.drop i)).length = (c - i) := by rw [ints_len1, List.length_drop, hn]
  have honeD := ints_one (zs.drop i)
  have honeT := ints_one (zs.take i)
  have hins := ints_ins zs i x
  generalize hTg : ints (zs.take i) = T at *
  generalize hDg : ints (zs.drop i) = D at *
  have hB0 : Blk w g 3 (T ++ (D ++ sp)) := by rw [hsplit, List.append_assoc] at hblk; exact hblk
  obtain ⟨i0, hi0, hinf⟩ := Option.map_eq_some_iff.1 int_info
  simp only [Prod.mk.injEq] at hinf
  obtain ⟨hz0, hzs, hzb⟩ := hinf
  have hold : (Builtin.firstCells i0.size i (.slice (some ⟨g, 0, none⟩) i c)).run Try.prog w.drew = .ok T.toArray w.drew := by
    rw [hzs]
    exact run_firstCells_some w.drew 1 i ⟨g, 0, none⟩ i c T (by omega) (blk_src (a := []) (b := D ++ sp) (w := w.drew) hB0)
  obtain ⟨G, hG⟩ : ∃ G, G = grownCap w (c + 1) c 3 := ⟨_, rfl⟩
  have hGn : c + 1 ≤ G := by rw [hG]; exact grownCap_ge w _ _ _
  have hGm : G ≤ maxLen := by rw [hG]; exact grownCap_le_maxLen w (c + 1) c _ (by unfold maxLen; omega)
  have hrz : ∀ ty, (Builtin.append_ #[24, 3] ty #[.slice (some ⟨g, 0, none⟩) i c, .int .i64 ((c : Int) + 1 - (i : Int))]).run Try.prog w =
      .ok (.slice (some ⟨w.heap.size, 0, none⟩) (c + 1) G) (w.drew.alloc (.cells (T ++ ((List.replicate (c + 1 - i) [Value.int .i64 0]).flatten ++ (List.replicate (G - (c + 1)) [Value.int .i64 0]).flatten)).toArray 3)) := fun ty => by
    have hik : i + (c + 1 - i) = c + 1 := by omega
    have h := Lib.run_append_grow_zeros (P := Try.prog) w 24 3 ty 3 i0 _ .i64 .i64 Try.underlying24 Try.underlying3 hi0 hz0 (some ⟨g, 0, none⟩) i c T hold (c + 1 - i) (by omega) (by omega) (by omega) (by omega) (by rw [hzb]; omega) (by rw [hzb, hik]; exact growslice_fits (by omega) (by omega))
    rw [hik, ← hG] at h
    rw [show (c : Int) + 1 - (i : Int) = ((c + 1 - i : Nat) : Int) from by omega, h]
    congr 3
    rw [show (Value.int .i64 0).cells = [Value.int .i64 0].toArray from rfl, zeroCells_k _ _ (by decide), zeroCells_k _ _ (by decide)]
    simp
  have hZ1 : ((List.replicate (c + 1 - i) [Value.int .i64 0]).flatten).length = (c + 1 - i) := by simp
  have hZ2 : ((List.replicate (G - (c + 1)) [Value.int .i64 0]).flatten).length = (G - (c + 1)) := by simp
  generalize (List.replicate (c + 1 - i) [Value.int .i64 0]).flatten = Z1 at *
  generalize (List.replicate (G - (c + 1)) [Value.int .i64 0]).flatten = Z2 at *
  obtain ⟨p, q, rfl, hp, hq⟩ : ∃ p q, Z1 = p ++ q ∧ p.length = 1 ∧ q.length = D.length := ⟨Z1.take 1, Z1.drop 1, by rw [List.take_append_drop], by rw [List.length_take]; omega, by rw [List.length_drop]; omega⟩
  have hR1 : Blk (w.drew.alloc (.cells (T ++ (p ++ q ++ Z2)).toArray 3)) w.heap.size 3 (T ++ (p ++ (q ++ Z2))) := by
    have := Blk.new w.drew 3 (T ++ (p ++ q ++ Z2))
    rw [List.append_assoc p] at this ⊢
    exact this
  have hg1 : w.grownBy (w.drew.alloc (.cells (T ++ (p ++ q ++ Z2)).toArray 3)) none := World.grownBy.trans (b := w.drew) ⟨rfl, rfl, rfl, Nat.le_refl _, fun _ _ _ => rfl⟩ (World.grownBy_alloc _ _ _)
  generalize w.drew.alloc (.cells (T ++ (p ++ q ++ Z2)).toArray 3) = W1 at *
  have hvlt := hv.lt
  have hglt := hB0.lt
  have hv1 : Blk W1 vb 3 [.int .i64 x] := (hg1.block vb hvlt (by simp)).trans hv
  have hB1 : Blk W1 g 3 (T ++ (D ++ sp)) := (hg1.block g hglt (by simp)).trans hB0
  have hcpA : ∀ ty dc, (Builtin.copy_ #[24, 24] ty #[.slice (some ⟨w.heap.size, i, none⟩) (c + 1 - i) dc, .slice (some ⟨vb, 0, none⟩) 1 1]).run Try.prog W1 = .ok (goInt (Nat.min 1 (c + 1 - i))) (W1.setCells w.heap.size (i) [.int .i64 x]) := fun ty dc =>
    run_copy_blk _ _ _ ty 3 1 w.heap.size (i) _ dc ⟨vb, 0, none⟩ 1 1 3 T p (q ++ Z2) _ Try.underlying24 int_size (by simp only [Nat.min_def]; split <;> simp; omega)
      (addr_run (fun k hk => by rw [Nat.zero_add]; exact hv1.cellAt k hk)) hR1 hT (by rw [hp]; rfl) (by simp [Value.oneCell'])
  have hR2 : Blk (W1.setCells w.heap.size (i) [.int .i64 x]) w.heap.size 3 (T ++ ([.int .i64 x] ++ (q ++ Z2))) := hR1.setCells_ _ hT (by rw [hp]; rfl)
  have hg2 := grown_setCells w.heap.size [.int .i64 x] (i) W1
  generalize W1.setCells w.heap.size (i) [.int .i64 x] = W2 at *
  have hB2 : Blk W2 g 3 (T ++ (D ++ sp)) := (hg2.block g (Nat.lt_of_lt_of_le hglt hg1.size) (fun e => by injection e with e; omega)).trans hB1
  have hR2' : Blk W2.drew w.heap.size 3 ((T ++ [.int .i64 x]) ++ (q ++ Z2)) := by rw [List.append_assoc]; exact hR2
  have hcpB : ∀ ty dc sc, (Builtin.copy_ #[24, 24] ty #[.slice (some ⟨w.heap.size, (i + 1), none⟩) (c - i) dc, .slice (some ⟨g, i, none⟩) (c - i) sc]).run Try.prog W2.drew = .ok (goInt (Nat.min (c - i) (c - i))) (W2.drew.setCells w.heap.size ((i + 1)) D) := fun ty dc sc =>
    run_copy_blk _ _ _ ty 3 1 w.heap.size ((i + 1)) _ dc ⟨g, i, none⟩ _ sc 3 (T ++ [.int .i64 x]) q Z2 D Try.underlying24 int_size (by rw [hD]; simp)
      (by rw [← hT]; exact blk_src (b := sp) (w := W2.drew) hB2) hR2' (by simp [List.length_append, hT]) hq honeD
  have hR3 : Blk (W2.drew.setCells w.heap.size ((i + 1)) D) w.heap.size 3 ((T ++ [.int .i64 x]) ++ (D ++ Z2)) := hR2'.setCells_ _ (by simp [List.length_append, hT]) hq
  have hg3 := grown_setCells w.heap.size D ((i + 1)) W2.drew
  generalize W2.drew.setCells w.heap.size ((i + 1)) D = W3 at *
  have HF : Hid (W3.ownsRow base 3 1 (.slice (some ⟨w.heap.size, 0, none⟩) (c + 1) G) (c + 1) (ints (insI zs i x))) := Lib.hid (by
    rw [hins]
    refine own_mk (sp := Z2) (by rw [List.append_assoc] at hR3; rw [List.append_assoc, List.append_assoc]; exact hR3) hbase ?_ ?_ hGn hGm
    · simp only [List.length_append, hT, hD, List.length_cons, List.length_nil]; omega
    · omega)
  have HG : Hid (w.grownBy W3 (some g)) := Lib.hid ⟨hg3.os.trans (hg2.os.trans hg1.os), hg3.tape.trans (hg2.tape.trans hg1.tape), hg3.output.trans (hg2.output.trans hg1.output), Nat.le_trans hg1.size (Nat.le_trans hg2.size hg3.size), fun k hk hne => (hg3.block k (Nat.lt_of_lt_of_le hk (Nat.le_trans hg1.size hg2.size)) (fun e => by injection e with e; omega)).trans ((hg2.block k (Nat.lt_of_lt_of_le hk hg1.size) (fun e => by injection e with e; omega)).trans (hg1.block k hk (by simp)))⟩
  have HIL : Hid ((insI zs i x).length = c + 1) := Lib.hid (by rw [insI_len _ _ _ (by omega), hn])
  have hz2 : ¬ ((i : Int) = (c : Int)) := by omega
  have hb1 : (i : Int) ≤ (c : Int) + 1 := by omega
  have hb2 : ¬ (G = i + 1) := by omega
  have hb3 : ¬ (G = i) := by omega
  have hb4 : ¬ (c = i) := by omega
  have hGi : (G : Int) ≤ 9223372036854775807 := by unfold maxLen at hGm; omega
  have hGc : (c : Int) + 1 ≤ (G : Int) := by omega
  have hii : (i : Int) ≤ (c : Int) := by omega
  have hin : i ≤ c := by omega
  clear hn hml hsplit hT hD honeD honeT hTg hDg hins hB0 hi0 hz0 hzs hzb hold hG hZ1 hZ2 hp hq hR1 hg1 hvlt hglt hv1 hB1 hR2 hg2 hB2 hR2' hR3 hg3 hblk hsp h hv
  go_enter Try.func77, Try.ntmps77
  go_wp2_with (first
    | (at_builtin; refine wpList_append_runE _ rfl _ _ _ _ rfl _ _ rfl rfl (hrz _) ?_)
    | (at_builtin; refine wpList_copy_runE _ rfl _ _ 24 24 rfl _ _ rfl rfl (hcpA _ _) ?_))
  have hw1 : IntKind.i64.wrap ((i : Int) + 1) = (i : Int) + 1 := by rw [IntKind.wrap_i64]; omega
  have hw2 : (0 : Int) ≤ (i : Int) + 1 := by omega
  have htn : ((i : Int) + 1).toNat = i + 1 := by omega
  go_region_law (refine step_copy_runE rfl _ _ 24 24 rfl _ _ (by simp [Act.eval, Act.put]) (by simp [Act.eval, Act.put]) (hcpB _ _ _) ?_)
  clear hw1 hw2 htn
  go_wp2_with fail
  go_ret
  exact RVal.mk ⟨by rw [HIL.out]; exact HF.out, HG.out, .inr ⟨_, rfl, Nat.le_refl _⟩⟩
theorem insertI_any (A : Option Addr) (n c i vb : Nat) (zs : List Int) (x : Int) (base : Nat) (w : World) (hn : zs.length = n) (h : w.ownsRow base 3 1 (.slice A n c) n (ints zs))
    (hv : Blk w vb 3 [.int .i64 x]) (hne : (Value.slice A n c).ownBlock ≠ some vb) (hi : i ≤ n) (hm : n ≤ 1048576) (hbase : base ≤ w.heap.size) :
    Calls Try.prog 77 #[.slice A n c, .int .i64 i, .slice (some ⟨vb, 0, none⟩) 1 1] w (InsOutI w base (.slice A n c) (insI zs i x)) := by
  rcases Nat.eq_or_lt_of_le hi with rfl | hlt
  · exact insertI_end A i c vb zs x base w hn h hv hbase hm
  · rcases own_form h with ⟨_, h0, _⟩ | ⟨g, c', e, _, _, _⟩
    · omega
    · injection e with e1 _ e3
      subst e1 e3
      rcases Nat.lt_or_ge c (n + 1) with hc | hc
      · exact insertI_grow g n c i vb zs x base w hn h hv hlt hc hm hbase
      · exact insertI_room g n c i vb zs x base w hn h hv (fun e => hne (by rw [e]; rfl)) hlt hc hm
end Go.Proofs.Ytpkbipjnobfcdaa
