/- Yards: copying. -/
import Derived.Test.YtcbeoaedccdppaaYdS
import Derived.Test.YtcbeoaedccdppaaOwnSrc
import Derived.Test.YtcbeoaedccdppaaClone
import Derived.Test.YtcbeoaedccdppaaRRA
import Derived.Deep.CutRange
import Derived.Deep.RegionLaw
namespace Go.Proofs.Ytcbeoaedccdppaa
open Go Go.ChangeShapes Go.WideShapes Go.ChangeAt Go.RowKit
set_option linter.unusedVariables false
theorem own_snoc2 {w w' : World} {lo hi : Nat} {te ti : TypeId} {v v' u : Value} {xss : List (List Value)} {ys hs : List Value} (h1 : OwnI w lo hi te 1 v xss.length hs)
    (h2 : ∀ i (h : i < xss.length), ∃ u, hs[i]? = some u ∧ OwnI w lo hi ti 1 u (xss[i]).length xss[i] ∧ (∀ g, u.ownBlock = some g → v.ownBlock ≠ some g))
    (h3 : ∀ (i j : Nat) (u u' : Value) (g : Nat), i < j → hs[i]? = some u → hs[j]? = some u' → u.ownBlock = some g → u'.ownBlock ≠ some g)
    (hu : w.ownsRow lo ti 1 u ys.length ys) (hge : ∀ g, u.ownBlock = some g → hi ≤ g)
    (hown : w'.ownsRow lo te 1 v' (xss.length + 1) (hs ++ [u])) (hg : w.grownBy w' v.ownBlock) (hb : v'.ownBlock = v.ownBlock ∨ ∃ b, v'.ownBlock = some b ∧ w.heap.size ≤ b) :
    OwnRR w' lo w'.heap.size te ti v' (xss ++ [ys]) := by
  have hl := h1.row.1
  rw [Nat.mul_one] at hl
  have hvu : ∀ g, u.ownBlock = some g → v.ownBlock ≠ some g := fun g e e2 => by have := hge g e; have := h1.lt g e2; omega
  refine ⟨hs ++ [u], ⟨by rw [List.length_append]; exact hown, fun g e => (hown.lt g e).2, Nat.le_refl _⟩, fun i hi' => ?_, fun i j a b g hij ha hb' hga => ?_⟩
  · rw [List.length_append, List.length_singleton] at hi'
    by_cases hlt : i < xss.length
    · obtain ⟨a, ea, ha, hne⟩ := h2 i hlt
      rw [List.getElem_append_left hlt]
      refine ⟨a, by rw [List.getElem?_append_left (by omega)]; exact ea, ⟨ha.row.kept hg ?_, fun g e => Nat.lt_of_lt_of_le (ha.lt g e) (Nat.le_trans ha.top hg.size), Nat.le_refl _⟩, fun g e => ?_⟩
      · cases hab : a.ownBlock with
        | none => exact .inl rfl
        | some g => exact .inr fun e => hne g hab e.symm
      · rcases hb with h | ⟨b', h, hb'⟩
        · rw [h]; exact hne g e
        · rw [h]
          have := ha.lt g e
          have := ha.top
          simp
          omega
    · obtain rfl : i = xss.length := by omega
      have e1 : (xss ++ [ys])[xss.length]'(by simp) = ys := by simp
      rw [e1]
      refine ⟨u, by rw [List.getElem?_append_right (by omega), hl, Nat.sub_self]; rfl, ⟨hu.kept hg ?_, fun g e => Nat.lt_of_lt_of_le (hu.lt g e).2 hg.size, Nat.le_refl _⟩, fun g e => ?_⟩
      · cases hab : u.ownBlock with
        | none => exact .inl rfl
        | some g => exact .inr fun e => hvu g hab e.symm
      · rcases hb with h | ⟨b', h, hb'⟩
        · rw [h]; exact hvu g e
        · rw [h]
          have := (hu.lt g e).2
          simp
          omega
  · by_cases hjl : j < xss.length
    · rw [List.getElem?_append_left (by omega)] at ha
      rw [List.getElem?_append_left (by omega)] at hb'
      exact h3 i j a b g hij ha hb' hga
    · have hj2 : j < (hs ++ [u]).length := (List.getElem?_eq_some_iff.1 hb').1
      rw [List.length_append, List.length_singleton] at hj2
      obtain rfl : j = xss.length := by omega
      rw [List.getElem?_append_left (by omega)] at ha
      rw [List.getElem?_append_right (by omega), hl, Nat.sub_self] at hb'
      simp at hb'
      subst hb'
      intro e
      obtain ⟨a', ea, ha', _⟩ := h2 i (by omega)
      rw [ha] at ea
      injection ea with ea
      rw [← ea] at ha'
      have := ha'.lt g hga
      have := hge g e
      omega
theorem clone_row (B : Option Addr) (p c : Nat) (zs : List Int) (w : World) (hz : zs.length = p) (hr : RdV w B (ints zs)) (hp : p ≤ 1048576) :
    Calls Try.prog 54 #[.slice B p c] w (RVal fun u w' => w'.ownsRow w.heap.size 3 1 u p (ints zs) ∧ Below w.heap.size w w') := by
  by_cases h0 : zs = []
  · subst h0
    obtain rfl : p = 0 := by simpa using hz.symm
    cases B with
    | none => exact (clone_int_nil 0 c w).mono (by rintro e w' ⟨rfl, rfl⟩; exact RVal.mk ⟨World.ownsRow_nil _ _ _ _, Below.refl _ _⟩)
    | some a => exact (clone_int_zero a c w).mono (by rintro e w' ⟨v, rfl, h, _, hb⟩; exact RVal.mk ⟨h, hb⟩)
  · have hpos : 0 < (ints zs).length := by rw [ints_len]; exact List.length_pos_iff.2 h0
    obtain ⟨b, o, rfl, hl, hc⟩ := hr.pos hpos
    refine (clone_int b o p c zs w (by omega) (by omega) (fun j hj => ?_)).mono ?_
    · rw [hc j (by rw [ints_len]; exact hj), ints_at, List.getD_eq_getElem?_getD, List.getElem?_eq_getElem hj]
      rfl
    · rintro e w' ⟨v, rfl, h, _, hb⟩
      rw [List.take_of_length_le (by omega)] at h
      exact RVal.mk ⟨h, hb⟩
/-- a yard in memory of the call's own -/
def YardOut (w : World) (high : Int) (n : Nat) (rows : List (List Int)) : Ending → World → Prop :=
  RVal fun u w' => ∃ A c, u = .agg #[.int .i64 high, .slice A n c] ∧ OwnRR w' w.heap.size w'.heap.size 37 3 (.slice A n c) (intss rows) ∧ Below w.heap.size w w'

theorem ints_infoD : Info Try.prog 37 (.slice none 0 0) 1 24 := Info.mk' ints_info rfl (by decide) (by decide)

theorem intss_snoc {rows : List (List Int)} {k : Nat} (h : k < rows.length) : intss (rows.take (k + 1)) = intss (rows.take k) ++ [ints rows[k]] := by
  rw [List.take_succ_eq_append_getElem h, intss_app]; rfl
theorem below_freshY {w W w' : World} {row : Option Nat} (hg : W.grownBy w' row) (hb : Below w.heap.size w W) (hr : row = some w.heap.size) : Below w.heap.size w w' :=
  ⟨hg.os.trans hb.os, hg.tape.trans hb.tape, hg.output.trans hb.output, Nat.le_trans hb.size hg.size, fun i hi => (hg.block i (Nat.lt_of_lt_of_le hi hb.size) (fun e => by rw [hr] at e; injection e with e; omega)).trans (hb.block i hi)⟩
/-- a row of its own is put behind the others -/
theorem OwnRR.add {wr : World} {lo : Nat} {te ti : TypeId} {v : Value} {xss : List (List Value)} (h : OwnRR wr lo wr.heap.size te ti v xss) (hlo : lo ≤ wr.heap.size) :
    ∃ hs, ∀ (w5 : World) (u : Value) (ys : List Value), Below wr.heap.size wr w5 → w5.ownsRow wr.heap.size ti 1 u ys.length ys →
      (w5.alloc (.cells #[u] te)).ownsRow lo te 1 v xss.length hs ∧ Blk (w5.alloc (.cells #[u] te)) w5.heap.size te [u] ∧
      ∀ (v' : Value) (w7 : World), w7.ownsRow lo te 1 v' (xss.length + 1) (hs ++ [u]) → (w5.alloc (.cells #[u] te)).grownBy w7 v.ownBlock → (v'.ownBlock = v.ownBlock ∨ v'.ownBlock = some (w5.alloc (.cells #[u] te)).heap.size) →
        OwnRR w7 lo w7.heap.size te ti v' (xss ++ [ys]) ∧ Out lo wr.heap.size wr w7 := by
  obtain ⟨hs, h1, h2, h3⟩ := h
  refine ⟨hs, fun w5 u ys hb hu => ?_⟩
  have hal : Below w5.heap.size w5 (w5.alloc (.cells #[u] te)) := (Below.refl _ _).alloc (Nat.le_refl _) _
  have hba := below_trans hb hal
  have h1' := h1.later hba
  refine ⟨h1'.row, Blk.new _ _ _, fun v' w7 hown hg hbk => ?_⟩
  refine ⟨own_snoc2 h1' (fun i hi => ?_) h3 (own_base (own_later hu hal) hlo) (fun g e => (hu.lt g e).1) hown hg (hbk.imp id fun e => ⟨_, e, Nat.le_refl _⟩), ?_⟩
  · obtain ⟨a, ea, ha, hne⟩ := h2 i hi
    exact ⟨a, ea, ha.later hba, hne⟩
  · exact (Below.out hba _ _).trans (out_of_grown hg (fun g e => ⟨(h1.row.lt g e).1, h1.lt g e⟩))
/-- the copy so far -/
def YCut (w : World) (q : Nat) (high : Int) (k : Nat) (X : List (List Value)) (wx : World) : Prop :=
  ∃ A c, Blk wx q 27 [.int .i64 high, .slice A k c] ∧ OwnRR wx (q + 1) wx.heap.size 37 3 (.slice A k c) X ∧ q + 1 ≤ wx.heap.size ∧ Below w.heap.size w wx
theorem ycut_store {w wr w7 : World} {q k : Nat} {high : Int} {A1 A7 : Option Addr} {c1 c7 : Nat} {X : List (List Value)} (hq : w.heap.size ≤ q) (hb : Below w.heap.size w wr) (hP : Blk wr q 27 [.int .i64 high, .slice A1 k c1]) (hO : OwnRR w7 (q + 1) w7.heap.size 37 3 (.slice A7 (k + 1) c7) X) (ho : Out (q + 1) wr.heap.size wr w7) :
    YCut w q high (k + 1) X (w7.setCell ⟨q, 1, none⟩ (.slice A7 (k + 1) c7)) := by
  have hP7 : Blk w7 q 27 [.int .i64 high, .slice A1 k c1] := (ho.block q hP.lt (.inl (by omega))).trans hP
  have hs := hP7.lt
  refine ⟨A7, c7, hP7.set_ 1 _, ?_, ?_, ?_⟩
  · exact hO.set_far q 1 _ (by omega) (Nat.le_refl _)
  · simp [World.setCell]; omega
  · exact (below_out hb ho (by omega)).setCell hq _
set_option maxHeartbeats 4000000 in
theorem implClone (high : Int) (A : Option Addr) (n c : Nat) (rows : List (List Int)) (w : World) (hn : rows.length = n) (hr : RdRR w A (intss rows)) (hm : n ≤ 1048576) (hin : ∀ s ∈ rows, s.length ≤ 1048576) :
    Calls Try.prog 30 #[.agg #[.int .i64 high, .slice A n c]] w (YardOut w high n rows) := by
  have HN := Lib.hid hn
  have HIN := Lib.hid hin
  clear hn hin
  go_enter Try.func30, Try.ntmps30
  go_wp2_with fail
  go_loopw [12, 5] (fun i _ wr => ∃ (k : Nat), k ≤ n ∧ i = .int .i64 k ∧ Blk wr (w.heap.size + 1) 27 [.int .i64 0, .slice none 0 0] ∧ YCut w (w.heap.size + 1 + 1) high k (intss (rows.take k)) wr) (fun i _ _ => n - (intOf i).toNat)
  case atStart =>
    refine ⟨0, Nat.zero_le _, rfl, ?_, none, 0, ?_, ?_, ?_, ?_⟩
    · have := Blk.new (w.alloc (.cells #[.int .i64 high, .slice A n c] 27)) 27 [.int .i64 0, .slice none 0 0]
      simp only [World.size_alloc] at this
      exact this.alloc _
    · have := Blk.new ((w.alloc (.cells #[.int .i64 high, .slice A n c] 27)).alloc (.cells #[.int .i64 0, .slice none 0 0] 27)) 27 [.int .i64 high, .slice none 0 0]
      simp only [World.size_alloc] at this
      exact this
    · exact ownRR_none _ _ _ _
    · simp
    · exact (((Below.refl _ _).alloc (Nat.le_refl _) _).alloc (by simp) _).alloc (by simp; omega) _
  case round =>
    obtain ⟨k, hk, rfl, hR0, A1, c1, P1, hO, hsz, hb⟩ := hrel
    have c0 := P1.cellAt 0 (by simp)
    have c1' := P1.cellAt 1 (by simp)
    simp only [List.getElem_cons_zero, List.getElem_cons_succ] at c0 c1'
    have hPlt := P1.lt
    have HR0 := Lib.hid hR0
    by_cases hlt : k < n
    · have hkz : k < rows.length := by rw [HN.out]; exact hlt
      have hkl : k < (intss rows).length := by rw [intss_len]; exact hkz
      obtain ⟨b, o, rfl, hl0, B, c', hcell0, hle, hmx, hrB0⟩ := hr.pos hkl
      have hl : b < wr.heap.size := Nat.lt_of_lt_of_le hl0 hb.size
      have hcell := (hb.cell (p := ⟨b, o + k, none⟩) hl0).trans hcell0
      have hrB := hrB0.below hb
      rw [intss_at] at hrB
      simp only [intss_at, ints_len] at hcell
      have HSN := Lib.hid (intss_snoc hkz)
      have hzl := HIN.out rows[k] (List.getElem_mem hkz)
      have hxl : (intss (rows.take k)).length = k := by rw [intss_len, List.length_take]; omega
      generalize rows[k] = zs at *
      generalize hz : zs.length = p at *
      have HZ := Lib.hid hz
      generalize intss (rows.take k) = X at *
      have hki : (k : Int) < (n : Int) := by omega
      have e1 : IntKind.i64.wrap ((k : Int) + 1) = (k : Int) + 1 := IntWalk.i64_in _ (by omega)
      obtain ⟨hs, hadd⟩ := hO.add hsz
      rw [hxl] at hadd
      have HADD := Lib.hid hadd
      have HP1 := Lib.hid P1
      have HR := Lib.hid hr
      have HB := Lib.hid hb
      have HRB := Lib.hid hrB
      have hc := fun w0 h => clone_row B p c' zs w0 HZ.out h hzl
      clear hz hcell0 hrB0 hl0 hle hmx hr P1 hO hb hrB hadd hR0
      go_upto_region 5 with fail
      go_region_law (first
        | (go_simp; go_at_call 54;
           (with_reducible refine (hc _ (HRB.out.below (Below.drew (Below.refl _ _)))).mono ?_)
           rintro e w5 ⟨u, rfl, hu, hb5⟩
           obtain ⟨Au, cu, rfl, _, _⟩ := own_slice hu
           have kb : Below wr.heap.size wr w5 := below_trans (Below.drew (Below.refl _ _)) hb5
           obtain ⟨ka, kblk, kfin⟩ := HADD.out w5 (.slice Au p cu) (ints zs) kb (by rw [ints_len, HZ.out]; exact hu)
           have d5 := (HP1.out.later kb).cellAt 1 (by simp)
           have d6 := ((HP1.out.later kb).alloc (.cells #[.slice Au p cu] 37)).cellAt 1 (by simp)
           simp only [List.getElem_cons_zero, List.getElem_cons_succ] at d5 d6
           have KA := Lib.hid ka
           have KBLK := Lib.hid kblk
           have KFIN := Lib.hid kfin
           have hs5 : w.heap.size + 1 + 1 + 1 ≤ (w5.alloc (.cells #[.slice Au p cu] 37)).heap.size := by have := kb.size; simp; omega
           clear ka kblk kfin hu hb5)
        | (refine step_append_src rfl (.tmp 17) (.tmp 20) 22 rfl 37 _ _ _ Try.underlying22 ints_infoD (w.heap.size + 1 + 1 + 1) (w5.alloc (.cells #[.slice Au p cu] 37)) (.slice A1 k c1) k hs rfl KA.out (some ⟨w5.heap.size, 0, none⟩) 1 1 [.slice Au p cu] rfl rfl KBLK.out.rd (by simp [Value.oneCell']) (by omega) hs5 ?_
           intro v7 w7 hown7 hg7 hb7
           obtain ⟨A7, c7, rfl, _, _⟩ := own_slice hown7
           obtain ⟨m1, m2⟩ := KFIN.out _ w7 hown7 hg7 hb7
           have P7 : Blk w7 (w.heap.size + 1 + 1) 27 [.int .i64 high, .slice A1 k c1] := (m2.block _ hPlt (.inl (Nat.lt_succ_self _))).trans HP1.out
           have f7 := P7.frozen 1
           have d7 := P7.cellAt 1 (by simp)
           simp only [List.getElem_cons_zero, List.getElem_cons_succ] at d7
           have M1 := Lib.hid m1
           have M2 := Lib.hid m2
           clear m1 m2 hown7 hg7 hb7 P7))
      all_goals
        have hyc := ycut_store (k := k) (Nat.le_trans (Nat.le_succ _) (Nat.le_succ _)) HB.out HP1.out M1.out M2.out
        rw [← HSN.out] at hyc
        have hr7 : Blk w7 (w.heap.size + 1) 27 [.int .i64 0, .slice none 0 0] := (M2.out.block _ (Nat.lt_trans (Nat.lt_succ_self _) hPlt) (.inl (by omega))).trans HR0.out
        have HYC := Lib.hid hyc
        have HR7 : Hid (Blk (w7.setCell ⟨w.heap.size + 1 + 1, 1, none⟩ (.slice A7 (k + 1) c7)) (w.heap.size + 1) 27 [.int .i64 0, .slice none 0 0]) := Lib.hid (hr7.far (by show w.heap.size + 1 ≠ w.heap.size + 1 + 1; omega) _)
        clear hyc hr7
        go_wp2_with fail
        go_roundw
        case rel => exact ⟨k + 1, by omega, by go_num, HR7.out, HYC.out⟩
        case measure => simp [intOf]; omega
    · obtain rfl : k = n := by omega
      have htl : rows.take k = rows := List.take_of_length_le (by rw [HN.out]; exact Nat.le_refl _)
      rw [htl] at hO
      clear htl
      have hq7 := P1.lt
      have r0 := HR0.out.cellAt 0 (by simp)
      have r1 := HR0.out.cellAt 1 (by simp)
      have f0 := HR0.out.frozen 0
      have f1 := HR0.out.frozen 1
      simp only [List.getElem_cons_zero, List.getElem_cons_succ] at r0 r1
      go_wp2_with fail
      have hR := (HR0.out.set_ 0 (.int .i64 high)).set_ 1 (.slice A1 k c1)
      have z0 := hR.cellAt 0 (by simp)
      have z1 := hR.cellAt 1 (by simp)
      simp only [List.set_cons_zero, List.set_cons_succ, List.getElem_cons_zero, List.getElem_cons_succ] at z0 z1
      refine bodyPost_ret (v := .agg #[.int .i64 high, .slice A1 k c1]) (by simp [results, Try.results30, go_sem, z0, z1]) rfl ?_
      have ho : Out w.heap.size (w.heap.size + 3) wr ((wr.setCell ⟨w.heap.size + 1, 0, none⟩ (.int .i64 high)).setCell ⟨w.heap.size + 1, 1, none⟩ (.slice A1 k c1)) := out_set (out_set (Out.refl _ _ _) _ _ _ (by omega) (by omega)) _ _ _ (by omega) (by omega)
      exact RVal.mk ⟨A1, c1, rfl, ((hO.out ho (.inr (by omega))).hi ho.size (Nat.le_refl _)).base (by omega), below_out hb ho (Nat.le_refl _)⟩
end Go.Proofs.Ytcbeoaedccdppaa
