/- Several texts of the proof in one; each says at its head what it proves; no condition. -/
import Derived.Test.YtbkfhcbecejomaaGreatMg11
import Derived.Test.YtbkfhcbecejomaaGreatMg10
import Derived.Test.YtbkfhcbecejomaaGreatMg6
import Derived.Test.YtbkfhcbecejomaaGreatMg13
import Derived.Test.YtbkfhcbecejomaaGreatMg8
import Derived.Test.YtbkfhcbecejomaaGreatMg1
import Derived.Test.YtbkfhcbecejomaaGreatMg12
section
/- Yards, the reference: put, take and move, told by what is needed of their results. -/
namespace Go.Proofs.YtbkfhcbecejomaaGreat
open Go Go.ChangeShapes Go.WideShapes Go.ChangeAt Go.RowKit
set_option linter.unusedVariables false
theorem yput_shape {high : Int} {rows : List (List Int)} (i x : Int) (hok : yardOk high rows = true) : (yput high rows i x).1 = high ∧ (yput high rows i x).2.1.length = rows.length ∧ ∀ s ∈ (yput high rows i x).2.1, s.length ≤ 6 := by
  have h5 := (yardOk_parts hok).2.2.2.2.1
  unfold yput
  rw [if_neg (by simp [hok])]
  split
  · rename_i h
    refine ⟨rfl, by simp, fun s hs => ?_⟩
    rcases List.mem_or_eq_of_mem_set hs with hs | rfl
    · have := h5 s hs; omega
    · have hk : i.toNat < rows.length := by omega
      rw [List.length_append, getD_at hk]
      have := h5 _ (List.getElem_mem hk)
      simp
      omega
  · exact ⟨rfl, rfl, fun s hs => by have := h5 s hs; omega⟩
theorem ytake_shape {high : Int} {rows : List (List Int)} (i : Int) (hok : yardOk high rows = true) : (ytake high rows i).1 = high ∧ (ytake high rows i).2.1.length = rows.length ∧ (∀ s ∈ (ytake high rows i).2.1, s.length ≤ 6) ∧ (0 ≤ (ytake high rows i).2.2 → (ytake high rows i).2.2 ∈ rows.flatten) := by
  have h5 := (yardOk_parts hok).2.2.2.2.1
  unfold ytake
  rw [if_neg (by simp [hok])]
  split
  · rename_i h
    have hk : i.toNat < rows.length := by omega
    have hg := getD_at hk
    refine ⟨rfl, by simp, fun s hs => ?_, fun _ => ?_⟩
    · rcases List.mem_or_eq_of_mem_set hs with hs | rfl
      · have := h5 s hs; omega
      · rw [List.length_dropLast, hg]
        have := h5 _ (List.getElem_mem hk)
        omega
    · rw [List.mem_flatten]
      exact ⟨rows[i.toNat], List.getElem_mem hk, by rw [← hg]; exact List.getLast_mem _⟩
  · exact ⟨rfl, rfl, fun s hs => by have := h5 s hs; omega, fun h => by simp at h⟩
theorem ytake_valid {high : Int} {rows : List (List Int)} (i : Int) (hok : yardOk high rows = true) : yardOk high (ytake high rows i).2.1 = true := by
  unfold ytake
  rw [if_neg (by simp [hok])]
  split
  · rename_i h
    have hk : i.toNat < rows.length := by omega
    show yardOk high (rows.set i.toNat (rows.getD i.toNat []).dropLast) = true
    rw [getD_at hk]
    exact yardOk_pop hok hk
  · exact hok
/-- a yard of n stacks in memory of the call's own, and a second result -/
def YTwo (w : World) (high : Int) (n : Nat) (Q : Value → List (List Int) → Prop) : Ending → World → Prop :=
  RVal fun u w' => ∃ A c rows' v, u = .tuple #[.agg #[.int .i64 high, .slice A n c], v] ∧ Q v rows' ∧ rows'.length = n ∧ (∀ s ∈ rows', s.length ≤ 6) ∧ OwnRR w' w.heap.size w'.heap.size 29 3 (.slice A n c) (intss rows') ∧ Below w.heap.size w w'
theorem putY (high i x : Int) (A : Option Addr) (n c : Nat) (rows : List (List Int)) (w : World) (hn : rows.length = n) (hr : RdRR w A (intss rows)) (hm : n ≤ 1048576) (hok : yardOk high rows = true) :
    Calls Tryz.prog 87 #[.agg #[.int .i64 high, .slice A n c], .int .i64 i, .int .i64 x] w (YTwo w high n (fun v _ => IsB v)) :=
  (specYardPut high i x A n c rows w hn hr hm (fun s hs => by have := (yardOk_parts hok).2.2.2.2.1 s hs; omega)).mono fun e w' h => by
    obtain ⟨_, rfl, B, d, rfl, ho, hb⟩ := h
    obtain ⟨h1, h2, h3⟩ := yput_shape i x hok
    rw [h1]
    rw [h2, hn] at ho ⊢
    exact RVal.mk ⟨B, d, _, _, rfl, ⟨_, rfl⟩, h2.trans hn, h3, ho, hb⟩
theorem takeY (high i : Int) (A : Option Addr) (n c : Nat) (rows : List (List Int)) (w : World) (hn : rows.length = n) (hr : RdRR w A (intss rows)) (hm : n ≤ 1048576) (hok : yardOk high rows = true) :
    Calls Tryz.prog 104 #[.agg #[.int .i64 high, .slice A n c], .int .i64 i] w (YTwo w high n (fun v rows' => ∃ id : Int, v = .int .i64 id ∧ (0 ≤ id → id ∈ rows.flatten) ∧ yardOk high rows' = true)) :=
  (specYardTake high i A n c rows w hn hr hm (fun s hs => by have := (yardOk_parts hok).2.2.2.2.1 s hs; omega)).mono fun e w' h => by
    obtain ⟨_, rfl, B, d, rfl, ho, hb⟩ := h
    obtain ⟨h1, h2, h3, h4⟩ := ytake_shape i hok
    rw [h1]
    rw [h2, hn] at ho ⊢
    exact RVal.mk ⟨B, d, _, _, rfl, ⟨_, rfl, h4, ytake_valid i hok⟩, h2.trans hn, h3, ho, hb⟩
theorem copyY (high : Int) (A : Option Addr) (n c : Nat) (rows : List (List Int)) (w : World) (hn : rows.length = n) (hr : RdRR w A (intss rows)) (hm : n ≤ 1048576) (hok : yardOk high rows = true) :
    Calls Tryz.prog 102 #[.agg #[.int .i64 high, .slice A n c]] w (YardOut w high n rows) :=
  specCopy high A n c rows w hn hr hm (fun s hs => by have := (yardOk_parts hok).2.2.2.2.1 s hs; omega)
set_option maxHeartbeats 4000000 in
set_option maxRecDepth 100000 in
theorem moveY (high f t : Int) (A : Option Addr) (n c : Nat) (rows : List (List Int)) (w : World) (hn : rows.length = n) (hr : RdRR w A (intss rows)) (hm : n ≤ 1048576) (hok : yardOk high rows = true) :
    Calls Tryz.prog 88 #[.agg #[.int .i64 high, .slice A n c], .agg #[.int .i64 f, .int .i64 t]] w (YTwo w high n (fun v _ => IsB v)) := by
  have HOK := Lib.hid hok
  have HN := Lib.hid hn
  have h6 := (yardOk_parts hok).2.2.2.2.1
  have H6 : Hid (∀ s ∈ rows, s.length ≤ 6) := Lib.hid (fun s hs => by have := h6 s hs; omega)
  have hal : Below w.heap.size w (((w.alloc (.cells #[.int .i64 high, .slice A n c] 25)).alloc (.cells #[.int .i64 f, .int .i64 t] 110)).alloc (.cells #[.int .i64 0, .slice none 0 0] 25)) := (((Below.refl _ _).alloc (Nat.le_refl _) _).alloc (by simp) _).alloc (by simp; omega) _
  have hP := ((Blk.new w 25 [.int .i64 high, .slice A n c]).alloc (.cells #[.int .i64 f, .int .i64 t] 110)).alloc (.cells #[.int .i64 0, .slice none 0 0] 25)
  have hM := (Blk.new (w.alloc (.cells #[.int .i64 high, .slice A n c] 25)) 110 [.int .i64 f, .int .i64 t]).alloc (.cells #[.int .i64 0, .slice none 0 0] 25)
  have hQ := Blk.new ((w.alloc (.cells #[.int .i64 high, .slice A n c] 25)).alloc (.cells #[.int .i64 f, .int .i64 t] 110)) 25 [.int .i64 0, .slice none 0 0]
  simp only [World.size_alloc] at hM hQ
  clear hok h6 hn
  go_enter Tryz.func88, Tryz.ntmps88
  go_wp2_with fail
  generalize (((w.alloc (.cells #[.int .i64 high, .slice A n c] 25)).alloc (.cells #[.int .i64 f, .int .i64 t] 110)).alloc (.cells #[.int .i64 0, .slice none 0 0] 25)) = w1 at *
  have hr1 := hr.below hal
  refine (specYardValid high A n c rows w1 HN.out hr1 (by omega)).mono ?_
  rintro e w2 ⟨rfl, b2⟩
  rw [HOK.out]
  have P2 := Lib.hid (hP.later b2)
  have M2 := Lib.hid (hM.later b2)
  have Q2 := Lib.hid (hQ.later b2)
  have B2 := Lib.hid (below_trans hal b2)
  clear hP hM hQ hal b2 hr1
  have x0 := P2.out.cellAt 0 (by simp)
  have x1 := P2.out.cellAt 1 (by simp)
  have m0 := M2.out.cellAt 0 (by simp)
  have m1 := M2.out.cellAt 1 (by simp)
  simp only [List.getElem_cons_zero, List.getElem_cons_succ] at x0 x1 m0 m1
  have xl := P2.out.lt
  have ml := M2.out.lt
  go_wp2_with fail
  refine (takeY high f A n c rows w2 HN.out (hr.below B2.out) hm HOK.out).mono ?_
  rintro e w3 ⟨_, rfl, XA, xc, rows1, _, rfl, ⟨id, rfl, hid, hok1⟩, hn1, h61, ox, b3⟩
  have B3 := Lib.hid (below_trans B2.out b3)
  have hal3 : Below w3.heap.size w3 (w3.alloc (.cells #[.int .i64 high, .slice XA n xc] 25)) := (Below.refl _ _).alloc (Nat.le_refl _) _
  have X4 := Lib.hid (Blk.new w3 25 [.int .i64 high, .slice XA n xc])
  have b4 := below_trans b3 hal3
  have B4 := Lib.hid (below_trans B2.out b4)
  have O4 := Lib.hid (ox.later hal3)
  have P4 := Lib.hid (P2.out.later b4)
  have M4 := Lib.hid (M2.out.later b4)
  have Q4 := Lib.hid (Q2.out.later b4)
  have s3 : w.heap.size + 3 ≤ w3.heap.size := by have := Q2.out.lt; have := b3.size; omega
  have HN1 := Lib.hid hn1
  have HOK1 := Lib.hid hok1
  clear hal3 ox b3 b4 x0 x1 m0 m1 P2 M2 Q2 B2 B3 hok1 hn1 xl ml hid h61
  have x0 := P4.out.cellAt 0 (by simp)
  have x1 := P4.out.cellAt 1 (by simp)
  simp only [List.getElem_cons_zero, List.getElem_cons_succ] at x0 x1
  have m0 := M4.out.cellAt 0 (by simp)
  have m1 := M4.out.cellAt 1 (by simp)
  simp only [List.getElem_cons_zero, List.getElem_cons_succ] at m0 m1
  have y0 := X4.out.cellAt 0 (by simp)
  have y1 := X4.out.cellAt 1 (by simp)
  simp only [List.getElem_cons_zero, List.getElem_cons_succ] at y0 y1
  have s4 : w.heap.size + 1 + 1 < (w3.alloc (.cells #[.int .i64 high, .slice XA n xc] 25)).heap.size := by simp; omega
  have lx := X4.out.lt
  by_cases hi : id < 0
  · go_wp2_with (go_at_call 102; refine (copyY high A n c rows _ HN.out (hr.below B4.out) hm HOK.out).mono ?_; rintro e w5 ⟨_, rfl, C, d, rfl, oc, b5⟩; have Q5 := Q4.out.later b5; have f0 := Q5.frozen 0; have f1 := Q5.frozen 1; have q0 := Q5.cellAt 0 (by simp); have q1 := Q5.cellAt 1 (by simp); simp only [List.getElem_cons_zero, List.getElem_cons_succ] at q0 q1)
    have hR := (Q5.set_ 0 (.int .i64 high)).set_ 1 (.slice C n d)
    have z0 := hR.cellAt 0 (by simp)
    have z1 := hR.cellAt 1 (by simp)
    simp only [List.set_cons_zero, List.set_cons_succ, List.getElem_cons_zero, List.getElem_cons_succ] at z0 z1
    refine bodyPost_ret (v := .tuple #[.agg #[.int .i64 high, .slice C n d], .bool false]) (by simp [results, Tryz.results88, go_sem, z0, z1]) rfl ?_
    exact RVal.mk ⟨C, d, rows, .bool false, rfl, ⟨_, rfl⟩, HN.out, H6.out, ((oc.set_far _ _ _ s4 (Nat.le_refl _)).set_far _ _ _ s4 (Nat.le_refl _)).base (Nat.le_of_lt (Nat.lt_of_le_of_lt (Nat.le_trans (Nat.le_succ _) (Nat.le_succ _)) s4)), ((below_trans B4.out b5).setCell (p := ⟨w.heap.size + 1 + 1, 0, none⟩) (by show w.heap.size ≤ w.heap.size + 1 + 1; omega) _).setCell (p := ⟨w.heap.size + 1 + 1, 1, none⟩) (by show w.heap.size ≤ w.heap.size + 1 + 1; omega) _⟩
  · by_cases hft : f = t
    · subst hft
      go_wp2_with (go_at_call 102; refine (copyY high A n c rows _ HN.out (hr.below B4.out) hm HOK.out).mono ?_; rintro e w5 ⟨_, rfl, C, d, rfl, oc, b5⟩; have Q5 := Q4.out.later b5; have f0 := Q5.frozen 0; have f1 := Q5.frozen 1; have q0 := Q5.cellAt 0 (by simp); have q1 := Q5.cellAt 1 (by simp); simp only [List.getElem_cons_zero, List.getElem_cons_succ] at q0 q1)
      have hR := (Q5.set_ 0 (.int .i64 high)).set_ 1 (.slice C n d)
      have z0 := hR.cellAt 0 (by simp)
      have z1 := hR.cellAt 1 (by simp)
      simp only [List.set_cons_zero, List.set_cons_succ, List.getElem_cons_zero, List.getElem_cons_succ] at z0 z1
      refine bodyPost_ret (v := .tuple #[.agg #[.int .i64 high, .slice C n d], .bool false]) (by simp [results, Tryz.results88, go_sem, z0, z1]) rfl ?_
      exact RVal.mk ⟨C, d, rows, .bool false, rfl, ⟨_, rfl⟩, HN.out, H6.out, ((oc.set_far _ _ _ s4 (Nat.le_refl _)).set_far _ _ _ s4 (Nat.le_refl _)).base (Nat.le_of_lt (Nat.lt_of_le_of_lt (Nat.le_trans (Nat.le_succ _) (Nat.le_succ _)) s4)), ((below_trans B4.out b5).setCell (p := ⟨w.heap.size + 1 + 1, 0, none⟩) (by show w.heap.size ≤ w.heap.size + 1 + 1; omega) _).setCell (p := ⟨w.heap.size + 1 + 1, 1, none⟩) (by show w.heap.size ≤ w.heap.size + 1 + 1; omega) _⟩
    · have hfe : (f == t) = false := by simpa using hft
      go_wp2_with fail
      generalize w3.alloc (.cells #[.int .i64 high, .slice XA n xc] 25) = w4 at *
      refine (putY high t id XA n xc rows1 w4 HN1.out O4.out.rd hm HOK1.out).mono ?_
      rintro e w5 ⟨_, rfl, C, d, rows2, _, rfl, ⟨b, rfl⟩, hn2, h62, oc, b5⟩
      have hal6 : Below w5.heap.size w5 (w5.alloc (.cells #[.int .i64 high, .slice C n d] 25)) := (Below.refl _ _).alloc (Nat.le_refl _) _
      have Z6 := Blk.new w5 25 [.int .i64 high, .slice C n d]
      change Blk (w5.alloc (.cells #[.int .i64 high, .slice C n d] 25)) _ _ _ at Z6
      have b6 := below_trans b5 hal6
      have B6 := Lib.hid (below_trans B4.out b6)
      have P6 := Lib.hid (P4.out.later b6)
      have Q6 := Lib.hid (Q4.out.later b6)
      have O6 := Lib.hid (oc.later hal6)
      have s6 : w.heap.size + 1 + 1 < (w5.alloc (.cells #[.int .i64 high, .slice C n d] 25)).heap.size := by have := b6.size; omega
      have HZ := Lib.hid Z6
      clear hal6 Z6 b6 b5 oc x0 x1 m0 m1 y0 y1 X4 M4
      have x0 := P6.out.cellAt 0 (by simp)
      have x1 := P6.out.cellAt 1 (by simp)
      simp only [List.getElem_cons_zero, List.getElem_cons_succ] at x0 x1
      have y0 := HZ.out.cellAt 0 (by simp)
      have y1 := HZ.out.cellAt 1 (by simp)
      simp only [List.getElem_cons_zero, List.getElem_cons_succ] at y0 y1
      cases b with
      | false =>
        go_wp2_with (go_at_call 102; refine (copyY high A n c rows _ HN.out (hr.below B6.out) hm HOK.out).mono ?_; rintro e w7 ⟨_, rfl, C', d', rfl, oc, b7⟩; have Q7 := Q6.out.later b7; have f0 := Q7.frozen 0; have f1 := Q7.frozen 1; have q0 := Q7.cellAt 0 (by simp); have q1 := Q7.cellAt 1 (by simp); simp only [List.getElem_cons_zero, List.getElem_cons_succ] at q0 q1)
        have hR := (Q7.set_ 0 (.int .i64 high)).set_ 1 (.slice C' n d')
        have z0 := hR.cellAt 0 (by simp)
        have z1 := hR.cellAt 1 (by simp)
        simp only [List.set_cons_zero, List.set_cons_succ, List.getElem_cons_zero, List.getElem_cons_succ] at z0 z1
        refine bodyPost_ret (v := .tuple #[.agg #[.int .i64 high, .slice C' n d'], .bool false]) (by simp [results, Tryz.results88, go_sem, z0, z1]) rfl ?_
        exact RVal.mk ⟨C', d', rows, .bool false, rfl, ⟨_, rfl⟩, HN.out, H6.out, ((oc.set_far _ _ _ s6 (Nat.le_refl _)).set_far _ _ _ s6 (Nat.le_refl _)).base (Nat.le_of_lt (Nat.lt_of_le_of_lt (Nat.le_trans (Nat.le_succ _) (Nat.le_succ _)) s6)), ((below_trans B6.out b7).setCell (p := ⟨w.heap.size + 1 + 1, 0, none⟩) (by show w.heap.size ≤ w.heap.size + 1 + 1; omega) _).setCell (p := ⟨w.heap.size + 1 + 1, 1, none⟩) (by show w.heap.size ≤ w.heap.size + 1 + 1; omega) _⟩
      | true =>
        have f0 := Q6.out.frozen 0
        have f1 := Q6.out.frozen 1
        have q0 := Q6.out.cellAt 0 (by simp)
        have q1 := Q6.out.cellAt 1 (by simp)
        simp only [List.getElem_cons_zero, List.getElem_cons_succ] at q0 q1
        have hle : w5.heap.size ≤ (w5.alloc (.cells #[.int .i64 high, .slice C n d] 25)).heap.size := by simp
        have O6' := Lib.hid (OwnRR.hi O6.out hle (Nat.le_refl _))
        go_wp2_with fail
        have hR := (Q6.out.set_ 0 (.int .i64 high)).set_ 1 (.slice C n d)
        have z0 := hR.cellAt 0 (by simp)
        have z1 := hR.cellAt 1 (by simp)
        simp only [List.set_cons_zero, List.set_cons_succ, List.getElem_cons_zero, List.getElem_cons_succ] at z0 z1
        refine bodyPost_ret (v := .tuple #[.agg #[.int .i64 high, .slice C n d], .bool true]) (by simp [results, Tryz.results88, go_sem, z0, z1]) rfl ?_
        exact RVal.mk ⟨C, d, rows2, .bool true, rfl, ⟨_, rfl⟩, hn2, h62, ((O6'.out.set_far _ _ _ s4 (Nat.le_refl _)).set_far _ _ _ s4 (Nat.le_refl _)).base (Nat.le_of_lt (Nat.lt_of_le_of_lt (Nat.le_trans (Nat.le_succ _) (Nat.le_succ _)) s4)), (B6.out.setCell (p := ⟨w.heap.size + 1 + 1, 0, none⟩) (by show w.heap.size ≤ w.heap.size + 1 + 1; omega) _).setCell (p := ⟨w.heap.size + 1 + 1, 1, none⟩) (by show w.heap.size ≤ w.heap.size + 1 + 1; omega) _⟩
end Go.Proofs.YtbkfhcbecejomaaGreat
end
section
/- Deeds of terminals: what is known of a valid terminal, and terminals of which only little need be known. -/
namespace Go.Proofs.YtbkfhcbecejomaaGreat
open Go Go.ChangeShapes Go.WideShapes Go.ChangeAt Go.RowKit
set_option linter.unusedVariables false
theorem setH_lenT (hs : List HoldV) (x m : Int) : (setH hs x m).length ≤ hs.length + 1 := by
  induction hs with
  | nil => unfold setH; split <;> simp
  | cons a r ih =>
    unfold setH
    split
    · simpa using ih
    · split
      · split
        · exact Nat.le_succ_of_le (Nat.le_succ _)
        · simp
      · split <;> simp
theorem insL_lenT (ls : List Int) (x : Int) : (insL ls x).length ≤ ls.length + 1 := by
  induction ls with
  | nil => unfold insL; simp
  | cons a r ih =>
    unfold insL
    split <;> simp <;> omega
theorem paperDo_low (p : PapV) (k x m : Int) : (paperDo p k x m).1.hs.length ≤ 13 ∧ (paperDo p k x m).1.ls.length ≤ 13 := by
  unfold paperDo
  split
  · rename_i h
    simp only [papOkV, papOk, Bool.and_eq_true, decide_eq_true_eq] at h
    obtain ⟨_, h1, h2⟩ := h
    have a1 := setH_lenT p.hs x (marksOf p.hs x + powM m)
    have a2 := setH_lenT p.hs x (marksOf p.hs x - powM m)
    have a3 := insL_lenT p.ls x
    unfold pdo
    split
    · split
      · split
        · exact ⟨by show p.hs.length ≤ 13; omega, by show p.ls.length ≤ 13; omega⟩
        · exact ⟨by show (setH p.hs x _).length ≤ 13; omega, by show p.ls.length ≤ 13; omega⟩
      · split
        · split
          · exact ⟨by show (setH p.hs x _).length ≤ 13; omega, by show p.ls.length ≤ 13; omega⟩
          · exact ⟨by show p.hs.length ≤ 13; omega, by show p.ls.length ≤ 13; omega⟩
        · split
          · split
            · exact ⟨by show p.hs.length ≤ 13; omega, by show (insL p.ls x).length ≤ 13; omega⟩
            · exact ⟨by show p.hs.length ≤ 13; omega, by show p.ls.length ≤ 13; omega⟩
          · exact ⟨by show p.hs.length ≤ 13; omega, by show p.ls.length ≤ 13; omega⟩
    · exact ⟨by show p.hs.length ≤ 13; omega, by show p.ls.length ≤ 13; omega⟩
  · simp
/-- a terminal of which only the sizes are known -/
structure TLow (yn bn pn hn ln : Nat) (rows : List (List Int)) (bs : List BoxV) (plan : List Int) (hs : List HoldV) (ls : List Int) : Prop where
  yl : rows.length = yn
  y6 : ∀ s ∈ rows, s.length ≤ 6
  ym : yn ≤ 20
  bl : bs.length = bn
  bm : bn ≤ 20
  pl : plan.length = pn
  pm : pn ≤ 40
  hl : hs.length = hn
  hm : hn ≤ 20
  ll : ls.length = ln
  lm : ln ≤ 20
theorem term_facts {high : Int} {rows : List (List Int)} {h : HullV} {bs : List BoxV} {plan : List Int} {hs : List HoldV} {ls : List Int} (e : termOk high rows h bs plan ⟨hs, ls⟩ = true) :
    yardOk high rows = true ∧ planOk h bs plan = true ∧ 0 < plan.length ∧ plan.length ≤ 36 ∧ bs.length ≤ 10 ∧ hs.length ≤ 12 ∧ ls.length ≤ 12 ∧ rows.length ≤ 5 ∧ (∀ s ∈ rows, s.length ≤ 5) ∧ ∀ id ∈ rows.flatten, hasF bs id = true := by
  simp only [termOk, Bool.and_eq_true, List.all_eq_true] at e
  obtain ⟨⟨⟨⟨h1, h2⟩, h3⟩, _⟩, h4, _⟩ := e
  obtain ⟨p1, p2, p3, _⟩ := planOk_parts h2
  have p4 := (slots_le p1).2.2
  simp only [papOkV, papOk, Bool.and_eq_true, decide_eq_true_eq] at h3
  simp only [boxesOk, Bool.and_eq_true, decide_eq_true_eq] at p2
  have y := yardOk_parts h1
  exact ⟨h1, h2, by omega, by omega, p2.2, by omega, by omega, y.2.1, y.2.2.2.2.1, fun id hid => (h4 id hid).1.1⟩
theorem TLow.of {yn bn pn hn ln : Nat} {high : Int} {rows : List (List Int)} {h : HullV} {bs : List BoxV} {plan : List Int} {hs : List HoldV} {ls : List Int} (e : termOk high rows h bs plan ⟨hs, ls⟩ = true) (h1 : rows.length = yn) (h2 : bs.length = bn) (h3 : plan.length = pn) (h4 : hs.length = hn) (h5 : ls.length = ln) : TLow yn bn pn hn ln rows bs plan hs ls := by
  subst h1 h2 h3 h4 h5
  obtain ⟨_, _, _, a, b, c, d, f, g, _⟩ := term_facts e
  exact ⟨rfl, fun s hs => by have := g s hs; omega, by omega, rfl, by omega, rfl, by omega, rfl, by omega, rfl, by omega⟩
section
variable {W W' : World} {s : Nat} {YB BB PB HB LB : Option Addr} {yn yd bn bd pn pd hn hd ln ld : Nat} {rows : List (List Int)} {bs : List BoxV} {plan : List Int} {hs : List HoldV} {ls : List Int}
theorem rdV_nil_ {W : World} {A : Option Addr} : RdV W A (boxs []) := .inl rfl
/-- another yard, in newer memory -/
theorem TOwn.swapY {YB' : Option Addr} {yn' yd' lo hi : Nat} {rows' : List (List Int)} (h : TOwn W s YB yn yd BB bn bd PB pn pd HB hn hd LB ln ld rows bs plan hs ls) (hs' : s ≤ W.heap.size) (hb : Below W.heap.size W W') (o : OwnRR W' lo hi 29 3 (.slice YB' yn' yd') (intss rows')) (hlo : W.heap.size ≤ lo) :
    TOwn W' s YB' yn' yd' BB bn bd PB pn pd HB hn hd LB ln ld rows' bs plan hs ls := by
  have h' := h.later hb
  obtain ⟨ly, hy, lp, hp, ll, hl, ⟨a1, a2, a3⟩, ⟨d1, d2, d3⟩, o1, o2, o3, o4, o5⟩ := h
  have t3 := o3.top
  have t5 := o5.top
  refine ⟨lo, hi, lp, hp, ll, hl, ⟨by omega, a2, a3⟩, ⟨.inr (by omega), .inr (by omega), d3⟩, o, o2.imp id (fun h => own_later h hb), o3.later hb, own_later o4 hb, o5.later hb⟩
/-- another plan, in newer memory -/
theorem TOwn.swapP {PB' : Option Addr} {pn' pd' lo : Nat} {plan' : List Int} (h : TOwn W s YB yn yd BB bn bd PB pn pd HB hn hd LB ln ld rows bs plan hs ls) (hs' : s ≤ W.heap.size) (hb : Below W.heap.size W W') (o : W'.ownsRow lo 3 1 (.slice PB' pn' pd') pn' (ints plan')) (hlo : W.heap.size ≤ lo) :
    TOwn W' s YB yn yd BB bn bd PB' pn' pd' HB hn hd LB ln ld rows bs plan' hs ls := by
  obtain ⟨ly, hy, lp, hp, ll, hl, ⟨a1, a2, a3⟩, ⟨d1, d2, d3⟩, o1, o2, o3, o4, o5⟩ := h
  have t1 : hy ≤ W.heap.size := by obtain ⟨_, h1, _⟩ := o1; exact h1.top
  have t5 := o5.top
  exact ⟨ly, hy, lo, W'.heap.size, ll, hl, ⟨a1, by omega, a3⟩, ⟨.inl (by omega), d2, .inr (by omega)⟩, o1.later hb, o2.imp id (fun h => own_later h hb), OwnI.of o, own_later o4 hb, o5.later hb⟩
/-- other papers, in newer memory -/
theorem TOwn.swapD {HB' LB' : Option Addr} {hn' hd' ln' ld' lo : Nat} {hs' : List HoldV} {ls' : List Int} (h : TOwn W s YB yn yd BB bn bd PB pn pd HB hn hd LB ln ld rows bs plan hs ls) (hs0 : s ≤ W.heap.size) (hb : Below W.heap.size W W') (oh : W'.ownsRow lo 88 2 (.slice HB' hn' hd') hn' (holds hs')) (o : W'.ownsRow lo 3 1 (.slice LB' ln' ld') ln' (ints ls')) (hlo : W.heap.size ≤ lo) :
    TOwn W' s YB yn yd BB bn bd PB pn pd HB' hn' hd' LB' ln' ld' rows bs plan hs' ls' := by
  obtain ⟨ly, hy, lp, hp, ll, hl, ⟨a1, a2, a3⟩, ⟨d1, d2, d3⟩, o1, o2, o3, o4, o5⟩ := h
  have t1 : hy ≤ W.heap.size := by obtain ⟨_, h1, _⟩ := o1; exact h1.top
  have t3 := o3.top
  exact ⟨ly, hy, lp, hp, lo, W'.heap.size, ⟨a1, a2, by omega⟩, ⟨d1, .inl (by omega), .inl (by omega)⟩, o1.later hb, o2.imp id (fun h => own_later h hb), o3.later hb, own_base oh (by omega), OwnI.of o⟩
/-- another yard and other papers, in newer memory -/
theorem TOwn.swapYD {YB' HB' LB' : Option Addr} {yn' yd' hn' hd' ln' ld' lo hi ll' : Nat} {rows' : List (List Int)} {hs' : List HoldV} {ls' : List Int} (h : TOwn W s YB yn yd BB bn bd PB pn pd HB hn hd LB ln ld rows bs plan hs ls) (hs0 : s ≤ W.heap.size) (hb : Below W.heap.size W W') (oy : OwnRR W' lo hi 29 3 (.slice YB' yn' yd') (intss rows')) (hlo : W.heap.size ≤ lo) (oh : W'.ownsRow ll' 88 2 (.slice HB' hn' hd') hn' (holds hs')) (o : W'.ownsRow ll' 3 1 (.slice LB' ln' ld') ln' (ints ls')) (hlo2 : W.heap.size ≤ ll' ∧ hi ≤ ll') :
    TOwn W' s YB' yn' yd' BB bn bd PB pn pd HB' hn' hd' LB' ln' ld' rows' bs plan hs' ls' := by
  obtain ⟨ly, hy, lp, hp, ll, hl, ⟨a1, a2, a3⟩, ⟨d1, d2, d3⟩, o1, o2, o3, o4, o5⟩ := h
  have t3 := o3.top
  exact ⟨lo, hi, lp, hp, ll', W'.heap.size, ⟨by omega, a2, by omega⟩, ⟨.inr (by omega), .inl hlo2.2, .inl (by omega)⟩, oy, o2.imp id (fun h => own_later h hb), o3.later hb, own_base oh (by omega), OwnI.of o⟩
/-- another yard and another plan, in newer memory -/
theorem TOwn.swapYP {YB' PB' : Option Addr} {yn' yd' pn' pd' lo hi lp' hp' : Nat} {rows' : List (List Int)} {plan' : List Int} (h : TOwn W s YB yn yd BB bn bd PB pn pd HB hn hd LB ln ld rows bs plan hs ls) (hs0 : s ≤ W.heap.size) (hb : Below W.heap.size W W') (oy : OwnRR W' lo hi 29 3 (.slice YB' yn' yd') (intss rows')) (hlo : W.heap.size ≤ lo) (o : OwnI W' lp' hp' 3 1 (.slice PB' pn' pd') pn' (ints plan')) (hlo2 : W.heap.size ≤ lp') (hdj : hi ≤ lp' ∨ hp' ≤ lo) :
    TOwn W' s YB' yn' yd' BB bn bd PB' pn' pd' HB hn hd LB ln ld rows' bs plan' hs ls := by
  obtain ⟨ly, hy, lp, hp, ll, hl, ⟨a1, a2, a3⟩, ⟨d1, d2, d3⟩, o1, o2, o3, o4, o5⟩ := h
  have t5 := o5.top
  exact ⟨lo, hi, lp', hp', ll, hl, ⟨by omega, by omega, a3⟩, ⟨hdj, .inr (by omega), .inr (by omega)⟩, oy, o2.imp id (fun h => own_later h hb), o, own_later o4 hb, o5.later hb⟩
theorem slice_cap {n c : Nat} {A : Option Addr} {b : Nat} {e : TypeId} {k : Nat} {xs : List Value} (h : W.ownsRow b e k (.slice A n c) n xs) : n ≤ c ∧ c ≤ maxLen := by
  obtain ⟨_, _, e, h1, h2⟩ := own_slice h
  injection e with _ _ e
  subst e
  exact ⟨h1, h2⟩
theorem TOwn.bk (h : TOwn W s YB yn yd BB bn bd PB pn pd HB hn hd LB ln ld rows bs plan hs ls) (hl : bs.length = bn) : bn ≤ bd := by
  obtain ⟨ly, hy, lp, hp, ll, hl, _, _, o1, o2, o3, o4, o5⟩ := h
  rcases o2 with rfl | o2
  · simp at hl
    omega
  · exact (slice_cap o2).1
theorem TOwn.lk (h : TOwn W s YB yn yd BB bn bd PB pn pd HB hn hd LB ln ld rows bs plan hs ls) : ln ≤ ld := by
  obtain ⟨ly, hy, lp, hp, ll, hl, _, _, o1, o2, o3, o4, o5⟩ := h
  exact (slice_cap o5.row).1
/-- what is owned may be read -/
theorem TOwn.rd (h : TOwn W s YB yn yd BB bn bd PB pn pd HB hn hd LB ln ld rows bs plan hs ls) (l : TLow yn bn pn hn ln rows bs plan hs ls) : TrmRd W YB BB PB HB LB yn bn bd pn pd hn ln rows bs plan hs ls := by
  have hbd := h.bk l.bl
  obtain ⟨ly, hy, lp, hp, ll, hl, _, _, o1, o2, o3, o4, o5⟩ := h
  have c3 := slice_cap o3.row
  refine ⟨l.yl, o1.rd, by have := l.ym; omega, l.bl, ?_, by have := l.bm; omega, hbd, l.pl, o3.rd, by have := l.pm; omega, c3.1, by have := c3.2; unfold maxLen at this; omega, l.hl, own_rd o4, by have := l.hm; omega, l.ll, o5.rd, by have := l.lm; omega⟩
  rcases o2 with rfl | o2
  · exact rdV_nil_
  · exact own_rd o2
end
theorem own_outT {w w' : World} {lo p q : Nat} {e : TypeId} {size n : Nat} {v : Value} {xs : List Value} (h : w.ownsRow lo e size v n xs) (ho : Out p q w w') (hd : q ≤ lo) : w'.ownsRow lo e size v n xs :=
  ((OwnI.of h).out ho (.inr hd)).row
theorem boxesOk_cls {bs : List BoxV} (h : boxesOk bs = true) {i : Nat} (hi : i < bs.length) : 0 ≤ (bs[i]).f2 ∧ (bs[i]).f2 ≤ 3 := by
  have := (boxesOk_iff.1 h).1 _ (List.getElem_mem hi)
  simp only [bOk, Bool.and_eq_true, inI_iff] at this
  omega
theorem keepLd {w W : World} {q b k : Nat} {v1 v2 v3 v4 v5 v6 v7 v8 vb : Value} (h : Below w.heap.size w W) (lq : q < w.heap.size) (lb : b < w.heap.size) (c1 : w.cell? ⟨q, 1, none⟩ = some v1) (c2 : w.cell? ⟨q, 2, none⟩ = some v2) (c3 : w.cell? ⟨q, 3, none⟩ = some v3) (c4 : w.cell? ⟨q, 4, none⟩ = some v4) (c5 : w.cell? ⟨q, 5, none⟩ = some v5) (c6 : w.cell? ⟨q, 6, none⟩ = some v6) (c7 : w.cell? ⟨q, 7, none⟩ = some v7) (c8 : w.cell? ⟨q, 8, none⟩ = some v8) (cb : w.cell? ⟨b, k, none⟩ = some vb) :
    Below w.heap.size w W ∧ W.cell? ⟨q, 2, none⟩ = some v2 ∧ W.cell? ⟨q, 3, none⟩ = some v3 ∧ W.cell? ⟨q, 4, none⟩ = some v4 ∧ W.cell? ⟨q, 5, none⟩ = some v5 ∧ W.cell? ⟨q, 6, none⟩ = some v6 ∧ W.cell? ⟨q, 7, none⟩ = some v7 ∧ W.cell? ⟨q, 8, none⟩ = some v8 ∧ W.cell? ⟨b, k, none⟩ = some vb :=
  ⟨h, (h.cell (p := ⟨q, 2, none⟩) lq).trans c2, (h.cell (p := ⟨q, 3, none⟩) lq).trans c3, (h.cell (p := ⟨q, 4, none⟩) lq).trans c4, (h.cell (p := ⟨q, 5, none⟩) lq).trans c5, (h.cell (p := ⟨q, 6, none⟩) lq).trans c6, (h.cell (p := ⟨q, 7, none⟩) lq).trans c7, (h.cell (p := ⟨q, 8, none⟩) lq).trans c8, (h.cell (p := ⟨b, k, none⟩) lb).trans cb⟩
/-- a terminal and a truth value, in memory of the call's own -/
def TrmTwo (w : World) (yn bn : Nat) (bs : List BoxV) : Ending → World → Prop :=
  RVal fun u w' => ∃ (high y0 y1 y2 : Int) (YB : Option Addr) (yd : Nat) (BB : Option Addr) (bd : Nat) (PB : Option Addr) (pn pd : Nat) (HB : Option Addr) (hn hd : Nat) (LB : Option Addr) (ln ld : Nat) (rows : List (List Int)) (plan : List Int) (hs : List HoldV) (ls : List Int) (b : Bool),
    u = .tuple #[.agg #[.int .i64 high, .slice YB yn yd, .int .i64 y0, .int .i64 y1, .int .i64 y2, .slice BB bn bd, .slice PB pn pd, .slice HB hn hd, .slice LB ln ld], .bool b] ∧
      TOwn w' w.heap.size YB yn yd BB bn bd PB pn pd HB hn hd LB ln ld rows bs plan hs ls ∧ TLow yn bn pn hn ln rows bs plan hs ls ∧ Below w.heap.size w w'
end Go.Proofs.YtbkfhcbecejomaaGreat
end
section
/- A terminal in the making: its rows lie in blocks of their own types, so the reader and the struct itself lie elsewhere. -/
namespace Go.Proofs.YtbkfhcbecejomaaGreat
open Go Go.ChangeShapes Go.WideShapes Go.ChangeAt Go.RowKit
set_option linter.unusedVariables false
/-- the types of a terminal's rows -/
def rowT (t : TypeId) : Bool := t == 3 || t == 29 || t == 79 || t == 88
theorem rowT_ne {t : TypeId} (h : rowT t = false) : 3 ≠ t ∧ 29 ≠ t ∧ 79 ≠ t ∧ 88 ≠ t := by
  refine ⟨?_, ?_, ?_, ?_⟩ <;> rintro rfl <;> exact absurd h (by decide)
section
variable {W W' : World} {b base lo hi size n : Nat} {t e : TypeId} {v : Value} {xs cs : List Value}
theorem own_typ (h : W.ownsRow base e size v n xs) (hq : Blk W b t cs) (hne : e ≠ t) : v.ownBlock ≠ some b := by
  intro hu
  rcases h.2 with ⟨rfl, _⟩ | ⟨g1, cap, cur, rfl, _, hg1, _⟩
  · cases hu
  · obtain rfl : g1 = b := by simpa [Value.ownBlock] using hu
    unfold Blk at hq
    rw [hg1] at hq
    injection hq with hq
    injection hq with _ hq
    exact hne hq
theorem own_farT (h : W.ownsRow base e size v n xs) (hq : Blk W b t cs) (hne : e ≠ t) (hg : W.grownBy W' (some b)) : W'.ownsRow base e size v n xs := own_only h hg (own_typ h hq hne)
theorem ownI_farT (h : OwnI W lo hi e size v n xs) (hq : Blk W b t cs) (hne : e ≠ t) (hg : W.grownBy W' (some b)) : OwnI W' lo hi e size v n xs := ⟨own_farT h.row hq hne hg, h.lt, Nat.le_trans h.top hg.size⟩
theorem ownRR_farT {te ti : TypeId} {xss : List (List Value)} (h : OwnRR W lo hi te ti v xss) (hq : Blk W b t cs) (h1 : te ≠ t) (h2 : ti ≠ t) (hg : W.grownBy W' (some b)) : OwnRR W' lo hi te ti v xss := by
  obtain ⟨hs, k1, k2, k3⟩ := h
  refine ⟨hs, ownI_farT k1 hq h1 hg, fun i hi' => ?_, k3⟩
  obtain ⟨u, eu, hu, hne⟩ := k2 i hi'
  exact ⟨u, eu, ownI_farT hu hq h2 hg, hne⟩
/-- rows of numbers that may be read -/
def RowsZ (W : World) (v : Value) (xss : List (List Value)) : Prop :=
  ∃ hs : List Value, W.ownsRow 0 29 1 v xss.length hs ∧ ∀ i (h : i < xss.length), ∃ u, hs[i]? = some u ∧ W.ownsRow 0 3 1 u (xss[i]).length xss[i]
theorem RowsZ.far {xss : List (List Value)} (h : RowsZ W v xss) (hq : Blk W b t cs) (ht : rowT t = false) (hg : W.grownBy W' (some b)) : RowsZ W' v xss := by
  obtain ⟨t1, t2, _, _⟩ := rowT_ne ht
  obtain ⟨hs, h1, h2⟩ := h
  refine ⟨hs, own_farT h1 hq t2 hg, fun j hj => ?_⟩
  obtain ⟨a, ea, ha⟩ := h2 j hj
  exact ⟨a, ea, own_farT ha hq t1 hg⟩
theorem RowsZ.rd {A : Option Addr} {c : Nat} {xss : List (List Value)} (h : RowsZ W (.slice A n c) xss) : RdRR W A xss := by
  obtain ⟨hs, h1, h2⟩ := h
  obtain ⟨A', c', e, _, _⟩ := own_slice h1
  injection e with e1 e2 e3
  subst e1 e2
  have hl := h1.1
  rw [Nat.mul_one] at hl
  refine ⟨hs, hl, own_rd h1, fun i hi => ?_⟩
  obtain ⟨u, e, hu⟩ := h2 i hi
  obtain ⟨B, c2, rfl, hc1, hc2⟩ := own_slice hu
  exact ⟨B, c2, e, hc1, hc2, own_rd hu⟩
theorem OwnRR.rowsZ {xss : List (List Value)} (h : OwnRR W lo hi 29 3 v xss) : RowsZ W v xss := by
  obtain ⟨hs, h1, h2, _⟩ := h
  exact ⟨hs, own_base h1.row (Nat.zero_le _), fun i hi => by obtain ⟨u, e, hu, _⟩ := h2 i hi; exact ⟨u, e, own_base hu.row (Nat.zero_le _)⟩⟩
end
section
variable {W W' : World} {s : Nat} {YB BB PB HB LB : Option Addr} {yn yd bn bd pn pd hn hd ln ld : Nat} {rows : List (List Int)} {bs : List BoxV} {plan : List Int} {hs : List HoldV} {ls : List Int}
/-- a terminal's rows; the yard's rows, the plan and what has left lie apart from one another -/
def TI (W : World) (s : Nat) (YB : Option Addr) (yn yd : Nat) (BB : Option Addr) (bn bd : Nat) (PB : Option Addr) (pn pd : Nat) (HB : Option Addr) (hn hd : Nat) (LB : Option Addr) (ln ld : Nat) (rows : List (List Int)) (bs : List BoxV) (plan : List Int) (hs : List HoldV) (ls : List Int) : Prop :=
  ∃ ly hy lp hp ll hl : Nat, (s ≤ ly ∧ s ≤ lp ∧ s ≤ ll) ∧ ((hy ≤ lp ∨ hp ≤ ly) ∧ (hy ≤ ll ∨ hl ≤ ly) ∧ (hp ≤ ll ∨ hl ≤ lp)) ∧ OwnRR W ly hy 29 3 (.slice YB yn yd) (intss rows) ∧ (bs = [] ∨ W.ownsRow 0 79 5 (.slice BB bn bd) bn (boxs bs)) ∧ OwnI W lp hp 3 1 (.slice PB pn pd) pn (ints plan) ∧ W.ownsRow 0 88 2 (.slice HB hn hd) hn (holds hs) ∧ OwnI W ll hl 3 1 (.slice LB ln ld) ln (ints ls)
/-- a terminal's rows that may be read -/
def TE (W : World) (YB : Option Addr) (yn yd : Nat) (BB : Option Addr) (bn bd : Nat) (PB : Option Addr) (pn pd : Nat) (HB : Option Addr) (hn hd : Nat) (LB : Option Addr) (ln ld : Nat) (rows : List (List Int)) (bs : List BoxV) (plan : List Int) (hs : List HoldV) (ls : List Int) : Prop :=
  RowsZ W (.slice YB yn yd) (intss rows) ∧ (bs = [] ∨ W.ownsRow 0 79 5 (.slice BB bn bd) bn (boxs bs)) ∧ W.ownsRow 0 3 1 (.slice PB pn pd) pn (ints plan) ∧ W.ownsRow 0 88 2 (.slice HB hn hd) hn (holds hs) ∧ W.ownsRow 0 3 1 (.slice LB ln ld) ln (ints ls)
theorem TI.te (h : TI W s YB yn yd BB bn bd PB pn pd HB hn hd LB ln ld rows bs plan hs ls) : TE W YB yn yd BB bn bd PB pn pd HB hn hd LB ln ld rows bs plan hs ls := by
  obtain ⟨ly, hy, lp, hp, ll, hl, _, _, o1, o2, o3, o4, o5⟩ := h
  exact ⟨o1.rowsZ, o2, own_base o3.row (Nat.zero_le _), o4, own_base o5.row (Nat.zero_le _)⟩
theorem TI.far {b : Nat} {t : TypeId} {cs : List Value} (h : TI W s YB yn yd BB bn bd PB pn pd HB hn hd LB ln ld rows bs plan hs ls) (hq : Blk W b t cs) (ht : rowT t = false) (hg : W.grownBy W' (some b)) : TI W' s YB yn yd BB bn bd PB pn pd HB hn hd LB ln ld rows bs plan hs ls := by
  obtain ⟨t1, t2, t3, t4⟩ := rowT_ne ht
  obtain ⟨ly, hy, lp, hp, ll, hl, a, d, o1, o2, o3, o4, o5⟩ := h
  exact ⟨ly, hy, lp, hp, ll, hl, a, d, ownRR_farT o1 hq t2 t1 hg, o2.imp id (fun o2 => own_farT o2 hq t3 hg), ownI_farT o3 hq t1 hg, own_farT o4 hq t4 hg, ownI_farT o5 hq t1 hg⟩
theorem TE.far {b : Nat} {t : TypeId} {cs : List Value} (h : TE W YB yn yd BB bn bd PB pn pd HB hn hd LB ln ld rows bs plan hs ls) (hq : Blk W b t cs) (ht : rowT t = false) (hg : W.grownBy W' (some b)) : TE W' YB yn yd BB bn bd PB pn pd HB hn hd LB ln ld rows bs plan hs ls := by
  obtain ⟨t1, t2, t3, t4⟩ := rowT_ne ht
  obtain ⟨o1, o2, o3, o4, o5⟩ := h
  exact ⟨o1.far hq ht hg, o2.imp id (fun o2 => own_farT o2 hq t3 hg), own_farT o3 hq t1 hg, own_farT o4 hq t4 hg, own_farT o5 hq t1 hg⟩
theorem TI.later (h : TI W s YB yn yd BB bn bd PB pn pd HB hn hd LB ln ld rows bs plan hs ls) (hb : Below W.heap.size W W') : TI W' s YB yn yd BB bn bd PB pn pd HB hn hd LB ln ld rows bs plan hs ls := by
  obtain ⟨ly, hy, lp, hp, ll, hl, a, d, o1, o2, o3, o4, o5⟩ := h
  exact ⟨ly, hy, lp, hp, ll, hl, a, d, o1.later hb, o2.imp id (fun o2 => own_later o2 hb), o3.later hb, own_later o4 hb, o5.later hb⟩
theorem TE.rd (h : TE W YB yn yd BB bn bd PB pn pd HB hn hd LB ln ld rows bs plan hs ls) (l : TLow yn bn pn hn ln rows bs plan hs ls) : TrmRd W YB BB PB HB LB yn bn bd pn pd hn ln rows bs plan hs ls := by
  obtain ⟨o1, o2, o3, o4, o5⟩ := h
  have c2 : bn ≤ bd := by
    rcases o2 with rfl | o2
    · have := l.bl
      simp at this
      omega
    · exact (slice_cap o2).1
  have r2 : RdV W BB (boxs bs) := by
    rcases o2 with rfl | o2
    · exact .inl rfl
    · exact own_rd o2
  have c3 := slice_cap o3
  refine ⟨l.yl, o1.rd, by have := l.ym; omega, l.bl, r2, by have := l.bm; omega, c2, l.pl, own_rd o3, by have := l.pm; omega, c3.1, by have := c3.2; unfold maxLen at this; omega, l.hl, own_rd o4, by have := l.hm; omega, l.ll, own_rd o5, by have := l.lm; omega⟩
theorem TE.cap (h : TE W YB yn yd BB bn bd PB pn pd HB hn hd LB ln ld rows bs plan hs ls) : ln ≤ ld := (slice_cap h.2.2.2.2).1
theorem TOwn.ti (h : TOwn W s YB yn yd BB bn bd PB pn pd HB hn hd LB ln ld rows bs plan hs ls) : TI W s YB yn yd BB bn bd PB pn pd HB hn hd LB ln ld rows bs plan hs ls := by
  obtain ⟨ly, hy, lp, hp, ll, hl, a, d, o1, o2, o3, o4, o5⟩ := h
  exact ⟨ly, hy, lp, hp, ll, hl, a, d, o1, o2.imp id (fun o2 => own_base o2 (Nat.zero_le _)), o3, own_base o4 (Nat.zero_le _), o5⟩
/-- the first stack is replaced by another -/
theorem TI.stack0 (h : TI W s YB yn yd BB bn bd PB pn pd HB hn hd LB ln ld rows bs plan hs ls) (hl : rows.length = yn) (h0 : 0 < yn) (z : Int) :
    ∃ yb : Nat, YB = some ⟨yb, 0, none⟩ ∧ s ≤ yb ∧ (∃ u, (W.alloc (.cells (ints [z]).toArray 3)).cell? ⟨yb, 0, none⟩ = some u) ∧ (W.alloc (.cells (ints [z]).toArray 3)).frozen? ⟨yb, 0, none⟩ = false ∧ TE ((W.alloc (.cells (ints [z]).toArray 3)).setCell ⟨yb, 0, none⟩ (.slice (some ⟨W.heap.size, 0, none⟩) 1 1)) YB yn yd BB bn bd PB pn pd HB hn hd LB ln ld (rows.set 0 [z]) bs plan hs ls ∧ (∀ q t cs, Blk W q t cs → 29 ≠ t → q ≠ yb) := by
  obtain ⟨ly, hy, lp, hp, ll, hl', a, d, o1, o2, o3, o4, o5⟩ := h
  have hal : Below W.heap.size W (W.alloc (.cells (ints [z]).toArray 3)) := (Below.refl _ _).alloc (Nat.le_refl _) _
  have h1 : ∃ xs, OwnI W ly hy 29 1 (.slice YB yn yd) (intss rows).length xs := by
    obtain ⟨xs, h1, _⟩ := o1
    exact ⟨xs, h1⟩
  obtain ⟨xs, h1⟩ := h1
  have h10 : 0 < (intss rows).length := by rw [intss_len]; omega
  obtain ⟨g, c, B, c', hv, hg1, hg2, hc, hf, _, _, hput⟩ := o1.put h10
  injection hv with e1 e2 e3
  subst e1
  have hnew : (W.alloc (.cells (ints [z]).toArray 3)).ownsRow ly 3 1 (.slice (some ⟨W.heap.size, 0, none⟩) 1 1) (ints [z]).length (ints [z]) := own_of_blk (Blk.new W 3 (ints [z])) (Nat.le_trans hg1 (Nat.le_trans (Nat.le_of_lt hg2) h1.top)) rfl (by decide)
  obtain ⟨k1, _⟩ := hput _ _ _ (World.grownBy_alloc W _ _) hnew (.inr ⟨_, rfl, h1.top⟩)
  have er : (intss rows).set 0 (ints [z]) = intss (rows.set 0 [z]) := by simp [intss, List.map_set]
  rw [er] at k1
  have hO := own_later h1.row hal
  have hG := grown_set (W.alloc (.cells (ints [z]).toArray 3)) g 0 (.slice (some ⟨W.heap.size, 0, none⟩) 1 1)
  refine ⟨g, rfl, Nat.le_trans a.1 hg1, ⟨_, (hal.cell (p := ⟨g, 0, none⟩) (by have := h1.top; show g < _; omega)).trans hc⟩, (hal.frozen (p := ⟨g, 0, none⟩) (by have := h1.top; show g < _; omega)).trans hf, ⟨k1.rowsZ, o2.imp id (fun o2 => own_own_apart hO hG (own_later o2 hal) (by decide)), own_own_apart hO hG (own_base (own_later o3.row hal) (Nat.zero_le _)) (by decide), own_own_apart hO hG (own_later o4 hal) (by decide), own_own_apart hO hG (own_base (own_later o5.row hal) (Nat.zero_le _)) (by decide)⟩, fun q t cs hq hne e => ?_⟩
  exact own_typ h1.row hq hne (by rw [e]; rfl)
/-- one more in the plan -/
theorem TI.load1 (h : TI W s YB yn yd BB bn bd PB pn pd HB hn hd LB ln ld rows bs plan hs ls) {v' : Value} {x : Int} (ho : W'.ownsRow 0 3 1 v' (pn + 1) (ints plan ++ [.int .i64 x])) (hg : W.grownBy W' (Value.slice PB pn pd).ownBlock) :
    ∃ PB' pd', v' = .slice PB' (pn + 1) pd' ∧ TE W' YB yn yd BB bn bd PB' (pn + 1) pd' HB hn hd LB ln ld rows bs (plan ++ [x]) hs ls := by
  obtain ⟨ly, hy, lp, hp, ll, hl', a, ⟨d1, d2, d3⟩, o1, o2, o3, o4, o5⟩ := h
  have hO : Out lp hp W W' := out_of_grown hg (fun g e => ⟨(o3.row.lt g e).1, o3.lt g e⟩)
  obtain ⟨PB', pd', rfl, _, _⟩ := own_slice ho
  have ex : ints (plan ++ [x]) = ints plan ++ [.int .i64 x] := by simp [ints]
  exact ⟨PB', pd', rfl, (o1.out hO (by omega)).rowsZ, o2.imp id (fun o2 => own_own_apart o3.row hg o2 (by decide)), by rw [ex]; exact ho, own_own_apart o3.row hg o4 (by decide), own_base (o5.out hO (by omega)).row (Nat.zero_le _)⟩
/-- one more that has left -/
theorem TI.left1 (h : TI W s YB yn yd BB bn bd PB pn pd HB hn hd LB ln ld rows bs plan hs ls) {v' : Value} {x : Int} (ho : W'.ownsRow 0 3 1 v' (ln + 1) (ints ls ++ [.int .i64 x])) (hg : W.grownBy W' (Value.slice LB ln ld).ownBlock) :
    ∃ LB' ld', v' = .slice LB' (ln + 1) ld' ∧ TE W' YB yn yd BB bn bd PB pn pd HB hn hd LB' (ln + 1) ld' rows bs plan hs (ls ++ [x]) := by
  obtain ⟨ly, hy, lp, hp, ll, hl', a, ⟨d1, d2, d3⟩, o1, o2, o3, o4, o5⟩ := h
  have hO : Out ll hl' W W' := out_of_grown hg (fun g e => ⟨(o5.row.lt g e).1, o5.lt g e⟩)
  obtain ⟨LB', ld', rfl, _, _⟩ := own_slice ho
  have ex : ints (ls ++ [x]) = ints ls ++ [.int .i64 x] := by simp [ints]
  exact ⟨LB', ld', rfl, (o1.out hO (by omega)).rowsZ, o2.imp id (fun o2 => own_own_apart o5.row hg o2 (by decide)), own_base (o3.out hO (by omega)).row (Nat.zero_le _), own_own_apart o5.row hg o4 (by decide), by rw [ex]; exact ho⟩
/-- a block of another type is not the plan's -/
theorem TI.neP {b : Nat} {t : TypeId} {cs : List Value} (h : TI W s YB yn yd BB bn bd PB pn pd HB hn hd LB ln ld rows bs plan hs ls) (hq : Blk W b t cs) (hne : 3 ≠ t) : (Value.slice PB pn pd).ownBlock ≠ some b ∧ (Value.slice LB ln ld).ownBlock ≠ some b := by
  obtain ⟨ly, hy, lp, hp, ll, hl', a, d, o1, o2, o3, o4, o5⟩ := h
  exact ⟨own_typ o3.row hq hne, own_typ o5.row hq hne⟩
theorem TI.geP (h : TI W s YB yn yd BB bn bd PB pn pd HB hn hd LB ln ld rows bs plan hs ls) : (∀ b, (Value.slice PB pn pd).ownBlock = some b → s ≤ b) ∧ (∀ b, (Value.slice LB ln ld).ownBlock = some b → s ≤ b) := by
  obtain ⟨ly, hy, lp, hp, ll, hl', a, d, o1, o2, o3, o4, o5⟩ := h
  exact ⟨fun b e => Nat.le_trans a.2.1 (o3.row.lt b e).1, fun b e => Nat.le_trans a.2.2 (o5.row.lt b e).1⟩
theorem TI.base {s' : Nat} (h : TI W s YB yn yd BB bn bd PB pn pd HB hn hd LB ln ld rows bs plan hs ls) (hs' : s' ≤ s) : TI W s' YB yn yd BB bn bd PB pn pd HB hn hd LB ln ld rows bs plan hs ls := by
  obtain ⟨ly, hy, lp, hp, ll, hl', ⟨a1, a2, a3⟩, d, o⟩ := h
  exact ⟨ly, hy, lp, hp, ll, hl', ⟨by omega, by omega, by omega⟩, d, o⟩
theorem TI.rowP (h : TI W s YB yn yd BB bn bd PB pn pd HB hn hd LB ln ld rows bs plan hs ls) : W.ownsRow 0 3 1 (.slice PB pn pd) pn (ints plan) ∧ W.ownsRow 0 3 1 (.slice LB ln ld) ln (ints ls) := by
  obtain ⟨ly, hy, lp, hp, ll, hl', a, d, o1, o2, o3, o4, o5⟩ := h
  exact ⟨own_base o3.row (Nat.zero_le _), own_base o5.row (Nat.zero_le _)⟩
end
end Go.Proofs.YtbkfhcbecejomaaGreat
end
section
/- A ship that is drawn, valid. -/
namespace Go.Proofs.YtbkfhcbecejomaaGreat
open Go Go.ChangeShapes Go.WideShapes Go.ChangeAt Go.RowKit
set_option linter.unusedVariables false
set_option linter.unusedSimpArgs false
theorem odd_zero (g : Nat) (w : World) : Calls Tryz.prog 55 #[.pointer (some ⟨g, 0, none⟩), .int .i64 0] w fun e w' => e = .returned (.bool false) ∧ w = w' := by
  go_enter Tryz.func55, Tryz.ntmps55
  go_wp2_with fail
  go_ret
  exact ⟨rfl, rfl⟩
theorem onlyT_set {w w' : World} {g b i : Nat} {v : Value} (h : w.grownBy w' (some g)) (hb : w.heap.size ≤ b) : w.grownBy (w'.setCell ⟨b, i, none⟩ v) (some g) :=
  only_own h (row := some b) ⟨rfl, rfl, rfl, by simp [World.setCell], fun k _ hk => Below.heap_setCell w' ⟨b, i, none⟩ v k (by intro e; exact hk (by rw [e]))⟩ (fun b' e => by injection e with e; omega)
theorem Rdr.setT {w : World} {g q : Nat} (h : Rdr w g q) (b i : Nat) (v : Value) (hb : g < b) : Rdr (w.setCell ⟨b, i, none⟩ v) g q :=
  h.away (row := some b) ⟨rfl, rfl, rfl, by simp [World.setCell], fun k _ hk => Below.heap_setCell w ⟨b, i, none⟩ v k (by intro e; exact hk (by rw [e]))⟩ (fun b' e => by injection e with e; omega)
theorem outY_only {w w' : World} {g : Nat} (h : w.grownBy w' (some g)) : Out g (g + 1) w w' := out_of_grown h (fun _ e => by injection e with e; omega)
/-- a ship that was drawn; the reader has gone on -/
def HullDrawn (w : World) (g q : Nat) : Ending → World → Prop :=
  RVal fun u w' => ∃ f0 f1 f2 : Int, u = .agg #[.int .i64 f0, .int .i64 f1, .int .i64 f2] ∧ Rdr w' g (q + 3) ∧ w.grownBy w' (some g)
set_option maxHeartbeats 2000000 in
theorem l20Hull_any (g q : Nat) (w : World) (hr : Rdr w g q) (hq : q ≤ 800000000) :
    Calls Tryz.prog 50 #[.pointer (some ⟨g, 0, none⟩), .int .i64 0] w (HullDrawn w g q) := by
  have hlt := hr.lt
  have hal : Below w.heap.size w (w.alloc (.cells #[.int .i64 0, .int .i64 0, .int .i64 0] 27)) := (Below.refl _ _).alloc (Nat.le_refl _) _
  have hR0 : Blk (w.alloc (.cells #[.int .i64 0, .int .i64 0, .int .i64 0] 27)) w.heap.size 27 [.int .i64 0, .int .i64 0, .int .i64 0] := Blk.new _ _ _
  have hr0 := hr.kept hal
  have hg0 := only_below hal g
  go_enter Tryz.func50, Tryz.ntmps50
  go_wp2_with fail
  generalize w.alloc (.cells #[.int .i64 0, .int .i64 0, .int .i64 0] 27) = w0 at *
  refine (pick_any g q 4 _ hr0 (by omega) (by omega)).mono ?_
  rintro e w1 ⟨v1, rfl, _, hr1, hg1⟩
  have hR1 := hR0.only hg1 (by omega)
  have hG1 := only_trans hg0 hg1
  go_wp2_with fail
  refine (pick_any g (q + 1) 3 _ hr1 (by omega) (by omega)).mono ?_
  rintro e w2 ⟨v2, rfl, _, hr2, hg2⟩
  have hR2 := hR1.only hg2 (by omega)
  have hG2 := only_trans hG1 hg2
  go_wp2_with fail
  refine (pick_any g (q + 1 + 1) 3 _ hr2 (by omega) (by omega)).mono ?_
  rintro e w3 ⟨v3, rfl, _, hr3, hg3⟩
  have hR3 := hR2.only hg3 (by omega)
  have hG3 := only_trans hG2 hg3
  generalize wrap64 (1 + v1) = f0 at *
  generalize wrap64 (1 + v2) = f1 at *
  have hal4 : Below w3.heap.size w3 (w3.alloc (.cells #[.int .i64 f0, .int .i64 f1, .int .i64 (wrap64 (1 + v3))] 27)) := (Below.refl _ _).alloc (Nat.le_refl _) _
  have hH : Blk (w3.alloc (.cells #[.int .i64 f0, .int .i64 f1, .int .i64 (wrap64 (1 + v3))] 27)) w3.heap.size 27 [.int .i64 f0, .int .i64 f1, .int .i64 (wrap64 (1 + v3))] := Blk.new _ _ _
  have hR4 := hR3.later hal4
  have hG4 := only_trans hG3 (only_below hal4 g)
  have hr4 := hr3.kept hal4
  clear hal hR0 hr0 hg0 hg1 hR1 hG1 hg2 hR2 hG2 hr1 hr2 hg3 hR3 hG3 hal4 hr3
  go_wp2_with fail
  generalize w3.alloc (.cells #[.int .i64 f0, .int .i64 f1, .int .i64 (wrap64 (1 + v3))] 27) = w4 at *
  generalize wrap64 (1 + v3) = f2 at *
  refine (odd_zero g w4).mono ?_
  rintro e w5 ⟨rfl, rfl⟩
  have c0 := hH.cellAt 0 (by simp)
  have c1 := hH.cellAt 1 (by simp)
  have c2 := hH.cellAt 2 (by simp)
  have z0 := hR4.cellAt 0 (by simp)
  have z1 := (hR4.set_ 0 (.int .i64 f0)).cellAt 1 (by simp)
  have z2 := ((hR4.set_ 0 (.int .i64 f0)).set_ 1 (.int .i64 f1)).cellAt 2 (by simp)
  have q0 := hR4.frozen 0
  have q1 := (hR4.set_ 0 (.int .i64 f0)).frozen 1
  have q2 := ((hR4.set_ 0 (.int .i64 f0)).set_ 1 (.int .i64 f1)).frozen 2
  have hE := ((hR4.set_ 0 (.int .i64 f0)).set_ 1 (.int .i64 f1)).set_ 2 (.int .i64 f2)
  have e0 := hE.cellAt 0 (by simp)
  have e1 := hE.cellAt 1 (by simp)
  have e2 := hE.cellAt 2 (by simp)
  simp only [List.set_cons_zero, List.set_cons_succ, List.getElem_cons_zero, List.getElem_cons_succ] at c0 c1 c2 z0 z1 z2 e0 e1 e2
  go_wp2_with fail
  refine bodyPost_ret (v := .agg #[.int .i64 f0, .int .i64 f1, .int .i64 f2]) (by simp [results, Tryz.results50, go_sem, e0, e1, e2]) rfl ?_
  refine RVal.mk ⟨f0, f1, f2, rfl, ?_, ?_⟩
  · exact ((hr4.setT w.heap.size 0 _ (by omega)).setT w.heap.size 1 _ (by omega)).setT w.heap.size 2 _ (by omega)
  · exact onlyT_set (onlyT_set (onlyT_set hG4 (Nat.le_refl _)) (Nat.le_refl _)) (Nat.le_refl _)
end Go.Proofs.YtbkfhcbecejomaaGreat
end
section
/- Ships: how far two slots are apart, the reference. -/
namespace Go.Proofs.YtbkfhcbecejomaaGreat
open Go Go.ChangeShapes Go.WideShapes Go.ChangeAt Go.RowKit
set_option linter.unusedVariables false
set_option maxHeartbeats 2000000 in
theorem specApartOf (x : HullV) (a b : Int) (w : World) (hh : hullOk x = true) (ha : 0 ≤ a ∧ a < slotsH x) (hb : 0 ≤ b ∧ b < slotsH x) : Calls Tryz.prog 68 #[.agg #[.int .i64 x.f0, .int .i64 x.f1, .int .i64 x.f2], .int .i64 a, .int .i64 b] w fun e w' => e = .returned (.int .i64 (apartH x a b)) ∧ Below w.heap.size w w' := by
  obtain ⟨y0, y1, y2⟩ := x
  have hle := slots_le hh
  have hA := fun W => specPlaceOf ⟨y0, y1, y2⟩ a W hh ha.1 ha.2
  have hB := fun W => specPlaceOf ⟨y0, y1, y2⟩ b W hh hb.1 hb.2
  obtain ⟨⟨a1, a2⟩, ⟨b1, b2⟩, c1, c2⟩ := hullOk_iff.1 hh
  have HR : Hid (apartH ⟨y0, y1, y2⟩ a b = if (a / y2 / y1 = b / y2 / y1 ∧ a / y2 % y1 = b / y2 % y1) then 0 else if a / y2 / y1 = b / y2 / y1 then 1 else if a / y2 / y1 - b / y2 / y1 = 1 ∨ a / y2 / y1 - b / y2 / y1 = -1 then 2 else 3) := Lib.hid (by
    unfold apartH
    dsimp only
    simp only [stack_iff])
  dsimp only at *
  have pa := Int.ediv_nonneg ha.1 (show 0 ≤ y2 by omega)
  have pb := Int.ediv_nonneg hb.1 (show 0 ≤ y2 by omega)
  have pc := Int.ediv_nonneg pa (show 0 ≤ y1 by omega)
  have pd := Int.ediv_nonneg pb (show 0 ≤ y1 by omega)
  have qa := Int.ediv_le_self y2 ha.1
  have qb := Int.ediv_le_self y2 hb.1
  have qc := Int.ediv_le_self y1 pa
  have qd := Int.ediv_le_self y1 pb
  have ua : a / y2 / y1 ≤ 36 := by omega
  have ub : b / y2 / y1 ≤ 36 := by omega
  generalize a / y2 / y1 = ba at *
  generalize b / y2 / y1 = bb at *
  generalize a / y2 % y1 = ra at *
  generalize b / y2 % y1 = rb at *
  generalize a % y2 = ta at *
  generalize b % y2 = tb at *
  clear qa qb qc qd pa pb hle ha hb
  have K0 := hulNew w y0 y1 y2
  go_enter Tryz.func68, Tryz.ntmps68
  go_wp2_with fail
  refine (hA _).mono ?_
  rintro e w3 ⟨rfl, h3⟩
  have k3 := hulKeep K0 h3
  obtain ⟨v1, v2, v3, v4, v5⟩ := k3
  have K3 := Lib.hid v1
  clear v1 h3 hA K0
  go_wp2_with fail
  refine (hB _).mono ?_
  rintro e w4 ⟨rfl, h4⟩
  have Z1 := Lib.hid (below_trans K3.out h4)
  clear h4 hB v3 v4 v5
  have wr : IntKind.i64.wrap (ba - bb) = ba - bb := by
    rw [IntKind.wrap_i64]
    omega
  have wr2 : IntKind.i64.wrap (bb - ba) = bb - ba := by
    rw [IntKind.wrap_i64]
    omega
  have g6 : decide (ba < 0) = false := decide_eq_false (by omega)
  have g7 : decide (bb < 0) = false := decide_eq_false (by omega)
  by_cases e2 : ba = bb
  · subst e2
    by_cases e1 : ra = rb
    · subst e1
      have H1 : Hid (apartH ⟨y0, y1, y2⟩ a b = 0) := Lib.hid (by rw [HR.out, if_pos ⟨rfl, rfl⟩])
      clear HR
      go_wp2_with fail
      go_ret
      exact ⟨by rw [H1.out]; rfl, Z1.out⟩
    · have H1 : Hid (apartH ⟨y0, y1, y2⟩ a b = 1) := Lib.hid (by rw [HR.out, if_neg (fun h => e1 h.2), if_pos rfl])
      have g1 : (ra == rb) = false := by simp [e1]
      have g2 : decide (ra = rb) = false := decide_eq_false e1
      clear HR
      go_wp2_with fail
      go_ret
      exact ⟨by rw [H1.out]; rfl, Z1.out⟩
  · have g3 : (ba == bb) = false := by simp [e2]
    have g4 : decide (ba = bb) = false := decide_eq_false e2
    by_cases e3 : ba - bb = 1
    · have H1 : Hid (apartH ⟨y0, y1, y2⟩ a b = 2) := Lib.hid (by rw [HR.out, if_neg (fun h => e2 h.1), if_neg e2, if_pos (.inl e3)])
      clear HR
      rw [e3] at wr
      have e5 : ¬ (bb - ba = 1) := by omega
      go_wp2_with fail
      go_ret
      exact ⟨by rw [H1.out]; rfl, Z1.out⟩
    · by_cases e4 : bb - ba = 1
      · have H1 : Hid (apartH ⟨y0, y1, y2⟩ a b = 2) := Lib.hid (by rw [HR.out, if_neg (fun h => e2 h.1), if_neg e2, if_pos (.inr (by omega))])
        clear HR
        go_wp2_with fail
        go_ret
        exact ⟨by rw [H1.out]; rfl, Z1.out⟩
      · have H1 : Hid (apartH ⟨y0, y1, y2⟩ a b = 3) := Lib.hid (by rw [HR.out, if_neg (fun h => e2 h.1), if_neg e2, if_neg (by omega)])
        clear HR
        have g1 : (ba - bb == 1) = false := by simp [e3]
        have g2 : (bb - ba == 1) = false := by simp [e4]
        go_wp2_with fail
        go_ret
        exact ⟨by rw [H1.out]; rfl, Z1.out⟩
end Go.Proofs.YtbkfhcbecejomaaGreat
end
section
/- The class of a box that is known, the program. -/
namespace Go.Proofs.YtbkfhcbecejomaaGreat
open Go Go.ChangeShapes Go.WideShapes Go.ChangeAt Go.RowKit
set_option linter.unusedVariables false
theorem hasF_find {zs : List BoxV} {id : Int} (h : hasF zs id = true) : ∃ (i : Nat) (hi : i < zs.length), findF zs id = some i ∧ clsB zs id = zs[i].f2 := by
  cases hq : findF zs id with
  | none =>
    rw [findF_none] at hq
    obtain ⟨x, hx, e⟩ := hasF_iff.1 h
    exact absurd e (hq x hx)
  | some i =>
    obtain ⟨hi, _, h2⟩ := findF_some hq
    exact ⟨i, hi, rfl, by rw [clsB, h2]⟩
set_option maxHeartbeats 1000000 in
theorem implClassAt (A : Option Addr) (n c : Nat) (zs : List BoxV) (id : Int) (w : World) (hn : zs.length = n) (hr : RdV w A (boxs zs)) (hm : n ≤ 9223372036854775806) (hf : hasF zs id = true) :
    Calls Tryz.prog 40 #[.slice A n c, .int .i64 id] w fun e w' => e = .returned (.int .i64 (clsB zs id)) ∧ Below w.heap.size w w' := by
  obtain ⟨i, hi, e1, e2⟩ := hasF_find hf
  have hb := fun W => boxAt_any A n c zs id W hn
  rw [e2]
  clear e2
  go_enter Tryz.func40, Tryz.ntmps40
  go_wp2_with fail
  refine (boxAt_any A n c zs id _ hn hr hm).mono ?_
  rintro e w3 ⟨rfl, b3⟩
  obtain ⟨b, o, rfl, hl, _, _, hc, _⟩ := (hr.below b3).boxAt hi
  rw [e1]
  clear hb
  generalize hv : zs[i].f2 = v at *
  have HV := Lib.hid hv
  clear hv
  have hi2 : (i : Int) < (n : Int) := by omega
  have B3 := Lib.hid b3
  clear b3 e1 hf
  dsimp only [idxI]
  go_wp2_with fail
  go_ret
  exact ⟨by rw [HV.out]; rfl, B3.out⟩
set_option maxHeartbeats 1000000 in
theorem specL11Class (A PA : Option Addr) (n c pn pc k : Nat) (zs : List BoxV) (plan : List Int) (w : World) (hn : zs.length = n) (hr : RdV w A (boxs zs)) (hm : n ≤ 9223372036854775806) (hp : RdV w PA (ints plan)) (hpn : plan.length = pn) (hk : k < plan.length) (hf : plan.getD k 0 ≠ 0 → hasF zs (plan.getD k 0) = true) :
    Calls Tryz.prog 70 #[.slice A n c, .slice PA pn pc, .int .i64 k] w fun e w' => e = .returned (.int .i64 (clsP zs plan k)) ∧ Below w.heap.size w w' := by
  obtain ⟨pb, po, rfl, hl1, hc1⟩ := hp.pos (k := k) (by rw [ints_len]; exact hk)
  have hcell : w.cell? ⟨pb, po + k, none⟩ = some (.int .i64 plan[k]) := by rw [hc1 k (by rw [ints_len]; exact hk), ints_at]
  have hki : (k : Int) < (pn : Int) := by omega
  have hg : plan.getD k 0 = plan[k] := by simp [List.getD, hk]
  rw [hg] at hf
  have HV : Hid (clsP zs plan k = if plan[k] = 0 then 0 else clsB zs plan[k]) := Lib.hid (by unfold clsP; rw [hg])
  clear hc1 hg
  generalize plan[k] = id at *
  by_cases h0 : id = 0
  · have HZ : Hid (clsP zs plan k = 0) := Lib.hid (by rw [HV.out, if_pos h0])
    clear HV hf
    subst h0
    go_enter Tryz.func70, Tryz.ntmps70
    go_wp2_with fail
    go_ret
    exact ⟨by rw [HZ.out]; rfl, Below.refl _ _⟩
  · obtain ⟨i, hi, e1, e2⟩ := hasF_find (hf h0)
    have HW : Hid (clsP zs plan k = zs[i].f2) := Lib.hid (by rw [HV.out, if_neg h0, e2])
    obtain ⟨b, o, rfl, hl, _, _, hc, _⟩ := hr.boxAt hi
    clear HV e2 hf
    generalize hv : zs[i].f2 = v at *
    clear hv
    have hi2 : (i : Int) < (n : Int) := by omega
    go_enter Tryz.func70, Tryz.ntmps70
    go_wp2_with fail
    refine (l2Find_any (some ⟨b, o, none⟩) n c zs id _ hn hr hm).mono ?_
    rintro e w3 ⟨rfl, rfl⟩
    rw [e1]
    dsimp only [idxI]
    go_wp2_with fail
    go_ret
    exact ⟨by rw [HW.out]; rfl, Below.refl _ _⟩
end Go.Proofs.YtbkfhcbecejomaaGreat
end
