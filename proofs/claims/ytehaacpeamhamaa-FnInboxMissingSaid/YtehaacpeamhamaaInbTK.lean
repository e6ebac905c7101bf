/- The reference's taking of a message. -/
import Derived.Test.YtehaacpeamhamaaQueM
import Derived.Test.YtehaacpeamhamaaInbLP
namespace Go.Proofs.Ytehaacpeamhamaa
open Go Go.ChangeShapes Go.WideShapes Go.ChangeAt Go.RowKit
section
variable {w w' : World} {lo hi : Nat} {A : Option Addr} {n c : Nat} {zs : List MessageV}
theorem QueM.grown {row : Option Nat} (h : QueM w lo hi A n c zs) (hg : w.grownBy w' row) (hr : ∀ g, row = some g → g < lo ∨ hi ≤ g) : QueM w' lo hi A n c zs := by
  obtain ⟨h1, h2, h3, ht, hn | ⟨g, d, rfl, hl, hh, hc, hf⟩⟩ := h
  · exact ⟨h1, h2, h3, Nat.le_trans ht hg.size, .inl hn⟩
  · have hb := hg.block g (by omega) (fun e => by have := hr g e.symm; omega)
    have hcc : ∀ i, w'.cell? ⟨g, i, none⟩ = w.cell? ⟨g, i, none⟩ := fun i => World.cell?_of_block hb
    have hff : ∀ i, w'.frozen? ⟨g, i, none⟩ = w.frozen? ⟨g, i, none⟩ := fun i => World.frozen?_of_block hb
    exact ⟨h1, h2, h3, Nat.le_trans ht hg.size, .inr ⟨g, d, rfl, hl, hh, fun j hj => (hcc _).trans (hc j hj), fun j hj hj2 => by rw [hcc, hff]; exact hf j hj hj2⟩⟩
/-- the head of the list, and what is behind it -/
theorem QueM.head {x : MessageV} {r : List MessageV} (h : QueM w lo hi A n c (x :: r)) :
    ∃ g d m, A = some ⟨g, d, none⟩ ∧ n = m + 1 ∧ lo ≤ g ∧ g < hi ∧ w.cell? ⟨g, d, none⟩ = some (.int .i64 x.f0) ∧ w.cell? ⟨g, d + 1, none⟩ = some (.int .i64 x.f1) ∧
      QueM w lo hi (if c = 1 then A else some ⟨g, d + 2, none⟩) m (c - 1) r ∧ m < c := by
  obtain ⟨h1, h2, h3, ht, ⟨rfl, rfl⟩ | ⟨g, d, rfl, hl, hh, hc, hf⟩⟩ := h
  · simp at h1; omega
  · obtain ⟨m, rfl⟩ : ∃ m, n = m + 1 := ⟨r.length, by simpa using h1.symm⟩
    have hr : r.length = m := by simpa using h1
    have e : messages (x :: r) = [.int .i64 x.f0, .int .i64 x.f1] ++ messages r := rfl
    have hml := messages_len r
    have c0 := hc 0 (by rw [e]; simp)
    have c1 := hc 1 (by rw [e]; simp)
    refine ⟨g, d, m, rfl, rfl, hl, hh, c0, c1, ?_, by omega⟩
    by_cases hc1 : c = 1
    · subst hc1
      obtain rfl : m = 0 := by omega
      obtain rfl : r = [] := List.eq_nil_of_length_eq_zero hr
      rw [if_pos rfl]
      exact ⟨rfl, by omega, by omega, ht, .inr ⟨g, d, rfl, hl, hh, fun j hj => by simp [messages, cellsOf] at hj, fun j _ hj => by omega⟩⟩
    · rw [if_neg hc1]
      refine ⟨hr, by omega, by omega, ht, .inr ⟨g, d + 2, rfl, hl, hh, fun j hj => ?_, fun j hj hj2 => ?_⟩⟩
      · have hlt : 2 + j < (messages (x :: r)).length := by rw [e, List.length_append]; simp only [List.length_cons, List.length_nil]; omega
        have := hc (2 + j) hlt
        rw [show d + 2 + j = d + (2 + j) from by omega, this, ← List.getElem?_eq_getElem hlt, e, List.getElem?_append_right (by simp)]
        simp only [List.length_cons, List.length_nil, Nat.zero_add, Nat.add_sub_cancel_left]
        rw [List.getElem?_eq_getElem hj]
      · have := hf (2 + j) (by omega) (by omega)
        rw [show d + 2 + j = d + (2 + j) from by omega]
        exact this
end
theorem own_out {w w' : World} {lo hi base : Nat} {e : TypeId} {size n : Nat} {v : Value} {xs : List Value} (h : w.ownsRow base e size v n xs) (ho : Out lo hi w w') (hd : ∀ g, v.ownBlock = some g → g < lo ∨ hi ≤ g) : w'.ownsRow base e size v n xs := by
  refine ⟨h.1, ?_⟩
  rcases h.2 with hn | ⟨g, cap, cur, rfl, hb, hg, rest⟩
  · exact .inl hn
  · exact .inr ⟨g, cap, cur, rfl, hb, (ho.block g (Array.getElem?_eq_some_iff.1 hg).1 (hd g rfl)).trans hg, rest⟩
theorem Blk.offO {w w' : World} {g lo hi : Nat} {t : TypeId} {cs : List Value} (h : Blk w g t cs) (ho : Out lo hi w w') (hd : g < lo ∨ hi ≤ g) : Blk w' g t cs := (ho.block g h.lt hd).trans h
theorem Blk.offG {w w' : World} {g : Nat} {row : Option Nat} {t : TypeId} {cs : List Value} (h : Blk w g t cs) (hg : w.grownBy w' row) (hd : ∀ b, row = some b → b ≠ g) : Blk w' g t cs := (hg.block g h.lt (fun e => hd g e.symm rfl)).trans h
def slLen : Value → Nat
  | .slice _ n _ => n
  | _ => 0
/-- the run goes on at the head of the rest -/
def RunAt (next : Int) (held : List MessageV) (nx : Int) (rest : List MessageV) (xs : List Int) : Prop :=
  runM (next + 1) held = ((runM nx rest).1, (runM nx rest).2.1, xs ++ (runM nx rest).2.2)
theorem runAt_start (next : Int) (held : List MessageV) : RunAt next held (next + 1) held [] := rfl
theorem runAt_hit {next nx : Int} {held r : List MessageV} {x : MessageV} {xs : List Int} (h : RunAt next held nx (x :: r) xs) (hx : x.f0 = nx) : RunAt next held (nx + 1) r (xs ++ [x.f1]) := by
  unfold RunAt at *
  rw [h, runM_hit hx]
  simp
theorem runAt_miss {next nx : Int} {held r : List MessageV} {x : MessageV} {xs : List Int} (h : RunAt next held nx (x :: r) xs) (hx : x.f0 ≠ nx) : runM (next + 1) held = (nx, x :: r, xs) := by
  unfold RunAt at h
  rw [h, runM_miss hx]
  simp
theorem runAt_end {next nx : Int} {held : List MessageV} {xs : List Int} (h : RunAt next held nx [] xs) : runM (next + 1) held = (nx, [], xs) := by
  unfold RunAt at h
  rw [h, runM]
  simp
theorem takeI_far' {next nx : Int} {held rest : List MessageV} {xs : List Int} {x1 : Int} (h : inbOk next held = true) (h1 : 1 ≤ x1 ∧ x1 ≤ 999) (hr : runM (next + 1) held = (nx, rest, xs)) (h3 : 999 < nx) : takeI next held ⟨next, x1⟩ = ⟨next, held, []⟩ :=
  takeI_far h h1 rfl (by rw [hr]; exact h3)
theorem takeI_run' {next nx : Int} {held rest : List MessageV} {xs : List Int} {x1 : Int} (h : inbOk next held = true) (h1 : 1 ≤ x1 ∧ x1 ≤ 999) (hr : runM (next + 1) held = (nx, rest, xs)) (h3 : ¬ 999 < nx) : takeI next held ⟨next, x1⟩ = ⟨nx, rest, x1 :: xs⟩ := by
  rw [takeI_run h h1 rfl (by rw [hr]; exact h3), hr]
theorem Below.drewN_ (w : World) (n : Nat) : Below w.heap.size w (w.drewN n) := ⟨rfl, rfl, rfl, Nat.le_refl _, fun _ _ => rfl⟩
/-- an inbox and ids in memory of the call's own -/
def TakeOut (w : World) (t : TakeV) : Ending → World → Prop :=
  RVal fun u w' => ∃ A n c o, u = .tuple #[.agg #[.int .i64 t.next, .slice A n c], o] ∧ QueM w' w.heap.size w'.heap.size A n c t.held ∧ w'.ownsRow w.heap.size 3 1 o t.ids.length (ints t.ids) ∧ Below w.heap.size w w'
theorem takeOut_fin {w W : World} {lo hi n c R : Nat} {A : Option Addr} {o : Value} {next : Int} {held : List MessageV} {ids : List Int} {t : TakeV} (ht : t = ⟨next, held, ids⟩)
    (hB : Below w.heap.size w W) (hR : R = w.heap.size + 2) (hq : QueM W lo hi A n c held) (hlo : w.heap.size + 3 ≤ lo) (ho : W.ownsRow (w.heap.size + 3) 3 1 o ids.length (ints ids)) :
    TakeOut w t (.returned (.tuple #[.agg #[.int .i64 next, .slice A n c], o])) ((W.setCell ⟨R, 0, none⟩ (.int .i64 next)).setCell ⟨R, 1, none⟩ (.slice A n c)) := by
  subst ht hR
  have hO : Out (w.heap.size + 2) (w.heap.size + 3) W ((W.setCell ⟨w.heap.size + 2, 0, none⟩ (.int .i64 next)).setCell ⟨w.heap.size + 2, 1, none⟩ (.slice A n c)) :=
    out_set (out_set (Out.refl _ _ _) _ _ _ (by omega) (by omega)) _ _ _ (by omega) (by omega)
  have hq2 := hq.out hO (.inr hlo)
  have hhi : hi ≤ ((W.setCell ⟨w.heap.size + 2, 0, none⟩ (.int .i64 next)).setCell ⟨w.heap.size + 2, 1, none⟩ (.slice A n c)).heap.size := hq2.2.2.2.1
  refine RVal.mk ⟨A, n, c, o, rfl, hq2.wide (by omega) hhi (Nat.le_refl _), ?_, below_out hB hO (by omega)⟩
  exact own_base ((OwnI.of ho).out hO (.inr (Nat.le_refl _))).row (by omega)
set_option maxHeartbeats 8000000 in
theorem specInboxTake (next : Int) (A : Option Addr) (n c : Nat) (held : List MessageV) (x0 x1 : Int) (w : World) (hn : held.length = n) (hc : n ≤ c) (hr : RdV w A (messages held)) (hm : n ≤ 1048576) :
    Calls Try.prog 25 #[.agg #[.int .i64 next, .slice A n c], .agg #[.int .i64 x0, .int .i64 x1]] w (TakeOut w (takeI next held ⟨x0, x1⟩)) := by
  have HN := Lib.hid hn
  clear hn
  have hP : Blk ((((w.alloc (.cells #[.int .i64 next, .slice A n c] 25)).alloc (.cells #[.int .i64 x0, .int .i64 x1] 35)).alloc (.cells #[.int .i64 0, .slice none 0 0] 25)).alloc (.cells #[] 3)) w.heap.size 25 [.int .i64 next, .slice A n c] := (((Blk.new _ _ _).alloc _).alloc _).alloc _
  have hM : Blk ((((w.alloc (.cells #[.int .i64 next, .slice A n c] 25)).alloc (.cells #[.int .i64 x0, .int .i64 x1] 35)).alloc (.cells #[.int .i64 0, .slice none 0 0] 25)).alloc (.cells #[] 3)) (w.heap.size + 1) 35 [.int .i64 x0, .int .i64 x1] := by
    have := ((Blk.new (w.alloc (.cells #[.int .i64 next, .slice A n c] 25)) 35 [.int .i64 x0, .int .i64 x1]).alloc (.cells #[.int .i64 0, .slice none 0 0] 25)).alloc (.cells #[] 3)
    simpa using this
  have hR : Blk ((((w.alloc (.cells #[.int .i64 next, .slice A n c] 25)).alloc (.cells #[.int .i64 x0, .int .i64 x1] 35)).alloc (.cells #[.int .i64 0, .slice none 0 0] 25)).alloc (.cells #[] 3)) (w.heap.size + 2) 25 [.int .i64 0, .slice none 0 0] := by
    have := (Blk.new ((w.alloc (.cells #[.int .i64 next, .slice A n c] 25)).alloc (.cells #[.int .i64 x0, .int .i64 x1] 35)) 25 [.int .i64 0, .slice none 0 0]).alloc (.cells #[] 3)
    simpa using this
  have hO : OwnI ((((w.alloc (.cells #[.int .i64 next, .slice A n c] 25)).alloc (.cells #[.int .i64 x0, .int .i64 x1] 35)).alloc (.cells #[.int .i64 0, .slice none 0 0] 25)).alloc (.cells #[] 3)) (w.heap.size + 3) (w.heap.size + 4) 3 1 (.slice (some ⟨w.heap.size + 3, 0, none⟩) 0 0) 0 (ints []) := by
    refine ⟨own_of_blk (cs := []) ?_ (Nat.le_refl _) rfl (by decide), fun g e => by simp [Value.ownBlock] at e; omega, by simp⟩
    have := Blk.new (((w.alloc (.cells #[.int .i64 next, .slice A n c] 25)).alloc (.cells #[.int .i64 x0, .int .i64 x1] 35)).alloc (.cells #[.int .i64 0, .slice none 0 0] 25)) 3 []
    simpa using this
  have hB : Below w.heap.size w ((((w.alloc (.cells #[.int .i64 next, .slice A n c] 25)).alloc (.cells #[.int .i64 x0, .int .i64 x1] 35)).alloc (.cells #[.int .i64 0, .slice none 0 0] 25)).alloc (.cells #[] 3)) := ((((Below.refl _ _).alloc (Nat.le_refl _) _).alloc (by simp) _).alloc (by simp; omega) _).alloc (by simp; omega) _
  have hsz : ((((w.alloc (.cells #[.int .i64 next, .slice A n c] 25)).alloc (.cells #[.int .i64 x0, .int .i64 x1] 35)).alloc (.cells #[.int .i64 0, .slice none 0 0] 25)).alloc (.cells #[] 3)).heap.size = w.heap.size + 4 := by simp
  go_enter Try.func25, Try.ntmps25
  go_wp2_with fail
  generalize (((w.alloc (.cells #[.int .i64 next, .slice A n c] 25)).alloc (.cells #[.int .i64 x0, .int .i64 x1] 35)).alloc (.cells #[.int .i64 0, .slice none 0 0] 25)).alloc (.cells #[] 3) = w0 at *
  have hz0 : w.heap.size + 4 ≤ w0.heap.size := by omega
  clear hsz
  refine (specInboxValid next A n c held _ HN.out (hr.below hB) (by omega)).mono ?_
  rintro e w1 ⟨rfl, hb1⟩
  have P1 := hP.later hb1
  have M1 := hM.later hb1
  have R1 := hR.later hb1
  have O1 := hO.later hb1
  have B1 := below_trans hB hb1
  have hz1 : w.heap.size + 4 ≤ w1.heap.size := Nat.le_trans hz0 hb1.size
  clear hP hM hR hO hB hb1 hz0
  cases hok : inbOk next held with
  | false =>
    have HT := Lib.hid (takeI_bad (m := ⟨x0, x1⟩) hok)
    have r0 := R1.cellAt 0 (by simp)
    have r1 := R1.cellAt 1 (by simp)
    have f0 := R1.frozen 0
    have f1 := R1.frozen 1
    simp only [List.getElem_cons_zero, List.getElem_cons_succ] at r0 r1
    clear hok
    go_wp2_with fail
    refine bodyPost_ret (v := .tuple #[.agg #[.int .i64 0, .slice none 0 0], .slice (some ⟨w.heap.size + 3, 0, none⟩) 0 0]) (by simp [results, Try.results25, go_sem, *]) rfl ?_
    exact takeOut_fin (lo := w.heap.size + 3) (hi := w.heap.size + 3) HT.out B1 rfl ⟨rfl, Nat.le_refl _, by decide, by omega, .inl ⟨rfl, rfl⟩⟩ (Nat.le_refl _) O1.row
  | true =>
    have HOK := Lib.hid hok
    obtain ⟨hn1, hn9, hgo⟩ := inbOk_bounds hok
    have HLN := inbOk_len hok
    have hn6 : n ≤ 6 := by rw [← HN.out]; exact HLN
    clear hok hgo HLN
    have p0 := P1.cellAt 0 (by simp)
    have p1 := P1.cellAt 1 (by simp)
    simp only [List.getElem_cons_zero, List.getElem_cons_succ] at p0 p1
    go_wp2_with fail
    refine (l29Copy_any next A n c held _ HN.out (hr.below B1) (by omega)).mono ?_
    rintro e w2 ⟨_, rfl, NA, nc, rfl, N2, hb2⟩
    have P2 := P1.later hb2
    have M2 := M1.later hb2
    have R2 := R1.later hb2
    have O2 := O1.later hb2
    have B2 := below_trans B1 hb2
    have hz2 : w1.heap.size ≤ w2.heap.size := hb2.size
    have Q2 : QueM w2 w1.heap.size w2.heap.size NA n nc held := N2.queM
    have hal : Below w2.heap.size w2 (w2.alloc (.cells #[.int .i64 next, .slice NA n nc] 25)) := (Below.refl _ _).alloc (Nat.le_refl _) _
    have N3 : Blk (w2.alloc (.cells #[.int .i64 next, .slice NA n nc] 25)) w2.heap.size 25 [.int .i64 next, .slice NA n nc] := Blk.new _ _ _
    have P3 := P2.later hal
    have M3 := M2.later hal
    have R3 := R2.later hal
    have O3 := O2.later hal
    have B3 := below_trans B2 hal
    have Q3 := Q2.later hal
    have hz3 : w2.heap.size + 1 ≤ (w2.alloc (.cells #[.int .i64 next, .slice NA n nc] 25)).heap.size := by simp
    have m0 := M3.cellAt 0 (by simp)
    have m1 := M3.cellAt 1 (by simp)
    have p0 := P3.cellAt 0 (by simp)
    have p1 := P3.cellAt 1 (by simp)
    have n0 := N3.cellAt 0 (by simp)
    have n1 := N3.cellAt 1 (by simp)
    have r0 := R3.cellAt 0 (by simp)
    have r1 := R3.cellAt 1 (by simp)
    have rf0 := R3.frozen 0
    have rf1 := R3.frozen 1
    have nf0 := N3.frozen 0
    have nf1 := N3.frozen 1
    simp only [List.getElem_cons_zero, List.getElem_cons_succ] at m0 m1 p0 p1 n0 n1 r0 r1
    clear P1 M1 R1 O1 B1 hb2 N2 P2 M2 R2 O2 B2 Q2 hal
    go_wp2_with fail
    generalize w2.alloc (.cells #[.int .i64 next, .slice NA n nc] 25) = w3 at *
    by_cases hi : 1 ≤ x1 ∧ x1 ≤ 999
    · have HI1 := Lib.hid hi
      by_cases hnum : next ≤ x0 ∧ x0 ≤ next + 6
      · by_cases hgt : next < x0
        · have HT := Lib.hid (takeI_hold (m := ⟨x0, x1⟩) HOK.out hi hgt hnum.2)
          have hd : decide (next < x0) = true := decide_eq_true hgt
          obtain ⟨hi1, hi2⟩ := hi
          obtain ⟨hk1, hk2⟩ := hnum
          refine (l1In_true _ _ _ _ hi1 hi2).mono ?_
          rintro e w' ⟨rfl, rfl⟩
          go_wp2_with fail
          refine (l1In_true _ _ _ _ hk1 hk2).mono ?_
          rintro e w' ⟨rfl, rfl⟩
          go_wp2_with fail
          refine (l29Hold_any A n c held x0 x1 _ HN.out hc (hr.below B3) hm).mono ?_
          rintro e w4 ⟨_, rfl, hown, hb4⟩
          obtain ⟨HA, hcap, rfl, _, _⟩ := own_slice hown
          have hq := (OwnI.of hown).queM
          have N4 := N3.later hb4
          have R4 := R3.later hb4
          have O4 := O3.later hb4
          have B4 := below_trans B3 hb4
          have hz4 := hb4.size
          clear N3 R3 O3 B3 M3 P3 m0 m1 p0 p1 n0 n1 r0 r1 rf0 rf1 nf0 nf1 hb4 hown Q3
          have n0 := N4.cellAt 0 (by simp)
          have n1 := N4.cellAt 1 (by simp)
          have r0 := R4.cellAt 0 (by simp)
          have r1 := R4.cellAt 1 (by simp)
          have rf0 := R4.frozen 0
          have rf1 := R4.frozen 1
          have nf0 := N4.frozen 0
          have nf1 := N4.frozen 1
          simp only [List.getElem_cons_zero, List.getElem_cons_succ] at n0 n1 r0 r1
          have hne1 : w2.heap.size ≠ w.heap.size + 2 := by omega
          go_wp2_with fail
          refine bodyPost_ret (v := .tuple #[.agg #[.int .i64 next, .slice HA (holdM held ⟨x0, x1⟩).length hcap], .slice (some ⟨w.heap.size + 3, 0, none⟩) 0 0]) (by simp [results, Try.results25, go_sem, *]) rfl ?_
          have hOO : Out w2.heap.size (w2.heap.size + 1) w4 (w4.setCell ⟨w2.heap.size, 1, none⟩ (.slice HA (holdM held ⟨x0, x1⟩).length hcap)) := out_set (Out.refl _ _ _) _ _ _ (by omega) (by omega)
          exact takeOut_fin HT.out (below_out B4 hOO (by omega)) rfl (hq.out hOO (.inr hz3)) (by omega) (O4.out hOO (.inl (by omega))).row
        · obtain rfl : next = x0 := by omega
          obtain ⟨hi1, hi2⟩ := hi
          have hd : decide (next < next) = false := decide_eq_false (by omega)
          have hszO : w.heap.size + 3 ≤ w3.heap.size := by omega
          clear hnum hgt
          refine (l1In_true _ _ _ _ hi1 hi2).mono ?_
          rintro e w' ⟨rfl, rfl⟩
          go_wp2_with fail
          refine (l1In_true _ _ _ _ (Int.le_refl _) (by omega)).mono ?_
          rintro e w' ⟨rfl, rfl⟩
          go_wp2_with (at_builtin; refine append_new rfl _ _ 28 rfl 3 _ _ _ Try.underlying28 int_infoM (w.heap.size + 3) _ _ 0 _ rfl O3.row [.int .i64 x1] rfl rfl (by simp [Value.oneCell']) (by omega) hszO ?_; intro v' w6 hown6 hg6 hblk6; have N6 := N3.offG hg6 (fun b e => by have := O3.lt b e; omega); have nn0 := N6.cellAt 0 (by simp); have nnf0 := N6.frozen 0; simp only [List.getElem_cons_zero] at nn0)
          have P6 := P3.offG hg6 (fun b e => by have := (O3.row.lt b e).1; omega)
          have R6 := R3.offG hg6 (fun b e => by have := (O3.row.lt b e).1; omega)
          have Q6 := Q3.grown hg6 (fun g e => .inl (by have := O3.lt g e; omega))
          have B6 := below_append B3 hg6 (own_base O3.row (by omega)) rfl
          have HO6 : Hid (∀ g, v'.ownBlock = some g → g < w1.heap.size ∨ w2.heap.size < g) := Lib.hid (fun g e => by
            rcases hblk6 with h | h
            · rw [h] at e
              have := O3.lt g e
              omega
            · rw [h] at e
              injection e with e
              omega)
          clear N3 P3 R3 Q3 B3 O3 M3 m0 m1 n0 n1 p0 p1 r0 r1 rf0 rf1 nf0 nf1 hg6 hblk6 hszO hd
          have hOO : Out w2.heap.size (w2.heap.size + 1) w6 (w6.setCell ⟨w2.heap.size, 0, none⟩ (.int .i64 (next + 1))) := out_set (Out.refl _ _ _) _ _ _ (by omega) (by omega)
          have N7 : Blk (w6.setCell ⟨w2.heap.size, 0, none⟩ (.int .i64 (next + 1))) w2.heap.size 25 [.int .i64 (next + 1), .slice NA n nc] := N6.set_ 0 _
          have P7 := P6.offO hOO (.inl (by omega))
          have R7 := R6.offO hOO (.inl (by omega))
          have Q7 := Q6.out hOO (.inl (Nat.le_refl _))
          have O7 := own_out hown6 hOO (fun g e => by have := HO6.out g e; omega)
          have B7 := below_out B6 hOO (by omega)
          have hrl : held.length ≤ n := Nat.le_of_eq HN.out
          clear N6 P6 R6 Q6 B6 hown6 hOO
          go_loopw [6] (fun o wr => ∃ (nx : Int) (xs : List Int) (rest : List MessageV) (RA : Option Addr) (m rc : Nat), next + 1 ≤ nx ∧ nx ≤ next + 1 + xs.length ∧ rest.length + xs.length ≤ n ∧ Hid (RunAt next held nx rest xs) ∧ wr.ownsRow (w.heap.size + 3) 3 1 o (xs.length + 1) (ints (x1 :: xs)) ∧ Hid (∀ g, o.ownBlock = some g → g < w1.heap.size ∨ w2.heap.size < g) ∧ QueM wr w1.heap.size w2.heap.size RA m rc rest ∧ Blk wr w2.heap.size 25 [.int .i64 nx, .slice RA m rc] ∧ Blk wr w.heap.size 25 [.int .i64 next, .slice A n c] ∧ Blk wr (w.heap.size + 2) 25 [.int .i64 0, .slice none 0 0] ∧ Below w.heap.size w wr) (fun o _ => 8 - slLen o)
          case atStart => exact ⟨next + 1, [], held, NA, n, nc, by omega, by simp, by simpa using hrl, Lib.hid (runAt_start _ _), O7, HO6, Q7, N7, P7, R7, B7⟩
          case round =>
            obtain ⟨nx, xs, rest, RA, m, rc, h1, h2, h3, HR, hown, HO, QQ, NN, PP, RR, BB⟩ := hrel
            obtain ⟨OA, oc, rfl, _, _⟩ := own_slice hown
            have n0 := NN.cellAt 0 (by simp)
            have n1 := NN.cellAt 1 (by simp)
            have nf0 := NN.frozen 0
            have nf1 := NN.frozen 1
            have p0 := PP.cellAt 0 (by simp)
            have p1 := PP.cellAt 1 (by simp)
            have r0 := RR.cellAt 0 (by simp)
            have r1 := RR.cellAt 1 (by simp)
            have rf0 := RR.frozen 0
            have rf1 := RR.frozen 1
            simp only [List.getElem_cons_zero, List.getElem_cons_succ] at n0 n1 p0 p1 r0 r1
            have hnlt := NN.lt
            cases rest with
            | nil =>
              have HX := Lib.hid (runAt_end HR.out)
              have hm0 : m = 0 := by have := QQ.len; simpa using this.symm
              subst hm0
              go_wp2_with fail
              go_quiet (fail)
              by_cases hfar : 999 < nx
              · have HT := Lib.hid (takeI_far' HOK.out HI1.out HX.out hfar)
                have hd9 : decide ((999 : Int) < nx) = true := decide_eq_true hfar
                go_wp2_with fail
                refine (l29Copy_any next A n c held _ HN.out (hr.below (below_drewN BB _)) hm).mono ?_
                rintro e w8 ⟨_, rfl, CA, cc, rfl, C8, hb8⟩
                have hal : Below w8.heap.size w8 (w8.alloc (.cells #[] 3)) := (Below.refl _ _).alloc (Nat.le_refl _) _
                have hz8 := hb8.size
                have R9 := ((RR.drewN nq).later hb8).later hal
                have B9 := below_trans (below_trans (below_drewN BB nq) hb8) hal
                have C9 := (C8.later hal).queM
                have O9 : (w8.alloc (.cells #[] 3)).ownsRow (w.heap.size + 3) 3 1 (.slice (some ⟨w8.heap.size, 0, none⟩) 0 0) 0 (ints []) := own_of_blk (cs := []) (Blk.new _ _ _) (by have := hb8.size; have : wr.heap.size ≤ w8.heap.size := this; omega) rfl (by decide)
                have hz9 : wr.heap.size ≤ w8.heap.size := hz8
                clear r0 r1 rf0 rf1 n0 n1 nf0 nf1 p0 p1 C8 hb8 hal
                have r0 := R9.cellAt 0 (by simp)
                have r1 := R9.cellAt 1 (by simp)
                have rf0 := R9.frozen 0
                have rf1 := R9.frozen 1
                simp only [List.getElem_cons_zero, List.getElem_cons_succ] at r0 r1
                go_wp2_with fail
                refine bodyPost_ret (v := .tuple #[.agg #[.int .i64 next, .slice CA n cc], .slice (some ⟨w8.heap.size, 0, none⟩) 0 0]) (by simp [results, Try.results25, go_sem, *]) rfl ?_
                exact takeOut_fin HT.out B9 rfl C9 (by show w.heap.size + 3 ≤ wr.heap.size; omega) O9
              · have HT := Lib.hid (takeI_run' HOK.out HI1.out HX.out hfar)
                have hd9 : decide ((999 : Int) < nx) = false := decide_eq_false hfar
                go_wp2_with fail
                refine bodyPost_ret (by simp [results, Try.results25, go_sem, *]; rfl) rfl ?_
                exact takeOut_fin HT.out (below_drewN BB nq) rfl QQ (by omega) (own_drewN hown nq)
            | cons x r =>
              obtain ⟨g, d, m', rfl, rfl, hl, hh, hc0, hc1, hq2, hmc⟩ := QQ.head
              have HIT := Lib.hid (fun h => runAt_hit HR.out h)
              have MISS := Lib.hid (fun h => runAt_miss HR.out h)
              obtain ⟨y0, y1⟩ := x
              dsimp only at hc0 hc1 HIT MISS
              have hd0 : decide ((0 : Int) < ((m' + 1 : Nat) : Int)) = true := decide_eq_true (by omega)
              have hd1 : (0 : Int) < ((m' : Nat) : Int) + 1 := by omega
              simp only [List.length_cons] at h3
              by_cases he : y0 = nx
              · have hb : (y0 == nx) = true := by simp [he]
                have HR2 := Lib.hid (HIT.out he)
                have hszO : w.heap.size + 3 ≤ wr.heap.size := by omega
                clear MISS HIT he
                by_cases hrc : rc = 1
                · subst hrc
                  rw [if_pos rfl, show 1 - 1 = 0 from rfl] at hq2
                  have hsl : Hid True := Lib.hid trivial
                  go_wp2_with fail
                  go_quiet (fail)
                  go_wp2_with (at_builtin; refine append_new rfl _ _ 28 rfl 3 _ _ _ Try.underlying28 int_infoM _ _ _ _ _ rfl (own_drewN hown nq) [.int .i64 y1] rfl rfl (by simp [Value.oneCell']) (by omega) hszO ?_; intro v' w6 hown6 hg6 hblk6; have N6 := (NN.drewN nq).offG hg6 (fun b e => by have := HO.out b e; omega); have nn0 := N6.cellAt 0 (by simp); have nnf0 := N6.frozen 0; have nn1 := N6.cellAt 1 (by simp); have nnf1 := N6.frozen 1; simp only [List.getElem_cons_zero, List.getElem_cons_succ] at nn0 nn1)
                  have P6 := (PP.drewN nq).offG hg6 (fun b e => by have := (hown.lt b e).1; omega)
                  have R6 := (RR.drewN nq).offG hg6 (fun b e => by have := (hown.lt b e).1; omega)
                  have Q6 := (hq2.later (Below.drewN_ wr nq)).grown hg6 (fun g e => by have := HO.out g e; omega)
                  have B6 := below_append (below_drewN BB nq) hg6 (own_base (own_drewN hown nq) (by omega)) rfl
                  have HO6 : Hid (∀ g, v'.ownBlock = some g → g < w1.heap.size ∨ w2.heap.size < g) := Lib.hid (fun g e => by
                    rcases hblk6 with h | h
                    · rw [h] at e
                      exact HO.out g e
                    · rw [h] at e
                      injection e with e
                      have : (wr.drewN nq).heap.size = wr.heap.size := rfl
                      omega)
                  obtain ⟨VA, vc, rfl, _, _⟩ := own_slice hown6
                  go_roundw
                  case rel =>
                    have hOO : Out w2.heap.size (w2.heap.size + 1) w6 ((w6.setCell ⟨w2.heap.size, 1, none⟩ (.slice (some ⟨g, d, none⟩) m' (0))).setCell ⟨w2.heap.size, 0, none⟩ (.int .i64 (nx + 1))) := out_set (out_set (Out.refl _ _ _) _ _ _ (by omega) (by omega)) _ _ _ (by omega) (by omega)
                    refine ⟨nx + 1, xs ++ [y1], r, (some ⟨g, d, none⟩), m', 0, by omega, by simp; omega, by simp; omega, HR2, ?_, HO6, Q6.out hOO (.inl (Nat.le_refl _)), (N6.set_ 1 _).set_ 0 _, P6.offO hOO (.inl (by omega)), R6.offO hOO (.inl (by omega)), below_out B6 hOO (by omega)⟩
                    have h8 := own_out hown6 hOO (fun g e => by have := HO6.out g e; omega)
                    rw [show ints (x1 :: (xs ++ [y1])) = ints (x1 :: xs) ++ [.int .i64 y1] from by simp [ints], List.length_append]
                    exact h8
                  case measure => simp [slLen]; omega
                · rw [if_neg hrc] at hq2
                  have hsl : Hid True := Lib.hid trivial
                  go_wp2_with fail
                  go_quiet (fail)
                  go_wp2_with (at_builtin; refine append_new rfl _ _ 28 rfl 3 _ _ _ Try.underlying28 int_infoM _ _ _ _ _ rfl (own_drewN hown nq) [.int .i64 y1] rfl rfl (by simp [Value.oneCell']) (by omega) hszO ?_; intro v' w6 hown6 hg6 hblk6; have N6 := (NN.drewN nq).offG hg6 (fun b e => by have := HO.out b e; omega); have nn0 := N6.cellAt 0 (by simp); have nnf0 := N6.frozen 0; have nn1 := N6.cellAt 1 (by simp); have nnf1 := N6.frozen 1; simp only [List.getElem_cons_zero, List.getElem_cons_succ] at nn0 nn1)
                  have P6 := (PP.drewN nq).offG hg6 (fun b e => by have := (hown.lt b e).1; omega)
                  have R6 := (RR.drewN nq).offG hg6 (fun b e => by have := (hown.lt b e).1; omega)
                  have Q6 := (hq2.later (Below.drewN_ wr nq)).grown hg6 (fun g e => by have := HO.out g e; omega)
                  have B6 := below_append (below_drewN BB nq) hg6 (own_base (own_drewN hown nq) (by omega)) rfl
                  have HO6 : Hid (∀ g, v'.ownBlock = some g → g < w1.heap.size ∨ w2.heap.size < g) := Lib.hid (fun g e => by
                    rcases hblk6 with h | h
                    · rw [h] at e
                      exact HO.out g e
                    · rw [h] at e
                      injection e with e
                      have : (wr.drewN nq).heap.size = wr.heap.size := rfl
                      omega)
                  obtain ⟨VA, vc, rfl, _, _⟩ := own_slice hown6
                  go_roundw
                  case rel =>
                    have hOO : Out w2.heap.size (w2.heap.size + 1) w6 ((w6.setCell ⟨w2.heap.size, 1, none⟩ (.slice (some ⟨g, d + 2, none⟩) m' (rc - 1))).setCell ⟨w2.heap.size, 0, none⟩ (.int .i64 (nx + 1))) := out_set (out_set (Out.refl _ _ _) _ _ _ (by omega) (by omega)) _ _ _ (by omega) (by omega)
                    refine ⟨nx + 1, xs ++ [y1], r, (some ⟨g, d + 2, none⟩), m', rc - 1, by omega, by simp; omega, by simp; omega, HR2, ?_, HO6, Q6.out hOO (.inl (Nat.le_refl _)), (N6.set_ 1 _).set_ 0 _, P6.offO hOO (.inl (by omega)), R6.offO hOO (.inl (by omega)), below_out B6 hOO (by omega)⟩
                    have h8 := own_out hown6 hOO (fun g e => by have := HO6.out g e; omega)
                    rw [show ints (x1 :: (xs ++ [y1])) = ints (x1 :: xs) ++ [.int .i64 y1] from by simp [ints], List.length_append]
                    exact h8
                  case measure => simp [slLen]; omega
              · have HX := Lib.hid (MISS.out he)
                have hb : (y0 == nx) = false := by simp [he]
                clear HIT MISS
                go_wp2_with fail
                go_quiet (fail)
                by_cases hfar : 999 < nx
                · have HT := Lib.hid (takeI_far' HOK.out HI1.out HX.out hfar)
                  have hd9 : decide ((999 : Int) < nx) = true := decide_eq_true hfar
                  go_wp2_with fail
                  refine (l29Copy_any next A n c held _ HN.out (hr.below (below_drewN BB _)) hm).mono ?_
                  rintro e w8 ⟨_, rfl, CA, cc, rfl, C8, hb8⟩
                  have hal : Below w8.heap.size w8 (w8.alloc (.cells #[] 3)) := (Below.refl _ _).alloc (Nat.le_refl _) _
                  have hz8 := hb8.size
                  have R9 := ((RR.drewN nq).later hb8).later hal
                  have B9 := below_trans (below_trans (below_drewN BB nq) hb8) hal
                  have C9 := (C8.later hal).queM
                  have O9 : (w8.alloc (.cells #[] 3)).ownsRow (w.heap.size + 3) 3 1 (.slice (some ⟨w8.heap.size, 0, none⟩) 0 0) 0 (ints []) := own_of_blk (cs := []) (Blk.new _ _ _) (by have := hb8.size; have : wr.heap.size ≤ w8.heap.size := this; omega) rfl (by decide)
                  have hz9 : wr.heap.size ≤ w8.heap.size := hz8
                  clear r0 r1 rf0 rf1 n0 n1 nf0 nf1 p0 p1 C8 hb8 hal
                  have r0 := R9.cellAt 0 (by simp)
                  have r1 := R9.cellAt 1 (by simp)
                  have rf0 := R9.frozen 0
                  have rf1 := R9.frozen 1
                  simp only [List.getElem_cons_zero, List.getElem_cons_succ] at r0 r1
                  go_wp2_with fail
                  refine bodyPost_ret (v := .tuple #[.agg #[.int .i64 next, .slice CA n cc], .slice (some ⟨w8.heap.size, 0, none⟩) 0 0]) (by simp [results, Try.results25, go_sem, *]) rfl ?_
                  exact takeOut_fin HT.out B9 rfl C9 (by show w.heap.size + 3 ≤ wr.heap.size; omega) O9
                · have HT := Lib.hid (takeI_run' HOK.out HI1.out HX.out hfar)
                  have hd9 : decide ((999 : Int) < nx) = false := decide_eq_false hfar
                  go_wp2_with fail
                  refine bodyPost_ret (by simp [results, Try.results25, go_sem, *]; rfl) rfl ?_
                  exact takeOut_fin HT.out (below_drewN BB nq) rfl QQ (by omega) (own_drewN hown nq)
      · have HT := Lib.hid (takeI_out (m := ⟨x0, x1⟩) HOK.out (.inr hnum))
        have HI : Hid (x0 < next ∨ next + 6 < x0) := Lib.hid (by omega)
        obtain ⟨hi1, hi2⟩ := hi
        clear hnum
        refine (l1In_true _ _ _ _ hi1 hi2).mono ?_
        rintro e w' ⟨rfl, rfl⟩
        go_wp2_with fail
        refine (l1In_false _ _ _ _ HI.out).mono ?_
        rintro e w' ⟨rfl, rfl⟩
        go_wp2_with fail
        refine bodyPost_ret (v := .tuple #[.agg #[.int .i64 next, .slice NA n nc], .slice (some ⟨w.heap.size + 3, 0, none⟩) 0 0]) (by simp [results, Try.results25, go_sem, *]) rfl ?_
        exact takeOut_fin HT.out B3 rfl Q3 (by omega) O3.row
    · have HT := Lib.hid (takeI_out (m := ⟨x0, x1⟩) HOK.out (.inl hi))
      have HI : Hid (x1 < 1 ∨ 999 < x1) := Lib.hid (by omega)
      clear hi
      refine (l1In_false _ _ _ _ HI.out).mono ?_
      rintro e w' ⟨rfl, rfl⟩
      go_wp2_with fail
      refine bodyPost_ret (v := .tuple #[.agg #[.int .i64 next, .slice NA n nc], .slice (some ⟨w.heap.size + 3, 0, none⟩) 0 0]) (by simp [results, Try.results25, go_sem, *]) rfl ?_
      exact takeOut_fin HT.out B3 rfl Q3 (by omega) O3.row
end Go.Proofs.Ytehaacpeamhamaa
