/- FnRoomLeft returns true, for every code; no condition. -/
import Derived.Test.YtcbeoaedccdppaaDrawRoom
import Derived.Test.YtcbeoaedccdppaaRoom
import Derived.Test.YtcbeoaedccdppaaQuietB
import Derived.Test.YtcbeoaedccdppaaYdB
import Derived.Test.YtcbeoaedccdppaaAlive
namespace Go.Proofs.Ytcbeoaedccdppaa
open Go Go.ChangeShapes Go.WideShapes Go.ChangeAt Go.RowKit
set_option linter.unusedVariables false
theorem stacks_high {high : Int} {rows : List (List Int)} (h : yardOk high rows = true) : ∀ s ∈ rows, (s.length : Int) ≤ high := by
  simp only [yardOk, Bool.and_eq_true] at h
  intro s hs
  exact (stackOk_parts (yOk_in h.2 s hs)).2.2.2
theorem tot_high {high : Int} (hg : 0 ≤ high) : ∀ (l : List (List Int)), (∀ s ∈ l, (s.length : Int) ≤ high) → (l.flatten.length : Int) ≤ high * (l.length : Int) ∧ ((l.flatten.length : Int) = high * (l.length : Int) → ∀ s ∈ l, (s.length : Int) = high) := by
  intro l
  induction l with
  | nil => intro _; simp
  | cons a r ih =>
    intro hl
    obtain ⟨h1, h2⟩ := ih (fun s hs => hl s (List.mem_cons_of_mem _ hs))
    have h3 := hl a (List.mem_cons_self ..)
    have e : high * ((a :: r).length : Int) = high * (r.length : Int) + high := by rw [List.length_cons, Int.natCast_add, Int.mul_add]; simp
    rw [e, List.flatten_cons, List.length_append, Int.natCast_add]
    refine ⟨by omega, fun h s hs => ?_⟩
    rcases List.mem_cons.1 hs with rfl | hs
    · omega
    · exact h2 (by omega) s hs
theorem room_ok {high : Int} {rows : List (List Int)} (h : yardOk high rows = true) : 0 ≤ roomI high rows ∧ (roomI high rows = 0 → ∀ s ∈ rows, (s.length : Int) = high) := by
  obtain ⟨_, _, h1, _⟩ := yardOk_parts h
  obtain ⟨h2, h3⟩ := tot_high (by omega) rows (stacks_high h)
  simp only [roomI, h, if_pos]
  exact ⟨by omega, fun e => h3 (by omega)⟩
theorem room_bad {high : Int} {rows : List (List Int)} (h : yardOk high rows = false) : roomI high rows = -1 := by simp [roomI, h]
theorem room_put {high : Int} {rows rows2 : List (List Int)} (h : yardOk high rows = true) (h2 : yardOk high rows2 = true) (ht : totI rows2 = totI rows + 1) (hl : rows2.length = rows.length) : roomI high rows2 = roomI high rows - 1 := by
  have h3 : rows2.flatten.length = rows.flatten.length + 1 := by simpa [totI] using ht
  simp only [roomI, h, h2, if_pos, hl, h3]
  omega
theorem room_small {high : Int} {rows : List (List Int)} (h : yardOk high rows = true) : roomI high rows ≤ 25 := by
  obtain ⟨_, h5, h1, h2, _⟩ := yardOk_parts h
  have : high * (rows.length : Int) ≤ 25 := Int.le_trans (Int.mul_le_mul h2 (show (rows.length : Int) ≤ 5 by omega) (by omega) (by omega)) (by decide)
  simp only [roomI, h, if_pos]
  omega
theorem yput_fst {high : Int} {rows : List (List Int)} (i x : Int) (h : yardOk high rows = true) : (yput high rows i x).1 = high := by
  unfold yput
  rw [if_neg (by simp [h])]
  split
  · rfl
  · rfl
set_option maxRecDepth 100000 in
set_option maxHeartbeats 4000000 in
theorem walkFnRoomLeft (w : World) (A : Option Addr) (n c : Nat) (bs : List Int) (h : Code w A n c bs) :
    Calls Try.prog 4 #[.slice A n c] w fun e w' => e = .returned (.bool true) ∧ Below w.heap.size w w' := by
  have hmx := h.max
  by_cases hn : n ≤ 1048576
  · go_enter Try.func4, Try.ntmps4
    go_wp2_with fail
    refine (drawRoomLeft_any A n c bs _ h).mono ?_
    rintro e w1 ⟨_, rfl, high, A1, c1, rows, rfl, hR, hL, b1⟩
    obtain ⟨hl7, hl6⟩ := hL
    have HM : Hid (∀ s ∈ rows, s.length ≤ 1048576) := Lib.hid (fun s hs => by have := hl6 s hs; omega)
    generalize hm : rows.length = m at *
    have HLEN := Lib.hid hm
    clear hm hl6 h
    have hal2 : Below w1.heap.size w1 (w1.alloc (.cells #[.int .i64 high, .slice A1 m c1] 27)) := (Below.refl _ _).alloc (Nat.le_refl _) _
    have hN2 : Blk (w1.alloc (.cells #[.int .i64 high, .slice A1 m c1] 27)) w1.heap.size 27 [.int .i64 high, .slice A1 m c1] := Blk.new _ _ _
    have B2 := Lib.hid (below_trans b1 hal2)
    have R2 := Lib.hid (hR.below hal2)
    have Y2 := Lib.hid hN2
    clear b1 hal2 hR hN2
    have y0 := Y2.out.cellAt 0 (by simp)
    have y1 := Y2.out.cellAt 1 (by simp)
    simp only [List.getElem_cons_zero, List.getElem_cons_succ] at y0 y1
    go_wp2_with fail
    generalize w1.alloc (.cells #[.int .i64 high, .slice A1 m c1] 27) = w2 at *
    refine (implRoomLeft high A1 m c1 rows w2 HLEN.out R2.out (by omega)).mono ?_
    rintro e w3 ⟨rfl, b3⟩
    have B3 := Lib.hid (below_trans B2.out b3)
    have R3 := Lib.hid (R2.out.below b3)
    have Y3 := Lib.hid (Y2.out.later b3)
    clear b3 y0 y1 R2 Y2 B2
    have y0 := Y3.out.cellAt 0 (by simp)
    have y1 := Y3.out.cellAt 1 (by simp)
    simp only [List.getElem_cons_zero, List.getElem_cons_succ] at y0 y1
    have HX := Lib.hid (rfl : roomI high rows = roomI high rows)
    generalize hx : roomI high rows = x at *
    replace HX := Lib.hid hx
    have hxx : (x != x) = false := by simp
    have cS := specRoomLeft high A1 m c1 rows w3 HLEN.out R3.out (by omega)
    rw [hx] at cS
    clear hx
    go_wp2_with fail
    refine cS.mono ?_
    rintro e w4 ⟨rfl, b4⟩
    have B4 := Lib.hid (below_trans B3.out b4)
    have R4 := Lib.hid (R3.out.below b4)
    have Y4 := Lib.hid (Y3.out.later b4)
    clear b4 y0 y1 R3 Y3 B3 cS
    have y0 := Y4.out.cellAt 0 (by simp)
    have y1 := Y4.out.cellAt 1 (by simp)
    simp only [List.getElem_cons_zero, List.getElem_cons_succ] at y0 y1
    cases hok : yardOk high rows with
    | false =>
      have hx1 : x = -1 := by rw [← HX.out]; exact room_bad hok
      subst hx1
      have cV := implYardValid high A1 m c1 rows w4 HLEN.out R4.out (by omega)
      rw [hok] at cV
      clear hok HX
      go_wp2_with fail
      refine cV.mono ?_
      rintro e w5 ⟨rfl, b5⟩
      have B5 := Lib.hid (below_trans B4.out b5)
      clear b5 y0 y1
      go_wp2_with fail
      refine (alive_any _).mono ?_
      rintro e w6 ⟨rfl, rfl⟩
      go_wp2_with fail
      go_ret
      exact ⟨rfl, B5.out⟩
    | true =>
      have HOK := Lib.hid hok
      have hx0 : 0 ≤ x := by rw [← HX.out]; exact (room_ok hok).1
      have hx25 : x ≤ 25 := by rw [← HX.out]; exact room_small hok
      have HFUL : Hid (x = 0 → ∀ s ∈ rows, (s.length : Int) = high) := Lib.hid (by rw [← HX.out]; exact (room_ok hok).2)
      have hneg : ¬ x < 0 := by omega
      clear hok
      go_wp2_with fail
      go_loopw [5] (fun i wr => ∃ k : Nat, k ≤ m ∧ i = .int .i64 k ∧ RdRR wr A1 (intss rows) ∧ Blk wr w1.heap.size 27 [.int .i64 high, .slice A1 m c1] ∧ Below w.heap.size w wr) (fun i _ => m - (intOf i).toNat)
      case atStart => exact ⟨0, Nat.zero_le _, rfl, R4.out, Y4.out, B4.out⟩
      case round =>
        clear y0 y1 R4 Y4 B4
        obtain ⟨k, hk, rfl, hR, hY, hb⟩ := hrel
        have y0 := hY.cellAt 0 (by simp)
        have y1 := hY.cellAt 1 (by simp)
        simp only [List.getElem_cons_zero, List.getElem_cons_succ] at y0 y1
        have R5 := Lib.hid hR
        have Y5 := Lib.hid hY
        have B5 := Lib.hid hb
        have hYl := hY.lt
        clear hR hY hb
        by_cases hlt : k < m
        · have hki : (k : Int) < (m : Int) := by omega
          have cP := implYardPut high (k : Int) 999 A1 m c1 rows wr HLEN.out R5.out (by omega) HM.out
          have hways := yput_ways high rows (k : Int) 999
          have hgd := yput_fst (k : Int) 999 HOK.out
          generalize yput high rows (k : Int) 999 = X at *
          obtain ⟨h', rows', r⟩ := X
          dsimp only at hgd
          have HGD := Lib.hid hgd
          clear hgd
          have HM1 := Lib.hid (rfl : rows'.length = rows'.length)
          replace cP := yp_use cP HM1.out
          clear HM1
          generalize hm' : rows'.length = m' at *
          have HLEN2 := Lib.hid hm'
          have HW := Lib.hid hways
          clear hways hm'
          go_wp2_with fail
          refine cP.mono ?_
          rintro e w6 ⟨_, rfl, GA, gc, rfl, G6, b6⟩
          have hal7 : Below w6.heap.size w6 (w6.alloc (.cells #[.int .i64 h', .slice GA m' gc] 27)) := (Below.refl _ _).alloc (Nat.le_refl _) _
          have hN7 : Blk (w6.alloc (.cells #[.int .i64 h', .slice GA m' gc] 27)) w6.heap.size 27 [.int .i64 h', .slice GA m' gc] := Blk.new _ _ _
          have b7 := below_trans b6 hal7
          have B7 := Lib.hid (below_trans B5.out b7)
          have R7 := Lib.hid (R5.out.below b7)
          have Y7 := Lib.hid (Y5.out.later b7)
          have G7 := Lib.hid (G6.later hal7)
          have Z7 := Lib.hid hN7
          clear b6 G6 hal7 b7 hN7 y0 y1 R5 Y5 B5 hYl
          go_wp2_with fail
          generalize w6.alloc (.cells #[.int .i64 h', .slice GA m' gc] 27) = w7 at *
          have y0 : ∀ p : BelW w7, p.W.cell? ⟨w1.heap.size, 0, none⟩ = some (.int .i64 high) := fun p => (Y7.out.belw p).cellAt 0 (by simp)
          have y1 : ∀ p : BelW w7, p.W.cell? ⟨w1.heap.size, 1, none⟩ = some (.slice A1 m c1) := fun p => (Y7.out.belw p).cellAt 1 (by simp)
          have z0 : ∀ p : BelW w7, p.W.cell? ⟨w6.heap.size, 0, none⟩ = some (.int .i64 h') := fun p => (Z7.out.belw p).cellAt 0 (by simp)
          have z1 : ∀ p : BelW w7, p.W.cell? ⟨w6.heap.size, 1, none⟩ = some (.slice GA m' gc) := fun p => (Z7.out.belw p).cellAt 1 (by simp)
          rcases HW.out with e | e | ⟨kk, rows2, hkk, e, hok1, hok2, _, htot, hlen2⟩
          · simp only [Prod.mk.injEq] at e
            obtain ⟨rfl, rfl, rfl⟩ := e
            exfalso
            have h1 := (yardOk_parts HOK.out).2.2.1
            have h2 := HGD.out
            omega
          · simp only [Prod.mk.injEq] at e
            obtain ⟨rfl, rfl, rfl⟩ := e
            by_cases h0 : x = 0
            · subst h0
              have hkz : k < rows'.length := by rw [HLEN.out]; exact hlt
              have hkl : k < (intss rows').length := by rw [intss_len]; exact hkz
              have hful := HFUL.out rfl (rows'[k]) (List.getElem_mem hkz)
              obtain ⟨b, o, rfl, hl0, B, c', hcell0, hle, hmx, _⟩ := R7.out.pos hkl
              simp only [intss_at, ints_len] at hcell0 hle
              have x0 : ∀ p : BelW w7, p.W.cell? ⟨b, o + k, none⟩ = some (.slice B (rows'[k]).length c') := fun p => p.cell (a := ⟨b, o + k, none⟩) hl0 hcell0
              generalize (rows'[k]).length = p at *
              have hpp : ((p : Int) != h') = false := by simp [hful]
              clear hcell0 hful
              refine wp_region_below (by kernel_rfl) (by kernel_rfl) ?_
              repeat (go_big_quiet_step (fail))
              refine wpQuiet_nil ?_
              intro _ hw'
              obtain ⟨⟨wq, hbq⟩, hw''⟩ := hw'
              subst hw''
              go_wp2_with fail
              go_roundw
              case rel => exact ⟨k + 1, by omega, by go_num, R7.out.below hbq, Y7.out.later hbq, below_trans B7.out hbq⟩
              case measure => simp [intOf]; omega
            · have hx0' : (x == 0) = false := by simpa using h0
              refine wp_region_below (by kernel_rfl) (by kernel_rfl) ?_
              repeat (go_big_quiet_step (fail))
              refine wpQuiet_nil ?_
              intro _ hw'
              obtain ⟨⟨wq, hbq⟩, hw''⟩ := hw'
              subst hw''
              go_wp2_with fail
              go_roundw
              case rel => exact ⟨k + 1, by omega, by go_num, R7.out.below hbq, Y7.out.later hbq, below_trans B7.out hbq⟩
              case measure => simp [intOf]; omega
          · simp only [Prod.mk.injEq] at e
            obtain ⟨rfl, rfl, rfl⟩ := e
            obtain rfl : m' = m := by rw [← HLEN2.out, hlen2]; exact HLEN.out
            have hrm : roomI h' rows' = x - 1 := by rw [← HX.out]; exact room_put hok1 hok2 htot hlen2
            have hrm0 : 0 ≤ roomI h' rows' := (room_ok hok2).1
            have hx0' : (x == 0) = false := by simp; omega
            have cR := fun W (hW : RdRR W GA (intss rows')) => implRoomLeft h' GA m' gc rows' W HLEN2.out hW (by omega)
            rw [hrm] at cR
            have hw1 : IntKind.i64.wrap (x - 1) = x - 1 := IntWalk.i64_in _ (by omega)
            have hne : (x - 1 != x - 1) = false := by simp
            clear hok1 hok2 htot hlen2 hrm hrm0
            refine wp_region_below (by kernel_rfl) (by kernel_rfl) ?_
            repeat (go_big_quiet_step ((go_at_call 9; exact calls_below (cR _ (G7.out.rd.below (BelW.ok _))))))
            refine wpQuiet_nil ?_
            intro _ hw'
            obtain ⟨⟨wq, hbq⟩, hw''⟩ := hw'
            subst hw''
            go_wp2_with fail
            go_roundw
            case rel => exact ⟨k + 1, by omega, by go_num, R7.out.below hbq, Y7.out.later hbq, below_trans B7.out hbq⟩
            case measure => simp [intOf]; omega
        · obtain rfl : k = m := by omega
          go_wp2_with fail
          go_ret
          exact ⟨rfl, B5.out⟩
  · go_enter Try.func4, Try.ntmps4
    go_wp2_with fail
    go_ret
    exact ⟨rfl, Below.refl _ _⟩
end Go.Proofs.Ytcbeoaedccdppaa
