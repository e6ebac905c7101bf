/- Boxes that are drawn: whatever they are; few, with weights within bounds. -/
import Derived.Test.YtbkfhcbecejomaaGreatMg22
import Derived.Test.YtbkfhcbecejomaaGreatMg1
namespace Go.Proofs.YtbkfhcbecejomaaGreat
open Go Go.ChangeShapes Go.WideShapes Go.ChangeAt Go.RowKit
set_option linter.unusedVariables false
set_option linter.unusedSimpArgs false
/-- boxes of the call's own beside a reader that has gone on -/
structure BxsAt (w W : World) (base g q : Nat) (A : Option Addr) (n c : Nat) (zs : List BoxV) : Prop where
  own : W.ownsRow base 79 5 (.slice A n c) n (boxs zs)
  rd : Rdr W g q
  gr : w.grownBy W (some g)
  len : zs.length = n
  bd : ∀ x ∈ zs, BxBd x
  lt : g < base
  base : w.heap.size ≤ base
section
variable {w W W' : World} {base g q q' n c : Nat} {A : Option Addr} {zs : List BoxV}
theorem BxsAt.pick (h : BxsAt w W base g q A n c zs) (hr : Rdr W' g q') (hg : W.grownBy W' (some g)) : BxsAt w W' base g q' A n c zs := ⟨own_only h.own hg (own_ne h.own h.lt), hr, only_trans h.gr hg, h.len, h.bd, h.lt, h.base⟩
theorem BxsAt.alloc (h : BxsAt w W base g q A n c zs) (o : Obj) : BxsAt w (W.alloc o) base g q A n c zs := ⟨own_later h.own ((Below.refl _ _).alloc (Nat.le_refl _) _), bx_rdAlloc h.rd o, bx_alloc h.gr o, h.len, h.bd, h.lt, h.base⟩
theorem BxsAt.later (h : BxsAt w W base g q A n c zs) (hb : Below W.heap.size W W') : BxsAt w W' base g q A n c zs := ⟨own_later h.own hb, h.rd.kept hb, only_trans h.gr (only_below hb g), h.len, h.bd, h.lt, h.base⟩
theorem BxsAt.app {A' : Option Addr} {n' c' : Nat} {ys : List BoxV} (h : BxsAt w W base g q A n c zs) (ho : W'.ownsRow base 79 5 (.slice A' n' c') n' (boxs (zs ++ ys))) (hg : W.grownBy W' (Value.slice A n c).ownBlock) (hl : (zs ++ ys).length = n') (hb : ∀ x ∈ ys, BxBd x) : BxsAt w W' base g q A' n' c' (zs ++ ys) :=
  ⟨ho, h.rd.away hg (fun b e => by have := (h.own.lt b e).1; have := h.lt; omega), only_own h.gr hg (fun b e => by have := (h.own.lt b e).1; have := h.base; omega), hl, fun x hx => by
    rcases List.mem_append.1 hx with hx | hx
    · exact h.bd x hx
    · exact hb x hx, h.lt, h.base⟩
theorem BxsAt.wide {w0 : World} (h : BxsAt w W base g q A n c zs) (h0 : w0.grownBy w (some g)) : BxsAt w0 W base g q A n c zs := ⟨h.own, h.rd, only_trans h0 h.gr, h.len, h.bd, h.lt, Nat.le_trans h0.size h.base⟩
end
def BxsOut (w : World) (g q B N : Nat) : Ending → World → Prop := RVal fun v w' => ∃ A n c zs q', v = .slice A n c ∧ n ≤ N ∧ q ≤ q' ∧ q' ≤ q + B ∧ BxsAt w w' w.heap.size g q' A n c zs
theorem BxsOut.mk {w w' : World} {g q B N n c q' : Nat} {A : Option Addr} {zs : List BoxV} (h : BxsAt w w' w.heap.size g q' A n c zs) (h1 : n ≤ N) (h2 : q ≤ q') (h3 : q' ≤ q + B) : BxsOut w g q B N (.returned (.slice A n c)) w' := RVal.mk ⟨A, n, c, zs, q', rfl, h1, h2, h3, h⟩
theorem boxs_rep (n : Nat) : boxs (List.replicate n (⟨0, 0, 0, 0, false⟩ : BoxV)) = (List.replicate n [Value.int .i64 0, .int .i64 0, .int .i64 0, .int .i64 0, .bool false]).flatten := by
  simp [boxs, cellsOf, List.flatMap_def, boxC]
set_option maxRecDepth 100000 in
set_option maxHeartbeats 8000000 in
theorem l20Boxes_any (g q : Nat) (many n : Int) (w : World) (hr : Rdr w g q) (hq : q ≤ 800000000) (h0 : 0 ≤ many) (h8 : many ≤ 8) (hn : n ≤ 1000000000) :
    Calls Tryz.prog 51 #[.pointer (some ⟨g, 0, none⟩), .int .i64 many, .int .i64 n] w (BxsOut w g q 100 11) := by
  have hal : Below w.heap.size w (w.alloc (.cells #[] 79)) := (Below.refl _ _).alloc (Nat.le_refl _) _
  have hown : (w.alloc (.cells #[] 79)).ownsRow w.heap.size 79 5 (.slice (some ⟨w.heap.size, 0, none⟩) 0 0) 0 [] := own_of_blk (cs := []) (Blk.new _ _ _) (Nat.le_refl _) rfl (by decide)
  have D0 : BxsAt w (w.alloc (.cells #[] 79)) w.heap.size g q (some ⟨w.heap.size, 0, none⟩) 0 0 [] := ⟨hown, hr.kept hal, only_below hal g, rfl, by simp, hr.lt, Nat.le_refl _⟩
  have HD0 := Lib.hid D0
  have e1 : IntKind.i64.wrap (many + 1) = many + 1 := IntWalk.i64_in _ (by omega)
  clear hal hown D0 hr
  go_enter Tryz.func51, Tryz.ntmps51
  go_wp2_with fail
  refine (pick_any g q (many + 1) _ HD0.out.rd (by omega) (by omega)).mono ?_
  rintro e w1 ⟨v1, rfl, ⟨hv0, hv1, _⟩, hr1, hg1⟩
  have hv1 := hv1 (by omega)
  have HD1 := Lib.hid (HD0.out.pick hr1 hg1)
  clear HD0 hr1 hg1
  go_wp2_with fail
  go_loopw [7, 8] (fun v i wr => ∃ (k : Int) (p c2 q2 : Nat) (A2 : Option Addr) (L : List BoxV), i = .int .i64 k ∧ v = .slice A2 p c2 ∧ 0 ≤ k ∧ (p : Int) + k ≤ 8 ∧ q + 1 ≤ q2 ∧ q2 ≤ q + 1 + 8 * p ∧ BxsAt w wr w.heap.size g q2 A2 p c2 L) (fun _ i _ => (intOf i).toNat)
  case atStart => exact ⟨v1, 0, 0, q + 1, _, [], rfl, rfl, hv0, by omega, by omega, by omega, HD1.out⟩
  case round =>
    clear HD1 e1
    obtain ⟨k, p, c2, q2, A2, L, rfl, rfl, hk0, hpk, hq1, hq2, hD⟩ := hrel
    have HD := Lib.hid hD
    clear hD
    by_cases hlt : 0 < k
    · have e2 : IntKind.i64.wrap ((p : Int) + 1) = (p : Int) + 1 := IntWalk.i64_in _ (by omega)
      have e3 : IntKind.i64.wrap (k - 1) = k - 1 := IntWalk.i64_in _ (by omega)
      go_wp2_with fail
      refine (l20Box_any g q2 ((p : Int) + 1) 0 _ HD.out.rd (by omega) (by omega)).mono ?_
      rintro e w3 ⟨_, rfl, x, q3, rfl, hx, hq3, hq3', hr3, hg3⟩
      have HD3 := Lib.hid (HD.out.pick hr3 hg3)
      have HX := Lib.hid hx
      have hs3 : w.heap.size ≤ w3.heap.size := HD3.out.gr.size
      clear HD hr3 hg3 hx
      go_wp2_with (at_builtin; refine append_new rfl (.tmp 18) (.tmp 24) 28 rfl 79 _ _ _ Tryz.underlying28 box_infoD w.heap.size w3 (.slice A2 p c2) p (boxs L) rfl HD3.out.own [.int .i64 x.f0, .int .i64 x.f1, .int .i64 x.f2, .int .i64 x.f3, .bool x.f4] (by first | rfl | (simp; with_unfolding_all rfl)) rfl (by simp [Value.oneCell']) (by omega) hs3 ?_; intro v' w4 hown4 hg4 hblk4)
      obtain ⟨A6, c6, rfl, _, _⟩ := own_slice hown4
      have HD6 := Lib.hid (HD3.out.app (ys := [x]) (by rw [boxs_append, boxs_one]; exact hown4) hg4 (by rw [List.length_append, HD3.out.len]; rfl) (by intro y hy; rw [List.mem_singleton] at hy; subst hy; exact HX.out))
      clear HD3 hown4 hg4 hblk4
      go_roundw
      case rel => exact ⟨k - 1, p + 1, c6, q3, A6, L ++ [x], by go_num, rfl, by omega, by omega, by omega, by omega, HD6.out⟩
      case measure => simp [intOf]; omega
    · go_wp2_with fail
      refine (odd_any g q2 n _ HD.out.rd (by omega) (by omega)).mono ?_
      rintro e w3 ⟨bo, rfl, q3, hq3, hq3', hr3, hg3⟩
      have HD3 := Lib.hid (HD.out.pick hr3 hg3)
      clear HD hr3 hg3
      cases bo with
      | false =>
        go_wp2_with fail
        go_ret
        exact BxsOut.mk HD3.out (by omega) (by omega) (by omega)
      | true =>
        go_wp2_with fail
        refine (pick_any g q3 3 _ HD3.out.rd (by omega) (by omega)).mono ?_
        rintro e w4 ⟨v4, rfl, _, hr4, hg4⟩
        have HD4 := Lib.hid (HD3.out.pick hr4 hg4)
        have hs4 : w.heap.size ≤ w4.heap.size := HD4.out.gr.size
        clear HD3 hr4 hg4
        by_cases k4 : v4 = 0
        · have t4 : (v4 == 0) = true := by simp [k4]
          have hmk : (Instr.makeSlice 28 (.int .i64 11) (.int .i64 11)).run Tryz.prog w4 = .ok (.slice (some ⟨w4.heap.size, 0, none⟩) 11 11) (w4.alloc (.cells (boxs (List.replicate 11 ⟨0, 0, 0, 0, false⟩)).toArray 79)) := by rw [boxs_rep]; exact make_box 11 (by omega) w4
          have hz : (boxs (List.replicate 11 (⟨0, 0, 0, 0, false⟩ : BoxV))).length = 11 * 5 := by rw [boxs_len, List.length_replicate]
          have HZ : Hid (BxsAt w (w4.alloc (.cells (boxs (List.replicate 11 ⟨0, 0, 0, 0, false⟩)).toArray 79)) w.heap.size g (q3 + 1) (some ⟨w4.heap.size, 0, none⟩) 11 11 (List.replicate 11 ⟨0, 0, 0, 0, false⟩)) := Lib.hid ⟨own_of_blk (Blk.new _ _ _) hs4 hz (by decide), bx_rdAlloc HD4.out.rd _, bx_alloc HD4.out.gr _, by simp, fun x hx => by
            obtain ⟨_, rfl⟩ := List.mem_replicate.1 hx
            exact bxBd_mk (by decide) (by decide), HD4.out.lt, HD4.out.base⟩
          clear k4 hz
          generalize boxs (List.replicate 11 (⟨0, 0, 0, 0, false⟩ : BoxV)) = bz at *
          go_wp2_with fail
          go_ret
          exact BxsOut.mk HZ.out (by omega) (by omega) (by omega)
        · have t4 : (v4 == 0) = false := by simpa using k4
          by_cases k5 : v4 = 1
          · have t5 : (v4 == 1) = true := by simp [k5]
            clear k4 k5
            go_wp2_with fail
            refine (l20Box_any g (q3 + 1) 50 1 _ HD4.out.rd (by omega) (by omega)).mono ?_
            rintro e w5 ⟨_, rfl, x, q5, rfl, hx, hq5, hq5', hr5, hg5⟩
            have HD5 := Lib.hid (HD4.out.pick hr5 hg5)
            have HX := Lib.hid hx
            have hs5 : w.heap.size ≤ w5.heap.size := HD5.out.gr.size
            clear HD4 hr5 hg5 hx
            go_wp2_with (at_builtin; refine append_new rfl (.tmp 41) (.tmp 44) 28 rfl 79 _ _ _ Tryz.underlying28 box_infoD w.heap.size w5 (.slice A2 p c2) p (boxs L) rfl HD5.out.own [.int .i64 x.f0, .int .i64 x.f1, .int .i64 x.f2, .int .i64 x.f3, .bool x.f4] (by first | rfl | (simp; with_unfolding_all rfl)) rfl (by simp [Value.oneCell']) (by omega) hs5 ?_; intro v' w6 hown6 hg6 hblk6)
            obtain ⟨A6, c6, rfl, _, _⟩ := own_slice hown6
            have HD6 := Lib.hid (HD5.out.app (ys := [x]) (by rw [boxs_append, boxs_one]; exact hown6) hg6 (by rw [List.length_append, HD5.out.len]; rfl) (by intro y hy; rw [List.mem_singleton] at hy; subst hy; exact HX.out))
            clear HD5 hown6 hg6 hblk6
            go_ret
            exact BxsOut.mk HD6.out (by omega) (by omega) (by omega)
          · have t5 : (v4 == 1) = false := by simpa using k5
            clear k4 k5
            have hZ := Blk.new w4 79 [.int .i64 7, .int .i64 3, .int .i64 0, .int .i64 0, .bool false, .int .i64 7, .int .i64 4, .int .i64 0, .int .i64 0, .bool false]
            have HDa := Lib.hid (HD4.out.alloc (.cells #[.int .i64 7, .int .i64 3, .int .i64 0, .int .i64 0, .bool false, .int .i64 7, .int .i64 4, .int .i64 0, .int .i64 0, .bool false] 79))
            go_wp2_with (at_builtin; refine append_src rfl (.tmp 31) (.tmp 34) 28 rfl 79 _ _ _ Tryz.underlying28 box_infoD w.heap.size _ (.slice A2 p c2) p (boxs L) rfl HDa.out.own (some ⟨w4.heap.size, 0, none⟩) 2 2 (boxs [⟨7, 3, 0, 0, false⟩, ⟨7, 4, 0, 0, false⟩]) (by first | rfl | (simp; with_unfolding_all rfl)) rfl hZ.rd (boxs_cell _) (by omega) HDa.out.gr.size ?_; intro v' w6 hown6 hg6 hblk6)
            obtain ⟨A6, c6, rfl, _, _⟩ := own_slice hown6
            have HD6 := Lib.hid (HDa.out.app (ys := [⟨7, 3, 0, 0, false⟩, ⟨7, 4, 0, 0, false⟩]) (by rw [boxs_append]; exact hown6) hg6 (by rw [List.length_append, HDa.out.len]; rfl) (by
              intro y hy
              simp only [List.mem_cons, List.not_mem_nil, or_false] at hy
              rcases hy with rfl | rfl
              · exact bxBd_mk (by decide) (by decide)
              · exact bxBd_mk (by decide) (by decide)))
            clear HD4 HDa hown6 hg6 hblk6 hZ
            go_ret
            exact BxsOut.mk HD6.out (by omega) (by omega) (by omega)
end Go.Proofs.YtbkfhcbecejomaaGreat
