/- What was told and what was seen, drawn. -/
import Derived.Test.YtbhnlooellgfaaaDrawBxs
namespace Go.Proofs.Ytbhnlooellgfaaa
open Go Go.ChangeShapes Go.WideShapes Go.ChangeAt Go.RowKit
set_option linter.unusedVariables false
set_option linter.unusedSimpArgs false
/-- two lists of boxes, the younger one still in the making -/
structure ToldAt (w W : World) (s1 g q : Nat) (A : Option Addr) (n c : Nat) (zs : List BoxV) (B : Option Addr) (m d : Nat) (ss : List BoxV) : Prop where
  told : OwnI W w.heap.size s1 40 5 (.slice A n c) n (boxs zs)
  seen : BxsAt w W s1 g q B m d ss
  len : zs.length = n
  bd : ∀ x ∈ zs, BxBd x
  g0 : g < w.heap.size
section
variable {w W W' : World} {s1 g q q' n c m d : Nat} {A B : Option Addr} {zs ss : List BoxV}
theorem ToldAt.top (h : ToldAt w W s1 g q A n c zs B m d ss) : s1 ≤ W.heap.size := h.told.top
theorem ToldAt.pick (h : ToldAt w W s1 g q A n c zs B m d ss) (hr : Rdr W' g q') (hg : W.grownBy W' (some g)) : ToldAt w W' s1 g q' A n c zs B m d ss :=
  ⟨h.told.out (out_of_grown (lo := g) (hi := g + 1) hg (fun b e => by injection e with e; omega)) (.inr (by have := h.g0; omega)), h.seen.pick hr hg, h.len, h.bd, h.g0⟩
theorem ToldAt.alloc (h : ToldAt w W s1 g q A n c zs B m d ss) (o : Obj) : ToldAt w (W.alloc o) s1 g q A n c zs B m d ss := ⟨h.told.later ((Below.refl _ _).alloc (Nat.le_refl _) _), h.seen.alloc o, h.len, h.bd, h.g0⟩
theorem ToldAt.app {B' : Option Addr} {m' d' : Nat} {ys : List BoxV} (h : ToldAt w W s1 g q A n c zs B m d ss) (ho : W'.ownsRow s1 40 5 (.slice B' m' d') m' (boxs (ss ++ ys))) (hg : W.grownBy W' (Value.slice B m d).ownBlock) (hl : (ss ++ ys).length = m') (hb : ∀ x ∈ ys, BxBd x) : ToldAt w W' s1 g q A n c zs B' m' d' (ss ++ ys) :=
  ⟨h.told.out (out_of_grown (lo := s1) (hi := W.heap.size) hg (fun b e => h.seen.own.lt b e)) (.inl (Nat.le_refl _)), h.seen.app ho hg hl hb, h.len, h.bd, h.g0⟩
theorem ToldAt.store (h : ToldAt w W s1 g q A n c zs B m d ss) {p : Addr} (hp : s1 ≤ p.block) (hne : (Value.slice B m d).ownBlock ≠ some p.block) (u : Value) : ToldAt w (W.setCell p u) s1 g q A n c zs B m d ss := by
  have hgr : W.grownBy (W.setCell p u) (some p.block) := ⟨rfl, rfl, rfl, by simp [World.setCell], fun k _ hk => Below.heap_setCell W p u k (by intro e; exact hk (by rw [e]))⟩
  exact ⟨h.told.out (out_of_grown (lo := s1) (hi := p.block + 1) hgr (fun b e => by injection e with e; omega)) (.inl (Nat.le_refl _)),
    ⟨own_only h.seen.own hgr hne, bx_rd h.seen.rd (by have := h.seen.lt; omega) u, bx_set h.seen.gr (by have := h.seen.base; omega) u, h.seen.len, h.seen.bd, h.seen.lt, h.seen.base⟩, h.len, h.bd, h.g0⟩
end
theorem ownI_ne {W : World} {lo hi g k n c : Nat} {e : TypeId} {A : Option Addr} {xs : List Value} (h : OwnI W lo hi e k (.slice A n c) n xs) (hg : g < lo) : ∀ b o, A = some ⟨b, o, none⟩ → b ≠ g := by
  intro b o e
  rcases own_form h.row with ⟨hv, _, _⟩ | ⟨g', c', hv, hb, _, _⟩
  · injection hv with e1 _ _
    rw [e1] at e; cases e
  · injection hv with e1 _ _
    rw [e1] at e
    injection e with e
    injection e with e2 _
    omega
/-- two lists that can be read -/
structure TwoRd (w w' : World) (g q B : Nat) (A : Option Addr) (n c : Nat) (zs : List BoxV) (A2 : Option Addr) (m d : Nat) (ss : List BoxV) : Prop where
  rd1 : RdV w' A (boxs zs)
  rd2 : RdV w' A2 (boxs ss)
  len1 : zs.length = n
  len2 : ss.length = m
  cap1 : n ≤ c
  cap2 : m ≤ d
  mx1 : n ≤ 20
  mx2 : m ≤ 20
  gr : w.grownBy w' (some g)
  rdr : ∃ q', q' ≤ q + B ∧ Rdr w' g q'
  ne1 : ∀ b o, A = some ⟨b, o, none⟩ → b ≠ g
def TwoOut (w : World) (g q B : Nat) : Ending → World → Prop := RVal fun v w' => ∃ A n c zs A2 m d ss, v = .tuple #[.slice A n c, .slice A2 m d] ∧ TwoRd w w' g q B A n c zs A2 m d ss
set_option maxRecDepth 100000 in
set_option maxHeartbeats 16000000 in
theorem l20Told_any (g q : Nat) (n0 : Int) (w : World) (hr : Rdr w g q) (hq : q ≤ 700000000) (hn0 : 0 ≤ n0) (hn : n0 ≤ 1000) :
    Calls Try.prog 42 #[.pointer (some ⟨g, 0, none⟩), .int .i64 n0] w (TwoOut w g q 1000) := by
  have e1 : IntKind.i64.wrap (2 * n0) = 2 * n0 := IntWalk.i64_in _ (by omega)
  have hg0 := hr.lt
  go_enter Try.func42, Try.ntmps42
  go_wp2_with fail
  refine (l20Boxes_any g q 8 (2 * n0) _ hr (by omega) (by omega) (by omega) (by omega)).mono ?_
  rintro e w1 ⟨_, rfl, A, n, c, zs, q1, rfl, hn11, hqa, hqb, hD⟩
  obtain ⟨_, _, ecap, hnc, _⟩ := own_slice hD.own
  injection ecap with ec1 _ ec3
  subst ec1 ec3
  have hal : Below w1.heap.size w1 (w1.alloc (.cells #[] 40)) := (Below.refl _ _).alloc (Nat.le_refl _) _
  have hown : (w1.alloc (.cells #[] 40)).ownsRow w1.heap.size 40 5 (.slice (some ⟨w1.heap.size, 0, none⟩) 0 0) 0 [] := own_of_blk (cs := []) (Blk.new _ _ _) (Nat.le_refl _) rfl (by decide)
  have HT1 : Hid (ToldAt w (w1.alloc (.cells #[] 40)) w1.heap.size g q1 A n c zs (some ⟨w1.heap.size, 0, none⟩) 0 0 []) := Lib.hid
    ⟨(OwnI.of hD.own).later hal, ⟨hown, bx_rdAlloc hD.rd _, bx_alloc hD.gr _, rfl, by simp, by have := hD.gr.size; omega, hD.gr.size⟩, hD.len, hD.bd, hg0⟩
  clear hD hal hown hr
  have e2 : IntKind.i64.wrap ((n : Int) - 1) = (n : Int) - 1 := IntWalk.i64_in _ (by omega)
  go_wp2_with fail
  generalize w1.alloc (.cells #[] 40) = w2 at *
  generalize w1.heap.size = s1 at *
  go_loopw [7, 8, 9] (fun v i _ wr => ∃ (k : Int) (p : Nat) (B : Option Addr) (d q2 : Nat) (L : List BoxV), i = .int .i64 k ∧ v = .slice B p d ∧ -1 ≤ k ∧ (p : Int) + k + 1 ≤ n ∧ q1 ≤ q2 ∧ (q2 : Int) ≤ q1 + 2 * ((n : Int) - 1 - k) ∧ ToldAt w wr s1 g q2 A n c zs B p d L) (fun _ i _ _ => (intOf i + 1).toNat)
  case atStart => exact ⟨(n : Int) - 1, 0, _, 0, q1, [], rfl, rfl, by omega, by omega, Nat.le_refl _, by omega, HT1.out⟩
  case round =>
    clear HT1 e1 e2
    obtain ⟨k, p, B, d, q2, L, rfl, rfl, hk0, hpk, hq1, hq2, hD⟩ := hrel
    have HD := Lib.hid hD
    clear hD
    by_cases hlt : 0 ≤ k
    · obtain ⟨kn, rfl⟩ := Int.eq_ofNat_of_zero_le hlt
      have hkz : kn < zs.length := by rw [HD.out.len]; omega
      obtain ⟨b, o, rfl, hl, q0, q1', q2', q3, q4⟩ := (HD.out.told.rd).boxAt hkz
      have HZ := Lib.hid (HD.out.bd zs[kn] (List.getElem_mem hkz))
      have hz1 := HZ.out
      generalize zs[kn] = y at *
      obtain ⟨y0, y1, y2, y3, y4⟩ := y
      obtain ⟨hz1, hz2⟩ : 0 ≤ y1 ∧ y1 ≤ 31 := hz1
      dsimp only at q0 q1' q2' q3 q4
      have hkn : (kn : Int) < (n : Int) := by omega
      have HD4 := Lib.hid (HD.out.alloc (.cells #[.int .i64 y0, .int .i64 y1, .int .i64 y2, .int .i64 y3, .bool y4] 40))
      have hX4 := Blk.new wr 40 (boxC ⟨y0, y1, y2, y3, y4⟩)
      have hgx : g < wr.heap.size := HD.out.seen.rd.lt
      have hsx : s1 ≤ wr.heap.size := HD.out.top
      have hne : (Value.slice B p d).ownBlock ≠ some wr.heap.size := fun e => by have := (HD.out.seen.own.lt _ e).2; omega
      have e3 : IntKind.i64.wrap ((kn : Int) - 1) = (kn : Int) - 1 := IntWalk.i64_in _ (by omega)
      clear HD
      go_wp2_with fail
      refine (pick_any g q2 4 _ HD4.out.seen.rd (by omega) (by omega)).mono ?_
      rintro e w5 ⟨v5, rfl, _, hr5, hg5⟩
      have HD5 := Lib.hid (HD4.out.pick hr5 hg5)
      have HB5 := Lib.hid (hX4.only hg5 (by omega))
      clear HD4 hX4 hr5 hg5 q0 q1' q2' q3 q4
      generalize wr.heap.size = xb at *
      generalize hkk : (kn : Int) = k at *
      have HKK := Lib.hid hkk
      clear hkk hkz
      have c0 := (HB5.out).cellAt 0 (by simp [boxC])
      have c1 := (HB5.out).cellAt 1 (by simp [boxC])
      have c2' := (HB5.out).cellAt 2 (by simp [boxC])
      have c3 := (HB5.out).cellAt 3 (by simp [boxC])
      have c4 := (HB5.out).cellAt 4 (by simp [boxC])
      have f1 := (HB5.out).frozen 1
      simp only [boxC, List.getElem_cons_zero, List.getElem_cons_succ] at c0 c1 c2' c3 c4
      by_cases k5 : v5 = 0
      · have t5 : (v5 == 0) = true := by simp [k5]
        clear k5
        by_cases k6 : 1 < y1
        · have t6 : decide (1 < y1) = true := decide_eq_true k6
          have e4 : IntKind.i64.wrap (y1 - 1) = y1 - 1 := IntWalk.i64_in _ (by omega)
          have HDs := Lib.hid (HD5.out.store (p := ⟨xb, 1, none⟩) hsx hne (.int .i64 (y1 - 1)))
          have hBs := HB5.out.set_ 1 (.int .i64 (y1 - 1))
          have HBs : Hid (Blk (w5.setCell ⟨xb, 1, none⟩ (.int .i64 (y1 - 1))) xb 40 (boxC ⟨y0, y1 - 1, y2, y3, y4⟩)) := Lib.hid hBs
          have HZ : Hid (BxBd ⟨y0, y1 - 1, y2, y3, y4⟩) := Lib.hid (bxBd_mk (by omega) (by omega))
          clear HD5 HB5 hBs
          go_wp2_with fail
          generalize w5.setCell ⟨xb, 1, none⟩ (.int .i64 (y1 - 1)) = w5' at *
          clear c0 c1 c2' c3 c4 f1
          refine (pick_any g (q2 + 1) 5 _ HDs.out.seen.rd (by omega) (by omega)).mono ?_
          rintro e w6 ⟨v6, rfl, _, hr6, hg6⟩
          have HD6 := Lib.hid (HDs.out.pick hr6 hg6)
          have HB6 := Lib.hid (HBs.out.only hg6 (by omega))
          have hs6 : s1 ≤ w6.heap.size := HD6.out.top
          clear hr6 hg6
          have c0 := (HB6.out).cellAt 0 (by simp [boxC])
          have c1 := (HB6.out).cellAt 1 (by simp [boxC])
          have c2' := (HB6.out).cellAt 2 (by simp [boxC])
          have c3 := (HB6.out).cellAt 3 (by simp [boxC])
          have c4 := (HB6.out).cellAt 4 (by simp [boxC])
          have f1 := (HB6.out).frozen 1
          simp only [boxC, List.getElem_cons_zero, List.getElem_cons_succ] at c0 c1 c2' c3 c4
          by_cases k6 : 0 < v6
          · go_wp2_with (at_builtin; refine append_new rfl (.tmp 42) (.tmp 44) 24 rfl 40 _ _ _ Try.underlying24 box_infoD s1 w6 (.slice B p d) p (boxs L) rfl HD6.out.seen.own [.int .i64 y0, .int .i64 (y1 - 1), .int .i64 y2, .int .i64 y3, .bool y4] (by first | rfl | (simp; with_unfolding_all rfl)) rfl (by simp [Value.oneCell']) (by omega) hs6 ?_; intro v' w7 hown7 hg7 hblk7)
            obtain ⟨A7, c7, rfl, _, _⟩ := own_slice hown7
            have HD7 := Lib.hid (HD6.out.app (ys := [⟨y0, y1 - 1, y2, y3, y4⟩]) (by rw [boxs_append, boxs_one]; exact hown7) hg7 (by rw [List.length_append, HD6.out.seen.len]; rfl) (by intro y hy; rw [List.mem_singleton] at hy; subst hy; exact HZ.out))
            clear HD6 hown7 hg7 hblk7
            go_roundw
            case rel => exact ⟨k - 1, p + 1, A7, c7, q2 + 1 + 1, L ++ [⟨y0, y1 - 1, y2, y3, y4⟩], by go_num, rfl, by omega, by omega, by omega, by omega, HD7.out⟩
            case measure => have := HKK.out; simp [intOf]; omega
          · go_wp2_with fail
            go_roundw
            case rel => exact ⟨k - 1, p, B, d, q2 + 1 + 1, L, by go_num, rfl, by omega, by omega, by omega, by omega, HD6.out⟩
            case measure => have := HKK.out; simp [intOf]; omega
        · have t6 : decide (1 < y1) = false := decide_eq_false k6
          go_wp2_with fail
          clear c0 c1 c2' c3 c4 f1
          refine (pick_any g (q2 + 1) 5 _ HD5.out.seen.rd (by omega) (by omega)).mono ?_
          rintro e w6 ⟨v6, rfl, _, hr6, hg6⟩
          have HD6 := Lib.hid (HD5.out.pick hr6 hg6)
          have HB6 := Lib.hid (HB5.out.only hg6 (by omega))
          have hs6 : s1 ≤ w6.heap.size := HD6.out.top
          clear hr6 hg6
          have c0 := (HB6.out).cellAt 0 (by simp [boxC])
          have c1 := (HB6.out).cellAt 1 (by simp [boxC])
          have c2' := (HB6.out).cellAt 2 (by simp [boxC])
          have c3 := (HB6.out).cellAt 3 (by simp [boxC])
          have c4 := (HB6.out).cellAt 4 (by simp [boxC])
          have f1 := (HB6.out).frozen 1
          simp only [boxC, List.getElem_cons_zero, List.getElem_cons_succ] at c0 c1 c2' c3 c4
          by_cases k6 : 0 < v6
          · go_wp2_with (at_builtin; refine append_new rfl (.tmp 42) (.tmp 44) 24 rfl 40 _ _ _ Try.underlying24 box_infoD s1 w6 (.slice B p d) p (boxs L) rfl HD6.out.seen.own [.int .i64 y0, .int .i64 (y1), .int .i64 y2, .int .i64 y3, .bool y4] (by first | rfl | (simp; with_unfolding_all rfl)) rfl (by simp [Value.oneCell']) (by omega) hs6 ?_; intro v' w7 hown7 hg7 hblk7)
            obtain ⟨A7, c7, rfl, _, _⟩ := own_slice hown7
            have HD7 := Lib.hid (HD6.out.app (ys := [⟨y0, y1, y2, y3, y4⟩]) (by rw [boxs_append, boxs_one]; exact hown7) hg7 (by rw [List.length_append, HD6.out.seen.len]; rfl) (by intro y hy; rw [List.mem_singleton] at hy; subst hy; exact HZ.out))
            clear HD6 hown7 hg7 hblk7
            go_roundw
            case rel => exact ⟨k - 1, p + 1, A7, c7, q2 + 1 + 1, L ++ [⟨y0, y1, y2, y3, y4⟩], by go_num, rfl, by omega, by omega, by omega, by omega, HD7.out⟩
            case measure => have := HKK.out; simp [intOf]; omega
          · go_wp2_with fail
            go_roundw
            case rel => exact ⟨k - 1, p, B, d, q2 + 1 + 1, L, by go_num, rfl, by omega, by omega, by omega, by omega, HD6.out⟩
            case measure => have := HKK.out; simp [intOf]; omega
      · have t5 : (v5 == 0) = false := by simpa using k5
        clear k5
        go_wp2_with fail
        clear c0 c1 c2' c3 c4 f1
        refine (pick_any g (q2 + 1) 5 _ HD5.out.seen.rd (by omega) (by omega)).mono ?_
        rintro e w6 ⟨v6, rfl, _, hr6, hg6⟩
        have HD6 := Lib.hid (HD5.out.pick hr6 hg6)
        have HB6 := Lib.hid (HB5.out.only hg6 (by omega))
        have hs6 : s1 ≤ w6.heap.size := HD6.out.top
        clear hr6 hg6
        have c0 := (HB6.out).cellAt 0 (by simp [boxC])
        have c1 := (HB6.out).cellAt 1 (by simp [boxC])
        have c2' := (HB6.out).cellAt 2 (by simp [boxC])
        have c3 := (HB6.out).cellAt 3 (by simp [boxC])
        have c4 := (HB6.out).cellAt 4 (by simp [boxC])
        have f1 := (HB6.out).frozen 1
        simp only [boxC, List.getElem_cons_zero, List.getElem_cons_succ] at c0 c1 c2' c3 c4
        by_cases k6 : 0 < v6
        · go_wp2_with (at_builtin; refine append_new rfl (.tmp 42) (.tmp 44) 24 rfl 40 _ _ _ Try.underlying24 box_infoD s1 w6 (.slice B p d) p (boxs L) rfl HD6.out.seen.own [.int .i64 y0, .int .i64 (y1), .int .i64 y2, .int .i64 y3, .bool y4] (by first | rfl | (simp; with_unfolding_all rfl)) rfl (by simp [Value.oneCell']) (by omega) hs6 ?_; intro v' w7 hown7 hg7 hblk7)
          obtain ⟨A7, c7, rfl, _, _⟩ := own_slice hown7
          have HD7 := Lib.hid (HD6.out.app (ys := [⟨y0, y1, y2, y3, y4⟩]) (by rw [boxs_append, boxs_one]; exact hown7) hg7 (by rw [List.length_append, HD6.out.seen.len]; rfl) (by intro y hy; rw [List.mem_singleton] at hy; subst hy; exact HZ.out))
          clear HD6 hown7 hg7 hblk7
          go_roundw
          case rel => exact ⟨k - 1, p + 1, A7, c7, q2 + 1 + 1, L ++ [⟨y0, y1, y2, y3, y4⟩], by go_num, rfl, by omega, by omega, by omega, by omega, HD7.out⟩
          case measure => have := HKK.out; simp [intOf]; omega
        · go_wp2_with fail
          go_roundw
          case rel => exact ⟨k - 1, p, B, d, q2 + 1 + 1, L, by go_num, rfl, by omega, by omega, by omega, by omega, HD6.out⟩
          case measure => have := HKK.out; simp [intOf]; omega
    · have hp : p ≤ 11 := by omega
      have hq2' : q2 ≤ q + 200 := by omega
      clear hq2 hpk
      go_wp2_with fail
      refine (pick_any g q2 3 _ HD.out.seen.rd (by omega) (by omega)).mono ?_
      rintro e w5 ⟨v5, rfl, ⟨hv0, hv1, _⟩, hr5, hg5⟩
      have hv1 := hv1 (by omega)
      have HD5 := Lib.hid (HD.out.pick hr5 hg5)
      clear HD hr5 hg5
      go_wp2_with fail
      go_loopw [7, 10] (fun v i wr => ∃ (k : Int) (p : Nat) (B : Option Addr) (d q2 : Nat) (L : List BoxV), i = .int .i64 k ∧ v = .slice B p d ∧ 0 ≤ k ∧ k ≤ 2 ∧ (p : Int) + k ≤ 13 ∧ (q2 : Int) + 8 * k ≤ q + 220 ∧ ToldAt w wr s1 g q2 A n c zs B p d L) (fun _ i _ => (intOf i).toNat)
      case atStart => exact ⟨v5, p, B, d, q2 + 1, L, rfl, rfl, hv0, by omega, by omega, by omega, HD5.out⟩
      case round =>
        clear HD5 hp hq2' hv0 hv1 hq1
        obtain ⟨k, p, B, d, q2, L, rfl, rfl, hk0, hk2, hpk, hq2, hD⟩ := hrel
        have HD := Lib.hid hD
        clear hD
        by_cases hlt : 0 < k
        · have e3 : IntKind.i64.wrap (k - 1) = k - 1 := IntWalk.i64_in _ (by omega)
          have e4 : IntKind.i64.wrap (40 + k) = 40 + k := IntWalk.i64_in _ (by omega)
          go_wp2_with fail
          refine (l20Box_any g q2 (40 + k) 0 _ HD.out.seen.rd (by omega) (by omega)).mono ?_
          rintro e w6 ⟨_, rfl, x, q3, rfl, hx, hq3, hq3', hr6, hg6⟩
          have HD6 := Lib.hid (HD.out.pick hr6 hg6)
          have HZ := Lib.hid hx
          have hs6 : s1 ≤ w6.heap.size := HD6.out.top
          clear HD hr6 hg6 hx
          go_wp2_with (at_builtin; refine append_new rfl (.tmp 52) (.tmp 57) 24 rfl 40 _ _ _ Try.underlying24 box_infoD s1 w6 (.slice B p d) p (boxs L) rfl HD6.out.seen.own [.int .i64 x.f0, .int .i64 x.f1, .int .i64 x.f2, .int .i64 x.f3, .bool x.f4] (by first | rfl | (simp; with_unfolding_all rfl)) rfl (by simp [Value.oneCell']) (by omega) hs6 ?_; intro v' w7 hown7 hg7 hblk7)
          obtain ⟨A7, c7, rfl, _, _⟩ := own_slice hown7
          have HD7 := Lib.hid (HD6.out.app (ys := [x]) (by rw [boxs_append, boxs_one]; exact hown7) hg7 (by rw [List.length_append, HD6.out.seen.len]; rfl) (by intro y hy; rw [List.mem_singleton] at hy; subst hy; exact HZ.out))
          clear HD6 hown7 hg7 hblk7
          go_roundw
          case rel => exact ⟨k - 1, p + 1, A7, c7, q3, L ++ [x], by go_num, rfl, by omega, by omega, by omega, by omega, HD7.out⟩
          case measure => simp [intOf]; omega
        · have e1 : IntKind.i64.wrap (2 * n0) = 2 * n0 := IntWalk.i64_in _ (by omega)
          go_wp2_with fail
          refine (odd_any g q2 (2 * n0) _ HD.out.seen.rd (by omega) (by omega)).mono ?_
          rintro e w6 ⟨bo, rfl, q3, hq3, hq3', hr6, hg6⟩
          have HD6 := Lib.hid (HD.out.pick hr6 hg6)
          clear HD hr6 hg6
          cases bo with
          | false =>
            go_wp2_with fail
            go_ret2
            obtain ⟨_, _, ecap, hpd, _⟩ := own_slice HD6.out.seen.own
            injection ecap with _ _ ec3
            subst ec3
            exact RVal.mk ⟨A, n, c, zs, B, p, d, L, rfl, HD6.out.told.rd, own_rd HD6.out.seen.own, HD6.out.len, HD6.out.seen.len, hnc, hpd, by omega, by omega, HD6.out.seen.gr, ⟨q3, by omega, HD6.out.seen.rd⟩, ownI_ne HD6.out.told HD6.out.g0⟩
          | true =>
            go_wp2_with fail
            refine (l20Boxes_any g q3 8 1 _ HD6.out.seen.rd (by omega) (by omega) (by omega) (by omega)).mono ?_
            rintro e w7 ⟨_, rfl, B2, m2, d2, ss2, q7, rfl, hm11, hqa7, hqb7, hE⟩
            have hT7 := HD6.out.told.out (out_of_grown (lo := g) (hi := g + 1) hE.gr (fun b e => by injection e with e; omega)) (.inr (by have := HD6.out.g0; omega))
            have hgr7 := only_trans HD6.out.seen.gr hE.gr
            have HE := Lib.hid hE
            have HT7 := Lib.hid hT7
            have HG7 := Lib.hid hgr7
            have HL := Lib.hid HD6.out.len
            clear HD6 hE hT7 hgr7
            go_wp2_with fail
            go_ret2
            obtain ⟨_, _, ecap, hpd, _⟩ := own_slice HE.out.own
            injection ecap with _ _ ec3
            subst ec3
            exact RVal.mk ⟨A, n, c, zs, B2, m2, d2, ss2, rfl, HT7.out.rd, own_rd HE.out.own, HL.out, HE.out.len, hnc, hpd, by omega, by omega, HG7.out, ⟨q7, by omega, HE.out.rd⟩, ownI_ne HT7.out hg0⟩
end Go.Proofs.Ytbhnlooellgfaaa
