/- FnInboxValid returns true, for every code; no condition. -/
import Derived.Test.YtnbppfgfmhfgdaaDrawInbs
import Derived.Test.YtnbppfgfmhfgdaaAlive
import Derived.Test.YtnbppfgfmhfgdaaInbI
import Derived.Test.YtnbppfgfmhfgdaaInbS
import Derived.Test.YtnbppfgfmhfgdaaOwnSrc
namespace Go.Proofs.Ytnbppfgfmhfgdaa
open Go Go.ChangeShapes Go.WideShapes Go.ChangeAt Go.RowKit
theorem inbOk_none {next : Int} {held : List MessageV} (h : inbOk next held = true) : inbOk next [] = true := by
  obtain ⟨h1, h2, _⟩ := inbOk_bounds h
  exact inbOk_mk h1 h2 rfl
theorem inbOk_more (next : Int) (held : List MessageV) : inbOk next ([⟨next, 1⟩] ++ held) = false := by
  cases h : inbOk next ([⟨next, 1⟩] ++ held) with
  | false => rfl
  | true =>
    obtain ⟨_, _, h3⟩ := inbOk_bounds h
    obtain ⟨h4, _⟩ := inbGo_cons h3
    dsimp only at h4
    omega
set_option maxHeartbeats 2000000 in
theorem walkFnInboxValid (w : World) (A : Option Addr) (n c : Nat) (bs : List Int) (h : Code w A n c bs) :
    Calls Try.prog 5 #[.slice A n c] w fun e w' => e = .returned (.bool true) ∧ Below w.heap.size w w' := by
  by_cases hn : n ≤ 1048576
  · go_enter Try.func5, Try.ntmps5
    go_wp2_with fail
    refine (drawInboxValid_any A n c bs w h).mono ?_
    rintro e w1 ⟨_, rfl, next, A1, n1, c1, held, rfl, hq, hx0, hx1, hn7, b1⟩
    clear h hn
    have hal : Below w1.heap.size w1 (w1.alloc (.cells #[.int .i64 next, .slice A1 n1 c1] 29)) := (Below.refl _ _).alloc (Nat.le_refl _) _
    have hI : Blk (w1.alloc (.cells #[.int .i64 next, .slice A1 n1 c1] 29)) w1.heap.size 29 [.int .i64 next, .slice A1 n1 c1] := Blk.new _ _ _
    have hq2 := Lib.hid (hq.later hal)
    have HLEN := Lib.hid hq.len
    have B2 := Lib.hid (below_trans b1 hal)
    clear hq b1 hal
    go_wp2_with fail
    generalize w1.alloc (.cells #[.int .i64 next, .slice A1 n1 c1] 29) = w2 at *
    have i0 := hI.cellAt 0 (by simp)
    have i1 := hI.cellAt 1 (by simp)
    simp only [List.getElem_cons_zero, List.getElem_cons_succ] at i0 i1
    refine (implInboxValid next A1 n1 c1 held _ HLEN.out hq2.out.rd (by omega)).mono ?_
    rintro e w3 ⟨rfl, hb3⟩
    have hI3 := hI.later hb3
    have hq3 := Lib.hid (hq2.out.later hb3)
    have B3 := Lib.hid (below_trans B2.out hb3)
    have i0 := hI3.cellAt 0 (by simp)
    have i1 := hI3.cellAt 1 (by simp)
    simp only [List.getElem_cons_zero, List.getElem_cons_succ] at i0 i1
    clear hb3 hI hq2 B2
    go_wp2_with fail
    refine (specInboxValid next A1 n1 c1 held _ HLEN.out hq3.out.rd (by omega)).mono ?_
    rintro e w4 ⟨rfl, hb4⟩
    have hI4 := hI3.later hb4
    have hq4 := Lib.hid (hq3.out.later hb4)
    have B4 := Lib.hid (below_trans B3.out hb4)
    have i0 := hI4.cellAt 0 (by simp)
    have i1 := hI4.cellAt 1 (by simp)
    simp only [List.getElem_cons_zero, List.getElem_cons_succ] at i0 i1
    clear hb4 hI3 hq3 B3
    obtain ⟨ok, hok⟩ : ∃ ok, inbOk next held = ok := ⟨_, rfl⟩
    have HOK := Lib.hid hok
    rw [hok]
    clear hok
    have hbb : (ok != ok) = false := by simp
    have hal : Below w4.heap.size w4 (w4.alloc (.cells #[.int .i64 next, .int .i64 1] 41)) := (Below.refl _ _).alloc (Nat.le_refl _) _
    have hM : Blk (w4.alloc (.cells #[.int .i64 next, .int .i64 1] 41)) w4.heap.size 41 (messages [⟨next, 1⟩]) := Blk.new _ _ _
    have hI5 := hI4.later hal
    have HB5 := Lib.hid (below_trans B4.out hal)
    have HQ5 := Lib.hid (hq4.out.later hal)
    have j0 := hI5.cellAt 0 (by simp)
    have j1 := hI5.cellAt 1 (by simp)
    simp only [List.getElem_cons_zero, List.getElem_cons_succ] at j0 j1
    have hown := own_of_blk (base := w1.heap.size) (size := 2) (n := 1) hM (Nat.le_of_lt hI4.lt) rfl (by decide)
    have hbs : w1.heap.size ≤ (w4.alloc (.cells #[.int .i64 next, .int .i64 1] 41)).heap.size := Nat.le_of_lt hI5.lt
    have HLM : Hid ((messages held).length = n1 * 2) := Lib.hid (by rw [messages_len, HLEN.out])
    have HONE := Lib.hid (messages_cell held)
    have hneI : w4.heap.size ≠ w1.heap.size := Nat.ne_of_gt hI4.lt
    clear hal hM
    have hws : w.heap.size ≤ w4.heap.size := B4.out.size
    cases ok
    all_goals
      go_wp2_with (at_builtin; refine append_src rfl (.tmp 20) (.tmp 22) 27 rfl 41 _ _ _ Try.underlying27 message_infoD w1.heap.size _ (.slice (some ⟨w4.heap.size, 0, none⟩) 1 1) 1 _ rfl hown A1 n1 c1 (messages held) rfl HLM.out HQ5.out.rd HONE.out (by omega) hbs ?_; intro v' w5 hown5 hg5 hblk5; obtain ⟨A5, c5, rfl, _, _⟩ := own_slice hown5; have hI6 := (hg5.block w1.heap.size hI5.lt (fun e => hneI (by simpa [Value.ownBlock] using e.symm))).trans hI5; have k0 := Blk.cellAt hI6 0 (by simp); have k1 := Blk.cellAt hI6 1 (by simp); simp only [List.getElem_cons_zero, List.getElem_cons_succ] at k0 k1; have HO5 := Lib.hid hown5; have HB6 := Lib.hid (HB5.out.grown hg5 HB5.out.size (fun g e => by cases e; exact hws)); clear hg5 hblk5 hown5 hI5)
    · have RO := Lib.hid (show RdV w5 A5 (messages ([⟨next, 1⟩] ++ held)) from by rw [messages_app]; exact own_rd HO5.out)
      have HB7 := HB6
      refine (implInboxValid next A5 (1 + n1) c5 ([⟨next, 1⟩] ++ held) _ (by simp [HLEN.out]; omega) (RO.out) (by omega)).mono ?_
      rintro e w7 ⟨rfl, hb7⟩
      have HB8 := Lib.hid (below_trans HB7.out hb7)
      rw [inbOk_more]
      clear hb7
      go_wp2_with fail
      refine (alive_any _).mono ?_
      rintro e w' ⟨rfl, rfl⟩
      go_wp2_with fail
      go_ret
      exact ⟨rfl, HB8.out⟩
    · refine (implInboxValid next none 0 0 [] _ rfl RdV.nil_ (by omega)).mono ?_
      rintro e w6 ⟨rfl, hb6⟩
      rw [inbOk_none HOK.out]
      have RO := Lib.hid (show RdV w6 A5 (messages ([⟨next, 1⟩] ++ held)) from by rw [messages_app]; exact (own_rd HO5.out).below hb6)
      have HB7 := Lib.hid (below_trans HB6.out hb6)
      have hI7 := hb6.block w1.heap.size (Array.getElem?_eq_some_iff.1 hI6).1
      rw [hI6] at hI7
      have m0 := Blk.cellAt hI7 0 (by simp)
      have m1 := Blk.cellAt hI7 1 (by simp)
      simp only [List.getElem_cons_zero, List.getElem_cons_succ] at m0 m1
      clear hb6 hI7
      go_wp2_with fail
      refine (implInboxValid next A5 (1 + n1) c5 ([⟨next, 1⟩] ++ held) _ (by simp [HLEN.out]; omega) (RO.out) (by omega)).mono ?_
      rintro e w7 ⟨rfl, hb7⟩
      have HB8 := Lib.hid (below_trans HB7.out hb7)
      rw [inbOk_more]
      clear hb7
      go_wp2_with fail
      refine (alive_any _).mono ?_
      rintro e w' ⟨rfl, rfl⟩
      go_wp2_with fail
      go_ret
      exact ⟨rfl, HB8.out⟩
  · obtain ⟨_, hcap, hmax, _, _⟩ := h
    go_enter Try.func5, Try.ntmps5
    go_wp2_with fail
    go_ret
    exact ⟨rfl, Below.refl _ _⟩
end Go.Proofs.Ytnbppfgfmhfgdaa
