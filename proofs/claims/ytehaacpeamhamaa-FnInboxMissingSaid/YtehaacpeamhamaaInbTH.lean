/- The reference's holding of a message. -/
import Derived.Test.YtehaacpeamhamaaInbTS
namespace Go.Proofs.Ytehaacpeamhamaa
open Go Go.ChangeShapes Go.WideShapes Go.ChangeAt Go.RowKit
theorem holdM_lt {held : List MessageV} {m : MessageV} {k : Nat} (hk : k < held.length) (h : (held[k]).f0 < m.f0) : holdM (held.drop k) m = held[k] :: holdM (held.drop (k + 1)) m := by
  rw [List.drop_eq_getElem_cons hk, holdM, if_pos h]
theorem holdM_eq {held : List MessageV} {m : MessageV} {k : Nat} (hk : k < held.length) (h : (held[k]).f0 = m.f0) : holdM (held.drop k) m = held.drop k := by
  rw [List.drop_eq_getElem_cons hk, holdM, if_neg (by omega), if_pos h]
theorem holdM_gt {held : List MessageV} {m : MessageV} {k : Nat} (hk : k < held.length) (h : m.f0 < (held[k]).f0) : holdM (held.drop k) m = m :: held.drop k := by
  rw [List.drop_eq_getElem_cons hk, holdM, if_neg (by omega), if_neg (by omega)]
theorem holdM_end {held : List MessageV} {m : MessageV} {k : Nat} (hk : held.length ≤ k) : holdM (held.drop k) m = m :: held.drop k := by
  rw [List.drop_of_length_le hk, holdM]
theorem messages_app (a b : List MessageV) : messages (a ++ b) = messages a ++ messages b := cellsOf_append _ _ _
theorem rdV_tailM {w : World} {b oo k : Nat} {held : List MessageV} (h : RdV w (some ⟨b, oo, none⟩) (messages held)) (hk : k < held.length) : RdV w (some ⟨b, oo + k * 2, none⟩) (messages (held.drop k)) := by
  obtain ⟨b', o', e, hl, hc⟩ := h.pos (k := 0) (by rw [messages_len]; omega)
  injection e with e
  injection e with e1 e2
  subst e1 e2
  have hs : messages held = messages (held.take k) ++ messages (held.drop k) := by rw [← messages_app, List.take_append_drop]
  have hl2 : (messages (held.take k)).length = k * 2 := by rw [messages_len, List.length_take, Nat.min_eq_left (by omega)]
  refine .inr ⟨b, oo + k * 2, rfl, hl, fun j hj => ?_⟩
  have hlt : k * 2 + j < (messages held).length := by rw [hs, List.length_append, hl2]; omega
  have h1 := hc (k * 2 + j) hlt
  rw [← List.getElem?_eq_getElem hlt, hs, List.getElem?_append_right (by omega), hl2, Nat.add_sub_cancel_left, List.getElem?_eq_getElem hj, ← Nat.add_assoc] at h1
  exact h1
theorem own_same {w : World} {base : Nat} {e : TypeId} {v : Value} {n m : Nat} {xs ys : List Value} (h : w.ownsRow base e 2 v n xs) (hn : n = m) (hx : xs = ys) : w.ownsRow base e 2 v m ys := by subst hn hx; exact h
set_option maxHeartbeats 4000000 in
theorem l29Hold_any (A : Option Addr) (n c : Nat) (held : List MessageV) (x0 x1 : Int) (w : World) (hn : held.length = n) (hc : n ≤ c) (hr : RdV w A (messages held)) (hm : n ≤ 1048576) :
    Calls Try.prog 37 #[.slice A n c, .agg #[.int .i64 x0, .int .i64 x1]] w (RVal fun u w' => w'.ownsRow w.heap.size 35 2 u (holdM held ⟨x0, x1⟩).length (messages (holdM held ⟨x0, x1⟩)) ∧ Below w.heap.size w w') := by
  have HN := Lib.hid hn
  clear hn
  have hP0 : Blk (w.alloc (.cells #[.int .i64 x0, .int .i64 x1] 35)) w.heap.size 35 [.int .i64 x0, .int .i64 x1] := Blk.new _ _ _
  have hP : Blk ((w.alloc (.cells #[.int .i64 x0, .int .i64 x1] 35)).alloc (.cells #[] 35)) w.heap.size 35 [.int .i64 x0, .int .i64 x1] := hP0.alloc _
  have hB : Below w.heap.size w ((w.alloc (.cells #[.int .i64 x0, .int .i64 x1] 35)).alloc (.cells #[] 35)) := ((Below.refl _ _).alloc (Nat.le_refl _) _).alloc (by simp) _
  have ho : ((w.alloc (.cells #[.int .i64 x0, .int .i64 x1] 35)).alloc (.cells #[] 35)).ownsRow (w.heap.size + 1) 35 2 (.slice (some ⟨w.heap.size + 1, 0, none⟩) 0 0) 0 [] := own_of_blk (cs := []) (by simpa using Blk.new (w.alloc (.cells #[.int .i64 x0, .int .i64 x1] 35)) 35 []) (Nat.le_refl _) rfl (by decide)
  go_enter Try.func37, Try.ntmps37
  go_wp2_with fail
  go_loopw [5, 6] (fun o i wr => ∃ k : Nat, k ≤ n ∧ i = .int .i64 k ∧ Hid (holdM held ⟨x0, x1⟩ = held.take k ++ holdM (held.drop k) ⟨x0, x1⟩) ∧ wr.ownsRow (w.heap.size + 1) 35 2 o k (messages (held.take k)) ∧ Blk wr w.heap.size 35 [.int .i64 x0, .int .i64 x1] ∧ Below w.heap.size w wr) (fun _ i _ => n - (intOf i).toNat)
  case atStart => exact ⟨0, Nat.zero_le _, rfl, Lib.hid rfl, ho, hP, hB⟩
  case round =>
    obtain ⟨k, hk, rfl, HH, hown, P1, B1⟩ := hrel
    obtain ⟨OA, oc, rfl, _, _⟩ := own_slice hown
    have c0 := P1.cellAt 0 (by simp)
    have c1 := P1.cellAt 1 (by simp)
    simp only [List.getElem_cons_zero, List.getElem_cons_succ] at c0 c1
    have hplt := P1.lt
    have hsz : w.heap.size + 1 ≤ wr.heap.size := hplt
    by_cases hlt : k < n
    · have hke : k < held.length := by rw [HN.out]; exact hlt
      have hki : decide ((k : Int) < (n : Int)) = true := decide_eq_true (by omega)
      have hkj : (k : Int) < (n : Int) := by omega
      obtain ⟨b, oo, rfl, hl, hc0, hc1⟩ := (hr.below B1).messageAt hke
      have HT : Hid (messages (held.take (k + 1)) = messages (held.take k) ++ [.int .i64 (held[k]).f0, .int .i64 (held[k]).f1]) := Lib.hid (by rw [List.take_succ_eq_append_getElem hke, show messages = cellsOf messageC from rfl, cellsOf_append, cellsOf_one]; rfl)
      have HLT := Lib.hid (fun h : (held[k]).f0 < x0 => (show holdM held ⟨x0, x1⟩ = held.take (k + 1) ++ holdM (held.drop (k + 1)) ⟨x0, x1⟩ by rw [HH.out, holdM_lt (m := ⟨x0, x1⟩) hke h, List.take_succ_eq_append_getElem hke, List.append_assoc]; rfl))
      have HEQ := Lib.hid (fun h : (held[k]).f0 = x0 => (show holdM held ⟨x0, x1⟩ = held.take k ++ held.drop k by rw [HH.out, holdM_eq (m := ⟨x0, x1⟩) hke h]))
      have HGT := Lib.hid (fun h : x0 < (held[k]).f0 => (show holdM held ⟨x0, x1⟩ = held.take k ++ ⟨x0, x1⟩ :: held.drop k by rw [HH.out, holdM_gt (m := ⟨x0, x1⟩) hke h]))
      generalize held[k] = y at *
      obtain ⟨yn, yi⟩ := y
      dsimp only at hc0 hc1 HT HLT HEQ HGT
      by_cases h1 : yn < x0
      · have hd : decide (yn < x0) = true := decide_eq_true h1
        have HL2 := Lib.hid (HLT.out h1)
        go_wp2_with fail
        go_quiet (fail)
        go_wp2_with (at_builtin; refine append_new rfl _ _ 23 rfl 35 _ _ _ Try.underlying23 message_infoD _ _ _ _ _ rfl (own_drewN hown _) [.int .i64 yn, .int .i64 yi] rfl rfl (by simp [Value.oneCell']) (by omega) hsz ?_; intro v' w6 hown6 hg6 hblk6)
        go_roundw
        case rel =>
          refine ⟨k + 1, by omega, by go_num, HL2, ?_, ?_, ?_⟩
          · rw [HT.out]; exact hown6
          · exact (hg6.block _ hplt (fun e => by have := (hown.lt _ e.symm).1; omega)).trans P1
          · exact below_append (below_drewN B1 _) hg6 (own_base (own_drewN hown _) (Nat.le_succ _)) rfl
        case measure => simp [intOf]; omega
      · have hd : decide (yn < x0) = false := decide_eq_false h1
        by_cases h2 : yn = x0
        · have he : (yn == x0) = true := by simp [h2]
          have HE2 := Lib.hid (HEQ.out h2)
          go_wp2_with fail
          go_quiet (fail)
          go_wp2_with fail
          go_quiet (fail)
          have hrd := hr.below B1
          have HTL := Lib.hid (rdV_tailM hrd hke)
          have HDL : Hid ((messages (held.drop k)).length = (n - k) * 2) := Lib.hid (by rw [messages_len, List.length_drop, HN.out])
          clear hrd
          go_wp2_with (at_builtin; refine append_src rfl (.tmp 45) (.tmp 48) 23 rfl 35 _ _ _ Try.underlying23 message_infoD (w.heap.size + 1) _ (.slice OA k oc) k _ rfl (own_drewN hown _) (some ⟨b, oo + k * 2, none⟩) (n - k) (c - k) (messages (held.drop k)) rfl HDL.out (HTL.out.below (below_drewN (Below.refl _ _) _)) (messages_cell _) (by omega) hsz ?_; intro v' w6 hown6 hg6 hblk6)
          go_ret
          exact RVal.mk ⟨own_same (own_base hown6 (Nat.le_succ _)) (by rw [HE2.out]; simp [HN.out]; omega) (by rw [HE2.out, messages_app]), below_append (below_drewN B1 _) hg6 (own_base (own_drewN hown _) (Nat.le_succ _)) rfl⟩
        · have he : (yn == x0) = false := by simp [h2]
          have HG2 := Lib.hid (HGT.out (by omega))
          go_wp2_with fail
          go_quiet (fail)
          have hownA := own_drewN hown nq
          have PA := P1.drewN nq
          have BA := below_drewN B1 nq
          have HRA := Lib.hid (hr.below BA)
          have hszA : w.heap.size + 1 ≤ (wr.drewN nq).heap.size := hsz
          have hc0A : (wr.drewN nq).cell? ⟨b, oo + k * 2, none⟩ = some (.int .i64 yn) := hc0
          generalize wr.drewN nq = wy at *
          clear c0 c1 hown P1 B1 hplt hsz
          have c0 := PA.cellAt 0 (by simp)
          have c1 := PA.cellAt 1 (by simp)
          simp only [List.getElem_cons_zero, List.getElem_cons_succ] at c0 c1
          go_wp2_with fail
          go_quiet (fail)
          have hownB := own_drewN hownA nq
          have PB := PA.drewN nq
          have BB := below_drewN BA nq
          have HRB := Lib.hid (hr.below BB)
          have hszB : w.heap.size + 1 ≤ (wy.drewN nq).heap.size := hszA
          generalize wy.drewN nq = wz at *
          clear c0 c1 hownA PA BA HRA hszA
          have c0 := PB.cellAt 0 (by simp)
          have c1 := PB.cellAt 1 (by simp)
          simp only [List.getElem_cons_zero, List.getElem_cons_succ] at c0 c1
          go_wp2_with fail
          have HTL := Lib.hid (rdV_tailM HRB.out hke)
          have HDL : Hid ((messages (held.drop k)).length = (n - k) * 2) := Lib.hid (by rw [messages_len, List.length_drop, HN.out])
          have lp := PB.lt
          have HB2 := Lib.hid BB
          have hck : ¬ c = k := by omega
          clear BB
          go_region_held3 (fun W => Below w.heap.size w W ∧ W.cell? ⟨w.heap.size, 0, none⟩ = some (.int .i64 x0) ∧ W.cell? ⟨w.heap.size, 1, none⟩ = some (.int .i64 x1))
            (first
              | exact keep3t HB2.out (Below.refl _ _) lp c0 c1
              | exact keep3t HB2.out (Below.drew (Below.refl _ _)) lp c0 c1
              | exact keep3t HB2.out (Below.drew ((Below.refl _ _).alloc (Nat.le_refl _) _)) lp c0 c1
              | exact ⟨kb6, q0, q1⟩
              | exact ⟨kb7, r0, r1⟩)
            (first
              | (
              refine step_append_new rfl _ _ 23 rfl 35 _ _ _ Try.underlying23 message_infoD _ wz.drew _ _ _ rfl hownB.drew [.int .i64 x0, .int .i64 x1] (by first | rfl | (simp; with_unfolding_all rfl)) rfl (by simp [Value.oneCell']) (by omega) hszB ?_
              intro v6 w6 hown6 hg6 hblk6
              obtain ⟨A6, c6, rfl, _, _⟩ := own_slice hown6
              have kb6 : Below w.heap.size w w6 := below_append (Below.drew HB2.out) hg6 (own_base hownB.drew (Nat.le_succ _)) rfl
              have P6 : Blk w6 w.heap.size 35 [.int .i64 x0, .int .i64 x1] := (hg6.block _ lp (fun e => by have := (hownB.lt _ e.symm).1; omega)).trans PB
              have q0 := P6.cellAt 0 (by simp)
              have q1 := P6.cellAt 1 (by simp)
              simp only [List.getElem_cons_zero, List.getElem_cons_succ] at q0 q1
              have l6 : w.heap.size + 1 ≤ w6.heap.size := P6.lt
              clear hg6 hblk6)
              | (
              refine step_append_src rfl (.tmp 53) (.tmp 56) 23 rfl 35 _ _ _ Try.underlying23 message_infoD (w.heap.size + 1) w6 (.slice A6 (k + 1) c6) (k + 1) _ rfl hown6 (some ⟨b, oo + k * 2, none⟩) (n - k) (c - k) (messages (held.drop k)) (by first | rfl | (simp [Act.eval, hck]; done) | (simp only [if_neg hck]; rfl)) HDL.out ((rdV_tailM (hr.below kb6) hke)) (messages_cell _) (by omega) l6 ?_
              intro v7 w7 hown7 hg7 hblk7
              obtain ⟨A7, c7, rfl, _, _⟩ := own_slice hown7
              have kb7 : Below w.heap.size w w7 := below_append kb6 hg7 (own_base hown6 (Nat.le_succ _)) rfl
              have P7 : Blk w7 w.heap.size 35 [.int .i64 x0, .int .i64 x1] := (hg7.block _ l6 (fun e => by have := (hown6.lt _ e.symm).1; omega)).trans P6
              have r0 := P7.cellAt 0 (by simp)
              have r1 := P7.cellAt 1 (by simp)
              simp only [List.getElem_cons_zero, List.getElem_cons_succ] at r0 r1
              clear hg7 hblk7))
          go_wp2_with fail
          go_ret
          exact RVal.mk ⟨own_same (own_base hown7 (Nat.le_succ _)) (by rw [HG2.out]; simp [HN.out]; omega) (by rw [HG2.out, messages_app, List.append_assoc]; rfl), kb7⟩
    · have hki : decide ((k : Int) < (n : Int)) = false := decide_eq_false (by omega)
      obtain rfl : k = n := by omega
      have HE : Hid (holdM held ⟨x0, x1⟩ = held ++ [⟨x0, x1⟩]) := Lib.hid (by rw [HH.out, holdM_end (by rw [HN.out]; exact Nat.le_refl _), List.take_of_length_le (by rw [HN.out]; exact Nat.le_refl _), List.drop_of_length_le (by rw [HN.out]; exact Nat.le_refl _)])
      go_wp2_with fail
      go_quiet (fail)
      have hownA := own_drewN hown nq
      have PA := P1.drewN nq
      have BA := below_drewN B1 nq
      have HRA := Lib.hid (hr.below BA)
      have hszA : w.heap.size + 1 ≤ (wr.drewN nq).heap.size := hsz
      generalize wr.drewN nq = wy at *
      clear c0 c1 hown P1 B1 hplt hsz
      have c0 := PA.cellAt 0 (by simp)
      have c1 := PA.cellAt 1 (by simp)
      simp only [List.getElem_cons_zero, List.getElem_cons_succ] at c0 c1
      go_wp2_with fail
      go_quiet (fail)
      have hownB := own_drewN hownA nq
      have PB := PA.drewN nq
      have BB := below_drewN BA nq
      have HRB := Lib.hid (hr.below BB)
      have hszB : w.heap.size + 1 ≤ (wy.drewN nq).heap.size := hszA
      generalize wy.drewN nq = wz at *
      clear c0 c1 hownA PA BA HRA hszA
      have c0 := PB.cellAt 0 (by simp)
      have c1 := PB.cellAt 1 (by simp)
      simp only [List.getElem_cons_zero, List.getElem_cons_succ] at c0 c1
      go_wp2_with fail
      have lp := PB.lt
      have HB2 := Lib.hid BB
      clear BB
      go_region_held3 (fun W => Below w.heap.size w W ∧ W.cell? ⟨w.heap.size, 0, none⟩ = some (.int .i64 x0) ∧ W.cell? ⟨w.heap.size, 1, none⟩ = some (.int .i64 x1))
        (first
          | exact keep3t HB2.out (Below.refl _ _) lp c0 c1
          | exact keep3t HB2.out (Below.drew (Below.refl _ _)) lp c0 c1
          | exact keep3t HB2.out (Below.drew ((Below.refl _ _).alloc (Nat.le_refl _) _)) lp c0 c1
          | exact ⟨kb6, q0, q1⟩
          | exact ⟨kb7, r0, r1⟩)
        (first
          | (
          refine step_append_new rfl _ _ 23 rfl 35 _ _ _ Try.underlying23 message_infoD _ wz.drew _ _ _ rfl hownB.drew [.int .i64 x0, .int .i64 x1] (by first | rfl | (simp; with_unfolding_all rfl)) rfl (by simp [Value.oneCell']) (by omega) hszB ?_
          intro v6 w6 hown6 hg6 hblk6
          obtain ⟨A6, c6, rfl, _, _⟩ := own_slice hown6
          have kb6 : Below w.heap.size w w6 := below_append (Below.drew HB2.out) hg6 (own_base hownB.drew (Nat.le_succ _)) rfl
          have P6 : Blk w6 w.heap.size 35 [.int .i64 x0, .int .i64 x1] := (hg6.block _ lp (fun e => by have := (hownB.lt _ e.symm).1; omega)).trans PB
          have q0 := P6.cellAt 0 (by simp)
          have q1 := P6.cellAt 1 (by simp)
          simp only [List.getElem_cons_zero, List.getElem_cons_succ] at q0 q1
          have l6 : w.heap.size + 1 ≤ w6.heap.size := P6.lt
          clear hg6 hblk6)
          | (
          refine step_append_src rfl (.tmp 53) (.tmp 56) 23 rfl 35 _ _ _ Try.underlying23 message_infoD (w.heap.size + 1) w6 (.slice A6 (k + 1) c6) (k + 1) _ rfl hown6 _ 0 _ [] (by first | rfl | (simp [Act.eval]; rfl)) rfl RdV.nil_ (by simp) (by omega) l6 ?_
          intro v7 w7 hown7 hg7 hblk7
          obtain ⟨A7, c7, rfl, _, _⟩ := own_slice hown7
          have kb7 : Below w.heap.size w w7 := below_append kb6 hg7 (own_base hown6 (Nat.le_succ _)) rfl
          have P7 : Blk w7 w.heap.size 35 [.int .i64 x0, .int .i64 x1] := (hg7.block _ l6 (fun e => by have := (hown6.lt _ e.symm).1; omega)).trans P6
          have r0 := P7.cellAt 0 (by simp)
          have r1 := P7.cellAt 1 (by simp)
          simp only [List.getElem_cons_zero, List.getElem_cons_succ] at r0 r1
          clear hg7 hblk7))
      all_goals
        go_wp2_with fail
        all_goals (go_ret; exact RVal.mk ⟨own_same (own_base hown7 (Nat.le_succ _)) (by rw [HE.out]; simp [HN.out]) (by rw [HE.out, messages_app, List.append_nil, List.take_of_length_le (by rw [HN.out]; exact Nat.le_refl _)]; rfl), kb7⟩)
end Go.Proofs.Ytehaacpeamhamaa
