/- Several texts of the proof in one; each says at its head what it proves; no condition. -/
import Derived.Test.YtbllbpjlkechdaaGreatMg1
import Derived.Test.YtbllbpjlkechdaaGreatMg2
import Derived.RegionTactic
import Derived.Deep.RegionLaw
section
/- Lists of ids, stacks: both programs return the plain word. -/
namespace Go.Proofs.YtbllbpjlkechdaaGreat
open Go Go.ChangeShapes Go.WideShapes Go.ChangeAt Go.RowKit
theorem within_any (a lo hi : Int) (w : World) : Calls Tryz.prog 65 #[.int .i64 a, .int .i64 lo, .int .i64 hi] w fun r w' => r = .returned (.bool (inI a lo hi)) ∧ w = w' := by
  by_cases h : lo ≤ a ∧ a ≤ hi
  · rw [show inI a lo hi = true from by simp [inI, h]]; exact within_true a lo hi w h.1 h.2
  · rw [show inI a lo hi = false from by simp [inI]; omega]; exact within_false a lo hi w (by omega)
theorem l1In_any (a lo hi : Int) (w : World) : Calls Tryz.prog 56 #[.int .i64 a, .int .i64 lo, .int .i64 hi] w fun r w' => r = .returned (.bool (inI a lo hi)) ∧ w = w' := by
  by_cases h : lo ≤ a ∧ a ≤ hi
  · rw [show inI a lo hi = true from by simp [inI, h]]; exact l1In_true a lo hi w h.1 h.2
  · rw [show inI a lo hi = false from by simp [inI]; omega]; exact l1In_false a lo hi w (by omega)
theorem isId_any (a : Int) (w : World) : Calls Tryz.prog 71 #[.int .i64 a] w fun r w' => r = .returned (.bool (idI a)) ∧ w = w' := by
  by_cases h : 1 ≤ a ∧ a ≤ 999
  · rw [show idI a = true from by simp [idI, h]]; exact isId_true a w h.1 h.2
  · rw [show idI a = false from by simp [idI]; omega]; exact isId_false a w (by omega)
set_option maxHeartbeats 1000000 in
theorem index_int (A : Option Addr) (n c : Nat) (zs : List Int) (x : Int) (w : World) (hn : zs.length = n) (hr : RdV w A (ints zs)) (hm : n ≤ 9223372036854775807) :
    Calls Tryz.prog 79 #[.slice A n c, .int .i64 x] w fun e w' => (∃ i : Int, e = .returned (.int .i64 i) ∧ decide (0 ≤ i) = hasI zs x) ∧ w = w' := by
  have HN := Lib.hid hn
  clear hn
  go_enter Tryz.func79, Tryz.ntmps79
  go_wp2
  go_loop [8, 5] (fun i _ => ∃ k : Nat, k ≤ n ∧ i = .int .i64 k ∧ Hid (hasI (zs.take k) x = false)) (fun i _ => n - (intOf i).toNat)
  case atStart => exact ⟨0, Nat.zero_le _, rfl, Lib.hid (by simp [hasI])⟩
  case round =>
    obtain ⟨k, hk, rfl, HJ⟩ := hrel
    by_cases hlt : k < n
    · have hkz : k < zs.length := by rw [HN.out]; exact hlt
      have hkl : k < (ints zs).length := by rw [ints_len]; exact hkz
      obtain ⟨b, o, rfl, hl, hc⟩ := hr.pos hkl
      have h1 := hc k hkl
      rw [ints_at] at h1
      have HY := Lib.hid (has_yes (x := x) hkz)
      have HS := Lib.hid (has_step (x := x) hkz HJ.out)
      generalize zs[k] = y at *
      clear hc
      by_cases hxy : y = x
      · have HT := Lib.hid (HY.out hxy)
        have hd : (x == y) = true := by simp [hxy]
        clear hxy
        go_wp2
        go_ret
        exact ⟨⟨_, rfl, by rw [HT.out]; simp⟩, rfl⟩
      · have HT := Lib.hid (HS.out hxy)
        have hd : (x == y) = false := by simpa using fun h => hxy h.symm
        clear hxy
        go_wp2
        go_round
        case rel => exact ⟨k + 1, by omega, by go_num, HT⟩
        case measure => simp [intOf]; omega
    · obtain rfl : k = n := by omega
      have htl : zs.take k = zs := List.take_of_length_le (by rw [HN.out]; exact Nat.le_refl _)
      rw [htl] at HJ
      clear htl
      go_wp2
      go_ret
      exact ⟨⟨_, rfl, by rw [HJ.out]; decide⟩, rfl⟩
theorem contains_int (A : Option Addr) (n c : Nat) (zs : List Int) (x : Int) (w : World) (hn : zs.length = n) (hr : RdV w A (ints zs)) (hm : n ≤ 9223372036854775807) :
    Calls Tryz.prog 41 #[.slice A n c, .int .i64 x] w fun e w' => e = .returned (.bool (hasI zs x)) ∧ w = w' := by
  have HN := Lib.hid hn
  clear hn
  go_enter Tryz.func41, Tryz.ntmps41
  go_wp2_with fail
  refine (index_int A n c zs x w HN.out hr hm).mono ?_
  rintro e w' ⟨⟨i, rfl, hi⟩, rfl⟩
  have HI := Lib.hid hi
  clear hi
  go_wp2_with fail
  go_ret
  exact ⟨by rw [← HI.out]; rfl, rfl⟩
set_option maxHeartbeats 1000000 in
theorem l1Has_any (A : Option Addr) (n c : Nat) (zs : List Int) (x : Int) (w : World) (hn : zs.length = n) (hr : RdV w A (ints zs)) (hm : n ≤ 9223372036854775806) :
    Calls Tryz.prog 18 #[.slice A n c, .int .i64 x] w fun e w' => e = .returned (.bool (hasI zs x)) ∧ w = w' := by
  have HN := Lib.hid hn
  clear hn
  go_enter Tryz.func18, Tryz.ntmps18
  go_wp2
  go_loop [5] (fun i => ∃ k : Nat, k ≤ n ∧ i = .int .i64 k ∧ Hid (hasI (zs.take k) x = false)) (fun i => n - (intOf i).toNat)
  case atStart => exact ⟨0, Nat.zero_le _, rfl, Lib.hid (by simp [hasI])⟩
  case round =>
    obtain ⟨k, hk, rfl, HJ⟩ := hrel
    by_cases hlt : k < n
    · have hkz : k < zs.length := by rw [HN.out]; exact hlt
      have hkl : k < (ints zs).length := by rw [ints_len]; exact hkz
      obtain ⟨b, o, rfl, hl, hc⟩ := hr.pos hkl
      have h1 := hc k hkl
      rw [ints_at] at h1
      have HY := Lib.hid (has_yes (x := x) hkz)
      have HS := Lib.hid (has_step (x := x) hkz HJ.out)
      generalize zs[k] = y at *
      clear hc
      by_cases hxy : y = x
      · have HT := Lib.hid (HY.out hxy)
        have hd : (y == x) = true := by simp [hxy]
        clear hxy
        go_wp2
        go_ret
        exact ⟨by rw [HT.out]; rfl, rfl⟩
      · have HT := Lib.hid (HS.out hxy)
        have hd : (y == x) = false := by simpa using hxy
        clear hxy
        go_wp2
        go_round
        case rel => exact ⟨k + 1, by omega, by go_num, HT⟩
        case measure => simp [intOf]; omega
    · obtain rfl : k = n := by omega
      have htl : zs.take k = zs := List.take_of_length_le (by rw [HN.out]; exact Nat.le_refl _)
      rw [htl] at HJ
      clear htl
      go_wp2
      go_ret
      exact ⟨by rw [HJ.out]; rfl, rfl⟩
theorem RdV.takeI {w : World} {b o : Nat} {zs : List Int} (hl : b < w.heap.size) (hc : ∀ k (h : k < (ints zs).length), w.cell? ⟨b, o + k, none⟩ = some (ints zs)[k]) (i : Nat) : RdV w (some ⟨b, o, none⟩) (ints (zs.take i)) := by
  refine .inr ⟨b, o, rfl, hl, fun k hk => ?_⟩
  have hk2 : k < (ints zs).length := by rw [ints_len] at hk ⊢; rw [List.length_take] at hk; omega
  rw [hc k hk2, ints_at, ints_at, List.getElem_take]
set_option maxHeartbeats 1000000 in
theorem implStackValid (A : Option Addr) (n c : Nat) (zs : List Int) (high : Int) (w : World) (hn : zs.length = n) (hr : RdV w A (ints zs)) (hnc : n ≤ c) (hm : c ≤ 9223372036854775807) :
    Calls Tryz.prog 66 #[.slice A n c, .int .i64 high] w fun e w' => e = .returned (.bool (stackOk zs high)) ∧ w = w' := by
  have HN := Lib.hid hn
  clear hn
  go_enter Tryz.func66, Tryz.ntmps66
  go_wp2
  go_loop [9, 5, 6] (fun i _ _ => ∃ k : Nat, k ≤ n ∧ i = .int .i64 k ∧ Hid (sOk [] zs = sOk (zs.take k) (zs.drop k))) (fun i _ _ => n - (intOf i).toNat)
  case atStart => exact ⟨0, Nat.zero_le _, rfl, Lib.hid (by simp)⟩
  case round =>
    obtain ⟨k, hk, rfl, HJ⟩ := hrel
    by_cases hlt : k < n
    · have hkz : k < zs.length := by rw [HN.out]; exact hlt
      have hkl : k < (ints zs).length := by rw [ints_len]; exact hkz
      obtain ⟨b, o, rfl, hl, hc⟩ := hr.pos hkl
      have h1 := hc k hkl
      rw [ints_at] at h1
      have hst := sOk_step (p := []) hkz
      rw [List.nil_append, List.nil_append, ← HJ.out] at hst
      have HST := Lib.hid hst
      have HTL : Hid ((zs.take k).length = k) := Lib.hid (by rw [List.length_take]; omega)
      have hrt := RdV.takeI hl hc k
      have hkc : (k : Int) ≤ (c : Int) := by omega
      generalize zs[k] = y at *
      generalize zs.take k = pre at *
      clear hc hst
      go_wp2_with fail
      refine (isId_any y _).mono ?_
      rintro e w' ⟨rfl, rfl⟩
      cases hid : idI y with
      | false =>
        rw [hid] at HST
        clear hid
        go_wp2_with fail
        go_ret
        exact ⟨by rw [stackOk, HST.out]; simp, rfl⟩
      | true =>
        rw [hid] at HST
        clear hid
        go_wp2_with fail
        refine (contains_int (some ⟨b, o, none⟩) k _ pre y _ HTL.out hrt (by omega)).mono ?_
        rintro e w' ⟨rfl, rfl⟩
        cases hhas : hasI pre y with
        | true =>
          rw [hhas] at HST
          clear hhas
          go_wp2_with fail
          go_ret
          exact ⟨by rw [stackOk, HST.out]; simp, rfl⟩
        | false =>
          rw [hhas] at HST
          clear hhas
          go_wp2_with fail
          go_round
          case rel => exact ⟨k + 1, by omega, by go_num, Lib.hid (by rw [HST.out]; simp)⟩
          case measure => simp [intOf]; omega
    · have hend : sOk (zs.take k) (zs.drop k) = true := by have := sOk_end (s := zs) (p := []) (k := k) (by rw [HN.out]; omega); rwa [List.nil_append] at this
      have HE := Lib.hid (HJ.out.trans hend)
      clear hend
      go_wp2_with fail
      refine (within_any high 1 5 _).mono ?_
      rintro e w' ⟨rfl, rfl⟩
      cases hi : inI high 1 5 with
      | false =>
        have HI := Lib.hid hi
        clear hi
        go_wp2_with fail
        go_ret
        exact ⟨by rw [stackOk, HE.out, show (decide (1 ≤ high) && decide (high ≤ 5)) = inI high 1 5 from rfl, HI.out]; rfl, rfl⟩
      | true =>
        have HI := Lib.hid hi
        clear hi
        go_wp2_with fail
        go_ret
        exact ⟨by rw [stackOk, HE.out, show (decide (1 ≤ high) && decide (high ≤ 5)) = inI high 1 5 from rfl, HI.out, HN.out]; rfl, rfl⟩
end Go.Proofs.YtbllbpjlkechdaaGreat
end
section
/- 'out = append(out, x)' inside a statement whose order is open. -/
namespace Go.Proofs.YtbllbpjlkechdaaGreat
open Go.ChangeShapes Go.WideShapes Go.ChangeAt Go.RowKit
theorem step_append_new {P : Program} {ops : Array Oper} {o : Oper} {a : Act} {K : Act → World → Prop} {Q : Exit → Act → World → Prop} {E : Prop} (hgd : o.guard = none) (s x : Operand) (t : TypeId)
    (ho : o.op = .call { callee := .builtin .append, args := #[s, x], argTypes := #[t, t] })
    (e : TypeId) (z : Value) (size bytes : Nat) (ht : P.underlying t = some (.slice e)) (hi : Info P e z size bytes)
    (base : Nat) (w : World) (v : Value) (n : Nat) (xs : List Value) (hs : a.eval s = v) (hown : w.ownsRow base e size v n xs)
    (news : List Value) (hx : a.eval x = .slice (some ⟨w.heap.size, 0, none⟩) 1 1) (hl : news.length = size) (h1 : ∀ u ∈ news, u.oneCell' = true)
    (hn : n ≤ 8589934592) (hbase : base ≤ w.heap.size)
    (h : ∀ v' w', w'.ownsRow base e size v' (n + 1) (xs ++ news) → w.grownBy w' v.ownBlock → (v'.ownBlock = v.ownBlock ∨ v'.ownBlock = some (w.heap.size + 1)) → K (a.put o.dst v') w') :
    if Region.wanted o (yielded ops a.tmps) = true then Oper.wp P o a (w.alloc (.cells news.toArray e)) K Q else E := by
  have hw : Region.wanted o (yielded ops a.tmps) = true := by simp [Region.wanted, hgd]
  rw [if_pos hw]
  obtain ⟨i, hi1, hz, h3, h4, h5, h6, h7⟩ := hi
  have hcells : ∀ j u, news[j]? = some u → (w.alloc (.cells news.toArray e)).cell? ((⟨w.heap.size, 0, none⟩ : Addr).add j) = some u := by
    intro j u hu
    have hb := (Blk.new w e news).cell j
    have he : (⟨w.heap.size, 0, none⟩ : Addr).add j = ⟨w.heap.size, j, none⟩ := by unfold Addr.add; split <;> simp_all
    rw [he, hb, hu]
  have hbytes : (n + 1) * bytes ≤ 140737488355328 := Nat.le_trans (Nat.mul_le_mul (show n + 1 ≤ 8589934593 by omega) h7) (by decide)
  obtain ⟨v', w', hr, ho', hg', _, hb'⟩ := run_append_own_at (P := P) (w.alloc (.cells news.toArray e)) base t o.type e i z size bytes ht hi1 hz h3 h4 h5 h6 v n xs (hown.alloc _) ⟨w.heap.size, 0, none⟩ 1 1 news (by omega) hcells h1 (by unfold maxLen; omega) hbytes (by simp; omega)
  unfold Oper.wp execOp
  simp only [ho, resolve, invoke, builtin, Sem.run_bind, Sem.run_pure, Result.andThen_ok, List.map_toArray, List.map_cons, List.map_nil, hs, hx, hr]
  refine h v' w' ho' ?_ ?_
  · exact ⟨hg'.os, hg'.tape, hg'.output, by have := hg'.size; simp at this; omega, fun k hk hne => (hg'.block k (by simp; omega) hne).trans (Below.heap_alloc _ _ _ hk)⟩
  · simpa using hb'
end Go.Proofs.YtbllbpjlkechdaaGreat
end
section
/- The reference's StackValid and YardValid return the plain words. -/
namespace Go.Proofs.YtbllbpjlkechdaaGreat
open Go Go.ChangeShapes Go.WideShapes Go.ChangeAt Go.RowKit
set_option linter.unusedVariables false
set_option maxHeartbeats 2000000 in
theorem specStackValid (A : Option Addr) (n c : Nat) (zs : List Int) (high : Int) (w : World) (hn : zs.length = n) (hr : RdV w A (ints zs)) (hnc : n ≤ c) (hm : c ≤ 9223372036854775807) :
    Calls Tryz.prog 55 #[.slice A n c, .int .i64 high] w fun e w' => e = .returned (.bool (stackOk zs high)) ∧ ∃ q, w' = w.drewN q := by
  have HN := Lib.hid hn
  clear hn
  go_enter Tryz.func55, Tryz.ntmps55
  go_wp2_with fail
  go_loopw [5] (fun i wr => ∃ k : Nat, k ≤ n ∧ i = .int .i64 k ∧ Hid (sOk [] zs = sOk (zs.take k) (zs.drop k)) ∧ ∃ q, wr = w.drewN q) (fun i _ => n - (intOf i).toNat)
  case atStart => exact ⟨0, Nat.zero_le _, rfl, Lib.hid (by simp), 0, rfl⟩
  case round =>
    obtain ⟨k, hk, rfl, HJ, q, hq⟩ := hrel
    by_cases hlt : k < n
    · have hkz : k < zs.length := by rw [HN.out]; exact hlt
      have hkl : k < (ints zs).length := by rw [ints_len]; exact hkz
      have hrw : RdV wr A (ints zs) := by rw [hq]; exact hr
      obtain ⟨b, o, rfl, hl, hc⟩ := hrw.pos hkl
      have h1 := hc k hkl
      rw [ints_at] at h1
      have hst := sOk_step (p := []) hkz
      rw [List.nil_append, List.nil_append, ← HJ.out] at hst
      have HST := Lib.hid hst
      have HTL : Hid ((zs.take k).length = k) := Lib.hid (by rw [List.length_take]; omega)
      have hrt := RdV.takeI hl hc k
      have hkc : (k : Int) ≤ (c : Int) := by omega
      have hki : (k : Int) < (n : Int) := by omega
      have hcI : ∀ w0 : World, Calls Tryz.prog 56 #[.int .i64 zs[k], .int .i64 1, .int .i64 999] w0 fun r w' => r = .returned (.bool (idI zs[k])) ∧ w' = w0 := fun w0 => (l1In_any _ _ _ w0).mono (fun _ _ h => ⟨h.1, h.2.symm⟩)
      have hcH : ∀ q0 : Nat, Calls Tryz.prog 18 #[.slice (some ⟨b, o, none⟩) k c, .int .i64 zs[k]] (wr.drewN q0) fun r w' => r = .returned (.bool (hasI (zs.take k) zs[k])) ∧ w' = wr.drewN q0 := fun q0 => (l1Has_any _ k c (zs.take k) zs[k] (wr.drewN q0) HTL.out hrt (by omega)).mono (fun _ _ h => ⟨h.1, h.2.symm⟩)
      generalize zs[k] = y at *
      generalize zs.take k = pre at *
      have HQ := Lib.hid hq
      clear hc hst hq hrw
      cases hid : idI y with
      | false =>
        rw [hid] at HST hcI
        clear hid
        go_wp2_with fail
        go_quiet ((first | (go_at_call 56; exact Calls.quiet_of_same (hcI _)) | (go_at_call 18; exact Calls.quiet_of_same (hcH _))))
        clear hcI hcH
        go_wp2_with fail
        go_ret
        exact ⟨by rw [stackOk, HST.out]; simp, q + nq, by rw [HQ.out]; exact World.drewN_drewN _ _ _⟩
      | true =>
        rw [hid] at HST hcI
        clear hid
        cases hhas : hasI pre y with
        | true =>
          rw [hhas] at HST hcH
          clear hhas
          go_wp2_with fail
          go_quiet ((first | (go_at_call 56; exact Calls.quiet_of_same (hcI _)) | (go_at_call 18; exact Calls.quiet_of_same (hcH _))))
          clear hcI hcH
          go_wp2_with fail
          go_ret
          exact ⟨by rw [stackOk, HST.out]; simp, q + nq, by rw [HQ.out]; exact World.drewN_drewN _ _ _⟩
        | false =>
          rw [hhas] at HST hcH
          clear hhas
          go_wp2_with fail
          go_quiet ((first | (go_at_call 56; exact Calls.quiet_of_same (hcI _)) | (go_at_call 18; exact Calls.quiet_of_same (hcH _))))
          clear hcI hcH
          go_wp2_with fail
          go_roundw
          case rel => exact ⟨k + 1, by omega, by go_num, Lib.hid (by rw [HST.out]; simp), q + nq, by rw [HQ.out]; exact World.drewN_drewN _ _ _⟩
          case measure => simp [intOf]; omega
    · have hend : sOk (zs.take k) (zs.drop k) = true := by have := sOk_end (s := zs) (p := []) (k := k) (by rw [HN.out]; omega); rwa [List.nil_append] at this
      have HE := Lib.hid (HJ.out.trans hend)
      have HQ := Lib.hid hq
      clear hend hq
      go_wp2_with fail
      refine (l1In_any high 1 5 _).mono ?_
      rintro e w' ⟨rfl, rfl⟩
      cases hi : inI high 1 5 with
      | false =>
        have HI := Lib.hid hi
        clear hi
        go_wp2_with fail
        go_ret
        exact ⟨by rw [stackOk, HE.out, show (decide (1 ≤ high) && decide (high ≤ 5)) = inI high 1 5 from rfl, HI.out]; rfl, q, HQ.out⟩
      | true =>
        have HI := Lib.hid hi
        clear hi
        go_wp2_with fail
        go_ret
        exact ⟨by rw [stackOk, HE.out, show (decide (1 ≤ high) && decide (high ≤ 5)) = inI high 1 5 from rfl, HI.out, HN.out]; rfl, q, HQ.out⟩
theorem int_infoY : Info Tryz.prog 3 (.int .i64 0) 1 8 := Info.mk' int_info rfl (by decide) (by decide)
set_option maxHeartbeats 4000000 in
theorem specYardValid (high : Int) (A : Option Addr) (n c : Nat) (rows : List (List Int)) (w : World) (hn : rows.length = n) (hr : RdRR w A (intss rows)) (hm : n ≤ 1048576) :
    Calls Tryz.prog 31 #[.agg #[.int .i64 high, .slice A n c]] w fun e w' => e = .returned (.bool (yardOk high rows)) ∧ Below w.heap.size w w' := by
  have HN := Lib.hid hn
  have HOK : Hid (yardOk high rows = (inI (n : Int) 1 5 && yOk high [] rows)) := Lib.hid (by subst hn; rfl)
  clear hn
  go_enter Tryz.func31, Tryz.ntmps31
  go_wp2_with fail
  go_loopw [3, 4, 5] (fun all i _ wr => ∃ (k m : Nat) (v : Value), k ≤ n ∧ i = .int .i64 k ∧ all = v ∧ m ≤ 5 * k ∧ Hid (yOk high [] rows = yOk high ((rows.take k).flatten) (rows.drop k)) ∧ wr.ownsRow (w.heap.size + 1) 3 1 v m (ints (rows.take k).flatten) ∧ Blk wr w.heap.size 36 [.int .i64 high, .slice A n c] ∧ Below w.heap.size w wr) (fun _ i _ _ => n - (intOf i).toNat)
  case atStart =>
    refine ⟨0, 0, _, Nat.zero_le _, rfl, rfl, Nat.zero_le _, Lib.hid rfl, ?_, ?_, ?_⟩
    · have := Blk.new (w.alloc (.cells #[.int .i64 high, .slice A n c] 36)) 3 []
      simp only [World.size_alloc] at this
      exact own_of_blk this (Nat.le_refl _) rfl (by decide)
    · exact (Blk.new _ _ _).alloc _
    · exact ((Below.refl _ _).alloc (Nat.le_refl _) _).alloc (by simp) _
  case round =>
    obtain ⟨k, m, v, hk, rfl, rfl, hmk, HY, hO, P1, hb⟩ := hrel
    have c0 := P1.cellAt 0 (by simp)
    have c1 := P1.cellAt 1 (by simp)
    simp only [List.getElem_cons_zero, List.getElem_cons_succ] at c0 c1
    have hPlt := P1.lt
    have HP1 := Lib.hid P1
    by_cases hlt : k < n
    · have hkz : k < rows.length := by rw [HN.out]; exact hlt
      have hkl : k < (intss rows).length := by rw [intss_len]; exact hkz
      obtain ⟨b, o, rfl, hl0, B, c', hcell0, hle, hmx, hrB0⟩ := hr.pos hkl
      have hl : b < wr.heap.size := Nat.lt_of_lt_of_le hl0 hb.size
      have hcell := (hb.cell (p := ⟨b, o + k, none⟩) hl0).trans hcell0
      have hrB := hrB0.below hb
      rw [intss_at] at hrB hrB0
      simp only [intss_at, ints_len] at hcell hle hcell0
      have hst := yOk_step (high := high) hkz
      rw [← HY.out] at hst
      have HST := Lib.hid hst
      have HFL : Hid ((rows.take (k + 1)).flatten = (rows.take k).flatten ++ rows[k]) := Lib.hid (by rw [List.take_succ_eq_append_getElem hkz, List.flatten_append]; simp)
      unfold maxLen at hmx
      have HR := Lib.hid hr
      generalize rows[k] = zs at *
      generalize (rows.take k).flatten = fl at *
      generalize hz : zs.length = p at *
      have HZ := Lib.hid hz
      have HRB := Lib.hid hrB0
      have HC0 := Lib.hid hcell0
      have HO := Lib.hid hO
      have HRW := Lib.hid hrB
      have hki : (k : Int) < (n : Int) := by omega
      have e1 : IntKind.i64.wrap ((k : Int) + 1) = (k : Int) + 1 := IntWalk.i64_in _ (by omega)
      by_cases hso : stackOk zs high = true
      · have hS := fun w0 h => specStackValid B p c' zs high w0 HZ.out h hle (by omega)
        rw [hso] at hS
        have HS2 : Hid (yOk high [] rows = (dOk fl zs && yOk high ((rows.take (k + 1)).flatten) (rows.drop (k + 1)))) := Lib.hid (by rw [HST.out, hso]; rfl)
        have hp5 : p ≤ 5 := by have := stackOk_parts hso; have := HZ.out; omega
        have HB := Lib.hid hb
        have HBL := Lib.hid hl0
        clear hst hz hr hrB0 hcell0 hl0 hO hso
        go_wp2_with fail
        go_quiet ((go_at_call 55; exact Calls.quiet_of (hS _ hrB)))
        have P2 := P1.drewN nq
        have hb2 := below_drewN hb nq
        have O2 := own_drewN HO.out nq
        clear hS c0 c1 hcell hrB hb P1 hPlt hl
        generalize wr.drewN nq = w2 at *
        go_wp2_with fail
        go_loopw [3, 5] (fun all i wr2 => ∃ (j m2 : Nat) (v2 : Value), j ≤ p ∧ i = .int .i64 j ∧ all = v2 ∧ m2 ≤ 5 * k + j ∧ Hid (dOk fl zs = dOk (fl ++ zs.take j) (zs.drop j)) ∧ wr2.ownsRow (w.heap.size + 1) 3 1 v2 m2 (ints (fl ++ zs.take j)) ∧ Blk wr2 w.heap.size 36 [.int .i64 high, .slice (some ⟨b, o, none⟩) n c] ∧ Below w.heap.size w wr2) (fun _ i _ => p - (intOf i).toNat)
        case atStart => exact ⟨0, m, _, Nat.zero_le _, rfl, rfl, by omega, Lib.hid (by simp), by simpa using O2, P2, hb2⟩
        case round =>
          clear O2 P2 hb2
          obtain ⟨j, m2, v2, hj, rfl, rfl, hm2, HD, hO2, P2, hb2⟩ := hrel
          have c0 := P2.cellAt 0 (by simp)
          have c1 := P2.cellAt 1 (by simp)
          simp only [List.getElem_cons_zero, List.getElem_cons_succ] at c0 c1
          have hPlt := P2.lt
          have hbl : b < w.heap.size := HBL.out
          have hl : b < wr.heap.size := Nat.lt_of_lt_of_le hbl hb2.size
          have hcell := (hb2.cell (p := ⟨b, o + k, none⟩) hbl).trans HC0.out
          have hrB := HRB.out.below hb2
          by_cases hltj : j < p
          · have hjz : j < zs.length := by rw [HZ.out]; exact hltj
            have hjl : j < (ints zs).length := by rw [ints_len]; exact hjz
            obtain ⟨b2, o2, rfl, hl2, hc2⟩ := hrB.pos hjl
            have h1 := hc2 j hjl
            rw [ints_at] at h1
            have hst := dOk_step (p := fl) hjz
            rw [← HD.out] at hst
            have HST2 := Lib.hid hst
            have HTK : Hid (ints (fl ++ zs.take (j + 1)) = ints (fl ++ zs.take j) ++ [.int .i64 zs[j]]) := Lib.hid (by rw [List.take_succ_eq_append_getElem hjz, ← List.append_assoc, ints_app]; rfl)
            have hal : (ints (fl ++ zs.take j)).length = m2 := by have := hO2.1; omega
            obtain ⟨A3, c3, rfl, hA3, hA4⟩ := own_slice hO2
            have hrd := own_rd hO2
            rw [ints_len] at hal
            have hH := fun y => l1Has_any A3 m2 c3 (fl ++ zs.take j) y wr hal hrd (by omega)
            generalize zs[j] = y at *
            have hji : (j : Int) < (p : Int) := by omega
            clear hc2 hst hrd hal
            go_wp2_with fail
            refine (hH y).mono ?_
            rintro e w' ⟨rfl, rfl⟩
            cases hhas : hasI (fl ++ zs.take j) y with
            | true =>
              have HF : Hid (yardOk high rows = false) := Lib.hid (by rw [HOK.out, HS2.out, HST2.out, hhas]; simp)
              clear hhas hH
              go_wp2_with fail
              go_ret
              exact ⟨by rw [HF.out]; rfl, hb2⟩
            | false =>
              have HD2 : Hid (dOk fl zs = dOk (fl ++ zs.take (j + 1)) (zs.drop (j + 1))) := Lib.hid (by rw [HST2.out, hhas]; rfl)
              clear hhas hH
              have HO2 := Lib.hid hO2
              have HB2 := Lib.hid hb2
              have HP2 := Lib.hid P2
              have hsz : w.heap.size + 1 ≤ wr.heap.size := hPlt
              go_wp2_with (at_builtin; refine append_new rfl (.tmp 43) (.tmp 52) 28 rfl 3 _ _ _ Tryz.underlying28 int_infoY (w.heap.size + 1) wr (.slice A3 m2 c3) m2 _ rfl HO2.out [.int .i64 y] (by first | rfl | (simp; with_unfolding_all rfl)) rfl (by simp [Value.oneCell']) (by omega) hsz ?_; intro v4 w4 hown4 hg4 hblk4)
              rw [← HTK.out] at hown4
              have hb4 : Below w.heap.size w w4 := hb2.grown hg4 hb2.size (fun g e => by have := (hO2.lt g e).1; omega)
              have P4 : Blk w4 w.heap.size 36 [.int .i64 high, .slice (some ⟨b, o, none⟩) n c] := (hg4.block _ hPlt (fun e => own_ne hO2 (Nat.lt_succ_self _) e.symm)).trans P2
              clear hg4 hblk4
              go_wp2_with fail
              go_roundw
              case rel => exact ⟨j + 1, m2 + 1, _, by omega, by go_num, rfl, by omega, HD2, hown4, P4, hb4⟩
              case measure => simp [intOf]; omega
          · have hend : dOk (fl ++ zs.take j) (zs.drop j) = true := dOk_end (by rw [HZ.out]; omega)
            have HE : Hid (yOk high [] rows = yOk high ((rows.take (k + 1)).flatten) (rows.drop (k + 1))) := Lib.hid (by rw [HS2.out, HD.out, hend]; rfl)
            have htl : zs.take j = zs := List.take_of_length_le (by rw [HZ.out]; omega)
            rw [htl, ← HFL.out] at hO2
            clear hend htl
            have HO2 := Lib.hid hO2
            clear hO2
            go_wp2_with fail
            go_roundw
            case rel => exact ⟨k + 1, m2, _, by omega, by go_num, rfl, by omega, HE, HO2.out, P2, hb2⟩
            case measure => simp [intOf]; omega
      · have hso2 : stackOk zs high = false := by simpa using hso
        have hS := fun w0 h => specStackValid B p c' zs high w0 HZ.out h hle (by omega)
        have HF : Hid (yardOk high rows = false) := Lib.hid (by rw [HOK.out, HST.out, hso2]; simp)
        rw [hso2] at hS
        clear hst hz hr hrB0 hcell0 hl0 hO hso hso2
        go_wp2_with fail
        go_quiet ((go_at_call 55; exact Calls.quiet_of (hS _ hrB)))
        go_wp2_with fail
        go_ret
        exact ⟨by rw [HF.out]; rfl, below_drewN hb _⟩
    · have hend : yOk high ((rows.take k).flatten) (rows.drop k) = true := yOk_end (by rw [HN.out]; omega)
      have HE : Hid (yardOk high rows = inI (n : Int) 1 5) := Lib.hid (by rw [HOK.out, HY.out.trans hend]; simp)
      clear hend
      go_wp2_with fail
      refine (l1In_any n 1 5 _).mono ?_
      rintro e w' ⟨rfl, rfl⟩
      cases hi : inI (n : Int) 1 5 with
      | false =>
        have HF := Lib.hid (HE.out.trans hi)
        clear hi
        go_wp2_with fail
        go_ret
        exact ⟨by rw [HF.out]; rfl, hb⟩
      | true =>
        have HF := Lib.hid (HE.out.trans hi)
        obtain ⟨_, _, g1, g2, _, _⟩ := yardOk_parts HF.out
        clear hi
        go_wp2_with fail
        refine (l1In_true high 1 5 _ g1 g2).mono ?_
        rintro e w' ⟨rfl, rfl⟩
        go_wp2_with fail
        go_ret
        exact ⟨by rw [HF.out]; rfl, hb⟩
end Go.Proofs.YtbllbpjlkechdaaGreat
end
section
/- 'append(xs, ys...)' onto a slice of the call's own, whatever ys is. -/
namespace Go.Proofs.YtbllbpjlkechdaaGreat
open Go.ChangeShapes Go.WideShapes Go.ChangeAt Go.RowKit
theorem run_append_of_nil {P : Program} (w : World) (base : Nat) (t ty e : TypeId) (i : TypeInfo) (size : Nat) (ht : P.underlying t = some (.slice e)) (hi : P.info? e = some i)
    (v : Value) (n : Nat) (xs : List Value) (hown : w.ownsRow base e size v n xs) (c : Nat) : (Builtin.append_ #[t, t] ty #[v, .slice none 0 c]).run P w = .ok v w := by
  rcases hown.2 with ⟨rfl, rfl⟩ | ⟨g, cap, cur, rfl, _, _, hnc, _⟩
  · simp [Builtin.append_, run_underlying ht, sizeOf, typeInfo, hi, Builtin.lenOf, Builtin.firstCells]
  · simp [Builtin.append_, run_underlying ht, sizeOf, typeInfo, hi, Builtin.lenOf, Builtin.firstCells, hnc, storeCells]

theorem run_append_src {P : Program} (w : World) (base : Nat) (t ty e : TypeId) (z : Value) (size bytes : Nat) (ht : P.underlying t = some (.slice e)) (hi : Info P e z size bytes)
    (v : Value) (n : Nat) (xs : List Value) (hown : w.ownsRow base e size v n xs)
    (A : Option Addr) (m c : Nat) (news : List Value) (hl : news.length = m * size) (hr : RdV w A news) (h1 : ∀ u ∈ news, u.oneCell' = true)
    (hn : n + m ≤ 8589934593) (hbase : base ≤ w.heap.size) :
    ∃ v' w', (Builtin.append_ #[t, t] ty #[v, .slice A m c]).run P w = .ok v' w' ∧ w'.ownsRow base e size v' (n + m) (xs ++ news) ∧ w.grownBy w' v.ownBlock ∧
      (v'.ownBlock = v.ownBlock ∨ v'.ownBlock = some w.heap.size) := by
  obtain ⟨i, hi1, hz, h3, h4, h5, h6, h7⟩ := hi
  have hbytes : (n + m) * bytes ≤ 140737488355328 := Nat.le_trans (Nat.mul_le_mul hn h7) (by decide)
  rcases A with _ | ad
  · have hnil : news = [] := by
      rcases hr with h | ⟨b, off, h, _⟩
      · exact h
      · cases h
    subst hnil
    have hm : m = 0 := by
      rcases Nat.eq_zero_or_pos m with h | h
      · exact h
      · have := Nat.mul_pos h h6
        simp at hl
        omega
    subst hm
    exact ⟨v, w, run_append_of_nil w base t ty e i size ht hi1 v n xs hown c, by simpa using hown, World.grownBy.refl w _, .inl rfl⟩
  · have hcells : ∀ j u, news[j]? = some u → w.cell? (ad.add j) = some u := by
      intro j u hu
      obtain ⟨hj, rfl⟩ := List.getElem?_eq_some_iff.1 hu
      obtain ⟨b, off, he, _, hc⟩ := hr.pos hj
      injection he with he
      subst he
      have hadd : (⟨b, off, none⟩ : Addr).add j = ⟨b, off + j, none⟩ := by unfold Addr.add; split <;> simp_all
      rw [hadd]
      exact hc j hj
    obtain ⟨v', w', hrun, h2, h3', _, h5'⟩ := run_append_own_at (P := P) w base t ty e i z size bytes ht hi1 hz h3 h4 h5 h6 v n xs hown ad m c news hl hcells h1 (by unfold maxLen; omega) hbytes hbase
    exact ⟨v', w', hrun, h2, h3', h5'⟩

theorem append_src {P : Program} {ops : Array Oper} {rest : List Oper} {o : Oper} {a : Act} {Q : Exit → Act → World → Prop} (hgd : o.guard = none) (s x : Operand) (t : TypeId)
    (ho : o.op = .call { callee := .builtin .append, args := #[s, x], argTypes := #[t, t] })
    (e : TypeId) (z : Value) (size bytes : Nat) (ht : P.underlying t = some (.slice e)) (hi : Info P e z size bytes)
    (base : Nat) (w : World) (v : Value) (n : Nat) (xs : List Value) (hs : a.eval s = v) (hown : w.ownsRow base e size v n xs)
    (A : Option Addr) (m c : Nat) (news : List Value) (hx : a.eval x = .slice A m c) (hl : news.length = m * size) (hr : RdV w A news) (h1 : ∀ u ∈ news, u.oneCell' = true)
    (hn : n + m ≤ 8589934593) (hbase : base ≤ w.heap.size)
    (h : ∀ v' w', w'.ownsRow base e size v' (n + m) (xs ++ news) → w.grownBy w' v.ownBlock → (v'.ownBlock = v.ownBlock ∨ v'.ownBlock = some w.heap.size) → wpList P ops Q rest (a.put o.dst v') w') :
    wpList P ops Q (o :: rest) a w := by
  refine wpList_plain hgd fun K hK => ?_
  obtain ⟨v', w', hrun, h2, h3, h4⟩ := run_append_src (P := P) w base t o.type e z size bytes ht hi v n xs hown A m c news hl hr h1 hn hbase
  unfold Oper.wp execOp
  simp only [ho, resolve, invoke, builtin, Sem.run_bind, Sem.run_pure, Result.andThen_ok, List.map_toArray, List.map_cons, List.map_nil, hs, hx, hrun]
  exact hK _ _ (h v' w' h2 h3 h4)
theorem step_append_src {P : Program} {ops : Array Oper} {o : Oper} {a : Act} {K : Act → World → Prop} {Q : Exit → Act → World → Prop} {E : Prop} (hgd : o.guard = none) (s x : Operand) (t : TypeId)
    (ho : o.op = .call { callee := .builtin .append, args := #[s, x], argTypes := #[t, t] })
    (e : TypeId) (z : Value) (size bytes : Nat) (ht : P.underlying t = some (.slice e)) (hi : Info P e z size bytes)
    (base : Nat) (w : World) (v : Value) (n : Nat) (xs : List Value) (hs : a.eval s = v) (hown : w.ownsRow base e size v n xs)
    (A : Option Addr) (m c : Nat) (news : List Value) (hx : a.eval x = .slice A m c) (hl : news.length = m * size) (hr : RdV w A news) (h1 : ∀ u ∈ news, u.oneCell' = true)
    (hn : n + m ≤ 8589934593) (hbase : base ≤ w.heap.size)
    (h : ∀ v' w', w'.ownsRow base e size v' (n + m) (xs ++ news) → w.grownBy w' v.ownBlock → (v'.ownBlock = v.ownBlock ∨ v'.ownBlock = some w.heap.size) → K (a.put o.dst v') w') :
    if Region.wanted o (yielded ops a.tmps) = true then Oper.wp P o a w K Q else E := by
  have hw : Region.wanted o (yielded ops a.tmps) = true := by simp [Region.wanted, hgd]
  rw [if_pos hw]
  obtain ⟨v', w', hrun, h2, h3, h4⟩ := run_append_src (P := P) w base t o.type e z size bytes ht hi v n xs hown A m c news hl hr h1 hn hbase
  unfold Oper.wp execOp
  simp only [ho, resolve, invoke, builtin, Sem.run_bind, Sem.run_pure, Result.andThen_ok, List.map_toArray, List.map_cons, List.map_nil, hs, hx, hrun]
  exact h v' w' h2 h3 h4
theorem ints_one (zs : List Int) : ∀ u ∈ ints zs, u.oneCell' = true := by
  intro u hu
  simp only [ints, List.mem_map] at hu
  obtain ⟨z, _, rfl⟩ := hu
  rfl
end Go.Proofs.YtbllbpjlkechdaaGreat
end
section
/- A number put at its place in a list: the reference's l4Sorted. -/
namespace Go.Proofs.YtbllbpjlkechdaaGreat
open Go Go.ChangeShapes Go.WideShapes Go.ChangeAt Go.RowKit
set_option linter.unusedVariables false
/-- a number at its place -/
def insL : List Int → Int → List Int
  | [], x => [x]
  | y :: r, x => if y < x then y :: insL r x else x :: y :: r
theorem insL_mem {ls : List Int} {x b : Int} : b ∈ insL ls x ↔ b = x ∨ b ∈ ls := by
  induction ls with
  | nil => simp [insL]
  | cons a r ih =>
    unfold insL
    by_cases h : a < x
    · rw [if_pos h, List.mem_cons, ih, List.mem_cons]
      constructor
      · rintro (h | h | h)
        · exact .inr (.inl h)
        · exact .inl h
        · exact .inr (.inr h)
      · rintro (h | h | h)
        · exact .inr (.inl h)
        · exact .inl h
        · exact .inr (.inr h)
    · rw [if_neg h, List.mem_cons]
theorem insL_len (ls : List Int) (x : Int) : (insL ls x).length = ls.length + 1 := by
  induction ls with
  | nil => rfl
  | cons a r ih =>
    unfold insL
    by_cases h : a < x
    · rw [if_pos h, List.length_cons, ih, List.length_cons]
    · rw [if_neg h]; rfl
theorem insL_asc {ls : List Int} {x : Int} (hp : ls.Pairwise (· < ·)) (hx : x ∉ ls) : (insL ls x).Pairwise (· < ·) := by
  induction ls with
  | nil => simp [insL]
  | cons a r ih =>
    have hr := (List.pairwise_cons.1 hp).2
    have ha := (List.pairwise_cons.1 hp).1
    have h1 : x ≠ a := fun e => hx (by rw [e]; exact List.mem_cons_self ..)
    have h2 : x ∉ r := fun e => hx (List.mem_cons_of_mem _ e)
    unfold insL
    by_cases h : a < x
    · rw [if_pos h, List.pairwise_cons]
      refine ⟨fun b hb => ?_, ih hr h2⟩
      rcases insL_mem.1 hb with rfl | hb
      · exact h
      · exact ha b hb
    · rw [if_neg h, List.pairwise_cons]
      refine ⟨fun b hb => ?_, hp⟩
      rcases List.mem_cons.1 hb with rfl | hb
      · omega
      · have := ha b hb; omega
theorem insL_step {zs : List Int} {x : Int} {k : Nat} (hk : k < zs.length) (h : insL zs x = zs.take k ++ insL (zs.drop k) x) (hx : zs[k] < x) : insL zs x = zs.take (k + 1) ++ insL (zs.drop (k + 1)) x := by
  rw [h, List.drop_eq_getElem_cons hk, insL, if_pos hx, List.take_succ_eq_append_getElem hk, List.append_assoc]
  rfl
theorem insL_stop {zs : List Int} {x : Int} {k : Nat} (hk : k < zs.length) (h : insL zs x = zs.take k ++ insL (zs.drop k) x) (hx : ¬ zs[k] < x) : insL zs x = zs.take k ++ (x :: zs.drop k) := by
  rw [h, List.drop_eq_getElem_cons hk, insL, if_neg hx]
theorem insL_out {zs : List Int} {x : Int} {k : Nat} (hk : zs.length ≤ k) (h : insL zs x = zs.take k ++ insL (zs.drop k) x) : insL zs x = zs.take k ++ (x :: zs.drop k) := by
  rw [h, List.drop_of_length_le hk]
  rfl
theorem rdInts_drop {w : World} {b o : Nat} {zs : List Int} (h : RdV w (some ⟨b, o, none⟩) (ints zs)) (k : Nat) : RdV w (some ⟨b, o + k, none⟩) (ints (zs.drop k)) := by
  rcases h with h | ⟨b', o', e, hl, hc⟩
  · have : zs = [] := by simpa [ints] using h
    subst this
    simp [ints, RdV]
  · injection e with e
    injection e with e1 e2
    subst e1 e2
    refine .inr ⟨b, o + k, rfl, hl, fun j hj => ?_⟩
    rw [ints_len, List.length_drop] at hj
    have := hc (k + j) (by rw [ints_len]; omega)
    rw [Nat.add_assoc, this]
    simp [ints]
set_option maxRecDepth 100000 in
set_option maxHeartbeats 4000000 in
theorem l4Sorted_any (A : Option Addr) (n c : Nat) (zs : List Int) (x : Int) (w : World) (hn : zs.length = n) (hnc : n ≤ c) (hr : RdV w A (ints zs)) (hm : n ≤ 1048576) :
    Calls Tryz.prog 64 #[.slice A n c, .int .i64 x] w (RVal fun u w' => ∃ B d, u = .slice B (n + 1) d ∧ w'.ownsRow w.heap.size 3 1 (.slice B (n + 1) d) (n + 1) (ints (insL zs x)) ∧ Below w.heap.size w w') := by
  have HN := Lib.hid hn
  clear hn
  go_enter Tryz.func64, Tryz.ntmps64
  go_wp2_with fail
  go_loopw [5, 6] (fun o i wr => ∃ (k : Nat) (B : Option Addr) (d : Nat), k ≤ n ∧ i = .int .i64 k ∧ o = .slice B k d ∧ Hid (insL zs x = zs.take k ++ insL (zs.drop k) x) ∧ wr.ownsRow w.heap.size 3 1 (.slice B k d) k (ints (zs.take k)) ∧ Below w.heap.size w wr) (fun _ i _ => n - (intOf i).toNat)
  case atStart =>
    exact ⟨0, _, _, Nat.zero_le _, rfl, rfl, Lib.hid rfl, own_of_blk (cs := []) (Blk.new w 3 []) (Nat.le_refl _) rfl (by decide), (Below.refl _ _).alloc (Nat.le_refl _) _⟩
  case round =>
    obtain ⟨k, B, d, hk, rfl, rfl, HJ, hown, hb⟩ := hrel
    have hrd0 := hr.below hb
    by_cases hlt : k < n
    · have hkz : k < zs.length := by rw [HN.out]; exact hlt
      have hkl : k < (ints zs).length := by rw [ints_len]; exact hkz
      obtain ⟨b, oo, rfl, hl, hc⟩ := hrd0.pos hkl
      have h1 := hc k hkl
      rw [ints_at] at h1
      clear hc
      have hki : (k : Int) < (n : Int) := by omega
      by_cases hx : zs[k] < x
      · have HS := Lib.hid (insL_step hkz HJ.out hx)
        have HTK : Hid (ints (zs.take (k + 1)) = ints (zs.take k) ++ [.int .i64 zs[k]]) := Lib.hid (by rw [List.take_succ_eq_append_getElem hkz, ints_app]; rfl)
        generalize zs[k] = y at *
        have hd : decide (y < x) = true := decide_eq_true hx
        have HO := Lib.hid hown
        have hsz := hb.size
        have HB := Lib.hid hb
        clear hown hb hx
        go_wp2_with (at_builtin; refine append_new rfl (.tmp 20) (.tmp 25) 28 rfl 3 _ _ _ Tryz.underlying28 int_infoY w.heap.size wr (.slice B k d) k _ rfl HO.out [.int .i64 y] (by first | rfl | (simp; with_unfolding_all rfl)) rfl (by simp [Value.oneCell']) (by omega) hsz ?_; intro v4 w4 hown4 hg4 hblk4)
        obtain ⟨B4, d4, rfl, _, _⟩ := own_slice hown4
        rw [← HTK.out] at hown4
        have hb4 := below_append HB.out hg4 HO.out rfl
        clear hg4 hblk4
        go_wp2_with fail
        go_roundw
        case rel => exact ⟨k + 1, B4, d4, by omega, by go_num, rfl, HS, hown4, hb4⟩
        case measure => simp [intOf]; omega
      · have HI := Lib.hid (insL_stop hkz HJ.out hx)
        generalize zs[k] = y at *
        have hd : decide (y < x) = false := decide_eq_false hx
        have hck : ¬ c = k := by omega
        have HRD : Hid (∀ W, Below w.heap.size w W → RdV W (some ⟨b, oo + k, none⟩) (ints (zs.drop k))) := Lib.hid (fun W hW => rdInts_drop (hr.below hW) k)
        clear hrd0
        have HR := Lib.hid hr
        have HB := Lib.hid hb
        have HO := Lib.hid hown
        have hsz := hb.size
        have hle := hk
        clear hr hb hown
        go_wp2_with fail
        go_region_law (first
          | (refine step_append_new rfl (.tmp 29) (.tmp 31) 28 rfl 3 _ _ _ Tryz.underlying28 int_infoY w.heap.size wr.drew (.slice B k d) k (ints (zs.take k)) rfl HO.out [.int .i64 x] (by first | rfl | (simp; with_unfolding_all rfl)) rfl (by simp [Value.oneCell']) (by omega) hsz ?_
             intro v7 w7 hown7 hg7 hb7
             obtain ⟨A7, c7, rfl, hA7, hA8⟩ := own_slice hown7
             have hb8 : Below w.heap.size w w7 := below_append (Below.drew HB.out) hg7 HO.out rfl
             have hsz8 := hb8.size)
          | (refine step_append_src rfl (.tmp 32) (.tmp 35) 28 rfl 3 _ _ _ Tryz.underlying28 int_infoY w.heap.size w7 (.slice A7 (k + 1) c7) (k + 1) (ints (zs.take k) ++ [.int .i64 x]) rfl hown7 _ (n - k) _ (ints (zs.drop k)) (by first | rfl | (simp; with_unfolding_all rfl)) (by simp [ints, HN.out]) (HRD.out _ hb8) (ints_one _) (by omega) hsz8 ?_
             intro v9 w9 hown9 hg9 hb9
             rw [show k + 1 + (n - k) = n + 1 from by omega] at hown9
             obtain ⟨A9, c9, rfl, hA9, hA10⟩ := own_slice hown9
             have hb10 : Below w.heap.size w w9 := below_append hb8 hg9 hown7 rfl))
        all_goals
          go_wp2_with fail
          go_ret
          exact RVal.mk ⟨_, _, rfl, by rw [show ints (insL zs x) = ints (zs.take k) ++ [.int .i64 x] ++ ints (zs.drop k) from by rw [HI.out, ints_app, List.append_assoc]; rfl]; exact hown9, hb10⟩
    · obtain rfl : k = n := by omega
      have HI := Lib.hid (insL_out (by rw [HN.out]; exact Nat.le_refl _) HJ.out)
      have HNL : Hid (ints (zs.drop k) = []) := Lib.hid (by rw [List.drop_of_length_le (by rw [HN.out]; exact Nat.le_refl _)]; rfl)
      clear hrd0
      by_cases hck0 : k = c
      · subst hck0
        have HR := Lib.hid hr
        have HB := Lib.hid hb
        have HO := Lib.hid hown
        have hsz := hb.size
        have hle := hk
        clear hr hb hown
        go_wp2_with fail
        go_region_law (first
          | (refine step_append_new rfl (.tmp 29) (.tmp 31) 28 rfl 3 _ _ _ Tryz.underlying28 int_infoY w.heap.size wr.drew (.slice B k d) k (ints (zs.take k)) rfl HO.out [.int .i64 x] (by first | rfl | (simp; with_unfolding_all rfl)) rfl (by simp [Value.oneCell']) (by omega) hsz ?_
             intro v7 w7 hown7 hg7 hb7
             obtain ⟨A7, c7, rfl, hA7, hA8⟩ := own_slice hown7
             have hb8 : Below w.heap.size w w7 := below_append (Below.drew HB.out) hg7 HO.out rfl
             have hsz8 := hb8.size)
          | (refine step_append_src rfl (.tmp 32) (.tmp 35) 28 rfl 3 _ _ _ Tryz.underlying28 int_infoY w.heap.size w7 (.slice A7 (k + 1) c7) (k + 1) (ints (zs.take k) ++ [.int .i64 x]) rfl hown7 _ 0 _ (ints (zs.drop k)) (by first | rfl | (simp; with_unfolding_all rfl)) (by simp [ints, HN.out]) (by rw [HNL.out]; exact RdV.nil_) (ints_one _) (by omega) hsz8 ?_
             intro v9 w9 hown9 hg9 hb9
             rw [show k + 1 + 0 = k + 1 from by omega] at hown9
             obtain ⟨A9, c9, rfl, hA9, hA10⟩ := own_slice hown9
             have hb10 : Below w.heap.size w w9 := below_append hb8 hg9 hown7 rfl))
        all_goals
          go_wp2_with fail
          go_ret
          exact RVal.mk ⟨_, _, rfl, by rw [show ints (insL zs x) = ints (zs.take k) ++ [.int .i64 x] ++ ints (zs.drop k) from by rw [HI.out, ints_app, List.append_assoc]; rfl]; exact hown9, hb10⟩
      · have hck : ¬ c = k := fun e => hck0 e.symm
        have HR := Lib.hid hr
        have HB := Lib.hid hb
        have HO := Lib.hid hown
        have hsz := hb.size
        have hle := hk
        clear hr hb hown
        go_wp2_with fail
        go_region_law (first
          | (refine step_append_new rfl (.tmp 29) (.tmp 31) 28 rfl 3 _ _ _ Tryz.underlying28 int_infoY w.heap.size wr.drew (.slice B k d) k (ints (zs.take k)) rfl HO.out [.int .i64 x] (by first | rfl | (simp; with_unfolding_all rfl)) rfl (by simp [Value.oneCell']) (by omega) hsz ?_
             intro v7 w7 hown7 hg7 hb7
             obtain ⟨A7, c7, rfl, hA7, hA8⟩ := own_slice hown7
             have hb8 : Below w.heap.size w w7 := below_append (Below.drew HB.out) hg7 HO.out rfl
             have hsz8 := hb8.size)
          | (refine step_append_src rfl (.tmp 32) (.tmp 35) 28 rfl 3 _ _ _ Tryz.underlying28 int_infoY w.heap.size w7 (.slice A7 (k + 1) c7) (k + 1) (ints (zs.take k) ++ [.int .i64 x]) rfl hown7 _ 0 _ (ints (zs.drop k)) (by first | rfl | (simp; with_unfolding_all rfl)) (by simp [ints, HN.out]) (by rw [HNL.out]; exact RdV.nil_) (ints_one _) (by omega) hsz8 ?_
             intro v9 w9 hown9 hg9 hb9
             rw [show k + 1 + 0 = k + 1 from by omega] at hown9
             obtain ⟨A9, c9, rfl, hA9, hA10⟩ := own_slice hown9
             have hb10 : Below w.heap.size w w9 := below_append hb8 hg9 hown7 rfl))
        all_goals
          go_wp2_with fail
          go_ret
          exact RVal.mk ⟨_, _, rfl, by rw [show ints (insL zs x) = ints (zs.take k) ++ [.int .i64 x] ++ ints (zs.drop k) from by rw [HI.out, ints_app, List.append_assoc]; rfl]; exact hown9, hb10⟩
end Go.Proofs.YtbllbpjlkechdaaGreat
end
section
/- Papers, in plain words. -/
namespace Go.Proofs.YtbllbpjlkechdaaGreat
set_option linter.unusedVariables false
/-- the marks that the first one with the id has -/
def marksOf : List HoldV → Int → Int
  | [], _ => 0
  | h :: r, x => if h.f0 = x then h.f1 else marksOf r x
def holdGo (left : List Int) (last : Int) : List HoldV → Bool
  | [] => true
  | h :: r => (idI h.f0 && ((decide (1 ≤ h.f1) && decide (h.f1 ≤ 7)) && (decide (last < h.f0) && !hasI left h.f0))) && holdGo left h.f0 r
def leftGo (last : Int) : List Int → Bool
  | [] => true
  | x :: r => (idI x && decide (last < x)) && leftGo x r
def papOk (hs : List HoldV) (ls : List Int) : Bool := (holdGo ls 0 hs && leftGo 0 ls) && (decide ((hs.length : Int) ≤ 12) && decide ((ls.length : Int) ≤ 12))
/-- 2 to the power of a mark -/
def powM (m : Int) : Int := if m = 0 then 1 else if m = 1 then 2 else 4
/-- whether a mark is among marks -/
def bitM (x m : Int) : Bool := decide (x / powM m % 2 = 1)
/-- holds in which an id has marks -/
def setH : List HoldV → Int → Int → List HoldV
  | [], x, m => if m = 0 then [] else [⟨x, m⟩]
  | h :: r, x, m => if h.f0 < x then h :: setH r x m else if h.f0 = x then (if m = 0 then r else ⟨x, m⟩ :: r) else (if m = 0 then h :: r else ⟨x, m⟩ :: h :: r)
structure PapV where
  hs : List HoldV
  ls : List Int
def markOk (k m : Int) : Bool := decide (k = 2) || (decide (0 ≤ m) && decide (m ≤ 2))
/-- a deed: papers and whether it was done -/
def pdo (p : PapV) (k x m : Int) : PapV × Bool :=
  if (idI x && !hasI p.ls x) && markOk k m then
    if k = 0 then
      if bitM (marksOf p.hs x) m || (decide (marksOf p.hs x = 0) && decide (p.hs.length = 12)) then (p, false) else (⟨setH p.hs x (marksOf p.hs x + powM m), p.ls⟩, true)
    else if k = 1 then
      if bitM (marksOf p.hs x) m then (⟨setH p.hs x (marksOf p.hs x - powM m), p.ls⟩, true) else (p, false)
    else if k = 2 then
      if decide (marksOf p.hs x = 0) && decide (p.ls.length < 12) then (⟨p.hs, insL p.ls x⟩, true) else (p, false)
    else (p, false)
  else (p, false)
def papOkV (p : PapV) : Bool := papOk p.hs p.ls
/-- PaperDo -/
def paperDo (p : PapV) (k x m : Int) : PapV × Bool := if papOkV p then pdo p k x m else (⟨[], []⟩, false)
theorem setH_zero {hs : List HoldV} {ls : List Int} {last x : Int} (h : holdGo ls last hs = true) (hx : marksOf hs x = 0) : setH hs x 0 = hs := by
  induction hs generalizing last with
  | nil => rfl
  | cons a r ih =>
    simp only [holdGo, Bool.and_eq_true, decide_eq_true_eq] at h
    obtain ⟨⟨h1, ⟨h2, h3⟩, h4, h5⟩, h6⟩ := h
    unfold marksOf at hx
    by_cases hax : a.f0 = x
    · rw [if_pos hax] at hx; omega
    · rw [if_neg hax] at hx
      unfold setH
      by_cases hlt : a.f0 < x
      · rw [if_pos hlt, ih h6 hx]
      · rw [if_neg hlt, if_neg hax, if_pos rfl]
/-- valid holds are known by their parts -/
theorem holdGo_iff {ls : List Int} {last : Int} {hs : List HoldV} : holdGo ls last hs = true ↔
    (∀ h ∈ hs, (1 ≤ h.f0 ∧ h.f0 ≤ 999) ∧ (1 ≤ h.f1 ∧ h.f1 ≤ 7) ∧ h.f0 ∉ ls ∧ last < h.f0) ∧ hs.Pairwise (fun a b => a.f0 < b.f0) := by
  induction hs generalizing last with
  | nil => simp [holdGo]
  | cons a r ih =>
    simp only [holdGo, Bool.and_eq_true, decide_eq_true_eq, ih, idI, hasI, Bool.not_eq_true', List.mem_cons, List.pairwise_cons, List.contains_eq_mem, decide_eq_false_iff_not]
    constructor
    · rintro ⟨⟨h1, h2, h3, h4⟩, h5, h6⟩
      refine ⟨?_, fun b hb => (h5 b hb).2.2.2, h6⟩
      rintro b (rfl | hb)
      · exact ⟨h1, h2, h4, h3⟩
      · have := h5 b hb
        exact ⟨this.1, this.2.1, this.2.2.1, by omega⟩
    · rintro ⟨h1, h2, h3⟩
      have ha := h1 a (.inl rfl)
      refine ⟨⟨ha.1, ha.2.1, ha.2.2.2, ha.2.2.1⟩, fun b hb => ?_, h3⟩
      have := h1 b (.inr hb)
      exact ⟨this.1, this.2.1, this.2.2.1, h2 b hb⟩
theorem leftGo_iff {last : Int} {ls : List Int} : leftGo last ls = true ↔ (∀ x ∈ ls, (1 ≤ x ∧ x ≤ 999) ∧ last < x) ∧ ls.Pairwise (· < ·) := by
  induction ls generalizing last with
  | nil => simp [leftGo]
  | cons a r ih =>
    simp only [leftGo, Bool.and_eq_true, decide_eq_true_eq, ih, idI, List.mem_cons, List.pairwise_cons]
    constructor
    · rintro ⟨⟨h1, h2⟩, h3, h4⟩
      refine ⟨?_, fun b hb => (h3 b hb).2, h4⟩
      rintro b (rfl | hb)
      · exact ⟨h1, h2⟩
      · have := h3 b hb
        exact ⟨this.1, by omega⟩
    · rintro ⟨h1, h2, h3⟩
      have ha := h1 a (.inl rfl)
      exact ⟨⟨ha.1, ha.2⟩, fun b hb => ⟨(h1 b (.inr hb)).1, h2 b hb⟩, h3⟩
theorem marksOf_mem {hs : List HoldV} {x : Int} (h : marksOf hs x ≠ 0) : ∃ a ∈ hs, a.f0 = x ∧ a.f1 = marksOf hs x := by
  induction hs with
  | nil => exact absurd rfl h
  | cons a r ih =>
    unfold marksOf at h ⊢
    by_cases hax : a.f0 = x
    · rw [if_pos hax]
      exact ⟨a, List.mem_cons_self .., hax, rfl⟩
    · rw [if_neg hax] at h ⊢
      obtain ⟨b, h1, h2, h3⟩ := ih h
      exact ⟨b, List.mem_cons_of_mem _ h1, h2, h3⟩
theorem marksOf_eq {ls : List Int} {last x : Int} {hs : List HoldV} (h : holdGo ls last hs = true) {a : HoldV} (ha : a ∈ hs) (hx : a.f0 = x) : marksOf hs x = a.f1 := by
  induction hs generalizing last with
  | nil => cases ha
  | cons b r ih =>
    have hp := (holdGo_iff.1 h).2
    simp only [holdGo, Bool.and_eq_true, decide_eq_true_eq] at h
    unfold marksOf
    rcases List.mem_cons.1 ha with rfl | hm
    · rw [if_pos hx]
    · have := (List.pairwise_cons.1 hp).1 a hm
      rw [if_neg (by omega)]
      exact ih h.2 hm
theorem marksOf_range {ls : List Int} {last : Int} {hs : List HoldV} (h : holdGo ls last hs = true) (x : Int) : 0 ≤ marksOf hs x ∧ marksOf hs x ≤ 7 := by
  by_cases hz : marksOf hs x = 0
  · omega
  · obtain ⟨a, ha, _, e⟩ := marksOf_mem hz
    have := ((holdGo_iff.1 h).1 a ha).2.1
    omega
/-- what is in holds in which an id has other marks -/
theorem setH_mem {hs : List HoldV} {x m : Int} {b : HoldV} (hp : hs.Pairwise (fun a b => a.f0 < b.f0)) : b ∈ setH hs x m ↔ (b ∈ hs ∧ b.f0 ≠ x) ∨ (m ≠ 0 ∧ b = ⟨x, m⟩) := by
  induction hs with
  | nil => by_cases hm : m = 0 <;> simp [setH, hm]
  | cons a r ih =>
    have hr := (List.pairwise_cons.1 hp).2
    have ha := (List.pairwise_cons.1 hp).1
    unfold setH
    by_cases hlt : a.f0 < x
    · rw [if_pos hlt, List.mem_cons, ih hr, List.mem_cons]
      constructor
      · rintro (rfl | ⟨h1, h2⟩ | h)
        · exact .inl ⟨.inl rfl, by omega⟩
        · exact .inl ⟨.inr h1, h2⟩
        · exact .inr h
      · rintro (⟨rfl | h1, h2⟩ | h)
        · exact .inl rfl
        · exact .inr (.inl ⟨h1, h2⟩)
        · exact .inr (.inr h)
    · rw [if_neg hlt]
      have hgt : ∀ c ∈ r, c.f0 ≠ x := fun c hc => by have := ha c hc; omega
      by_cases hax : a.f0 = x
      · rw [if_pos hax]
        by_cases hm : m = 0
        · rw [if_pos hm, List.mem_cons]
          constructor
          · intro h; exact .inl ⟨.inr h, hgt b h⟩
          · rintro (⟨rfl | h1, h2⟩ | ⟨h, _⟩)
            · exact absurd hax h2
            · exact h1
            · exact absurd hm h
        · rw [if_neg hm, List.mem_cons, List.mem_cons]
          constructor
          · rintro (rfl | h)
            · exact .inr ⟨hm, rfl⟩
            · exact .inl ⟨.inr h, hgt b h⟩
          · rintro (⟨rfl | h1, h2⟩ | ⟨_, h⟩)
            · exact absurd hax h2
            · exact .inr h1
            · exact .inl h
      · rw [if_neg hax]
        have hall : ∀ c ∈ a :: r, c.f0 ≠ x := fun c hc => by
          rcases List.mem_cons.1 hc with rfl | hc
          · exact hax
          · exact hgt c hc
        by_cases hm : m = 0
        · rw [if_pos hm]
          constructor
          · intro h; exact .inl ⟨h, hall b h⟩
          · rintro (⟨h, _⟩ | ⟨h, _⟩)
            · exact h
            · exact absurd hm h
        · rw [if_neg hm]
          constructor
          · intro h
            rcases List.mem_cons.1 h with rfl | h
            · exact .inr ⟨hm, rfl⟩
            · exact .inl ⟨h, hall b h⟩
          · rintro (⟨h, _⟩ | ⟨_, rfl⟩)
            · exact List.mem_cons_of_mem _ h
            · exact List.mem_cons_self ..
theorem setH_asc {hs : List HoldV} {x m : Int} (hp : hs.Pairwise (fun a b => a.f0 < b.f0)) : (setH hs x m).Pairwise (fun a b => a.f0 < b.f0) := by
  induction hs with
  | nil => by_cases hm : m = 0 <;> simp [setH, hm]
  | cons a r ih =>
    have hr := (List.pairwise_cons.1 hp).2
    have ha := (List.pairwise_cons.1 hp).1
    unfold setH
    by_cases hlt : a.f0 < x
    · rw [if_pos hlt, List.pairwise_cons]
      refine ⟨fun b hb => ?_, ih hr⟩
      rcases (setH_mem hr).1 hb with ⟨h, _⟩ | ⟨_, rfl⟩
      · exact ha b h
      · exact hlt
    · rw [if_neg hlt]
      by_cases hax : a.f0 = x
      · rw [if_pos hax]
        by_cases hm : m = 0
        · rw [if_pos hm]; exact hr
        · rw [if_neg hm, List.pairwise_cons]
          exact ⟨fun b hb => by have := ha b hb; show x < b.f0; omega, hr⟩
      · rw [if_neg hax]
        by_cases hm : m = 0
        · rw [if_pos hm]; exact hp
        · rw [if_neg hm, List.pairwise_cons]
          refine ⟨fun b hb => ?_, hp⟩
          rcases List.mem_cons.1 hb with rfl | hb
          · show x < b.f0; omega
          · have := ha b hb; show x < b.f0; omega
theorem setH_len {ls : List Int} {last x m : Int} {hs : List HoldV} (h : holdGo ls last hs = true) : (setH hs x m).length + (if marksOf hs x = 0 then 0 else 1) = hs.length + (if m = 0 then 0 else 1) := by
  induction hs generalizing last with
  | nil => by_cases hm : m = 0 <;> simp [setH, marksOf, hm]
  | cons a r ih =>
    have hp := (holdGo_iff.1 h).2
    have hh := (holdGo_iff.1 h).1 a (List.mem_cons_self ..)
    have h' := h
    simp only [holdGo, Bool.and_eq_true, decide_eq_true_eq] at h'
    have ha := (List.pairwise_cons.1 hp).1
    unfold setH
    by_cases hlt : a.f0 < x
    · have e : marksOf (a :: r) x = marksOf r x := by rw [marksOf, if_neg (by omega)]
      rw [if_pos hlt, e, List.length_cons, List.length_cons]
      have := ih h'.2
      omega
    · rw [if_neg hlt]
      by_cases hax : a.f0 = x
      · have e : marksOf (a :: r) x = a.f1 := by rw [marksOf, if_pos hax]
        have h0 : a.f1 ≠ 0 := by omega
        rw [if_pos hax, e, if_neg h0]
        by_cases hm : m = 0 <;> simp [hm]
      · have e : marksOf (a :: r) x = 0 := by
          by_cases hz : marksOf (a :: r) x = 0
          · exact hz
          · obtain ⟨b, hb, hbx, _⟩ := marksOf_mem hz
            rcases List.mem_cons.1 hb with rfl | hb
            · exact absurd hbx hax
            · have := ha b hb; omega
        rw [if_neg hax, e, if_pos rfl]
        by_cases hm : m = 0 <;> simp [hm]
/-- marks that are set are valid just if the id is one, has not left, and the marks are 1 to 7 (or none) -/
theorem setH_ok {ls : List Int} {x m : Int} {hs : List HoldV} (h : holdGo ls 0 hs = true) : holdGo ls 0 (setH hs x m) = true ↔ (m = 0 ∨ ((1 ≤ x ∧ x ≤ 999) ∧ x ∉ ls ∧ 1 ≤ m ∧ m ≤ 7)) := by
  obtain ⟨h1, h2⟩ := holdGo_iff.1 h
  rw [holdGo_iff]
  constructor
  · rintro ⟨h3, _⟩
    by_cases hm : m = 0
    · exact .inl hm
    · have := h3 ⟨x, m⟩ ((setH_mem h2).2 (.inr ⟨hm, rfl⟩))
      exact .inr ⟨this.1, this.2.2.1, this.2.1⟩
  · intro h3
    refine ⟨fun b hb => ?_, setH_asc h2⟩
    rcases (setH_mem h2).1 hb with ⟨hb, _⟩ | ⟨hm, rfl⟩
    · exact h1 b hb
    · rcases h3 with h3 | ⟨h3, h4, h5⟩
      · exact absurd h3 hm
      · exact ⟨h3, h5, h4, by show 0 < x; omega⟩
theorem marksOf_set {ls : List Int} {last x y m : Int} {hs : List HoldV} (h : holdGo ls last hs = true) : marksOf (setH hs x m) y = if y = x then m else marksOf hs y := by
  induction hs generalizing last with
  | nil =>
    by_cases hm : m = 0
    · by_cases hy : y = x <;> simp [setH, hm, marksOf]
    · by_cases hy : y = x
      · simp [setH, hm, marksOf, hy]
      · have : ¬ x = y := fun e => hy e.symm
        simp [setH, hm, marksOf, hy, this]
  | cons a r ih =>
    have hp := (holdGo_iff.1 h).2
    have h' := h
    simp only [holdGo, Bool.and_eq_true, decide_eq_true_eq] at h'
    have ha := (List.pairwise_cons.1 hp).1
    have hno : ∀ z, a.f0 ≥ z → marksOf r z = 0 := fun z hz => by
      by_cases hzz : marksOf r z = 0
      · exact hzz
      · obtain ⟨b, hb, hbx, _⟩ := marksOf_mem hzz
        have := ha b hb; omega
    unfold setH
    by_cases hlt : a.f0 < x
    · rw [if_pos hlt, marksOf, ih h'.2, marksOf]
      by_cases hy : a.f0 = y
      · rw [if_pos hy, if_pos hy, if_neg (by omega)]
      · rw [if_neg hy, if_neg hy]
    · rw [if_neg hlt]
      by_cases hax : a.f0 = x
      · rw [if_pos hax]
        by_cases hm : m = 0
        · rw [if_pos hm, hm]
          by_cases hy : y = x
          · rw [if_pos hy]; exact hno y (by omega)
          · rw [if_neg hy, marksOf, if_neg (by omega)]
        · rw [if_neg hm, marksOf, marksOf]
          by_cases hy : y = x
          · rw [if_pos hy, if_pos (show x = y from hy.symm)]
          · rw [if_neg hy, if_neg (show ¬ x = y from fun e => hy e.symm), if_neg (by omega)]
      · rw [if_neg hax]
        have e0 : marksOf (a :: r) x = 0 := by rw [marksOf, if_neg hax]; exact hno x (by omega)
        by_cases hm : m = 0
        · rw [if_pos hm, hm]
          by_cases hy : y = x
          · rw [if_pos hy, hy]; exact e0
          · rw [if_neg hy]
        · rw [if_neg hm, marksOf]
          by_cases hy : y = x
          · rw [if_pos hy, if_pos (show x = y from hy.symm)]
          · rw [if_neg hy, if_neg (show ¬ x = y from fun e => hy e.symm)]
end Go.Proofs.YtbllbpjlkechdaaGreat
end
