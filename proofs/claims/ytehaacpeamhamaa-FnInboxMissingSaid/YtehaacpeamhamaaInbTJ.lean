/- The program's taking of a message in place. -/
import Derived.Test.YtehaacpeamhamaaInbTI
import Derived.Deep.RegionLaw
import Derived.IntWalk
namespace Go.Proofs.Ytehaacpeamhamaa
open Go Go.ChangeShapes Go.WideShapes Go.ChangeAt Go.RowKit
theorem inbGo_asc {next last : Int} {held : List MessageV} (h : inbGo next last held = true) : ∀ t (ht : t < held.length), last < (held[t]).f0 := by
  induction held generalizing last with
  | nil => intro t ht; simp at ht
  | cons x r ih =>
    obtain ⟨a1, _, _, _, a5⟩ := inbGo_cons h
    intro t ht
    cases t with
    | zero => simp only [List.getElem_cons_zero]; omega
    | succ t =>
      have := ih a5 t (by simpa using ht)
      simp only [List.getElem_cons_succ]
      omega
theorem inbGo_ascM {next last : Int} {held : List MessageV} (h : inbGo next last held = true) : AscM held := by
  induction held generalizing last with
  | nil => intro s t hs; simp at hs
  | cons x r ih =>
    obtain ⟨_, _, _, _, a5⟩ := inbGo_cons h
    intro s t hs ht hst
    cases t with
    | zero => omega
    | succ t =>
      cases s with
      | zero => simpa using inbGo_asc a5 t (by simpa using ht)
      | succ s => simpa using ih a5 s t (by simpa using hs) (by simpa using ht) (by omega)
theorem hold_found {zs : List MessageV} {m : MessageV} {i : Nat} (h : AtM zs m.f0 i) (hf : FoundM zs m.f0 i = true) : holdM zs m = zs := by
  induction zs generalizing i with
  | nil => simp [FoundM] at hf
  | cons x r ih =>
    obtain ⟨h1, h2, h3⟩ := h
    cases i with
    | zero =>
      have e : x.f0 = m.f0 := by simpa [FoundM] using hf
      rw [holdM, if_neg (by omega), if_pos e]
    | succ i =>
      have e := h2 0 (by simp) (by omega)
      simp only [List.getElem_cons_zero] at e
      rw [holdM, if_pos e, ih (i := i) ⟨by simpa using h1, fun t ht hti => h2 (t + 1) (by simpa using ht) (by omega), fun t ht hti => h3 (t + 1) (by simpa using ht) (by omega)⟩ (by simpa [FoundM] using hf)]
theorem hold_ins {zs : List MessageV} {m : MessageV} {i : Nat} (h : AtM zs m.f0 i) (hf : FoundM zs m.f0 i = false) : holdM zs m = insM zs i m := by
  induction zs generalizing i with
  | nil =>
    obtain ⟨h1, _, _⟩ := h
    obtain rfl : i = 0 := by simpa using h1
    rfl
  | cons x r ih =>
    obtain ⟨h1, h2, h3⟩ := h
    cases i with
    | zero =>
      have e : ¬ x.f0 = m.f0 := by simpa [FoundM] using hf
      have e2 := h3 0 (by simp) (Nat.le_refl _)
      simp only [List.getElem_cons_zero] at e2
      rw [holdM, if_neg (by omega), if_neg e]
      rfl
    | succ i =>
      have e := h2 0 (by simp) (by omega)
      simp only [List.getElem_cons_zero] at e
      rw [holdM, if_pos e, ih (i := i) ⟨by simpa using h1, fun t ht hti => h2 (t + 1) (by simpa using ht) (by omega), fun t ht hti => h3 (t + 1) (by simpa using ht) (by omega)⟩ (by simpa [FoundM] using hf)]
      rfl
theorem found_mem {zs : List MessageV} {x : Int} {i : Nat} (hf : FoundM zs x i = true) : ∃ h : i < zs.length, (zs[i]).f0 = x := by
  by_cases hi : i < zs.length
  · exact ⟨hi, by simpa [FoundM, List.getElem?_eq_getElem hi] using hf⟩
  · rw [FoundM, List.getElem?_eq_none (by omega)] at hf
    cases hf
theorem takeI_found {next : Int} {held : List MessageV} {m : MessageV} {i : Nat} (h : inbOk next held = true) (ha : AtM held m.f0 i) (hf : FoundM held m.f0 i = true) : takeI next held m = ⟨next, held, []⟩ := by
  by_cases h1 : ¬ (1 ≤ m.f1 ∧ m.f1 ≤ 999) ∨ ¬ (next ≤ m.f0 ∧ m.f0 ≤ next + 6)
  · exact takeI_out h h1
  · have i1 : 1 ≤ m.f1 ∧ m.f1 ≤ 999 := Decidable.byContradiction fun c => h1 (.inl c)
    have i2 : next ≤ m.f0 ∧ m.f0 ≤ next + 6 := Decidable.byContradiction fun c => h1 (.inr c)
    obtain ⟨hi, he⟩ := found_mem hf
    have := inbGo_asc (inbOk_bounds h).2.2 i hi
    rw [takeI_hold h i1 (by omega) i2.2, hold_found ha hf]
/-- blocks that a taking may turn: the inbox's own, its list's, new ones -/
structure TakeFr (w w' : World) (q : Nat) (row : Option Nat) : Prop where
  os : w'.os = w.os
  tape : w'.tape = w.tape
  output : w'.output = w.output
  size : w.heap.size ≤ w'.heap.size
  block : ∀ k, k < w.heap.size → k ≠ q → row ≠ some k → w'.heap[k]? = w.heap[k]?
def TookI (w : World) (q base : Nat) (v : Value) (t : TakeV) : Ending → World → Prop :=
  RVal fun u w' => ∃ A c, Blk w' q 25 [.int .i64 t.next, .slice A t.held.length c] ∧ w'.ownsRow base 35 2 (.slice A t.held.length c) t.held.length (messages t.held) ∧ (Value.slice A t.held.length c).ownBlock ≠ some q ∧
    w'.ownsRow w.heap.size 3 1 u t.ids.length (ints t.ids) ∧ (∀ g, u.ownBlock = some g → (Value.slice A t.held.length c).ownBlock ≠ some g) ∧ ((Value.slice A t.held.length c).ownBlock = v.ownBlock ∨ ∃ g, (Value.slice A t.held.length c).ownBlock = some g ∧ w.heap.size ≤ g) ∧ TakeFr w w' q v.ownBlock
theorem tookI_same {w W : World} {q base n c : Nat} {A : Option Addr} {next : Int} {held : List MessageV} {t : TakeV} (ht : t = ⟨next, held, []⟩) (hn : held.length = n) (hb : Below w.heap.size w W) (hQ : Blk w q 25 [.int .i64 next, .slice A n c]) (hown : w.ownsRow base 35 2 (.slice A n c) n (messages held)) (hne : (Value.slice A n c).ownBlock ≠ some q) :
    TookI w q base (.slice A n c) t (.returned (.slice none 0 0)) W := by
  subst ht hn
  exact RVal.mk ⟨A, c, hQ.later hb, own_later hown hb, hne, World.ownsRow_nil _ _ _ _, fun g e => by simp [Value.ownBlock] at e, .inl rfl, ⟨hb.os, hb.tape, hb.output, hb.size, fun k hk _ _ => hb.block k hk⟩⟩
theorem tookI_hold {w w4 w5 : World} {q base n c hc : Nat} {A HA : Option Addr} {next : Int} {held' : List MessageV} {s0 : Value} {t : TakeV} (ht : t = ⟨next, held', []⟩) (hB : Below w.heap.size w w4) (hq : q < w.heap.size)
    (hg : w4.grownBy w5 (Value.slice A n c).ownBlock) (hQ5 : Blk w5 q 25 [.int .i64 next, s0]) (hown5 : w5.ownsRow base 35 2 (.slice HA held'.length hc) held'.length (messages held'))
    (hnew : (Value.slice HA held'.length hc).ownBlock = (Value.slice A n c).ownBlock ∨ ∃ g, (Value.slice HA held'.length hc).ownBlock = some g ∧ w4.heap.size ≤ g) (hne : (Value.slice A n c).ownBlock ≠ some q) :
    TookI w q base (.slice A n c) t (.returned (.slice none 0 0)) (w5.setCell ⟨q, 1, none⟩ (.slice HA held'.length hc)) := by
  subst ht
  have hs := hB.size
  have hnq : (Value.slice HA held'.length hc).ownBlock ≠ some q := by
    rcases hnew with h | ⟨g, h, hge⟩
    · rw [h]; exact hne
    · rw [h]; intro e; injection e with e; omega
  have hO : Out q (q + 1) w5 (w5.setCell ⟨q, 1, none⟩ (.slice HA held'.length hc)) := out_set (Out.refl _ _ _) _ _ _ (Nat.le_refl _) (Nat.lt_succ_self _)
  refine RVal.mk ⟨HA, hc, hQ5.set_ 1 _, own_out hown5 hO (fun g e => by have : g ≠ q := fun h => hnq (by rw [e, h]); omega), hnq, World.ownsRow_nil _ _ _ _, fun g e => by simp [Value.ownBlock] at e, ?_, ?_⟩
  · rcases hnew with h | ⟨g, h, hge⟩
    · exact .inl h
    · exact .inr ⟨g, h, by omega⟩
  · exact ⟨hg.os.trans hB.os, hg.tape.trans hB.tape, hg.output.trans hB.output, Nat.le_trans hs (by simpa [World.setCell] using hg.size), fun k hk hkq hkr => (Below.heap_setCell w5 ⟨q, 1, none⟩ _ k hkq).trans ((hg.block k (by omega) (fun e => hkr e.symm)).trans (hB.block k hk))⟩
theorem tookI_run {w w4 W5 W6 : World} {q base n c m : Nat} {A : Option Addr} {nx : Int} {rest : List MessageV} {ids : List Int} {s0 o : Value} {t : TakeV} (ht : t = ⟨nx, rest, ids⟩) (hm : m = rest.length) (hB : Below w.heap.size w w4) (hq : q < w.heap.size)
    (hbb : Below w4.heap.size w4 W5) (hg : (W5.setCell ⟨q, 0, none⟩ (.int .i64 nx)).grownBy W6 (Value.slice A n c).ownBlock) (hQ6 : Blk W6 q 25 [.int .i64 nx, s0]) (hown6 : W6.ownsRow base 35 2 (.slice A m c) m (messages rest))
    (hne : (Value.slice A n c).ownBlock ≠ some q) (hA : ∀ g, (Value.slice A n c).ownBlock = some g → g < w4.heap.size) (ho : W5.ownsRow w4.heap.size 3 1 o ids.length (ints ids)) :
    TookI w q base (.slice A n c) t (.returned o) (W6.setCell ⟨q, 1, none⟩ (.slice A m c)) := by
  subst ht hm
  have hs := hB.size
  have hs2 := hbb.size
  have hs3 : (W5.setCell ⟨q, 0, none⟩ (.int .i64 nx)).heap.size = W5.heap.size := by simp [World.setCell]
  have hob : (Value.slice A rest.length c).ownBlock = (Value.slice A n c).ownBlock := by cases A <;> rfl
  have hO0 : Out q (q + 1) W5 (W5.setCell ⟨q, 0, none⟩ (.int .i64 nx)) := out_set (Out.refl _ _ _) _ _ _ (Nat.le_refl _) (Nat.lt_succ_self _)
  have hO : Out q (q + 1) W6 (W6.setCell ⟨q, 1, none⟩ (.slice A rest.length c)) := out_set (Out.refl _ _ _) _ _ _ (Nat.le_refl _) (Nat.lt_succ_self _)
  have ho2 := own_out ho hO0 (fun g e => .inr (by have := (ho.lt g e).1; omega))
  have ho3 : W6.ownsRow w4.heap.size 3 1 o ids.length (ints ids) := by
    cases hr : (Value.slice A n c).ownBlock with
    | none => rw [hr] at hg; exact ho2.kept (row := none) hg (by cases o.ownBlock <;> simp)
    | some g0 =>
      rw [hr] at hg
      exact own_only ho2 hg (fun e => by have := (ho.lt _ e).1; have := hA _ hr; omega)
  have ho4 := own_out ho3 hO (fun g e => .inr (by have := (ho.lt g e).1; omega))
  refine RVal.mk ⟨A, c, hQ6.set_ 1 _, own_out hown6 hO (fun g e => by rw [hob] at e; have : g ≠ q := fun h => hne (by rw [e, h]); omega), by rw [hob]; exact hne, own_base ho4 hs, fun g e => by
    rw [hob]
    intro h
    have := (ho.lt _ e).1
    have := hA _ h
    omega, .inl hob, ?_⟩
  exact ⟨hg.os.trans (hbb.os.trans hB.os), hg.tape.trans (hbb.tape.trans hB.tape), hg.output.trans (hbb.output.trans hB.output), Nat.le_trans hs (Nat.le_trans hs2 (Nat.le_trans (Nat.le_of_eq hs3.symm) (by simpa [World.setCell] using hg.size))),
    fun k hk hkq hkr => (Below.heap_setCell W6 ⟨q, 1, none⟩ _ k hkq).trans ((hg.block k (by omega) (fun e => hkr e.symm)).trans ((Below.heap_setCell W5 ⟨q, 0, none⟩ _ k hkq).trans ((hbb.block k (by omega)).trans (hB.block k hk))))⟩
theorem keep4 {w w0 W : World} {q m : Nat} {v x0 x1 nv : Value} (h0 : Below w0.heap.size w0 w) (hb : Below w.heap.size w W) (lq : q < w.heap.size) (lm : m < w.heap.size) (q0 : w.cell? ⟨q, 0, none⟩ = some nv) (q1 : w.cell? ⟨q, 1, none⟩ = some v) (m0 : w.cell? ⟨m, 0, none⟩ = some x0) (m1 : w.cell? ⟨m, 1, none⟩ = some x1) :
    Below w0.heap.size w0 W ∧ W.cell? ⟨q, 0, none⟩ = some nv ∧ W.cell? ⟨q, 1, none⟩ = some v ∧ W.cell? ⟨m, 0, none⟩ = some x0 ∧ W.cell? ⟨m, 1, none⟩ = some x1 :=
  ⟨below_trans h0 hb, (hb.cell (p := ⟨q, 0, none⟩) lq).trans q0, (hb.cell (p := ⟨q, 1, none⟩) lq).trans q1, (hb.cell (p := ⟨m, 0, none⟩) lm).trans m0, (hb.cell (p := ⟨m, 1, none⟩) lm).trans m1⟩
set_option maxHeartbeats 8000000 in
theorem take_any (q base : Nat) (next : Int) (A : Option Addr) (n c : Nat) (held : List MessageV) (x0 x1 : Int) (w : World) (hn : held.length = n) (hQ : Blk w q 25 [.int .i64 next, .slice A n c])
    (hown : w.ownsRow base 35 2 (.slice A n c) n (messages held)) (hne : (Value.slice A n c).ownBlock ≠ some q) (hbase : base ≤ w.heap.size) (hok : inbOk next held = true) :
    Calls Try.prog 23 #[.pointer (some ⟨q, 0, none⟩), .agg #[.int .i64 x0, .int .i64 x1]] w (TookI w q base (.slice A n c) (takeI next held ⟨x0, x1⟩)) := by
  have HN := Lib.hid hn
  have HOK := Lib.hid hok
  have HNE := Lib.hid hne
  have HQ := Lib.hid hQ
  obtain ⟨hn1, hn9, hgo⟩ := inbOk_bounds hok
  have HASC := Lib.hid (inbGo_ascM hgo)
  have hl6 := inbOk_len hok
  have hn6 : n ≤ 6 := by rw [← HN.out]; exact hl6
  have hal : Below w.heap.size w (w.alloc (.cells #[.int .i64 x0, .int .i64 x1] 35)) := (Below.refl _ _).alloc (Nat.le_refl _) _
  have hM : Blk (w.alloc (.cells #[.int .i64 x0, .int .i64 x1] 35)) w.heap.size 35 [.int .i64 x0, .int .i64 x1] := Blk.new _ _ _
  have hQ1 := hQ.later hal
  have hO1 := own_later hown hal
  have lq := hQ1.lt
  have lm := hM.lt
  have hqw := hQ.lt
  clear hn hok hne hgo hQ hl6
  go_enter Try.func23, Try.ntmps23
  go_wp2_with fail
  have hz1 : w.heap.size + 1 ≤ (w.alloc (.cells #[.int .i64 x0, .int .i64 x1] 35)).heap.size := by simp
  generalize w.alloc (.cells #[.int .i64 x0, .int .i64 x1] 35) = w1 at *
  have q0 := hQ1.cellAt 0 (by simp)
  have q1 := hQ1.cellAt 1 (by simp)
  have m0 := hM.cellAt 0 (by simp)
  have m1 := hM.cellAt 1 (by simp)
  simp only [List.getElem_cons_zero, List.getElem_cons_succ] at q0 q1 m0 m1
  have HAL := Lib.hid hal
  have HO1 := Lib.hid hO1
  have HM := Lib.hid hM
  have HQ1 := Lib.hid hQ1
  have HOWN := Lib.hid hown
  clear hal hO1 hM hQ1 hown
  go_region_held3 (fun W => Below w.heap.size w W ∧ W.cell? ⟨q, 0, none⟩ = some (.int .i64 next) ∧ W.cell? ⟨q, 1, none⟩ = some (.slice A n c) ∧ W.cell? ⟨w.heap.size, 0, none⟩ = some (.int .i64 x0) ∧ W.cell? ⟨w.heap.size, 1, none⟩ = some (.int .i64 x1))
    (first
      | exact keep4 HAL.out (Below.refl _ _) lq lm q0 q1 m0 m1
      | exact keep4 HAL.out (Below.drew (Below.refl _ _)) lq lm q0 q1 m0 m1
      | exact keep4 HAL.out kb2 lq lm q0 q1 m0 m1)
    ((
       go_at_call 32
       (with_reducible refine (search_msg A n c held x0 _ HN.out (own_rd HO1.out.drew) (by omega) HASC.out).mono ?_)
       rintro e w2 ⟨_, rfl, i, rfl, hat, hb2⟩
       have kb2 : Below w1.heap.size w1 w2 := ⟨hb2.os, hb2.tape, hb2.output, hb2.size, hb2.block⟩
       have HAT := Lib.hid hat
       clear hb2 hat))
  clear q0 q1 m0 m1
  have HS := Lib.hid (tookI_same (W := w2) (t := takeI next held ⟨x0, x1⟩) (w := w) (q := q) (base := base) (A := A) (n := n) (c := c) (next := next) (held := held))
  obtain ⟨B2, q0, q1, m0, m1⟩ := ‹Below w.heap.size w w2 ∧ _›
  have hBI := Lib.hid B2
  have HRET : ∀ k, Hid (takeI next held ⟨x0, x1⟩ = ⟨next, held, []⟩ → TookI w q base (.slice A n c) (takeI next held ⟨x0, x1⟩) (.returned (.slice none 0 0)) (w2.drewN k)) := fun k => Lib.hid (fun e => tookI_same e HN.out (below_drewN hBI.out k) HQ.out HOWN.out HNE.out)
  clear HS
  have HQ2 := Lib.hid (HQ1.out.later kb2)
  have HM2 := Lib.hid (HM.out.later kb2)
  have HO2 := Lib.hid (own_later HO1.out kb2)
  have hz2 : w1.heap.size ≤ w2.heap.size := kb2.size
  have lq2 : q < w2.heap.size := Nat.lt_of_lt_of_le lq hz2
  clear B2 kb2
  by_cases hi : 1 ≤ x1 ∧ x1 ≤ 999
  · have hcI : ∀ w0 : World, Calls Try.prog 30 #[.int .i64 x1] w0 fun r w' => r = .returned (.bool true) ∧ w' = w0 := fun w0 => (isId_true _ w0 hi.1 hi.2).mono (fun _ _ h => ⟨h.1, h.2.symm⟩)
    have HI1 := Lib.hid hi
    cases hF : FoundM held x0 i with
    | true =>
      have HT := Lib.hid (takeI_found (m := ⟨x0, x1⟩) HOK.out HAT.out hF)
      clear hF hi
      go_wp2_with fail
      go_quiet ((go_at_call 30; exact Calls.quiet_of_same (hcI _)))
      go_wp2_with fail
      go_ret
      exact (HRET _).out HT.out
    | false =>
      have HF := Lib.hid hF
      clear hF hi
      have e6 : IntKind.i64.wrap (next + 6) = next + 6 := IntWalk.i64_in _ (by omega)
      by_cases hw : next ≤ x0 ∧ x0 ≤ next + 6
      · have hcW : ∀ w0 : World, Calls Try.prog 29 #[.int .i64 x0, .int .i64 next, .int .i64 (next + 6)] w0 fun r w' => r = .returned (.bool true) ∧ w' = w0 := fun w0 => (within_true _ _ _ w0 hw.1 hw.2).mono (fun _ _ h => ⟨h.1, h.2.symm⟩)
        go_wp2_with fail
        go_quiet ((first | (go_at_call 30; exact Calls.quiet_of_same (hcI _)) | (go_at_call 29; exact Calls.quiet_of_same (hcW _))))
        clear e6 hcI hcW HRET
        have HB2 := hBI
        have hz3 : w.heap.size + 1 ≤ w2.heap.size := by omega
        clear hBI
        have HQX := Lib.hid (HQ2.out.drewN nq)
        have HMX := Lib.hid (HM2.out.drewN nq)
        have HOX := Lib.hid (own_drewN HO2.out nq)
        have HBX := Lib.hid (below_drewN HB2.out nq)
        have hzX : w.heap.size + 1 ≤ (w2.drewN nq).heap.size := hz3
        have lqX : q < (w2.drewN nq).heap.size := lq2
        generalize w2.drewN nq = w3 at *
        clear HQ2 HM2 HO2 HB2 hz3 lq2 q0 q1 m0 m1
        have HQ2 := HQX
        have HM2 := HMX
        have HO2 := HOX
        have HB2 := HBX
        have hz3 := hzX
        have lq2 := lqX
        clear HQX HMX HOX HBX hzX lqX
        have q0 := HQ2.out.cellAt 0 (by simp)
        have q1 := HQ2.out.cellAt 1 (by simp)
        have m0 := HM2.out.cellAt 0 (by simp)
        have m1 := HM2.out.cellAt 1 (by simp)
        simp only [List.getElem_cons_zero, List.getElem_cons_succ] at q0 q1 m0 m1
        by_cases hgt : next < x0
        · have hd : decide (next < x0) = true := decide_eq_true hgt
          have HT := Lib.hid (takeI_hold (m := ⟨x0, x1⟩) HOK.out HI1.out hgt hw.2)
          have HH := Lib.hid (hold_ins (m := ⟨x0, x1⟩) HAT.out HF.out)
          clear hgt hw
          go_wp2_with fail
          go_quiet (fail)
          have HQX := Lib.hid (HQ2.out.drewN nq)
          have HMX := Lib.hid (HM2.out.drewN nq)
          have HOX := Lib.hid (own_drewN HO2.out nq)
          have HBX := Lib.hid (below_drewN HB2.out nq)
          have hzX : w.heap.size + 1 ≤ (w3.drewN nq).heap.size := hz3
          have lqX : q < (w3.drewN nq).heap.size := lq2
          generalize w3.drewN nq = w4 at *
          clear HQ2 HM2 HO2 HB2 hz3 lq2 q0 q1 m0 m1
          have HQ2 := HQX
          have HM2 := HMX
          have HO2 := HOX
          have HB2 := HBX
          have hz3 := hzX
          have lq2 := lqX
          clear HQX HMX HOX HBX hzX lqX
          have q0 := HQ2.out.cellAt 0 (by simp)
          have q1 := HQ2.out.cellAt 1 (by simp)
          have m0 := HM2.out.cellAt 0 (by simp)
          have m1 := HM2.out.cellAt 1 (by simp)
          simp only [List.getElem_cons_zero, List.getElem_cons_succ] at q0 q1 m0 m1
          go_wp2_with fail
          have lm4 : w.heap.size < w4.heap.size := hz3
          have hb4 : base ≤ w4.heap.size := by omega
          have hin : i ≤ n := by rw [← HN.out]; exact HAT.out.1
          have HIL : Hid ((holdM held ⟨x0, x1⟩).length = (insM held i ⟨x0, x1⟩).length) := Lib.hid (by rw [HH.out])
          go_region_law ((
            go_simp
            refine (insert_any A n c i w4.heap.size held ⟨x0, x1⟩ base _ HN.out (HO2.out.alloc _).drew (Blk.new w4 35 [.int .i64 x0, .int .i64 x1]).drew (fun e => by have := (HO2.out.lt _ e).2; omega) hin (by omega) (Nat.le_trans hb4 (by show w4.heap.size ≤ (w4.alloc _).heap.size; simp))).mono ?_
            rintro e w5 ⟨_, rfl, hown5, hg5, hnew5⟩
            obtain ⟨HA, hcc, rfl, _, _⟩ := own_slice hown5
            have HQ5 := (HQ2.out.alloc (.cells #[.int .i64 x0, .int .i64 x1] 35)).drew.offG hg5 (fun b e h => HNE.out (by rw [e, h]))
            have f0 := HQ5.cellAt 1 (by simp)
            have f1 := HQ5.frozen 1
            simp only [List.getElem_cons_zero, List.getElem_cons_succ] at f0))
          all_goals
            have HB5 := Lib.hid (Below.drew (HB2.out.alloc (show w.heap.size ≤ w4.heap.size by omega) (.cells #[.int .i64 x0, .int .i64 x1] 35)))
            go_wp2_with fail
            go_ret
            exact tookI_hold (by rw [HT.out, HH.out]) HB5.out hqw hg5 HQ5 hown5 hnew5 HNE.out
        · obtain rfl : next = x0 := by omega
          have hd : decide (next < next) = false := decide_eq_false (by omega)
          clear hgt hw
          go_wp2_with fail
          go_quiet (fail)
          have HQX := Lib.hid (HQ2.out.drewN nq)
          have HMX := Lib.hid (HM2.out.drewN nq)
          have HOX := Lib.hid (own_drewN HO2.out nq)
          have HBX := Lib.hid (below_drewN HB2.out nq)
          have hzX : w.heap.size + 1 ≤ (w3.drewN nq).heap.size := hz3
          have lqX : q < (w3.drewN nq).heap.size := lq2
          generalize w3.drewN nq = w4 at *
          clear HQ2 HM2 HO2 HB2 hz3 lq2 q0 q1 m0 m1
          have HQ2 := HQX
          have HM2 := HMX
          have HO2 := HOX
          have HB2 := HBX
          have hz3 := hzX
          have lq2 := lqX
          clear HQX HMX HOX HBX hzX lqX
          have q0 := HQ2.out.cellAt 0 (by simp)
          have q1 := HQ2.out.cellAt 1 (by simp)
          have m0 := HM2.out.cellAt 0 (by simp)
          have m1 := HM2.out.cellAt 1 (by simp)
          simp only [List.getElem_cons_zero, List.getElem_cons_succ] at q0 q1 m0 m1
          have hal5 : Below w4.heap.size w4 (w4.alloc (.cells #[.int .i64 x1] 3)) := (Below.refl _ _).alloc (Nat.le_refl _) _
          have ho5 : (w4.alloc (.cells #[.int .i64 x1] 3)).ownsRow w4.heap.size 3 1 (.slice (some ⟨w4.heap.size, 0, none⟩) 1 1) 1 (ints [x1]) := own_of_blk (cs := [.int .i64 x1]) (Blk.new _ _ _) (Nat.le_refl _) rfl (by decide)
          have HA4 : Hid (∀ g, (Value.slice A n c).ownBlock = some g → g < w4.heap.size) := Lib.hid (fun g e => (HO2.out.lt g e).2)
          go_wp2_with fail
          clear hd q0 q1 m0 m1
          go_loopw [7] (fun o wr => ∃ (k : Nat) (xs : List Int), k ≤ n ∧ Hid (xs.length = k) ∧ Hid (RunAt next held (next + 1 + k) (held.drop k) xs) ∧ wr.ownsRow w4.heap.size 3 1 o (k + 1) (ints (x1 :: xs)) ∧ Below w4.heap.size w4 wr) (fun o _ => 8 - slLen o)
          case atStart => exact ⟨0, [], Nat.zero_le _, Lib.hid rfl, Lib.hid (by simpa using runAt_start next held), ho5, hal5⟩
          case round =>
            obtain ⟨k, xs, hk, HXL, HR, hown, hb⟩ := hrel
            obtain ⟨OA, oc, rfl, _, _⟩ := own_slice hown
            have hQr := HQ2.out.later hb
            have hOr := own_later HO2.out hb
            have q0 := hQr.cellAt 0 (by simp)
            have q1 := hQr.cellAt 1 (by simp)
            have qf0 := hQr.frozen 0
            have qf1 := hQr.frozen 1
            simp only [List.getElem_cons_zero, List.getElem_cons_succ] at q0 q1
            have hzr : w4.heap.size ≤ wr.heap.size := hb.size
            have e1 : IntKind.i64.wrap ((k : Int) + 1 - 1) = (k : Int) := by rw [IntKind.wrap_i64]; omega
            have e2 : IntKind.i64.wrap (next + ((k : Int) + 1)) = next + ((k : Int) + 1) := by rw [IntKind.wrap_i64]; omega
            by_cases hlt : k < n
            · have hke : k < held.length := by rw [HN.out]; exact hlt
              have hg1 : decide ((k : Int) + 1 ≤ (n : Int)) = true := decide_eq_true (by omega)
              obtain ⟨b, oo, rfl, hl, hc0, hc1⟩ := (own_rd hOr).messageAt hke
              have HIT : Hid ((held[k]).f0 = next + 1 + k → RunAt next held (next + 1 + k + 1) (held.drop (k + 1)) (xs ++ [(held[k]).f1])) := Lib.hid (fun h => by
                have := HR.out
                rw [List.drop_eq_getElem_cons hke] at this
                exact runAt_hit this h)
              have MISS : Hid ((held[k]).f0 ≠ next + 1 + k → runM (next + 1) held = (next + 1 + k, held.drop k, xs)) := Lib.hid (fun h => by
                have := HR.out
                rw [List.drop_eq_getElem_cons hke] at this ⊢
                exact runAt_miss this h)
              generalize held[k] = y at *
              obtain ⟨y0, y1⟩ := y
              dsimp only at hc0 hc1 HIT MISS
              have hi1 : (0 : Int) ≤ (k : Int) := by omega
              have hi2 : (k : Int) < (n : Int) := by omega
              by_cases he : y0 = next + 1 + k
              · have hb1 : (y0 == next + ((k : Int) + 1)) = true := by simp; omega
                have HR2 := Lib.hid (HIT.out he)
                clear HIT MISS he hlt
                go_wp2_with fail
                go_quiet (fail)
                clear e1 e2
                go_wp2_with (at_builtin; refine append_new rfl _ _ 28 rfl 3 _ _ _ Try.underlying28 int_infoM _ _ _ _ _ rfl (own_drewN hown nq) [.int .i64 y1] rfl rfl (by simp [Value.oneCell']) (by omega) hzr ?_; intro v' w6 hown6 hg6 hblk6)
                obtain ⟨VA, vc, rfl, _, _⟩ := own_slice hown6
                go_roundw
                case rel =>
                  refine ⟨k + 1, xs ++ [y1], by omega, Lib.hid (by rw [List.length_append, HXL.out]; rfl), Lib.hid (by rw [show next + 1 + ((k + 1 : Nat) : Int) = next + 1 + (k : Int) + 1 from by omega]; exact HR2.out), ?_, below_append (below_drewN hb nq) hg6 (own_drewN hown nq) rfl⟩
                  rw [show ints (x1 :: (xs ++ [y1])) = ints (x1 :: xs) ++ [.int .i64 y1] from by simp [ints]]
                  exact hown6
                case measure => simp [slLen]; omega
              · have hb1 : (y0 == next + ((k : Int) + 1)) = false := by simp; omega
                have HX := Lib.hid (MISS.out he)
                clear HIT MISS he hlt
                go_wp2_with fail
                go_quiet (fail)
                clear e1 e2 hg1
                by_cases hfar : 999 < next + 1 + (k : Int)
                · have HT := Lib.hid (takeI_far' HOK.out HI1.out HX.out hfar)
                  have hd9 : decide ((999 : Int) < next + ((k : Int) + 1)) = true := decide_eq_true (by omega)
                  go_wp2_with fail
                  go_ret
                  exact tookI_same HT.out HN.out (below_drewN (below_trans HB2.out hb) nq) HQ.out HOWN.out HNE.out
                · have HT := Lib.hid (takeI_run' HOK.out HI1.out HX.out hfar)
                  have hd9 : decide ((999 : Int) < next + ((k : Int) + 1)) = false := decide_eq_false (by omega)
                  have hO0 : Out q (q + 1) (wr.drewN nq) ((wr.drewN nq).setCell ⟨q, 0, none⟩ (.int .i64 (next + ((k : Int) + 1)))) := out_set (Out.refl _ _ _) _ _ _ (Nat.le_refl _) (Nat.lt_succ_self _)
                  have hO1 := own_out (own_drewN hOr nq) hO0 (fun g e => by have : g ≠ q := fun h => HNE.out (by rw [e, h]); omega)
                  go_wp2_with fail
                  refine (delete_any _ n c k held base _ HN.out hO1 hk (by omega)).mono ?_
                  rintro e w8 ⟨_, rfl, rfl, hown8, hg8⟩
                  have HQ8 := (show Blk ((wr.drewN nq).setCell ⟨q, 0, none⟩ (.int .i64 (next + ((k : Int) + 1)))) q 25 [.int .i64 (next + ((k : Int) + 1)), _] from (hQr.drewN nq).set_ 0 (.int .i64 (next + ((k : Int) + 1)))).offG hg8 (fun b e h => HNE.out (by rw [e, h]))
                  have g1 := HQ8.cellAt 1 (by simp)
                  have gf1 := HQ8.frozen 1
                  simp only [List.getElem_cons_zero, List.getElem_cons_succ] at g1
                  go_wp2_with fail
                  go_ret
                  exact tookI_run (by rw [HT.out, show next + 1 + (k : Int) = next + ((k : Int) + 1) from by omega]) (by rw [List.length_drop, HN.out]) HB2.out hqw (below_drewN hb nq) hg8 HQ8 hown8 HNE.out HA4.out (by rw [List.length_cons, HXL.out]; exact own_drewN hown nq)
            · have hg1 : decide ((k : Int) + 1 ≤ (n : Int)) = false := decide_eq_false (by omega)
              have HX : Hid (runM (next + 1) held = (next + 1 + k, held.drop k, xs)) := Lib.hid (by
                have := HR.out
                rw [List.drop_of_length_le (by rw [HN.out]; omega)] at this ⊢
                exact runAt_end this)
              clear hlt
              go_wp2_with fail
              go_quiet (fail)
              clear e1 e2 hg1
              by_cases hfar : 999 < next + 1 + (k : Int)
              · have HT := Lib.hid (takeI_far' HOK.out HI1.out HX.out hfar)
                have hd9 : decide ((999 : Int) < next + ((k : Int) + 1)) = true := decide_eq_true (by omega)
                go_wp2_with fail
                go_ret
                exact tookI_same HT.out HN.out (below_drewN (below_trans HB2.out hb) nq) HQ.out HOWN.out HNE.out
              · have HT := Lib.hid (takeI_run' HOK.out HI1.out HX.out hfar)
                have hd9 : decide ((999 : Int) < next + ((k : Int) + 1)) = false := decide_eq_false (by omega)
                have hO0 : Out q (q + 1) (wr.drewN nq) ((wr.drewN nq).setCell ⟨q, 0, none⟩ (.int .i64 (next + ((k : Int) + 1)))) := out_set (Out.refl _ _ _) _ _ _ (Nat.le_refl _) (Nat.lt_succ_self _)
                have hO1 := own_out (own_drewN hOr nq) hO0 (fun g e => by have : g ≠ q := fun h => HNE.out (by rw [e, h]); omega)
                go_wp2_with fail
                refine (delete_any _ n c k held base _ HN.out hO1 hk (by omega)).mono ?_
                rintro e w8 ⟨_, rfl, rfl, hown8, hg8⟩
                have HQ8 := (show Blk ((wr.drewN nq).setCell ⟨q, 0, none⟩ (.int .i64 (next + ((k : Int) + 1)))) q 25 [.int .i64 (next + ((k : Int) + 1)), _] from (hQr.drewN nq).set_ 0 (.int .i64 (next + ((k : Int) + 1)))).offG hg8 (fun b e h => HNE.out (by rw [e, h]))
                have g1 := HQ8.cellAt 1 (by simp)
                have gf1 := HQ8.frozen 1
                simp only [List.getElem_cons_zero, List.getElem_cons_succ] at g1
                go_wp2_with fail
                go_ret
                exact tookI_run (by rw [HT.out, show next + 1 + (k : Int) = next + ((k : Int) + 1) from by omega]) (by rw [List.length_drop, HN.out]) HB2.out hqw (below_drewN hb nq) hg8 HQ8 hown8 HNE.out HA4.out (by rw [List.length_cons, HXL.out]; exact own_drewN hown nq)
      · have HT := Lib.hid (takeI_out (m := ⟨x0, x1⟩) HOK.out (.inr hw))
        have HI : Hid (x0 < next ∨ next + 6 < x0) := Lib.hid (by omega)
        have hcW : ∀ w0 : World, Calls Try.prog 29 #[.int .i64 x0, .int .i64 next, .int .i64 (next + 6)] w0 fun r w' => r = .returned (.bool false) ∧ w' = w0 := fun w0 => (within_false _ _ _ w0 HI.out).mono (fun _ _ h => ⟨h.1, h.2.symm⟩)
        clear hw
        go_wp2_with fail
        go_quiet ((first | (go_at_call 30; exact Calls.quiet_of_same (hcI _)) | (go_at_call 29; exact Calls.quiet_of_same (hcW _))))
        clear e6
        go_wp2_with fail
        go_ret
        exact (HRET _).out HT.out
  · have HT := Lib.hid (takeI_out (m := ⟨x0, x1⟩) HOK.out (.inl hi))
    have HI : Hid (x1 < 1 ∨ 999 < x1) := Lib.hid (by omega)
    have hcI : ∀ w0 : World, Calls Try.prog 30 #[.int .i64 x1] w0 fun r w' => r = .returned (.bool false) ∧ w' = w0 := fun w0 => (isId_false _ w0 HI.out).mono (fun _ _ h => ⟨h.1, h.2.symm⟩)
    clear hi
    go_wp2_with fail
    go_quiet ((go_at_call 30; exact Calls.quiet_of_same (hcI _)))
    go_wp2_with fail
    go_ret
    exact (HRET _).out HT.out
end Go.Proofs.Ytehaacpeamhamaa
