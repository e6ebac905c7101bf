/- Marks that are set in place: the program's setMarks. -/
import Derived.Test.YtpkbipjnobfcdaaPapG
namespace Go.Proofs.Ytpkbipjnobfcdaa
open Go Go.ChangeShapes Go.WideShapes Go.ChangeAt Go.RowKit
set_option linter.unusedVariables false
set_option linter.unusedSimpArgs false
theorem pw_asc {hs : List HoldV} (h : hs.Pairwise (fun a b => a.f0 < b.f0)) : AscH hs := fun s t h1 h2 h3 => (List.pairwise_iff_getElem.1 h) s t h1 h2 h3
theorem atH_cons {a : HoldV} {r : List HoldV} {x : Int} {i : Nat} (h : AtH (a :: r) x (i + 1)) : a.f0 < x ∧ AtH r x i := by
  obtain ⟨h1, h2, h3⟩ := h
  refine ⟨h2 0 (by simp) (by omega), by simpa using h1, fun t ht hti => ?_, fun t ht hti => ?_⟩
  · have := h2 (t + 1) (by simpa using ht) (by omega)
    simpa using this
  · have := h3 (t + 1) (by simpa using ht) (by omega)
    simpa using this
theorem atH_zero {a : HoldV} {r : List HoldV} {x : Int} (h : AtH (a :: r) x 0) : x ≤ a.f0 := h.2.2 0 (by simp) (Nat.le_refl _)
theorem foundH_cons {a : HoldV} {r : List HoldV} {x : Int} {i : Nat} : FoundH (a :: r) x (i + 1) = FoundH r x i := by simp [FoundH]
theorem setH_ins {hs : List HoldV} {x m : Int} {i : Nat} (h : AtH hs x i) (hf : FoundH hs x i = false) (hm : m ≠ 0) : insH hs i ⟨x, m⟩ = setH hs x m := by
  induction hs generalizing i with
  | nil =>
    obtain rfl : i = 0 := by have := h.1; simpa using this
    simp [insH, setH, hm]
  | cons a r ih =>
    cases i with
    | zero =>
      have h1 := atH_zero h
      have h2 : a.f0 ≠ x := by simpa [FoundH] using hf
      rw [setH, if_neg (by omega), if_neg h2, if_neg hm]
      simp [insH]
    | succ i =>
      obtain ⟨h1, h2⟩ := atH_cons h
      rw [foundH_cons] at hf
      rw [setH, if_pos h1, ← ih h2 hf]
      simp [insH]
theorem setH_del {hs : List HoldV} {x : Int} {i : Nat} (h : AtH hs x i) (hf : FoundH hs x i = true) : i < hs.length ∧ delH hs i = setH hs x 0 := by
  induction hs generalizing i with
  | nil => simp [FoundH] at hf
  | cons a r ih =>
    cases i with
    | zero =>
      have h2 : a.f0 = x := by simpa [FoundH] using hf
      refine ⟨by simp, ?_⟩
      rw [setH, if_neg (by omega), if_pos h2, if_pos rfl]
      simp [delH]
    | succ i =>
      obtain ⟨h1, h2⟩ := atH_cons h
      rw [foundH_cons] at hf
      obtain ⟨h3, h4⟩ := ih h2 hf
      refine ⟨by simpa using h3, ?_⟩
      rw [setH, if_pos h1, ← h4]
      simp [delH]
theorem setH_upd {hs : List HoldV} {x m : Int} {i : Nat} (h : AtH hs x i) (hf : FoundH hs x i = true) (hm : m ≠ 0) (hi : i < hs.length) : hs.take i ++ (⟨(hs[i]).f0, m⟩ :: hs.drop (i + 1)) = setH hs x m := by
  induction hs generalizing i with
  | nil => simp [FoundH] at hf
  | cons a r ih =>
    cases i with
    | zero =>
      have h2 : a.f0 = x := by simpa [FoundH] using hf
      rw [setH, if_neg (by omega), if_pos h2, if_neg hm]
      simp [h2]
    | succ i =>
      obtain ⟨h1, h2⟩ := atH_cons h
      rw [foundH_cons] at hf
      rw [setH, if_pos h1, ← ih h2 hf (by simpa using hi)]
      simp
theorem found_marks {hs : List HoldV} {ls : List Int} {last x : Int} {i : Nat} (hv : holdGo ls last hs = true) (h : AtH hs x i) : FoundH hs x i = decide (marksOf hs x ≠ 0) := by
  induction hs generalizing last i with
  | nil => simp [FoundH, marksOf]
  | cons a r ih =>
    have hp := (holdGo_iff.1 hv).2
    have ha := (List.pairwise_cons.1 hp).1
    have h7 := ((holdGo_iff.1 hv).1 a (List.mem_cons_self ..)).2.1
    have hv' := hv
    simp only [holdGo, Bool.and_eq_true] at hv'
    cases i with
    | zero =>
      have h1 := atH_zero h
      by_cases hx : a.f0 = x
      · have : a.f1 ≠ 0 := by omega
        simp [FoundH, marksOf, hx, this]
      · have hz : marksOf (a :: r) x = 0 := by
          by_cases hzz : marksOf (a :: r) x = 0
          · exact hzz
          · obtain ⟨b, hb, hbx, _⟩ := marksOf_mem hzz
            rcases List.mem_cons.1 hb with rfl | hb
            · exact absurd hbx hx
            · have := ha b hb; omega
        simp [FoundH, hz, hx]
    | succ i =>
      obtain ⟨h1, h2⟩ := atH_cons h
      rw [foundH_cons, ih hv'.2 h2, marksOf, if_neg (by omega)]
/-- but for block q and rows of holds and of numbers from base on, the world is as it was -/
structure FrP (w w' : World) (q base : Nat) : Prop where
  os : w'.os = w.os
  tape : w'.tape = w.tape
  output : w'.output = w.output
  size : w.heap.size ≤ w'.heap.size
  block : ∀ k, k < w.heap.size → k ≠ q → (k < base ∨ ∀ cs t f, w.heap[k]? = some (.cells cs t f) → t ≠ 38 ∧ t ≠ 3) → w'.heap[k]? = w.heap[k]?
theorem FrP.of_below {w w' : World} (h : Below w.heap.size w w') (q base : Nat) : FrP w w' q base := ⟨h.os, h.tape, h.output, h.size, fun k hk _ _ => h.block k hk⟩
theorem FrP.refl (w : World) (q base : Nat) : FrP w w q base := FrP.of_below (Below.refl _ _) _ _
theorem FrP.trans {a b c : World} {q base : Nat} (h : FrP a b q base) (k : FrP b c q base) : FrP a c q base :=
  ⟨k.os.trans h.os, k.tape.trans h.tape, k.output.trans h.output, Nat.le_trans h.size k.size, fun i hi hq ht => by
    have e := h.block i hi hq ht
    refine (k.block i (Nat.lt_of_lt_of_le hi h.size) hq (ht.imp id fun ht cs t f hc => ht cs t f (by rw [← e]; exact hc))).trans e⟩
theorem FrP.set {w : World} (q base i : Nat) (u : Value) : FrP w (w.setCell ⟨q, i, none⟩ u) q base :=
  ⟨rfl, rfl, rfl, by simp [World.setCell], fun k hk hq _ => Below.heap_setCell w ⟨q, i, none⟩ u k (fun e => hq e)⟩
theorem FrP.row {w w' : World} {q base k n : Nat} {e : TypeId} {v : Value} {xs : List Value} (h : w.ownsRow base e k v n xs) (hg : w.grownBy w' v.ownBlock) (he : e = 38 ∨ e = 3) : FrP w w' q base :=
  ⟨hg.os, hg.tape, hg.output, hg.size, fun i hi _ ht => hg.block i hi (fun hv => by
    have hl := h.lt i hv.symm
    rcases ht with ht | ht
    · omega
    · rcases h.2 with ⟨rfl, _⟩ | ⟨g, cap, cur, rfl, _, hgb, _⟩
      · cases hv
      · obtain rfl : i = g := by simpa [Value.ownBlock] using hv
        have := ht _ _ _ hgb
        rcases he with rfl | rfl
        · exact this.1 rfl
        · exact this.2 rfl)⟩
theorem FrP.below {w w' : World} {q base : Nat} (h : FrP w w' q base) (hq : base ≤ q) (hb : base ≤ w.heap.size) : Below base w w' :=
  ⟨h.os, h.tape, h.output, h.size, fun k hk => h.block k (by omega) (by omega) (.inl hk)⟩
/-- papers in place -/
structure PapAt (w : World) (q base n c m lc : Nat) (HA LA : Option Addr) (hs : List HoldV) (ls : List Int) : Prop where
  hn : hs.length = n
  hm : ls.length = m
  blk : Blk w q 26 [.slice HA n c, .slice LA m lc]
  hold : w.ownsRow base 38 2 (.slice HA n c) n (holds hs)
  left : w.ownsRow base 3 1 (.slice LA m lc) m (ints ls)
theorem PapAt.later {w w' : World} {q base n c m lc : Nat} {HA LA : Option Addr} {hs : List HoldV} {ls : List Int} (h : PapAt w q base n c m lc HA LA hs ls) (hb : Below w.heap.size w w') : PapAt w' q base n c m lc HA LA hs ls :=
  ⟨h.hn, h.hm, h.blk.later hb, own_later h.hold hb, own_later h.left hb⟩
/-- behind a call that has turned papers in place -/
def PapTo (w : World) (q base : Nat) (v : Value) (hs : List HoldV) (ls : List Int) : Ending → World → Prop := fun e w' => e = .returned v ∧ (∃ n c m lc HA LA, PapAt w' q base n c m lc HA LA hs ls) ∧ FrP w w' q base
set_option maxRecDepth 100000 in
set_option maxHeartbeats 4000000 in
theorem setMarks_any (q base n c m lc : Nat) (HA LA : Option Addr) (hs : List HoldV) (ls : List Int) (x mk : Int) (w : World) (hQ : PapAt w q base n c m lc HA LA hs ls) (hok : holdGo ls 0 hs = true) (hmk : mk ≠ 0 ∨ marksOf hs x ≠ 0) (hn : n ≤ 12) (hbase : base ≤ w.heap.size) :
    Calls Try.prog 75 #[.pointer (some ⟨q, 0, none⟩), .int .i64 x, .int .i64 mk] w (PapTo w q base (.tuple #[]) (setH hs x mk) ls) := by
  have hlen := setH_len (x := x) (m := mk) hok
  have HLEN := Lib.hid hlen
  have HOK := Lib.hid hok
  have hasc := pw_asc (holdGo_iff.1 hok).2
  have p0 := hQ.blk.cellAt 0 (by simp)
  have pf0 := hQ.blk.frozen 0
  simp only [List.getElem_cons_zero] at p0
  have hql := hQ.blk.lt
  have HQ := Lib.hid hQ
  clear hlen hok hQ
  go_enter Try.func75, Try.ntmps75
  go_wp2_with fail
  refine (search_hold HA n c hs x w HQ.out.hn (own_rd HQ.out.hold) (by omega) hasc).mono ?_
  rintro e w1 ⟨_, rfl, i, rfl, hat, b1⟩
  have HFM := Lib.hid (found_marks HOK.out hat)
  have HAT := Lib.hid hat
  have hin : i ≤ n := by rw [← HQ.out.hn]; exact hat.1
  have Q1 := HQ.out.later b1
  have p0 := Q1.blk.cellAt 0 (by simp)
  have pf0 := Q1.blk.frozen 0
  simp only [List.getElem_cons_zero] at p0
  have hql1 := Q1.blk.lt
  have HQ1 := Lib.hid Q1
  have HF1 := Lib.hid (FrP.of_below b1 q base)
  have hb1 : base ≤ w1.heap.size := Nat.le_trans hbase b1.size
  clear hat hasc b1 Q1
  cases hf : FoundH hs x i with
  | false =>
    have hm0 : mk ≠ 0 := by
      rcases hmk with h | h
      · exact h
      · have := HFM.out
        rw [hf] at this
        simp [h] at this
    have HS := Lib.hid (setH_ins HAT.out hf hm0)
    clear hf HFM hmk
    have hal : Below w1.heap.size w1 (w1.alloc (.cells #[.int .i64 x, .int .i64 mk] 38)) := (Below.refl _ _).alloc (Nat.le_refl _) _
    have hB : Blk (w1.alloc (.cells #[.int .i64 x, .int .i64 mk] 38)) w1.heap.size 38 [.int .i64 x, .int .i64 mk] := Blk.new _ _ _
    have Q2 := HQ1.out.later hal
    have hne : (Value.slice HA n c).ownBlock ≠ some w1.heap.size := fun e => Nat.lt_irrefl _ (HQ1.out.hold.lt _ e).2
    have cI := insertH_any HA n c i w1.heap.size hs ⟨x, mk⟩ base (w1.alloc (.cells #[.int .i64 x, .int .i64 mk] 38)) Q2.hn Q2.hold hB hne hin (by omega) (by simp; omega)
    have HQ2 := Lib.hid Q2
    have HF2 := Lib.hid (HF1.out.trans (FrP.of_below hal q base))
    rw [HS.out] at cI
    clear hal hB hne Q2
    go_wp2_with fail
    refine cI.mono ?_
    rintro e w3 ⟨u, rfl, ho3, hg3, _⟩
    obtain ⟨A3, c3, rfl, _, _⟩ := own_slice ho3
    have B3 := own_blk_apart HQ2.out.hold hg3 HQ2.out.blk (by decide)
    have L3 := own_own_apart HQ2.out.hold hg3 HQ2.out.left (by decide)
    have F3 := HF2.out.trans (FrP.row HQ2.out.hold hg3 (.inl rfl))
    have q0 := B3.cellAt 0 (by simp)
    have qf0 := B3.frozen 0
    simp only [List.getElem_cons_zero] at q0
    have HFIN : Hid (PapTo w q base (.tuple #[]) (setH hs x mk) ls (.returned (.tuple #[])) (w3.setCell ⟨q, 0, none⟩ (.slice A3 (setH hs x mk).length c3))) := Lib.hid ⟨rfl, ⟨_, _, _, _, _, _, ⟨rfl, HQ2.out.hm, B3.set_ 0 _, own_setAt ho3 B3 (by decide), own_setAt L3 B3 (by decide)⟩⟩, F3.trans (FrP.set q base 0 _)⟩
    clear ho3 hg3 B3 L3 F3
    go_wp2_with fail
    go_end0
    exact HFIN.out
  | true =>
    obtain ⟨hil, hdel⟩ := setH_del HAT.out hf
    have hil' : i < n := by rw [← HQ.out.hn]; exact hil
    by_cases hm0 : mk = 0
    · subst hm0
      have HS := Lib.hid hdel
      have cD := deleteH_one HA n c i hs base w1 HQ1.out.hn HQ1.out.hold hil' (by omega)
      unfold DelOut at cD
      rw [hdel] at cD
      have hw1 : IntKind.i64.wrap ((i : Int) + 1) = (i : Int) + 1 := IntWalk.i64_in _ (by omega)
      have HNL : Hid ((setH hs x 0).length = n - 1) := Lib.hid (by rw [← hdel, delH, List.length_append, List.length_take, List.length_drop, HQ.out.hn]; omega)
      clear hf HFM hmk hdel hil
      go_wp2_with fail
      refine cD.mono ?_
      rintro e w3 ⟨_, rfl, rfl, ho3, hg3⟩
      have B3 := own_blk_apart HQ1.out.hold hg3 HQ1.out.blk (by decide)
      have L3 := own_own_apart HQ1.out.hold hg3 HQ1.out.left (by decide)
      have F3 := HF1.out.trans (FrP.row HQ1.out.hold hg3 (.inl rfl))
      have q0 := B3.cellAt 0 (by simp)
      have qf0 := B3.frozen 0
      simp only [List.getElem_cons_zero] at q0
      have HFIN : Hid (PapTo w q base (.tuple #[]) (setH hs x 0) ls (.returned (.tuple #[])) (w3.setCell ⟨q, 0, none⟩ (.slice HA (n - 1) c))) := Lib.hid ⟨rfl, ⟨_, _, _, _, _, _, ⟨HNL.out, HQ1.out.hm, B3.set_ 0 _, own_setAt ho3 B3 (by decide), own_setAt L3 B3 (by decide)⟩⟩, F3.trans (FrP.set q base 0 _)⟩
      clear ho3 hg3 B3 L3 F3
      go_wp2_with fail
      go_end0
      exact HFIN.out
    · have HS := Lib.hid (setH_upd HAT.out hf hm0 hil)
      have hmz : (mk == 0) = false := by simpa using hm0
      have HNL : Hid ((setH hs x mk).length = n) := Lib.hid (by rw [← HS.out, List.length_append, List.length_cons, List.length_take, List.length_drop, HQ.out.hn]; omega)
      rcases own_form HQ1.out.hold with ⟨_, h0, _⟩ | ⟨g, c', e, _, hgl, _⟩
      · omega
      injection e with e1 _ e3
      subst e1 e3
      have ho := HQ1.out.hold
      have hsplit : holds hs = holds (hs.take i) ++ ([.int .i64 (hs[i]).f0, .int .i64 (hs[i]).f1] ++ holds (hs.drop (i + 1))) := by
        conv => lhs; rw [show hs = hs.take i ++ (hs[i] :: hs.drop (i + 1)) from by rw [← List.drop_eq_getElem_cons, List.take_append_drop]]
        rw [holds_app]
        rfl
      have hT : (holds (hs.take i)).length = i * 2 := by rw [holds_len, List.length_take, HQ.out.hn, Nat.min_eq_left hin]
      have hnew : holds (setH hs x mk) = holds (hs.take i) ++ ([.int .i64 (hs[i]).f0, .int .i64 mk] ++ holds (hs.drop (i + 1))) := by
        rw [← HS.out, holds_app]
        rfl
      have hc1 := ho.cellAt (i * 2 + 1) (by omega)
      have hst := ho.stored (i * 2 + 1) (.int .i64 mk)
      have hfz := ho.frozenAt (i * 2 + 1)
      have hset : (holds hs).set (i * 2 + 1) (.int .i64 mk) = holds (setH hs x mk) := by
        rw [hsplit, hnew, List.set_append_right _ _ (by omega), hT]
        rw [show i * 2 + 1 - i * 2 = 1 from by omega]
        rfl
      rw [hset] at hst
      obtain ⟨ho3, hg3⟩ := hst
      have hcell : w1.cell? ⟨g, i * 2 + 1, none⟩ = some (.int .i64 (hs[i]).f1) := by
        rw [hc1, hsplit, List.getElem?_append_right (by omega), hT, show i * 2 + 1 - i * 2 = 1 from by omega]
        rfl
      generalize (hs[i]).f1 = y1 at hcell
      have B3 := own_blk_apart HQ1.out.hold hg3 HQ1.out.blk (by decide)
      have L3 := own_own_apart HQ1.out.hold hg3 HQ1.out.left (by decide)
      have F3 := HF1.out.trans (FrP.row HQ1.out.hold hg3 (.inl rfl))
      have HFIN : Hid (PapTo w q base (.tuple #[]) (setH hs x mk) ls (.returned (.tuple #[])) (w1.setCell ⟨g, i * 2 + 1, none⟩ (.int .i64 mk))) := Lib.hid ⟨rfl, ⟨_, _, _, _, _, _, ⟨HNL.out, HQ1.out.hm, B3, ho3, L3⟩⟩, F3⟩
      clear hf HFM hmk hdel ho hsplit hT hnew hc1 hset ho3 hg3 B3 L3 F3 hm0
      go_wp2_with fail
      go_end0
      exact HFIN.out
end Go.Proofs.Ytpkbipjnobfcdaa
