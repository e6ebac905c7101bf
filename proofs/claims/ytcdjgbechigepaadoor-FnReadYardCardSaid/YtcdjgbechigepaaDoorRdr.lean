/- The drawing of inputs: a reader of bytes, its pick, its odd. Whatever it draws lies in its range; it turns its own block alone. -/
import Derived.Test.YtcdjgbechigepaaDoorPost
import Derived.Test.YtcdjgbechigepaaDoorProg
import Derived.Deep.QuietTactic
import Derived.BigQuiet
import Derived.IntWalk
import Derived.Laws.BitsAllLaws
import Derived.Laws.BitsLemmas
namespace Go.Proofs.YtcdjgbechigepaaDoor
open Go.ChangeShapes Go.WideShapes Go.ChangeAt Go.RowKit

def u8s (zs : List Int) : List Value := zs.map (.int .u8)
theorem u8s_len (zs : List Int) : (u8s zs).length = zs.length := by simp [u8s]
theorem u8s_at (zs : List Int) (k : Nat) (h : k < (u8s zs).length) : (u8s zs)[k] = .int .u8 (zs[k]'(by simpa [u8s] using h)) := by simp [u8s]

/-- block g is a reader that has picked q times, over bytes that lie elsewhere -/
def Rdr (w : World) (g q : Nat) : Prop :=
  ∃ A n c bs, Blk w g 65 [.slice A n c, .int .i64 q] ∧ n ≤ 2000 ∧ bs.length = n ∧ RdV w A (u8s bs) ∧ (∀ z ∈ bs, 0 ≤ z ∧ z ≤ 255) ∧ (0 < n → ∀ b off, A = some ⟨b, off, none⟩ → b < g)

theorem Rdr.drewN {w : World} {g q : Nat} (h : Rdr w g q) (n : Nat) : Rdr (w.drewN n) g q := h
theorem Rdr.lt {w : World} {g q : Nat} (h : Rdr w g q) : g < w.heap.size := by
  obtain ⟨_, _, _, _, hblk, _⟩ := h
  exact hblk.lt
theorem Rdr.kept {w w' : World} {g q : Nat} (h : Rdr w g q) (hb : Below w.heap.size w w') : Rdr w' g q := by
  obtain ⟨A, n, c, bs, hblk, hn, hbn, hbs, hby, hA⟩ := h
  exact ⟨A, n, c, bs, hblk.later hb, hn, hbn, hbs.below hb, hby, hA⟩

/-- a call that turns a younger block alone leaves the reader as it is -/
theorem Rdr.away {w w' : World} {g q : Nat} {row : Option Nat} (h : Rdr w g q) (hg : w.grownBy w' row) (hne : ∀ b, row = some b → g < b) : Rdr w' g q := by
  obtain ⟨A, n, c, bs, hblk, hn, hbn, hbs, hby, hA⟩ := h
  refine ⟨A, n, c, bs, (hg.block g hblk.lt (fun e => by have := hne g e.symm; omega)).trans hblk, hn, hbn, ?_, hby, hA⟩
  by_cases hn0 : n = 0
  · refine .inl (List.eq_nil_of_length_eq_zero ?_)
    rw [u8s_len, hbn, hn0]
  rcases hbs with h | ⟨b, off, rfl, hlt, hc⟩
  · exact .inl h
  · have hbg := hA (by omega) b off rfl
    exact .inr ⟨b, off, rfl, Nat.lt_of_lt_of_le hlt hg.size, fun k hk => (World.cell?_of_block (a := ⟨b, off + k, none⟩) (hg.block b hlt (fun e => by have := hne b e.symm; omega))).trans (hc k hk)⟩
theorem only_own {w w3 w4 : World} {g : Nat} {row : Option Nat} (h : w.grownBy w3 (some g)) (hg : w3.grownBy w4 row) (hr : ∀ b, row = some b → w.heap.size ≤ b) : w.grownBy w4 (some g) :=
  ⟨hg.os.trans h.os, hg.tape.trans h.tape, hg.output.trans h.output, Nat.le_trans h.size hg.size, fun i hi hn => (hg.block i (Nat.lt_of_lt_of_le hi h.size) (fun e => by have := hr i e.symm; omega)).trans (h.block i hi hn)⟩

theorem xor_nonneg (x : Int) (h0 : 0 ≤ x) (h1 : x < 9223372036854775808) : 0 ≤ bits .xor .i64 x (x / 64) ∧ bits .xor .i64 x (x / 64) < 9223372036854775808 := by
  obtain ⟨a, rfl⟩ := Int.eq_ofNat_of_zero_le h0
  have ha : a < 9223372036854775808 := by omega
  have hb : a / 64 < 9223372036854775808 := by omega
  have e : bits .xor .i64 (a : Int) ((a : Int) / 64) = ((a ^^^ (a / 64) : Nat) : Int) := by
    have h1 : (a : Int) / 64 = ((a / 64 : Nat) : Int) := by omega
    rw [h1]
    have hx : a ^^^ (a / 64) < 2 ^ 63 := Nat.xor_lt_two_pow (by omega) (by omega)
    have o : ∀ a : Nat, a < 9223372036854775808 → (BitVec.ofInt 64 (a : Int)).toNat = a := by
      intro a ha
      rw [BitVec.ofInt_natCast, BitVec.toNat_ofNat]; exact Nat.mod_eq_of_lt (by omega)
    show IntKind.i64.wrap ((BitVec.ofInt 64 (a : Int) ^^^ BitVec.ofInt 64 ((a / 64 : Nat) : Int)).toNat : Int) = _
    rw [BitVec.toNat_xor, o a ha, o _ hb, IntKind.wrap_i64]
    omega
  rw [e]
  have hx : a ^^^ (a / 64) < 2 ^ 63 := Nat.xor_lt_two_pow (by omega) (by omega)
  omega

/-- what a pick of m may give -/
def Picked (m v : Int) : Prop := 0 ≤ v ∧ (1 ≤ m → v < m) ∧ (m < 1 → v = 0)

theorem pick_any (g q : Nat) (m : Int) (w : World) (hr : Rdr w g q) (hq : q ≤ 1000000000) (hm : m ≤ 1000000000) :
    Calls Tryd.prog 28 #[.pointer (some ⟨g, 0, none⟩), .int .i64 m] w (RInt fun v w' => Picked m v ∧ Rdr w' g (q + 1) ∧ w.grownBy w' (some g)) := by
  obtain ⟨A, n, c, bs, hblk, hn, hbn, hbs, hby, hA⟩ := hr
  have c0 := hblk.cell 0
  have c1 := hblk.cell 1
  have f1 := hblk.frozen 1
  simp only [List.getElem?_cons_zero, List.getElem?_cons_succ] at c0 c1
  have fin : Rdr (w.setCell ⟨g, 1, none⟩ (.int .i64 (q + 1))) g (q + 1) := by
    refine ⟨A, n, c, bs, hblk.set_ 1 _, hn, hbn, ?_, hby, hA⟩
    by_cases hn0 : n = 0
    · refine .inl (List.eq_nil_of_length_eq_zero ?_)
      rw [u8s_len, hbn, hn0]
    rcases hbs with h | ⟨b, off, rfl, hlt, hc⟩
    · exact .inl h
    · have hne : b ≠ g := Nat.ne_of_lt (hA (by omega) b off rfl)
      exact .inr ⟨b, off, rfl, by simpa [World.setCell] using hlt, fun k hk => (World.cell?_setCell_other w _ _ _ (fun e => hne (by injection e with e1; exact e1.symm))).trans (hc k hk)⟩
  have frm : w.grownBy (w.setCell ⟨g, 1, none⟩ (.int .i64 (q + 1))) (some g) :=
    ⟨rfl, rfl, rfl, by simp [World.setCell], fun k hk hne => Below.heap_setCell w _ _ k (fun e => hne (by rw [e]))⟩
  have HB := Lib.hid hbn
  have FIN := Lib.hid fin
  have FRM := Lib.hid frm
  clear hbn fin frm
  by_cases h1 : m < 1
  · go_enter Tryd.func28, Tryd.ntmps28
    go_wp2
    go_ret
    exact RInt.mk ⟨⟨by omega, by omega, by omega⟩, FIN.out, FRM.out⟩
  by_cases h2 : n = 0
  · subst h2
    go_enter Tryd.func28, Tryd.ntmps28
    go_wp2
    go_ret
    exact RInt.mk ⟨⟨by omega, by omega, by omega⟩, FIN.out, FRM.out⟩
  have h2b : ((n : Int) == 0) = false := by simp; omega
  have hm1 : 1 ≤ m := by omega
  by_cases h3 : q < n
  · have hql : q < (u8s bs).length := by rw [u8s_len, HB.out]; exact h3
    obtain ⟨b, off, rfl, hlt, hc⟩ := hbs.pos hql
    have hne : b ≠ g := Nat.ne_of_lt (hA (by omega) b off rfl)
    have hx := hc q hql
    rw [u8s_at] at hx
    have hbd := hby _ (List.getElem_mem (by rw [HB.out]; exact h3 : q < bs.length))
    generalize (bs[q]'(by rw [HB.out]; exact h3)) = x at hx hbd
    obtain ⟨hx0, hx1⟩ := hbd
    have hx' : (w.setCell ⟨g, 1, none⟩ (.int .i64 (q + 1))).cell? ⟨b, off + q, none⟩ = some (.int .u8 x) := (World.cell?_setCell_other w _ _ _ (fun e => hne (by injection e with e1; exact e1.symm))).trans hx
    clear hc
    go_enter Tryd.func28, Tryd.ntmps28
    go_wp2
    go_ret
    exact RInt.mk ⟨⟨Int.emod_nonneg _ (by omega), fun _ => Int.emod_lt_of_pos _ (by omega), by omega⟩, FIN.out, FRM.out⟩
  · have hpos : 0 < n := by omega
    have hql : 0 < (u8s bs).length := by rw [u8s_len, HB.out]; exact hpos
    obtain ⟨b, off, rfl, hlt, hc⟩ := hbs.pos hql
    have hne : b ≠ g := Nat.ne_of_lt (hA (by omega) b off rfl)
    have hc' : ∀ k, k < n → ∃ x, 0 ≤ x ∧ x ≤ 255 ∧ (w.setCell ⟨g, 1, none⟩ (.int .i64 (q + 1))).cell? ⟨b, off + k, none⟩ = some (.int .u8 x) := by
      intro k hk
      have hx := hc k (by rw [u8s_len, HB.out]; exact hk)
      rw [u8s_at] at hx
      have hbd := hby _ (List.getElem_mem (by rw [HB.out]; exact hk : k < bs.length))
      exact ⟨_, hbd.1, hbd.2, (World.cell?_setCell_other w _ _ _ (fun e => hne (by injection e with e1; exact e1.symm))).trans hx⟩
    have hn0 : (0 : Int) < (n : Int) := by omega
    have a1 : (0 : Int) ≤ (q : Int) % (n : Int) := Int.emod_nonneg _ (by omega)
    have a2 : (q : Int) % (n : Int) < (n : Int) := Int.emod_lt_of_pos _ hn0
    have a3 : ((q : Int) % (n : Int)).toNat = q % n := by rw [← Int.natCast_emod, Int.toNat_natCast]
    have b1 : (0 : Int) ≤ ((q : Int) * 7 + 3) % (n : Int) := Int.emod_nonneg _ (by omega)
    have b2 : ((q : Int) * 7 + 3) % (n : Int) < (n : Int) := Int.emod_lt_of_pos _ hn0
    have b3 : (((q : Int) * 7 + 3) % (n : Int)).toNat = (q * 7 + 3) % n := by
      have : ((q : Int) * 7 + 3) = ((q * 7 + 3 : Nat) : Int) := by omega
      rw [this, ← Int.natCast_emod, Int.toNat_natCast]
    obtain ⟨x, hx0, hx1, hx⟩ := hc' (q % n) (Nat.mod_lt _ hpos)
    obtain ⟨y, hy0, hy1, hy⟩ := hc' ((q * 7 + 3) % n) (Nat.mod_lt _ hpos)
    have d0 : (0 : Int) ≤ (q : Int) / (n : Int) := Int.ediv_nonneg (by omega) (by omega)
    have d1 : (q : Int) / (n : Int) ≤ (q : Int) := Int.ediv_le_self _ (by omega)
    have e1 : IntKind.i64.wrap (x * 131) = x * 131 := IntWalk.i64_in _ (by omega)
    have e2 : IntKind.i64.wrap ((q : Int) * 7) = (q : Int) * 7 := IntWalk.i64_in _ (by omega)
    have e3 : IntKind.i64.wrap ((q : Int) * 7 + 3) = (q : Int) * 7 + 3 := IntWalk.i64_in _ (by omega)
    have e4 : IntKind.i64.wrap (y * 1117) = y * 1117 := IntWalk.i64_in _ (by omega)
    have e5 : IntKind.i64.wrap (x * 131 + y * 1117) = x * 131 + y * 1117 := IntWalk.i64_in _ (by omega)
    have e6 : IntKind.i64.wrap ((q : Int) * 29) = (q : Int) * 29 := IntWalk.i64_in _ (by omega)
    have e7 : IntKind.i64.wrap (x * 131 + y * 1117 + (q : Int) * 29) = x * 131 + y * 1117 + (q : Int) * 29 := IntWalk.i64_in _ (by omega)
    have e8 : IntKind.i64.wrap ((q : Int) / (n : Int) * 53) = (q : Int) / (n : Int) * 53 := IntWalk.i64_in _ (by omega)
    have e9 : IntKind.i64.wrap (x * 131 + y * 1117 + (q : Int) * 29 + (q : Int) / (n : Int) * 53) = x * 131 + y * 1117 + (q : Int) * 29 + (q : Int) / (n : Int) * 53 := IntWalk.i64_in _ (by omega)
    clear hc hc'
    go_enter Tryd.func28, Tryd.ntmps28
    go_wp2
    go_quiet (fail)
    have hX : 0 ≤ x * 131 + y * 1117 + (q : Int) * 29 + (q : Int) / (n : Int) * 53 ∧ x * 131 + y * 1117 + (q : Int) * 29 + (q : Int) / (n : Int) * 53 < 9223372036854775808 := by omega
    have hxor := xor_nonneg _ hX.1 hX.2
    clear e1 e2 e3 e4 e5 e6 e7 e8 e9 a1 a2 a3 b1 b2 b3
    generalize x * 131 + y * 1117 + (q : Int) * 29 + (q : Int) / (n : Int) * 53 = X at *
    obtain ⟨hX0, _⟩ := hX
    obtain ⟨hz0, _⟩ := hxor
    go_wp2
    go_ret
    generalize bits BinOp.xor IntKind.i64 X (X / 64) = Z at *
    refine RInt.mk ⟨⟨Int.emod_nonneg _ (by omega), fun _ => Int.emod_lt_of_pos _ (by omega), by omega⟩, ?_, ?_⟩
    · exact FIN.out.drewN _
    · exact ⟨rfl, rfl, rfl, FRM.out.size, FRM.out.block⟩

theorem odd_any (g q : Nat) (m : Int) (w : World) (hr : Rdr w g q) (hq : q ≤ 1000000000) (hm : m ≤ 1000000000) :
    Calls Tryd.prog 45 #[.pointer (some ⟨g, 0, none⟩), .int .i64 m] w (RBool fun _ w' => ∃ q', q ≤ q' ∧ q' ≤ q + 1 ∧ Rdr w' g q' ∧ w.grownBy w' (some g)) := by
  by_cases h0 : 0 < m
  · go_enter Tryd.func45, Tryd.ntmps45
    go_wp2_with fail
    refine (pick_any g q m w hr hq hm).mono ?_
    rintro e w1 ⟨v, rfl, hv, hr1, hg1⟩
    go_wp2_with fail
    go_ret
    exact RBool.mk ⟨q + 1, by omega, by omega, hr1, hg1⟩
  · go_enter Tryd.func45, Tryd.ntmps45
    go_wp2_with fail
    go_ret
    exact RBool.mk ⟨q, by omega, by omega, hr, only_refl w _⟩

/-- the bytes that come in -/
structure Code (w : World) (A : Option Addr) (n c : Nat) (bs : List Int) : Prop where
  len : bs.length = n
  cap : n ≤ c
  max : c ≤ 9223372036854775807
  rd : RdV w A (u8s bs)
  byte : ∀ z ∈ bs, 0 ≤ z ∧ z ≤ 255

theorem open_any (A : Option Addr) (n c : Nat) (bs : List Int) (w : World) (h : Code w A n c bs) :
    Calls Tryd.prog 26 #[.slice A n c] w (RVal fun v w' => ∃ g, v = .pointer (some ⟨g, 0, none⟩) ∧ w.heap.size ≤ g ∧ Rdr w' g 0 ∧ Below w.heap.size w w') := by
  obtain ⟨hbn, hcap, hmax, hr, hby⟩ := h
  have hold : 0 < n → ∀ b off, A = some ⟨b, off, none⟩ → b < w.heap.size := by
    intro h0 b off e
    obtain ⟨b', off', e', hlt, _⟩ := hr.pos (k := 0) (by rw [u8s_len, hbn]; exact h0)
    rw [e'] at e
    injection e with e
    injection e with e1 _
    omega
  have HB := Lib.hid hbn
  clear hbn
  by_cases h : n ≤ 2000
  · go_enter Tryd.func26, Tryd.ntmps26
    go_wp2
    go_ret
    exact RVal.mk ⟨w.heap.size, rfl, Nat.le_refl _, ⟨A, n, c, bs, Blk.new _ _ [_, _], h, HB.out, hr.below ((Below.refl _ _).alloc (Nat.le_refl _) _), hby, fun h0 b off e => hold h0 b off e⟩, (Below.refl _ _).alloc (Nat.le_refl _) _⟩
  · have h2 : (2000 : Int) ≤ (c : Int) := by omega
    have h3 : (2000 : Int) < (n : Int) := by omega
    go_enter Tryd.func26, Tryd.ntmps26
    go_wp2
    go_ret
    have hp : 2000 ≤ (u8s bs).length := by rw [u8s_len, HB.out]; omega
    obtain ⟨b, off, rfl, hlt, hc⟩ := hr.pos (k := 0) (by omega)
    refine RVal.mk ⟨w.heap.size, rfl, Nat.le_refl _, ⟨some ⟨b, off, none⟩, 2000, c, bs.take 2000, Blk.new _ _ [_, _], by omega, ?_, ?_, fun z hz => hby z (List.mem_of_mem_take hz), fun _ b off e => hold (by omega) b off e⟩, (Below.refl _ _).alloc (Nat.le_refl _) _⟩
    · rw [List.length_take]; rw [u8s_len] at hp; omega
    · refine RdV.below (.inr ⟨b, off, rfl, hlt, fun k hk => ?_⟩) ((Below.refl _ _).alloc (Nat.le_refl _) _)
      have hk' : k < (u8s bs).length := by simp only [u8s, List.length_map, List.length_take] at hk ⊢; omega
      rw [hc k hk']
      simp [u8s]
end Go.Proofs.YtcdjgbechigepaaDoor
