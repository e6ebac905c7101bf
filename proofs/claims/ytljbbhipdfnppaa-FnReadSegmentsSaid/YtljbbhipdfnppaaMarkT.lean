/- markText returns its plain word; texts are marked, the marks are read. -/
import Derived.Test.YtljbbhipdfnppaaSegRI
namespace Go.Proofs.Ytljbbhipdfnppaa
open Go Go.ChangeShapes Go.WideShapes Go.ChangeAt Go.RowKit
set_option linter.unusedVariables false
/-- the digits of a number -/
def mdig (k : Nat) : List UInt8 := if h : k = 0 then [] else mdig (k / 10) ++ [UInt8.ofNat (48 + k % 10)]
decreasing_by omega
theorem mdig_zero : mdig 0 = [] := by rw [mdig]; rfl
theorem mdig_pos {k : Nat} (h : k ≠ 0) : mdig k = mdig (k / 10) ++ [UInt8.ofNat (48 + k % 10)] := by
  rw [mdig, dif_neg h]
theorem mdig_len : ∀ (n k : Nat), k < 10 ^ n → (mdig k).length ≤ n := by
  intro n
  induction n with
  | zero => intro k hk; obtain rfl : k = 0 := by omega
            rw [mdig_zero]; simp
  | succ n ih =>
    intro k hk
    by_cases h : k = 0
    · subst h; rw [mdig_zero]; simp
    · rw [mdig_pos h, List.length_append]
      have := ih (k / 10) (by rw [Nat.pow_succ] at hk; omega)
      simp; omega
def mtxt (k : Nat) : List UInt8 := 109 :: mdig k
set_option maxHeartbeats 2000000 in
theorem markText_any (k : Nat) (w : World) (h1 : 1 ≤ k) (h2 : k < 1000000000000) :
    Calls Try.prog 48 #[.int .i64 k] w fun e w' => e = .returned (.string (txt (mtxt k))) ∧ Below w.heap.size w w' := by
  have hb0 : Below w.heap.size w w := Below.refl _ _
  go_enter Try.func48, Try.ntmps48
  go_wp2_with fail
  go_loopw [0, 3] (fun i o wr => ∃ (j : Nat) (out : List UInt8), i = .int .i64 j ∧ o = .string (txt out) ∧ Hid (mdig j ++ out = mdig k) ∧ out.length ≤ 12 ∧ j ≤ k ∧ Below w.heap.size w wr) (fun i _ _ => (intOf i).toNat)
  case atStart => exact ⟨k, [], rfl, rfl, Lib.hid (by simp), by simp, Nat.le_refl _, hb0⟩
  case round =>
    clear hb0
    obtain ⟨j, out, rfl, rfl, HD, ho, hjk, hbl⟩ := hrel
    by_cases hj : j = 0
    · subst hj
      have hcat := run_cat (P := Try.prog) [109] out (by simp; omega)
      have HB := Lib.hid hbl
      clear hbl
      go_wp2_with fail
      go_ret
      have e := HD.out
      rw [mdig_zero, List.nil_append] at e
      exact ⟨by rw [mtxt, ← e]; rfl, HB.out⟩
    · have hm0 : (0 : Int) ≤ (j : Int) % 10 := by omega
      have hm9 : (j : Int) % 10 < 10 := by omega
      have ha : Below wr.heap.size wr (wr.alloc (.cells #[.int .u8 (48 + (j : Int) % 10)] 5)) := (Below.refl _ _).alloc (Nat.le_refl _) _
      have hbk : Blk (wr.alloc (.cells #[.int .u8 (48 + (j : Int) % 10)] 5)) wr.heap.size 5 (pB [UInt8.ofNat (48 + j % 10)]) := by
        have := Blk.new wr 5 [.int .u8 (48 + (j : Int) % 10)]
        have e : (pB [UInt8.ofNat (48 + j % 10)]) = [.int .u8 (48 + (j : Int) % 10)] := by
          simp only [pB, List.map_cons, List.map_nil, UInt8.toNat_ofNat']
          congr 2
          omega
        rw [e]
        exact this
      have hcv := run_tostr _ _ 1 1 [UInt8.ofNat (48 + j % 10)] hbk.rd rfl
      have hol : out.length ≤ 11 := by
        have e := congrArg List.length HD.out
        have h12 := mdig_len 12 k (by omega)
        rw [List.length_append, mdig_pos hj, List.length_append] at e
        simp at e
        omega
      have hcat := run_cat (P := Try.prog) [UInt8.ofNat (48 + j % 10)] out (by simp; omega)
      have HB := Lib.hid (hbl.trans (ha.mono hbl.size))
      have hjp : (0 : Int) < (j : Int) := by omega
      have HD2 : Hid (mdig (j / 10) ++ ([UInt8.ofNat (48 + j % 10)] ++ out) = mdig k) := Lib.hid (by rw [← HD.out, mdig_pos hj, List.append_assoc])
      have hdl : [UInt8.ofNat (48 + j % 10)].length = 1 := rfl
      clear hbl ha hbk
      generalize [UInt8.ofNat (48 + j % 10)] = dg at *
      go_wp2_with fail
      refine ⟨⟨j / 10, dg ++ out, by go_num, rfl, HD2, by rw [List.length_append, hdl]; omega, by omega, HB.out⟩, ?_⟩
      simp [intOf]; omega
/-- n marks from k on -/
def marksT (k n : Nat) : List ByteArray := (List.range n).map fun i => txt (mtxt (k + i))
theorem marksT_len (k n : Nat) : (marksT k n).length = n := by simp [marksT]
theorem marksT_succ (k n : Nat) : marksT k (n + 1) = marksT k n ++ [txt (mtxt (k + n))] := by simp [marksT, List.range_succ]
theorem marksT_at (k n j : Nat) (h : j < (marksT k n).length) : (marksT k n)[j] = txt (mtxt (k + j)) := by simp [marksT]
theorem strs_app (a b : List ByteArray) : strs (a ++ b) = strs a ++ strs b := by simp [strs]
set_option maxHeartbeats 1000000 in
theorem markStringS_any (A : Option Addr) (n c base k : Nat) (xs : List Value) (w : World) (h : w.ownsRow base 9 1 (.slice A n c) n xs) (h0 : 1 ≤ k) (hk : k + n ≤ 100000000000) :
    Calls Try.prog 64 #[.slice A n c, .int .i64 k] w fun e w' => e = .returned (.int .i64 ((k : Int) + (n : Int))) ∧ w'.ownsRow base 9 1 (.slice A n c) n (strs (marksT k n)) ∧ w.grownBy w' (Value.ownBlock (.slice A n c)) := by
  go_enter Try.func64, Try.ntmps64
  go_wp2_with fail
  go_loopw [1, 5] (fun kk i wr => ∃ j : Nat, j ≤ n ∧ i = .int .i64 j ∧ kk = .int .i64 ((k : Int) + (j : Int)) ∧ wr.ownsRow base 9 1 (.slice A n c) n (strs (marksT k j) ++ xs.drop j) ∧ w.grownBy wr (Value.ownBlock (.slice A n c))) (fun _ i _ => n - (intOf i).toNat)
  case atStart => exact ⟨0, Nat.zero_le _, rfl, by simp, by simpa [marksT, strs] using h, World.grownBy.refl _ _⟩
  case round =>
    obtain ⟨j, hj, rfl, rfl, hown, hg⟩ := hrel
    have hxl : xs.length = n := by have := h.1; omega
    by_cases hlt : j < n
    · rcases own_form hown with ⟨_, hn0, _⟩ | ⟨g, c', hv, _, hgs, _⟩
      · omega
      injection hv with hA _ hc'
      subst hA hc'
      have HOWN := Lib.hid hown
      have HG := Lib.hid hg
      have hki : (j : Int) < (n : Int) := by omega
      have hmt := fun w => markText_any (k + j) w (by omega) (by omega)
      simp only [Int.natCast_add] at hmt
      clear hown hg
      go_wp2_with fail
      refine (hmt _).mono ?_
      rintro e w1 ⟨rfl, hb1⟩
      have hown1 := own_later HOWN.out hb1
      have hml : (strs (marksT k j)).length = j := by rw [strs_len, marksT_len]
      have hd : xs.drop j = xs[j] :: xs.drop (j + 1) := List.drop_eq_getElem_cons (by omega)
      rw [hd] at hown1
      have hcell := hown1.cellAt j (by omega)
      rw [List.getElem?_append_right (by omega), hml, Nat.sub_self] at hcell
      simp only [List.getElem?_cons_zero] at hcell
      have hfz := hown1.frozenAt j
      obtain ⟨hst1, hst2⟩ := hown1.stored j (.string (txt (mtxt (k + j))))
      rw [List.set_append_right _ _ (by omega), hml, Nat.sub_self, List.set_cons_zero] at hst1
      rw [show strs (marksT k j) ++ Value.string (txt (mtxt (k + j))) :: xs.drop (j + 1) = strs (marksT k (j + 1)) ++ xs.drop (j + 1) from by rw [marksT_succ, strs_app]; simp [strs]] at hst1
      have HH := Lib.hid hst1
      have hgb : w.grownBy w1 (some g) := ⟨hb1.os.trans HG.out.os, hb1.tape.trans HG.out.tape, hb1.output.trans HG.out.output, Nat.le_trans HG.out.size hb1.size, fun b hb hne => (hb1.block b (Nat.lt_of_lt_of_le hb HG.out.size)).trans (HG.out.block b hb hne)⟩
      have HG2 := Lib.hid (hgb.trans hst2)
      generalize xs[j] = y0 at hcell
      have ek : IntKind.i64.wrap ((k : Int) + (j : Int) + 1) = (k : Int) + (j : Int) + 1 := IntWalk.i64_in _ (by omega)
      clear hst1 hst2 hown1 hgb hb1 hd h hmt
      generalize txt (mtxt (k + j)) = mk at *
      go_wp2_with fail
      go_roundw
      case rel => exact ⟨j + 1, by omega, by go_num, by go_num, HH.out, HG2.out⟩
      case measure => simp [intOf]; omega
    · obtain rfl : j = n := by omega
      rw [List.drop_of_length_le (by omega), List.append_nil] at hown
      go_wp2_with fail
      go_ret
      exact ⟨rfl, hown, hg⟩
theorem keepC {w W : World} {b i : Nat} {y : Value} (hb : Below w.heap.size w W) (lb : b < w.heap.size) (m0 : w.cell? ⟨b, i, none⟩ = some y) : Below w.heap.size w W ∧ W.cell? ⟨b, i, none⟩ = some y :=
  ⟨hb, (hb.cell (p := ⟨b, i, none⟩) lb).trans m0⟩
set_option maxHeartbeats 1000000 in
theorem heldStringS_any (A : Option Addr) (n c k : Nat) (w : World) (h : RdV w A (strs (marksT k n))) (h0 : 1 ≤ k) (hk : k + n ≤ 100000000000) :
    Calls Try.prog 65 #[.slice A n c, .int .i64 k] w fun e w' => e = .returned (.int .i64 ((k : Int) + (n : Int))) ∧ Below w.heap.size w w' := by
  go_enter Try.func65, Try.ntmps65
  go_wp2_with fail
  go_loopw [1, 5] (fun kk i wr => ∃ j : Nat, j ≤ n ∧ i = .int .i64 j ∧ kk = .int .i64 ((k : Int) + (j : Int)) ∧ Below w.heap.size w wr) (fun _ i _ => n - (intOf i).toNat)
  case atStart => exact ⟨0, Nat.zero_le _, rfl, by simp, Below.refl _ _⟩
  case round =>
    obtain ⟨j, hj, rfl, rfl, hb⟩ := hrel
    by_cases hlt : j < n
    · have hjl : j < (strs (marksT k n)).length := by rw [strs_len, marksT_len]; exact hlt
      obtain ⟨b, oo, rfl, hl, hc⟩ := h.pos hjl
      have d0 : wr.cell? ⟨b, oo + j, none⟩ = some (strs (marksT k n))[j] := (hb.cell (p := ⟨b, oo + j, none⟩) hl).trans (hc j hjl)
      rw [strs_at, marksT_at] at d0
      have hmt := fun w => markText_any (k + j) w (by omega) (by omega)
      simp only [Int.natCast_add] at hmt
      have ek : IntKind.i64.wrap ((k : Int) + (j : Int) + 1) = (k : Int) + (j : Int) + 1 := IntWalk.i64_in _ (by omega)
      have hlr := Nat.lt_of_lt_of_le hl hb.size
      have HB := Lib.hid hb
      have hki : (j : Int) < (n : Int) := by omega
      have hnn : ((mtxt (k + j)) == (mtxt (k + j))) = true := by simp
      clear hc hb
      generalize mtxt (k + j) = mk at *
      go_wp2_with fail
      go_region_held3 (fun W => Below wr.heap.size wr W ∧ W.cell? ⟨b, oo + j, none⟩ = some (.string (txt mk)))
        (first | exact keepC (Below.refl _ _) hlr d0 | exact keepC (Below.drew (Below.refl _ _)) hlr d0 | assumption)
        (first
          | (go_at_call 48; (with_reducible refine (hmt _).mono ?_); rintro e w6 ⟨rfl, hb6⟩; have kx := keepC (below_trans (Below.drew (Below.refl _ _)) hb6) hlr d0))
      have HB2 := Lib.hid (below_trans HB.out kx.1)
      clear kx hb6 hmt
      go_wp2_with fail
      go_roundw
      case rel => exact ⟨j + 1, by omega, by go_num, by go_num, HB2.out⟩
      case measure => simp [intOf]; omega
    · obtain rfl : j = n := by omega
      go_wp2_with fail
      go_ret
      exact ⟨rfl, hb⟩
end Go.Proofs.Ytljbbhipdfnppaa
