/- Several texts of the proof in one; each says at its head what it proves; no condition. -/
import Derived.Test.YtbllbpjlkechdaaGreatMg1
import Derived.Test.YtbllbpjlkechdaaGreatProg
import Derived.Deep.QuietTactic
import Derived.BigQuiet
import Derived.Deep.RegionHeld3
section
/- Rows of structs, by their cells: k cells an element. -/
namespace Go.Proofs.YtbllbpjlkechdaaGreat
open Go Go.ChangeShapes Go.WideShapes Go.ChangeAt Go.RowKit
section
variable {α : Type} (enc : α → List Value) (k : Nat)
/-- the cells of a list -/
def cellsOf (zs : List α) : List Value := zs.flatMap enc
theorem cellsOf_len (hk : ∀ x, (enc x).length = k) (zs : List α) : (cellsOf enc zs).length = zs.length * k := by
  induction zs with
  | nil => simp [cellsOf]
  | cons z zs ih =>
    show (enc z ++ cellsOf enc zs).length = _
    rw [List.length_append, ih, hk, List.length_cons, Nat.succ_mul]
    omega
theorem cellsOf_append (a b : List α) : cellsOf enc (a ++ b) = cellsOf enc a ++ cellsOf enc b := by simp [cellsOf]
theorem cellsOf_one (a : α) : cellsOf enc [a] = enc a := by simp [cellsOf]
theorem cellsOf_at (hk : ∀ x, (enc x).length = k) (zs : List α) (i : Nat) (hi : i < zs.length) (j : Nat) (hj : j < k) : (cellsOf enc zs)[i * k + j]? = (enc zs[i])[j]? := by
  induction zs generalizing i with
  | nil => simp at hi
  | cons z zs ih =>
    show (enc z ++ cellsOf enc zs)[i * k + j]? = _
    cases i with
    | zero =>
      rw [Nat.zero_mul, Nat.zero_add, List.getElem?_append_left (by rw [hk]; exact hj)]
      rfl
    | succ i =>
      have e : (i + 1) * k = i * k + k := Nat.succ_mul i k
      rw [List.getElem?_append_right (by rw [hk]; omega), hk, show (i + 1) * k + j - k = i * k + j from by omega, ih i (by simpa using hi)]
      rfl
theorem cellsOf_lt {n i j : Nat} (hi : i < n) (hj : j < k) : i * k + j < n * k := by
  have h1 : (i + 1) * k ≤ n * k := Nat.mul_le_mul_right k hi
  have h2 : (i + 1) * k = i * k + k := Nat.succ_mul i k
  omega
end
/-- a cell of an element -/
theorem RdV.fieldAt {α : Type} {enc : α → List Value} {k : Nat} {w : World} {A : Option Addr} {zs : List α} (hk : ∀ x, (enc x).length = k) (h : RdV w A (cellsOf enc zs)) {i : Nat} (hi : i < zs.length) (h0 : 0 < k) :
    ∃ b o, A = some ⟨b, o, none⟩ ∧ b < w.heap.size ∧ ∀ (j : Nat) (v : Value), (enc zs[i])[j]? = some v → w.cell? ⟨b, o + (i * k + j), none⟩ = some v := by
  have hlt : i * k + 0 < (cellsOf enc zs).length := by rw [cellsOf_len enc k hk]; exact cellsOf_lt k hi h0
  obtain ⟨b, o, hA, hl, hc⟩ := h.pos hlt
  refine ⟨b, o, hA, hl, fun j v hv => ?_⟩
  have hj : j < k := by rw [← hk zs[i]]; exact (List.getElem?_eq_some_iff.1 hv).1
  have hlt2 : i * k + j < (cellsOf enc zs).length := by rw [cellsOf_len enc k hk]; exact cellsOf_lt k hi hj
  rw [hc _ hlt2, ← List.getElem?_eq_getElem hlt2, cellsOf_at enc k hk zs i hi j hj, hv]
/-- a copy after i elements: the rest is still zero -/
def cpF {α : Type} (enc : α → List Value) (z : List Value) (zs : List α) (i : Nat) : List Value := cellsOf enc (zs.take i) ++ (List.replicate (zs.length - i) z).flatten
theorem cpF_zero {α : Type} (enc : α → List Value) (z : List Value) (zs : List α) : cpF enc z zs 0 = (List.replicate zs.length z).flatten := by simp [cpF, cellsOf]
theorem cpF_all {α : Type} (enc : α → List Value) (z : List Value) (zs : List α) : cpF enc z zs zs.length = cellsOf enc zs := by simp [cpF]
theorem cpF_at {α : Type} (enc : α → List Value) (z : List Value) (zs : List α) (i k : Nat) (hk : ∀ x, (enc x).length = k) (hi : i < zs.length) :
    cpF enc z zs i = cellsOf enc (zs.take i) ++ (z ++ (List.replicate (zs.length - (i + 1)) z).flatten) ∧ cpF enc z zs (i + 1) = cellsOf enc (zs.take i) ++ (enc zs[i] ++ (List.replicate (zs.length - (i + 1)) z).flatten) ∧ (cellsOf enc (zs.take i)).length = i * k := by
  refine ⟨?_, ?_, ?_⟩
  · unfold cpF
    obtain ⟨m, hm⟩ : ∃ m, zs.length - i = m + 1 := ⟨zs.length - i - 1, by omega⟩
    have hm' : zs.length - (i + 1) = m := by omega
    rw [hm, hm', List.replicate_succ, List.flatten_cons]
  · unfold cpF
    rw [List.take_succ_eq_append_getElem hi, cellsOf_append, cellsOf_one, List.append_assoc]
  · rw [cellsOf_len enc k hk, List.length_take, Nat.min_eq_left (by omega)]
theorem flat_at (z : List Value) (n i j : Nat) (hi : i < n) (hj : j < z.length) : ((List.replicate n z).flatten)[i * z.length + j]? = z[j]? := by
  have h := cellsOf_at (fun _ : Unit => z) z.length (fun _ => rfl) (List.replicate n ()) i (by simpa using hi) j hj
  have e : cellsOf (fun _ : Unit => z) (List.replicate n ()) = (List.replicate n z).flatten := by simp [cellsOf, List.flatMap_def]
  rw [e] at h
  exact h
theorem made_k (z : List Value) (n : Nat) (hz : 0 < z.length) : madeCells z.toArray (n * z.length) = ((List.replicate n z).flatten).toArray := by
  apply Array.ext'
  apply List.ext_getElem?
  intro i
  have hl : ((List.replicate n z).flatten).length = n * z.length := by simp
  by_cases hi : i < n * z.length
  · have hd := Nat.div_add_mod i z.length
    have hm := Nat.mod_lt i hz
    have hq : i / z.length < n := Nat.div_lt_of_lt_mul (by rw [Nat.mul_comm]; exact hi)
    have h1 := flat_at z n (i / z.length) (i % z.length) hq hm
    rw [Nat.mul_comm, hd] at h1
    rw [h1]
    simp [madeCells, hi]
    rw [List.getElem?_eq_getElem hm]
    rfl
  · rw [List.getElem?_eq_none (by simp [madeCells]; omega), List.getElem?_eq_none (by rw [hl]; omega)]
theorem run_make_rowk {P : Program} (t e : TypeId) (z : Value) (zc : List Value) (bytes k : Nat) (ht : P.underlying t = some (.slice e)) (hinfo : (P.info? e).map (fun i => (i.zero, i.size, i.bytes)) = some (some z, k, bytes)) (hz : z.cells = zc.toArray) (hk : zc.length = k) (h0 : 0 < k)
    (n : Nat) (hbytes : bytes * n ≤ 281474976710656) (h63 : n ≤ 9223372036854775807) (w : World) :
    (Instr.makeSlice t (.int .i64 (n : Int)) (.int .i64 (n : Int))).run P w = .ok (.slice (some ⟨w.heap.size, 0, none⟩) n n) (w.alloc (.cells ((List.replicate n zc).flatten).toArray e)) := by
  obtain ⟨i, hi, hzz⟩ := Option.map_eq_some_iff.1 hinfo
  simp only [Prod.mk.injEq] at hzz
  obtain ⟨h1, h2, h3⟩ := hzz
  have hb2 : ((bytes * n : Nat) : Int) ≤ 281474976710656 := by omega
  rw [Int.natCast_mul] at hb2
  have := run_make (P := P) w t e i z ht hi h1 .i64 .i64 n n (by omega) (Int.le_refl _) (by rw [h3]; exact hb2) (by omega)
  rw [Int.toNat_natCast, h2, hz, ← hk, made_k zc n (by omega)] at this
  exact this
/-- an element of two cells, stored -/
theorem set_2 (l r : List Value) (a b c d : Value) (i : Nat) (hl : l.length = i) : ((l ++ ([a, b] ++ r)).set i c).set (i + 1) d = l ++ ([c, d] ++ r) := by
  rw [List.set_append_right _ _ (by omega), hl, Nat.sub_self, List.set_append_right _ _ (by omega), hl, Nat.add_sub_cancel_left]
  rfl
end Go.Proofs.YtbllbpjlkechdaaGreat
end
section
/- Lists of Hold: their cells; copying, comparing, measuring. -/
namespace Go.Proofs.YtbllbpjlkechdaaGreat
open Go Go.ChangeShapes Go.WideShapes Go.ChangeAt Go.RowKit
structure HoldV where
  f0 : Int
  f1 : Int
def holdC (x : HoldV) : List Value := [.int .i64 x.f0, .int .i64 x.f1]
theorem holdC_len (x : HoldV) : (holdC x).length = 2 := rfl
/-- the cells of a list -/
def holds (zs : List HoldV) : List Value := cellsOf holdC zs
theorem holds_len (zs : List HoldV) : (holds zs).length = zs.length * 2 := cellsOf_len _ _ holdC_len zs
theorem RdV.holdAt {w : World} {A : Option Addr} {zs : List HoldV} (h : RdV w A (holds zs)) {j : Nat} (hj : j < zs.length) : ∃ b o, A = some ⟨b, o, none⟩ ∧ b < w.heap.size ∧ w.cell? ⟨b, o + j * 2, none⟩ = some (.int .i64 (zs[j]).f0) ∧ w.cell? ⟨b, o + j * 2 + 1, none⟩ = some (.int .i64 (zs[j]).f1) := by
  obtain ⟨b, o, hA, hl, hc⟩ := RdV.fieldAt holdC_len h hj (by decide)
  exact ⟨b, o, hA, hl, hc 0 _ rfl, hc 1 _ rfl⟩
theorem hold_info : (Tryz.prog.info? 94).map (fun i => (i.zero, i.size, i.bytes)) = some (some (.agg #[.int .i64 0, .int .i64 0]), 2, 16) := by kernel_rfl
set_option maxHeartbeats 1000000 in
theorem toHold_any (x : HoldV) (w : World) : Calls Tryz.prog 81 #[.agg #[.int .i64 x.f0, .int .i64 x.f1]] w fun e w' => e = .returned (.agg #[.int .i64 x.f0, .int .i64 x.f1]) ∧ Below w.heap.size w w' := by
  go_enter Tryz.func81, Tryz.ntmps81
  go_wp2
  refine bodyPost_ret (v := .agg #[.int .i64 x.f0, .int .i64 x.f1]) (by simp [results, Tryz.results81, go_sem]) rfl ⟨rfl, ?_⟩
  exact ((((Below.refl _ _).alloc (Nat.le_refl _) _).alloc (by simp) _).alloc (by simp; omega) _)
theorem make_hold (n : Nat) (hn : n ≤ 1048576) (w : World) : (Instr.makeSlice 39 (.int .i64 (n : Int)) (.int .i64 (n : Int))).run Tryz.prog w = .ok (.slice (some ⟨w.heap.size, 0, none⟩) n n) (w.alloc (.cells ((List.replicate n [.int .i64 0, .int .i64 0]).flatten).toArray 94)) :=
  run_make_rowk (P := Tryz.prog) 39 94 (.agg #[.int .i64 0, .int .i64 0]) [.int .i64 0, .int .i64 0] 16 2 Tryz.underlying39 hold_info rfl rfl (by decide) n (by omega) (by omega) w
set_option maxHeartbeats 1000000 in
theorem toHoldS_any (A : Option Addr) (zs : List HoldV) (n c : Nat) (hzn : zs.length = n) (w : World) (hr : RdV w A (holds zs)) (hn : n ≤ 1048576) :
    Calls Tryz.prog 48 #[.slice A n c] w fun e w' => e = .returned (.slice (some ⟨w.heap.size, 0, none⟩) n n) ∧ Blk w' w.heap.size 94 (holds zs) ∧ Below w.heap.size w w' := by
  have hmk := make_hold n hn
  have HZ := Lib.hid hzn
  rw [← hzn, ← cpF_zero holdC [.int .i64 0, .int .i64 0] zs] at hmk
  rw [hzn] at hmk
  clear hzn
  go_enter Tryz.func48, Tryz.ntmps48
  go_wp2
  go_loopw [4] (fun i wr => ∃ k : Nat, k ≤ n ∧ i = .int .i64 k ∧ Blk wr w.heap.size 94 (cpF holdC [.int .i64 0, .int .i64 0] zs k) ∧ Below w.heap.size w wr) (fun i _ => n - (intOf i).toNat)
  case atStart => exact ⟨0, Nat.zero_le _, rfl, Blk.new _ _ _, (Below.refl _ _).alloc (Nat.le_refl _) _⟩
  case round =>
    obtain ⟨k, hk, rfl, hblk, hb⟩ := hrel
    by_cases hlt : k < n
    · have hkz : k < zs.length := by rw [HZ.out]; exact hlt
      obtain ⟨b, off, rfl, hlb, hc0, hc1⟩ := hr.holdAt hkz
      obtain ⟨e1, e2, e3⟩ := cpF_at holdC [.int .i64 0, .int .i64 0] zs k 2 holdC_len hkz
      have hs0 : wr.cell? ⟨b, off + k * 2, none⟩ = some (.int .i64 (zs[k]).f0) := (hb.cell (p := ⟨b, off + k * 2, none⟩) hlb).trans hc0
      have hs1 : wr.cell? ⟨b, off + k * 2 + 1, none⟩ = some (.int .i64 (zs[k]).f1) := (hb.cell (p := ⟨b, off + k * 2 + 1, none⟩) hlb).trans hc1
      generalize zs[k] = x at *
      have E1 := Lib.hid e1
      have E2 := Lib.hid e2
      have E3 := Lib.hid e3
      clear e1 e2 e3 hmk hc0 hc1
      go_wp2_with fail
      refine (toHold_any x _).mono ?_
      rintro e w2 ⟨rfl, hb2⟩
      have hblk2 := hblk.later hb2
      have hlt2 := hblk.lt
      rw [E1.out] at hblk2
      have hd0 : w2.cell? ⟨w.heap.size, k * 2, none⟩ = some (.int .i64 0) := by
        rw [hblk2.cell, List.getElem?_append_right (by rw [E3.out]; omega), E3.out]
        simp
      have hf0 : w2.frozen? ⟨w.heap.size, k * 2, none⟩ = false := hblk2.frozen _
      have hd1 : w2.cell? ⟨w.heap.size, k * 2 + 1, none⟩ = some (.int .i64 0) := by
        rw [hblk2.cell, List.getElem?_append_right (by rw [E3.out]; omega), E3.out]
        simp
      have hf1 : w2.frozen? ⟨w.heap.size, k * 2 + 1, none⟩ = false := hblk2.frozen _
      have hset := ((hblk2.set_ (k * 2) (.int .i64 x.f0)).set_ (k * 2 + 1) (.int .i64 x.f1))
      have HSET := Lib.hid hset
      have HB := Lib.hid (hb.trans (hb2.mono hb.size))
      clear hset hblk hblk2 hb hb2
      go_wp2_with fail
      go_roundw
      case rel =>
        refine ⟨k + 1, by omega, by go_num, ?_, ((HB.out.setCell (p := ⟨w.heap.size, _, none⟩) (Nat.le_refl _) _).setCell (p := ⟨w.heap.size, _, none⟩) (Nat.le_refl _) _)⟩
        have h := HSET.out
        rw [set_2 _ _ _ _ _ _ _ E3.out] at h
        rw [E2.out]
        exact h
      case measure => simp [intOf]; omega
    · go_wp2_with fail
      go_ret
      obtain rfl : k = n := by omega
      rw [← HZ.out, cpF_all] at hblk
      exact ⟨rfl, hblk, hb⟩

set_option maxHeartbeats 1000000 in
theorem eqHold_any (x : HoldV) (w : World) : Calls Tryz.prog 84 #[.agg #[.int .i64 x.f0, .int .i64 x.f1], .agg #[.int .i64 x.f0, .int .i64 x.f1]] w fun e w' => e = .returned (.bool true) ∧ Below w.heap.size w w' := by
  have h0 : (x.f0 != x.f0) = false := by simp
  have h1 : (x.f1 != x.f1) = false := by simp
  go_enter Tryz.func84, Tryz.ntmps84
  go_wp2
  go_ret
  exact ⟨rfl, ((Below.refl _ _).alloc (Nat.le_refl _) _).alloc (by simp) _⟩
set_option maxHeartbeats 1000000 in
theorem eqHoldS_any (A B : Option Addr) (zs : List HoldV) (n c d : Nat) (hzn : zs.length = n) (w : World) (ha : RdV w A (holds zs)) (hb : RdV w B (holds zs)) (hn : n ≤ 1099511627776) :
    Calls Tryz.prog 54 #[.slice A n c, .slice B n d] w fun e w' => e = .returned (.bool true) ∧ Below w.heap.size w w' := by
  have HZ := Lib.hid hzn
  clear hzn
  have hne : ((n : Int) != (n : Int)) = false := by simp
  go_enter Tryz.func54, Tryz.ntmps54
  go_wp2
  go_loopw [5] (fun i wr => ∃ k : Nat, k ≤ n ∧ i = .int .i64 k ∧ Below w.heap.size w wr) (fun i _ => n - (intOf i).toNat)
  case atStart => exact ⟨0, Nat.zero_le _, rfl, Below.refl _ _⟩
  case round =>
    obtain ⟨k, hk, rfl, hbl⟩ := hrel
    by_cases hlt : k < n
    · have hkz : k < zs.length := by rw [HZ.out]; exact hlt
      obtain ⟨b1, o1, rfl, hl1, hc0, hc1⟩ := ha.holdAt hkz
      obtain ⟨b2, o2, rfl, hl2, hd0, hd1⟩ := hb.holdAt hkz
      have hs0 : wr.cell? ⟨b1, o1 + k * 2, none⟩ = some (.int .i64 (zs[k]).f0) := (hbl.cell (p := ⟨b1, o1 + k * 2, none⟩) hl1).trans hc0
      have ht0 : wr.cell? ⟨b2, o2 + k * 2, none⟩ = some (.int .i64 (zs[k]).f0) := (hbl.cell (p := ⟨b2, o2 + k * 2, none⟩) hl2).trans hd0
      have hs1 : wr.cell? ⟨b1, o1 + k * 2 + 1, none⟩ = some (.int .i64 (zs[k]).f1) := (hbl.cell (p := ⟨b1, o1 + k * 2 + 1, none⟩) hl1).trans hc1
      have ht1 : wr.cell? ⟨b2, o2 + k * 2 + 1, none⟩ = some (.int .i64 (zs[k]).f1) := (hbl.cell (p := ⟨b2, o2 + k * 2 + 1, none⟩) hl2).trans hd1
      generalize zs[k] = x at *
      have hki : (k : Int) < (n : Int) := by omega
      have lw1 : b1 < wr.heap.size := Nat.lt_of_lt_of_le hl1 hbl.size
      have lw2 : b2 < wr.heap.size := Nat.lt_of_lt_of_le hl2 hbl.size
      clear hc0 hd0 hc1 hd1
      go_wp2_with fail
      go_region_held3 (fun w' => Below wr.heap.size wr w' ∧ w'.cell? ⟨b1, o1 + k * 2, none⟩ = some (.int .i64 x.f0) ∧ w'.cell? ⟨b1, o1 + k * 2 + 1, none⟩ = some (.int .i64 x.f1) ∧ w'.cell? ⟨b2, o2 + k * 2, none⟩ = some (.int .i64 x.f0) ∧ w'.cell? ⟨b2, o2 + k * 2 + 1, none⟩ = some (.int .i64 x.f1)) (first | exact ⟨Below.refl _ _, by assumption, by assumption, by assumption, by assumption⟩ | exact ⟨Below.drew (Below.refl _ _), by assumption, by assumption, by assumption, by assumption⟩ | exact ⟨hbq, (hbq.cell (p := ⟨b1, o1 + k * 2, none⟩) lw1).trans hs0, (hbq.cell (p := ⟨b1, o1 + k * 2 + 1, none⟩) lw1).trans hs1, (hbq.cell (p := ⟨b2, o2 + k * 2, none⟩) lw2).trans ht0, (hbq.cell (p := ⟨b2, o2 + k * 2 + 1, none⟩) lw2).trans ht1⟩)
        (first | (go_at_call 84; (with_reducible refine (eqHold_any x _).mono ?_); rintro e w2 ⟨rfl, hbq0⟩; have hbq : Below wr.heap.size wr w2 := ⟨hbq0.os, hbq0.tape, hbq0.output, hbq0.size, hbq0.block⟩))
      all_goals
        go_wp2_with fail
        go_roundw
        case rel => exact ⟨k + 1, by omega, by go_num, hbl.trans (hbq.mono hbl.size)⟩
        case measure => simp [intOf]; omega
    · go_wp2_with fail
      go_ret
      exact ⟨rfl, hbl⟩
theorem szHoldS_any (A : Option Addr) (n c : Nat) (w : World) (hm : n ≤ 9223372036854775807) (l : Int) (h0 : 0 ≤ l) (h1 : l ≤ 1048576) :
    Calls Tryz.prog 45 #[.slice A n c, .int .i64 l] w (RInt fun r w' => r ≤ l ∧ (0 ≤ r → (n : Int) ≤ l) ∧ w = w') := by
  by_cases hn : (n : Int) ≤ l
  · go_enter Tryz.func45, Tryz.ntmps45
    go_wp2
    go_ret
    exact RInt.mk ⟨by omega, fun _ => by first | omega | trivial, rfl⟩
  · go_enter Tryz.func45, Tryz.ntmps45
    go_wp2
    go_ret
    exact RInt.mk ⟨by omega, fun h => by omega, rfl⟩
end Go.Proofs.YtbllbpjlkechdaaGreat
end
section
/- Lists of Hold and what is kept: plain words for memory. -/
namespace Go.Proofs.YtbllbpjlkechdaaGreat
open Go Go.ChangeShapes Go.WideShapes Go.ChangeAt Go.RowKit
theorem own_out {w w' : World} {lo hi base : Nat} {e : TypeId} {size n : Nat} {v : Value} {xs : List Value} (h : w.ownsRow base e size v n xs) (ho : Out lo hi w w') (hd : ∀ g, v.ownBlock = some g → g < lo ∨ hi ≤ g) : w'.ownsRow base e size v n xs := by
  refine ⟨h.1, ?_⟩
  rcases h.2 with hn | ⟨g, cap, cur, rfl, hb, hg, rest⟩
  · exact .inl hn
  · exact .inr ⟨g, cap, cur, rfl, hb, (ho.block g (Array.getElem?_eq_some_iff.1 hg).1 (hd g rfl)).trans hg, rest⟩
theorem Blk.offO {w w' : World} {g lo hi : Nat} {t : TypeId} {cs : List Value} (h : Blk w g t cs) (ho : Out lo hi w w') (hd : g < lo ∨ hi ≤ g) : Blk w' g t cs := (ho.block g h.lt hd).trans h
theorem Blk.offG {w w' : World} {g : Nat} {row : Option Nat} {t : TypeId} {cs : List Value} (h : Blk w g t cs) (hg : w.grownBy w' row) (hd : ∀ b, row = some b → b ≠ g) : Blk w' g t cs := (hg.block g h.lt (fun e => hd g e.symm rfl)).trans h
theorem Below.drewN_ (w : World) (n : Nat) : Below w.heap.size w (w.drewN n) := ⟨rfl, rfl, rfl, Nat.le_refl _, fun _ _ => rfl⟩
theorem hold_infoD : Info Tryz.prog 94 (.agg #[.int .i64 0, .int .i64 0]) 2 16 := Info.mk' hold_info rfl (by decide) (by decide)
theorem holds_cell (zs : List HoldV) : ∀ u ∈ holds zs, u.oneCell' = true := by
  intro u hu
  simp only [holds, cellsOf, List.mem_flatMap, holdC, List.mem_cons, List.not_mem_nil, or_false] at hu
  obtain ⟨z, _, rfl | rfl⟩ := hu <;> rfl
theorem holds_app (a b : List HoldV) : holds (a ++ b) = holds a ++ holds b := cellsOf_append _ _ _
end Go.Proofs.YtbllbpjlkechdaaGreat
end
section
/- Lists of numbers and truths: comparing, marking, reading the marks. -/
namespace Go.Proofs.YtbllbpjlkechdaaGreat
open Go.ChangeShapes Go.WideShapes Go.ChangeAt Go.RowKit

/-- the marks k, k + 1 and so on; and whether each is a multiple of 3 -/
def marksI (k : Int) (n : Nat) : List Int := (List.range n).map fun (i : Nat) => k + (i : Int)
def marksB (k : Int) (n : Nat) : List Bool := (List.range n).map fun (i : Nat) => (k + (i : Int)) % 3 == 0
theorem marksI_len (k : Int) (n : Nat) : (marksI k n).length = n := by simp [marksI]
theorem marksB_len (k : Int) (n : Nat) : (marksB k n).length = n := by simp [marksB]
theorem marksI_succ (k : Int) (n : Nat) : marksI k (n + 1) = marksI k n ++ [k + (n : Int)] := by simp [marksI, List.range_succ]
theorem marksB_succ (k : Int) (n : Nat) : marksB k (n + 1) = marksB k n ++ [(k + (n : Int)) % 3 == 0] := by simp [marksB, List.range_succ]
theorem marksI_at (k : Int) (n j : Nat) (h : j < (marksI k n).length) : (marksI k n)[j] = k + (j : Int) := by simp [marksI]
theorem marksB_at (k : Int) (n j : Nat) (h : j < (marksB k n).length) : (marksB k n)[j] = ((k + (j : Int)) % 3 == 0) := by simp [marksB]
theorem eqIntS_any (A B : Option Addr) (zs : List Int) (n c d : Nat) (hzn : zs.length = n) (w : World) (ha : RdV w A (ints zs)) (hb : RdV w B (ints zs)) (hn : n ≤ 1099511627776) :
    Calls Tryz.prog 29 #[.slice A n c, .slice B n d] w fun e w' => e = .returned (.bool true) ∧ Below w.heap.size w w' := by
  have HZ := Lib.hid hzn
  clear hzn
  have hne : ((n : Int) != (n : Int)) = false := by simp
  go_enter Tryz.func29, Tryz.ntmps29
  go_wp2
  go_loopw [5] (fun i wr => ∃ k : Nat, k ≤ n ∧ i = .int .i64 k ∧ Below w.heap.size w wr) (fun i _ => n - (intOf i).toNat)
  case atStart => exact ⟨0, Nat.zero_le _, rfl, Below.refl _ _⟩
  case round =>
    obtain ⟨k, hk, rfl, hbl⟩ := hrel
    by_cases hlt : k < n
    · have hkl : k < (ints zs).length := by rw [ints_len, HZ.out]; exact hlt
      obtain ⟨b1, o1, rfl, hl1, hc1⟩ := ha.pos hkl
      obtain ⟨b2, o2, rfl, hl2, hc2⟩ := hb.pos hkl
      have h1 : wr.cell? ⟨b1, o1 + k, none⟩ = some (ints zs)[k] := (hbl.cell (p := ⟨b1, o1 + k, none⟩) hl1).trans (hc1 k hkl)
      have h2 : wr.cell? ⟨b2, o2 + k, none⟩ = some (ints zs)[k] := (hbl.cell (p := ⟨b2, o2 + k, none⟩) hl2).trans (hc2 k hkl)
      rw [ints_at] at h1 h2
      generalize (zs[k]'(by rw [HZ.out]; exact hlt)) = x at h1 h2
      have hx : (x != x) = false := by simp
      have hki : (k : Int) < (n : Int) := by omega
      clear hc1 hc2
      go_wp2
      go_quiet (fail)
      go_wp2
      go_roundw
      case rel => exact ⟨k + 1, by omega, by go_num, below_drewN hbl _⟩
      case measure => simp [intOf]; omega
    · go_wp2
      go_ret
      exact ⟨rfl, hbl⟩
end Go.Proofs.YtbllbpjlkechdaaGreat
end
section
/- toIntS copies a slice of integers into memory of its own; eqIntS compares two. -/
namespace Go.Proofs.YtbllbpjlkechdaaGreat
open Go.ChangeShapes Go.WideShapes Go.ChangeAt Go.RowKit

theorem int_info : (Tryz.prog.info? 3).map (fun i => (i.zero, i.size, i.bytes)) = some (some (.int .i64 0), 1, 8) := by kernel_rfl

theorem toIntS_any (A : Option Addr) (zs : List Int) (n c : Nat) (hzn : zs.length = n) (w : World) (hr : RdV w A (ints zs)) (hn : n ≤ 1048576) :
    Calls Tryz.prog 22 #[.slice A n c] w fun e w' => e = .returned (.slice (some ⟨w.heap.size, 0, none⟩) n n) ∧ Blk w' w.heap.size 3 (ints zs) ∧ Below w.heap.size w w' := by
  have hmk := run_make_row' (P := Tryz.prog) 28 3 (.int .i64 0) 8 Tryz.underlying28 int_info rfl .i64 .i64 n (by omega) (by omega)
  have hil : (ints zs).length = n := by rw [ints_len]; exact hzn
  have Hil := Lib.hid hil
  rw [made_one, ← hil, ← cpV_zero] at hmk
  rw [hil] at hmk
  have HZ := Lib.hid hzn
  clear hil hzn
  go_enter Tryz.func22, Tryz.ntmps22
  go_wp2
  go_loopw [4] (fun i wr => ∃ k : Nat, k ≤ n ∧ i = .int .i64 k ∧ Blk wr w.heap.size 3 (cpV (.int .i64 0) (ints zs) k) ∧ Below w.heap.size w wr) (fun i _ => n - (intOf i).toNat)
  case atStart => exact ⟨0, Nat.zero_le _, rfl, Blk.new _ _ _, (Below.refl _ _).alloc (Nat.le_refl _) _⟩
  case round =>
    obtain ⟨k, hk, rfl, hblk, hb⟩ := hrel
    by_cases hlt : k < n
    · have hkl : k < (ints zs).length := by rw [Hil.out]; exact hlt
      obtain ⟨b, off, rfl, hlb, hc⟩ := hr.pos hkl
      have hsrc : wr.cell? ⟨b, off + k, none⟩ = some (ints zs)[k] := (hb.cell (p := ⟨b, off + k, none⟩) hlb).trans (hc k hkl)
      have hdst : wr.cell? ⟨w.heap.size, k, none⟩ = some ((cpV (.int .i64 0) (ints zs) k)[k]'(by rw [cpV_len _ _ _ (by omega)]; exact hkl)) := hblk.cellAt k _
      have hset := hblk.set_ k (ints zs)[k]
      rw [cpV_set _ _ _ hkl] at hset
      rw [ints_at] at hsrc hset
      have hfz : wr.frozen? ⟨w.heap.size, k, none⟩ = false := hblk.frozen k
      generalize (zs[k]'(by rw [HZ.out]; exact hlt)) = x at hsrc hset
      generalize ((cpV (.int .i64 0) (ints zs) k)[k]'(by rw [cpV_len _ _ _ (by omega)]; exact hkl)) = y at hdst
      clear hc hmk
      go_wp2
      go_roundw
      case rel => exact ⟨k + 1, by omega, by go_num, hset, hb.setCell (Nat.le_refl _) _⟩
      case measure => simp [intOf]; omega
    · go_wp2
      go_ret
      obtain rfl : k = n := by omega
      have hk2 : k = (ints zs).length := Hil.out.symm
      exact ⟨rfl, by rw [← cpV_all (.int .i64 0) (ints zs), ← hk2]; exact hblk, hb⟩

theorem eqIntS_true (A B : Option Addr) (zs : List Int) (n c d : Nat) (hzn : zs.length = n) (w : World) (ha : RdV w A (ints zs)) (hb : RdV w B (ints zs)) (hn : n ≤ 1048576) :
    Calls Tryz.prog 29 #[.slice A n c, .slice B n d] w fun e w' => e = .returned (.bool true) ∧ Below w.heap.size w w' := by
  have HZ := Lib.hid hzn
  clear hzn
  have hne : ((n : Int) != (n : Int)) = false := by simp
  go_enter Tryz.func29, Tryz.ntmps29
  go_wp2
  go_loopw [5] (fun i wr => ∃ k : Nat, k ≤ n ∧ i = .int .i64 k ∧ Below w.heap.size w wr) (fun i _ => n - (intOf i).toNat)
  case atStart => exact ⟨0, Nat.zero_le _, rfl, Below.refl _ _⟩
  case round =>
    obtain ⟨k, hk, rfl, hbl⟩ := hrel
    by_cases hlt : k < n
    · have hkl : k < (ints zs).length := by rw [ints_len, HZ.out]; exact hlt
      obtain ⟨b1, o1, rfl, hl1, hc1⟩ := ha.pos hkl
      obtain ⟨b2, o2, rfl, hl2, hc2⟩ := hb.pos hkl
      have h1 : wr.cell? ⟨b1, o1 + k, none⟩ = some (ints zs)[k] := (hbl.cell (p := ⟨b1, o1 + k, none⟩) hl1).trans (hc1 k hkl)
      have h2 : wr.cell? ⟨b2, o2 + k, none⟩ = some (ints zs)[k] := (hbl.cell (p := ⟨b2, o2 + k, none⟩) hl2).trans (hc2 k hkl)
      rw [ints_at] at h1 h2
      generalize (zs[k]'(by rw [HZ.out]; exact hlt)) = x at h1 h2
      have hx : (x != x) = false := by simp
      have hki : (k : Int) < (n : Int) := by omega
      clear hc1 hc2
      go_wp2
      go_quiet (fail)
      go_wp2
      go_roundw
      case rel => exact ⟨k + 1, by omega, by go_num, below_drewN hbl _⟩
      case measure => simp [intOf]; omega
    · go_wp2
      go_ret
      exact ⟨rfl, hbl⟩
end Go.Proofs.YtbllbpjlkechdaaGreat
end
section
/- Rows of rows: an outer row of slices whose cells are known. -/
namespace Go.Proofs.YtbllbpjlkechdaaGreat
open Go Go.ChangeShapes Go.WideShapes Go.ChangeAt Go.RowKit
theorem RdV.drew {w : World} {A : Option Addr} {cs : List Value} (h : RdV w A cs) : RdV w.drew A cs := h
/-- each cell of the outer row is a slice whose cells are known -/
def RdRR (w : World) (A : Option Addr) (xss : List (List Value)) : Prop :=
  ∃ hs : List Value, hs.length = xss.length ∧ RdV w A hs ∧ ∀ i (h : i < xss.length), ∃ B c, hs[i]? = some (.slice B (xss[i]).length c) ∧ (xss[i]).length ≤ c ∧ c ≤ maxLen ∧ RdV w B xss[i]
theorem RdRR.below {w w' : World} {A : Option Addr} {xss : List (List Value)} (h : RdRR w A xss) (hb : Below w.heap.size w w') : RdRR w' A xss := by
  obtain ⟨hs, h1, h2, h3⟩ := h
  refine ⟨hs, h1, h2.below hb, fun i hi => ?_⟩
  obtain ⟨B, c, e, e1, e2, hr⟩ := h3 i hi
  exact ⟨B, c, e, e1, e2, hr.below hb⟩
theorem RdRR.pos {w : World} {A : Option Addr} {xss : List (List Value)} (h : RdRR w A xss) {k : Nat} (hk : k < xss.length) :
    ∃ b o, A = some ⟨b, o, none⟩ ∧ b < w.heap.size ∧ ∃ B c, w.cell? ⟨b, o + k, none⟩ = some (.slice B (xss[k]).length c) ∧ (xss[k]).length ≤ c ∧ c ≤ maxLen ∧ RdV w B xss[k] := by
  obtain ⟨hs, h1, h2, h3⟩ := h
  obtain ⟨b, o, hA, hl, hc⟩ := h2.pos (k := k) (by omega)
  obtain ⟨B, c, e, e1, e2, hr⟩ := h3 k hk
  refine ⟨b, o, hA, hl, B, c, ?_, e1, e2, hr⟩
  rw [hc k (by omega)]
  rw [List.getElem?_eq_getElem (by omega)] at e
  exact e
theorem RdRR.nil_ {w : World} {A : Option Addr} : RdRR w A [] := ⟨[], rfl, RdV.nil_, fun i h => by simp at h⟩
/-- texts as cells -/
def strs (ss : List ByteArray) : List Value := ss.map .string
theorem strs_len (ss : List ByteArray) : (strs ss).length = ss.length := by simp [strs]
theorem strs_at (ss : List ByteArray) (k : Nat) (h : k < (strs ss).length) : (strs ss)[k] = .string (ss[k]'(by simpa [strs] using h)) := by simp [strs]
/-- lists of texts as cells -/
def strss (ess : List (List ByteArray)) : List (List Value) := ess.map strs
theorem strss_len (ess : List (List ByteArray)) : (strss ess).length = ess.length := by simp [strss]
theorem strss_at (ess : List (List ByteArray)) (k : Nat) (h : k < (strss ess).length) : (strss ess)[k] = strs (ess[k]'(by simpa [strss] using h)) := by simp [strss]
end Go.Proofs.YtbllbpjlkechdaaGreat
end
section
/- Rows of rows of the call's own: each row in a block of its own. -/
namespace Go.Proofs.YtbllbpjlkechdaaGreat
open Go Go.ChangeShapes Go.WideShapes Go.ChangeAt Go.RowKit
/-- outer row and inner rows lie in blocks lo to hi, each in a block of its own -/
def OwnRR (w : World) (lo hi : Nat) (te ti : TypeId) (v : Value) (xss : List (List Value)) : Prop :=
  ∃ hs : List Value, OwnI w lo hi te 1 v xss.length hs ∧
    (∀ i (h : i < xss.length), ∃ u, hs[i]? = some u ∧ OwnI w lo hi ti 1 u (xss[i]).length xss[i] ∧ (∀ g, u.ownBlock = some g → v.ownBlock ≠ some g)) ∧
    (∀ (i j : Nat) (u u' : Value) (g : Nat), i < j → hs[i]? = some u → hs[j]? = some u' → u.ownBlock = some g → u'.ownBlock ≠ some g)
theorem OwnRR.len {w : World} {lo hi : Nat} {te ti : TypeId} {v : Value} {xss : List (List Value)} (h : OwnRR w lo hi te ti v xss) : ∃ A c, v = .slice A xss.length c ∧ xss.length ≤ c ∧ c ≤ maxLen := by
  obtain ⟨hs, h1, _⟩ := h
  exact own_slice h1.row
theorem OwnRR.out {w w' : World} {lo hi lo' hi' : Nat} {te ti : TypeId} {v : Value} {xss : List (List Value)} (h : OwnRR w lo hi te ti v xss) (ho : Out lo' hi' w w') (hd : hi ≤ lo' ∨ hi' ≤ lo) : OwnRR w' lo hi te ti v xss := by
  obtain ⟨hs, h1, h2, h3⟩ := h
  refine ⟨hs, h1.out ho hd, fun i hi => ?_, h3⟩
  obtain ⟨u, e, hu, hne⟩ := h2 i hi
  exact ⟨u, e, hu.out ho hd, hne⟩
theorem OwnRR.later {w w' : World} {lo hi : Nat} {te ti : TypeId} {v : Value} {xss : List (List Value)} (h : OwnRR w lo hi te ti v xss) (hb : Below w.heap.size w w') : OwnRR w' lo hi te ti v xss :=
  h.out (Below.out hb lo lo) (.inr (Nat.le_refl _))
theorem OwnRR.rd {w : World} {lo hi n c : Nat} {te ti : TypeId} {A : Option Addr} {xss : List (List Value)} (h : OwnRR w lo hi te ti (.slice A n c) xss) : RdRR w A xss := by
  obtain ⟨hs, h1, h2, _⟩ := h
  obtain ⟨A', c', e, _, _⟩ := own_slice h1.row
  injection e with e1 e2 e3
  subst e1 e2
  have hl := h1.row.1
  rw [Nat.mul_one] at hl
  refine ⟨hs, hl, h1.rd, fun i hi => ?_⟩
  obtain ⟨u, e, hu, _⟩ := h2 i hi
  obtain ⟨B, c2, rfl, hc1, hc2⟩ := own_slice hu.row
  exact ⟨B, c2, e, hc1, hc2, hu.rd⟩
theorem OwnRR.base {w : World} {lo hi lo' : Nat} {te ti : TypeId} {v : Value} {xss : List (List Value)} (h : OwnRR w lo hi te ti v xss) (hb : lo' ≤ lo) : OwnRR w lo' hi te ti v xss := by
  obtain ⟨hs, h1, h2, h3⟩ := h
  refine ⟨hs, ⟨own_base h1.row hb, h1.lt, h1.top⟩, fun i hi => ?_, h3⟩
  obtain ⟨u, e, hu, hne⟩ := h2 i hi
  exact ⟨u, e, ⟨own_base hu.row hb, hu.lt, hu.top⟩, hne⟩
/-- what the inner row i is, and what turning it leaves -/
theorem OwnRR.row {w : World} {lo hi : Nat} {te ti : TypeId} {v : Value} {xss : List (List Value)} (h : OwnRR w lo hi te ti v xss) {i : Nat} (hi' : i < xss.length) :
    ∃ A c B c', v = .slice A xss.length c ∧ OwnI w lo hi ti 1 (.slice B (xss[i]).length c') (xss[i]).length xss[i] ∧ (∃ b, A = some ⟨b, 0, none⟩ ∧ b < w.heap.size ∧ w.cell? ⟨b, i, none⟩ = some (.slice B (xss[i]).length c') ∧ w.frozen? ⟨b, i, none⟩ = false) ∧
      ∀ (w' : World) (ys : List Value), ys.length = (xss[i]).length → w'.ownsRow lo ti 1 (.slice B (xss[i]).length c') (xss[i]).length ys → w.grownBy w' (Value.ownBlock (.slice B (xss[i]).length c')) → OwnRR w' lo hi te ti v (xss.set i ys) ∧ Out lo hi w w' := by
  obtain ⟨hs, h1, h2, h3⟩ := h
  obtain ⟨u, eu, hu, hne⟩ := h2 i hi'
  obtain ⟨B, c', rfl, _, _⟩ := own_slice hu.row
  have hl := h1.row.1
  rw [Nat.mul_one] at hl
  rcases own_form h1.row with ⟨_, h0, _⟩ | ⟨g, c, rfl, hg1, hg2, hg3⟩
  · omega
  refine ⟨_, _, B, c', rfl, hu, ⟨g, rfl, hg2, ?_, ?_⟩, fun w' ys hys hown hgr => ?_⟩
  · rw [h1.row.cellAt i (by omega)]
    exact eu
  · exact h1.row.frozenAt i
  · have ho : Out lo hi w w' := out_of_grown hgr (fun g e => ⟨(hu.row.lt g e).1, hu.lt g e⟩)
    refine ⟨⟨hs, ⟨?_, h1.lt, Nat.le_trans h1.top hgr.size⟩, fun j hj => ?_, h3⟩, ho⟩
    · rw [List.length_set]
      refine h1.row.kept hgr ?_
      cases hub : Value.ownBlock (.slice B (xss[i]).length c') with
      | none => right; simp [Value.ownBlock]
      | some g' => right; exact hne g' hub
    · rw [List.length_set] at hj
      by_cases hij : i = j
      · subst hij
        rw [List.getElem_set_self]
        refine ⟨_, eu, ⟨by rw [hys]; exact hown, hu.lt, Nat.le_trans hu.top hgr.size⟩, hne⟩
      · rw [List.getElem_set_ne hij]
        obtain ⟨u2, e2, hu2, hne2⟩ := h2 j hj
        refine ⟨u2, e2, ⟨hu2.row.kept hgr ?_, hu2.lt, Nat.le_trans hu2.top hgr.size⟩, hne2⟩
        cases hub2 : u2.ownBlock with
        | none => exact .inl rfl
        | some g' =>
          right
          intro e
          rcases Nat.lt_or_gt_of_ne hij with hlt | hgt
          · exact h3 i j _ _ g' hlt eu e2 e.symm hub2
          · exact h3 j i _ _ g' hgt e2 eu hub2 e.symm
/-- behind a call: what was there ahead reads as before (two rules for the walk) -/
theorem bcell {W w1 : World} (hb : Below W.heap.size W w1) : (∀ b o, b < W.heap.size → w1.cell? ⟨b, o, none⟩ = W.cell? ⟨b, o, none⟩) ∧ (∀ b o, b < W.heap.size → w1.frozen? ⟨b, o, none⟩ = W.frozen? ⟨b, o, none⟩) :=
  ⟨fun b o h => hb.cell (p := ⟨b, o, none⟩) h, fun b o h => hb.frozen (p := ⟨b, o, none⟩) h⟩
theorem out_set {lo hi : Nat} {w0 w : World} (h : Out lo hi w0 w) (b i : Nat) (v : Value) (h1 : lo ≤ b) (h2 : b < hi) : Out lo hi w0 (w.setCell ⟨b, i, none⟩ v) :=
  h.trans ⟨rfl, rfl, rfl, by simp [World.setCell], fun k _ hn => Below.heap_setCell w ⟨b, i, none⟩ v k (by show k ≠ b; omega)⟩
theorem OwnRR.hi {w : World} {lo hi hi' : Nat} {te ti : TypeId} {v : Value} {xss : List (List Value)} (h : OwnRR w lo hi te ti v xss) (h1 : hi ≤ hi') (h2 : hi' ≤ w.heap.size) : OwnRR w lo hi' te ti v xss := by
  obtain ⟨hs, a, b, c⟩ := h
  refine ⟨hs, ⟨a.row, fun g e => Nat.lt_of_lt_of_le (a.lt g e) h1, h2⟩, fun i hi => ?_, c⟩
  obtain ⟨u, e, hu, hne⟩ := b i hi
  exact ⟨u, e, ⟨hu.row, fun g e => Nat.lt_of_lt_of_le (hu.lt g e) h1, h2⟩, hne⟩
/-- inner rows that were made one after the other behind block g0 -/
def FreshRows (w : World) (g0 : Nat) (ti : TypeId) (hs : List Value) (xss : List (List Value)) : Prop :=
  hs.length = xss.length ∧ ∀ i (h : i < xss.length), (xss[i]).length ≤ maxLen ∧ ∃ g, hs[i]? = some (.slice (some ⟨g, 0, none⟩) (xss[i]).length (xss[i]).length) ∧ g0 < g ∧ Blk w g ti xss[i] ∧ ∀ j u g', j < i → hs[j]? = some u → u.ownBlock = some g' → g' < g
theorem FreshRows.nil_ (w : World) (g0 : Nat) (ti : TypeId) : FreshRows w g0 ti [] [] := ⟨rfl, fun i h => by simp at h⟩
theorem FreshRows.later {w w' : World} {g0 : Nat} {ti : TypeId} {hs : List Value} {xss : List (List Value)} (h : FreshRows w g0 ti hs xss) (hb : Below w.heap.size w w') : FreshRows w' g0 ti hs xss := by
  refine ⟨h.1, fun i hi => ?_⟩
  obtain ⟨hm, g, e, hg, hblk, hj⟩ := h.2 i hi
  exact ⟨hm, g, e, hg, hblk.later hb, hj⟩
theorem FreshRows.far {w : World} {g0 : Nat} {ti : TypeId} {hs : List Value} {xss : List (List Value)} (h : FreshRows w g0 ti hs xss) (i : Nat) (v : Value) : FreshRows (w.setCell ⟨g0, i, none⟩ v) g0 ti hs xss := by
  refine ⟨h.1, fun j hj => ?_⟩
  obtain ⟨hm, g, e, hg, hblk, hk⟩ := h.2 j hj
  exact ⟨hm, g, e, hg, hblk.far (by show g ≠ g0; omega) v, hk⟩
theorem FreshRows.lt {w : World} {g0 : Nat} {ti : TypeId} {hs : List Value} {xss : List (List Value)} (h : FreshRows w g0 ti hs xss) {j : Nat} {u : Value} {g : Nat} (hj : hs[j]? = some u) (hg : u.ownBlock = some g) : g < w.heap.size := by
  have hjl : j < xss.length := by rw [← h.1]; exact (List.getElem?_eq_some_iff.1 hj).1
  obtain ⟨_, g', e, _, hblk, _⟩ := h.2 j hjl
  rw [hj] at e
  injection e with e
  rw [e] at hg
  simp [Value.ownBlock] at hg
  subst hg
  exact hblk.lt
theorem FreshRows.snoc {w w' : World} {g0 : Nat} {ti : TypeId} {hs : List Value} {xss : List (List Value)} {ys : List Value} (h : FreshRows w g0 ti hs xss) (hb : Below w.heap.size w w') (hg0 : g0 < w.heap.size) (hy : Blk w' w.heap.size ti ys) (hm : ys.length ≤ maxLen) :
    FreshRows w' g0 ti (hs ++ [.slice (some ⟨w.heap.size, 0, none⟩) ys.length ys.length]) (xss ++ [ys]) := by
  have hl := h.1
  refine ⟨by simp [h.1], fun i hi => ?_⟩
  rw [List.length_append, List.length_singleton] at hi
  by_cases hlt : i < xss.length
  · obtain ⟨hm, g, e, hg, hblk, hj⟩ := h.2 i hlt
    rw [List.getElem_append_left hlt]
    refine ⟨hm, g, ?_, hg, hblk.later hb, fun j u g' hji hu hg' => ?_⟩
    · rw [List.getElem?_append_left (by omega)]; exact e
    · rw [List.getElem?_append_left (by omega)] at hu
      exact hj j u g' hji hu hg'
  · obtain rfl : i = xss.length := by omega
    have e1 : (xss ++ [ys])[xss.length]'(by simp) = ys := by simp
    rw [e1]
    refine ⟨hm, w.heap.size, ?_, hg0, hy, fun j u g' hji hu hg' => ?_⟩
    · rw [List.getElem?_append_right (by omega), hl, Nat.sub_self]; rfl
    · rw [List.getElem?_append_left (by omega)] at hu
      exact h.lt hu hg'
theorem own_of_fresh {w : World} {g0 : Nat} {te ti : TypeId} {hs : List Value} {xss : List (List Value)} (h : FreshRows w g0 ti hs xss) (hb : Blk w g0 te hs) (hm : xss.length ≤ maxLen) :
    OwnRR w g0 w.heap.size te ti (.slice (some ⟨g0, 0, none⟩) xss.length xss.length) xss := by
  refine ⟨hs, blk_ownI hb (Nat.le_refl _) (by rw [h.1, Nat.mul_one]) hm, fun i hi => ?_, fun i j u u' g hij hu hu' hg e => ?_⟩
  · obtain ⟨hm2, g, e, hg, hblk, _⟩ := h.2 i hi
    refine ⟨_, e, blk_ownI hblk (by omega) (by rw [Nat.mul_one]) hm2, fun g' hg' => ?_⟩
    simp [Value.ownBlock] at hg' ⊢
    omega
  · have hj : j < xss.length := by rw [← h.1]; exact (List.getElem?_eq_some_iff.1 hu').1
    obtain ⟨_, g2, e2, _, _, hk⟩ := h.2 j hj
    have := hk i u g hij hu hg
    rw [hu'] at e2
    injection e2 with e2
    rw [e2] at e
    simp [Value.ownBlock] at e
    omega
theorem OwnRR.set_far {w : World} {lo hi : Nat} {te ti : TypeId} {v : Value} {xss : List (List Value)} (h : OwnRR w lo hi te ti v xss) (b i : Nat) (u : Value) (hb : b < lo) (ht : hi ≤ w.heap.size) : OwnRR (w.setCell ⟨b, i, none⟩ u) lo (w.setCell ⟨b, i, none⟩ u).heap.size te ti v xss :=
  (h.out (out_set (Out.refl b (b + 1) w) b i u (Nat.le_refl _) (by omega)) (.inr (by omega))).hi (by simp [World.setCell]; exact ht) (Nat.le_refl _)
/-- behind append(rows, row): the new row's block lies behind all others (from hi on) -/
theorem own_snoc {w w' : World} {lo hi : Nat} {te ti : TypeId} {v v' u : Value} {xss : List (List Value)} {ys hs : List Value} (h1 : OwnI w lo hi te 1 v xss.length hs)
    (h2 : ∀ i (h : i < xss.length), ∃ u, hs[i]? = some u ∧ OwnI w lo hi ti 1 u (xss[i]).length xss[i] ∧ (∀ g, u.ownBlock = some g → v.ownBlock ≠ some g))
    (h3 : ∀ (i j : Nat) (u u' : Value) (g : Nat), i < j → hs[i]? = some u → hs[j]? = some u' → u.ownBlock = some g → u'.ownBlock ≠ some g)
    (hu : w.ownsRow lo ti 1 u ys.length ys) (hge : ∀ g, u.ownBlock = some g → hi ≤ g)
    (hown : w'.ownsRow lo te 1 v' (xss.length + 1) (hs ++ [u])) (hg : w.grownBy w' v.ownBlock) (hb : v'.ownBlock = v.ownBlock ∨ v'.ownBlock = some (w.heap.size + 1)) :
    OwnRR w' lo w'.heap.size te ti v' (xss ++ [ys]) := by
  have hl := h1.row.1
  rw [Nat.mul_one] at hl
  have hvu : ∀ g, u.ownBlock = some g → v.ownBlock ≠ some g := fun g e e2 => by have := hge g e; have := h1.lt g e2; omega
  refine ⟨hs ++ [u], ⟨by rw [List.length_append]; exact hown, fun g e => (hown.lt g e).2, Nat.le_refl _⟩, fun i hi' => ?_, fun i j a b g hij ha hb' hga => ?_⟩
  · rw [List.length_append, List.length_singleton] at hi'
    by_cases hlt : i < xss.length
    · obtain ⟨a, ea, ha, hne⟩ := h2 i hlt
      rw [List.getElem_append_left hlt]
      refine ⟨a, by rw [List.getElem?_append_left (by omega)]; exact ea, ⟨ha.row.kept hg ?_, fun g e => Nat.lt_of_lt_of_le (ha.lt g e) (Nat.le_trans ha.top hg.size), Nat.le_refl _⟩, fun g e => ?_⟩
      · cases hab : a.ownBlock with
        | none => exact .inl rfl
        | some g => exact .inr fun e => hne g hab e.symm
      · rcases hb with h | h
        · rw [h]; exact hne g e
        · rw [h]
          have := ha.lt g e
          have := ha.top
          simp
          omega
    · obtain rfl : i = xss.length := by omega
      have e1 : (xss ++ [ys])[xss.length]'(by simp) = ys := by simp
      rw [e1]
      refine ⟨u, by rw [List.getElem?_append_right (by omega), hl, Nat.sub_self]; rfl, ⟨hu.kept hg ?_, fun g e => Nat.lt_of_lt_of_le (hu.lt g e).2 hg.size, Nat.le_refl _⟩, fun g e => ?_⟩
      · cases hab : u.ownBlock with
        | none => exact .inl rfl
        | some g => exact .inr fun e => hvu g hab e.symm
      · rcases hb with h | h
        · rw [h]; exact hvu g e
        · rw [h]
          have := (hu.lt g e).2
          simp
          omega
  · by_cases hjl : j < xss.length
    · rw [List.getElem?_append_left (by omega)] at ha
      rw [List.getElem?_append_left (by omega)] at hb'
      exact h3 i j a b g hij ha hb' hga
    · have hj2 : j < (hs ++ [u]).length := (List.getElem?_eq_some_iff.1 hb').1
      rw [List.length_append, List.length_singleton] at hj2
      obtain rfl : j = xss.length := by omega
      rw [List.getElem?_append_left (by omega)] at ha
      rw [List.getElem?_append_right (by omega), hl, Nat.sub_self] at hb'
      simp at hb'
      subst hb'
      intro e
      obtain ⟨a', ea, ha', _⟩ := h2 i (by omega)
      rw [ha] at ea
      injection ea with ea
      rw [← ea] at ha'
      have := ha'.lt g hga
      have := hge g e
      omega
theorem ownRR_nil {w : World} {lo hi g0 : Nat} {te ti : TypeId} (hb : Blk w g0 te []) (hlo : lo ≤ g0) (hhi : g0 < hi) (ht : hi ≤ w.heap.size) : OwnRR w lo hi te ti (.slice (some ⟨g0, 0, none⟩) 0 0) [] :=
  ⟨[], ⟨own_of_blk hb hlo rfl (by decide), fun g e => by simp [Value.ownBlock] at e; omega, ht⟩, fun i h => by simp at h, fun i j u u' g _ hi => by simp at hi⟩
theorem ownRR_none (w : World) (lo : Nat) (te ti : TypeId) : OwnRR w lo w.heap.size te ti (.slice none 0 0) [] :=
  ⟨[], ⟨World.ownsRow_nil _ _ _ _, fun g e => by simp [Value.ownBlock] at e, Nat.le_refl _⟩, fun i h => by simp at h, fun i j u u' g _ hi => by simp at hi⟩
end Go.Proofs.YtbllbpjlkechdaaGreat
end
section
/- Lists of lists of numbers: copying, comparing, their size, marking, reading the marks. -/
namespace Go.Proofs.YtbllbpjlkechdaaGreat
open Go Go.ChangeShapes Go.WideShapes Go.ChangeAt Go.RowKit
set_option linter.unusedVariables false
/-- lists of numbers as cells -/
def intss (ess : List (List Int)) : List (List Value) := ess.map ints
theorem intss_len (ess : List (List Int)) : (intss ess).length = ess.length := by simp [intss]
theorem intss_at (ess : List (List Int)) (k : Nat) (h : k < (intss ess).length) : (intss ess)[k] = ints (ess[k]'(by simpa [intss] using h)) := by simp [intss]
theorem ints_app (a b : List Int) : ints (a ++ b) = ints a ++ ints b := by simp [ints]
theorem ints_info : (Tryz.prog.info? 28).map (fun i => (i.zero, i.size, i.bytes)) = some (some (.slice none 0 0), 1, 24) := by kernel_rfl
theorem cp_snoc (z : Value) (hs : List Value) (k n : Nat) (h : hs.length = k) (hk : k < n) (u : Value) : (hs ++ List.replicate (n - k) z).set k u = (hs ++ [u]) ++ List.replicate (n - (k + 1)) z := by
  rw [List.set_append_right _ _ (by omega), h, Nat.sub_self]
  obtain ⟨m, hm⟩ : ∃ m, n - k = m + 1 := ⟨n - k - 1, by omega⟩
  have hm' : n - (k + 1) = m := by omega
  rw [hm, hm', List.replicate_succ, List.set_cons_zero, List.append_assoc]
  rfl
set_option maxHeartbeats 1000000 in
theorem toIntSS_any (A : Option Addr) (zss : List (List Int)) (n c : Nat) (hzn : zss.length = n) (w : World) (hr : RdRR w A (intss zss)) (hn : n ≤ 1048576) (hin : ∀ zs ∈ zss, zs.length ≤ 1048576) :
    Calls Tryz.prog 46 #[.slice A n c] w fun e w' => e = .returned (.slice (some ⟨w.heap.size, 0, none⟩) n n) ∧ OwnRR w' w.heap.size w'.heap.size 28 3 (.slice (some ⟨w.heap.size, 0, none⟩) n n) (intss zss) ∧ Below w.heap.size w w' := by
  have hmk := run_make_row' (P := Tryz.prog) 22 28 (.slice none 0 0) 24 Tryz.underlying22 ints_info rfl .i64 .i64 n (by omega) (by omega)
  rw [made_one] at hmk
  have HZ := Lib.hid hzn
  have HI := Lib.hid hin
  clear hzn hin
  go_enter Tryz.func46, Tryz.ntmps46
  go_wp2
  go_loopw [4] (fun i wr => ∃ (k : Nat) (hs : List Value), k ≤ n ∧ i = .int .i64 k ∧ Hid (hs.length = k) ∧ Blk wr w.heap.size 28 (hs ++ List.replicate (n - k) (.slice none 0 0)) ∧ FreshRows wr w.heap.size 3 hs (intss (zss.take k)) ∧ Below w.heap.size w wr) (fun i _ => n - (intOf i).toNat)
  case atStart => exact ⟨0, [], Nat.zero_le _, rfl, Lib.hid rfl, by simpa using Blk.new w 28 (List.replicate n (.slice none 0 0)), FreshRows.nil_ _ _ _, (Below.refl _ _).alloc (Nat.le_refl _) _⟩
  case round =>
    obtain ⟨k, hs, hk, rfl, HH, hblk, hfr, hb⟩ := hrel
    by_cases hlt : k < n
    · have hkz : k < zss.length := by rw [HZ.out]; exact hlt
      have hkl : k < (intss zss).length := by rw [intss_len]; exact hkz
      obtain ⟨b, off, rfl, hlb, B, c', hc, hle, hmx, hrB⟩ := hr.pos hkl
      have hsrc : wr.cell? ⟨b, off + k, none⟩ = some (.slice B ((intss zss)[k]).length c') := (hb.cell (p := ⟨b, off + k, none⟩) hlb).trans hc
      have hrB2 := hrB.below hb
      have HTK : Hid (intss (zss.take (k + 1)) = intss (zss.take k) ++ [ints zss[k]]) := Lib.hid (by rw [List.take_succ_eq_append_getElem hkz]; simp only [intss, List.map_append, List.map_cons, List.map_nil])
      have hml := HI.out zss[k] (List.getElem_mem hkz)
      rw [intss_at] at hrB2
      simp only [intss_at, ints_len] at hsrc
      generalize zss[k] = zs at *
      generalize hm : zs.length = m at *
      have HM := Lib.hid hm
      have hbl := hblk.lt
      clear hm hrB hc hle hmk
      go_wp2_with fail
      refine (toIntS_any B zs m c' HM.out _ hrB2 hml).mono ?_
      rintro e w2 ⟨rfl, hb2, hbel⟩
      have hblk2 := hblk.later hbel
      have hfr2 := hfr.snoc hbel hbl hb2 (by rw [ints_len, HM.out]; unfold maxLen; omega)
      rw [ints_len, HM.out, ← HTK.out] at hfr2
      have hdst : w2.cell? ⟨w.heap.size, k, none⟩ = some (.slice none 0 0) := by
        rw [hblk2.cell, List.getElem?_append_right (by rw [HH.out]; exact Nat.le_refl _), HH.out, Nat.sub_self, List.getElem?_replicate, if_pos (by omega)]
      have hfz : w2.frozen? ⟨w.heap.size, k, none⟩ = false := hblk2.frozen k
      have hset := hblk2.set_ k (.slice (some ⟨wr.heap.size, 0, none⟩) m m)
      rw [cp_snoc _ hs k n HH.out hlt] at hset
      have hfr3 := hfr2.far k (.slice (some ⟨wr.heap.size, 0, none⟩) m m)
      have hb3 := hb.trans (hbel.mono hb.size)
      go_wp2_with fail
      go_roundw
      case rel => exact ⟨k + 1, _, by omega, by go_num, Lib.hid (by rw [List.length_append, HH.out]; rfl), hset, hfr3, hb3.setCell (Nat.le_refl _) _⟩
      case measure => simp [intOf]; omega
    · go_wp2_with fail
      go_ret
      obtain rfl : k = n := by omega
      rw [Nat.sub_self, List.replicate_zero, List.append_nil] at hblk
      rw [List.take_of_length_le (by rw [HZ.out]; exact Nat.le_refl _)] at hfr
      have := own_of_fresh hfr hblk (by rw [intss_len, HZ.out]; unfold maxLen; omega)
      rw [intss_len, HZ.out] at this
      exact ⟨rfl, this, hb⟩
set_option maxHeartbeats 1000000 in
theorem eqIntSS_any (A B : Option Addr) (zss : List (List Int)) (n c d : Nat) (hzn : zss.length = n) (w : World) (ha : RdRR w A (intss zss)) (hb : RdRR w B (intss zss)) (hn : n ≤ 1099511627776) (hin : ∀ zs ∈ zss, zs.length ≤ 1099511627776) :
    Calls Tryz.prog 52 #[.slice A n c, .slice B n d] w fun e w' => e = .returned (.bool true) ∧ Below w.heap.size w w' := by
  have HZ := Lib.hid hzn
  have HI := Lib.hid hin
  clear hzn hin
  have hne : ((n : Int) != (n : Int)) = false := by simp
  go_enter Tryz.func52, Tryz.ntmps52
  go_wp2
  go_loopw [5] (fun i wr => ∃ k : Nat, k ≤ n ∧ i = .int .i64 k ∧ Below w.heap.size w wr) (fun i _ => n - (intOf i).toNat)
  case atStart => exact ⟨0, Nat.zero_le _, rfl, Below.refl _ _⟩
  case round =>
    obtain ⟨k, hk, rfl, hbl⟩ := hrel
    by_cases hlt : k < n
    · have hkz : k < zss.length := by rw [HZ.out]; exact hlt
      have hkl : k < (intss zss).length := by rw [intss_len]; exact hkz
      obtain ⟨b1, o1, rfl, hl1, B1, c1, hc1, hle1, hmx1, hr1⟩ := ha.pos hkl
      obtain ⟨b2, o2, rfl, hl2, B2, c2, hc2, hle2, hmx2, hr2⟩ := hb.pos hkl
      have h1 : wr.cell? ⟨b1, o1 + k, none⟩ = some (.slice B1 ((intss zss)[k]).length c1) := (hbl.cell (p := ⟨b1, o1 + k, none⟩) hl1).trans hc1
      have h2 : wr.cell? ⟨b2, o2 + k, none⟩ = some (.slice B2 ((intss zss)[k]).length c2) := (hbl.cell (p := ⟨b2, o2 + k, none⟩) hl2).trans hc2
      have hr1' := hr1.below hbl
      have hr2' := hr2.below hbl
      rw [intss_at] at hr1' hr2'
      simp only [intss_at, ints_len] at h1 h2
      have hml := HI.out zss[k] (List.getElem_mem hkz)
      generalize zss[k] = zs at *
      generalize hm : zs.length = m at *
      have HM := Lib.hid hm
      have hki : (k : Int) < (n : Int) := by omega
      clear hm hr1 hr2 hc1 hc2
      go_wp2_with fail
      go_region_held3 (fun w' => Below wr.heap.size wr w' ∧ w'.cell? ⟨b1, o1 + k, none⟩ = some (.slice B1 m c1) ∧ w'.cell? ⟨b2, o2 + k, none⟩ = some (.slice B2 m c2)) (first | exact ⟨Below.refl _ _, by assumption, by assumption⟩ | exact ⟨Below.drew (Below.refl _ _), by assumption, by assumption⟩ | (exact ⟨hbq, (hbq.cell (p := ⟨b1, o1 + k, none⟩) (Nat.lt_of_lt_of_le hl1 hbl.size)).trans h1, (hbq.cell (p := ⟨b2, o2 + k, none⟩) (Nat.lt_of_lt_of_le hl2 hbl.size)).trans h2⟩))
        (first | (go_at_call 29; (with_reducible refine (eqIntS_any B1 B2 zs m c1 c2 HM.out _ hr1'.drew hr2'.drew (by omega)).mono ?_); rintro e w2 ⟨rfl, hbq0⟩; have hbq : Below wr.heap.size wr w2 := ⟨hbq0.os, hbq0.tape, hbq0.output, hbq0.size, hbq0.block⟩))
      all_goals
        go_wp2_with fail
        go_roundw
        case rel => exact ⟨k + 1, by omega, by go_num, hbl.trans (hbq.mono hbl.size)⟩
        case measure => simp [intOf]; omega
    · go_wp2_with fail
      go_ret
      exact ⟨rfl, hbl⟩
set_option maxHeartbeats 1000000 in
theorem szIntS_any (A : Option Addr) (n c : Nat) (w : World) (hm : n ≤ 9223372036854775807) (l : Int) (h0 : 0 ≤ l) (h1 : l ≤ 1048576) :
    Calls Tryz.prog 14 #[.slice A n c, .int .i64 l] w (RInt fun r w' => r ≤ l ∧ (0 ≤ r → r = l - (n : Int)) ∧ w = w') := by
  by_cases hn : (n : Int) ≤ l
  · go_enter Tryz.func14, Tryz.ntmps14
    go_wp2
    go_ret
    exact RInt.mk ⟨by omega, fun _ => rfl, rfl⟩
  · go_enter Tryz.func14, Tryz.ntmps14
    go_wp2
    go_ret
    exact RInt.mk ⟨by omega, fun h => by omega, rfl⟩
def totI (l : List (List Int)) : Nat := (l.map List.length).sum
theorem totI_snoc (l : List (List Int)) (r : List Int) : totI (l ++ [r]) = totI l + r.length := by simp [totI]
set_option maxHeartbeats 1000000 in
theorem szIntSS_any (A : Option Addr) (zss : List (List Int)) (n c : Nat) (hzn : zss.length = n) (w : World) (hr : RdRR w A (intss zss)) (hm : n ≤ 9223372036854775807) (l : Int) (h0 : 0 ≤ l) (h1 : l ≤ 1048576) :
    Calls Tryz.prog 44 #[.slice A n c, .int .i64 l] w (RInt fun r w' => r ≤ l ∧ (0 ≤ r → (n : Int) + (totI zss : Int) + r = l) ∧ w = w') := by
  have HZ := Lib.hid hzn
  clear hzn
  by_cases hn : (n : Int) ≤ l
  · go_enter Tryz.func44, Tryz.ntmps44
    go_wp2
    go_loop [1, 5] (fun q i => ∃ (k : Nat) (m : Int), k ≤ n ∧ i = .int .i64 k ∧ q = .int .i64 m ∧ 0 ≤ m ∧ m ≤ l ∧ Hid ((n : Int) + (totI (zss.take k) : Int) + m = l)) (fun _ i => n - (intOf i).toNat)
    case atStart => exact ⟨0, _, Nat.zero_le _, rfl, rfl, by omega, by omega, Lib.hid (by simp [totI]; omega)⟩
    case round =>
      obtain ⟨k, m, hk, rfl, rfl, hm0, hm1, HJ⟩ := hrel
      by_cases hlt : k < n
      · have hkz : k < zss.length := by rw [HZ.out]; exact hlt
        have hkl : k < (intss zss).length := by rw [intss_len]; exact hkz
        obtain ⟨b, o, rfl, hl, B, c', hcell, hle, hmx, hrB⟩ := hr.pos hkl
        simp only [intss_at, ints_len] at hcell hle
        have hts : totI (zss.take (k + 1)) = totI (zss.take k) + (zss[k]).length := by rw [List.take_succ_eq_append_getElem hkz, totI_snoc]
        unfold maxLen at hmx
        generalize zss[k] = zs at *
        have HTS := Lib.hid hts
        generalize hm' : zs.length = q at *
        clear hts hm' hrB
        go_wp2_with fail
        refine (szIntS_any B q c' _ (by omega) m hm0 (by omega)).mono ?_
        rintro e w' ⟨r, rfl, hr1, hr2, rfl⟩
        have HR := Lib.hid hr2
        clear hr2
        by_cases hgo : 0 ≤ r
        · go_wp2_with fail
          go_round
          case rel => exact ⟨k + 1, r, by omega, by go_num, rfl, by omega, by omega, Lib.hid (by
            have := HR.out hgo
            have := HJ.out
            rw [HTS.out]
            omega)⟩
          case measure => simp [intOf]; omega
        · go_wp2_with fail
          go_ret
          exact RInt.mk ⟨by omega, fun h => by omega, rfl⟩
      · obtain rfl : k = n := by omega
        have htl : zss.take k = zss := List.take_of_length_le (by rw [HZ.out]; exact Nat.le_refl _)
        rw [htl] at HJ
        clear htl
        go_wp2_with fail
        go_ret
        exact RInt.mk ⟨hm1, fun _ => HJ.out, rfl⟩
  · go_enter Tryz.func44, Tryz.ntmps44
    go_wp2
    go_ret
    exact RInt.mk ⟨by omega, fun h => by omega, rfl⟩
/-- marked rows -/
def mkRI : Nat → List (List Int) → List (List Int)
  | _, [] => []
  | k, r :: rs => marksI (k : Int) r.length :: mkRI (k + r.length) rs
theorem mkRI_len (k : Nat) (l : List (List Int)) : (mkRI k l).length = l.length := by
  induction l generalizing k with
  | nil => rfl
  | cons r rs ih => simp [mkRI, ih]
theorem totI_cons (r : List Int) (l : List (List Int)) : totI (r :: l) = r.length + totI l := by simp [totI]
theorem mkRI_snoc (k : Nat) (l : List (List Int)) (r : List Int) : mkRI k (l ++ [r]) = mkRI k l ++ [marksI ((k + totI l : Nat) : Int) r.length] := by
  induction l generalizing k with
  | nil => simp [mkRI, totI]
  | cons a l ih =>
    simp only [List.cons_append, mkRI, ih, totI_cons]
    rw [Nat.add_assoc]
theorem totI_take (l : List (List Int)) (j : Nat) : totI (l.take j) ≤ totI l := by
  induction l generalizing j with
  | nil => simp
  | cons a l ih =>
    cases j with
    | zero => simp [totI]
    | succ j =>
      simp only [List.take_succ_cons, totI_cons]
      have := ih j
      omega
theorem mkRI_at (k : Nat) (l : List (List Int)) (j : Nat) (h : j < (mkRI k l).length) (h' : j < l.length) : (mkRI k l)[j] = marksI ((k + totI (l.take j) : Nat) : Int) (l[j]).length := by
  induction l generalizing k j with
  | nil => simp at h'
  | cons a l ih =>
    cases j with
    | zero => simp [mkRI, totI]
    | succ j =>
      simp only [mkRI, List.getElem_cons_succ, List.take_succ_cons, totI_cons]
      rw [ih (k + a.length) j (by simpa [mkRI] using h) (by simpa using h')]
      rw [Nat.add_assoc]
theorem intss_app (a b : List (List Int)) : intss (a ++ b) = intss a ++ intss b := by simp [intss]
end Go.Proofs.YtbllbpjlkechdaaGreat
end
section
/- Numbers in a range, numbers that are ids. -/
namespace Go.Proofs.YtbllbpjlkechdaaGreat
open Go Go.ChangeShapes Go.WideShapes Go.ChangeAt Go.RowKit
theorem within_true (a lo hi : Int) (w : World) (h1 : lo ≤ a) (h2 : a ≤ hi) : Calls Tryz.prog 65 #[.int .i64 a, .int .i64 lo, .int .i64 hi] w fun r w' => r = .returned (.bool true) ∧ w = w' := by
  go_enter Tryz.func65, Tryz.ntmps65
  go_wp2
  go_ret
  exact ⟨rfl, rfl⟩
theorem within_false (a lo hi : Int) (w : World) (h : a < lo ∨ hi < a) : Calls Tryz.prog 65 #[.int .i64 a, .int .i64 lo, .int .i64 hi] w fun r w' => r = .returned (.bool false) ∧ w = w' := by
  by_cases h1 : lo ≤ a
  · have h2 : decide (a ≤ hi) = false := decide_eq_false (by omega)
    clear h
    go_enter Tryz.func65, Tryz.ntmps65
    go_wp2
    go_ret
    exact ⟨rfl, rfl⟩
  · clear h
    go_enter Tryz.func65, Tryz.ntmps65
    go_wp2
    go_ret
    exact ⟨rfl, rfl⟩
theorem l1In_true (a lo hi : Int) (w : World) (h1 : lo ≤ a) (h2 : a ≤ hi) : Calls Tryz.prog 56 #[.int .i64 a, .int .i64 lo, .int .i64 hi] w fun r w' => r = .returned (.bool true) ∧ w = w' := by
  go_enter Tryz.func56, Tryz.ntmps56
  go_wp2
  go_ret
  exact ⟨rfl, rfl⟩
theorem l1In_false (a lo hi : Int) (w : World) (h : a < lo ∨ hi < a) : Calls Tryz.prog 56 #[.int .i64 a, .int .i64 lo, .int .i64 hi] w fun r w' => r = .returned (.bool false) ∧ w = w' := by
  by_cases h1 : lo ≤ a
  · have h2 : decide (a ≤ hi) = false := decide_eq_false (by omega)
    clear h
    go_enter Tryz.func56, Tryz.ntmps56
    go_wp2
    go_ret
    exact ⟨rfl, rfl⟩
  · clear h
    go_enter Tryz.func56, Tryz.ntmps56
    go_wp2
    go_ret
    exact ⟨rfl, rfl⟩
theorem isId_true (a : Int) (w : World) (h1 : 1 ≤ a) (h2 : a ≤ 999) : Calls Tryz.prog 71 #[.int .i64 a] w fun r w' => r = .returned (.bool true) ∧ w = w' := by
  go_enter Tryz.func71, Tryz.ntmps71
  go_wp2_with (go_at_call 65; refine (within_true _ _ _ _ h1 h2).mono ?_; rintro e w' ⟨rfl, rfl⟩)
  go_ret
  exact ⟨rfl, rfl⟩
theorem isId_false (a : Int) (w : World) (h : a < 1 ∨ 999 < a) : Calls Tryz.prog 71 #[.int .i64 a] w fun r w' => r = .returned (.bool false) ∧ w = w' := by
  have H := Lib.hid h
  clear h
  go_enter Tryz.func71, Tryz.ntmps71
  go_wp2_with (go_at_call 65; refine (within_false _ _ _ _ H.out).mono ?_; rintro e w' ⟨rfl, rfl⟩)
  go_ret
  exact ⟨rfl, rfl⟩
theorem within_some (a lo hi : Int) (w : World) : Calls Tryz.prog 65 #[.int .i64 a, .int .i64 lo, .int .i64 hi] w (RBool fun _ w' => w = w') := by
  by_cases h : lo ≤ a ∧ a ≤ hi
  · exact (within_true a lo hi w h.1 h.2).mono (by rintro e w' ⟨rfl, rfl⟩; exact RBool.mk rfl)
  · exact (within_false a lo hi w (by omega)).mono (by rintro e w' ⟨rfl, rfl⟩; exact RBool.mk rfl)
theorem isId_some (a : Int) (w : World) : Calls Tryz.prog 71 #[.int .i64 a] w (RBool fun _ w' => w = w') := by
  by_cases h : 1 ≤ a ∧ a ≤ 999
  · exact (isId_true a w h.1 h.2).mono (by rintro e w' ⟨rfl, rfl⟩; exact RBool.mk rfl)
  · exact (isId_false a w (by omega)).mono (by rintro e w' ⟨rfl, rfl⟩; exact RBool.mk rfl)
end Go.Proofs.YtbllbpjlkechdaaGreat
end
