/- Several texts of the proof in one; each says at its head what it proves; no condition. -/
import Derived.Test.YtbllbpjlkechdaaGreatMg1
import Derived.Test.YtbllbpjlkechdaaGreatMg3
import Derived.Shelf.SlIterI.Sorted
import Derived.Shelf.SortM.Plain
import Derived.Shelf.SortM.SortNone
import Derived.Ground.GgzProg
import Derived.Ground.SlgmProg
import Derived.Test.YtbllbpjlkechdaaGreatProg
import Derived.Test.YtbllbpjlkechdaaGreatMg2
import Derived.Lib.AppendZeros
import Derived.Maps.OwnSet
import Derived.Maps.OwnOps
import Derived.Maps.Views
import Derived.Maps.Keyed
import Derived.Carry
section
/- Terminals, in plain words. -/
namespace Go.Proofs.YtbllbpjlkechdaaGreat
set_option linter.unusedVariables false
/-- a terminal is valid; ids: the ids of its yard -/
def termOk (high : Int) (rows : List (List Int)) (h : HullV) (bs : List BoxV) (plan : List Int) (p : PapV) : Bool :=
  (((yardOk high rows && planOk h bs plan) && papOkV p) && decide (nearN h bs plan = 0)) && (rows.flatten.all (fun id => (hasF bs id && !hasI plan id) && !hasI p.ls id) && plan.all fun id => !hasI p.ls id)
theorem leftGo_pos : ∀ (ls : List Int) (a : Int), leftGo a ls = true → ∀ x ∈ ls, 1 ≤ x
  | [], _, _, x, hx => by cases hx
  | y :: r, a, h, x, hx => by
    simp only [leftGo, Bool.and_eq_true, idI, decide_eq_true_eq] at h
    rcases List.mem_cons.1 hx with rfl | hx
    · exact h.1.1.1
    · exact leftGo_pos r y h.2 x hx
theorem papOk_zero {p : PapV} (h : papOkV p = true) : hasI p.ls 0 = false := by
  simp only [papOkV, papOk, Bool.and_eq_true] at h
  have := leftGo_pos p.ls 0 h.1.2
  rw [hasI, Bool.eq_false_iff]
  intro hc
  have := this 0 (by simpa using hc)
  omega
/-- where a box is -/
def termWhere (high : Int) (rows : List (List Int)) (h : HullV) (bs : List BoxV) (plan : List Int) (p : PapV) (id : Int) : Int :=
  if termOk high rows h bs plan p && hasF bs id then (if hasI rows.flatten id then 1 else if hasI plan id then 2 else if hasI p.ls id then 3 else 0) else -1
/-- may a box of the yard stand there -/
def idGood (bs : List BoxV) (plan ls : List Int) (id : Int) : Bool := (hasF bs id && !hasI plan id) && !hasI ls id
theorem termOk_yard {high : Int} {rows : List (List Int)} {h : HullV} {bs : List BoxV} {plan : List Int} {p : PapV} (e : yardOk high rows = false) : termOk high rows h bs plan p = false := by simp [termOk, e]
theorem termOk_plan {high : Int} {rows : List (List Int)} {h : HullV} {bs : List BoxV} {plan : List Int} {p : PapV} (e : planOk h bs plan = false) : termOk high rows h bs plan p = false := by simp [termOk, e]
theorem termOk_pap {high : Int} {rows : List (List Int)} {h : HullV} {bs : List BoxV} {plan : List Int} {hs : List HoldV} {ls : List Int} (e : papOk hs ls = false) : termOk high rows h bs plan ⟨hs, ls⟩ = false := by simp [termOk, papOkV, e]
theorem termOk_near {high : Int} {rows : List (List Int)} {h : HullV} {bs : List BoxV} {plan : List Int} {p : PapV} (e : 0 < nearN h bs plan) : termOk high rows h bs plan p = false := by
  have : decide (nearN h bs plan = 0) = false := decide_eq_false (by omega)
  simp [termOk, this]
theorem termOk_rest {high : Int} {rows : List (List Int)} {h : HullV} {bs : List BoxV} {plan : List Int} {hs : List HoldV} {ls : List Int} (e1 : yardOk high rows = true) (e2 : planOk h bs plan = true) (e3 : papOk hs ls = true) (e4 : nearN h bs plan = 0) :
    termOk high rows h bs plan ⟨hs, ls⟩ = (rows.flatten.all (idGood bs plan ls) && !plan.any (hasI ls)) := by
  have hq : (plan.all fun id => !hasI ls id) = !plan.any (hasI ls) := by
    rw [List.not_any_eq_all_not]
  have hr : rows.flatten.all (idGood bs plan ls) = rows.flatten.all (fun id => (hasF bs id && !hasI plan id) && !hasI ls id) := rfl
  rw [termOk, e1, e2, papOkV, e3, e4, hr, ← hq]
  rfl
theorem all_mem {zs ys : List Int} (f : Int → Bool) (h : ∀ b, b ∈ zs ↔ b ∈ ys) : zs.all f = ys.all f := by
  rw [Bool.eq_iff_iff, List.all_eq_true, List.all_eq_true]
  exact ⟨fun H b hb => H b ((h b).2 hb), fun H b hb => H b ((h b).1 hb)⟩
theorem all_bad {zs : List Int} {f : Int → Bool} {k : Nat} (h : k < zs.length) (hx : f zs[k] = false) : zs.all f = false := by
  rw [List.all_eq_false]
  exact ⟨zs[k], List.getElem_mem h, by simp [hx]⟩
theorem all_step {zs : List Int} {f : Int → Bool} {k : Nat} (h : k < zs.length) (h0 : (zs.take k).all f = true) (hx : f zs[k] = true) : (zs.take (k + 1)).all f = true := by
  rw [List.take_succ_eq_append_getElem h, List.all_append, h0]
  simp [hx]
end Go.Proofs.YtbllbpjlkechdaaGreat
end
section
/- slices.Sorted(slices.Values(xs)) at []int: the numbers of xs, sorted, in new memory; no condition but that xs can be read and is not too long. -/
namespace Go.Proofs.YtbllbpjlkechdaaGreat
open Go Go.RowKit Go.Maps Go.Sort Go.Shelf
set_option linter.unusedVariables false
def Tryz.apSeqA_ren : Go.Shelf.Ren := ⟨fun | 11 => 95 | n => n, fun | 24 => 28 | 26 => 3 | 28 => 105 | 0 => 0 | 33 => 74 | 4 => 4 | n => n, fun | n => n⟩
theorem Tryz.apSeqA : Go.Proofs.SlLaysZI.n11 Tryz.prog Tryz.apSeqA_ren := {
  mixed := by kernel_rfl
  f11 := ⟨ "slices.AppendSeq[[]int,int]", by decide, Tryz.func95.trans (congrArg some (by kernel_rfl))⟩
  t0 := Tryz.underlying0
  a0 := Tryz.isAgg0
  z0 := Tryz.sizeOf0
  v0 := Tryz.zeroValue0
  t24 := Tryz.underlying28
  a24 := Tryz.isAgg28
  z24 := Tryz.sizeOf28
  v24 := Tryz.zeroValue28
  t26 := Tryz.underlying3
  a26 := Tryz.isAgg3
  z26 := Tryz.sizeOf3
  v26 := Tryz.zeroValue3
  t28 := Tryz.underlying105
  a28 := Tryz.isAgg105
  z28 := Tryz.sizeOf105
  v28 := Tryz.zeroValue105
  i26 := by kernel_rfl }
def Tryz.sortA_ren : Go.Shelf.Ren := ⟨fun | 5 => 92 | 8 => 97 | 7 => 96 | 19 => 107 | 20 => 108 | 10 => 98 | 11 => 99 | 12 => 100 | 13 => 101 | 14 => 102 | 15 => 103 | 16 => 104 | 17 => 105 | 18 => 106 | 30 => 109 | 31 => 110 | 32 => 111 | 33 => 112 | 34 => 113 | 35 => 114 | 40 => 115 | n => n, fun | 23 => 28 | 25 => 3 | 3 => 3 | 32 => 123 | 22 => 28 | 0 => 0 | 44 => 134 | 46 => 136 | 4 => 4 | 36 => 126 | 35 => 125 | 41 => 131 | 5 => 5 | 9 => 9 | 53 => 137 | 57 => 141 | 63 => 143 | 64 => 144 | n => n, fun | n => n⟩
theorem Tryz.sortA : Go.Proofs.SlLaysM.n5 Tryz.prog Tryz.sortA_ren := {
  mixed := by kernel_rfl
  f5 := ⟨ "slices.Sort[[]int,int]", by decide, Tryz.func92.trans (congrArg some (by kernel_rfl))⟩
  f7 := ⟨ "slices.pdqsortOrdered[int]", by decide, Tryz.func96.trans (congrArg some (by kernel_rfl))⟩
  f8 := Tryz.func97.trans (congrArg some (by kernel_rfl))
  f10 := ⟨ "slices.insertionSortOrdered[int]", by decide, Tryz.func98.trans (congrArg some (by kernel_rfl))⟩
  f11 := ⟨ "slices.heapSortOrdered[int]", by decide, Tryz.func99.trans (congrArg some (by kernel_rfl))⟩
  f12 := ⟨ "slices.breakPatternsOrdered[int]", by decide, Tryz.func100.trans (congrArg some (by kernel_rfl))⟩
  f13 := ⟨ "slices.choosePivotOrdered[int]", by decide, Tryz.func101.trans (congrArg some (by kernel_rfl))⟩
  f14 := ⟨ "slices.reverseRangeOrdered[int]", by decide, Tryz.func102.trans (congrArg some (by kernel_rfl))⟩
  f15 := ⟨ "slices.partialInsertionSortOrdered[int]", by decide, Tryz.func103.trans (congrArg some (by kernel_rfl))⟩
  f16 := ⟨ "cmp.Less[int]", by decide, Tryz.func104.trans (congrArg some (by kernel_rfl))⟩
  f17 := ⟨ "slices.partitionEqualOrdered[int]", by decide, Tryz.func105.trans (congrArg some (by kernel_rfl))⟩
  f18 := ⟨ "slices.partitionOrdered[int]", by decide, Tryz.func106.trans (congrArg some (by kernel_rfl))⟩
  f19 := Tryz.func107.trans (congrArg some (by kernel_rfl))
  f20 := Tryz.func108.trans (congrArg some (by kernel_rfl))
  f30 := ⟨ "slices.siftDownOrdered[int]", by decide, Tryz.func109.trans (congrArg some (by kernel_rfl))⟩
  f31 := Tryz.func110.trans (congrArg some (by kernel_rfl))
  f32 := Tryz.func111.trans (congrArg some (by kernel_rfl))
  f33 := ⟨ "slices.medianAdjacentOrdered[int]", by decide, Tryz.func112.trans (congrArg some (by kernel_rfl))⟩
  f34 := ⟨ "slices.medianOrdered[int]", by decide, Tryz.func113.trans (congrArg some (by kernel_rfl))⟩
  f35 := ⟨ "cmp.isNaN[int]", by decide, Tryz.func114.trans (congrArg some (by kernel_rfl))⟩
  f40 := ⟨ "slices.order2Ordered[int]", by decide, Tryz.func115.trans (congrArg some (by kernel_rfl))⟩
  t0 := Tryz.underlying0
  a0 := Tryz.isAgg0
  z0 := Tryz.sizeOf0
  v0 := Tryz.zeroValue0
  t3 := Tryz.underlying3
  a3 := Tryz.isAgg3
  z3 := Tryz.sizeOf3
  v3 := Tryz.zeroValue3
  t4 := Tryz.underlying4
  a4 := Tryz.isAgg4
  z4 := Tryz.sizeOf4
  v4 := Tryz.zeroValue4
  t5 := Tryz.underlying5
  a5 := Tryz.isAgg5
  z5 := Tryz.sizeOf5
  v5 := Tryz.zeroValue5
  t9 := Tryz.underlying9
  a9 := Tryz.isAgg9
  z9 := Tryz.sizeOf9
  v9 := Tryz.zeroValue9
  t22 := Tryz.underlying28
  a22 := Tryz.isAgg28
  z22 := Tryz.sizeOf28
  v22 := Tryz.zeroValue28
  t23 := Tryz.underlying28
  a23 := Tryz.isAgg28
  z23 := Tryz.sizeOf28
  v23 := Tryz.zeroValue28
  t25 := Tryz.underlying3
  a25 := Tryz.isAgg3
  z25 := Tryz.sizeOf3
  v25 := Tryz.zeroValue3
  t32 := Tryz.underlying123
  a32 := Tryz.isAgg123
  z32 := Tryz.sizeOf123
  v32 := Tryz.zeroValue123
  t35 := Tryz.underlying125
  a35 := Tryz.isAgg125
  z35 := Tryz.sizeOf125
  v35 := Tryz.zeroValue125
  t36 := Tryz.underlying126
  a36 := Tryz.isAgg126
  z36 := Tryz.sizeOf126
  v36 := Tryz.zeroValue126
  t41 := Tryz.underlying131
  a41 := Tryz.isAgg131
  z41 := Tryz.sizeOf131
  v41 := Tryz.zeroValue131
  t44 := Tryz.underlying134
  a44 := Tryz.isAgg134
  z44 := Tryz.sizeOf134
  v44 := Tryz.zeroValue134
  t46 := Tryz.underlying136
  a46 := Tryz.isAgg136
  z46 := Tryz.sizeOf136
  v46 := Tryz.zeroValue136
  t53 := Tryz.underlying137
  a53 := Tryz.isAgg137
  z53 := Tryz.sizeOf137
  v53 := Tryz.zeroValue137
  t57 := Tryz.underlying141
  a57 := Tryz.isAgg141
  z57 := Tryz.sizeOf141
  v57 := Tryz.zeroValue141
  t63 := Tryz.underlying143
  a63 := Tryz.isAgg143
  z63 := Tryz.sizeOf143
  v63 := Tryz.zeroValue143
  t64 := Tryz.underlying144
  a64 := Tryz.isAgg144
  z64 := Tryz.sizeOf144
  v64 := Tryz.zeroValue144 }
set_option maxRecDepth 100000 in
set_option maxHeartbeats 1000000 in
/-- the iterator: the numbers come one by one, as long as the caller leaves what lay there -/
theorem values1_in (m l b : Nat) (A : Option Addr) (n c : Nat) (zs : List Int) (hn : zs.length = n) (hm : n ≤ 1048576) (J : List Int → World → Prop) (w : World) (hc : w.cell? ⟨b, 0, none⟩ = some (.slice A n c)) (hb : b < w.heap.size) (hr : RdV w A (ints zs))
    (hJ : ∀ s W, J s W → Below w.heap.size w W)
    (hY : ∀ pre x W, J pre W → pre.length < n → YieldAt Fence.wide (m - 1) Tryz.prog l #[encZ x] W fun e W' => e = .returned (.bool true) ∧ J (pre ++ [x]) W' ∧ KeepsWalks W W')
    (W : World) (h0 : J [] W) :
    CallsIn Fence.wide m Tryz.prog 93 #[.func (.yield l) #[] #[], .pointer (some ⟨b, 0, none⟩)] W fun e W' => (∃ v, e = .returned v) ∧ J zs W' := by
  have HN := Lib.hid hn
  have hcW : W.cell? ⟨b, 0, none⟩ = some (.slice A n c) := ((hJ _ _ h0).cell (p := ⟨b, 0, none⟩) hb).trans hc
  clear hn
  refine callsIn_of_wp Tryz.func93 rfl trivial ?_ rfl
  simp only [Tryz.ntmps93, List.size_toArray, List.length_cons, List.length_nil, Nat.reduceAdd, Nat.reduceSub, Array.replicate_succ, Array.replicate_zero, List.push_toArray, List.append_toArray, List.nil_append, List.cons_append]
  gi_wp2
  gi_loopw [7, 4] (fun i _ wr => ∃ k : Nat, k ≤ n ∧ i = .int .i64 k ∧ J (zs.take k) wr) (fun i _ _ => n - (intOf i).toNat)
  case atStart => exact ⟨0, Nat.zero_le _, rfl, by simpa using h0⟩
  case round =>
    obtain ⟨k, hk, rfl, hJk⟩ := hrel
    by_cases hlt : k < n
    · have hkz : k < zs.length := by rw [HN.out]; exact hlt
      have hkl : k < (ints zs).length := by rw [ints_len]; exact hkz
      obtain ⟨b1, o, rfl, hl, hcc⟩ := (hr.below (hJ _ _ hJk)).pos hkl
      have h1 := hcc k hkl
      rw [ints_at] at h1
      have HS : Hid (zs.take (k + 1) = zs.take k ++ [zs[k]]) := Lib.hid (List.take_succ_eq_append_getElem hkz)
      obtain ⟨fn, tmps, assign, body, hy, hR⟩ := hY (zs.take k) zs[k] wr hJk (by rw [List.length_take]; omega)
      generalize zs[k] = x at *
      have hki : (k : Int) < (n : Int) := by omega
      clear hcc
      gi_wp2
      refine ⟨fun h => absurd h (by decide), hR.mono ?_⟩
      rintro e W3 ⟨rfl, hJ3, hk3⟩
      gi_wp2
      go_roundw
      case rel => exact ⟨k + 1, by omega, by go_num, by rw [HS.out]; exact hJ3⟩
      case measure => simp [intOf]; omega
    · obtain rfl : k = n := by omega
      have HE : Hid (zs.take k = zs) := Lib.hid (List.take_of_length_le (by rw [HN.out]; exact Nat.le_refl _))
      rw [HE.out] at hJk
      gi_wp2
      go_end0
      exact ⟨⟨_, rfl⟩, hJk⟩
set_option maxRecDepth 100000 in
set_option maxHeartbeats 2000000 in
/-- the loop over the iterator appends what comes -/
theorem appendSeq_vals (b : Nat) (A : Option Addr) (n c : Nat) (zs : List Int) (hn : zs.length = n) (hm : n ≤ 1048576) (w : World) (hc : w.cell? ⟨b, 0, none⟩ = some (.slice A n c)) (hb : b < w.heap.size) (hr : RdV w A (ints zs)) :
    CallsIn Fence.wide 6 Tryz.prog 95 #[.slice none 0 0, .func (.func 93) #[] #[.pointer (some ⟨b, 0, none⟩)]] w fun e w' => ∃ v, e = .returned v ∧ w'.ownsRow w.heap.size 3 1 v n (ints zs) ∧ Below w.heap.size w w' := by
  have hne : 28 ≠ 3 := by decide
  refine callsIn_of_wp_marks Tryz.func95 rfl trivial ?_ rfl
  simp only [Tryz.ntmps95, List.size_toArray, List.length_cons, List.length_nil, Nat.reduceAdd, Nat.reduceSub, Array.replicate_succ, Array.replicate_zero, List.push_toArray, List.append_toArray, List.nil_append, List.cons_append]
  gi_wp2
  refine wpIn_rangeFunc ?_
  intro fn hfn
  -- the box of the slice, the loop's record and its list of deferred calls
  have hs : (w.alloc (.cells #[.slice none 0 0] 28)).heap.size = w.heap.size + 1 := by simp
  have box0 : (w.alloc (.cells #[.slice none 0 0] 28)).heap[w.heap.size]? = some (.cells #[.slice none 0 0] 28 (0, 0)) := World.alloc_heap_new w _
  have bel0 : Below w.heap.size w (w.alloc (.cells #[.slice none 0 0] 28)) := (Below.refl _ w).alloc (Nat.le_refl _) _
  generalize w.alloc (.cells #[.slice none 0 0] 28) = U at *
  have hseq : ∀ l D W, w.heap.size ≤ l → w.heap.size ≠ l → D ≠ l → D ≠ w.heap.size → AnyZI.ApAt Tryz.apSeqA_ren w fn (.func (.func 93) #[] #[.pointer (some ⟨b, 0, none⟩)]) w.heap.size l D [] W →
      CallsIn Fence.wide 5 Tryz.prog 93 #[.func (.yield l) #[] #[], .pointer (some ⟨b, 0, none⟩)] W fun e W' => (∃ v, e = .returned v) ∧ AnyZI.ApAt Tryz.apSeqA_ren w fn (.func (.func 93) #[] #[.pointer (some ⟨b, 0, none⟩)]) w.heap.size l D zs W' := fun l D W h1 h2 h3 h4 h0 =>
    values1_in 5 l b A n c zs hn hm _ w hc hb hr (fun s W h => h.below)
      (fun pre x W hJ hlen => AnyZI.apYield { Tryz.apSeqA with } Fence.wide 4 w fn hfn _ w.heap.size l D h2 h3 h4 (Nat.le_refl _) h1 n (by unfold maxLen; omega) (by omega) pre x W hJ hlen) W h0
  have e1 : ∀ x, ((U.alloc (.deferred (some []))).alloc x).heap.size = U.heap.size + 2 := fun x => by simp
  obtain ⟨V, hV⟩ : ∃ V, V = (U.alloc (.deferred (some []))).alloc (.loop (AnyZI.apRec Tryz.apSeqA_ren fn (.func (.func 93) #[] #[.pointer (some ⟨b, 0, none⟩)]) w.heap.size U.heap.size .ready none)) := ⟨_, rfl⟩
  have keep : ∀ k, k < U.heap.size → V.heap[k]? = U.heap[k]? := fun k hk => by
    rw [hV]; exact (Below.heap_alloc _ _ k (by simp; omega)).trans (Below.heap_alloc _ _ k hk)
  have bel : Below w.heap.size w V := by rw [hV]; exact (bel0.alloc bel0.size _).alloc (by simp; omega) _
  have hD : V.heap[U.heap.size]? = some (.deferred (some [])) := by rw [hV]; exact (Below.heap_alloc _ _ _ (by simp)).trans (World.alloc_heap_new U _)
  have hL : V.heap[U.heap.size + 1]? = some (.loop (AnyZI.apRec Tryz.apSeqA_ren fn (.func (.func 93) #[] #[.pointer (some ⟨b, 0, none⟩)]) w.heap.size U.heap.size .ready none)) := by
    rw [hV]
    have := World.alloc_heap_new (U.alloc (.deferred (some []))) (.loop (AnyZI.apRec Tryz.apSeqA_ren fn (.func (.func 93) #[] #[.pointer (some ⟨b, 0, none⟩)]) w.heap.size U.heap.size .ready none))
    rwa [World.size_alloc] at this
  have st : AnyZI.ApAt Tryz.apSeqA_ren w fn (.func (.func 93) #[] #[.pointer (some ⟨b, 0, none⟩)]) w.heap.size (U.heap.size + 1) U.heap.size [] V :=
    ⟨⟨_, (keep _ (by omega)).trans box0, ⟨rfl, .inl ⟨rfl, rfl⟩⟩, by simp⟩, hL, hD, bel⟩
  refine ⟨U.heap.size + 1, [{ target := .collected U.heap.size, args := #[] }], V, { target := .fn (.func 93) #[.pointer (some ⟨b, 0, none⟩)], args := #[.func (.yield (U.heap.size + 1)) #[] #[]] }, V, 93,
    #[.func (.yield (U.heap.size + 1)) #[] #[]] ++ #[.pointer (some ⟨b, 0, none⟩)], V, ?_, ?_, fun _ _ => trivial, ?_, fun _ => by decide, ?_⟩
  · rw [hV]; exact run_enterLoop_outer _ _ _ _ _
  · simp [resolve, go_sem]
  · simp [invoke, go_sem]
  · refine (hseq _ _ V (by omega) (by omega) (by omega) (by omega) st).mono ?_
    rintro e W2 ⟨⟨v0, rfl⟩, h2⟩
    obtain ⟨v, hv, hrow, _⟩ := h2.box
    have hend := run_endLoop (P := Tryz.prog) h2.L (by simp [AnyZI.apRec])
    obtain ⟨W3, hW3⟩ : ∃ W3, W3 = W2.putObj (U.heap.size + 1) (.loop { AnyZI.apRec Tryz.apSeqA_ren fn (.func (.func 93) #[] #[.pointer (some ⟨b, 0, none⟩)]) w.heap.size U.heap.size .ready none with state := .exhausted }) := ⟨_, rfl⟩
    rw [← hW3] at hend
    have hg : W2.grownBy W3 (some (U.heap.size + 1)) := by rw [hW3]; exact grownBy_putObj_a _ _ _
    have box3 : W3.heap[w.heap.size]? = some (.cells #[v] 28 (0, 0)) := by rw [hW3]; exact (World.putObj_heap_other (by omega)).trans hv
    have hD3 : W3.heap[U.heap.size]? = some (.deferred (some [])) := by rw [hW3]; exact (World.putObj_heap_other (by omega)).trans h2.K
    have row3 := hrow.kept hg (ownsRow_ne_a hrow h2.L (fun cur e => by cases e))
    have bel3 : Below w.heap.size w W3 := h2.below.grown hg h2.below.size (fun k e => by cases e; omega)
    obtain ⟨hc3, hf3⟩ := cell_of_box_a box3
    clear hW3
    refine ⟨none, W3, hend, ?_⟩
    gi_wp2
    rw [← hs]
    refine ⟨by simp, .inl ⟨_, _, rfl, run_takeDeferred hD3, ?_⟩⟩
    refine ⟨_, results_tmp rfl _ _ _, v, rfl, ?_, bel3.grown (grownBy_putObj_a _ _ _) bel3.size (fun k e => by cases e; omega)⟩
    have := row3.kept (grownBy_putObj_a W3 U.heap.size (.deferred none)) (ownsRow_ne_a row3 hD3 (fun cur e => by cases e))
    rw [← hn]
    exact this
theorem collect_vals (b : Nat) (A : Option Addr) (n c : Nat) (zs : List Int) (hn : zs.length = n) (hm : n ≤ 1048576) (w : World) (hc : w.cell? ⟨b, 0, none⟩ = some (.slice A n c)) (hb : b < w.heap.size) (hr : RdV w A (ints zs)) :
    Calls Tryz.prog 91 #[.func (.func 93) #[] #[.pointer (some ⟨b, 0, none⟩)]] w (RVal fun v w' => w'.ownsRow w.heap.size 3 1 v n (ints zs) ∧ Below w.heap.size w w') := by
  have hap := callsIn_wide.1 (appendSeq_vals b A n c zs hn hm w hc hb hr)
  go_enter Tryz.func91, Tryz.ntmps91
  go_wp2_with fail
  refine hap.mono ?_
  rintro e w' ⟨v, rfl, h1, h2⟩
  go_wp2_with fail
  go_ret
  exact RVal.mk ⟨h1, h2⟩
/-- numbers in ascending order -/
def srtI (zs : List Int) : List Int := zs.mergeSort fun x y => decide (x ≤ y)
theorem sorted_vals (b : Nat) (A : Option Addr) (n c : Nat) (zs : List Int) (hn : zs.length = n) (hm : n ≤ 1048576) (w : World) (hc : w.cell? ⟨b, 0, none⟩ = some (.slice A n c)) (hb : b < w.heap.size) (hr : RdV w A (ints zs)) :
    Calls Tryz.prog 76 #[.func (.func 93) #[] #[.pointer (some ⟨b, 0, none⟩)]] w (RVal fun v w' => w'.ownsRow w.heap.size 3 1 v n (ints (srtI zs)) ∧ Below w.heap.size w w') := by
  have hap := collect_vals b A n c zs hn hm w hc hb hr
  go_enter Tryz.func76, Tryz.ntmps76
  go_wp2_with fail
  refine hap.mono ?_
  rintro e w1 ⟨_, rfl, h1, h2⟩
  have HB := Lib.hid h2
  rcases h1.2 with ⟨rfl, hz⟩ | ⟨gb, cap, cur, rfl, hbase, hgb, r1, r2, r3, r4⟩
  · subst hz
    obtain rfl : zs = [] := List.eq_nil_of_length_eq_zero hn
    have cS := fun W => AnyM.slices_Sort_int_none Tryz.sortA none 0 W
    change ∀ W, Calls Tryz.prog 92 _ _ _ at cS
    clear h1 h2
    go_wp2_with fail
    refine (cS _).mono ?_
    rintro e w' ⟨rfl, rfl⟩
    go_wp2_with fail
    go_ret
    exact RVal.mk ⟨by rw [show ints (srtI []) = [] from by simp [srtI, ints]]; exact World.ownsRow_nil _ _ _ _, HB.out⟩
  · have hH : Holds encZ w1 gb 0 zs.toArray := holds_of_block_i hgb (by simpa [hn, ints] using r4)
    have hgl : gb < w1.heap.size := (Array.getElem?_eq_some_iff.1 hgb).1
    have cS := AnyM.slices_Sort_int Tryz.sortA gb 0 cap zs w1 hH hgl (by omega)
    rw [hn] at cS
    change Calls Tryz.prog 92 _ _ _ at cS
    have hfin : ∀ k os, (Go.Sort.grow (putRow encZ (Go.Sort.ahead w1 k) gb 0 (zs.mergeSort fun x y => decide (x ≤ y)).toArray) os).ownsRow w.heap.size 3 1 (.slice (some ⟨gb, 0, none⟩) n cap) n (ints (srtI zs)) := fun k os => by
      have := ownsRow_sorted_i (n := k) (os := os) (ss := zs) (ts := srtI zs) (by simp [srtI]) hbase hgb (by omega) r2 (by simpa using r3)
      rw [hn] at this
      exact this
    have HF := Lib.hid hfin
    have HG : Hid (∀ k os, Below w.heap.size w (Go.Sort.grow (putRow encZ (Go.Sort.ahead w1 k) gb 0 (zs.mergeSort fun x y => decide (x ≤ y)).toArray) os)) := Lib.hid fun k os => HB.out.grown (grownBy_sorted_i _) HB.out.size (fun j hj => by cases hj; exact hbase)
    clear hfin h1 h2 hH r1 r2 r3 r4
    go_wp2_with fail
    refine cS.mono ?_
    rintro e w' ⟨rfl, k, os, rfl⟩
    go_wp2_with fail
    go_ret
    exact RVal.mk ⟨HF.out k os, HG.out k os⟩
theorem values_any (A : Option Addr) (n c : Nat) (w : World) : Calls Tryz.prog 77 #[.slice A n c] w fun e w' => e = .returned (.func (.func 93) #[] #[.pointer (some ⟨w.heap.size, 0, none⟩)]) ∧ w' = w.alloc (.cells #[.slice A n c] 28) := by
  go_enter Tryz.func77, Tryz.ntmps77
  go_wp2_with fail
  go_ret
  exact ⟨rfl, rfl⟩
end Go.Proofs.YtbllbpjlkechdaaGreat
end
section
/- slices.Grow of nil and slices.Concat at []int. -/
namespace Go.Proofs.YtbllbpjlkechdaaGreat
open Go Go.ChangeShapes Go.WideShapes Go.ChangeAt Go.RowKit
set_option linter.unusedVariables false
/-- how many numbers the first rows have -/
def lenK (rows : List (List Int)) (k : Nat) : Nat := ((rows.take k).flatten).length
theorem lenK_step {rows : List (List Int)} {k : Nat} (h : k < rows.length) : lenK rows (k + 1) = lenK rows k + (rows[k]).length := by
  unfold lenK
  rw [List.take_succ_eq_append_getElem h, List.flatten_append, List.length_append, List.flatten_cons, List.flatten_nil, List.append_nil]
theorem lenK_le (rows : List (List Int)) (k : Nat) : lenK rows k ≤ rows.flatten.length := by
  have h : (rows.take k).flatten.length + (rows.drop k).flatten.length = rows.flatten.length := by
    rw [← List.length_append, ← List.flatten_append, List.take_append_drop]
  unfold lenK
  omega
theorem zeros_ints (k : Nat) : Builtin.zeroCells (Value.cells (.int .i64 0)) k = (List.replicate k (Value.int .i64 0)).toArray := by
  have : (Value.cells (.int .i64 0)) = #[.int .i64 0] := rfl
  rw [this]
  unfold Builtin.zeroCells
  apply Array.ext'
  simp
  apply List.ext_getElem <;> simp [Nat.mod_one]
theorem grow_none (k : Nat) (w : World) (hk : k ≤ 1048576) :
    Calls Tryz.prog 94 #[.slice none 0 0, .int .i64 k] w (RVal fun u w' => ∃ A c, u = .slice A 0 c ∧ w'.ownsRow w.heap.size 3 1 (.slice A 0 c) 0 [] ∧ Below w.heap.size w w') := by
  by_cases h0 : k = 0
  · subst h0
    go_enter Tryz.func94, Tryz.ntmps94
    go_wp2_with fail
    go_ret
    exact RVal.mk ⟨none, 0, rfl, World.ownsRow_nil _ _ _ _, Below.refl _ _⟩
  · obtain ⟨i0, hi0, hinf⟩ := Option.map_eq_some_iff.1 int_info
    simp only [Prod.mk.injEq] at hinf
    obtain ⟨hz0, hzs, hzb⟩ := hinf
    obtain ⟨G, hG⟩ : ∃ G, G = grownCap w k 0 3 := ⟨_, rfl⟩
    have hGn : k ≤ G := by rw [hG]; exact grownCap_ge w _ _ _
    have hGm : G ≤ maxLen := by rw [hG]; exact grownCap_le_maxLen w k 0 _ (by unfold maxLen; omega)
    have hrz : ∀ ty, (Builtin.append_ #[28, 3] ty #[.slice none 0 0, .int .i64 (k : Int)]).run Tryz.prog w =
        .ok (.slice (some ⟨w.heap.size, 0, none⟩) k G) (w.drew.alloc (.cells (List.replicate k (Value.int .i64 0) ++ List.replicate (G - k) (Value.int .i64 0)).toArray 3)) := fun ty => by
      have h := Lib.run_append_nil_zeros (P := Tryz.prog) w 28 3 ty 3 i0 _ .i64 .i64 Tryz.underlying28 Tryz.underlying3 hi0 hz0 k (by omega) (by omega) (by omega) (by rw [hzb]; omega)
      rw [← hG] at h
      rw [h, zeros_ints, zeros_ints]
      simp
    have hlen : (List.replicate k (Value.int .i64 0) ++ List.replicate (G - k) (Value.int .i64 0)).length = G := by simp; omega
    generalize List.replicate k (Value.int .i64 0) ++ List.replicate (G - k) (Value.int .i64 0) = Z at *
    have hB : Blk (w.drew.alloc (.cells Z.toArray 3)) w.heap.size 3 Z := Blk.new w.drew _ Z
    have HO : Hid ((w.drew.alloc (.cells Z.toArray 3)).ownsRow w.heap.size 3 1 (.slice (some ⟨w.heap.size, 0, none⟩) 0 G) 0 []) := Lib.hid ⟨rfl, .inr ⟨w.heap.size, G, Z.toArray, rfl, Nat.le_refl _, hB, Nat.zero_le _, hGm, by simp [hlen], by simp⟩⟩
    have HB : Hid (Below w.heap.size w (w.drew.alloc (.cells Z.toArray 3))) := Lib.hid ((Below.drew (Below.refl _ _)).alloc (Nat.le_refl _) _)
    generalize w.drew.alloc (.cells Z.toArray 3) = w2 at *
    have hk0 : (0 : Int) < (k : Int) := by omega
    have hGi : (G : Int) ≤ 9223372036854775807 := by unfold maxLen at hGm; omega
    clear hi0 hz0 hzs hzb hG hGm hlen hB
    go_enter Tryz.func94, Tryz.ntmps94
    go_wp2_with (at_builtin; refine Lib.wpList_append_run _ rfl _ _ _ _ rfl _ _ rfl rfl _ _ (hrz _) ?_)
    go_ret
    exact RVal.mk ⟨_, G, rfl, HO.out, HB.out⟩
set_option maxHeartbeats 1000000 in
theorem concat_int (A : Option Addr) (n c : Nat) (rows : List (List Int)) (w : World) (hn : rows.length = n) (hr : RdRR w A (intss rows)) (hm : n ≤ 1048576) (htot : rows.flatten.length ≤ 1048576) :
    Calls Tryz.prog 78 #[.slice A n c] w (RVal fun u w' => ∃ B d, u = .slice B rows.flatten.length d ∧ w'.ownsRow w.heap.size 3 1 (.slice B rows.flatten.length d) rows.flatten.length (ints rows.flatten) ∧ Below w.heap.size w w') := by
  have HN := Lib.hid hn
  have HT := Lib.hid htot
  clear hn htot
  go_enter Tryz.func78, Tryz.ntmps78
  go_wp2_with fail
  go_loopw [3, 11, 5] (fun s i _ wr => ∃ k : Nat, k ≤ n ∧ i = .int .i64 k ∧ s = .int .i64 (lenK rows k) ∧ w = wr) (fun _ i _ _ => n - (intOf i).toNat)
  case atStart => exact ⟨0, Nat.zero_le _, rfl, rfl, rfl⟩
  case round =>
    obtain ⟨k, hk, rfl, rfl, rfl⟩ := hrel
    by_cases hlt : k < n
    · have hkz : k < rows.length := by rw [HN.out]; exact hlt
      have hkl : k < (intss rows).length := by rw [intss_len]; exact hkz
      obtain ⟨b1, o, rfl, hl, B, c', hcell, hle, hmx, hrB⟩ := hr.pos hkl
      simp only [intss_at, ints_len] at hcell
      have HS := Lib.hid (lenK_step hkz)
      have h2 : lenK rows (k + 1) ≤ 1048576 := Nat.le_trans (lenK_le rows _) HT.out
      rw [HS.out] at h2
      generalize (rows[k]).length = p at *
      generalize lenK rows k = s at *
      have HS := HS
      clear hrB
      go_wp2_with fail
      go_roundw
      case rel => exact ⟨k + 1, by omega, by go_num, by rw [HS.out]; go_num, trivial⟩
      case measure => simp [intOf]; omega
    · obtain rfl : k = n := by omega
      have HE : Hid (lenK rows k = rows.flatten.length) := Lib.hid (by unfold lenK; rw [List.take_of_length_le (by rw [HN.out]; exact Nat.le_refl _)])
      rw [HE.out]
      have h2 := HT.out
      have HFL := Lib.hid (rfl : rows.flatten.length = rows.flatten.length)
      generalize hT : rows.flatten.length = tot at *
      have HTT := Lib.hid hT
      clear hT HE HFL
      go_wp2_with fail
      refine (grow_none tot _ h2).mono ?_
      rintro e w1 ⟨_, rfl, A1, c1, rfl, hown1, hb1⟩
      go_wp2_with fail
      go_loopw [6, 27, 8] (fun s i _ wr => ∃ (j : Nat) (B : Option Addr) (d : Nat), j ≤ k ∧ i = .int .i64 j ∧ s = .slice B (lenK rows j) d ∧ wr.ownsRow w.heap.size 3 1 (.slice B (lenK rows j) d) (lenK rows j) (ints (rows.take j).flatten) ∧ Below w.heap.size w wr) (fun _ i _ _ => k - (intOf i).toNat)
      case atStart => exact ⟨0, A1, c1, Nat.zero_le _, rfl, rfl, hown1, hb1⟩
      case round =>
        obtain ⟨j, B, d, hj, rfl, rfl, hown, hb⟩ := hrel
        have hrr := hr.below hb
        by_cases hlt2 : j < k
        · have hkz : j < rows.length := by rw [HN.out]; exact hlt2
          have hkl : j < (intss rows).length := by rw [intss_len]; exact hkz
          obtain ⟨b1, o, rfl, hl, B1, c', hcell, hle, hmx, hrB⟩ := hrr.pos hkl
          rw [intss_at] at hrB
          simp only [intss_at, ints_len] at hcell hle
          have HS := Lib.hid (lenK_step hkz)
          have hl2 : lenK rows (j + 1) ≤ 1048576 := Nat.le_trans (lenK_le rows _) (by rw [HTT.out]; exact h2)
          rw [HS.out] at hl2
          have HSI : Hid (ints (rows.take (j + 1)).flatten = ints (rows.take j).flatten ++ ints (rows[j])) := Lib.hid (by rw [List.take_succ_eq_append_getElem hkz, List.flatten_append]; simp [ints])
          have hone := ints_one (rows[j])
          have hil := ints_len (rows[j])
          generalize rows[j] = zs at *
          generalize zs.length = p at *
          generalize lenK rows j = s at *
          generalize ints (rows.take j).flatten = xs at *
          generalize ints zs = ys at *
          have hsz := hb.size
          have HB := Lib.hid hb
          have HIL := Lib.hid hil
          have HRB := Lib.hid hrB
          have HOWN := Lib.hid hown
          have HONE := Lib.hid hone
          clear hb hrB hil hown hone
          go_wp2_with (at_builtin; refine append_src rfl (.tmp 31) (.tmp 32) 28 rfl 3 _ _ _ Tryz.underlying28 int_infoY w.heap.size _ _ s xs rfl HOWN.out B1 p c' ys rfl (by rw [HIL.out, Nat.mul_one]) HRB.out HONE.out (by omega) hsz ?_; intro v6 w6 hown6 hg6 hblk6)
          obtain ⟨B6, d6, rfl, _, _⟩ := own_slice hown6
          have hb6 := below_append HB.out hg6 HOWN.out rfl
          go_roundw
          case rel => exact ⟨j + 1, B6, d6, by omega, by go_num, by rw [HS.out], by rw [HS.out, HSI.out]; exact hown6, hb6⟩
          case measure => simp [intOf]; omega
        · obtain rfl : j = k := by omega
          have HE : Hid (lenK rows j = tot) := Lib.hid (by unfold lenK; rw [List.take_of_length_le (by rw [HN.out]; exact Nat.le_refl _)]; exact HTT.out)
          have HF : Hid (rows.take j = rows) := Lib.hid (List.take_of_length_le (by rw [HN.out]; exact Nat.le_refl _))
          rw [HE.out, HF.out] at hown
          rw [HE.out]
          go_wp2_with fail
          go_ret
          exact RVal.mk ⟨B, d, by rw [HTT.out]; rfl, by rw [HTT.out]; exact hown, hb⟩
end Go.Proofs.YtbllbpjlkechdaaGreat
end
section
/- Maps with integer keys whose values are known outright: what they hold, and their look-ups and updates. -/
namespace Go.Proofs.YtbllbpjlkechdaaGreat
open Go Go.ChangeShapes Go.WideShapes Go.ChangeAt Go.RowKit
open Go.WideAt (IsKeyLit)

/-- a value reads as itself -/
def itself : Value → Option (DataW Value × List MemPlace) := fun v => some (.held v, [])
/-- block b is a map of n entries with int keys; at key a it has what f says -/
def MapI (P : Program) (k : TypeId) (w : World) (b n : Nat) (f : Int → Option Value) : Prop :=
  ∃ D : DataW Value, w.ownsMap P k itself b n D ∧ Maps.size D = n ∧ ∀ a, (Lit.int .i64 a).wf = true → Maps.has D (.int .i64 a) = (f a).isSome ∧ ∀ z, D.atKey (.int .i64 a) (.held z) = .held ((f a).getD z)
def mput (f : Int → Option Value) (a : Int) (v : Value) : Int → Option Value := fun x => if x = a then some v else f x

theorem mapI_made (P : Program) (k : TypeId) (w : World) : MapI P k (w.alloc (.map #[] 0)) w.heap.size 0 (fun _ => none) :=
  ⟨.map [], World.ownsMap_made w P k itself, rfl, fun _ _ => ⟨rfl, fun _ => rfl⟩⟩
theorem MapI.kept {P : Program} {k : TypeId} {w w' : World} {b n : Nat} {f : Int → Option Value} {row : Option Nat} (h : MapI P k w b n f) (hg : w.grownBy w' row) (hne : some b ≠ row) : MapI P k w' b n f := by
  obtain ⟨D, ho, r⟩ := h
  exact ⟨D, ho.kept hg hne, r⟩
theorem MapI.lt {P : Program} {k : TypeId} {w : World} {b n : Nat} {f : Int → Option Value} (h : MapI P k w b n f) : b < w.heap.size := by
  obtain ⟨D, ho, _⟩ := h
  exact ho.lt
theorem MapI.entries {P : Program} {k : TypeId} {w : World} {b n : Nat} {f : Int → Option Value} (h : MapI P k w b n f) : ∃ es clock, w.heap[b]? = some (.map es clock) ∧ es.size = n := by
  obtain ⟨D, ⟨es, clock, hb, _, _, rfl⟩, hs, _⟩ := h
  refine ⟨es, clock, hb, ?_⟩
  rw [← hs]
  simp [Maps.size, length_sorted]
theorem mput_data {D : DataW Value} {f : Int → Option Value} (hm : Maps.IsMap D) (h : ∀ a, (Lit.int .i64 a).wf = true → Maps.has D (.int .i64 a) = (f a).isSome ∧ ∀ z, D.atKey (.int .i64 a) (.held z) = .held ((f a).getD z)) (a : Int) (v : Value) :
    ∀ x, (Lit.int .i64 x).wf = true → Maps.has (D.put (.int .i64 a) (.held v)) (.int .i64 x) = (mput f a v x).isSome ∧ ∀ z, (D.put (.int .i64 a) (.held v)).atKey (.int .i64 x) (.held z) = .held ((mput f a v x).getD z) := by
  intro x hx
  unfold mput
  by_cases hxa : x = a
  · subst hxa
    have hk : IsKeyLit (.int .i64 x) := trivial
    rw [if_pos rfl, Maps.has_put_same hm hk]
    exact ⟨rfl, fun z => Maps.atKey_put_same hm hk _ _⟩
  · have hne : (Lit.int .i64 x) ≠ (Lit.int .i64 a) := fun e => hxa (by injection e)
    rw [if_neg hxa, Maps.has_put_other hne]
    exact ⟨(h x hx).1, fun z => by rw [Maps.atKey_put_other hne]; exact (h x hx).2 z⟩
section
variable {P : Program} (w : World) {ops : Array Oper} {rest : List Oper} {o : Oper} {a : Act} {Q : Exit → Act → World → Prop}
/-- v, ok := m[x] -/
theorem mapI_look_ok (hg : o.guard = none) (m x : Operand) (t : TypeId) (hop : o.op = Op.lookup t m x true) (k e : TypeId) (hk : P.underlying k = some (.int .i64)) (ht : P.underlying t = some (.map k e))
    (z : Value) (hz : (zeroValue e).run P w = .ok z w) (b n : Nat) (f : Int → Option Value) (hm : a.eval m = .map (some b)) (hown : MapI P k w b n f) (key : Int) (hx : a.eval x = .int .i64 key) (hwf : (Lit.int .i64 key).wf = true)
    (hK : wpList P ops Q rest (a.put o.dst (.tuple #[(f key).getD z, .bool (f key).isSome])) w) : wpList P ops Q (o :: rest) a w := by
  obtain ⟨D, ho, _, hD⟩ := hown
  refine wpList_lookup_own_ok w hg m x t hop k e (Maps.int_keyed hk) ht itself hz (.held z) [] rfl b n D hm ho _ _ hx (Maps.keyOf_int_mk hk hwf) fun v ps hv => ?_
  rw [(hD key hwf).2 z] at hv
  have e1 : v = (f key).getD z := by
    simp only [itself, Option.some.injEq, Prod.mk.injEq, DataW.held.injEq] at hv
    exact hv.1
  rw [e1, (hD key hwf).1]
  exact hK
/-- m[x] -/
theorem mapI_look (hg : o.guard = none) (m x : Operand) (t : TypeId) (hop : o.op = Op.lookup t m x false) (k e : TypeId) (hk : P.underlying k = some (.int .i64)) (ht : P.underlying t = some (.map k e))
    (z : Value) (hz : (zeroValue e).run P w = .ok z w) (b n : Nat) (f : Int → Option Value) (hm : a.eval m = .map (some b)) (hown : MapI P k w b n f) (key : Int) (hx : a.eval x = .int .i64 key) (hwf : (Lit.int .i64 key).wf = true)
    (hK : wpList P ops Q rest (a.put o.dst ((f key).getD z)) w) : wpList P ops Q (o :: rest) a w := by
  obtain ⟨D, ho, _, hD⟩ := hown
  obtain ⟨v, ps, hrun, hv⟩ := ho.lookup (Maps.int_keyed hk) ht hz (zd := .held z) (zp := []) rfl (Maps.keyOf_int_mk hk hwf)
  rw [(hD key hwf).2 z] at hv
  have e1 : v = (f key).getD z := by
    simp only [itself, Option.some.injEq, Prod.mk.injEq, DataW.held.injEq] at hv
    exact hv.1
  rw [e1] at hrun
  refine wpList_plain hg fun K' hK' => ?_
  unfold Oper.wp
  simp [execOp, hop, hm, hx, hrun, Result.andThen]
  exact hK' _ _ hK
/-- m[x] = v -/
theorem mapI_set (hg : o.guard = none) (m x v : Operand) (t : TypeId) (hop : o.op = Op.mapUpdate t m x v ∨ o.op = Op.insert t m x v) (k e : TypeId) (hk : P.underlying k = some (.int .i64)) (ht : P.underlying t = some (.map k e))
    (b n : Nat) (f : Int → Option Value) (hm : a.eval m = .map (some b)) (hown : MapI P k w b n f) (hn : n < maxLen) (key : Int) (val : Value) (hx : a.eval x = .int .i64 key) (hv : a.eval v = val) (hwf : (Lit.int .i64 key).wf = true)
    (hK : ∀ w', MapI P k w' b (if (f key).isSome then n else n + 1) (mput f key val) → w.grownBy w' (some b) → wpList P ops Q rest (a.put o.dst undef) w') : wpList P ops Q (o :: rest) a w := by
  obtain ⟨D, ho, hs, hD⟩ := hown
  have hi := ho.isMap
  have htidy := ho.tidy (Maps.int_keyed hk)
  obtain ⟨w', hrun, r1, r2⟩ := ho.update (Maps.int_keyed hk) ht hn (Maps.keyOf_int_mk hk hwf) (val := val) (d := .held val) (ps := []) rfl
  have hsz : Maps.size (D.put (.int .i64 key) (.held val)) = if (f key).isSome then n else n + 1 := by
    have hkl : IsKeyLit (.int .i64 key) := trivial
    have e1 := Maps.size_put (k := .int .i64 key) htidy (.held val)
    rw [(hD key hwf).1, hs] at e1
    exact e1
  have r1' : w'.ownsMap P k itself b (if (f key).isSome then n else n + 1) (D.put (.int .i64 key) (.held val)) := by
    obtain ⟨es, clock, hb, F, hle, hE⟩ := r1
    refine ⟨es, clock, hb, F, ?_, hE⟩
    rw [← hsz, hE]
    simp [Maps.size, length_sorted]
  refine wpList_plain hg fun K' hK' => ?_
  unfold Oper.wp
  rcases hop with hop | hop
  all_goals
    simp [execOp, hop, hm, hx, hv, hrun, Result.andThen]
    exact hK' _ _ (hK w' ⟨_, r1', hsz, mput_data hi hD key val⟩ r2)
end
end Go.Proofs.YtbllbpjlkechdaaGreat
end
section
/- The program's YardValid returns the plain word. -/
namespace Go.Proofs.YtbllbpjlkechdaaGreat
open Go Go.ChangeShapes Go.WideShapes Go.ChangeAt Go.RowKit
theorem idWf {x : Int} (h1 : 1 ≤ x) (h2 : x ≤ 999) : (Lit.int .i64 x).wf = true := by
  have h3 : IntKind.i64.min = -9223372036854775808 := by decide
  have h4 : IntKind.i64.max = 9223372036854775807 := by decide
  simp only [Lit.wf, h3, h4, Bool.and_eq_true, decide_eq_true_eq]
  omega
theorem zeroBool (w : World) : (zeroValue 4).run Tryz.prog w = .ok (.bool false) w := by kernel_rfl
/-- the map of what was seen -/
def seenF (all : List Int) : Int → Option Value := fun x => if hasI all x = true then some (.bool true) else none
theorem seenF_put (all : List Int) (x : Int) : mput (seenF all) x (.bool true) = seenF (all ++ [x]) := by
  funext y
  by_cases h : y = x
  · subst h; simp [mput, seenF, hasI]
  · simp [mput, seenF, hasI, h]
theorem seenF_get (all : List Int) (x : Int) : ((seenF all x).getD (.bool false)) = .bool (hasI all x) := by
  unfold seenF
  cases hasI all x <;> rfl
theorem seenF_nil : seenF [] = fun _ => none := by funext x; simp [seenF, hasI]
theorem inI_len {high : Int} {rows : List (List Int)} {n : Nat} (h : rows.length = n) : yardOk high rows = (inI (n : Int) 1 5 && yOk high [] rows) := by subst h; rfl
set_option maxHeartbeats 4000000 in
theorem implYardValid (high : Int) (A : Option Addr) (n c : Nat) (rows : List (List Int)) (w : World) (hn : rows.length = n) (hr : RdRR w A (intss rows)) (hm : n ≤ 9223372036854775806) :
    Calls Tryz.prog 36 #[.agg #[.int .i64 high, .slice A n c]] w fun e w' => e = .returned (.bool (yardOk high rows)) ∧ Below w.heap.size w w' := by
  have HN := Lib.hid hn
  have HOK := Lib.hid (inI_len (high := high) hn)
  clear hn
  have hbl : Below w.heap.size w (w.alloc (.cells #[.int .i64 high, .slice A n c] 36)) := (Below.refl _ _).alloc (Nat.le_refl _) _
  have hP : Blk (w.alloc (.cells #[.int .i64 high, .slice A n c] 36)) w.heap.size 36 [.int .i64 high, .slice A n c] := Blk.new _ _ _
  have hmm := @run_makeMap Tryz.prog
  go_enter Tryz.func36, Tryz.ntmps36
  go_wp2_with fail
  have hbl1 : Below w.heap.size w (w.alloc (.cells #[.int .i64 high, .slice A n c] 36)) := (Below.refl _ _).alloc (Nat.le_refl _) _
  have hsz : (w.alloc (.cells #[.int .i64 high, .slice A n c] 36)).heap.size = w.heap.size + 1 := by simp
  generalize w.alloc (.cells #[.int .i64 high, .slice A n c] 36) = w1 at *
  refine (within_any (n : Int) 1 5 _).mono ?_
  rintro e w' ⟨rfl, rfl⟩
  cases hi : inI (n : Int) 1 5 with
  | false =>
    have HF : Hid (yardOk high rows = false) := Lib.hid (by rw [HOK.out, hi]; rfl)
    clear hi
    go_wp2_with fail
    go_ret
    exact ⟨by rw [HF.out]; rfl, hbl⟩
  | true =>
    have hn5 : n ≤ 5 := by simp [inI] at hi; omega
    have HT : Hid (yardOk high rows = yOk high [] rows) := Lib.hid (by rw [HOK.out, hi]; rfl)
    have HB := Lib.hid hbl
    have HSZ := Lib.hid hsz
    have hM1 := mapI_made Tryz.prog 3 w1
    have hb2 := hbl.alloc (by omega) (.map #[] 0)
    have hP2 : Blk (w1.alloc (.map #[] 0)) w.heap.size 36 [.int .i64 high, .slice A n c] := hP.later ((Below.refl _ _).alloc (Nat.le_refl _) _)
    have d0 := hP2.cellAt 0 (by simp)
    have d1 := hP2.cellAt 1 (by simp)
    have c0 := hP.cellAt 0 (by simp)
    have c1 := hP.cellAt 1 (by simp)
    simp only [List.getElem_cons_zero, List.getElem_cons_succ] at d0 d1 c0 c1
    have hq := hP.lt
    have hq2 := hP2.lt
    clear hi hsz hbl1
    go_wp2_with fail
    go_loopw [17, 5, 7] (fun i _ _ wr => ∃ (k m : Nat), k ≤ n ∧ i = .int .i64 k ∧ m ≤ 5 * k ∧ Hid (yOk high [] rows = yOk high ((rows.take k).flatten) (rows.drop k)) ∧ MapI Tryz.prog 3 wr w1.heap.size m (seenF (rows.take k).flatten) ∧ Blk wr w.heap.size 36 [.int .i64 high, .slice A n c] ∧ Below w.heap.size w wr) (fun i _ _ _ => n - (intOf i).toNat)
    case atStart => exact ⟨0, 0, Nat.zero_le _, rfl, Nat.zero_le _, Lib.hid rfl, by simpa [seenF_nil] using hM1, hP2, hb2⟩
    case round =>
      clear c0 c1 d0 d1 hM1 hb2 hP2 hq2
      obtain ⟨k, m, hk, rfl, hmk, HY, hM, P1, hb⟩ := hrel
      have c0 := P1.cellAt 0 (by simp)
      have c1 := P1.cellAt 1 (by simp)
      simp only [List.getElem_cons_zero, List.getElem_cons_succ] at c0 c1
      have hPlt := P1.lt
      by_cases hlt : k < n
      · have hkz : k < rows.length := by rw [HN.out]; exact hlt
        have hkl : k < (intss rows).length := by rw [intss_len]; exact hkz
        obtain ⟨b, o, rfl, hl0, B, c', hcell0, hle, hmx, hrB0⟩ := hr.pos hkl
        have hl : b < wr.heap.size := Nat.lt_of_lt_of_le hl0 hb.size
        have hcell := (hb.cell (p := ⟨b, o + k, none⟩) hl0).trans hcell0
        have hrB := hrB0.below hb
        rw [intss_at] at hrB hrB0
        simp only [intss_at, ints_len] at hcell hle
        have hst := yOk_step (high := high) hkz
        rw [← HY.out] at hst
        have HST := Lib.hid hst
        have HFL : Hid ((rows.take (k + 1)).flatten = (rows.take k).flatten ++ rows[k]) := Lib.hid (by rw [List.take_succ_eq_append_getElem hkz, List.flatten_append]; simp)
        unfold maxLen at hmx
        have HR := Lib.hid hr
        generalize rows[k] = zs at *
        generalize (rows.take k).flatten = fl at *
        generalize hz : zs.length = p at *
        have HZ := Lib.hid hz
        have HRB := Lib.hid hrB0
        clear hst hz hr hcell0 hrB0 hl0 hbl
        go_wp2_with fail
        refine (implStackValid B p c' zs high _ HZ.out hrB hle (by omega)).mono ?_
        rintro e w' ⟨rfl, rfl⟩
        cases hso : stackOk zs high with
        | false =>
          have HF : Hid (yardOk high rows = false) := Lib.hid (by rw [HT.out, HST.out, hso]; rfl)
          clear hso
          go_wp2_with fail
          go_ret
          exact ⟨by rw [HF.out]; rfl, hb⟩
        | true =>
          have HS2 : Hid (yOk high [] rows = (dOk fl zs && yOk high ((rows.take (k + 1)).flatten) (rows.drop (k + 1)))) := Lib.hid (by rw [HST.out, hso]; rfl)
          obtain ⟨a1, a2, a3, a4⟩ := stackOk_parts hso
          have HID := Lib.hid (sOk_ids a1)
          have hp5 : p ≤ 5 := by have := HZ.out; omega
          clear a1 a2 a3 a4 hso
          go_wp2_with fail
          go_loopw [28, 7] (fun i _ wr2 => ∃ (j m2 : Nat), j ≤ p ∧ i = .int .i64 j ∧ m2 ≤ 5 * k + j ∧ Hid (dOk fl zs = dOk (fl ++ zs.take j) (zs.drop j)) ∧ MapI Tryz.prog 3 wr2 w1.heap.size m2 (seenF (fl ++ zs.take j)) ∧ Blk wr2 w.heap.size 36 [.int .i64 high, .slice (some ⟨b, o, none⟩) n c] ∧ RdV wr2 B (ints zs) ∧ Below w.heap.size w wr2) (fun i _ _ => p - (intOf i).toNat)
          case atStart => exact ⟨0, m, Nat.zero_le _, rfl, by omega, Lib.hid (by simp), by simpa using hM, P1, hrB, hb⟩
          case round =>
            clear c0 c1 hM P1 hb hle hrB hPlt hl hcell
            obtain ⟨j, m2, hj, rfl, hm2, HD, hM, P1, hrB, hb2⟩ := hrel
            by_cases hltj : j < p
            · have hjz : j < zs.length := by rw [HZ.out]; exact hltj
              have hjl : j < (ints zs).length := by rw [ints_len]; exact hjz
              obtain ⟨b2, o2, rfl, hl2, hc2⟩ := hrB.pos hjl
              have h1 := hc2 j hjl
              rw [ints_at] at h1
              have hst := dOk_step (p := fl) hjz
              rw [← HD.out] at hst
              have HST2 := Lib.hid hst
              have HPUT := Lib.hid (seenF_put (fl ++ zs.take j) zs[j])
              have HGET := Lib.hid (seenF_get (fl ++ zs.take j) zs[j])
              have HTK : Hid (fl ++ zs.take (j + 1) = fl ++ zs.take j ++ [zs[j]]) := Lib.hid (by rw [List.take_succ_eq_append_getElem hjz, List.append_assoc])
              obtain ⟨y1, y2⟩ := HID.out zs[j] (List.getElem_mem hjz)
              have hwf := idWf y1 y2
              generalize zs[j] = y at *
              clear hc2 hst y1 y2
              have HM := Lib.hid hM
              have hm3 : m2 < maxLen := by unfold maxLen; omega
              go_wp2_with (at_lookup; refine mapI_look _ rfl _ _ 101 rfl 3 4 Tryz.underlying3 Tryz.underlying101 (.bool false) (zeroBool _) w1.heap.size _ _ rfl hM y rfl hwf ?_)
              rw [HGET.out]
              cases hhas : hasI (fl ++ zs.take j) y with
              | true =>
                have HF : Hid (yardOk high rows = false) := Lib.hid (by rw [HT.out, HS2.out, HST2.out, hhas]; rfl)
                clear hhas
                go_wp2_with fail
                go_ret
                exact ⟨by rw [HF.out]; rfl, hb2⟩
              | false =>
                have HD2 : Hid (dOk fl zs = dOk (fl ++ zs.take (j + 1)) (zs.drop (j + 1))) := Lib.hid (by rw [HST2.out, hhas]; rfl)
                clear hhas
                go_wp2_with (refine mapI_set _ rfl (.tmp 35) (.tmp 36) _ 101 (.inl rfl) 3 4 Tryz.underlying3 Tryz.underlying101 w1.heap.size _ _ rfl hM hm3 y (.bool true) rfl rfl hwf ?_; intro w4 hM4 hg4)
                rw [HPUT.out, ← HTK.out] at hM4
                have hb4 : Below w.heap.size w w4 := hb2.grown hg4 hb2.size (fun k hk => by injection hk with hk; have := HSZ.out; omega)
                have hne : w.heap.size ≠ w1.heap.size := by have := HSZ.out; omega
                have P4 := P1.only hg4 hne
                have R4 := HRB.out.below hb4
                go_roundw
                case rel => exact ⟨j + 1, _, by omega, by go_num, by split <;> omega, HD2, hM4, P4, R4, hb4⟩
                case measure => simp [intOf]; omega
            · have hend : dOk (fl ++ zs.take j) (zs.drop j) = true := dOk_end (by rw [HZ.out]; omega)
              have HE : Hid (yOk high [] rows = yOk high ((rows.take (k + 1)).flatten) (rows.drop (k + 1))) := Lib.hid (by rw [HS2.out, HD.out, hend]; rfl)
              have htl : zs.take j = zs := List.take_of_length_le (by rw [HZ.out]; omega)
              rw [htl, ← HFL.out] at hM
              clear hend htl
              go_wp2_with fail
              go_roundw
              case rel => exact ⟨k + 1, m2, by omega, by go_num, by omega, HE, hM, P1, hb2⟩
              case measure => simp [intOf]; omega
      · have hend : yOk high ((rows.take k).flatten) (rows.drop k) = true := yOk_end (by rw [HN.out]; omega)
        have HE := Lib.hid (HT.out.trans (HY.out.trans hend))
        clear hend
        go_wp2_with fail
        go_ret
        exact ⟨by rw [HE.out]; rfl, hb⟩
end Go.Proofs.YtbllbpjlkechdaaGreat
end
