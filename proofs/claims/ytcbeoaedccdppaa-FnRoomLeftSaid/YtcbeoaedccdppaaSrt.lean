/- slices.Sorted(slices.Values(xs)) at []int: the numbers of xs, sorted, in new memory; no condition but that xs can be read and is not too long. -/
import Derived.Shelf.SlIterI.Sorted
import Derived.Shelf.SortM.Plain
import Derived.Shelf.SortM.SortNone
import Derived.Ground.GgzProg
import Derived.Ground.SlgmProg
import Derived.Test.YtcbeoaedccdppaaOwn
import Derived.Test.YtcbeoaedccdppaaProg
namespace Go.Proofs.Ytcbeoaedccdppaa
open Go Go.RowKit Go.Maps Go.Sort Go.Shelf
set_option linter.unusedVariables false
def Try.apSeqA_ren : Go.Shelf.Ren := ⟨fun | 11 => 65 | n => n, fun | 24 => 37 | 26 => 3 | 28 => 60 | 0 => 0 | 33 => 55 | 4 => 4 | n => n, fun | n => n⟩
theorem Try.apSeqA : Go.Proofs.SlLaysZI.n11 Try.prog Try.apSeqA_ren := {
  mixed := by kernel_rfl
  f11 := ⟨ "slices.AppendSeq[[]int,int]", by decide, Try.func65.trans (congrArg some (by kernel_rfl))⟩
  t0 := Try.underlying0
  a0 := Try.isAgg0
  z0 := Try.sizeOf0
  v0 := Try.zeroValue0
  t24 := Try.underlying37
  a24 := Try.isAgg37
  z24 := Try.sizeOf37
  v24 := Try.zeroValue37
  t26 := Try.underlying3
  a26 := Try.isAgg3
  z26 := Try.sizeOf3
  v26 := Try.zeroValue3
  t28 := Try.underlying60
  a28 := Try.isAgg60
  z28 := Try.sizeOf60
  v28 := Try.zeroValue60
  i26 := by kernel_rfl }
def Try.sortA_ren : Go.Shelf.Ren := ⟨fun | 5 => 59 | 8 => 67 | 7 => 66 | 19 => 78 | 20 => 79 | 10 => 69 | 11 => 70 | 12 => 71 | 13 => 72 | 14 => 73 | 15 => 74 | 16 => 75 | 17 => 76 | 18 => 77 | 30 => 80 | 31 => 81 | 32 => 82 | 33 => 83 | 34 => 84 | 35 => 85 | 40 => 86 | n => n, fun | 23 => 37 | 25 => 3 | 3 => 3 | 32 => 78 | 22 => 37 | 0 => 0 | 44 => 89 | 46 => 91 | 4 => 4 | 36 => 81 | 35 => 80 | 41 => 86 | 5 => 5 | 9 => 9 | 53 => 92 | 57 => 96 | 63 => 98 | 64 => 99 | n => n, fun | n => n⟩
theorem Try.sortA : Go.Proofs.SlLaysM.n5 Try.prog Try.sortA_ren := {
  mixed := by kernel_rfl
  f5 := ⟨ "slices.Sort[[]int,int]", by decide, Try.func59.trans (congrArg some (by kernel_rfl))⟩
  f7 := ⟨ "slices.pdqsortOrdered[int]", by decide, Try.func66.trans (congrArg some (by kernel_rfl))⟩
  f8 := Try.func67.trans (congrArg some (by kernel_rfl))
  f10 := ⟨ "slices.insertionSortOrdered[int]", by decide, Try.func69.trans (congrArg some (by kernel_rfl))⟩
  f11 := ⟨ "slices.heapSortOrdered[int]", by decide, Try.func70.trans (congrArg some (by kernel_rfl))⟩
  f12 := ⟨ "slices.breakPatternsOrdered[int]", by decide, Try.func71.trans (congrArg some (by kernel_rfl))⟩
  f13 := ⟨ "slices.choosePivotOrdered[int]", by decide, Try.func72.trans (congrArg some (by kernel_rfl))⟩
  f14 := ⟨ "slices.reverseRangeOrdered[int]", by decide, Try.func73.trans (congrArg some (by kernel_rfl))⟩
  f15 := ⟨ "slices.partialInsertionSortOrdered[int]", by decide, Try.func74.trans (congrArg some (by kernel_rfl))⟩
  f16 := ⟨ "cmp.Less[int]", by decide, Try.func75.trans (congrArg some (by kernel_rfl))⟩
  f17 := ⟨ "slices.partitionEqualOrdered[int]", by decide, Try.func76.trans (congrArg some (by kernel_rfl))⟩
  f18 := ⟨ "slices.partitionOrdered[int]", by decide, Try.func77.trans (congrArg some (by kernel_rfl))⟩
  f19 := Try.func78.trans (congrArg some (by kernel_rfl))
  f20 := Try.func79.trans (congrArg some (by kernel_rfl))
  f30 := ⟨ "slices.siftDownOrdered[int]", by decide, Try.func80.trans (congrArg some (by kernel_rfl))⟩
  f31 := Try.func81.trans (congrArg some (by kernel_rfl))
  f32 := Try.func82.trans (congrArg some (by kernel_rfl))
  f33 := ⟨ "slices.medianAdjacentOrdered[int]", by decide, Try.func83.trans (congrArg some (by kernel_rfl))⟩
  f34 := ⟨ "slices.medianOrdered[int]", by decide, Try.func84.trans (congrArg some (by kernel_rfl))⟩
  f35 := ⟨ "cmp.isNaN[int]", by decide, Try.func85.trans (congrArg some (by kernel_rfl))⟩
  f40 := ⟨ "slices.order2Ordered[int]", by decide, Try.func86.trans (congrArg some (by kernel_rfl))⟩
  t0 := Try.underlying0
  a0 := Try.isAgg0
  z0 := Try.sizeOf0
  v0 := Try.zeroValue0
  t3 := Try.underlying3
  a3 := Try.isAgg3
  z3 := Try.sizeOf3
  v3 := Try.zeroValue3
  t4 := Try.underlying4
  a4 := Try.isAgg4
  z4 := Try.sizeOf4
  v4 := Try.zeroValue4
  t5 := Try.underlying5
  a5 := Try.isAgg5
  z5 := Try.sizeOf5
  v5 := Try.zeroValue5
  t9 := Try.underlying9
  a9 := Try.isAgg9
  z9 := Try.sizeOf9
  v9 := Try.zeroValue9
  t22 := Try.underlying37
  a22 := Try.isAgg37
  z22 := Try.sizeOf37
  v22 := Try.zeroValue37
  t23 := Try.underlying37
  a23 := Try.isAgg37
  z23 := Try.sizeOf37
  v23 := Try.zeroValue37
  t25 := Try.underlying3
  a25 := Try.isAgg3
  z25 := Try.sizeOf3
  v25 := Try.zeroValue3
  t32 := Try.underlying78
  a32 := Try.isAgg78
  z32 := Try.sizeOf78
  v32 := Try.zeroValue78
  t35 := Try.underlying80
  a35 := Try.isAgg80
  z35 := Try.sizeOf80
  v35 := Try.zeroValue80
  t36 := Try.underlying81
  a36 := Try.isAgg81
  z36 := Try.sizeOf81
  v36 := Try.zeroValue81
  t41 := Try.underlying86
  a41 := Try.isAgg86
  z41 := Try.sizeOf86
  v41 := Try.zeroValue86
  t44 := Try.underlying89
  a44 := Try.isAgg89
  z44 := Try.sizeOf89
  v44 := Try.zeroValue89
  t46 := Try.underlying91
  a46 := Try.isAgg91
  z46 := Try.sizeOf91
  v46 := Try.zeroValue91
  t53 := Try.underlying92
  a53 := Try.isAgg92
  z53 := Try.sizeOf92
  v53 := Try.zeroValue92
  t57 := Try.underlying96
  a57 := Try.isAgg96
  z57 := Try.sizeOf96
  v57 := Try.zeroValue96
  t63 := Try.underlying98
  a63 := Try.isAgg98
  z63 := Try.sizeOf98
  v63 := Try.zeroValue98
  t64 := Try.underlying99
  a64 := Try.isAgg99
  z64 := Try.sizeOf99
  v64 := Try.zeroValue99 }
set_option maxRecDepth 100000 in
set_option maxHeartbeats 1000000 in
/-- the iterator: the numbers come one by one, as long as the caller leaves what lay there -/
theorem values1_in (m l b : Nat) (A : Option Addr) (n c : Nat) (zs : List Int) (hn : zs.length = n) (hm : n ≤ 1048576) (J : List Int → World → Prop) (w : World) (hc : w.cell? ⟨b, 0, none⟩ = some (.slice A n c)) (hb : b < w.heap.size) (hr : RdV w A (ints zs))
    (hJ : ∀ s W, J s W → Below w.heap.size w W)
    (hY : ∀ pre x W, J pre W → pre.length < n → YieldAt Fence.wide (m - 1) Try.prog l #[encZ x] W fun e W' => e = .returned (.bool true) ∧ J (pre ++ [x]) W' ∧ KeepsWalks W W')
    (W : World) (h0 : J [] W) :
    CallsIn Fence.wide m Try.prog 60 #[.func (.yield l) #[] #[], .pointer (some ⟨b, 0, none⟩)] W fun e W' => (∃ v, e = .returned v) ∧ J zs W' := by
  have HN := Lib.hid hn
  have hcW : W.cell? ⟨b, 0, none⟩ = some (.slice A n c) := ((hJ _ _ h0).cell (p := ⟨b, 0, none⟩) hb).trans hc
  clear hn
  refine callsIn_of_wp Try.func60 rfl trivial ?_ rfl
  simp only [Try.ntmps60, List.size_toArray, List.length_cons, List.length_nil, Nat.reduceAdd, Nat.reduceSub, Array.replicate_succ, Array.replicate_zero, List.push_toArray, List.append_toArray, List.nil_append, List.cons_append]
  gi_wp2
  gi_loopw [7, 4] (fun i _ wr => ∃ k : Nat, k ≤ n ∧ i = .int .i64 k ∧ J (zs.take k) wr) (fun i _ _ => n - (intOf i).toNat)
  case atStart => exact ⟨0, Nat.zero_le _, rfl, by simpa using h0⟩
  case round =>
    obtain ⟨k, hk, rfl, hJk⟩ := hrel
    by_cases hlt : k < n
    · have hkz : k < zs.length := by rw [HN.out]; exact hlt
      have hkl : k < (ints zs).length := by rw [ints_len]; exact hkz
      obtain ⟨b1, o, rfl, hl, hcc⟩ := (hr.below (hJ _ _ hJk)).pos hkl
      have h1 := hcc k hkl
      rw [ints_at] at h1
      have HS : Hid (zs.take (k + 1) = zs.take k ++ [zs[k]]) := Lib.hid (List.take_succ_eq_append_getElem hkz)
      obtain ⟨fn, tmps, assign, body, hy, hR⟩ := hY (zs.take k) zs[k] wr hJk (by rw [List.length_take]; omega)
      generalize zs[k] = x at *
      have hki : (k : Int) < (n : Int) := by omega
      clear hcc
      gi_wp2
      refine ⟨fun h => absurd h (by decide), hR.mono ?_⟩
      rintro e W3 ⟨rfl, hJ3, hk3⟩
      gi_wp2
      go_roundw
      case rel => exact ⟨k + 1, by omega, by go_num, by rw [HS.out]; exact hJ3⟩
      case measure => simp [intOf]; omega
    · obtain rfl : k = n := by omega
      have HE : Hid (zs.take k = zs) := Lib.hid (List.take_of_length_le (by rw [HN.out]; exact Nat.le_refl _))
      rw [HE.out] at hJk
      gi_wp2
      go_end0
      exact ⟨⟨_, rfl⟩, hJk⟩
set_option maxRecDepth 100000 in
set_option maxHeartbeats 2000000 in
/-- the loop over the iterator appends what comes -/
theorem appendSeq_vals (b : Nat) (A : Option Addr) (n c : Nat) (zs : List Int) (hn : zs.length = n) (hm : n ≤ 1048576) (w : World) (hc : w.cell? ⟨b, 0, none⟩ = some (.slice A n c)) (hb : b < w.heap.size) (hr : RdV w A (ints zs)) :
    CallsIn Fence.wide 6 Try.prog 65 #[.slice none 0 0, .func (.func 60) #[] #[.pointer (some ⟨b, 0, none⟩)]] w fun e w' => ∃ v, e = .returned v ∧ w'.ownsRow w.heap.size 3 1 v n (ints zs) ∧ Below w.heap.size w w' := by
  have hne : 37 ≠ 3 := by decide
  refine callsIn_of_wp_marks Try.func65 rfl trivial ?_ rfl
  simp only [Try.ntmps65, List.size_toArray, List.length_cons, List.length_nil, Nat.reduceAdd, Nat.reduceSub, Array.replicate_succ, Array.replicate_zero, List.push_toArray, List.append_toArray, List.nil_append, List.cons_append]
  gi_wp2
  refine wpIn_rangeFunc ?_
  intro fn hfn
  -- the box of the slice, the loop's record and its list of deferred calls
  have hs : (w.alloc (.cells #[.slice none 0 0] 37)).heap.size = w.heap.size + 1 := by simp
  have box0 : (w.alloc (.cells #[.slice none 0 0] 37)).heap[w.heap.size]? = some (.cells #[.slice none 0 0] 37 (0, 0)) := World.alloc_heap_new w _
  have bel0 : Below w.heap.size w (w.alloc (.cells #[.slice none 0 0] 37)) := (Below.refl _ w).alloc (Nat.le_refl _) _
  generalize w.alloc (.cells #[.slice none 0 0] 37) = U at *
  have hseq : ∀ l D W, w.heap.size ≤ l → w.heap.size ≠ l → D ≠ l → D ≠ w.heap.size → AnyZI.ApAt Try.apSeqA_ren w fn (.func (.func 60) #[] #[.pointer (some ⟨b, 0, none⟩)]) w.heap.size l D [] W →
      CallsIn Fence.wide 5 Try.prog 60 #[.func (.yield l) #[] #[], .pointer (some ⟨b, 0, none⟩)] W fun e W' => (∃ v, e = .returned v) ∧ AnyZI.ApAt Try.apSeqA_ren w fn (.func (.func 60) #[] #[.pointer (some ⟨b, 0, none⟩)]) w.heap.size l D zs W' := fun l D W h1 h2 h3 h4 h0 =>
    values1_in 5 l b A n c zs hn hm _ w hc hb hr (fun s W h => h.below)
      (fun pre x W hJ hlen => AnyZI.apYield { Try.apSeqA with } Fence.wide 4 w fn hfn _ w.heap.size l D h2 h3 h4 (Nat.le_refl _) h1 n (by unfold maxLen; omega) (by omega) pre x W hJ hlen) W h0
  have e1 : ∀ x, ((U.alloc (.deferred (some []))).alloc x).heap.size = U.heap.size + 2 := fun x => by simp
  obtain ⟨V, hV⟩ : ∃ V, V = (U.alloc (.deferred (some []))).alloc (.loop (AnyZI.apRec Try.apSeqA_ren fn (.func (.func 60) #[] #[.pointer (some ⟨b, 0, none⟩)]) w.heap.size U.heap.size .ready none)) := ⟨_, rfl⟩
  have keep : ∀ k, k < U.heap.size → V.heap[k]? = U.heap[k]? := fun k hk => by
    rw [hV]; exact (Below.heap_alloc _ _ k (by simp; omega)).trans (Below.heap_alloc _ _ k hk)
  have bel : Below w.heap.size w V := by rw [hV]; exact (bel0.alloc bel0.size _).alloc (by simp; omega) _
  have hD : V.heap[U.heap.size]? = some (.deferred (some [])) := by rw [hV]; exact (Below.heap_alloc _ _ _ (by simp)).trans (World.alloc_heap_new U _)
  have hL : V.heap[U.heap.size + 1]? = some (.loop (AnyZI.apRec Try.apSeqA_ren fn (.func (.func 60) #[] #[.pointer (some ⟨b, 0, none⟩)]) w.heap.size U.heap.size .ready none)) := by
    rw [hV]
    have := World.alloc_heap_new (U.alloc (.deferred (some []))) (.loop (AnyZI.apRec Try.apSeqA_ren fn (.func (.func 60) #[] #[.pointer (some ⟨b, 0, none⟩)]) w.heap.size U.heap.size .ready none))
    rwa [World.size_alloc] at this
  have st : AnyZI.ApAt Try.apSeqA_ren w fn (.func (.func 60) #[] #[.pointer (some ⟨b, 0, none⟩)]) w.heap.size (U.heap.size + 1) U.heap.size [] V :=
    ⟨⟨_, (keep _ (by omega)).trans box0, ⟨rfl, .inl ⟨rfl, rfl⟩⟩, by simp⟩, hL, hD, bel⟩
  refine ⟨U.heap.size + 1, [{ target := .collected U.heap.size, args := #[] }], V, { target := .fn (.func 60) #[.pointer (some ⟨b, 0, none⟩)], args := #[.func (.yield (U.heap.size + 1)) #[] #[]] }, V, 60,
    #[.func (.yield (U.heap.size + 1)) #[] #[]] ++ #[.pointer (some ⟨b, 0, none⟩)], V, ?_, ?_, fun _ _ => trivial, ?_, fun _ => by decide, ?_⟩
  · rw [hV]; exact run_enterLoop_outer _ _ _ _ _
  · simp [resolve, go_sem]
  · simp [invoke, go_sem]
  · refine (hseq _ _ V (by omega) (by omega) (by omega) (by omega) st).mono ?_
    rintro e W2 ⟨⟨v0, rfl⟩, h2⟩
    obtain ⟨v, hv, hrow, _⟩ := h2.box
    have hend := run_endLoop (P := Try.prog) h2.L (by simp [AnyZI.apRec])
    obtain ⟨W3, hW3⟩ : ∃ W3, W3 = W2.putObj (U.heap.size + 1) (.loop { AnyZI.apRec Try.apSeqA_ren fn (.func (.func 60) #[] #[.pointer (some ⟨b, 0, none⟩)]) w.heap.size U.heap.size .ready none with state := .exhausted }) := ⟨_, rfl⟩
    rw [← hW3] at hend
    have hg : W2.grownBy W3 (some (U.heap.size + 1)) := by rw [hW3]; exact grownBy_putObj_a _ _ _
    have box3 : W3.heap[w.heap.size]? = some (.cells #[v] 37 (0, 0)) := by rw [hW3]; exact (World.putObj_heap_other (by omega)).trans hv
    have hD3 : W3.heap[U.heap.size]? = some (.deferred (some [])) := by rw [hW3]; exact (World.putObj_heap_other (by omega)).trans h2.K
    have row3 := hrow.kept hg (ownsRow_ne_a hrow h2.L (fun cur e => by cases e))
    have bel3 : Below w.heap.size w W3 := h2.below.grown hg h2.below.size (fun k e => by cases e; omega)
    obtain ⟨hc3, hf3⟩ := cell_of_box_a box3
    clear hW3
    refine ⟨none, W3, hend, ?_⟩
    gi_wp2
    rw [← hs]
    refine ⟨by simp, .inl ⟨_, _, rfl, run_takeDeferred hD3, ?_⟩⟩
    refine ⟨_, results_tmp rfl _ _ _, v, rfl, ?_, bel3.grown (grownBy_putObj_a _ _ _) bel3.size (fun k e => by cases e; omega)⟩
    have := row3.kept (grownBy_putObj_a W3 U.heap.size (.deferred none)) (ownsRow_ne_a row3 hD3 (fun cur e => by cases e))
    rw [← hn]
    exact this
theorem collect_vals (b : Nat) (A : Option Addr) (n c : Nat) (zs : List Int) (hn : zs.length = n) (hm : n ≤ 1048576) (w : World) (hc : w.cell? ⟨b, 0, none⟩ = some (.slice A n c)) (hb : b < w.heap.size) (hr : RdV w A (ints zs)) :
    Calls Try.prog 58 #[.func (.func 60) #[] #[.pointer (some ⟨b, 0, none⟩)]] w (RVal fun v w' => w'.ownsRow w.heap.size 3 1 v n (ints zs) ∧ Below w.heap.size w w') := by
  have hap := callsIn_wide.1 (appendSeq_vals b A n c zs hn hm w hc hb hr)
  go_enter Try.func58, Try.ntmps58
  go_wp2_with fail
  refine hap.mono ?_
  rintro e w' ⟨v, rfl, h1, h2⟩
  go_wp2_with fail
  go_ret
  exact RVal.mk ⟨h1, h2⟩
/-- numbers in ascending order -/
def srtI (zs : List Int) : List Int := zs.mergeSort fun x y => decide (x ≤ y)
theorem sorted_vals (b : Nat) (A : Option Addr) (n c : Nat) (zs : List Int) (hn : zs.length = n) (hm : n ≤ 1048576) (w : World) (hc : w.cell? ⟨b, 0, none⟩ = some (.slice A n c)) (hb : b < w.heap.size) (hr : RdV w A (ints zs)) :
    Calls Try.prog 40 #[.func (.func 60) #[] #[.pointer (some ⟨b, 0, none⟩)]] w (RVal fun v w' => w'.ownsRow w.heap.size 3 1 v n (ints (srtI zs)) ∧ Below w.heap.size w w') := by
  have hap := collect_vals b A n c zs hn hm w hc hb hr
  go_enter Try.func40, Try.ntmps40
  go_wp2_with fail
  refine hap.mono ?_
  rintro e w1 ⟨_, rfl, h1, h2⟩
  have HB := Lib.hid h2
  rcases h1.2 with ⟨rfl, hz⟩ | ⟨gb, cap, cur, rfl, hbase, hgb, r1, r2, r3, r4⟩
  · subst hz
    obtain rfl : zs = [] := List.eq_nil_of_length_eq_zero hn
    have cS := fun W => AnyM.slices_Sort_int_none Try.sortA none 0 W
    change ∀ W, Calls Try.prog 59 _ _ _ at cS
    clear h1 h2
    go_wp2_with fail
    refine (cS _).mono ?_
    rintro e w' ⟨rfl, rfl⟩
    go_wp2_with fail
    go_ret
    exact RVal.mk ⟨by rw [show ints (srtI []) = [] from by simp [srtI, ints]]; exact World.ownsRow_nil _ _ _ _, HB.out⟩
  · have hH : Holds encZ w1 gb 0 zs.toArray := holds_of_block_i hgb (by simpa [hn, ints] using r4)
    have hgl : gb < w1.heap.size := (Array.getElem?_eq_some_iff.1 hgb).1
    have cS := AnyM.slices_Sort_int Try.sortA gb 0 cap zs w1 hH hgl (by omega)
    rw [hn] at cS
    change Calls Try.prog 59 _ _ _ at cS
    have hfin : ∀ k os, (Go.Sort.grow (putRow encZ (Go.Sort.ahead w1 k) gb 0 (zs.mergeSort fun x y => decide (x ≤ y)).toArray) os).ownsRow w.heap.size 3 1 (.slice (some ⟨gb, 0, none⟩) n cap) n (ints (srtI zs)) := fun k os => by
      have := ownsRow_sorted_i (n := k) (os := os) (ss := zs) (ts := srtI zs) (by simp [srtI]) hbase hgb (by omega) r2 (by simpa using r3)
      rw [hn] at this
      exact this
    have HF := Lib.hid hfin
    have HG : Hid (∀ k os, Below w.heap.size w (Go.Sort.grow (putRow encZ (Go.Sort.ahead w1 k) gb 0 (zs.mergeSort fun x y => decide (x ≤ y)).toArray) os)) := Lib.hid fun k os => HB.out.grown (grownBy_sorted_i _) HB.out.size (fun j hj => by cases hj; exact hbase)
    clear hfin h1 h2 hH r1 r2 r3 r4
    go_wp2_with fail
    refine cS.mono ?_
    rintro e w' ⟨rfl, k, os, rfl⟩
    go_wp2_with fail
    go_ret
    exact RVal.mk ⟨HF.out k os, HG.out k os⟩
theorem values_any (A : Option Addr) (n c : Nat) (w : World) : Calls Try.prog 41 #[.slice A n c] w fun e w' => e = .returned (.func (.func 60) #[] #[.pointer (some ⟨w.heap.size, 0, none⟩)]) ∧ w' = w.alloc (.cells #[.slice A n c] 37) := by
  go_enter Try.func41, Try.ntmps41
  go_wp2_with fail
  go_ret
  exact ⟨rfl, rfl⟩
end Go.Proofs.Ytcbeoaedccdppaa
