/- Differences sorted by the library's SortFunc. -/
import Derived.Shelf.SlSortCmp.WholeK
import Derived.Ground.SlsfProg
import Derived.IntWalk
import Derived.Shelf.SlSortCmp.NoneTotal
import Derived.Test.YtbhnlooellgfaaaBxD
import Derived.Test.YtbhnlooellgfaaaSoK
namespace Go.Proofs.Ytbhnlooellgfaaa
open Go Go.ChangeShapes Go.WideShapes Go.ChangeAt Go.RowKit Go.Sort Go.Shelf
set_option linter.unusedVariables false
def Try.sortDifL_ren : Go.Shelf.Ren := ⟨fun | 6 => 39 | 15 => 57 | 14 => 56 | 28 => 76 | 29 => 77 | 20 => 68 | 21 => 69 | 22 => 70 | 23 => 71 | 24 => 72 | 25 => 73 | 26 => 74 | 27 => 75 | 46 => 88 | 47 => 89 | 48 => 90 | 49 => 91 | 50 => 92 | 57 => 97 | n => n, fun | 22 => 30 | 24 => 56 | 25 => 58 | 3 => 3 | 39 => 76 | 0 => 0 | 53 => 95 | 55 => 97 | 4 => 4 | 46 => 88 | 45 => 87 | 50 => 92 | 5 => 5 | 9 => 9 | 66 => 104 | 70 => 108 | 76 => 112 | 77 => 113 | n => n, fun | n => n⟩
theorem Try.sortDifL : Go.Proofs.SlLaysF0.n6 Try.prog Try.sortDifL_ren := {
  mixed := by kernel_rfl
  f6 := ⟨ "slices.SortFunc[[]loop.example/containerport/impl.Diff,loop.example/containerport/impl.Diff]", by decide, Try.func39.trans (congrArg some (by kernel_rfl))⟩
  f14 := ⟨ "slices.pdqsortCmpFunc[loop.example/containerport/impl.Diff]", by decide, Try.func56.trans (congrArg some (by kernel_rfl))⟩
  f15 := Try.func57.trans (congrArg some (by kernel_rfl))
  f20 := ⟨ "slices.insertionSortCmpFunc[loop.example/containerport/impl.Diff]", by decide, Try.func68.trans (congrArg some (by kernel_rfl))⟩
  f21 := ⟨ "slices.heapSortCmpFunc[loop.example/containerport/impl.Diff]", by decide, Try.func69.trans (congrArg some (by kernel_rfl))⟩
  f22 := ⟨ "slices.breakPatternsCmpFunc[loop.example/containerport/impl.Diff]", by decide, Try.func70.trans (congrArg some (by kernel_rfl))⟩
  f23 := ⟨ "slices.choosePivotCmpFunc[loop.example/containerport/impl.Diff]", by decide, Try.func71.trans (congrArg some (by kernel_rfl))⟩
  f24 := ⟨ "slices.reverseRangeCmpFunc[loop.example/containerport/impl.Diff]", by decide, Try.func72.trans (congrArg some (by kernel_rfl))⟩
  f25 := ⟨ "slices.partialInsertionSortCmpFunc[loop.example/containerport/impl.Diff]", by decide, Try.func73.trans (congrArg some (by kernel_rfl))⟩
  f26 := ⟨ "slices.partitionEqualCmpFunc[loop.example/containerport/impl.Diff]", by decide, Try.func74.trans (congrArg some (by kernel_rfl))⟩
  f27 := ⟨ "slices.partitionCmpFunc[loop.example/containerport/impl.Diff]", by decide, Try.func75.trans (congrArg some (by kernel_rfl))⟩
  f28 := Try.func76.trans (congrArg some (by kernel_rfl))
  f29 := Try.func77.trans (congrArg some (by kernel_rfl))
  f46 := ⟨ "slices.siftDownCmpFunc[loop.example/containerport/impl.Diff]", by decide, Try.func88.trans (congrArg some (by kernel_rfl))⟩
  f47 := Try.func89.trans (congrArg some (by kernel_rfl))
  f48 := Try.func90.trans (congrArg some (by kernel_rfl))
  f49 := ⟨ "slices.medianAdjacentCmpFunc[loop.example/containerport/impl.Diff]", by decide, Try.func91.trans (congrArg some (by kernel_rfl))⟩
  f50 := ⟨ "slices.medianCmpFunc[loop.example/containerport/impl.Diff]", by decide, Try.func92.trans (congrArg some (by kernel_rfl))⟩
  f57 := ⟨ "slices.order2CmpFunc[loop.example/containerport/impl.Diff]", by decide, Try.func97.trans (congrArg some (by kernel_rfl))⟩
  t0 := Try.underlying0
  a0 := Try.isAgg0
  z0 := Try.sizeOf0
  v0 := Try.zeroValue0
  t3 := Try.underlying3
  a3 := Try.isAgg3
  z3 := Try.sizeOf3
  v3 := Try.zeroValue3
  t4 := Try.underlying4
  a4 := Try.isAgg4
  z4 := Try.sizeOf4
  v4 := Try.zeroValue4
  t5 := Try.underlying5
  a5 := Try.isAgg5
  z5 := Try.sizeOf5
  v5 := Try.zeroValue5
  t9 := Try.underlying9
  a9 := Try.isAgg9
  z9 := Try.sizeOf9
  v9 := Try.zeroValue9
  t22 := Try.underlying30
  a22 := Try.isAgg30
  z22 := Try.sizeOf30
  v22 := Try.zeroValue30
  t25 := Try.underlying58
  a25 := Try.isAgg58
  z25 := Try.sizeOf58
  v25 := Try.zeroValue58
  t39 := Try.underlying76
  a39 := Try.isAgg76
  z39 := Try.sizeOf76
  v39 := Try.zeroValue76
  t45 := Try.underlying87
  a45 := Try.isAgg87
  z45 := Try.sizeOf87
  v45 := Try.zeroValue87
  t46 := Try.underlying88
  a46 := Try.isAgg88
  z46 := Try.sizeOf88
  v46 := Try.zeroValue88
  t50 := Try.underlying92
  a50 := Try.isAgg92
  z50 := Try.sizeOf92
  v50 := Try.zeroValue92
  t53 := Try.underlying95
  a53 := Try.isAgg95
  z53 := Try.sizeOf95
  v53 := Try.zeroValue95
  t55 := Try.underlying97
  a55 := Try.isAgg97
  z55 := Try.sizeOf97
  v55 := Try.zeroValue97
  t66 := Try.underlying104
  a66 := Try.isAgg104
  z66 := Try.sizeOf104
  v66 := Try.zeroValue104
  t70 := Try.underlying108
  a70 := Try.isAgg108
  z70 := Try.sizeOf108
  v70 := Try.zeroValue108
  t76 := Try.underlying112
  a76 := Try.isAgg112
  z76 := Try.sizeOf112
  v76 := Try.zeroValue112
  t77 := Try.underlying113
  a77 := Try.isAgg113
  z77 := Try.sizeOf113
  v77 := Try.zeroValue113 }
/-- differences whose ids may be ids -/
structure OkD where
  val : DiffV
  ok : 1 ≤ val.b.f0 ∧ val.b.f0 ≤ 999
theorem okD_list (zs : List DiffV) (h : ∀ x ∈ zs, 1 ≤ x.b.f0 ∧ x.b.f0 ≤ 999) : ∃ zo : List OkD, zo.map (·.val) = zs := by
  induction zs with
  | nil => exact ⟨[], rfl⟩
  | cons z zs ih =>
    obtain ⟨zo, hzo⟩ := ih (fun x hx => h x (List.mem_cons_of_mem _ hx))
    exact ⟨⟨z, h z (List.mem_cons_self ..)⟩ :: zo, by simp [hzo]⟩
instance : Inhabited OkD := ⟨⟨⟨0, ⟨1, 0, 0, 0, false⟩⟩, by decide⟩⟩
def okDC (x : OkD) : List Value := diffC x.val
theorem okD_map (zs : List OkD) : cellsOf okDC zs = diffs (zs.map (·.val)) := by
  induction zs with
  | nil => rfl
  | cons z zs ih =>
    show okDC z ++ cellsOf okDC zs = diffC z.val ++ cellsOf diffC (zs.map (·.val))
    rw [ih]; rfl
theorem cmpDif_any (x y : OkD) (W : World) : Calls Try.prog 40 #[.agg (okDC x).toArray, .agg (okDC y).toArray] W fun e w' => e = .returned (.int .i64 (x.val.b.f0 - y.val.b.f0)) ∧ ∃ q os', w' = grow (W.drewN q) os' := by
  obtain ⟨⟨xk, x0, x1, x2, x3, x4⟩, hx⟩ := x
  obtain ⟨⟨yk, y0, y1, y2, y3, y4⟩, hy⟩ := y
  dsimp only at hx hy
  obtain ⟨hx1, hx2⟩ := hx
  obtain ⟨hy1, hy2⟩ := hy
  have e1 : IntKind.i64.wrap (x0 - y0) = x0 - y0 := IntWalk.i64_in _ (by omega)
  show Calls Try.prog 40 #[.agg #[.int .i64 xk, .int .i64 x0, .int .i64 x1, .int .i64 x2, .int .i64 x3, .bool x4], .agg #[.int .i64 yk, .int .i64 y0, .int .i64 y1, .int .i64 y2, .int .i64 y3, .bool y4]] W _
  go_enter Try.func40, Try.ntmps40
  go_wp2
  go_ret
  exact ⟨rfl, 0, _, by rw [alloc_eq_grow, alloc_eq_grow, grow_grow]; rfl⟩
theorem swoDif : SWO (ltOf fun x y : OkD => x.val.b.f0 - y.val.b.f0) where
  irrefl x := by simp [ltOf]
  trans x y z h1 h2 := by simp [ltOf] at *; omega
  ntrans x y z h1 h2 := by simp [ltOf] at *; omega
theorem isAggDif (w : World) : (isAgg 56).run Try.prog w = .ok true w := Try.isAgg56 w
theorem sizeDif (w : World) : (Go.sizeOf 56).run Try.prog w = .ok 6 w := Try.sizeOf56 w
theorem diffs_cell (zs : List DiffV) : ∀ u ∈ diffs zs, u.oneCell' = true := by
  intro u hu
  simp only [diffs, cellsOf, List.mem_flatMap] at hu
  obtain ⟨z, _, hz⟩ := hu
  simp only [diffC, List.mem_cons, List.not_mem_nil, or_false] at hz
  rcases hz with rfl | rfl | rfl | rfl | rfl | rfl <;> rfl
theorem sortFuncDif (g n cap base : Nat) (zs : List DiffV) (w : World) (hn : zs.length = n) (h : w.ownsRow base 56 6 (.slice (some ⟨g, 0, none⟩) n cap) n (diffs zs)) (hz : ∀ x ∈ zs, 1 ≤ x.b.f0 ∧ x.b.f0 ≤ 999) (hm : n ≤ 1048576) :
    Calls Try.prog 39 #[.slice (some ⟨g, 0, none⟩) n cap, .func (.func 40) #[] #[]] w fun e w' => e = .returned (.tuple #[]) ∧ ∃ ys : List DiffV, ys.Perm zs ∧ ys.Pairwise (fun x y => x.b.f0 ≤ y.b.f0) ∧ w'.ownsRow base 56 6 (.slice (some ⟨g, 0, none⟩) n cap) n (diffs ys) ∧ w.grownBy w' (some g) := by
  obtain ⟨zo, hzo⟩ := okD_list zs hz
  have hlen : zo.length = n := by rw [← hn, ← hzo, List.length_map]
  have h' : w.ownsRow base 56 6 (.slice (some ⟨g, 0, none⟩) n cap) n (cellsOf okDC zo) := by rw [okD_map, hzo]; exact h
  obtain ⟨hH, hg⟩ := holdsK_own okDC 6 (fun _ => rfl) (by decide) h'
  have eg : ∀ args w, (callFunc 40 args).run Try.prog w = .ok (.enter 40 args) w := enters_of Try.func40 (by kernel_rfl) rfl
  have hcon := AnyQ.slices_SortFunc Try.sortDifL 6 isAggDif sizeDif okDC (fun _ => rfl) (fun x v hv => diffs_cell [x.val] v (by rw [diffs_one]; exact hv)) (fun x y => x.val.b.f0 - y.val.b.f0) swoDif 40 #[] g 0 cap zo.toArray w eg (fun m os dk _ x y => cmpDif_any x y _) hH hg (by simp; omega)
  rw [show zo.toArray.size = n from by simpa using hlen] at hcon
  refine hcon.mono ?_
  rintro e w' ⟨rfl, d', m, os, hp, hs, rfl⟩
  have hp' : PermIn 0 zo.toArray.size zo.toArray d' := by rw [show zo.toArray.size = n from by simpa using hlen]; exact hp
  have hs' : SortedIn (ltOf fun x y : OkD => x.val.b.f0 - y.val.b.f0) 0 zo.toArray.size d' := by rw [show zo.toArray.size = n from by simpa using hlen]; exact hs
  obtain ⟨hp2, hs2⟩ := sorted_list hp' hs'
  have hyl : d'.toList.length = n := by rw [hp2.length_eq]; simpa using hlen
  obtain ⟨o1, g1⟩ := own_sortedK (m := m) (os := os) okDC 6 (fun _ => rfl) (by decide) (ys := d'.toList) h' hyl
  rw [Array.toArray_toList] at o1 g1
  rw [okD_map] at o1
  refine ⟨rfl, d'.toList.map (·.val), ?_, ?_, o1, g1⟩
  · rw [← hzo]
    exact (hp2.map _).trans (by simp)
  · rw [List.pairwise_map]
    refine hs2.imp fun {x y} hxy => ?_
    simp [ltOf] at hxy
    omega
theorem sortFuncDif_none (p : Option Addr) (cap : Nat) (fv : Value) (w : World) : Calls Try.prog 39 #[.slice p 0 cap, fv] w fun e w' => e = .returned (.tuple #[]) ∧ w = w' :=
  (AnyF.slices_SortFunc_none Try.sortDifL p cap fv w).mono fun _ _ ⟨h1, h2⟩ => ⟨h1, h2.symm⟩
/-- the library's sort on differences of the call's own, nil or not -/
theorem sortFuncDif_any (A : Option Addr) (n cap base : Nat) (told seen : List BoxV) (w : World) (hn : (rawD told seen).length = n) (h : w.ownsRow base 56 6 (.slice A n cap) n (diffs (rawD told seen))) (ht : boxesOk told = true) (hs : boxesOk seen = true) (hm : n ≤ 1048576) :
    Calls Try.prog 39 #[.slice A n cap, .func (.func 40) #[] #[]] w fun e w' => e = .returned (.tuple #[]) ∧ w'.ownsRow base 56 6 (.slice A n cap) n (diffs (collD told seen)) ∧ w.grownBy w' (Value.slice A n cap).ownBlock := by
  rcases own_form h with ⟨hv, hn0, _⟩ | ⟨g, c', hv, hbg, hgl, hnc⟩
  · injection hv with e1 _ e3
    subst e1 e3
    subst hn0
    have hz : rawD told seen = [] := List.eq_nil_of_length_eq_zero hn
    have hc : collD told seen = [] := (collD_uniq ht hs (by rw [hz]) List.Pairwise.nil).symm
    refine (sortFuncDif_none none 0 _ w).mono ?_
    rintro e w' ⟨rfl, rfl⟩
    rw [hz] at h
    exact ⟨rfl, by rw [hc]; exact h, World.grownBy.refl _ _⟩
  · injection hv with e1 _ e3
    subst e1 e3
    refine (sortFuncDif g n cap base (rawD told seen) w hn h (fun x hx => ?_) hm).mono ?_
    · have h2 := (rawD_mem ht hs).1 hx
      unfold collD at h2
      obtain ⟨i, hi, hd⟩ := coll_mem.1 h2
      have := diffAt_id hd
      omega
    rintro e w' ⟨rfl, ys, hp, ha, ho, hg⟩
    rw [collD_uniq ht hs hp ha] at ho
    exact ⟨rfl, ho, hg⟩
end Go.Proofs.Ytbhnlooellgfaaa
