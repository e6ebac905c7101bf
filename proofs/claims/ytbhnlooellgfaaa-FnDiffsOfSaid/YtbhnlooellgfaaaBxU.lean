/- Boxes sorted by the library's SortFunc. -/
import Derived.Shelf.SlSortCmp.WholeK
import Derived.Ground.SlsfProg
import Derived.IntWalk
import Derived.Test.YtbhnlooellgfaaaBxT
import Derived.Test.YtbhnlooellgfaaaSoK
namespace Go.Proofs.Ytbhnlooellgfaaa
open Go Go.ChangeShapes Go.WideShapes Go.ChangeAt Go.RowKit Go.Sort Go.Shelf
set_option linter.unusedVariables false
def Try.sortBoxL_ren : Go.Shelf.Ren := ⟨fun | 6 => 52 | 15 => 57 | 14 => 67 | 28 => 76 | 29 => 77 | 20 => 80 | 21 => 81 | 22 => 82 | 23 => 83 | 24 => 84 | 25 => 85 | 26 => 86 | 27 => 87 | 46 => 94 | 47 => 89 | 48 => 90 | 49 => 95 | 50 => 96 | 57 => 98 | n => n, fun | 22 => 24 | 24 => 40 | 25 => 72 | 3 => 3 | 39 => 76 | 0 => 0 | 53 => 95 | 55 => 97 | 4 => 4 | 46 => 88 | 45 => 87 | 50 => 92 | 5 => 5 | 9 => 9 | 66 => 104 | 70 => 108 | 76 => 112 | 77 => 113 | n => n, fun | n => n⟩
theorem Try.sortBoxL : Go.Proofs.SlLaysF0.n6 Try.prog Try.sortBoxL_ren := {
  mixed := by kernel_rfl
  f6 := ⟨ "slices.SortFunc[[]loop.example/containerport/impl.Box,loop.example/containerport/impl.Box]", by decide, Try.func52.trans (congrArg some (by kernel_rfl))⟩
  f14 := ⟨ "slices.pdqsortCmpFunc[loop.example/containerport/impl.Box]", by decide, Try.func67.trans (congrArg some (by kernel_rfl))⟩
  f15 := Try.func57.trans (congrArg some (by kernel_rfl))
  f20 := ⟨ "slices.insertionSortCmpFunc[loop.example/containerport/impl.Box]", by decide, Try.func80.trans (congrArg some (by kernel_rfl))⟩
  f21 := ⟨ "slices.heapSortCmpFunc[loop.example/containerport/impl.Box]", by decide, Try.func81.trans (congrArg some (by kernel_rfl))⟩
  f22 := ⟨ "slices.breakPatternsCmpFunc[loop.example/containerport/impl.Box]", by decide, Try.func82.trans (congrArg some (by kernel_rfl))⟩
  f23 := ⟨ "slices.choosePivotCmpFunc[loop.example/containerport/impl.Box]", by decide, Try.func83.trans (congrArg some (by kernel_rfl))⟩
  f24 := ⟨ "slices.reverseRangeCmpFunc[loop.example/containerport/impl.Box]", by decide, Try.func84.trans (congrArg some (by kernel_rfl))⟩
  f25 := ⟨ "slices.partialInsertionSortCmpFunc[loop.example/containerport/impl.Box]", by decide, Try.func85.trans (congrArg some (by kernel_rfl))⟩
  f26 := ⟨ "slices.partitionEqualCmpFunc[loop.example/containerport/impl.Box]", by decide, Try.func86.trans (congrArg some (by kernel_rfl))⟩
  f27 := ⟨ "slices.partitionCmpFunc[loop.example/containerport/impl.Box]", by decide, Try.func87.trans (congrArg some (by kernel_rfl))⟩
  f28 := Try.func76.trans (congrArg some (by kernel_rfl))
  f29 := Try.func77.trans (congrArg some (by kernel_rfl))
  f46 := ⟨ "slices.siftDownCmpFunc[loop.example/containerport/impl.Box]", by decide, Try.func94.trans (congrArg some (by kernel_rfl))⟩
  f47 := Try.func89.trans (congrArg some (by kernel_rfl))
  f48 := Try.func90.trans (congrArg some (by kernel_rfl))
  f49 := ⟨ "slices.medianAdjacentCmpFunc[loop.example/containerport/impl.Box]", by decide, Try.func95.trans (congrArg some (by kernel_rfl))⟩
  f50 := ⟨ "slices.medianCmpFunc[loop.example/containerport/impl.Box]", by decide, Try.func96.trans (congrArg some (by kernel_rfl))⟩
  f57 := ⟨ "slices.order2CmpFunc[loop.example/containerport/impl.Box]", by decide, Try.func98.trans (congrArg some (by kernel_rfl))⟩
  t0 := Try.underlying0
  a0 := Try.isAgg0
  z0 := Try.sizeOf0
  v0 := Try.zeroValue0
  t3 := Try.underlying3
  a3 := Try.isAgg3
  z3 := Try.sizeOf3
  v3 := Try.zeroValue3
  t4 := Try.underlying4
  a4 := Try.isAgg4
  z4 := Try.sizeOf4
  v4 := Try.zeroValue4
  t5 := Try.underlying5
  a5 := Try.isAgg5
  z5 := Try.sizeOf5
  v5 := Try.zeroValue5
  t9 := Try.underlying9
  a9 := Try.isAgg9
  z9 := Try.sizeOf9
  v9 := Try.zeroValue9
  t22 := Try.underlying24
  a22 := Try.isAgg24
  z22 := Try.sizeOf24
  v22 := Try.zeroValue24
  t25 := Try.underlying72
  a25 := Try.isAgg72
  z25 := Try.sizeOf72
  v25 := Try.zeroValue72
  t39 := Try.underlying76
  a39 := Try.isAgg76
  z39 := Try.sizeOf76
  v39 := Try.zeroValue76
  t45 := Try.underlying87
  a45 := Try.isAgg87
  z45 := Try.sizeOf87
  v45 := Try.zeroValue87
  t46 := Try.underlying88
  a46 := Try.isAgg88
  z46 := Try.sizeOf88
  v46 := Try.zeroValue88
  t50 := Try.underlying92
  a50 := Try.isAgg92
  z50 := Try.sizeOf92
  v50 := Try.zeroValue92
  t53 := Try.underlying95
  a53 := Try.isAgg95
  z53 := Try.sizeOf95
  v53 := Try.zeroValue95
  t55 := Try.underlying97
  a55 := Try.isAgg97
  z55 := Try.sizeOf97
  v55 := Try.zeroValue97
  t66 := Try.underlying104
  a66 := Try.isAgg104
  z66 := Try.sizeOf104
  v66 := Try.zeroValue104
  t70 := Try.underlying108
  a70 := Try.isAgg108
  z70 := Try.sizeOf108
  v70 := Try.zeroValue108
  t76 := Try.underlying112
  a76 := Try.isAgg112
  z76 := Try.sizeOf112
  v76 := Try.zeroValue112
  t77 := Try.underlying113
  a77 := Try.isAgg113
  z77 := Try.sizeOf113
  v77 := Try.zeroValue113 }
/-- boxes whose ids may be ids -/
structure OkB where
  val : BoxV
  ok : 1 ≤ val.f0 ∧ val.f0 ≤ 999
theorem okB_list (zs : List BoxV) (h : ∀ x ∈ zs, 1 ≤ x.f0 ∧ x.f0 ≤ 999) : ∃ zo : List OkB, zo.map (·.val) = zs := by
  induction zs with
  | nil => exact ⟨[], rfl⟩
  | cons z zs ih =>
    obtain ⟨zo, hzo⟩ := ih (fun x hx => h x (List.mem_cons_of_mem _ hx))
    exact ⟨⟨z, h z (List.mem_cons_self ..)⟩ :: zo, by simp [hzo]⟩
instance : Inhabited OkB := ⟨⟨⟨1, 0, 0, 0, false⟩, by decide⟩⟩
def okBC (x : OkB) : List Value := boxC x.val
theorem okB_map (zs : List OkB) : cellsOf okBC zs = boxs (zs.map (·.val)) := by
  induction zs with
  | nil => rfl
  | cons z zs ih =>
    show okBC z ++ cellsOf okBC zs = boxC z.val ++ cellsOf boxC (zs.map (·.val))
    rw [ih]; rfl
theorem cmpBox_any (x y : OkB) (W : World) : Calls Try.prog 53 #[.agg (okBC x).toArray, .agg (okBC y).toArray] W fun e w' => e = .returned (.int .i64 (x.val.f0 - y.val.f0)) ∧ ∃ q os', w' = grow (W.drewN q) os' := by
  obtain ⟨⟨x0, x1, x2, x3, x4⟩, hx⟩ := x
  obtain ⟨⟨y0, y1, y2, y3, y4⟩, hy⟩ := y
  dsimp only at hx hy
  obtain ⟨hx1, hx2⟩ := hx
  obtain ⟨hy1, hy2⟩ := hy
  have e1 : IntKind.i64.wrap (x0 - y0) = x0 - y0 := IntWalk.i64_in _ (by omega)
  show Calls Try.prog 53 #[.agg #[.int .i64 x0, .int .i64 x1, .int .i64 x2, .int .i64 x3, .bool x4], .agg #[.int .i64 y0, .int .i64 y1, .int .i64 y2, .int .i64 y3, .bool y4]] W _
  go_enter Try.func53, Try.ntmps53
  go_wp2
  go_ret
  exact ⟨rfl, 0, _, by rw [alloc_eq_grow, alloc_eq_grow, grow_grow]; rfl⟩
theorem swoBox : SWO (ltOf fun x y : OkB => x.val.f0 - y.val.f0) where
  irrefl x := by simp [ltOf]
  trans x y z h1 h2 := by simp [ltOf] at *; omega
  ntrans x y z h1 h2 := by simp [ltOf] at *; omega
theorem isAggBox (w : World) : (isAgg 40).run Try.prog w = .ok true w := Try.isAgg40 w
theorem sizeBox (w : World) : (Go.sizeOf 40).run Try.prog w = .ok 5 w := Try.sizeOf40 w
theorem sortFuncBox (g n cap base : Nat) (zs : List BoxV) (w : World) (hn : zs.length = n) (h : w.ownsRow base 40 5 (.slice (some ⟨g, 0, none⟩) n cap) n (boxs zs)) (hz : ∀ x ∈ zs, 1 ≤ x.f0 ∧ x.f0 ≤ 999) (hm : n ≤ 1048576) :
    Calls Try.prog 52 #[.slice (some ⟨g, 0, none⟩) n cap, .func (.func 53) #[] #[]] w fun e w' => e = .returned (.tuple #[]) ∧ ∃ ys : List BoxV, ys.Perm zs ∧ ys.Pairwise (fun x y => x.f0 ≤ y.f0) ∧ w'.ownsRow base 40 5 (.slice (some ⟨g, 0, none⟩) n cap) n (boxs ys) ∧ w.grownBy w' (some g) := by
  obtain ⟨zo, hzo⟩ := okB_list zs hz
  have hlen : zo.length = n := by rw [← hn, ← hzo, List.length_map]
  have h' : w.ownsRow base 40 5 (.slice (some ⟨g, 0, none⟩) n cap) n (cellsOf okBC zo) := by rw [okB_map, hzo]; exact h
  obtain ⟨hH, hg⟩ := holdsK_own okBC 5 (fun _ => rfl) (by decide) h'
  have eg : ∀ args w, (callFunc 53 args).run Try.prog w = .ok (.enter 53 args) w := enters_of Try.func53 (by kernel_rfl) rfl
  have hcon := AnyQ.slices_SortFunc Try.sortBoxL 5 isAggBox sizeBox okBC (fun _ => rfl) (fun x v hv => boxs_cell [x.val] v (by rw [boxs_one]; exact hv)) (fun x y => x.val.f0 - y.val.f0) swoBox 53 #[] g 0 cap zo.toArray w eg (fun m os dk _ x y => cmpBox_any x y _) hH hg (by simp; omega)
  rw [show zo.toArray.size = n from by simpa using hlen] at hcon
  refine hcon.mono ?_
  rintro e w' ⟨rfl, d', m, os, hp, hs, rfl⟩
  have hp' : PermIn 0 zo.toArray.size zo.toArray d' := by rw [show zo.toArray.size = n from by simpa using hlen]; exact hp
  have hs' : SortedIn (ltOf fun x y : OkB => x.val.f0 - y.val.f0) 0 zo.toArray.size d' := by rw [show zo.toArray.size = n from by simpa using hlen]; exact hs
  obtain ⟨hp2, hs2⟩ := sorted_list hp' hs'
  have hyl : d'.toList.length = n := by rw [hp2.length_eq]; simpa using hlen
  obtain ⟨o1, g1⟩ := own_sortedK (m := m) (os := os) okBC 5 (fun _ => rfl) (by decide) (ys := d'.toList) h' hyl
  rw [Array.toArray_toList] at o1 g1
  rw [okB_map] at o1
  refine ⟨rfl, d'.toList.map (·.val), ?_, ?_, o1, g1⟩
  · rw [← hzo]
    exact (hp2.map _).trans (by simp)
  · rw [List.pairwise_map]
    refine hs2.imp fun {x y} hxy => ?_
    simp [ltOf] at hxy
    omega
end Go.Proofs.Ytbhnlooellgfaaa
