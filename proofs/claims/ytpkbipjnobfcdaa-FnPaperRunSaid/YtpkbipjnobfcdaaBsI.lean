/- slices.BinarySearch at []int, by the shelf's contract: where a number is to be put. -/
import Derived.Ground.Names2Prog
import Derived.Shelf.Slices.SearchI
import Derived.Shelf.Slices.Empties
import Derived.Test.YtpkbipjnobfcdaaIntI
import Derived.Test.YtpkbipjnobfcdaaProg
namespace Go.Proofs.Ytpkbipjnobfcdaa
open Go Go.Shelf Go.ChangeShapes Go.WideShapes Go.ChangeAt Go.RowKit
set_option linter.unusedVariables false
def Try.bsA_ren : Go.Shelf.Ren := ⟨fun | 25 => 76 | 31 => 88 | 32 => 89 | 37 => 93 | n => n, fun | 22 => 24 | 3 => 3 | 4 => 4 | 40 => 106 | 0 => 0 | n => n, fun | n => n⟩
theorem Try.bsA : Go.Proofs.Lays2.n25 Try.prog Try.bsA_ren := {
  mixed := by kernel_rfl
  f25 := Try.func76.trans (congrArg some (by kernel_rfl))
  f31 := Try.func88.trans (congrArg some (by kernel_rfl))
  f32 := Try.func89.trans (congrArg some (by kernel_rfl))
  f37 := Try.func93.trans (congrArg some (by kernel_rfl))
  t0 := Try.underlying0
  a0 := Try.isAgg0
  z0 := Try.sizeOf0
  v0 := Try.zeroValue0
  t3 := Try.underlying3
  a3 := Try.isAgg3
  z3 := Try.sizeOf3
  v3 := Try.zeroValue3
  t4 := Try.underlying4
  a4 := Try.isAgg4
  z4 := Try.sizeOf4
  v4 := Try.zeroValue4
  t22 := Try.underlying24
  a22 := Try.isAgg24
  z22 := Try.sizeOf24
  v22 := Try.zeroValue24
  t40 := Try.underlying106
  a40 := Try.isAgg106
  z40 := Try.sizeOf106
  v40 := Try.zeroValue106 }
theorem search_int (A : Option Addr) (n c : Nat) (zs : List Int) (x : Int) (w : World) (hn : zs.length = n) (hr : RdV w A (ints zs)) (hm : n ≤ 1048576) (hs : zs.Pairwise (· < ·)) :
    Calls Try.prog 76 #[.slice A n c, .int .i64 x] w fun e w' => e = .returned (.tuple #[.int .i64 (zs.countP (· < x) : Nat), .bool (zs.contains x)]) ∧ Below w.heap.size w w' := by
  rcases hr with h | ⟨b, off, rfl, hl, hc⟩
  · obtain rfl : zs = [] := by simpa [ints] using h
    obtain rfl : n = 0 := by simpa using hn.symm
    refine (Any.slices_BinarySearch_int_empty Try.bsA A c x w).mono ?_
    rintro e w' ⟨rfl, rfl⟩
    exact ⟨rfl, Below.refl _ _⟩
  · have h1 : zs.take n = zs := List.take_of_length_le (by omega)
    have := Any.slices_BinarySearch_int Try.bsA b off n c zs x w (by omega) (by omega) (fun j hj => by
      have := hc j (by rw [ints_len]; exact hj)
      rw [this, ints_at]
      simp [List.getD, List.getElem?_eq_getElem hj]) (by rw [h1]; exact hs.imp Int.le_of_lt)
    rw [h1] at this
    refine this.mono ?_
    rintro e w' ⟨rfl, q, rfl⟩
    exact ⟨rfl, below_drewN (Below.refl _ _) q⟩
theorem insL_count {zs : List Int} {x : Int} (hs : zs.Pairwise (· < ·)) : zs.countP (· < x) ≤ zs.length ∧ insI zs (zs.countP (· < x)) x = insL zs x := by
  refine ⟨List.countP_le_length, ?_⟩
  induction zs with
  | nil => rfl
  | cons a r ih =>
    have hr := (List.pairwise_cons.1 hs).2
    have ha := (List.pairwise_cons.1 hs).1
    by_cases h : a < x
    · rw [List.countP_cons_of_pos (by simpa using h), insL, if_pos h, ← ih hr]
      simp [insI]
    · have hz : (a :: r).countP (· < x) = 0 := by
        rw [List.countP_eq_zero]
        intro b hb
        rcases List.mem_cons.1 hb with rfl | hb
        · simpa using h
        · have := ha b hb
          simp; omega
      rw [hz, insL, if_neg h]
      simp [insI]
end Go.Proofs.Ytpkbipjnobfcdaa
