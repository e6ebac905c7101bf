/- Lists of numbers and truths: comparing, marking, reading the marks. -/
import Derived.Test.YtehaacpeamhamaaOwn
import Derived.Test.YtehaacpeamhamaaProg
import Derived.Deep.QuietTactic
import Derived.BigQuiet
namespace Go.Proofs.Ytehaacpeamhamaa
open Go.ChangeShapes Go.WideShapes Go.ChangeAt Go.RowKit

/-- the marks k, k + 1 and so on; and whether each is a multiple of 3 -/
def marksI (k : Int) (n : Nat) : List Int := (List.range n).map fun (i : Nat) => k + (i : Int)
def marksB (k : Int) (n : Nat) : List Bool := (List.range n).map fun (i : Nat) => (k + (i : Int)) % 3 == 0
theorem marksI_len (k : Int) (n : Nat) : (marksI k n).length = n := by simp [marksI]
theorem marksB_len (k : Int) (n : Nat) : (marksB k n).length = n := by simp [marksB]
theorem marksI_succ (k : Int) (n : Nat) : marksI k (n + 1) = marksI k n ++ [k + (n : Int)] := by simp [marksI, List.range_succ]
theorem marksB_succ (k : Int) (n : Nat) : marksB k (n + 1) = marksB k n ++ [(k + (n : Int)) % 3 == 0] := by simp [marksB, List.range_succ]
theorem marksI_at (k : Int) (n j : Nat) (h : j < (marksI k n).length) : (marksI k n)[j] = k + (j : Int) := by simp [marksI]
theorem marksB_at (k : Int) (n j : Nat) (h : j < (marksB k n).length) : (marksB k n)[j] = ((k + (j : Int)) % 3 == 0) := by simp [marksB]
end Go.Proofs.Ytehaacpeamhamaa
