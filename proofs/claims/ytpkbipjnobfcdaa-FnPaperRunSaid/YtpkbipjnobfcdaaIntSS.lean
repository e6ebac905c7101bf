/- Lists of lists of numbers: copying, comparing, their size, marking, reading the marks. -/
import Derived.Test.YtpkbipjnobfcdaaIntM
import Derived.Test.YtpkbipjnobfcdaaInts
import Derived.Test.YtpkbipjnobfcdaaRRO
import Derived.Deep.RegionHeld3
namespace Go.Proofs.Ytpkbipjnobfcdaa
open Go Go.ChangeShapes Go.WideShapes Go.ChangeAt Go.RowKit
set_option linter.unusedVariables false
/-- lists of numbers as cells -/
def intss (ess : List (List Int)) : List (List Value) := ess.map ints
theorem intss_len (ess : List (List Int)) : (intss ess).length = ess.length := by simp [intss]
theorem intss_at (ess : List (List Int)) (k : Nat) (h : k < (intss ess).length) : (intss ess)[k] = ints (ess[k]'(by simpa [intss] using h)) := by simp [intss]
theorem ints_app (a b : List Int) : ints (a ++ b) = ints a ++ ints b := by simp [ints]
theorem ints_info : (Try.prog.info? 24).map (fun i => (i.zero, i.size, i.bytes)) = some (some (.slice none 0 0), 1, 24) := by kernel_rfl
theorem cp_snoc (z : Value) (hs : List Value) (k n : Nat) (h : hs.length = k) (hk : k < n) (u : Value) : (hs ++ List.replicate (n - k) z).set k u = (hs ++ [u]) ++ List.replicate (n - (k + 1)) z := by
  rw [List.set_append_right _ _ (by omega), h, Nat.sub_self]
  obtain ⟨m, hm⟩ : ∃ m, n - k = m + 1 := ⟨n - k - 1, by omega⟩
  have hm' : n - (k + 1) = m := by omega
  rw [hm, hm', List.replicate_succ, List.set_cons_zero, List.append_assoc]
  rfl
set_option maxHeartbeats 1000000 in
theorem szIntS_any (A : Option Addr) (n c : Nat) (w : World) (hm : n ≤ 9223372036854775807) (l : Int) (h0 : 0 ≤ l) (h1 : l ≤ 1048576) :
    Calls Try.prog 58 #[.slice A n c, .int .i64 l] w (RInt fun r w' => r ≤ l ∧ (0 ≤ r → r = l - (n : Int)) ∧ w = w') := by
  by_cases hn : (n : Int) ≤ l
  · go_enter Try.func58, Try.ntmps58
    go_wp2
    go_ret
    exact RInt.mk ⟨by omega, fun _ => rfl, rfl⟩
  · go_enter Try.func58, Try.ntmps58
    go_wp2
    go_ret
    exact RInt.mk ⟨by omega, fun h => by omega, rfl⟩
def totI (l : List (List Int)) : Nat := (l.map List.length).sum
theorem totI_snoc (l : List (List Int)) (r : List Int) : totI (l ++ [r]) = totI l + r.length := by simp [totI]
/-- marked rows -/
def mkRI : Nat → List (List Int) → List (List Int)
  | _, [] => []
  | k, r :: rs => marksI (k : Int) r.length :: mkRI (k + r.length) rs
theorem mkRI_len (k : Nat) (l : List (List Int)) : (mkRI k l).length = l.length := by
  induction l generalizing k with
  | nil => rfl
  | cons r rs ih => simp [mkRI, ih]
theorem totI_cons (r : List Int) (l : List (List Int)) : totI (r :: l) = r.length + totI l := by simp [totI]
theorem mkRI_snoc (k : Nat) (l : List (List Int)) (r : List Int) : mkRI k (l ++ [r]) = mkRI k l ++ [marksI ((k + totI l : Nat) : Int) r.length] := by
  induction l generalizing k with
  | nil => simp [mkRI, totI]
  | cons a l ih =>
    simp only [List.cons_append, mkRI, ih, totI_cons]
    rw [Nat.add_assoc]
theorem totI_take (l : List (List Int)) (j : Nat) : totI (l.take j) ≤ totI l := by
  induction l generalizing j with
  | nil => simp
  | cons a l ih =>
    cases j with
    | zero => simp [totI]
    | succ j =>
      simp only [List.take_succ_cons, totI_cons]
      have := ih j
      omega
theorem mkRI_at (k : Nat) (l : List (List Int)) (j : Nat) (h : j < (mkRI k l).length) (h' : j < l.length) : (mkRI k l)[j] = marksI ((k + totI (l.take j) : Nat) : Int) (l[j]).length := by
  induction l generalizing k j with
  | nil => simp at h'
  | cons a l ih =>
    cases j with
    | zero => simp [mkRI, totI]
    | succ j =>
      simp only [mkRI, List.getElem_cons_succ, List.take_succ_cons, totI_cons]
      rw [ih (k + a.length) j (by simpa [mkRI] using h) (by simpa using h')]
      rw [Nat.add_assoc]
theorem intss_app (a b : List (List Int)) : intss (a ++ b) = intss a ++ intss b := by simp [intss]
end Go.Proofs.Ytpkbipjnobfcdaa
