/- Texts in a walk: a byte, a piece, one behind the other. -/
import Derived.Test.YtcdjgbechigepaaDoorBase
import Derived.Test.YtcdjgbechigepaaDoorProg
import Derived.Laws.Concat
import Derived.Laws.Strings2
import Derived.Laws.Strings3
import Derived.Laws.BytesString
import Derived.Deep.QuietTactic
import Derived.BigQuiet
namespace Go.Proofs.YtcdjgbechigepaaDoor
open Go Go.ChangeShapes Go.WideShapes Go.ChangeAt Go.RowKit
/-- a text by its bytes -/
abbrev txt (l : List UInt8) : ByteArray := ⟨l.toArray⟩
theorem str_get (s : ByteArray) (k : Nat) (h : k < s.size) : s[k] = s.data.toList[k]'(by simpa using h) := rfl
theorem cat_mk (a b : List UInt8) : txt a ++ txt b = txt (a ++ b) := by unfold txt; rw [ByteArray.mk_append_mk]
theorem txt_size (a : List UInt8) : (txt a).size = a.length := by show a.toArray.size = _; simp
theorem txt_list (s : ByteArray) : txt s.data.toList = s := by cases s; simp [txt]
theorem list_len (s : ByteArray) : s.data.toList.length = s.size := by simp
theorem cut_mk (l : List UInt8) (a b : Nat) : (txt l).extract a b = txt ((l.take b).drop a) := by
  unfold txt
  rw [ByteArray.extract_mk, List.take_drop]
  by_cases h : a ≤ b
  · rw [show a + (b - a) = b from by omega]
  · rw [show a + (b - a) = a from by omega, List.drop_eq_nil_of_le (by simp; omega), List.drop_eq_nil_of_le (by simp; omega)]
theorem cut_str (s : ByteArray) (a b : Nat) : s.extract a b = txt ((s.data.toList.take b).drop a) := by
  conv => lhs; rw [← txt_list s]
  exact cut_mk _ _ _
theorem cut_one (s : ByteArray) (k : Nat) (h : k < s.size) : s.extract k (k + 1) = txt [s[k]] := by
  rw [cut_str, List.take_succ_eq_append_getElem (by simpa using h), List.drop_left' (by simp; omega)]
  rfl
/-- a + b -/
theorem run_cat {P : Program} (a b : List UInt8) (h : a.length + b.length ≤ 9223372036854775807) (w : World) : (Op.stringOp .add (txt a) (txt b)).run P w = .ok (.string (txt (a ++ b))) w := by
  rw [run_string_add_sum w _ _ (by rw [txt_size, txt_size]; exact h), cat_mk]
/-- s[k:k+1] -/
theorem run_one {P : Program} (t : TypeId) (ht : P.underlying t = some .string) (s : ByteArray) (k : Nat) (h : k < s.size) (w : World) :
    (Instr.slice t (.string s) (some (.int .i64 (k : Int))) (some (.int .i64 ((k : Int) + 1))) none).run P w = .ok (.string (txt [s[k]])) w := by
  rw [run_slice_string (P := P) w t s .i64 .i64 (k : Int) ((k : Int) + 1) ht (by omega) (by omega) (by omega), ← cut_one s k h]
  rfl
/-- s[:k] -/
theorem run_upto {P : Program} (t : TypeId) (ht : P.underlying t = some .string) (s : ByteArray) (k : Nat) (h : k ≤ s.size) (w : World) :
    (Instr.slice t (.string s) none (some (.int .i64 (k : Int))) none).run P w = .ok (.string (txt (s.data.toList.take k))) w := by
  rw [run_slice_string_h (P := P) w t s ht .i64 (k : Int) (by omega) (by omega), cut_str]
  rfl
/-- s[k:] -/
theorem run_from {P : Program} (t : TypeId) (ht : P.underlying t = some .string) (s : ByteArray) (k : Nat) (h : k ≤ s.size) (w : World) :
    (Instr.slice t (.string s) (some (.int .i64 (k : Int))) none none).run P w = .ok (.string (txt (s.data.toList.drop k))) w := by
  rw [run_slice_string_l (P := P) w t s ht .i64 (k : Int) (by omega) (by omega), cut_str, List.take_of_length_le (by simp)]
  rfl
end Go.Proofs.YtcdjgbechigepaaDoor
