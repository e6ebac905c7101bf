/- What the list 'laid' gives of strconv's two errors. -/
import Derived.Test.YtcdjgbechigepaaDoorAtoi
import Derived.Stop.LaidErr
import Derived.LaidLaws
namespace Go.Proofs.YtcdjgbechigepaaDoor
open Go Go.ChangeShapes Go.WideShapes Go.ChangeAt Go.RowKit
set_option linter.unusedVariables false
theorem star_err : "*" ++ "errors.errorString" = "*errors.errorString" := by decide
theorem row_err (u : TypeId) (h : Tryd.prog.typeName? 3 u = some "*errors.errorString") : u = 103 :=
  typeName_ptr_named (nm := "errors.errorString") (by rw [star_err]; kernel_rfl) (by kernel_rfl) (by decide) u (by rw [star_err]; exact h)
theorem errs_of_two {W : World} {t1 t2 : List UInt8} {r : List (String × DataW Unit)} (h : laidMet Tryd.prog (("strconv.ErrRange", .iface "*errors.errorString" (.ptr (.agg [.lit (.string t1)]))) :: ("strconv.ErrSyntax", .iface "*errors.errorString" (.ptr (.agg [.lit (.string t2)]))) :: r) W) : ErrsW W := by
  obtain ⟨a1, s1, v1, _, _, _⟩ := laid_sentinel (g := 1) (ti := 46) h (by kernel_rfl) (by kernel_rfl) Tryd.underlying46 row_err Tryd.underlying103 Tryd.underlying105 rfl rfl Tryd.underlying9 (by kernel_rfl) (by kernel_rfl)
  obtain ⟨a0, s0, v0, _, _, _⟩ := laid_sentinel (g := 0) (ti := 46) h.tail (by kernel_rfl) (by kernel_rfl) Tryd.underlying46 row_err Tryd.underlying103 Tryd.underlying105 rfl rfl Tryd.underlying9 (by kernel_rfl) (by kernel_rfl)
  exact errsW_of v0 v1
end Go.Proofs.YtcdjgbechigepaaDoor
