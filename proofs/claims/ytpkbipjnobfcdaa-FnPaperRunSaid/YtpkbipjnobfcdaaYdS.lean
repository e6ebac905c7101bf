/- The reference's StackValid and YardValid return the plain words. -/
import Derived.Test.YtpkbipjnobfcdaaYdI
import Derived.Test.YtpkbipjnobfcdaaOwnStep
namespace Go.Proofs.Ytpkbipjnobfcdaa
open Go Go.ChangeShapes Go.WideShapes Go.ChangeAt Go.RowKit
set_option linter.unusedVariables false
theorem int_infoY : Info Try.prog 3 (.int .i64 0) 1 8 := Info.mk' int_info rfl (by decide) (by decide)
end Go.Proofs.Ytpkbipjnobfcdaa
