/- Lists of texts: copying, comparing. -/
import Derived.Test.YtkdaekiihkkpkaaOwn
import Derived.Test.YtkdaekiihkkpkaaRR
import Derived.Test.YtkdaekiihkkpkaaProg
import Derived.Deep.QuietTactic
import Derived.BigQuiet
namespace Go.Proofs.Ytkdaekiihkkpkaa
open Go Go.ChangeShapes Go.WideShapes Go.ChangeAt Go.RowKit
theorem string_info : (Try.prog.info? 9).map (fun i => (i.zero, i.size, i.bytes)) = some (some (.string ⟨#[]⟩), 1, 16) := by kernel_rfl
end Go.Proofs.Ytkdaekiihkkpkaa
