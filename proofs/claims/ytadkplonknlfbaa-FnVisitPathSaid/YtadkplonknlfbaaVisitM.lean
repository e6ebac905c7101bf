/- VisitMany, the reference's and the program's, returns what the plain function says. -/
import Derived.Test.YtadkplonknlfbaaVisit
namespace Go.Proofs.Ytadkplonknlfbaa
open Go.ChangeShapes Go.WideShapes Go.ChangeAt Go.RowKit
def visitMany (s : Int) (es : List Int) (x : Int) : Int := if 0 ≤ s ∧ s ≤ 4 then (vmany x (s, 0) es).2 else 0
end Go.Proofs.Ytadkplonknlfbaa
