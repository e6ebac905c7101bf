/- How great texts are: what is not too great is bounded. -/
import Derived.Test.YtljbbhipdfnppaaStrSS
namespace Go.Proofs.Ytljbbhipdfnppaa
open Go Go.ChangeShapes Go.WideShapes Go.ChangeAt Go.RowKit
end Go.Proofs.Ytljbbhipdfnppaa
