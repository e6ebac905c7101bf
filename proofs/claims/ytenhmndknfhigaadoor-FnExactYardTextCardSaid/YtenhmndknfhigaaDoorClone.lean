/- slices.Clone at []int, by the shelf's contract. -/




import Derived.Test.YtenhmndknfhigaaDoorProg
namespace Go.Proofs.YtenhmndknfhigaaDoor

end Go.Proofs.YtenhmndknfhigaaDoor
