/- slices.Clone at []int, by the shelf's contract. -/




import Derived.Test.YtcdjgbechigepaaDoorProg
namespace Go.Proofs.YtcdjgbechigepaaDoor

end Go.Proofs.YtcdjgbechigepaaDoor
