/- A number within bounds, as a Boolean. -/
namespace Go.Proofs.YtcdjgbechigepaaDoor
def inI (a lo hi : Int) : Bool := decide (lo ≤ a) && decide (a ≤ hi)
end Go.Proofs.YtcdjgbechigepaaDoor
