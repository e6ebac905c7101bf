/- A number within bounds, as a Boolean. -/
namespace Go.Proofs.YtenhmndknfhigaaDoor
def inI (a lo hi : Int) : Bool := decide (lo ≤ a) && decide (a ≤ hi)
end Go.Proofs.YtenhmndknfhigaaDoor
