/- What hands bytes of its own back. -/
import Derived.Test.YtmjekdnfkgalbaaGreatDoorFPl
namespace Go.Proofs.YtmjekdnfkgalbaaGreatDoor
open Go.RowKit
def BytesPost (w : World) (l : Bs) (e : Ending) (w' : World) : Prop := ∃ v, e = .returned v ∧ OB w' w.heap.size v l ∧ Below w.heap.size w w'
end Go.Proofs.YtmjekdnfkgalbaaGreatDoor
