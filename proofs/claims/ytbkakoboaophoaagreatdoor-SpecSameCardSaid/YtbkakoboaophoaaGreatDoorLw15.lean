/- usherlaw15: same, fields, roomy, stands. -/
import Derived.Test.YtbkakoboaophoaaGreatDoorFPl
import Derived.Test.YtbkakoboaophoaaGreatDoorPlain
namespace Go.Proofs.YtbkakoboaophoaaGreatDoor
open Go.RowKit
set_option maxRecDepth 100000
set_option maxHeartbeats 2000000

end Go.Proofs.YtbkakoboaophoaaGreatDoor
