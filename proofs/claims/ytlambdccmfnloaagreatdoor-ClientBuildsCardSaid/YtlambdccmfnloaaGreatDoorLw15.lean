/- usherlaw15: same, fields, roomy, stands. -/
import Derived.Test.YtlambdccmfnloaaGreatDoorFPl
import Derived.Test.YtlambdccmfnloaaGreatDoorPlain
namespace Go.Proofs.YtlambdccmfnloaaGreatDoor
open Go.RowKit
set_option maxRecDepth 100000
set_option maxHeartbeats 2000000

end Go.Proofs.YtlambdccmfnloaaGreatDoor
