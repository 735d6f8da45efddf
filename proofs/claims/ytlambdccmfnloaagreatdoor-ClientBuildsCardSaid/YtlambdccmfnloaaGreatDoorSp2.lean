/- usherlaw16: request. -/
import Derived.Test.YtlambdccmfnloaaGreatDoorLw16
import Derived.Test.YtlambdccmfnloaaGreatDoorTEq
import Derived.Test.YtlambdccmfnloaaGreatDoorSp1
import Derived.Laws.StructEq
namespace Go.Proofs.YtlambdccmfnloaaGreatDoor
open Go.RowKit
set_option maxRecDepth 100000
set_option maxHeartbeats 4000000

end Go.Proofs.YtlambdccmfnloaaGreatDoor
