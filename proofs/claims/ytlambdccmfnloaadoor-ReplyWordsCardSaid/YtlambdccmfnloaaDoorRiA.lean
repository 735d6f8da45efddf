/- usherlaw18: ints, response (of two that are one). -/
import Derived.Test.YtlambdccmfnloaaDoorLw18
import Derived.Test.YtlambdccmfnloaaDoorReE
import Derived.Laws.StructEq
namespace Go.Proofs.YtlambdccmfnloaaDoor
open Go.RowKit
set_option maxRecDepth 100000
set_option maxHeartbeats 4000000

end Go.Proofs.YtlambdccmfnloaaDoor
