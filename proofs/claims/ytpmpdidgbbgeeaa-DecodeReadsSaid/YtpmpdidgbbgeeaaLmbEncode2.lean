import Derived.Test.YtpmpdidgbbgeeaaLmTrbR2
import Derived.Test.YtpmpdidgbbgeeaaLmTrbR3
import Derived.Test.YtpmpdidgbbgeeaaLmbEncode1
import Derived.Test.YtpmpdidgbbgeeaaLmB21
namespace Go.LM
open Go.Proofs
set_option maxRecDepth 8000
set_option maxHeartbeats 4000000
set_option linter.unusedSimpArgs false

end Go.LM
