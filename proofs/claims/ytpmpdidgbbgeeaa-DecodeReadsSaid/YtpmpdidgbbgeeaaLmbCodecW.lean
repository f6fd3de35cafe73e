import Derived.Test.YtpmpdidgbbgeeaaLmTrbR1
import Derived.Test.YtpmpdidgbbgeeaaLmTrbR2
import Derived.Test.YtpmpdidgbbgeeaaLmbPress2
import Derived.Test.YtpmpdidgbbgeeaaLmB8
namespace Go.LM
open Go.Proofs
set_option maxRecDepth 8000
set_option maxHeartbeats 2000000
set_option linter.unusedSimpArgs false

end Go.LM
