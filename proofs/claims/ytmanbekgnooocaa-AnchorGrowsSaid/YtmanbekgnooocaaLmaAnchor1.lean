import Derived.Test.YtmanbekgnooocaaLmTraR1
import Derived.Test.YtmanbekgnooocaaLmTraR2
import Derived.Test.YtmanbekgnooocaaLmaTa
import Derived.Test.YtmanbekgnooocaaLmB15
namespace Go.LM
open Go.Proofs
set_option maxRecDepth 8000
set_option maxHeartbeats 4000000
set_option linter.unusedSimpArgs false

theorem awAwake21 (h : H) : runI Try.prog TA 50 [] h = some (.bool true, h) := runI_known rfl
/-! ### of nil -/
end Go.LM
