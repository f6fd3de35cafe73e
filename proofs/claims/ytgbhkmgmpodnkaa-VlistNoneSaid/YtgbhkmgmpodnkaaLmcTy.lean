import Derived.Test.YtgbhkmgmpodnkaaLmcD0
import Derived.Test.YtgbhkmgmpodnkaaLmB15
namespace Go.LM
open Go.Proofs
set_option maxRecDepth 16000
end Go.LM
