import Derived.Test.YtgbhkmgmpodnkaaLmTrcFa
namespace Go.LM
open Go.Proofs
/-- The answers that are known: each 'awake' is true. -/
def TA (f : Nat) : Option LV := if f = 34 then some (.bool true) else none
end Go.LM
