import Derived.Test.YtgbhkmgmpodnkaaLmTrcFa
namespace Go.LM
open Go.Proofs
/-- The answers that are known: each 'awake' is true. -/
def TA (f : Nat) : Option LV := if f = 11 ∨ f = 17 then some (.bool true) else none
end Go.LM
