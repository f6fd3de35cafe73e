import Derived.Test.YtmanbekgnooocaaLmTraFa
namespace Go.LM
open Go.Proofs
/-- The answers that are known: each 'awake' is true. -/
def TA (f : Nat) : Option LV := if f = 19 ∨ f = 27 ∨ f = 48 ∨ f = 50 then some (.bool true) else none
end Go.LM
