import Derived.Test.YtpmpdidgbbgeeaaLmTrbFa
namespace Go.LM
open Go.Proofs
/-- The answers that are known: each 'awake' is true. -/
def TA (f : Nat) : Option LV := if f = 20 ∨ f = 27 ∨ f = 33 ∨ f = 49 ∨ f = 65 then some (.bool true) else none
end Go.LM
