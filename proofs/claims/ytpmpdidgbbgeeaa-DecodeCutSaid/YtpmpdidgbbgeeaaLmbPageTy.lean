import Derived.Test.YtpmpdidgbbgeeaaLmbD0
import Derived.Test.YtpmpdidgbbgeeaaLmB10
namespace Go.LM
open Go.Proofs
set_option maxRecDepth 8000
theorem ty_struct {P : Program} {n : Nat} {t : TypeId} {fs : Array Field} {ls : List LV} (hu : P.underlying t = some (.struct fs)) (h : Ty P (n + 1) t ls) : ls.length = P.cellsOf t ∧ ∀ f ∈ fs.toList, Ty P n f.type ((ls.drop f.offset).take (P.cellsOf f.type)) := by
  rw [Ty, hu] at h; exact h
end Go.LM
