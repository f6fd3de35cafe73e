import Derived.Test.YtpmpdidgbbgeeaaLmTrbR2
import Derived.Test.YtpmpdidgbbgeeaaLmTrbR3
import Derived.Test.YtpmpdidgbbgeeaaLmbEncode7
import Derived.Test.YtpmpdidgbbgeeaaLmB23
namespace Go.LM
open Go.Proofs
set_option maxRecDepth 8000
set_option maxHeartbeats 4000000
set_option linter.unusedSimpArgs false

/-! ### are jobs the same? -/
structure NBox (x y : NoteR) (h0 h : H) : Prop where
  a : h.get h0.len = some ⟨false, [ints x.ol x.lines, ints x.op x.pens]⟩
  b : h.get (h0.len + 1) = some ⟨false, [ints y.ol y.lines, ints y.op y.pens]⟩
  keep : Keep h0 h
end Go.LM
