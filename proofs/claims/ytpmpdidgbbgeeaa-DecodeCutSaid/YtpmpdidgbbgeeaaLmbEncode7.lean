import Derived.Test.YtpmpdidgbbgeeaaLmTrbR2
import Derived.Test.YtpmpdidgbbgeeaaLmbEncode6
namespace Go.LM
open Go.Proofs
set_option maxRecDepth 8000
set_option maxHeartbeats 8000000
set_option linter.unusedSimpArgs false

/-- The boxes of a job, and of what is told of it. -/
structure JBox (j : JobR) (h0 : H) (h : H) : Prop where
  job : h.get h0.len = some ⟨false, [.int .i64 j.g.c0, .int .i64 j.g.c1, .int .i64 j.g.c2, .int .i64 j.g.c3, .int .i64 j.g.c4, .int .i64 j.g.c5, .int .i64 j.g.c6, .int .i64 j.g.c7, .int .i64 j.g.c8, .int .i64 j.g.c9, .int .i64 j.g.c10, .int .i64 j.g.c11, .int .i64 j.g.c12, .int .i64 j.g.c13, .int .i64 j.g.c14, .int .i64 j.g.c15, .int .i64 j.g.c16, .int .i64 j.g.c17, .bool j.g.bal, mkS j.oi 7 (j.items.map ItemR.e), mkS j.on 2 (j.notes.map NoteR.e), mkS j.of 3 (j.floats.map FloatR.e)]⟩
  res : h.get (h0.len + 1) = some ⟨false, [.nils, .bool false]⟩
  keep : Keep h0 h
theorem JBox.next {j : JobR} {h0 h h' : H} (b : JBox j h0 h) (k : Keep h h') : JBox j h0 h' := ⟨(k.get (lt_of_get b.job)).trans b.job, (k.get (lt_of_get b.res)).trans b.res, b.keep.trans k⟩
theorem JBox.same {j : JobR} {h0 h h' : H} (b : JBox j h0 h) (hg : ∀ c, h'.get c = h.get c) (k : Keep h0 h') : JBox j h0 h' := ⟨(hg _).trans b.job, (hg _).trans b.res, k⟩
end Go.LM
