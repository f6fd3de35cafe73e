import Derived.Test.YtpmpdidgbbgeeaaLmbTa
import Derived.Test.YtpmpdidgbbgeeaaRows
import Derived.OpenShut
import Derived.ChangeOld
import Derived.Below
namespace Go.LM
open Go.Proofs
theorem wf_u8 {x : Int} (h : (Lit.int .u8 x).wf = true) : 0 ≤ x ∧ x < 256 := by
  simp [Lit.wf, IntKind.min, IntKind.max, IntKind.signed, IntKind.bits] at h; omega
theorem foll : Try.prog.follows .mixedOrders = true := by kernel_rfl
theorem tokA : TOk Try.prog TA := by
  intro f v h
  unfold TA at h
  split at h
  · rename_i hf
    cases h
    rcases hf with rfl | rfl | rfl | rfl | rfl
    all_goals exact tok_of foll (by kernel_rfl) (n := 30) (by kernel_rfl)
  · cases h
end Go.LM
namespace Go.Proofs.Ytpmpdidgbbgeeaa
open Go.ChangeShapes Go.WideShapes Go.ChangeAt Go.RowKit Go.LM
set_option linter.unusedVariables false
theorem own : ownKnob Try.prog.godebug = none := by kernel_rfl
theorem laidOut : laidOutB Try.prog = true := by kernel_rfl
end Go.Proofs.Ytpmpdidgbbgeeaa
