import Derived.Test.YtgbhkmgmpodnkaaLmcTa
import Derived.Test.YtgbhkmgmpodnkaaRows
import Derived.OpenShut
import Derived.ChangeOld
import Derived.Below
namespace Go.LM
open Go.Proofs
theorem len_cons {α : Type} {l : List α} {n : Nat} (h : l.length = n + 1) : ∃ a l', l = a :: l' ∧ l'.length = n := by
  cases l with
  | nil => cases h
  | cons a l => exact ⟨a, l, rfl, by simpa using h⟩
theorem wf_i64 {x : Int} (h : (Lit.int .i64 x).wf = true) : -9223372036854775808 ≤ x ∧ x < 9223372036854775808 := by
  simp [Lit.wf, IntKind.min, IntKind.max, IntKind.signed, IntKind.bits] at h; omega
theorem foll : Try.prog.follows .mixedOrders = true := by kernel_rfl
theorem tokA : TOk Try.prog TA := by
  intro f v h
  unfold TA at h
  split at h
  · rename_i hf
    cases h
    subst hf
    all_goals exact tok_of foll (by kernel_rfl) (n := 30) (by kernel_rfl)
  · cases h
end Go.LM
namespace Go.Proofs.Ytgbhkmgmpodnkaa
open Go.ChangeShapes Go.WideShapes Go.ChangeAt Go.RowKit Go.LM
set_option linter.unusedVariables false
theorem own : ownKnob Try.prog.godebug = none := by kernel_rfl
theorem laidOut : laidOutB Try.prog = true := by kernel_rfl
end Go.Proofs.Ytgbhkmgmpodnkaa
