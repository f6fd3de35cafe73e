import Derived.Test.YtmanbekgnooocaaLmC2
import Derived.Test.YtmanbekgnooocaaRows
import Derived.OpenShut
import Derived.ChangeOld
import Derived.Below
namespace Go.LM
open Go.Proofs
theorem len_cons {α : Type} {l : List α} {n : Nat} (h : l.length = n + 1) : ∃ a l', l = a :: l' ∧ l'.length = n := by
  cases l with
  | nil => cases h
  | cons a l => exact ⟨a, l, rfl, by simpa using h⟩
theorem ty_flo {n : Nat} {ls : List LV} (h : Ty Try.prog (n + 2) 24 ls) : ∃ f : Flo, .agg ls = f.e ∧ True := by
  simp only [Ty, ty_u24, ty_o24] at h
  obtain ⟨h1, h2⟩ := h
  obtain ⟨a, l1, rfl, k1⟩ := len_cons h1
  obtain ⟨b, l2, rfl, k2⟩ := len_cons k1
  obtain ⟨c, l3, rfl, k3⟩ := len_cons k2
  obtain rfl := List.length_eq_zero_iff.1 k3
  simp [ty_o3, ty_o22] at h2
  obtain ⟨⟨i, rfl, _⟩, ⟨j, rfl, _⟩, ⟨k, rfl, _⟩⟩ := h2
  exact ⟨⟨i, j, k⟩, rfl, trivial⟩
theorem wf_i64 {x : Int} (h : (Lit.int .i64 x).wf = true) : -9223372036854775808 ≤ x ∧ x < 9223372036854775808 := by
  simp [Lit.wf, IntKind.min, IntKind.max, IntKind.signed, IntKind.bits] at h; omega
theorem wf_u64 {x : Int} (h : (Lit.int .u64 x).wf = true) : 0 ≤ x ∧ x < 18446744073709551616 := by
  simp [Lit.wf, IntKind.min, IntKind.max, IntKind.signed, IntKind.bits] at h; omega
theorem wf_u8 {x : Int} (h : (Lit.int .u8 x).wf = true) : 0 ≤ x ∧ x < 256 := by
  simp [Lit.wf, IntKind.min, IntKind.max, IntKind.signed, IntKind.bits] at h; omega
theorem foll : Try.prog.follows .mixedOrders = true := by kernel_rfl
theorem tokA : TOk Try.prog TA := by
  intro f v h
  unfold TA at h
  split at h
  · rename_i hf
    cases h
    rcases hf with rfl | rfl | rfl
    · exact tok_of foll (by kernel_rfl) (n := 30) (by kernel_rfl)
    · exact tok_of foll (by kernel_rfl) (n := 30) (by kernel_rfl)
    · exact tok_of foll (by kernel_rfl) (n := 30) (by kernel_rfl)
  · cases h
end Go.LM
namespace Go.Proofs.Ytmanbekgnooocaa
open Go.ChangeShapes Go.WideShapes Go.ChangeAt Go.RowKit Go.LM
set_option linter.unusedVariables false
theorem own : ownKnob Try.prog.godebug = none := by kernel_rfl
theorem laidOut : laidOutB Try.prog = true := by kernel_rfl
end Go.Proofs.Ytmanbekgnooocaa
