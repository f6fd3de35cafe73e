/-
  Proved: the law FigureTells of the program tympan returns true for every float, and the float reads as before. No condition.
  The proof: a logical machine (texts LmA to LmZ) over the model's code, sound for the model; contracts of the functions in it; the law.
-/
import Derived.Test.YtmanbekgnooocaaLmC2
import Derived.Test.YtmanbekgnooocaaRows
import Derived.OpenShut
import Derived.ChangeOld
import Derived.Below
namespace Go.LM
open Go.Proofs
theorem len_cons {α : Type} {l : List α} {n : Nat} (h : l.length = n + 1) : ∃ a l', l = a :: l' ∧ l'.length = n := by
  cases l with
  | nil => cases h
  | cons a l => exact ⟨a, l, rfl, by simpa using h⟩
theorem ty_flo {n : Nat} {ls : List LV} (h : Ty Try.prog (n + 2) 24 ls) : ∃ f : Flo, .agg ls = f.e ∧ True := by
  simp only [Ty, ty_u24, ty_o24] at h
  obtain ⟨h1, h2⟩ := h
  obtain ⟨a, l1, rfl, k1⟩ := len_cons h1
  obtain ⟨b, l2, rfl, k2⟩ := len_cons k1
  obtain ⟨c, l3, rfl, k3⟩ := len_cons k2
  obtain rfl := List.length_eq_zero_iff.1 k3
  simp [ty_o3, ty_o22] at h2
  obtain ⟨⟨i, rfl, _⟩, ⟨j, rfl, _⟩, ⟨k, rfl, _⟩⟩ := h2
  exact ⟨⟨i, j, k⟩, rfl, trivial⟩
theorem foll : Try.prog.follows .mixedOrders = true := by kernel_rfl
theorem tokA : TOk Try.prog TA := by
  intro f v h
  unfold TA at h
  split at h
  · rename_i hf
    cases h
    rcases hf with rfl | rfl | rfl
    · exact tok_of foll (by kernel_rfl) (n := 30) (by kernel_rfl)
    · exact tok_of foll (by kernel_rfl) (n := 30) (by kernel_rfl)
    · exact tok_of foll (by kernel_rfl) (n := 30) (by kernel_rfl)
  · cases h
end Go.LM
namespace Go.Proofs.Ytmanbekgnooocaa
open Go.ChangeShapes Go.WideShapes Go.ChangeAt Go.RowKit Go.LM
set_option linter.unusedVariables false
theorem own : ownKnob Try.prog.godebug = none := by kernel_rfl
theorem laidOut : laidOutB Try.prog = true := by kernel_rfl
namespace law3
set_option maxRecDepth 100000 in
theorem lifted (os : Os) (started : os.Started) (H : Type) (enc : TypeId × Value → H) :
    ReturnsInHanded {} Try.checked os 3 .any (Rows.figureTellsSpec.pre6 enc Try.prog Try.f3 Rows.figureTellsRow.domain false) (Rows.figureTellsSpec.post enc Try.prog Try.f3 false true false false) := by
  refine returnsInHanded_of_change (C := Try.checked) own started (by kernel_rfl) Try.func3
    (ChangeSpec.witness6 (enc := enc) (C := Try.checked) false ⟨#[], #[.agg #[.int .i64 0, .int .i64 0, .int .i64 0]], []⟩ 8 (by kernel_rfl) (by kernel_rfl) (by kernel_rfl) (by kernel_rfl)) ?_
  intro W base args ds gs before hval0 hW hcnd _
  have hval : ∀ (j : Nat) t v, Try.f3.params[j]? = some t → args[j]? = some v → Value.okWide Try.prog W .any base t v := hval0
  have hW' := hW
  obtain ⟨p, q, hA0, hV, rfl, hfz, hnd⟩ := hW
  have hA : DataW.TrodAll enc Try.prog W 0 (fun _ => true) true Try.f3.params.toList args.toList ds p := hA0
  rw [Try.params3] at hA hval
  obtain ⟨v0, vs0, d0, ds0, p0, q0, hargs, rfl, rfl, h0, r0⟩ := trodAll_cons hA
  obtain ⟨rfl, rfl, rfl⟩ := trodAll_nil r0
  obtain rfl : args = #[v0] := by cases args; simp_all
  obtain ⟨rfl, rfl⟩ := trodVars_none hV
  have lt0 : ∀ x ∈ p0, x.block < W.heap.size := by obtain ⟨m, hm⟩ := h0; exact DataW.trod_lt m _ _ _ hm
  obtain ⟨l0, e0, t0⟩ := open_agg 8 ty_a24 (hval 0 24 v0 rfl rfl) h0 (by kernel_rfl)
  obtain ⟨f, e, _⟩ := ty_flo t0
  rw [e] at e0
  obtain ⟨h', hl⟩ := l3 f
  clear hA0 hval0
  refine (calls_true tokA foll (VRs.cons e0 .nil) hl).mono fun e W' ⟨he, bel⟩ => ?_
  subst he
  exact ⟨_, rfl, _, _, _, [], _, [], hW', trodAll_mk1 (shut_bool Try.underlying4 _), (trodAll_cons_mk (Below.trod laidOut (by kernel_rfl) (of_decide_eq_true (by kernel_rfl)) h0 bel lt0) trodAll_mk0), rfl, bel.frame _, fun h => by cases h⟩

theorem over : Rows.figureTellsRow.holds Try.pinned (OpenSpec.ofChange Rows.figureTellsSpec) :=
  OpenClaim.holds_of_wide 3 Try.f3 rfl rfl rfl rfl rfl rfl rfl ⟨rfl, rfl, rfl, rfl, rfl⟩ rfl rfl rfl rfl rfl (by kernel_rfl) Try.func3 (by kernel_rfl)
    (of_decide_eq_true (by kernel_rfl)) (by unfold Func.isWrapper; first | (rw [if_pos (by decide +kernel)]; kernel_rfl) | (rw [if_neg (by decide +kernel)]; exact ⟨rfl, rfl⟩))
    (fun os started H enc _ => lifted os started H enc)

/-- ████ THE STATEMENT ████ -/
theorem proved : Rows.FigureTellsSaid := over
#print axioms proved
end law3
end Go.Proofs.Ytmanbekgnooocaa
