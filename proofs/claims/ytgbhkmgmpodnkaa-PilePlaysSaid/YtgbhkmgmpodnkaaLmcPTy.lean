import Derived.Test.YtgbhkmgmpodnkaaLmcD0
import Derived.Test.YtgbhkmgmpodnkaaLmB13
namespace Go.LM
open Go.Proofs
set_option maxRecDepth 16000
theorem ty_struct {P : Program} {n : Nat} {t : TypeId} {fs : Array Field} {ls : List LV} (hu : P.underlying t = some (.struct fs)) (h : Ty P (n + 1) t ls) : ls.length = P.cellsOf t ∧ ∀ f ∈ fs.toList, Ty P n f.type ((ls.drop f.offset).take (P.cellsOf f.type)) := by
  rw [Ty, hu] at h; exact h
set_option linter.unusedSimpArgs false in
theorem ty_pair {n : Nat} {ls : List LV} (h : Ty Try.prog (n + 2) 53 ls) : ∃ f : PairR, .agg ls = f.e ∧ f.ok := by
  obtain ⟨h1, h2⟩ := ty_struct ty_u53 h
  rw [ty_o53] at h1
  obtain ⟨a0, l0, rfl, k0⟩ := len_cons h1
  obtain ⟨a1, l1, rfl, k1⟩ := len_cons k0
  obtain rfl := List.length_eq_zero_iff.1 k1
  simp [-Bool.exists_bool, ty_o3] at h2
  obtain ⟨g0, g1⟩ := h2
  obtain ⟨i0, rfl, w0⟩ := ty_int ty_u3 g0
  obtain ⟨i1, rfl, w1⟩ := ty_int ty_u3 g1
  refine ⟨⟨i0, i1⟩, rfl, fun x hx => ?_⟩
  simp only [PairR.nums, List.cons_append, List.nil_append, List.mem_cons, List.not_mem_nil, or_false] at hx
  rcases hx with rfl | rfl
  · exact wf_i64 w0
  · exact wf_i64 w1
set_option linter.unusedSimpArgs false in
theorem ty_pop {n : Nat} {ls : List LV} (h : Ty Try.prog (n + 3) 57 ls) : ∃ f : PopR, .agg ls = f.e ∧ f.ok := by
  obtain ⟨h1, h2⟩ := ty_struct ty_u57 h
  rw [ty_o57] at h1
  obtain ⟨a0, l0, rfl, k0⟩ := len_cons h1
  obtain ⟨a1, l1, rfl, k1⟩ := len_cons k0
  obtain ⟨a2, l2, rfl, k2⟩ := len_cons k1
  obtain rfl := List.length_eq_zero_iff.1 k2
  simp [-Bool.exists_bool, ty_o3, ty_o53] at h2
  obtain ⟨g0, g1⟩ := h2
  obtain ⟨i0, rfl, w0⟩ := ty_int ty_u3 g0
  obtain ⟨f, hf, hok⟩ := ty_pair g1
  unfold PairR.e at hf
  simp only [LV.agg.injEq, List.cons.injEq, and_true] at hf
  obtain ⟨rfl, rfl⟩ := hf
  refine ⟨⟨i0, f.a, f.b⟩, rfl, fun x hx => ?_⟩
  simp only [PopR.nums, List.mem_cons, List.not_mem_nil, or_false] at hx
  rcases hx with rfl | rfl | rfl
  · exact wf_i64 w0
  · exact hok _ (by simp [PairR.nums])
  · exact hok _ (by simp [PairR.nums])
theorem ty_pops {n : Nat} {l : LV} (h : Ty Try.prog (n + 4) 48 [l]) : ∃ o, ∃ x : List PopR, l = mkS o 3 (x.map PopR.e) ∧ x.length ≤ maxLen ∧ ∀ z ∈ x, z.ok :=
  ty_aggs (f := PopR.e) (p := fun x : PopR => x.ok) ty_u48 ty_o57 ty_a57 (fun _ h => ty_pop h) h
end Go.LM
