import Derived.Test.YtpmpdidgbbgeeaaLmbD0
import Derived.Test.YtpmpdidgbbgeeaaLmB8
namespace Go.LM
open Go.Proofs
set_option maxRecDepth 8000
set_option linter.unusedSimpArgs false in
theorem ty_putR {n : Nat} {ls : List LV} (h : Ty Try.prog (n + 2) 30 ls) : ∃ f : PutR, .agg ls = f.e ∧ (Lit.int .i64 f.k).wf = true ∧ (Lit.int .i64 f.n).wf = true ∧ (Lit.int .i64 f.l).wf = true ∧ (Lit.int .i64 f.y).wf = true ∧ (Lit.int .i64 f.h).wf = true := by
  simp only [Ty, ty_u30, ty_o30] at h
  obtain ⟨h1, h2⟩ := h
  obtain ⟨a0, l0, rfl, k0⟩ := len_cons h1
  obtain ⟨a1, l1, rfl, k1⟩ := len_cons k0
  obtain ⟨a2, l2, rfl, k2⟩ := len_cons k1
  obtain ⟨a3, l3, rfl, k3⟩ := len_cons k2
  obtain ⟨a4, l4, rfl, k4⟩ := len_cons k3
  obtain rfl := List.length_eq_zero_iff.1 k4
  simp [-Bool.exists_bool, ty_o3, ty_u3, ty_o28, ty_u28] at h2
  obtain ⟨⟨i0, rfl, w0⟩, ⟨i1, rfl, w1⟩, ⟨i2, rfl, w2⟩, ⟨i3, rfl, w3⟩, ⟨i4, rfl, w4⟩⟩ := h2
  exact ⟨⟨i0, i1, i2, i3, i4⟩, rfl, ⟨w0, w1, w2, w3, w4⟩⟩
theorem ty_put {n : Nat} {ls : List LV} (h : Ty Try.prog (n + 2) 30 ls) : ∃ f : PutR, .agg ls = f.e ∧ f.ok := by
  obtain ⟨f, hf, a, b, c, d, e⟩ := ty_putR h
  refine ⟨f, hf, fun x hx => ?_⟩
  simp only [PutR.nums, List.mem_cons, List.not_mem_nil, or_false] at hx
  rcases hx with rfl | rfl | rfl | rfl | rfl
  · exact wf_i64 a
  · exact wf_i64 b
  · exact wf_i64 c
  · exact wf_i64 d
  · exact wf_i64 e
theorem ty_struct {P : Program} {n : Nat} {t : TypeId} {fs : Array Field} {ls : List LV} (hu : P.underlying t = some (.struct fs)) (h : Ty P (n + 1) t ls) : ls.length = P.cellsOf t ∧ ∀ f ∈ fs.toList, Ty P n f.type ((ls.drop f.offset).take (P.cellsOf f.type)) := by
  rw [Ty, hu] at h; exact h
set_option linter.unusedSimpArgs false in
theorem ty_lane {n : Nat} {ls : List LV} (h : Ty Try.prog (n + 4) 105 ls) : ∃ x : LaneR, .agg ls = x.e ∧ (I64 x.x ∧ ∀ y ∈ x.puts, y.ok) := by
  obtain ⟨h1, h2⟩ := ty_struct ty_u105 h
  rw [ty_o105] at h1
  obtain ⟨a0, l0, rfl, k0⟩ := len_cons h1
  obtain ⟨a1, l1, rfl, k1⟩ := len_cons k0
  obtain rfl := List.length_eq_zero_iff.1 k1
  simp [-Bool.exists_bool, ty_o28, ty_o103] at h2
  obtain ⟨g0, g1⟩ := h2
  obtain ⟨i, rfl, w⟩ := ty_int ty_u28 g0
  obtain ⟨o, zs, rfl, hl, hz⟩ := ty_aggs (f := PutR.e) (p := PutR.ok) ty_u103 ty_o30 ty_a30 (fun ls h => ty_put h) g1
  exact ⟨⟨i, o, zs⟩, rfl, wf_i64 w, hz⟩
set_option linter.unusedSimpArgs false in
theorem ty_page {n : Nat} {ls : List LV} (h : Ty Try.prog (n + 6) 102 ls) : ∃ x : PageR, .agg ls = x.e ∧ ((∀ n ∈ [x.top, x.first, x.last], I64 n) ∧ ∀ y ∈ x.lanes, I64 y.x ∧ ∀ z ∈ y.puts, z.ok) := by
  obtain ⟨h1, h2⟩ := ty_struct ty_u102 h
  rw [ty_o102] at h1
  obtain ⟨a0, l0, rfl, k0⟩ := len_cons h1
  obtain ⟨a1, l1, rfl, k1⟩ := len_cons k0
  obtain ⟨a2, l2, rfl, k2⟩ := len_cons k1
  obtain ⟨a3, l3, rfl, k3⟩ := len_cons k2
  obtain rfl := List.length_eq_zero_iff.1 k3
  simp [-Bool.exists_bool, ty_o3, ty_o100] at h2
  obtain ⟨g0, g1, g2, g3⟩ := h2
  obtain ⟨i1, rfl, w1⟩ := ty_int ty_u3 g1
  obtain ⟨i2, rfl, w2⟩ := ty_int ty_u3 g2
  obtain ⟨i3, rfl, w3⟩ := ty_int ty_u3 g3
  obtain ⟨o, zs, rfl, hl, hz⟩ := ty_aggs (f := LaneR.e) (p := fun y : LaneR => I64 y.x ∧ ∀ z ∈ y.puts, z.ok) ty_u100 ty_o105 ty_a105 (fun ls h => ty_lane h) g0
  refine ⟨⟨i1, i2, i3, o, zs⟩, rfl, fun n hn => ?_, hz⟩
  simp only [List.mem_cons, List.not_mem_nil, or_false] at hn
  rcases hn with rfl | rfl | rfl
  · exact wf_i64 w1
  · exact wf_i64 w2
  · exact wf_i64 w3
end Go.LM
