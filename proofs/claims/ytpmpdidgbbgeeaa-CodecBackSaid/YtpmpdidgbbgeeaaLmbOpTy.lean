import Derived.Test.YtpmpdidgbbgeeaaLmbPageTy
import Derived.Test.YtpmpdidgbbgeeaaLmB8
namespace Go.LM
open Go.Proofs
set_option maxRecDepth 8000
set_option linter.unusedSimpArgs false in
theorem ty_op {n : Nat} {ls : List LV} (h : Ty Try.prog (n + 3) 67 ls) : ∃ x : OpR, .agg ls = x.e ∧ x.num := by
  obtain ⟨h1, h2⟩ := ty_struct ty_u67 h
  rw [ty_o67] at h1
  obtain ⟨a0, l0, rfl, k0⟩ := len_cons h1
  obtain ⟨a1, l1, rfl, k1⟩ := len_cons k0
  obtain ⟨a2, l2, rfl, k2⟩ := len_cons k1
  obtain ⟨a3, l3, rfl, k3⟩ := len_cons k2
  obtain ⟨a4, l4, rfl, k4⟩ := len_cons k3
  obtain rfl := List.length_eq_zero_iff.1 k4
  simp [-Bool.exists_bool, ty_o3, ty_o9, ty_o2, ty_o4, ty_o64] at h2
  obtain ⟨g0, g1, g2, g3, g4⟩ := h2
  obtain ⟨i0, rfl, w0⟩ := ty_int ty_u3 g0
  obtain ⟨i2, rfl, w2⟩ := ty_int ty_u2 g2
  obtain ⟨o, x, rfl, b, w⟩ := ty_ints ty_u64 ty_o2 ty_u2 g4
  simp only [Ty, ty_u9] at g1
  simp only [Ty, ty_u4] at g3
  obtain ⟨s, hs, -⟩ := g1
  obtain ⟨z, hz⟩ := g3
  cases hs; cases hz
  exact ⟨⟨i0, s, i2, z, o, x⟩, rfl, wf_i64 w2, fun n hn => wf_i64 (w n hn)⟩
end Go.LM
