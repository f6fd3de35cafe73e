import Derived.Test.YtmanbekgnooocaaLmaD0
import Derived.Test.YtmanbekgnooocaaLmB15
namespace Go.LM
open Go.Proofs
set_option maxRecDepth 8000
set_option linter.unusedSimpArgs false in
theorem ty_itemA {n : Nat} {ls : List LV} (h : Ty Try.prog (n + 2) 95 ls) : ∃ f : ItemR, .agg ls = f.e ∧ True := by
  simp only [Ty, ty_u95, ty_o95] at h
  obtain ⟨h1, h2⟩ := h
  obtain ⟨a0, l0, rfl, k0⟩ := len_cons h1
  obtain ⟨a1, l1, rfl, k1⟩ := len_cons k0
  obtain ⟨a2, l2, rfl, k2⟩ := len_cons k1
  obtain ⟨a3, l3, rfl, k3⟩ := len_cons k2
  obtain ⟨a4, l4, rfl, k4⟩ := len_cons k3
  obtain ⟨a5, l5, rfl, k5⟩ := len_cons k4
  obtain ⟨a6, l6, rfl, k6⟩ := len_cons k5
  obtain rfl := List.length_eq_zero_iff.1 k6
  simp [-Bool.exists_bool, ty_o3, ty_u3, ty_o22, ty_u22] at h2
  obtain ⟨⟨i0, rfl, w0⟩, ⟨i1, rfl, w1⟩, ⟨i2, rfl, w2⟩, ⟨i3, rfl, w3⟩, ⟨i4, rfl, w4⟩, ⟨i5, rfl, w5⟩, ⟨i6, rfl, w6⟩⟩ := h2
  exact ⟨⟨i0, i1, i2, i3, i4, i5, i6⟩, rfl, trivial⟩
set_option linter.unusedSimpArgs false in
theorem ty_floatA {n : Nat} {ls : List LV} (h : Ty Try.prog (n + 2) 24 ls) : ∃ f : FloatR, .agg ls = f.e ∧ True := by
  simp only [Ty, ty_u24, ty_o24] at h
  obtain ⟨h1, h2⟩ := h
  obtain ⟨a0, l0, rfl, k0⟩ := len_cons h1
  obtain ⟨a1, l1, rfl, k1⟩ := len_cons k0
  obtain ⟨a2, l2, rfl, k2⟩ := len_cons k1
  obtain rfl := List.length_eq_zero_iff.1 k2
  simp [-Bool.exists_bool, ty_o3, ty_u3, ty_o22, ty_u22] at h2
  obtain ⟨⟨i0, rfl, w0⟩, ⟨i1, rfl, w1⟩, ⟨i2, rfl, w2⟩⟩ := h2
  exact ⟨⟨i0, i1, i2⟩, rfl, trivial⟩
set_option linter.unusedSimpArgs false in
theorem ty_two {n : Nat} {ls : List LV} (h : Ty Try.prog (n + 2) 63 ls) : ∃ a c : Int, LV.agg ls = .agg [.int .i64 a, .int .i64 c] := by
  simp only [Ty, ty_u63, ty_o63] at h
  obtain ⟨h1, h2⟩ := h
  obtain ⟨a0, l0, rfl, k0⟩ := len_cons h1
  obtain ⟨a1, l1, rfl, k1⟩ := len_cons k0
  obtain rfl := List.length_eq_zero_iff.1 k1
  have q0 := h2 0 (by omega)
  have q1 := h2 1 (by omega)
  simp [-Bool.exists_bool, ty_o3, ty_u3] at q0 q1
  obtain ⟨i0, rfl, w0⟩ := q0
  obtain ⟨i1, rfl, w1⟩ := q1
  exact ⟨i0, i1, rfl⟩
theorem ty_itemsA {n : Nat} {l : LV} (h : Ty Try.prog (n + 3) 68 [l]) : ∃ o, ∃ x : List ItemR, l = mkS o 7 (x.map ItemR.e) ∧ x.length ≤ maxLen ∧ ∀ z ∈ x, True :=
  ty_aggs (f := ItemR.e) (p := fun _ : ItemR => True) ty_u68 ty_o95 ty_a95 (fun _ h => ty_itemA h) h
theorem ty_floatsA {n : Nat} {l : LV} (h : Ty Try.prog (n + 3) 29 [l]) : ∃ o, ∃ x : List FloatR, l = mkS o 3 (x.map FloatR.e) ∧ x.length ≤ maxLen ∧ ∀ z ∈ x, True :=
  ty_aggs (f := FloatR.e) (p := fun _ : FloatR => True) ty_u29 ty_o24 ty_a24 (fun _ h => ty_floatA h) h
end Go.LM
