import Derived.Test.YtgbhkmgmpodnkaaLmcD0
import Derived.Test.YtgbhkmgmpodnkaaLmB15
namespace Go.LM
open Go.Proofs
set_option maxRecDepth 16000
theorem ty_struct {P : Program} {n : Nat} {t : TypeId} {fs : Array Field} {ls : List LV} (hu : P.underlying t = some (.struct fs)) (h : Ty P (n + 1) t ls) : ls.length = P.cellsOf t ∧ ∀ f ∈ fs.toList, Ty P n f.type ((ls.drop f.offset).take (P.cellsOf f.type)) := by
  rw [Ty, hu] at h; exact h
set_option linter.unusedSimpArgs false in
theorem ty_item {n : Nat} {ls : List LV} (h : Ty Try.prog (n + 2) 33 ls) : ∃ f : ItemR, .agg ls = f.e ∧ f.ok := by
  obtain ⟨h1, h2⟩ := ty_struct ty_u33 h
  rw [ty_o33] at h1
  obtain ⟨a0, l0, rfl, k0⟩ := len_cons h1
  obtain ⟨a1, l1, rfl, k1⟩ := len_cons k0
  obtain ⟨a2, l2, rfl, k2⟩ := len_cons k1
  obtain ⟨a3, l3, rfl, k3⟩ := len_cons k2
  obtain ⟨a4, l4, rfl, k4⟩ := len_cons k3
  obtain ⟨a5, l5, rfl, k5⟩ := len_cons k4
  obtain ⟨a6, l6, rfl, k6⟩ := len_cons k5
  obtain rfl := List.length_eq_zero_iff.1 k6
  simp [-Bool.exists_bool, ty_o3, ty_o29] at h2
  obtain ⟨g0, g1, g2, g3, g4, g5, g6⟩ := h2
  obtain ⟨i0, rfl, w0⟩ := ty_int ty_u3 g0
  obtain ⟨i1, rfl, w1⟩ := ty_int ty_u29 g1
  obtain ⟨i2, rfl, w2⟩ := ty_int ty_u3 g2
  obtain ⟨i3, rfl, w3⟩ := ty_int ty_u29 g3
  obtain ⟨i4, rfl, w4⟩ := ty_int ty_u3 g4
  obtain ⟨i5, rfl, w5⟩ := ty_int ty_u29 g5
  obtain ⟨i6, rfl, w6⟩ := ty_int ty_u3 g6
  refine ⟨⟨i0, i1, i2, i3, i4, i5, i6⟩, rfl, fun x hx => ?_⟩
  simp only [ItemR.nums, List.cons_append, List.nil_append, List.mem_cons, List.not_mem_nil, or_false] at hx
  rcases hx with rfl | rfl | rfl | rfl | rfl | rfl | rfl
  · exact wf_i64 w0
  · exact wf_i64 w1
  · exact wf_i64 w2
  · exact wf_i64 w3
  · exact wf_i64 w4
  · exact wf_i64 w5
  · exact wf_i64 w6
set_option linter.unusedSimpArgs false in
theorem ty_geom {n : Nat} {ls : List LV} (h : Ty Try.prog (n + 2) 31 ls) : ∃ f : GeomR, .agg ls = f.e ∧ f.ok := by
  obtain ⟨h1, h2⟩ := ty_struct ty_u31 h
  rw [ty_o31] at h1
  obtain ⟨a0, l0, rfl, k0⟩ := len_cons h1
  obtain ⟨a1, l1, rfl, k1⟩ := len_cons k0
  obtain ⟨a2, l2, rfl, k2⟩ := len_cons k1
  obtain ⟨a3, l3, rfl, k3⟩ := len_cons k2
  obtain ⟨a4, l4, rfl, k4⟩ := len_cons k3
  obtain ⟨a5, l5, rfl, k5⟩ := len_cons k4
  obtain ⟨a6, l6, rfl, k6⟩ := len_cons k5
  obtain ⟨a7, l7, rfl, k7⟩ := len_cons k6
  obtain ⟨a8, l8, rfl, k8⟩ := len_cons k7
  obtain ⟨a9, l9, rfl, k9⟩ := len_cons k8
  obtain ⟨a10, l10, rfl, k10⟩ := len_cons k9
  obtain ⟨a11, l11, rfl, k11⟩ := len_cons k10
  obtain ⟨a12, l12, rfl, k12⟩ := len_cons k11
  obtain ⟨a13, l13, rfl, k13⟩ := len_cons k12
  obtain ⟨a14, l14, rfl, k14⟩ := len_cons k13
  obtain ⟨a15, l15, rfl, k15⟩ := len_cons k14
  obtain ⟨a16, l16, rfl, k16⟩ := len_cons k15
  obtain ⟨a17, l17, rfl, k17⟩ := len_cons k16
  obtain ⟨a18, l18, rfl, k18⟩ := len_cons k17
  obtain rfl := List.length_eq_zero_iff.1 k18
  simp [-Bool.exists_bool, ty_o3, ty_o4, ty_o29] at h2
  obtain ⟨g0, g1, g2, g3, g4, g5, g6, g7, g8, g9, g10, g11, g12, g13, g14, g15, g16, g17, g18⟩ := h2
  obtain ⟨i0, rfl, w0⟩ := ty_int ty_u3 g0
  obtain ⟨i1, rfl, w1⟩ := ty_int ty_u29 g1
  obtain ⟨i2, rfl, w2⟩ := ty_int ty_u29 g2
  obtain ⟨i3, rfl, w3⟩ := ty_int ty_u29 g3
  obtain ⟨i4, rfl, w4⟩ := ty_int ty_u29 g4
  obtain ⟨i5, rfl, w5⟩ := ty_int ty_u29 g5
  obtain ⟨i6, rfl, w6⟩ := ty_int ty_u29 g6
  obtain ⟨i7, rfl, w7⟩ := ty_int ty_u29 g7
  obtain ⟨i8, rfl, w8⟩ := ty_int ty_u29 g8
  obtain ⟨i9, rfl, w9⟩ := ty_int ty_u29 g9
  obtain ⟨i10, rfl, w10⟩ := ty_int ty_u29 g10
  obtain ⟨i11, rfl, w11⟩ := ty_int ty_u3 g11
  obtain ⟨i12, rfl, w12⟩ := ty_int ty_u3 g12
  obtain ⟨i13, rfl, w13⟩ := ty_int ty_u3 g13
  obtain ⟨i14, rfl, w14⟩ := ty_int ty_u3 g14
  obtain ⟨i15, rfl, w15⟩ := ty_int ty_u3 g15
  obtain ⟨i16, rfl, w16⟩ := ty_int ty_u3 g16
  obtain ⟨i17, rfl, w17⟩ := ty_int ty_u3 g17
  obtain ⟨i18, rfl⟩ := ty_bool ty_u4 g18
  refine ⟨⟨i0, i1, i2, i3, i4, i5, i6, i7, i8, i9, i10, i11, i12, i13, i14, i15, i16, i17, i18⟩, rfl, fun x hx => ?_⟩
  simp only [GeomR.nums, GeomR.numsA, GeomR.numsB, List.cons_append, List.nil_append, List.mem_cons, List.not_mem_nil, or_false] at hx
  rcases hx with rfl | rfl | rfl | rfl | rfl | rfl | rfl | rfl | rfl | rfl | rfl | rfl | rfl | rfl | rfl | rfl | rfl | rfl
  · exact wf_i64 w0
  · exact wf_i64 w1
  · exact wf_i64 w2
  · exact wf_i64 w3
  · exact wf_i64 w4
  · exact wf_i64 w5
  · exact wf_i64 w6
  · exact wf_i64 w7
  · exact wf_i64 w8
  · exact wf_i64 w9
  · exact wf_i64 w10
  · exact wf_i64 w11
  · exact wf_i64 w12
  · exact wf_i64 w13
  · exact wf_i64 w14
  · exact wf_i64 w15
  · exact wf_i64 w16
  · exact wf_i64 w17
theorem ty_items {n : Nat} {l : LV} (h : Ty Try.prog (n + 3) 22 [l]) : ∃ o, ∃ x : List ItemR, l = mkS o 7 (x.map ItemR.e) ∧ x.length ≤ maxLen ∧ ∀ z ∈ x, z.ok :=
  ty_aggs (f := ItemR.e) (p := fun x : ItemR => x.ok) ty_u22 ty_o33 ty_a33 (fun _ h => ty_item h) h
end Go.LM
