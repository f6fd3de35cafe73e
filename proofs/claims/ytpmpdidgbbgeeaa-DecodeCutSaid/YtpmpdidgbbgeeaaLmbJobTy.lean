import Derived.Test.YtpmpdidgbbgeeaaLmbPageTy
import Derived.Test.YtpmpdidgbbgeeaaLmB10
namespace Go.LM
open Go.Proofs
set_option maxRecDepth 16000
set_option linter.unusedSimpArgs false in
theorem ty_item {n : Nat} {ls : List LV} (h : Ty Try.prog (n + 2) 42 ls) : ∃ f : ItemR, .agg ls = f.e ∧ f.ok := by
  obtain ⟨h1, h2⟩ := ty_struct ty_u42 h
  rw [ty_o42] at h1
  obtain ⟨a0, l0, rfl, k0⟩ := len_cons h1
  obtain ⟨a1, l1, rfl, k1⟩ := len_cons k0
  obtain ⟨a2, l2, rfl, k2⟩ := len_cons k1
  obtain ⟨a3, l3, rfl, k3⟩ := len_cons k2
  obtain ⟨a4, l4, rfl, k4⟩ := len_cons k3
  obtain ⟨a5, l5, rfl, k5⟩ := len_cons k4
  obtain ⟨a6, l6, rfl, k6⟩ := len_cons k5
  obtain rfl := List.length_eq_zero_iff.1 k6
  simp [-Bool.exists_bool, ty_o3, ty_o28] at h2
  obtain ⟨g0, g1, g2, g3, g4, g5, g6⟩ := h2
  obtain ⟨i0, rfl, w0⟩ := ty_int ty_u3 g0
  obtain ⟨i1, rfl, w1⟩ := ty_int ty_u28 g1
  obtain ⟨i2, rfl, w2⟩ := ty_int ty_u3 g2
  obtain ⟨i3, rfl, w3⟩ := ty_int ty_u28 g3
  obtain ⟨i4, rfl, w4⟩ := ty_int ty_u3 g4
  obtain ⟨i5, rfl, w5⟩ := ty_int ty_u28 g5
  obtain ⟨i6, rfl, w6⟩ := ty_int ty_u3 g6
  refine ⟨⟨i0, i1, i2, i3, i4, i5, i6⟩, rfl, fun x hx => ?_⟩
  simp only [ItemR.nums, List.cons_append, List.nil_append, List.mem_cons, List.not_mem_nil, or_false] at hx
  rcases hx with rfl | rfl | rfl | rfl | rfl | rfl | rfl
  · exact wf_i64 w0
  · exact wf_i64 w1
  · exact wf_i64 w2
  · exact wf_i64 w3
  · exact wf_i64 w4
  · exact wf_i64 w5
  · exact wf_i64 w6
set_option linter.unusedSimpArgs false in
theorem ty_float {n : Nat} {ls : List LV} (h : Ty Try.prog (n + 2) 131 ls) : ∃ f : FloatR, .agg ls = f.e ∧ f.ok := by
  obtain ⟨h1, h2⟩ := ty_struct ty_u131 h
  rw [ty_o131] at h1
  obtain ⟨a0, l0, rfl, k0⟩ := len_cons h1
  obtain ⟨a1, l1, rfl, k1⟩ := len_cons k0
  obtain ⟨a2, l2, rfl, k2⟩ := len_cons k1
  obtain rfl := List.length_eq_zero_iff.1 k2
  simp [-Bool.exists_bool, ty_o3, ty_o28] at h2
  obtain ⟨g0, g1, g2⟩ := h2
  obtain ⟨i0, rfl, w0⟩ := ty_int ty_u3 g0
  obtain ⟨i1, rfl, w1⟩ := ty_int ty_u28 g1
  obtain ⟨i2, rfl, w2⟩ := ty_int ty_u3 g2
  refine ⟨⟨i0, i1, i2⟩, rfl, fun x hx => ?_⟩
  simp only [FloatR.nums, List.cons_append, List.nil_append, List.mem_cons, List.not_mem_nil, or_false] at hx
  rcases hx with rfl | rfl | rfl
  · exact wf_i64 w0
  · exact wf_i64 w1
  · exact wf_i64 w2
set_option linter.unusedSimpArgs false in
theorem ty_geom {n : Nat} {ls : List LV} (h : Ty Try.prog (n + 2) 48 ls) : ∃ f : GeomR, .agg ls = f.e ∧ f.ok := by
  obtain ⟨h1, h2⟩ := ty_struct ty_u48 h
  rw [ty_o48] at h1
  obtain ⟨a0, l0, rfl, k0⟩ := len_cons h1
  obtain ⟨a1, l1, rfl, k1⟩ := len_cons k0
  obtain ⟨a2, l2, rfl, k2⟩ := len_cons k1
  obtain ⟨a3, l3, rfl, k3⟩ := len_cons k2
  obtain ⟨a4, l4, rfl, k4⟩ := len_cons k3
  obtain ⟨a5, l5, rfl, k5⟩ := len_cons k4
  obtain ⟨a6, l6, rfl, k6⟩ := len_cons k5
  obtain ⟨a7, l7, rfl, k7⟩ := len_cons k6
  obtain ⟨a8, l8, rfl, k8⟩ := len_cons k7
  obtain ⟨a9, l9, rfl, k9⟩ := len_cons k8
  obtain ⟨a10, l10, rfl, k10⟩ := len_cons k9
  obtain ⟨a11, l11, rfl, k11⟩ := len_cons k10
  obtain ⟨a12, l12, rfl, k12⟩ := len_cons k11
  obtain ⟨a13, l13, rfl, k13⟩ := len_cons k12
  obtain ⟨a14, l14, rfl, k14⟩ := len_cons k13
  obtain ⟨a15, l15, rfl, k15⟩ := len_cons k14
  obtain ⟨a16, l16, rfl, k16⟩ := len_cons k15
  obtain ⟨a17, l17, rfl, k17⟩ := len_cons k16
  obtain ⟨a18, l18, rfl, k18⟩ := len_cons k17
  obtain rfl := List.length_eq_zero_iff.1 k18
  simp [-Bool.exists_bool, ty_o3, ty_o4, ty_o28] at h2
  obtain ⟨g0, g1, g2, g3, g4, g5, g6, g7, g8, g9, g10, g11, g12, g13, g14, g15, g16, g17, g18⟩ := h2
  obtain ⟨i0, rfl, w0⟩ := ty_int ty_u3 g0
  obtain ⟨i1, rfl, w1⟩ := ty_int ty_u28 g1
  obtain ⟨i2, rfl, w2⟩ := ty_int ty_u28 g2
  obtain ⟨i3, rfl, w3⟩ := ty_int ty_u28 g3
  obtain ⟨i4, rfl, w4⟩ := ty_int ty_u28 g4
  obtain ⟨i5, rfl, w5⟩ := ty_int ty_u28 g5
  obtain ⟨i6, rfl, w6⟩ := ty_int ty_u28 g6
  obtain ⟨i7, rfl, w7⟩ := ty_int ty_u28 g7
  obtain ⟨i8, rfl, w8⟩ := ty_int ty_u28 g8
  obtain ⟨i9, rfl, w9⟩ := ty_int ty_u28 g9
  obtain ⟨i10, rfl, w10⟩ := ty_int ty_u28 g10
  obtain ⟨i11, rfl, w11⟩ := ty_int ty_u3 g11
  obtain ⟨i12, rfl, w12⟩ := ty_int ty_u3 g12
  obtain ⟨i13, rfl, w13⟩ := ty_int ty_u3 g13
  obtain ⟨i14, rfl, w14⟩ := ty_int ty_u3 g14
  obtain ⟨i15, rfl, w15⟩ := ty_int ty_u3 g15
  obtain ⟨i16, rfl, w16⟩ := ty_int ty_u3 g16
  obtain ⟨i17, rfl, w17⟩ := ty_int ty_u3 g17
  obtain ⟨i18, rfl⟩ := ty_bool ty_u4 g18
  refine ⟨⟨i0, i1, i2, i3, i4, i5, i6, i7, i8, i9, i10, i11, i12, i13, i14, i15, i16, i17, i18⟩, rfl, fun x hx => ?_⟩
  simp only [GeomR.nums, GeomR.numsA, GeomR.numsB, List.cons_append, List.nil_append, List.mem_cons, List.not_mem_nil, or_false] at hx
  rcases hx with rfl | rfl | rfl | rfl | rfl | rfl | rfl | rfl | rfl | rfl | rfl | rfl | rfl | rfl | rfl | rfl | rfl | rfl
  · exact wf_i64 w0
  · exact wf_i64 w1
  · exact wf_i64 w2
  · exact wf_i64 w3
  · exact wf_i64 w4
  · exact wf_i64 w5
  · exact wf_i64 w6
  · exact wf_i64 w7
  · exact wf_i64 w8
  · exact wf_i64 w9
  · exact wf_i64 w10
  · exact wf_i64 w11
  · exact wf_i64 w12
  · exact wf_i64 w13
  · exact wf_i64 w14
  · exact wf_i64 w15
  · exact wf_i64 w16
  · exact wf_i64 w17
set_option linter.unusedSimpArgs false in
theorem ty_note {n : Nat} {ls : List LV} (h : Ty Try.prog (n + 4) 126 ls) : ∃ x : NoteR, .agg ls = x.e ∧ x.num := by
  obtain ⟨h1, h2⟩ := ty_struct ty_u126 h
  rw [ty_o126] at h1
  obtain ⟨a0, l0, rfl, k0⟩ := len_cons h1
  obtain ⟨a1, l1, rfl, k1⟩ := len_cons k0
  obtain rfl := List.length_eq_zero_iff.1 k1
  simp [-Bool.exists_bool, ty_o123, ty_o124] at h2
  obtain ⟨g0, g1⟩ := h2
  obtain ⟨o, x, rfl, b, w⟩ := ty_ints ty_u123 ty_o28 ty_u28 g0
  obtain ⟨p, y, rfl, c, v⟩ := ty_ints ty_u124 ty_o3 ty_u3 g1
  exact ⟨⟨o, x, p, y⟩, rfl, fun n hn => wf_i64 (w n hn), fun n hn => wf_i64 (v n hn)⟩
theorem ty_items {n : Nat} {l : LV} (h : Ty Try.prog (n + 3) 34 [l]) : ∃ o, ∃ x : List ItemR, l = mkS o 7 (x.map ItemR.e) ∧ ∀ z ∈ x, z.ok := by
  obtain ⟨o, x, rfl, b, n⟩ := ty_aggs (f := ItemR.e) (p := fun x : ItemR => x.ok) ty_u34 ty_o42 ty_a42 (fun ls h => ty_item h) h
  exact ⟨o, x, rfl, n⟩
set_option linter.unusedSimpArgs false in
theorem ty_job {n : Nat} {ls : List LV} (h : Ty Try.prog (n + 6) 52 ls) : ∃ j : JobR, .agg ls = j.e ∧ (j.g.ok ∧ (∀ x ∈ j.items, x.ok) ∧ (∀ x ∈ j.notes, x.num) ∧ ∀ x ∈ j.floats, x.ok) := by
  obtain ⟨h1, h2⟩ := ty_struct ty_u52 h
  rw [ty_o52] at h1
  obtain ⟨a0, l0, rfl, k0⟩ := len_cons h1
  obtain ⟨a1, l1, rfl, k1⟩ := len_cons k0
  obtain ⟨a2, l2, rfl, k2⟩ := len_cons k1
  obtain ⟨a3, l3, rfl, k3⟩ := len_cons k2
  obtain ⟨a4, l4, rfl, k4⟩ := len_cons k3
  obtain ⟨a5, l5, rfl, k5⟩ := len_cons k4
  obtain ⟨a6, l6, rfl, k6⟩ := len_cons k5
  obtain ⟨a7, l7, rfl, k7⟩ := len_cons k6
  obtain ⟨a8, l8, rfl, k8⟩ := len_cons k7
  obtain ⟨a9, l9, rfl, k9⟩ := len_cons k8
  obtain ⟨a10, l10, rfl, k10⟩ := len_cons k9
  obtain ⟨a11, l11, rfl, k11⟩ := len_cons k10
  obtain ⟨a12, l12, rfl, k12⟩ := len_cons k11
  obtain ⟨a13, l13, rfl, k13⟩ := len_cons k12
  obtain ⟨a14, l14, rfl, k14⟩ := len_cons k13
  obtain ⟨a15, l15, rfl, k15⟩ := len_cons k14
  obtain ⟨a16, l16, rfl, k16⟩ := len_cons k15
  obtain ⟨a17, l17, rfl, k17⟩ := len_cons k16
  obtain ⟨a18, l18, rfl, k18⟩ := len_cons k17
  obtain ⟨a19, l19, rfl, k19⟩ := len_cons k18
  obtain ⟨a20, l20, rfl, k20⟩ := len_cons k19
  obtain ⟨a21, l21, rfl, k21⟩ := len_cons k20
  obtain rfl := List.length_eq_zero_iff.1 k21
  simp [-Bool.exists_bool, ty_o48, ty_o34, ty_o49, ty_o50] at h2
  obtain ⟨g0, g1, g2, g3⟩ := h2
  obtain ⟨g, hg, og⟩ := ty_geom g0
  obtain ⟨oi, xi, rfl, ni⟩ := ty_items g1
  obtain ⟨on, xn, rfl, bn, nn⟩ := ty_aggs (f := NoteR.e) (p := fun x : NoteR => x.num) ty_u49 ty_o126 ty_a126 (fun ls h => ty_note h) g2
  obtain ⟨of, xf, rfl, bf, nf⟩ := ty_aggs (f := FloatR.e) (p := fun x : FloatR => x.ok) ty_u50 ty_o131 ty_a131 (fun ls h => ty_float h) g3
  refine ⟨⟨g, oi, xi, on, xn, of, xf⟩, ?_, og, ni, nn, nf⟩
  unfold GeomR.e GeomR.cells at hg
  simp only [LV.agg.injEq, List.cons.injEq, and_true] at hg
  obtain ⟨rfl, rfl, rfl, rfl, rfl, rfl, rfl, rfl, rfl, rfl, rfl, rfl, rfl, rfl, rfl, rfl, rfl, rfl, rfl⟩ := hg
  rfl
end Go.LM
