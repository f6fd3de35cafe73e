import Derived.Test.YtmanbekgnooocaaLmaD0
import Derived.Test.YtmanbekgnooocaaLmB9
namespace Go.LM
open Go.Proofs
set_option linter.unusedSimpArgs false in
theorem ty_geo {n : Nat} {ls : List LV} (h : Ty Try.prog (n + 2) 57 ls) : ∃ f : Geo, .agg ls = f.e ∧ True := by
  simp only [Ty, ty_u57, ty_o57] at h
  obtain ⟨h1, h2⟩ := h
  obtain ⟨a0, l0, rfl, k0⟩ := len_cons h1
  obtain ⟨a1, l1, rfl, k1⟩ := len_cons k0
  obtain ⟨a2, l2, rfl, k2⟩ := len_cons k1
  obtain ⟨a3, l3, rfl, k3⟩ := len_cons k2
  obtain ⟨a4, l4, rfl, k4⟩ := len_cons k3
  obtain ⟨a5, l5, rfl, k5⟩ := len_cons k4
  obtain ⟨a6, l6, rfl, k6⟩ := len_cons k5
  obtain ⟨a7, l7, rfl, k7⟩ := len_cons k6
  obtain ⟨a8, l8, rfl, k8⟩ := len_cons k7
  obtain ⟨a9, l9, rfl, k9⟩ := len_cons k8
  obtain ⟨a10, l10, rfl, k10⟩ := len_cons k9
  obtain ⟨a11, l11, rfl, k11⟩ := len_cons k10
  obtain ⟨a12, l12, rfl, k12⟩ := len_cons k11
  obtain ⟨a13, l13, rfl, k13⟩ := len_cons k12
  obtain ⟨a14, l14, rfl, k14⟩ := len_cons k13
  obtain ⟨a15, l15, rfl, k15⟩ := len_cons k14
  obtain ⟨a16, l16, rfl, k16⟩ := len_cons k15
  obtain ⟨a17, l17, rfl, k17⟩ := len_cons k16
  obtain ⟨a18, l18, rfl, k18⟩ := len_cons k17
  obtain rfl := List.length_eq_zero_iff.1 k18
  simp [-Bool.exists_bool, ty_o3, ty_u3, ty_o4, ty_u4, ty_o22, ty_u22] at h2
  obtain ⟨⟨i0, rfl, w0⟩, ⟨i1, rfl, w1⟩, ⟨i2, rfl, w2⟩, ⟨i3, rfl, w3⟩, ⟨i4, rfl, w4⟩, ⟨i5, rfl, w5⟩, ⟨i6, rfl, w6⟩, ⟨i7, rfl, w7⟩, ⟨i8, rfl, w8⟩, ⟨i9, rfl, w9⟩, ⟨i10, rfl, w10⟩, ⟨i11, rfl, w11⟩, ⟨i12, rfl, w12⟩, ⟨i13, rfl, w13⟩, ⟨i14, rfl, w14⟩, ⟨i15, rfl, w15⟩, ⟨i16, rfl, w16⟩, ⟨i17, rfl, w17⟩, ⟨i18, rfl⟩⟩ := h2
  exact ⟨⟨i0, i1, i2, i3, i4, i5, i6, i7, i8, i9, i10, i11, i12, i13, i14, i15, i16, i17, i18⟩, rfl, trivial⟩
end Go.LM
