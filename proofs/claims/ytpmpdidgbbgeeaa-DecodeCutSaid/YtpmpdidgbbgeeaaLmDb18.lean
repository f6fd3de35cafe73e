/-
  Proved: the law DecodeCut of the program tympan returns true for any job, any number and any bytes, and they read as before. No condition.
  The proof: a logical machine (texts LmA to LmZ) over the model's code, sound for the model; contracts of the functions in it; the law.
-/
import Derived.Test.YtpmpdidgbbgeeaaLmbJobTy
import Derived.Test.YtpmpdidgbbgeeaaLmbDecode8
namespace Go.Proofs.Ytpmpdidgbbgeeaa
open Go.ChangeShapes Go.WideShapes Go.ChangeAt Go.RowKit Go.LM
set_option linter.unusedVariables false
namespace law18
set_option maxRecDepth 100000 in
theorem lifted (os : Os) (started : os.Started) (H : Type) (enc : TypeId × Value → H) :
    ReturnsInHanded {} Try.checked os 18 .any (Rows.decodeCutSpec.pre6 enc Try.prog Try.f18 Rows.decodeCutRow.domain false) (Rows.decodeCutSpec.post enc Try.prog Try.f18 false true false false) := by
  refine returnsInHanded_of_change (C := Try.checked) own started (by kernel_rfl) Try.func18
    (ChangeSpec.witness6 (enc := enc) (C := Try.checked) false ⟨#[], #[.agg #[.int .i64 0, .int .i64 0, .int .i64 0, .int .i64 0, .int .i64 0, .int .i64 0, .int .i64 0, .int .i64 0, .int .i64 0, .int .i64 0, .int .i64 0, .int .i64 0, .int .i64 0, .int .i64 0, .int .i64 0, .int .i64 0, .int .i64 0, .int .i64 0, .bool false, .slice none 0 0, .slice none 0 0, .slice none 0 0], .int .i64 0, .slice none 0 0], []⟩ 8 (by kernel_rfl) (by kernel_rfl) (by kernel_rfl) (by kernel_rfl)) ?_
  intro W base args ds gs before hval0 hW hcnd _
  have hval : ∀ (j : Nat) t v, Try.f18.params[j]? = some t → args[j]? = some v → Value.okWide Try.prog W .any base t v := hval0
  have hW' := hW
  obtain ⟨p, q, hA0, hV, rfl, hfz, hnd⟩ := hW
  have hA : DataW.TrodAll enc Try.prog W 0 (fun _ => true) true Try.f18.params.toList args.toList ds p := hA0
  rw [Try.params18] at hA hval
  obtain ⟨v0, vs0, d0, ds0, p0, q0, hargs, rfl, rfl, k0, r0⟩ := trodAll_cons hA
  obtain ⟨v1, vs1, d1, ds1, p1, q1, rfl, rfl, rfl, k1, r1⟩ := trodAll_cons r0
  obtain ⟨v2, vs2, d2, ds2, p2, q2, rfl, rfl, rfl, k2, r2⟩ := trodAll_cons r1
  obtain ⟨rfl, rfl, rfl⟩ := trodAll_nil r2
  obtain rfl : args = #[v0, v1, v2] := by cases args; simp_all
  obtain ⟨rfl, rfl⟩ := trodVars_none hV
  have lt0 : ∀ x ∈ p0, x.block < W.heap.size := by obtain ⟨m, hm⟩ := k0; exact DataW.trod_lt m _ _ _ hm
  obtain ⟨l0, e0, t0⟩ := open_agg 8 ty_a52 (hval 0 52 v0 rfl rfl) k0 (by kernel_rfl)
  obtain ⟨x0, hx0, n0⟩ := ty_job t0
  rw [hx0] at e0
  have lt1 : ∀ x ∈ p1, x.block < W.heap.size := by obtain ⟨m, hm⟩ := k1; exact DataW.trod_lt m _ _ _ hm
  obtain ⟨l1, e1, t1⟩ := open_one 8 ty_a3 (hval 1 3 v1 rfl rfl) k1 (by kernel_rfl)
  obtain ⟨x1, rfl, w1⟩ := ty_int ty_u3 t1
  have lt2 : ∀ x ∈ p2, x.block < W.heap.size := by obtain ⟨m, hm⟩ := k2; exact DataW.trod_lt m _ _ _ hm
  obtain ⟨l2, e2, t2⟩ := open_one 8 ty_a26 (hval 2 26 v2 rfl rfl) k2 (by kernel_rfl)
  obtain ⟨o2, x2, rfl, b2, w2⟩ := ty_ints ty_u26 ty_o5 ty_u5 t2
  obtain ⟨h', hl⟩ := lDecodeCut x0 o2 x1 x2 n0 (wf_i64 w1) (fun c hc => wf_u8 (w2 c hc))
  clear hA0 hval0
  refine (calls_true tokA foll (VRs.cons e0 (VRs.cons e1 (VRs.cons e2 .nil))) hl).mono fun e W' ⟨he, bel⟩ => ?_
  subst he
  exact ⟨_, rfl, _, _, _, [], _, [], hW', trodAll_mk1 (shut_bool Try.underlying4 _), (trodAll_cons_mk (Below.trod laidOut (by kernel_rfl) (of_decide_eq_true (by kernel_rfl)) k0 bel lt0) (trodAll_cons_mk (Below.trod laidOut (by kernel_rfl) (of_decide_eq_true (by kernel_rfl)) k1 bel lt1) (trodAll_cons_mk (Below.trod laidOut (by kernel_rfl) (of_decide_eq_true (by kernel_rfl)) k2 bel lt2) trodAll_mk0))), rfl, bel.frame _, fun h => by cases h⟩

theorem over : Rows.decodeCutRow.holds Try.pinned (OpenSpec.ofChange Rows.decodeCutSpec) :=
  OpenClaim.holds_of_wide 18 Try.f18 rfl rfl rfl rfl rfl rfl rfl ⟨rfl, rfl, rfl, rfl, rfl⟩ rfl rfl rfl rfl rfl (by kernel_rfl) Try.func18 (by kernel_rfl)
    (of_decide_eq_true (by kernel_rfl)) (by unfold Func.isWrapper; first | (rw [if_pos (by decide +kernel)]; kernel_rfl) | (rw [if_neg (by decide +kernel)]; exact ⟨rfl, rfl⟩))
    (fun os started H enc _ => lifted os started H enc)

/-- ████ THE STATEMENT ████ -/
theorem proved : Rows.DecodeCutSaid := over
#print axioms proved
end law18
end Go.Proofs.Ytpmpdidgbbgeeaa
