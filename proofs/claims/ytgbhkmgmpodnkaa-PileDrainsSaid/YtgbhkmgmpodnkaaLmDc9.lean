/-
  Proved: the law PileDrains of the program tympan returns true for any two lists of pairs, and they read as before. No condition.
  The proof: a logical machine (texts LmA to LmZ) over the model's code, sound for the model; contracts of the functions in it; the law.
-/
import Derived.Test.YtgbhkmgmpodnkaaLmcPTy
import Derived.Test.YtgbhkmgmpodnkaaLmcPile8
namespace Go.Proofs.Ytgbhkmgmpodnkaa
open Go.ChangeShapes Go.WideShapes Go.ChangeAt Go.RowKit Go.LM
set_option linter.unusedVariables false
namespace law9
set_option maxRecDepth 100000 in
theorem lifted (os : Os) (started : os.Started) (H : Type) (enc : TypeId × Value → H) :
    ReturnsInHanded {} Try.checked os 9 .any (Rows.pileDrainsSpec.pre6 enc Try.prog Try.f9 Rows.pileDrainsRow.domain false) (Rows.pileDrainsSpec.post enc Try.prog Try.f9 false true false false) := by
  refine returnsInHanded_of_change (C := Try.checked) own started (by kernel_rfl) Try.func9
    (ChangeSpec.witness6 (enc := enc) (C := Try.checked) false ⟨#[], #[.slice none 0 0, .slice none 0 0], []⟩ 8 (by kernel_rfl) (by kernel_rfl) (by kernel_rfl) (by kernel_rfl)) ?_
  intro W base args ds gs before hval0 hW hcnd _
  have hval : ∀ (j : Nat) t v, Try.f9.params[j]? = some t → args[j]? = some v → Value.okWide Try.prog W .any base t v := hval0
  have hW' := hW
  obtain ⟨p, q, hA0, hV, rfl, hfz, hnd⟩ := hW
  have hA : DataW.TrodAll enc Try.prog W 0 (fun _ => true) true Try.f9.params.toList args.toList ds p := hA0
  rw [Try.params9] at hA hval
  obtain ⟨v0, vs0, d0, ds0, p0, q0, hargs, rfl, rfl, k0, r0⟩ := trodAll_cons hA
  obtain ⟨v1, vs1, d1, ds1, p1, q1, rfl, rfl, rfl, k1, r1⟩ := trodAll_cons r0
  obtain ⟨rfl, rfl, rfl⟩ := trodAll_nil r1
  obtain rfl : args = #[v0, v1] := by cases args; simp_all
  obtain ⟨rfl, rfl⟩ := trodVars_none hV
  have lt0 : ∀ x ∈ p0, x.block < W.heap.size := by obtain ⟨m, hm⟩ := k0; exact DataW.trod_lt m _ _ _ hm
  obtain ⟨l0, e0, t0⟩ := open_one 8 ty_a55 (hval 0 55 v0 rfl rfl) k0 (by kernel_rfl)
  obtain ⟨o0, x0, rfl, b0, n0⟩ := ty_pairs t0
  have lt1 : ∀ x ∈ p1, x.block < W.heap.size := by obtain ⟨m, hm⟩ := k1; exact DataW.trod_lt m _ _ _ hm
  obtain ⟨l1, e1, t1⟩ := open_one 8 ty_a55 (hval 1 55 v1 rfl rfl) k1 (by kernel_rfl)
  obtain ⟨o1, x1, rfl, b1, n1⟩ := ty_pairs t1
  obtain ⟨h', hl⟩ := lPileDrains o0 o1 x0 x1 n0 n1
  clear hA0 hval0
  refine (calls_true tokA foll (VRs.cons e0 (VRs.cons e1 .nil)) hl).mono fun e W' ⟨he, bel⟩ => ?_
  subst he
  exact ⟨_, rfl, _, _, _, [], _, [], hW', trodAll_mk1 (shut_bool Try.underlying4 _), (trodAll_cons_mk (Below.trod laidOut (by kernel_rfl) (of_decide_eq_true (by kernel_rfl)) k0 bel lt0) (trodAll_cons_mk (Below.trod laidOut (by kernel_rfl) (of_decide_eq_true (by kernel_rfl)) k1 bel lt1) trodAll_mk0)), rfl, bel.frame _, fun h => by cases h⟩

theorem over : Rows.pileDrainsRow.holds Try.pinned (OpenSpec.ofChange Rows.pileDrainsSpec) :=
  OpenClaim.holds_of_wide 9 Try.f9 rfl rfl rfl rfl rfl rfl rfl ⟨rfl, rfl, rfl, rfl, rfl⟩ rfl rfl rfl rfl rfl (by kernel_rfl) Try.func9 (by kernel_rfl)
    (of_decide_eq_true (by kernel_rfl)) (by unfold Func.isWrapper; first | (rw [if_pos (by decide +kernel)]; kernel_rfl) | (rw [if_neg (by decide +kernel)]; exact ⟨rfl, rfl⟩))
    (fun os started H enc _ => lifted os started H enc)

/-- ████ THE STATEMENT ████ -/
theorem proved : Rows.PileDrainsSaid := over
#print axioms proved
end law9
end Go.Proofs.Ytgbhkmgmpodnkaa
