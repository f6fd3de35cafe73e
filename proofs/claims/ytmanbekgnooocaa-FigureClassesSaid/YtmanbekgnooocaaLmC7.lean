import Derived.Test.YtmanbekgnooocaaLmC6
namespace Go.LM
open Go.Proofs
set_option maxRecDepth 4000
set_option maxHeartbeats 1000000
set_option linter.unusedSimpArgs false

def J4 (o o2 : Option (Nat × Nat)) (l : List Flo) (ids : List Int) (sep : Int) (i : Nat) (s : S) (h : H) : Prop :=
  s 0 = flos o l ∧ s 1 = ints o2 ids ∧ s 2 = .int .i64 sep ∧ s 7 = .int .i64 i ∧ i ≤ ids.length ∧ WF h
theorem l4 (o o2 : Option (Nat × Nat)) (l : List Flo) (ids : List Int) (sep : Int) : ∃ h', runI Try.prog TA 4 [flos o l, ints o2 ids, .int .i64 sep] H0 = some (.bool true, h') := by
  refine true_of rfl res4 rfl ?_
  by_cases hl : (100 : Int) < l.length
  · simp (maxSteps := 10000000) (maxDischargeDepth := 30) only [q4, r4, hl, aw19, go_sem, Nat.reduceEqDiff, ↓reduceIte, Nat.reduceAdd, Nat.reduceMul, Nat.reduceLeDiff, Nat.reduceLT, reduceCtorEq, Int.reduceToNat, Int.reduceLE, Int.reduceLT, Int.reduceEq, Int.reduceNeg, Int.reduceNe, Int.reducePow, Nat.reducePow, Nat.reduceSub, IntKind.bits]
  by_cases hi : (100 : Int) < ids.length
  · simp (maxSteps := 10000000) (maxDischargeDepth := 30) only [q4, r4, hl, hi, aw19, go_sem, Nat.reduceEqDiff, ↓reduceIte, Nat.reduceAdd, Nat.reduceMul, Nat.reduceLeDiff, Nat.reduceLT, reduceCtorEq, Int.reduceToNat, Int.reduceLE, Int.reduceLT, Int.reduceEq, Int.reduceNeg, Int.reduceNe, Int.reducePow, Nat.reducePow, Nat.reduceSub, IntKind.bits]
  simp (maxSteps := 10000000) (maxDischargeDepth := 30) only [q4, r4, hl, hi, go_sem, Nat.reduceEqDiff, ↓reduceIte, Nat.reduceAdd, Nat.reduceMul, Nat.reduceLeDiff, Nat.reduceLT, reduceCtorEq, Int.reduceToNat, Int.reduceLE, Int.reduceLT, Int.reduceEq, Int.reduceNeg, Int.reduceNe, Int.reducePow, Nat.reducePow, Nat.reduceSub, IntKind.bits]
  refine ru_loop (fun i => ids.length - i) (J4 o o2 l ids sep) 0 ?_ ?_
  · unfold J4
    simp (maxSteps := 10000000) (maxDischargeDepth := 30) only [wf0, Int.natCast_zero, go_sem, Nat.reduceEqDiff, ↓reduceIte, Nat.reduceAdd, Nat.reduceMul, Nat.reduceLeDiff, Nat.reduceLT, reduceCtorEq, Int.reduceToNat, Int.reduceLE, Int.reduceLT, Int.reduceEq, Int.reduceNeg, Int.reduceNe, Int.reducePow, Nat.reducePow, Nat.reduceSub, IntKind.bits]
  · rintro i s h1 ⟨e0, e1, e2, e7, hi2, w1⟩
    have hlo := le_hp0 w1
    by_cases hlt : i < ids.length
    · obtain ⟨n, hn⟩ : ∃ n, ids[i]? = some n := ⟨ids[i], List.getElem?_eq_getElem hlt⟩
      have ea := int_at hn
      have c1 : (i : Int) < ids.length := by omega
      have ew : IntKind.i64.wrap ((i : Int) + 1) = ((i + 1 : Nat) : Int) := by rw [wrap64 (by omega) (by omega)]; omega
      have e20 := c20 o l n
      cases hf : figAt l n with
      | none =>
        rw [hf] at e20
        by_cases h0 : 0 ≤ n
        · have h2 := figAt_none' hf h0
          simp (maxSteps := 10000000) (maxDischargeDepth := 30) only [e0, e1, e2, e7, ea, c1, ew, e20, w1, flo0, Flo.e, Option.getD_none, Option.isSome_none, hlo, h0, h2, go_sem, Nat.reduceEqDiff, ↓reduceIte, Nat.reduceAdd, Nat.reduceMul, Nat.reduceLeDiff, Nat.reduceLT, reduceCtorEq, Int.reduceToNat, Int.reduceLE, Int.reduceLT, Int.reduceEq, Int.reduceNeg, Int.reduceNe, Int.reducePow, Nat.reducePow, Nat.reduceSub, IntKind.bits]
          refine ⟨i + 1, by omega, ?_⟩
          unfold J4
          simp (maxSteps := 10000000) (maxDischargeDepth := 30) only [e0, e1, e2, e7, w1, go_sem, Nat.reduceEqDiff, ↓reduceIte, Nat.reduceAdd, Nat.reduceMul, Nat.reduceLeDiff, Nat.reduceLT, reduceCtorEq, Int.reduceToNat, Int.reduceLE, Int.reduceLT, Int.reduceEq, Int.reduceNeg, Int.reduceNe, Int.reducePow, Nat.reducePow, Nat.reduceSub, IntKind.bits]
          omega
        · simp (maxSteps := 10000000) (maxDischargeDepth := 30) only [e0, e1, e2, e7, ea, c1, ew, e20, w1, flo0, Flo.e, Option.getD_none, Option.isSome_none, hlo, h0, go_sem, Nat.reduceEqDiff, ↓reduceIte, Nat.reduceAdd, Nat.reduceMul, Nat.reduceLeDiff, Nat.reduceLT, reduceCtorEq, Int.reduceToNat, Int.reduceLE, Int.reduceLT, Int.reduceEq, Int.reduceNeg, Int.reduceNe, Int.reducePow, Nat.reducePow, Nat.reduceSub, IntKind.bits]
          refine ⟨i + 1, by omega, ?_⟩
          unfold J4
          simp (maxSteps := 10000000) (maxDischargeDepth := 30) only [e0, e1, e2, e7, w1, go_sem, Nat.reduceEqDiff, ↓reduceIte, Nat.reduceAdd, Nat.reduceMul, Nat.reduceLeDiff, Nat.reduceLT, reduceCtorEq, Int.reduceToNat, Int.reduceLE, Int.reduceLT, Int.reduceEq, Int.reduceNeg, Int.reduceNe, Int.reducePow, Nat.reducePow, Nat.reduceSub, IntKind.bits]
          omega
      | some f =>
        rw [hf] at e20
        obtain ⟨h0, h2, h3⟩ := figAt_some hf
        simp (maxSteps := 10000000) (maxDischargeDepth := 30) only [e0, e1, e2, e7, ea, c1, ew, e20, w1, Flo.e, Option.getD_some, Option.isSome_some, hlo, h0, h2, h3, go_sem, Nat.reduceEqDiff, ↓reduceIte, Nat.reduceAdd, Nat.reduceMul, Nat.reduceLeDiff, Nat.reduceLT, reduceCtorEq, Int.reduceToNat, Int.reduceLE, Int.reduceLT, Int.reduceEq, Int.reduceNeg, Int.reduceNe, Int.reducePow, Nat.reducePow, Nat.reduceSub, IntKind.bits]
        refine ⟨i + 1, by omega, ?_⟩
        unfold J4
        simp (maxSteps := 10000000) (maxDischargeDepth := 30) only [e0, e1, e2, e7, w1, go_sem, Nat.reduceEqDiff, ↓reduceIte, Nat.reduceAdd, Nat.reduceMul, Nat.reduceLeDiff, Nat.reduceLT, reduceCtorEq, Int.reduceToNat, Int.reduceLE, Int.reduceLT, Int.reduceEq, Int.reduceNeg, Int.reduceNe, Int.reducePow, Nat.reducePow, Nat.reduceSub, IntKind.bits]
        omega
    · have c1 : ¬ (i : Int) < ids.length := by omega
      have e21 := c21 o o2 l ids sep (by omega)
      have e22 := c22 o o2 l ids sep (by omega)
      simp (maxSteps := 10000000) (maxDischargeDepth := 30) only [e0, e1, e2, e7, c1, e21, e22, w1, aw19, go_sem, Nat.reduceEqDiff, ↓reduceIte, Nat.reduceAdd, Nat.reduceMul, Nat.reduceLeDiff, Nat.reduceLT, reduceCtorEq, Int.reduceToNat, Int.reduceLE, Int.reduceLT, Int.reduceEq, Int.reduceNeg, Int.reduceNe, Int.reducePow, Nat.reducePow, Nat.reduceSub, IntKind.bits]
end Go.LM
