import Derived.Test.YtgbhkmgmpodnkaaLmTrcR1
import Derived.Test.YtgbhkmgmpodnkaaLmcVlist3
namespace Go.LM
open Go.Proofs
set_option maxRecDepth 8000
set_option maxHeartbeats 8000000
set_option linter.unusedSimpArgs false

theorem lVlistFirst (o : Option (Nat × Nat)) (l : List ItemR) (n : Int) : ∃ h', runI Try.prog TA 3 [mkS o 7 (l.map ItemR.e), .int .i64 n] H0 = some (.bool true, h') := by
  refine true_of rfl res3 rfl ?_
  by_cases c0 : (200 : Int) < l.length
  · simp (maxSteps := 10000000) (maxDischargeDepth := 30) only [q3, r3, c0, List.length_map, awAwake18, go_sem, Nat.reduceEqDiff, ↓reduceIte, Nat.reduceAdd, Nat.reduceMul, Nat.reduceLeDiff, Nat.reduceLT, reduceCtorEq, Int.reduceToNat, Int.reduceLE, Int.reduceLT, Int.reduceEq, Int.reduceNeg, Int.reduceNe, Int.reducePow, Nat.reducePow, Nat.reduceSub, IntKind.bits]
  by_cases c1 : n < 0
  · simp (maxSteps := 10000000) (maxDischargeDepth := 30) only [q3, r3, c0, c1, List.length_map, awAwake18, go_sem, Nat.reduceEqDiff, ↓reduceIte, Nat.reduceAdd, Nat.reduceMul, Nat.reduceLeDiff, Nat.reduceLT, reduceCtorEq, Int.reduceToNat, Int.reduceLE, Int.reduceLT, Int.reduceEq, Int.reduceNeg, Int.reduceNe, Int.reducePow, Nat.reducePow, Nat.reduceSub, IntKind.bits]
  by_cases c2 : (l.length : Int) < n
  · simp (maxSteps := 10000000) (maxDischargeDepth := 30) only [q3, r3, c0, c1, c2, List.length_map, awAwake18, go_sem, Nat.reduceEqDiff, ↓reduceIte, Nat.reduceAdd, Nat.reduceMul, Nat.reduceLeDiff, Nat.reduceLT, reduceCtorEq, Int.reduceToNat, Int.reduceLE, Int.reduceLT, Int.reduceEq, Int.reduceNeg, Int.reduceNe, Int.reducePow, Nat.reducePow, Nat.reduceSub, IntKind.bits]
  have hl : l.length ≤ 1000 := by omega
  have w0 := wf0
  simp (maxSteps := 10000000) (maxDischargeDepth := 30) only [q3, r3, c0, c1, c2, List.length_map, go_sem, Nat.reduceEqDiff, ↓reduceIte, Nat.reduceAdd, Nat.reduceMul, Nat.reduceLeDiff, Nat.reduceLT, reduceCtorEq, Int.reduceToNat, Int.reduceLE, Int.reduceLT, Int.reduceEq, Int.reduceNeg, Int.reduceNe, Int.reducePow, Nat.reducePow, Nat.reduceSub, IntKind.bits]
  refine ro_vcall (cVNew o l hl H0 w0) (fun v h1 J => ?_)
  obtain ⟨m1, k1⟩ := J
  have w1 := w0.keep k1
  simp (maxSteps := 10000000) (maxDischargeDepth := 30) only [go_sem, Nat.reduceEqDiff, ↓reduceIte, Nat.reduceAdd, Nat.reduceMul, Nat.reduceLeDiff, Nat.reduceLT, reduceCtorEq, Int.reduceToNat, Int.reduceLE, Int.reduceLT, Int.reduceEq, Int.reduceNeg, Int.reduceNe, Int.reducePow, Nat.reducePow, Nat.reduceSub, IntKind.bits]
  refine ro_kcall (cVTrim v l n hl h1 w1 m1) w1 (fun h2 k2 w2 => ?_)
  have m2 := m1.next k2
  simp (maxSteps := 10000000) (maxDischargeDepth := 30) only [go_sem, Nat.reduceEqDiff, ↓reduceIte, Nat.reduceAdd, Nat.reduceMul, Nat.reduceLeDiff, Nat.reduceLT, reduceCtorEq, Int.reduceToNat, Int.reduceLE, Int.reduceLT, Int.reduceEq, Int.reduceNeg, Int.reduceNe, Int.reducePow, Nat.reducePow, Nat.reduceSub, IntKind.bits]
  refine ro_kcall (cVFirst v l n hl h2 w2 m2) w2 (fun h3 k3 w3 => ?_)
  have m3 := m2.next k3
  simp (maxSteps := 10000000) (maxDischargeDepth := 30) only [go_sem, Nat.reduceEqDiff, ↓reduceIte, Nat.reduceAdd, Nat.reduceMul, Nat.reduceLeDiff, Nat.reduceLT, reduceCtorEq, Int.reduceToNat, Int.reduceLE, Int.reduceLT, Int.reduceEq, Int.reduceNeg, Int.reduceNe, Int.reducePow, Nat.reducePow, Nat.reduceSub, IntKind.bits]
  refine ro_kcall (cVForce v l n hl h3 w3 m3) w3 (fun h4 k4 w4 => ?_)
  have m4 := m3.next k4
  simp (maxSteps := 10000000) (maxDischargeDepth := 30) only [go_sem, Nat.reduceEqDiff, ↓reduceIte, Nat.reduceAdd, Nat.reduceMul, Nat.reduceLeDiff, Nat.reduceLT, reduceCtorEq, Int.reduceToNat, Int.reduceLE, Int.reduceLT, Int.reduceEq, Int.reduceNeg, Int.reduceNe, Int.reducePow, Nat.reducePow, Nat.reduceSub, IntKind.bits]
  obtain ⟨t1, t2, t3⟩ := trim_ok (l := l) (n := n) (by omega) (by omega)
  have t1' : ¬ trimV l n < n := by omega
  have t2' : ¬ (l.length : Int) < trimV l n := by omega
  refine ro_kcall (cVTrim v l (trimV l n) hl h4 w4 m4) w4 (fun h5 k5 w5 => ?_)
  have m5 := m4.next k5
  rw [t3]
  by_cases c3 : n = l.length
  · obtain ⟨f1, f2⟩ := first_end (l := l) (n := n) (by omega)
    rw [f1, f2]
    simp (maxSteps := 10000000) (maxDischargeDepth := 30) only [t1', t2', List.length_map, eq_true c3, awAwake18, go_sem, Nat.reduceEqDiff, ↓reduceIte, Nat.reduceAdd, Nat.reduceMul, Nat.reduceLeDiff, Nat.reduceLT, reduceCtorEq, Int.reduceToNat, Int.reduceLE, Int.reduceLT, Int.reduceEq, Int.reduceNeg, Int.reduceNe, Int.reducePow, Nat.reducePow, Nat.reduceSub, IntKind.bits]
  · obtain ⟨f1, f2, f3, f4⟩ := first_ok (l := l) (n := n) (by omega) (by omega)
    simp (maxSteps := 10000000) (maxDischargeDepth := 30) only [t1', t2', List.length_map, eq_false c3, f1, f2, f3, go_sem, Nat.reduceEqDiff, ↓reduceIte, Nat.reduceAdd, Nat.reduceMul, Nat.reduceLeDiff, Nat.reduceLT, reduceCtorEq, Int.reduceToNat, Int.reduceLE, Int.reduceLT, Int.reduceEq, Int.reduceNeg, Int.reduceNe, Int.reducePow, Nat.reducePow, Nat.reduceSub, IntKind.bits]
    refine ro_kcall (cVMay v l (forceV l n) hl h5 w5 m5) w5 (fun h6 k6 w6 => ?_)
    simp (maxSteps := 10000000) (maxDischargeDepth := 30) only [f4, awAwake18, go_sem, Nat.reduceEqDiff, ↓reduceIte, Nat.reduceAdd, Nat.reduceMul, Nat.reduceLeDiff, Nat.reduceLT, reduceCtorEq, Int.reduceToNat, Int.reduceLE, Int.reduceLT, Int.reduceEq, Int.reduceNeg, Int.reduceNe, Int.reducePow, Nat.reducePow, Nat.reduceSub, IntKind.bits]

/-! ### of nil -/
end Go.LM
