import Derived.Test.YtgbhkmgmpodnkaaLmTrcR1
import Derived.Test.YtgbhkmgmpodnkaaLmcVlist3
namespace Go.LM
open Go.Proofs
set_option maxRecDepth 8000
set_option maxHeartbeats 8000000
set_option linter.unusedSimpArgs false

theorem force_nil (n : Int) : forceV [] n = -1 := by
  unfold forceV
  split
  · rfl
  · rw [show [].length + 1 - ((max n 0).toNat + 1) = 0 by simp only [List.length_nil]; omega]
    rfl
theorem first_nil (n : Int) : firstV [] n = -1 := by
  unfold firstV
  split
  · rfl
  · rw [show [].length + 1 - ((max n 0).toNat + 1) = 0 by simp only [List.length_nil]; omega]
    rfl
theorem trim_nil (n : Int) : trimV [] n = 0 := by
  have hpl := placeN_le (l := []) n
  unfold trimV
  rw [show placeN [] n = 0 by simp only [List.length_nil] at hpl; omega]
  rfl
theorem may_nil (b : Int) : mayV [] b = false := by
  unfold mayV
  rw [if_pos (by simp only [List.length_nil]; omega)]
theorem cVBreaksN (n : Int) (h : H) (w : WF h) : runI Try.prog TA 31 [.nilp, .int .i64 n] h = some (.nils, hp Try.prog TA 31 [.nilp, .int .i64 n] h) := by
  refine pure_of rfl res31 rfl ?_
  simp (maxSteps := 10000000) (maxDischargeDepth := 30) only [q31, r31, go_sem, Nat.reduceEqDiff, ↓reduceIte, Nat.reduceAdd, Nat.reduceMul, Nat.reduceLeDiff, Nat.reduceLT, reduceCtorEq, Int.reduceToNat, Int.reduceLE, Int.reduceLT, Int.reduceEq, Int.reduceNeg, Int.reduceNe, Int.reducePow, Nat.reducePow, Nat.reduceSub, IntKind.bits]
  refine ro_kcall (cVForce .nilp [] n (by simp) h w (.nil h)) w (fun h1 k1 w1 => ?_)
  simp (maxSteps := 10000000) (maxDischargeDepth := 30) only [go_sem, Nat.reduceEqDiff, ↓reduceIte, Nat.reduceAdd, Nat.reduceMul, Nat.reduceLeDiff, Nat.reduceLT, reduceCtorEq, Int.reduceToNat, Int.reduceLE, Int.reduceLT, Int.reduceEq, Int.reduceNeg, Int.reduceNe, Int.reducePow, Nat.reducePow, Nat.reduceSub, IntKind.bits]
  refine ro_kcall (cVFirst .nilp [] n (by simp) h1 w1 (.nil h1)) w1 (fun h2 k2 w2 => ?_)
  rw [force_nil, first_nil]
  have kk := k1.trans k2
  simp (maxSteps := 10000000) (maxDischargeDepth := 30) only [go_sem, Nat.reduceEqDiff, ↓reduceIte, Nat.reduceAdd, Nat.reduceMul, Nat.reduceLeDiff, Nat.reduceLT, reduceCtorEq, Int.reduceToNat, Int.reduceLE, Int.reduceLT, Int.reduceEq, Int.reduceNeg, Int.reduceNe, Int.reducePow, Nat.reducePow, Nat.reduceSub, IntKind.bits]
  refine ru_loop (fun _ => 0) (fun _ s hh => s 5 = .nils ∧ s 6 = .int .i64 (-1) ∧ s 7 = .int .i64 (-1) ∧ Keep h hh) (0 : Nat) ?_ ?_
  · simp (maxSteps := 10000000) (maxDischargeDepth := 30) only [kk, go_sem, Nat.reduceEqDiff, ↓reduceIte, Nat.reduceAdd, Nat.reduceMul, Nat.reduceLeDiff, Nat.reduceLT, reduceCtorEq, Int.reduceToNat, Int.reduceLE, Int.reduceLT, Int.reduceEq, Int.reduceNeg, Int.reduceNe, Int.reducePow, Nat.reducePow, Nat.reduceSub, IntKind.bits]
  · rintro i s hh ⟨e5, e6, e7, kk⟩
    simp (maxSteps := 10000000) (maxDischargeDepth := 30) only [e5, e6, e7, kk, go_sem, Nat.reduceEqDiff, ↓reduceIte, Nat.reduceAdd, Nat.reduceMul, Nat.reduceLeDiff, Nat.reduceLT, reduceCtorEq, Int.reduceToNat, Int.reduceLE, Int.reduceLT, Int.reduceEq, Int.reduceNeg, Int.reduceNe, Int.reducePow, Nat.reducePow, Nat.reduceSub, IntKind.bits]
theorem cVBetweenN (n b : Int) (h : H) (w : WF h) : runI Try.prog TA 32 [.nilp, .int .i64 n, .int .i64 b] h = some (.nils, hp Try.prog TA 32 [.nilp, .int .i64 n, .int .i64 b] h) := by
  refine pure_of rfl res32 rfl ?_
  simp (maxSteps := 10000000) (maxDischargeDepth := 30) only [q32, r32, go_sem, Nat.reduceEqDiff, ↓reduceIte, Nat.reduceAdd, Nat.reduceMul, Nat.reduceLeDiff, Nat.reduceLT, reduceCtorEq, Int.reduceToNat, Int.reduceLE, Int.reduceLT, Int.reduceEq, Int.reduceNeg, Int.reduceNe, Int.reducePow, Nat.reducePow, Nat.reduceSub, IntKind.bits]
  refine ru_loop (fun _ => 0) (fun _ s hh => s 0 = .nilp ∧ s 2 = .int .i64 b ∧ s 7 = .nils ∧ s 8 = .int .i64 (max n 0) ∧ Keep h hh ∧ WF hh) (0 : Nat) ?_ ?_
  · simp (maxSteps := 10000000) (maxDischargeDepth := 30) only [go_sem, Nat.reduceEqDiff, ↓reduceIte, Nat.reduceAdd, Nat.reduceMul, Nat.reduceLeDiff, Nat.reduceLT, reduceCtorEq, Int.reduceToNat, Int.reduceLE, Int.reduceLT, Int.reduceEq, Int.reduceNeg, Int.reduceNe, Int.reducePow, Nat.reducePow, Nat.reduceSub, IntKind.bits]
    exact w
  · rintro i s hh ⟨e0, e2, e7, e8, kk, ww⟩
    simp (maxSteps := 10000000) (maxDischargeDepth := 30) only [e0, e2, e7, e8, go_sem, Nat.reduceEqDiff, ↓reduceIte, Nat.reduceAdd, Nat.reduceMul, Nat.reduceLeDiff, Nat.reduceLT, reduceCtorEq, Int.reduceToNat, Int.reduceLE, Int.reduceLT, Int.reduceEq, Int.reduceNeg, Int.reduceNe, Int.reducePow, Nat.reducePow, Nat.reduceSub, IntKind.bits]
    refine ro_kcall (cVLen .nilp [] hh (.nil hh)) ww (fun h1 k1 w1 => ?_)
    have c1 : ¬ max n 0 < min b 0 := by omega
    have kk1 := kk.trans k1
    simp (maxSteps := 10000000) (maxDischargeDepth := 30) only [e0, e2, e7, e8, List.length_nil, Int.natCast_zero, c1, kk1, go_sem, Nat.reduceEqDiff, ↓reduceIte, Nat.reduceAdd, Nat.reduceMul, Nat.reduceLeDiff, Nat.reduceLT, reduceCtorEq, Int.reduceToNat, Int.reduceLE, Int.reduceLT, Int.reduceEq, Int.reduceNeg, Int.reduceNe, Int.reducePow, Nat.reducePow, Nat.reduceSub, IntKind.bits]
theorem lVlistNone (n b : Int) : ∃ h', runI Try.prog TA 7 [.int .i64 n, .int .i64 b] H0 = some (.bool true, h') := by
  refine true_of rfl res7 rfl ?_
  have w0 := wf0
  have hl : ([] : List ItemR).length ≤ 1000 := by simp
  simp (maxSteps := 10000000) (maxDischargeDepth := 30) only [q7, r7, go_sem, Nat.reduceEqDiff, ↓reduceIte, Nat.reduceAdd, Nat.reduceMul, Nat.reduceLeDiff, Nat.reduceLT, reduceCtorEq, Int.reduceToNat, Int.reduceLE, Int.reduceLT, Int.reduceEq, Int.reduceNeg, Int.reduceNe, Int.reducePow, Nat.reducePow, Nat.reduceSub, IntKind.bits]
  refine ro_kcall (cVAt .nilp [] n H0 w0 (.nil _)) w0 (fun h1 k1 w1 => ?_)
  have lo1 := w1.1
  rw [itAt_end (by simp only [List.length_nil]; omega)]
  simp (maxSteps := 10000000) (maxDischargeDepth := 30) only [lo1, itemZ, ItemR.e, Option.getD_none, Option.isSome_none, go_sem, Nat.reduceEqDiff, ↓reduceIte, Nat.reduceAdd, Nat.reduceMul, Nat.reduceLeDiff, Nat.reduceLT, reduceCtorEq, Int.reduceToNat, Int.reduceLE, Int.reduceLT, Int.reduceEq, Int.reduceNeg, Int.reduceNe, Int.reducePow, Nat.reducePow, Nat.reduceSub, IntKind.bits]
  generalize hgg : H.put _ _ _ = g
  have kg : Keep h1 g := by rw [← hgg]; exact ((Keep.refl h1).alloc _).put (Nat.le_refl _) _
  have gg : g.get h1.len = some ⟨false, [.int .i64 0, .int .i64 0, .int .i64 0, .int .i64 0, .int .i64 0, .int .i64 0, .int .i64 0]⟩ := by rw [← hgg]; exact get_put_eq (by rw [len_alloc]; omega)
  clear hgg
  have wg := w1.keep kg
  try (simp (maxSteps := 10000000) (maxDischargeDepth := 30) only [go_sem, Nat.reduceEqDiff, ↓reduceIte, Nat.reduceAdd, Nat.reduceMul, Nat.reduceLeDiff, Nat.reduceLT, reduceCtorEq, Int.reduceToNat, Int.reduceLE, Int.reduceLT, Int.reduceEq, Int.reduceNeg, Int.reduceNe, Int.reducePow, Nat.reducePow, Nat.reduceSub, IntKind.bits])
  refine ro_kcall (cVLen .nilp [] g (.nil _)) wg (fun h2 k2 w2 => ?_)
  have g2 := (k2.get (lt_of_get gg)).trans gg
  simp (maxSteps := 10000000) (maxDischargeDepth := 30) only [g2, List.length_nil, Int.natCast_zero, go_sem, Nat.reduceEqDiff, ↓reduceIte, Nat.reduceAdd, Nat.reduceMul, Nat.reduceLeDiff, Nat.reduceLT, reduceCtorEq, Int.reduceToNat, Int.reduceLE, Int.reduceLT, Int.reduceEq, Int.reduceNeg, Int.reduceNe, Int.reducePow, Nat.reducePow, Nat.reduceSub, IntKind.bits]
  refine ro_kcall (cVMay .nilp [] b hl h2 w2 (.nil _)) w2 (fun h3 k3 w3 => ?_)
  rw [may_nil]
  simp (maxSteps := 10000000) (maxDischargeDepth := 30) only [go_sem, Nat.reduceEqDiff, ↓reduceIte, Nat.reduceAdd, Nat.reduceMul, Nat.reduceLeDiff, Nat.reduceLT, reduceCtorEq, Int.reduceToNat, Int.reduceLE, Int.reduceLT, Int.reduceEq, Int.reduceNeg, Int.reduceNe, Int.reducePow, Nat.reducePow, Nat.reduceSub, IntKind.bits]
  refine ro_kcall (cVTrim .nilp [] n hl h3 w3 (.nil _)) w3 (fun h4 k4 w4 => ?_)
  rw [trim_nil]
  simp (maxSteps := 10000000) (maxDischargeDepth := 30) only [go_sem, Nat.reduceEqDiff, ↓reduceIte, Nat.reduceAdd, Nat.reduceMul, Nat.reduceLeDiff, Nat.reduceLT, reduceCtorEq, Int.reduceToNat, Int.reduceLE, Int.reduceLT, Int.reduceEq, Int.reduceNeg, Int.reduceNe, Int.reducePow, Nat.reducePow, Nat.reduceSub, IntKind.bits]
  refine ro_kcall (cVFirst .nilp [] 0 hl h4 w4 (.nil _)) w4 (fun h5 k5 w5 => ?_)
  rw [first_nil]
  simp (maxSteps := 10000000) (maxDischargeDepth := 30) only [go_sem, Nat.reduceEqDiff, ↓reduceIte, Nat.reduceAdd, Nat.reduceMul, Nat.reduceLeDiff, Nat.reduceLT, reduceCtorEq, Int.reduceToNat, Int.reduceLE, Int.reduceLT, Int.reduceEq, Int.reduceNeg, Int.reduceNe, Int.reducePow, Nat.reducePow, Nat.reduceSub, IntKind.bits]
  refine ro_kcall (cVForce .nilp [] 0 hl h5 w5 (.nil _)) w5 (fun h6 k6 w6 => ?_)
  rw [force_nil]
  simp (maxSteps := 10000000) (maxDischargeDepth := 30) only [go_sem, Nat.reduceEqDiff, ↓reduceIte, Nat.reduceAdd, Nat.reduceMul, Nat.reduceLeDiff, Nat.reduceLT, reduceCtorEq, Int.reduceToNat, Int.reduceLE, Int.reduceLT, Int.reduceEq, Int.reduceNeg, Int.reduceNe, Int.reducePow, Nat.reducePow, Nat.reduceSub, IntKind.bits]
  refine ro_kcall (cVBreaksN n h6 w6) w6 (fun h7 k7 w7 => ?_)
  simp (maxSteps := 10000000) (maxDischargeDepth := 30) only [go_sem, Nat.reduceEqDiff, ↓reduceIte, Nat.reduceAdd, Nat.reduceMul, Nat.reduceLeDiff, Nat.reduceLT, reduceCtorEq, Int.reduceToNat, Int.reduceLE, Int.reduceLT, Int.reduceEq, Int.reduceNeg, Int.reduceNe, Int.reducePow, Nat.reducePow, Nat.reduceSub, IntKind.bits]
  refine ro_kcall (cVBetweenN n b h7 w7) w7 (fun h8 k8 w8 => ?_)
  simp (maxSteps := 10000000) (maxDischargeDepth := 30) only [awAwake18, go_sem, Nat.reduceEqDiff, ↓reduceIte, Nat.reduceAdd, Nat.reduceMul, Nat.reduceLeDiff, Nat.reduceLT, reduceCtorEq, Int.reduceToNat, Int.reduceLE, Int.reduceLT, Int.reduceEq, Int.reduceNeg, Int.reduceNe, Int.reducePow, Nat.reducePow, Nat.reduceSub, IntKind.bits]
end Go.LM
