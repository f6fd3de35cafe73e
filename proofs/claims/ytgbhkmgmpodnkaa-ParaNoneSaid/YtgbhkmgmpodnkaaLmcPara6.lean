import Derived.Test.YtgbhkmgmpodnkaaLmTrcR1
import Derived.Test.YtgbhkmgmpodnkaaLmcPara5
namespace Go.LM
open Go.Proofs
set_option maxRecDepth 8000
set_option maxHeartbeats 8000000
set_option linter.unusedSimpArgs false

theorem cost_nil (g : GeomR) (b : Int) : costP g [] b = 0 := by unfold costP; rw [itAt_end (by simp only [List.length_nil]; omega)]
theorem fits_nil (g : GeomR) (b : Int) : Fits g [] b := by
  intro x hx
  rw [itAt_end (by simp only [List.length_nil]; omega)] at hx
  cases hx
theorem behind_nil (b : Int) : behindP [] b = -1 := by unfold behindP; rw [firstK_end (by simp)]
theorem lParaNone (g : GeomR) (b : Int) : ∃ h', runI Try.prog TA 6 [g.e, .int .i64 b] H0 = some (.bool true, h') := by
  refine true_of rfl res6 rfl ?_
  have hl : ([] : List ItemR).length ≤ 1000 := by simp
  obtain ⟨hc, hw⟩ := club_bare (l := []) (b := b) (by simp)
  simp (maxSteps := 10000000) (maxDischargeDepth := 30) only [q6, r6, GeomR.e, GeomR.cells, go_sem, Nat.reduceEqDiff, ↓reduceIte, Nat.reduceAdd, Nat.reduceMul, Nat.reduceLeDiff, Nat.reduceLT, reduceCtorEq, Int.reduceToNat, Int.reduceLE, Int.reduceLT, Int.reduceEq, Int.reduceNeg, Int.reduceNe, Int.reducePow, Nat.reducePow, Nat.reduceSub, IntKind.bits]
  generalize hgg : H.alloc _ _ = g0
  have k0 : Keep H0 g0 := by rw [← hgg]; exact (Keep.refl H0).alloc _
  have gg0 : g0.get H0.len = some ⟨false, [.int .i64 g.c0, .int .i64 g.c1, .int .i64 g.c2, .int .i64 g.c3, .int .i64 g.c4, .int .i64 g.c5, .int .i64 g.c6, .int .i64 g.c7, .int .i64 g.c8, .int .i64 g.c9, .int .i64 g.c10, .int .i64 g.c11, .int .i64 g.c12, .int .i64 g.c13, .int .i64 g.c14, .int .i64 g.c15, .int .i64 g.c16, .int .i64 g.c17, .bool g.bal]⟩ := by rw [← hgg]; exact get_alloc_eq _ _
  clear hgg
  have w0 := wf0.keep k0
  try (simp (maxSteps := 10000000) (maxDischargeDepth := 30) only [gg0, go_sem, Nat.reduceEqDiff, ↓reduceIte, Nat.reduceAdd, Nat.reduceMul, Nat.reduceLeDiff, Nat.reduceLT, reduceCtorEq, Int.reduceToNat, Int.reduceLE, Int.reduceLT, Int.reduceEq, Int.reduceNeg, Int.reduceNe, Int.reducePow, Nat.reducePow, Nat.reduceSub, IntKind.bits])
  refine ro_kcall (cPaOf g .nilp [] b hl (fits_nil g b) g0 w0 (.nil _)) w0 (fun h1 k1 w1 => ?_)
  rw [cost_nil]
  simp (maxSteps := 10000000) (maxDischargeDepth := 30) only [go_sem, Nat.reduceEqDiff, ↓reduceIte, Nat.reduceAdd, Nat.reduceMul, Nat.reduceLeDiff, Nat.reduceLT, reduceCtorEq, Int.reduceToNat, Int.reduceLE, Int.reduceLT, Int.reduceEq, Int.reduceNeg, Int.reduceNe, Int.reducePow, Nat.reducePow, Nat.reduceSub, IntKind.bits]
  refine ro_kcall (cPaAhead .nilp [] b hl h1 w1 (.nil _)) w1 (fun h2 k2 w2 => ?_)
  rw [show aheadP [] b ([] : List ItemR).length = -1 from rfl]
  simp (maxSteps := 10000000) (maxDischargeDepth := 30) only [go_sem, Nat.reduceEqDiff, ↓reduceIte, Nat.reduceAdd, Nat.reduceMul, Nat.reduceLeDiff, Nat.reduceLT, reduceCtorEq, Int.reduceToNat, Int.reduceLE, Int.reduceLT, Int.reduceEq, Int.reduceNeg, Int.reduceNe, Int.reducePow, Nat.reducePow, Nat.reduceSub, IntKind.bits]
  refine ro_kcall (cPaBehind .nilp [] b hl h2 w2 (.nil _)) w2 (fun h3 k3 w3 => ?_)
  rw [behind_nil]
  simp (maxSteps := 10000000) (maxDischargeDepth := 30) only [go_sem, Nat.reduceEqDiff, ↓reduceIte, Nat.reduceAdd, Nat.reduceMul, Nat.reduceLeDiff, Nat.reduceLT, reduceCtorEq, Int.reduceToNat, Int.reduceLE, Int.reduceLT, Int.reduceEq, Int.reduceNeg, Int.reduceNe, Int.reducePow, Nat.reducePow, Nat.reduceSub, IntKind.bits]
  refine ro_kcall (cPaClub .nilp [] b hl h3 w3 (.nil _)) w3 (fun h4 k4 w4 => ?_)
  rw [hc]
  simp (maxSteps := 10000000) (maxDischargeDepth := 30) only [go_sem, Nat.reduceEqDiff, ↓reduceIte, Nat.reduceAdd, Nat.reduceMul, Nat.reduceLeDiff, Nat.reduceLT, reduceCtorEq, Int.reduceToNat, Int.reduceLE, Int.reduceLT, Int.reduceEq, Int.reduceNeg, Int.reduceNe, Int.reducePow, Nat.reducePow, Nat.reduceSub, IntKind.bits]
  refine ro_kcall (cPaWidow .nilp [] b hl h4 w4 (.nil _)) w4 (fun h5 k5 w5 => ?_)
  rw [hw]
  simp (maxSteps := 10000000) (maxDischargeDepth := 30) only [awAwake20, go_sem, Nat.reduceEqDiff, ↓reduceIte, Nat.reduceAdd, Nat.reduceMul, Nat.reduceLeDiff, Nat.reduceLT, reduceCtorEq, Int.reduceToNat, Int.reduceLE, Int.reduceLT, Int.reduceEq, Int.reduceNeg, Int.reduceNe, Int.reducePow, Nat.reducePow, Nat.reduceSub, IntKind.bits]
end Go.LM
