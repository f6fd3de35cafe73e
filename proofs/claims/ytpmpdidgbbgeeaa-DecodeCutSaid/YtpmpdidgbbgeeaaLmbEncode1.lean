import Derived.Test.YtpmpdidgbbgeeaaLmTrbR1
import Derived.Test.YtpmpdidgbbgeeaaLmTrbR2
import Derived.Test.YtpmpdidgbbgeeaaLmbCodecW
import Derived.Test.YtpmpdidgbbgeeaaLmB10
namespace Go.LM
open Go.Proofs
set_option maxRecDepth 8000
set_option maxHeartbeats 4000000
set_option linter.unusedSimpArgs false

theorem cItBox (a b : Int) (h : H) (w : WF h) : runI Try.prog TA 79 [.int .i64 a, .int .i64 b] h = some (.agg [.int .i64 1, .int .i64 a, .int .i64 b, .int .i64 0, .int .i64 0, .int .i64 0, .int .i64 0], hp Try.prog TA 79 [.int .i64 a, .int .i64 b] h) := by
  refine pure_of rfl res79 rfl ?_
  have lo := w.1
  simp (maxSteps := 10000000) (maxDischargeDepth := 30) only [q79, r79, lo, go_sem, Nat.reduceEqDiff, ↓reduceIte, Nat.reduceAdd, Nat.reduceMul, Nat.reduceLeDiff, Nat.reduceLT, reduceCtorEq, Int.reduceToNat, Int.reduceLE, Int.reduceLT, Int.reduceEq, Int.reduceNeg, Int.reduceNe, Int.reducePow, Nat.reducePow, Nat.reduceSub, IntKind.bits]
theorem cItGlue (a b c d : Int) (h : H) (w : WF h) : runI Try.prog TA 80 [.int .i64 a, .int .i64 b, .int .i64 c, .int .i64 d] h = some (.agg [.int .i64 2, .int .i64 a, .int .i64 0, .int .i64 b, .int .i64 c, .int .i64 d, .int .i64 0], hp Try.prog TA 80 [.int .i64 a, .int .i64 b, .int .i64 c, .int .i64 d] h) := by
  refine pure_of rfl res80 rfl ?_
  have lo := w.1
  simp (maxSteps := 10000000) (maxDischargeDepth := 30) only [q80, r80, lo, go_sem, Nat.reduceEqDiff, ↓reduceIte, Nat.reduceAdd, Nat.reduceMul, Nat.reduceLeDiff, Nat.reduceLT, reduceCtorEq, Int.reduceToNat, Int.reduceLE, Int.reduceLT, Int.reduceEq, Int.reduceNeg, Int.reduceNe, Int.reducePow, Nat.reducePow, Nat.reduceSub, IntKind.bits]
theorem cItBarrier (h : H) (w : WF h) : runI Try.prog TA 81 [] h = some (.agg [.int .i64 7, .int .i64 0, .int .i64 0, .int .i64 0, .int .i64 0, .int .i64 0, .int .i64 0], hp Try.prog TA 81 [] h) := by
  refine pure_of rfl res81 rfl ?_
  have lo := w.1
  simp (maxSteps := 10000000) (maxDischargeDepth := 30) only [q81, r81, lo, go_sem, Nat.reduceEqDiff, ↓reduceIte, Nat.reduceAdd, Nat.reduceMul, Nat.reduceLeDiff, Nat.reduceLT, reduceCtorEq, Int.reduceToNat, Int.reduceLE, Int.reduceLT, Int.reduceEq, Int.reduceNeg, Int.reduceNe, Int.reducePow, Nat.reducePow, Nat.reduceSub, IntKind.bits]
theorem cEnBare (x : ItemR) (h : H) (w : WF h) : runI Try.prog TA 30 [x.e] h = some (.bool (bareR x), hp Try.prog TA 30 [x.e] h) := by
  refine pure_of rfl res30 rfl ?_
  have lo := w.1
  have k1 := fun c : List LV => (Keep.refl h).alloc c
  have w1 := fun c : List LV => w.keep (k1 c)
  by_cases d1 : x.k = 1
  · have e : bareR x = (x.str == 0 && (x.ord == 0 && (x.shr == 0 && x.n == 0))) := by unfold bareR; rw [if_pos d1]
    rw [e]
    simp (maxSteps := 10000000) (maxDischargeDepth := 30) only [q30, r30, ItemR.e, d1, go_sem, Nat.reduceEqDiff, ↓reduceIte, Nat.reduceAdd, Nat.reduceMul, Nat.reduceLeDiff, Nat.reduceLT, reduceCtorEq, Int.reduceToNat, Int.reduceLE, Int.reduceLT, Int.reduceEq, Int.reduceNeg, Int.reduceNe, Int.reducePow, Nat.reducePow, Nat.reduceSub, IntKind.bits]
    refine rw_kcallW (cItBox _ _ _ (w1 _)) (w1 _) (fun hh kk => by simp (maxSteps := 10000000) (maxDischargeDepth := 30) only [kk.get, go_sem, Nat.reduceEqDiff, ↓reduceIte, Nat.reduceAdd, Nat.reduceMul, Nat.reduceLeDiff, Nat.reduceLT, reduceCtorEq, Int.reduceToNat, Int.reduceLE, Int.reduceLT, Int.reduceEq, Int.reduceNeg, Int.reduceNe, Int.reducePow, Nat.reducePow, Nat.reduceSub, IntKind.bits]) (fun h2 k2 w2 => ?_)
    simp (maxSteps := 10000000) (maxDischargeDepth := 30) only [eqSeq_4, go_sem, Nat.reduceEqDiff, ↓reduceIte, Nat.reduceAdd, Nat.reduceMul, Nat.reduceLeDiff, Nat.reduceLT, reduceCtorEq, Int.reduceToNat, Int.reduceLE, Int.reduceLT, Int.reduceEq, Int.reduceNeg, Int.reduceNe, Int.reducePow, Nat.reducePow, Nat.reduceSub, IntKind.bits]
    exact (k1 _).trans k2
  by_cases d2 : x.k = 2
  · have e : bareR x = (x.f == 0 && x.n == 0) := by unfold bareR; rw [if_neg d1, if_pos d2]
    rw [e]
    simp (maxSteps := 10000000) (maxDischargeDepth := 30) only [q30, r30, ItemR.e, d2, go_sem, Nat.reduceEqDiff, ↓reduceIte, Nat.reduceAdd, Nat.reduceMul, Nat.reduceLeDiff, Nat.reduceLT, reduceCtorEq, Int.reduceToNat, Int.reduceLE, Int.reduceLT, Int.reduceEq, Int.reduceNeg, Int.reduceNe, Int.reducePow, Nat.reducePow, Nat.reduceSub, IntKind.bits]
    refine rw_kcallW (cItGlue _ _ _ _ _ (w1 _)) (w1 _) (fun hh kk => by simp (maxSteps := 10000000) (maxDischargeDepth := 30) only [kk.get, go_sem, Nat.reduceEqDiff, ↓reduceIte, Nat.reduceAdd, Nat.reduceMul, Nat.reduceLeDiff, Nat.reduceLT, reduceCtorEq, Int.reduceToNat, Int.reduceLE, Int.reduceLT, Int.reduceEq, Int.reduceNeg, Int.reduceNe, Int.reducePow, Nat.reducePow, Nat.reduceSub, IntKind.bits]) (fun h2 k2 w2 => ?_)
    simp (maxSteps := 10000000) (maxDischargeDepth := 30) only [eqSeq_5, go_sem, Nat.reduceEqDiff, ↓reduceIte, Nat.reduceAdd, Nat.reduceMul, Nat.reduceLeDiff, Nat.reduceLT, reduceCtorEq, Int.reduceToNat, Int.reduceLE, Int.reduceLT, Int.reduceEq, Int.reduceNeg, Int.reduceNe, Int.reducePow, Nat.reducePow, Nat.reduceSub, IntKind.bits]
    exact (k1 _).trans k2
  have e3 : x.k = 3 ∨ x.k = 4 ∨ x.k = 5 ∨ x.k = 6 → bareR x = (x.h == 0 && (x.f == 0 && (x.str == 0 && (x.ord == 0 && x.shr == 0)))) := by intro hd; unfold bareR; rw [if_neg d1, if_neg d2, if_pos hd]
  by_cases d3 : x.k = 3
  · rw [e3 (by omega)]
    simp (maxSteps := 10000000) (maxDischargeDepth := 30) only [q30, r30, ItemR.e, d3, k1, eqSeq_6, go_sem, Nat.reduceEqDiff, ↓reduceIte, Nat.reduceAdd, Nat.reduceMul, Nat.reduceLeDiff, Nat.reduceLT, reduceCtorEq, Int.reduceToNat, Int.reduceLE, Int.reduceLT, Int.reduceEq, Int.reduceNeg, Int.reduceNe, Int.reducePow, Nat.reducePow, Nat.reduceSub, IntKind.bits]
  by_cases d4 : x.k = 4
  · rw [e3 (by omega)]
    simp (maxSteps := 10000000) (maxDischargeDepth := 30) only [q30, r30, ItemR.e, d4, k1, eqSeq_6, go_sem, Nat.reduceEqDiff, ↓reduceIte, Nat.reduceAdd, Nat.reduceMul, Nat.reduceLeDiff, Nat.reduceLT, reduceCtorEq, Int.reduceToNat, Int.reduceLE, Int.reduceLT, Int.reduceEq, Int.reduceNeg, Int.reduceNe, Int.reducePow, Nat.reducePow, Nat.reduceSub, IntKind.bits]
  by_cases d5 : x.k = 5
  · rw [e3 (by omega)]
    simp (maxSteps := 10000000) (maxDischargeDepth := 30) only [q30, r30, ItemR.e, d5, k1, eqSeq_6, go_sem, Nat.reduceEqDiff, ↓reduceIte, Nat.reduceAdd, Nat.reduceMul, Nat.reduceLeDiff, Nat.reduceLT, reduceCtorEq, Int.reduceToNat, Int.reduceLE, Int.reduceLT, Int.reduceEq, Int.reduceNeg, Int.reduceNe, Int.reducePow, Nat.reducePow, Nat.reduceSub, IntKind.bits]
  by_cases d6 : x.k = 6
  · rw [e3 (by omega)]
    simp (maxSteps := 10000000) (maxDischargeDepth := 30) only [q30, r30, ItemR.e, d6, k1, eqSeq_6, go_sem, Nat.reduceEqDiff, ↓reduceIte, Nat.reduceAdd, Nat.reduceMul, Nat.reduceLeDiff, Nat.reduceLT, reduceCtorEq, Int.reduceToNat, Int.reduceLE, Int.reduceLT, Int.reduceEq, Int.reduceNeg, Int.reduceNe, Int.reducePow, Nat.reducePow, Nat.reduceSub, IntKind.bits]
  by_cases d7 : x.k = 7
  · have e : bareR x = (x.h == 0 && (x.f == 0 && (x.str == 0 && (x.ord == 0 && (x.shr == 0 && x.n == 0))))) := by unfold bareR; rw [if_neg d1, if_neg d2, if_neg (by omega), if_pos d7]
    rw [e]
    simp (maxSteps := 10000000) (maxDischargeDepth := 30) only [q30, r30, ItemR.e, d7, go_sem, Nat.reduceEqDiff, ↓reduceIte, Nat.reduceAdd, Nat.reduceMul, Nat.reduceLeDiff, Nat.reduceLT, reduceCtorEq, Int.reduceToNat, Int.reduceLE, Int.reduceLT, Int.reduceEq, Int.reduceNeg, Int.reduceNe, Int.reducePow, Nat.reducePow, Nat.reduceSub, IntKind.bits]
    refine rw_kcallW (cItBarrier _ (w1 _)) (w1 _) (fun hh kk => by simp (maxSteps := 10000000) (maxDischargeDepth := 30) only [kk.get, go_sem, Nat.reduceEqDiff, ↓reduceIte, Nat.reduceAdd, Nat.reduceMul, Nat.reduceLeDiff, Nat.reduceLT, reduceCtorEq, Int.reduceToNat, Int.reduceLE, Int.reduceLT, Int.reduceEq, Int.reduceNeg, Int.reduceNe, Int.reducePow, Nat.reducePow, Nat.reduceSub, IntKind.bits]) (fun h2 k2 w2 => ?_)
    simp (maxSteps := 10000000) (maxDischargeDepth := 30) only [eqSeq_6, go_sem, Nat.reduceEqDiff, ↓reduceIte, Nat.reduceAdd, Nat.reduceMul, Nat.reduceLeDiff, Nat.reduceLT, reduceCtorEq, Int.reduceToNat, Int.reduceLE, Int.reduceLT, Int.reduceEq, Int.reduceNeg, Int.reduceNe, Int.reducePow, Nat.reducePow, Nat.reduceSub, IntKind.bits]
    exact (k1 _).trans k2
  · have e : bareR x = false := by unfold bareR; rw [if_neg d1, if_neg d2, if_neg (by omega), if_neg d7]
    rw [e]
    simp (maxSteps := 10000000) (maxDischargeDepth := 30) only [q30, r30, ItemR.e, d1, d2, d3, d4, d5, d6, d7, k1, go_sem, Nat.reduceEqDiff, ↓reduceIte, Nat.reduceAdd, Nat.reduceMul, Nat.reduceLeDiff, Nat.reduceLT, reduceCtorEq, Int.reduceToNat, Int.reduceLE, Int.reduceLT, Int.reduceEq, Int.reduceNeg, Int.reduceNe, Int.reducePow, Nat.reducePow, Nat.reduceSub, IntKind.bits]
end Go.LM
