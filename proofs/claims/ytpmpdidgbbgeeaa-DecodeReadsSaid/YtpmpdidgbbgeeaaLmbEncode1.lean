import Derived.Test.YtpmpdidgbbgeeaaLmTrbR1
import Derived.Test.YtpmpdidgbbgeeaaLmTrbR2
import Derived.Test.YtpmpdidgbbgeeaaLmbCodecW
import Derived.Test.YtpmpdidgbbgeeaaLmB21
namespace Go.LM
open Go.Proofs
set_option maxRecDepth 8000
set_option maxHeartbeats 4000000
set_option linter.unusedSimpArgs false

theorem bdec (a b : Int) : (a == b) = decide (a = b) := rfl
theorem cRBare16 (x : ItemR) (h : H) (w : WF h) : runI Try.prog TA 31 [x.e] h = some (.bool (bareR x), hp Try.prog TA 31 [x.e] h) := by
  refine pure_of rfl res31 rfl ?_
  have lo := w.1
  have lo1 : h.lob ≤ h.len + 1 := by omega
  by_cases d1 : x.k = 1
  · have e : bareR x = (x.str == 0 && (x.ord == 0 && (x.shr == 0 && x.n == 0))) := by unfold bareR; rw [if_pos d1]
    rw [e]
    simp (maxSteps := 10000000) (maxDischargeDepth := 30) only [q31, r31, ItemR.e, d1, lo, lo1, eqSeq_4, go_sem, Nat.reduceEqDiff, ↓reduceIte, Nat.reduceAdd, Nat.reduceMul, Nat.reduceLeDiff, Nat.reduceLT, reduceCtorEq, Int.reduceToNat, Int.reduceLE, Int.reduceLT, Int.reduceEq, Int.reduceNeg, Int.reduceNe, Nat.reduceSub, IntKind.bits]
  by_cases d2 : x.k = 2
  · have e : bareR x = (x.f == 0 && x.n == 0) := by unfold bareR; rw [if_neg d1, if_pos d2]
    rw [e]
    simp (maxSteps := 10000000) (maxDischargeDepth := 30) only [q31, r31, ItemR.e, d2, lo, lo1, eqSeq_5, go_sem, Nat.reduceEqDiff, ↓reduceIte, Nat.reduceAdd, Nat.reduceMul, Nat.reduceLeDiff, Nat.reduceLT, reduceCtorEq, Int.reduceToNat, Int.reduceLE, Int.reduceLT, Int.reduceEq, Int.reduceNeg, Int.reduceNe, Nat.reduceSub, IntKind.bits]
  have e3 : x.k = 3 ∨ x.k = 4 ∨ x.k = 5 ∨ x.k = 6 → bareR x = (x.h == 0 && (x.f == 0 && (x.str == 0 && (x.ord == 0 && x.shr == 0)))) := by intro hd; unfold bareR; rw [if_neg d1, if_neg d2, if_pos hd]
  by_cases d3 : x.k = 3
  · rw [e3 (by omega)]
    simp (maxSteps := 10000000) (maxDischargeDepth := 30) only [q31, r31, ItemR.e, d3, lo, lo1, eqSeq_6, go_sem, Nat.reduceEqDiff, ↓reduceIte, Nat.reduceAdd, Nat.reduceMul, Nat.reduceLeDiff, Nat.reduceLT, reduceCtorEq, Int.reduceToNat, Int.reduceLE, Int.reduceLT, Int.reduceEq, Int.reduceNeg, Int.reduceNe, Nat.reduceSub, IntKind.bits]
  by_cases d4 : x.k = 4
  · rw [e3 (by omega)]
    simp (maxSteps := 10000000) (maxDischargeDepth := 30) only [q31, r31, ItemR.e, d4, lo, lo1, eqSeq_6, go_sem, Nat.reduceEqDiff, ↓reduceIte, Nat.reduceAdd, Nat.reduceMul, Nat.reduceLeDiff, Nat.reduceLT, reduceCtorEq, Int.reduceToNat, Int.reduceLE, Int.reduceLT, Int.reduceEq, Int.reduceNeg, Int.reduceNe, Nat.reduceSub, IntKind.bits]
  by_cases d5 : x.k = 5
  · rw [e3 (by omega)]
    simp (maxSteps := 10000000) (maxDischargeDepth := 30) only [q31, r31, ItemR.e, d5, lo, lo1, eqSeq_6, go_sem, Nat.reduceEqDiff, ↓reduceIte, Nat.reduceAdd, Nat.reduceMul, Nat.reduceLeDiff, Nat.reduceLT, reduceCtorEq, Int.reduceToNat, Int.reduceLE, Int.reduceLT, Int.reduceEq, Int.reduceNeg, Int.reduceNe, Nat.reduceSub, IntKind.bits]
  by_cases d6 : x.k = 6
  · rw [e3 (by omega)]
    simp (maxSteps := 10000000) (maxDischargeDepth := 30) only [q31, r31, ItemR.e, d6, lo, lo1, eqSeq_6, go_sem, Nat.reduceEqDiff, ↓reduceIte, Nat.reduceAdd, Nat.reduceMul, Nat.reduceLeDiff, Nat.reduceLT, reduceCtorEq, Int.reduceToNat, Int.reduceLE, Int.reduceLT, Int.reduceEq, Int.reduceNeg, Int.reduceNe, Nat.reduceSub, IntKind.bits]
  by_cases d7 : x.k = 7
  · have e : bareR x = (x.h == 0 && (x.f == 0 && (x.str == 0 && (x.ord == 0 && (x.shr == 0 && x.n == 0))))) := by unfold bareR; rw [if_neg d1, if_neg d2, if_neg (by omega), if_pos d7]
    rw [e]
    simp (maxSteps := 10000000) (maxDischargeDepth := 30) only [q31, r31, ItemR.e, d7, lo, lo1, eqSeq_6, go_sem, Nat.reduceEqDiff, ↓reduceIte, Nat.reduceAdd, Nat.reduceMul, Nat.reduceLeDiff, Nat.reduceLT, reduceCtorEq, Int.reduceToNat, Int.reduceLE, Int.reduceLT, Int.reduceEq, Int.reduceNeg, Int.reduceNe, Nat.reduceSub, IntKind.bits]
  · have e : bareR x = false := by unfold bareR; rw [if_neg d1, if_neg d2, if_neg (by omega), if_neg d7]
    rw [e]
    simp (maxSteps := 10000000) (maxDischargeDepth := 30) only [q31, r31, ItemR.e, d1, d2, d3, d4, d5, d6, d7, lo, lo1, go_sem, Nat.reduceEqDiff, ↓reduceIte, Nat.reduceAdd, Nat.reduceMul, Nat.reduceLeDiff, Nat.reduceLT, reduceCtorEq, Int.reduceToNat, Int.reduceLE, Int.reduceLT, Int.reduceEq, Int.reduceNeg, Int.reduceNe, Nat.reduceSub, IntKind.bits]
end Go.LM
