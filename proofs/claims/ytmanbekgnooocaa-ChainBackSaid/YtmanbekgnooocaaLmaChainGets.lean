import Derived.Test.YtmanbekgnooocaaLmaRGet
namespace Go.LM
open Go.Proofs
set_option maxRecDepth 4000
set_option maxHeartbeats 2000000
set_option linter.unusedSimpArgs false

theorem awAwake05 (h : H) : runI Try.prog TA 27 [] h = some (.bool true, h) := runI_known rfl
theorem lChainGets (o : Option (Nat × Nat)) (b : List Int) (at_ : Int) (hc : ∀ c ∈ b, 0 ≤ c ∧ c < 256) (h1 : -9223372036854775808 ≤ at_) (h2 : at_ < 9223372036854775808) :
    ∃ h', runI Try.prog TA 7 [byts o b, .int .i64 at_] H0 = some (.bool true, h') := by
  refine true_of rfl res7 rfl ?_
  by_cases hl : (200 : Int) < b.length
  · simp (maxSteps := 10000000) (maxDischargeDepth := 30) only [q7, r7, hl, awAwake05, go_sem, Nat.reduceEqDiff, ↓reduceIte, Nat.reduceAdd, Nat.reduceMul, Nat.reduceLeDiff, Nat.reduceLT, reduceCtorEq, Int.reduceToNat, Int.reduceLE, Int.reduceLT, Int.reduceEq, Int.reduceNeg, Int.reduceNe, Int.reducePow, Nat.reducePow, Nat.reduceSub, IntKind.bits]
  have e36 := cGet o b at_ (by omega) hc h1 h2
  have e37 := cRGet o b at_ (by omega) hc h1 h2
  simp (maxSteps := 10000000) (maxDischargeDepth := 30) only [q7, r7, hl, e36, e37, wf0, awAwake05, go_sem, Nat.reduceEqDiff, ↓reduceIte, Nat.reduceAdd, Nat.reduceMul, Nat.reduceLeDiff, Nat.reduceLT, reduceCtorEq, Int.reduceToNat, Int.reduceLE, Int.reduceLT, Int.reduceEq, Int.reduceNeg, Int.reduceNe, Int.reducePow, Nat.reducePow, Nat.reduceSub, IntKind.bits]
end Go.LM
