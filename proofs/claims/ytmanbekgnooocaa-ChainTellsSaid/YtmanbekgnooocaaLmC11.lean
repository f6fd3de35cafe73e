import Derived.Test.YtmanbekgnooocaaLmC10
namespace Go.LM
open Go.Proofs
set_option maxRecDepth 4000
set_option maxHeartbeats 1000000
set_option linter.unusedSimpArgs false

theorem aw27 (h : H) : runI Try.prog TA 27 [] h = some (.bool true, h) := runI_known rfl
theorem l6 (n u : Int) (o : Option (Nat × Nat)) (b : List Int) (h1 : -9223372036854775808 ≤ n) (h2 : n < 9223372036854775808) (h3 : 0 ≤ u) (h4 : u < 18446744073709551616) :
    ∃ h', runI Try.prog TA 6 [.int .i64 n, .int .u64 u, byts o b] H0 = some (.bool true, h') := by
  refine true_of rfl res6 rfl ?_
  by_cases hl : (200 : Int) < b.length
  · simp (maxSteps := 10000000) (maxDischargeDepth := 30) only [q6, r6, hl, aw27, go_sem, Nat.reduceEqDiff, ↓reduceIte, Nat.reduceAdd, Nat.reduceMul, Nat.reduceLeDiff, Nat.reduceLT, reduceCtorEq, Int.reduceToNat, Int.reduceLE, Int.reduceLT, Int.reduceEq, Int.reduceNeg, Int.reduceNe, Int.reducePow, Nat.reducePow, Nat.reduceSub, IntKind.bits]
  have e28 := c28 n h1 h2
  have e29 := c29 n h1 h2
  have e30 := c30 u h3 h4
  have e31 := c31 u h3 h4
  have e33 := fun h w => (c33 none [] n (by simp) h1 h2 h w).1
  simp only [List.nil_append] at e33
  rw [← byts_nil] at e33
  have e33b := fun h w => (c33 o b n (by omega) h1 h2 h w).1
  have e34 := c34 n h1 h2
  have e35 := c35 n h1 h2
  have hlen := chainU_len10 (u := (foldN n).toNat) (by have := fold_range h1 h2; omega)
  have e32 : ∀ (o o2 : Option (Nat × Nat)) (h : H), WF h → runI Try.prog TA 32 [byts o (chainU (foldN n).toNat), byts o2 (chainU (foldN n).toNat)] h = some (.bool true, hp Try.prog TA 32 [byts o (chainU (foldN n).toNat), byts o2 (chainU (foldN n).toNat)] h) :=
    fun o o2 h w => c32 o o2 _ (by omega) h w
  have ew : IntKind.i64.wrap ((b.length : Int) + ((chainU (foldN n).toNat).length : Int)) = (((b ++ chainU (foldN n).toNat).length : Nat) : Int) := by
    rw [wrapI64 (by omega) (by omega)]; simp
  simp (maxSteps := 10000000) (maxDischargeDepth := 30) only [q6, r6, hl, e28, e29, e30, e31, e33, e33b, e34, e35, e32, ew, wf0, aw27, go_sem, Nat.reduceEqDiff, ↓reduceIte, Nat.reduceAdd, Nat.reduceMul, Nat.reduceLeDiff, Nat.reduceLT, reduceCtorEq, Int.reduceToNat, Int.reduceLE, Int.reduceLT, Int.reduceEq, Int.reduceNeg, Int.reduceNe, Int.reducePow, Nat.reducePow, Nat.reduceSub, IntKind.bits]
end Go.LM
