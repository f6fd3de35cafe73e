import Derived.Test.YtmanbekgnooocaaLmTryRc
namespace Go.LM
open Go.Proofs
/-- The answers that are known: each 'awake' is true. -/
def TA (f : Nat) : Option LV := if f = 19 ∨ f = 27 ∨ f = 48 then some (.bool true) else none

structure Flo where
  C : Int
  H : Int
  W : Int
def Flo.e (f : Flo) : LV := .agg [.int .i64 f.C, .int .i64 f.H, .int .i64 f.W]
abbrev figBad (f : Flo) : Prop := f.C < 0 ∨ 3 ≤ f.C ∨ f.H < 1 ∨ 1073741823 < f.H ∨ f.W < 0 ∨ 3 < f.W
def figCheck (f : Flo) : Int := if figBad f then 10 else 0

set_option maxRecDepth 4000
set_option linter.unusedSimpArgs false
theorem c15 (f : Flo) (h : H) : runI Try.prog TA 15 [f.e] h = some (.int .i64 (figCheck f), hp Try.prog TA 15 [f.e] h) := by
  refine pure_of rfl res15 rfl ?_
  simp (maxSteps := 10000000) (maxDischargeDepth := 30) only [q15, r15, Flo.e, go_sem, Nat.reduceEqDiff, ↓reduceIte, Nat.reduceAdd, Nat.reduceMul, Nat.reduceLeDiff, Nat.reduceLT, reduceCtorEq, Int.reduceToNat, Int.reduceLE, Int.reduceLT, Int.reduceEq, Int.reduceNeg, Int.reduceNe, Int.reducePow, Nat.reducePow, Nat.reduceSub, IntKind.bits]
  repeat' (first
    | (refine split_cn (fun hb => ?_) (fun hb => ?_) <;> simp (maxSteps := 10000000) (maxDischargeDepth := 30) only [hb, go_sem, Nat.reduceEqDiff, ↓reduceIte, Nat.reduceAdd, Nat.reduceMul, Nat.reduceLeDiff, Nat.reduceLT, reduceCtorEq, Int.reduceToNat, Int.reduceLE, Int.reduceLT, Int.reduceEq, Int.reduceNeg, Int.reduceNe, Int.reducePow, Nat.reducePow, Nat.reduceSub, IntKind.bits])
    | (refine split_gn (fun hb => ?_) (fun hb => ?_) <;> simp (maxSteps := 10000000) (maxDischargeDepth := 30) only [hb, go_sem, Nat.reduceEqDiff, ↓reduceIte, Nat.reduceAdd, Nat.reduceMul, Nat.reduceLeDiff, Nat.reduceLT, reduceCtorEq, Int.reduceToNat, Int.reduceLE, Int.reduceLT, Int.reduceEq, Int.reduceNeg, Int.reduceNe, Int.reducePow, Nat.reducePow, Nat.reduceSub, IntKind.bits])
    | (refine split_gdn (fun hb => ?_) (fun hb => ?_) <;> simp (maxSteps := 10000000) (maxDischargeDepth := 30) only [hb, go_sem, Nat.reduceEqDiff, ↓reduceIte, Nat.reduceAdd, Nat.reduceMul, Nat.reduceLeDiff, Nat.reduceLT, reduceCtorEq, Int.reduceToNat, Int.reduceLE, Int.reduceLT, Int.reduceEq, Int.reduceNeg, Int.reduceNe, Int.reducePow, Nat.reducePow, Nat.reduceSub, IntKind.bits])
    | (refine split_c (fun hb => ?_) (fun hb => ?_) <;> simp (maxSteps := 10000000) (maxDischargeDepth := 30) only [hb, go_sem, Nat.reduceEqDiff, ↓reduceIte, Nat.reduceAdd, Nat.reduceMul, Nat.reduceLeDiff, Nat.reduceLT, reduceCtorEq, Int.reduceToNat, Int.reduceLE, Int.reduceLT, Int.reduceEq, Int.reduceNeg, Int.reduceNe, Int.reducePow, Nat.reducePow, Nat.reduceSub, IntKind.bits])
    | (refine split_g (fun hb => ?_) (fun hb => ?_) <;> simp (maxSteps := 10000000) (maxDischargeDepth := 30) only [hb, go_sem, Nat.reduceEqDiff, ↓reduceIte, Nat.reduceAdd, Nat.reduceMul, Nat.reduceLeDiff, Nat.reduceLT, reduceCtorEq, Int.reduceToNat, Int.reduceLE, Int.reduceLT, Int.reduceEq, Int.reduceNeg, Int.reduceNe, Int.reducePow, Nat.reducePow, Nat.reduceSub, IntKind.bits])
    | (refine split_gd (fun hb => ?_) (fun hb => ?_) <;> simp (maxSteps := 10000000) (maxDischargeDepth := 30) only [hb, go_sem, Nat.reduceEqDiff, ↓reduceIte, Nat.reduceAdd, Nat.reduceMul, Nat.reduceLeDiff, Nat.reduceLT, reduceCtorEq, Int.reduceToNat, Int.reduceLE, Int.reduceLT, Int.reduceEq, Int.reduceNeg, Int.reduceNe, Int.reducePow, Nat.reducePow, Nat.reduceSub, IntKind.bits])
    | (refine split_cb (fun hb => ?_) (fun hb => ?_) <;> simp (maxSteps := 10000000) (maxDischargeDepth := 30) only [hb, go_sem, Nat.reduceEqDiff, ↓reduceIte, Nat.reduceAdd, Nat.reduceMul, Nat.reduceLeDiff, Nat.reduceLT, reduceCtorEq, Int.reduceToNat, Int.reduceLE, Int.reduceLT, Int.reduceEq, Int.reduceNeg, Int.reduceNe, Int.reducePow, Nat.reducePow, Nat.reduceSub, IntKind.bits])
    | (refine split_gb (fun hb => ?_) (fun hb => ?_) <;> simp (maxSteps := 10000000) (maxDischargeDepth := 30) only [hb, go_sem, Nat.reduceEqDiff, ↓reduceIte, Nat.reduceAdd, Nat.reduceMul, Nat.reduceLeDiff, Nat.reduceLT, reduceCtorEq, Int.reduceToNat, Int.reduceLE, Int.reduceLT, Int.reduceEq, Int.reduceNeg, Int.reduceNe, Int.reducePow, Nat.reducePow, Nat.reduceSub, IntKind.bits])
    | (refine split_gdb (fun hb => ?_) (fun hb => ?_) <;> simp (maxSteps := 10000000) (maxDischargeDepth := 30) only [hb, go_sem, Nat.reduceEqDiff, ↓reduceIte, Nat.reduceAdd, Nat.reduceMul, Nat.reduceLeDiff, Nat.reduceLT, reduceCtorEq, Int.reduceToNat, Int.reduceLE, Int.reduceLT, Int.reduceEq, Int.reduceNeg, Int.reduceNe, Int.reducePow, Nat.reducePow, Nat.reduceSub, IntKind.bits]))
  all_goals
    unfold figCheck; congr 1; first
      | rw [if_pos (by omega)]
      | rw [if_neg (by omega)]
theorem c16 (f : Flo) (h : H) : runI Try.prog TA 16 [f.e] h = some (.bool (!decide (figBad f)), hp Try.prog TA 16 [f.e] h) := by
  refine pure_of rfl res16 rfl ?_
  simp (maxSteps := 10000000) (maxDischargeDepth := 30) only [q16, r16, Flo.e, go_sem, Nat.reduceEqDiff, ↓reduceIte, Nat.reduceAdd, Nat.reduceMul, Nat.reduceLeDiff, Nat.reduceLT, reduceCtorEq, Int.reduceToNat, Int.reduceLE, Int.reduceLT, Int.reduceEq, Int.reduceNeg, Int.reduceNe, Int.reducePow, Nat.reducePow, Nat.reduceSub, IntKind.bits]
  repeat' (first
    | (refine split_cn (fun hb => ?_) (fun hb => ?_) <;> simp (maxSteps := 10000000) (maxDischargeDepth := 30) only [hb, go_sem, Nat.reduceEqDiff, ↓reduceIte, Nat.reduceAdd, Nat.reduceMul, Nat.reduceLeDiff, Nat.reduceLT, reduceCtorEq, Int.reduceToNat, Int.reduceLE, Int.reduceLT, Int.reduceEq, Int.reduceNeg, Int.reduceNe, Int.reducePow, Nat.reducePow, Nat.reduceSub, IntKind.bits])
    | (refine split_gn (fun hb => ?_) (fun hb => ?_) <;> simp (maxSteps := 10000000) (maxDischargeDepth := 30) only [hb, go_sem, Nat.reduceEqDiff, ↓reduceIte, Nat.reduceAdd, Nat.reduceMul, Nat.reduceLeDiff, Nat.reduceLT, reduceCtorEq, Int.reduceToNat, Int.reduceLE, Int.reduceLT, Int.reduceEq, Int.reduceNeg, Int.reduceNe, Int.reducePow, Nat.reducePow, Nat.reduceSub, IntKind.bits])
    | (refine split_gdn (fun hb => ?_) (fun hb => ?_) <;> simp (maxSteps := 10000000) (maxDischargeDepth := 30) only [hb, go_sem, Nat.reduceEqDiff, ↓reduceIte, Nat.reduceAdd, Nat.reduceMul, Nat.reduceLeDiff, Nat.reduceLT, reduceCtorEq, Int.reduceToNat, Int.reduceLE, Int.reduceLT, Int.reduceEq, Int.reduceNeg, Int.reduceNe, Int.reducePow, Nat.reducePow, Nat.reduceSub, IntKind.bits])
    | (refine split_c (fun hb => ?_) (fun hb => ?_) <;> simp (maxSteps := 10000000) (maxDischargeDepth := 30) only [hb, go_sem, Nat.reduceEqDiff, ↓reduceIte, Nat.reduceAdd, Nat.reduceMul, Nat.reduceLeDiff, Nat.reduceLT, reduceCtorEq, Int.reduceToNat, Int.reduceLE, Int.reduceLT, Int.reduceEq, Int.reduceNeg, Int.reduceNe, Int.reducePow, Nat.reducePow, Nat.reduceSub, IntKind.bits])
    | (refine split_g (fun hb => ?_) (fun hb => ?_) <;> simp (maxSteps := 10000000) (maxDischargeDepth := 30) only [hb, go_sem, Nat.reduceEqDiff, ↓reduceIte, Nat.reduceAdd, Nat.reduceMul, Nat.reduceLeDiff, Nat.reduceLT, reduceCtorEq, Int.reduceToNat, Int.reduceLE, Int.reduceLT, Int.reduceEq, Int.reduceNeg, Int.reduceNe, Int.reducePow, Nat.reducePow, Nat.reduceSub, IntKind.bits])
    | (refine split_gd (fun hb => ?_) (fun hb => ?_) <;> simp (maxSteps := 10000000) (maxDischargeDepth := 30) only [hb, go_sem, Nat.reduceEqDiff, ↓reduceIte, Nat.reduceAdd, Nat.reduceMul, Nat.reduceLeDiff, Nat.reduceLT, reduceCtorEq, Int.reduceToNat, Int.reduceLE, Int.reduceLT, Int.reduceEq, Int.reduceNeg, Int.reduceNe, Int.reducePow, Nat.reducePow, Nat.reduceSub, IntKind.bits])
    | (refine split_cb (fun hb => ?_) (fun hb => ?_) <;> simp (maxSteps := 10000000) (maxDischargeDepth := 30) only [hb, go_sem, Nat.reduceEqDiff, ↓reduceIte, Nat.reduceAdd, Nat.reduceMul, Nat.reduceLeDiff, Nat.reduceLT, reduceCtorEq, Int.reduceToNat, Int.reduceLE, Int.reduceLT, Int.reduceEq, Int.reduceNeg, Int.reduceNe, Int.reducePow, Nat.reducePow, Nat.reduceSub, IntKind.bits])
    | (refine split_gb (fun hb => ?_) (fun hb => ?_) <;> simp (maxSteps := 10000000) (maxDischargeDepth := 30) only [hb, go_sem, Nat.reduceEqDiff, ↓reduceIte, Nat.reduceAdd, Nat.reduceMul, Nat.reduceLeDiff, Nat.reduceLT, reduceCtorEq, Int.reduceToNat, Int.reduceLE, Int.reduceLT, Int.reduceEq, Int.reduceNeg, Int.reduceNe, Int.reducePow, Nat.reducePow, Nat.reduceSub, IntKind.bits])
    | (refine split_gdb (fun hb => ?_) (fun hb => ?_) <;> simp (maxSteps := 10000000) (maxDischargeDepth := 30) only [hb, go_sem, Nat.reduceEqDiff, ↓reduceIte, Nat.reduceAdd, Nat.reduceMul, Nat.reduceLeDiff, Nat.reduceLT, reduceCtorEq, Int.reduceToNat, Int.reduceLE, Int.reduceLT, Int.reduceEq, Int.reduceNeg, Int.reduceNe, Int.reducePow, Nat.reducePow, Nat.reduceSub, IntKind.bits]))
  all_goals
    congr 1; rw [Bool.eq_iff_iff]; simp; try omega
theorem c61 (n : Int) (h : H) : runI Try.prog TA 61 [.int .i64 n] h = some (.bool (!decide (andI .i64 n 1 = 0)), hp Try.prog TA 61 [.int .i64 n] h) := by
  refine pure_of rfl res61 rfl ?_
  simp (maxSteps := 10000000) (maxDischargeDepth := 30) only [q61, r61, go_sem, Nat.reduceEqDiff, ↓reduceIte, Nat.reduceAdd, Nat.reduceMul, Nat.reduceLeDiff, Nat.reduceLT, reduceCtorEq, Int.reduceToNat, Int.reduceLE, Int.reduceLT, Int.reduceEq, Int.reduceNeg, Int.reduceNe, Int.reducePow, Nat.reducePow, Nat.reduceSub, IntKind.bits]
theorem c62 (n : Int) (h : H) : runI Try.prog TA 62 [.int .i64 n] h = some (.bool (!decide (andI .i64 n 2 = 0)), hp Try.prog TA 62 [.int .i64 n] h) := by
  refine pure_of rfl res62 rfl ?_
  simp (maxSteps := 10000000) (maxDischargeDepth := 30) only [q62, r62, go_sem, Nat.reduceEqDiff, ↓reduceIte, Nat.reduceAdd, Nat.reduceMul, Nat.reduceLeDiff, Nat.reduceLT, reduceCtorEq, Int.reduceToNat, Int.reduceLE, Int.reduceLT, Int.reduceEq, Int.reduceNeg, Int.reduceNe, Int.reducePow, Nat.reducePow, Nat.reduceSub, IntKind.bits]
theorem c60a (f : Flo) (h : H) : runI Try.prog TA 60 [f.e, .fn 61 [] []] h = some (.bool (!decide (andI .i64 f.W 1 = 0)), hp Try.prog TA 60 [f.e, .fn 61 [] []] h) := by
  refine pure_of rfl res60 rfl ?_
  simp (maxSteps := 10000000) (maxDischargeDepth := 30) only [q60, r60, Flo.e, c61, go_sem, Nat.reduceEqDiff, ↓reduceIte, Nat.reduceAdd, Nat.reduceMul, Nat.reduceLeDiff, Nat.reduceLT, reduceCtorEq, Int.reduceToNat, Int.reduceLE, Int.reduceLT, Int.reduceEq, Int.reduceNeg, Int.reduceNe, Int.reducePow, Nat.reducePow, Nat.reduceSub, IntKind.bits]
theorem c60b (f : Flo) (h : H) : runI Try.prog TA 60 [f.e, .fn 62 [] []] h = some (.bool (!decide (andI .i64 f.W 2 = 0)), hp Try.prog TA 60 [f.e, .fn 62 [] []] h) := by
  refine pure_of rfl res60 rfl ?_
  simp (maxSteps := 10000000) (maxDischargeDepth := 30) only [q60, r60, Flo.e, c62, go_sem, Nat.reduceEqDiff, ↓reduceIte, Nat.reduceAdd, Nat.reduceMul, Nat.reduceLeDiff, Nat.reduceLT, reduceCtorEq, Int.reduceToNat, Int.reduceLE, Int.reduceLT, Int.reduceEq, Int.reduceNeg, Int.reduceNe, Int.reducePow, Nat.reducePow, Nat.reduceSub, IntKind.bits]
theorem c17 (f : Flo) (h : H) : runI Try.prog TA 17 [f.e] h = some (.bool (!decide (andI .i64 f.W 1 = 0)), hp Try.prog TA 17 [f.e] h) := by
  refine pure_of rfl res17 rfl ?_
  simp (maxSteps := 10000000) (maxDischargeDepth := 30) only [q17, r17, Flo.e, go_sem, Nat.reduceEqDiff, ↓reduceIte, Nat.reduceAdd, Nat.reduceMul, Nat.reduceLeDiff, Nat.reduceLT, reduceCtorEq, Int.reduceToNat, Int.reduceLE, Int.reduceLT, Int.reduceEq, Int.reduceNeg, Int.reduceNe, Int.reducePow, Nat.reducePow, Nat.reduceSub, IntKind.bits]
  have e := c60a f
  simp only [Flo.e] at e
  simp (maxSteps := 10000000) (maxDischargeDepth := 30) only [e, go_sem, Nat.reduceEqDiff, ↓reduceIte, Nat.reduceAdd, Nat.reduceMul, Nat.reduceLeDiff, Nat.reduceLT, reduceCtorEq, Int.reduceToNat, Int.reduceLE, Int.reduceLT, Int.reduceEq, Int.reduceNeg, Int.reduceNe, Int.reducePow, Nat.reducePow, Nat.reduceSub, IntKind.bits]
theorem c18 (f : Flo) (h : H) : runI Try.prog TA 18 [f.e] h = some (.bool (!decide (andI .i64 f.W 2 = 0)), hp Try.prog TA 18 [f.e] h) := by
  refine pure_of rfl res18 rfl ?_
  simp (maxSteps := 10000000) (maxDischargeDepth := 30) only [q18, r18, Flo.e, go_sem, Nat.reduceEqDiff, ↓reduceIte, Nat.reduceAdd, Nat.reduceMul, Nat.reduceLeDiff, Nat.reduceLT, reduceCtorEq, Int.reduceToNat, Int.reduceLE, Int.reduceLT, Int.reduceEq, Int.reduceNeg, Int.reduceNe, Int.reducePow, Nat.reducePow, Nat.reduceSub, IntKind.bits]
  have e := c60b f
  simp only [Flo.e] at e
  simp (maxSteps := 10000000) (maxDischargeDepth := 30) only [e, go_sem, Nat.reduceEqDiff, ↓reduceIte, Nat.reduceAdd, Nat.reduceMul, Nat.reduceLeDiff, Nat.reduceLT, reduceCtorEq, Int.reduceToNat, Int.reduceLE, Int.reduceLT, Int.reduceEq, Int.reduceNeg, Int.reduceNe, Int.reducePow, Nat.reducePow, Nat.reduceSub, IntKind.bits]
end Go.LM
