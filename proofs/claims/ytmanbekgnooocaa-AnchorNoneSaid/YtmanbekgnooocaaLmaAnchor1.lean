import Derived.Test.YtmanbekgnooocaaLmTraR1
import Derived.Test.YtmanbekgnooocaaLmTraR2
import Derived.Test.YtmanbekgnooocaaLmaTa
import Derived.Test.YtmanbekgnooocaaLmB15
namespace Go.LM
open Go.Proofs
set_option maxRecDepth 8000
set_option maxHeartbeats 4000000
set_option linter.unusedSimpArgs false

theorem awAwake21 (h : H) : runI Try.prog TA 50 [] h = some (.bool true, h) := runI_known rfl
/-! ### of nil -/
theorem cAPlaceN (n : Int) (h : H) : runI Try.prog TA 70 [.nilp, .int .i64 n] h = some (.tup [.int .i64 0, .bool false], hp Try.prog TA 70 [.nilp, .int .i64 n] h) := by
  refine pure_of rfl res70 rfl ?_
  simp (maxSteps := 10000000) (maxDischargeDepth := 30) only [q70, r70, go_sem, Nat.reduceEqDiff, ↓reduceIte, Nat.reduceAdd, Nat.reduceMul, Nat.reduceLeDiff, Nat.reduceLT, reduceCtorEq, Int.reduceToNat, Int.reduceLE, Int.reduceLT, Int.reduceEq, Int.reduceNeg, Int.reduceNe, Int.reducePow, Nat.reducePow, Nat.reduceSub, IntKind.bits]
theorem cANumsN (k a b : Int) (h : H) (w : WF h) : runI Try.prog TA 69 [.nilp, .int .i64 k, .int .i64 a, .int .i64 b] h = some (.nils, hp Try.prog TA 69 [.nilp, .int .i64 k, .int .i64 a, .int .i64 b] h) := by
  refine pure_of rfl res69 rfl ?_
  simp (maxSteps := 10000000) (maxDischargeDepth := 30) only [q69, r69, go_sem, Nat.reduceEqDiff, ↓reduceIte, Nat.reduceAdd, Nat.reduceMul, Nat.reduceLeDiff, Nat.reduceLT, reduceCtorEq, Int.reduceToNat, Int.reduceLE, Int.reduceLT, Int.reduceEq, Int.reduceNeg, Int.reduceNe, Int.reducePow, Nat.reducePow, Nat.reduceSub, IntKind.bits]
  refine ro_kcall (cAPlaceN a h) w (fun h1 k1 w1 => ?_)
  simp (maxSteps := 10000000) (maxDischargeDepth := 30) only [k1, go_sem, Nat.reduceEqDiff, ↓reduceIte, Nat.reduceAdd, Nat.reduceMul, Nat.reduceLeDiff, Nat.reduceLT, reduceCtorEq, Int.reduceToNat, Int.reduceLE, Int.reduceLT, Int.reduceEq, Int.reduceNeg, Int.reduceNe, Int.reducePow, Nat.reducePow, Nat.reduceSub, IntKind.bits]
theorem cANotesN (a b : Int) (h : H) (w : WF h) : runI Try.prog TA 52 [.nilp, .int .i64 a, .int .i64 b] h = some (.nils, hp Try.prog TA 52 [.nilp, .int .i64 a, .int .i64 b] h) := by
  refine pure_of rfl res52 rfl ?_
  simp (maxSteps := 10000000) (maxDischargeDepth := 30) only [q52, r52, go_sem, Nat.reduceEqDiff, ↓reduceIte, Nat.reduceAdd, Nat.reduceMul, Nat.reduceLeDiff, Nat.reduceLT, reduceCtorEq, Int.reduceToNat, Int.reduceLE, Int.reduceLT, Int.reduceEq, Int.reduceNeg, Int.reduceNe, Int.reducePow, Nat.reducePow, Nat.reduceSub, IntKind.bits]
  refine ro_kcall (cANumsN 5 a b h w) w (fun h1 k1 w1 => ?_)
  simp (maxSteps := 10000000) (maxDischargeDepth := 30) only [k1, go_sem, Nat.reduceEqDiff, ↓reduceIte, Nat.reduceAdd, Nat.reduceMul, Nat.reduceLeDiff, Nat.reduceLT, reduceCtorEq, Int.reduceToNat, Int.reduceLE, Int.reduceLT, Int.reduceEq, Int.reduceNeg, Int.reduceNe, Int.reducePow, Nat.reducePow, Nat.reduceSub, IntKind.bits]
theorem cAFloatsN (a b : Int) (h : H) (w : WF h) : runI Try.prog TA 54 [.nilp, .int .i64 a, .int .i64 b] h = some (.nils, hp Try.prog TA 54 [.nilp, .int .i64 a, .int .i64 b] h) := by
  refine pure_of rfl res54 rfl ?_
  simp (maxSteps := 10000000) (maxDischargeDepth := 30) only [q54, r54, go_sem, Nat.reduceEqDiff, ↓reduceIte, Nat.reduceAdd, Nat.reduceMul, Nat.reduceLeDiff, Nat.reduceLT, reduceCtorEq, Int.reduceToNat, Int.reduceLE, Int.reduceLT, Int.reduceEq, Int.reduceNeg, Int.reduceNe, Int.reducePow, Nat.reducePow, Nat.reduceSub, IntKind.bits]
  refine ro_kcall (cANumsN 6 a b h w) w (fun h1 k1 w1 => ?_)
  simp (maxSteps := 10000000) (maxDischargeDepth := 30) only [k1, go_sem, Nat.reduceEqDiff, ↓reduceIte, Nat.reduceAdd, Nat.reduceMul, Nat.reduceLeDiff, Nat.reduceLT, reduceCtorEq, Int.reduceToNat, Int.reduceLE, Int.reduceLT, Int.reduceEq, Int.reduceNeg, Int.reduceNe, Int.reducePow, Nat.reducePow, Nat.reduceSub, IntKind.bits]
theorem cABegunN (a : Int) (h : H) (w : WF h) : runI Try.prog TA 55 [.nilp, .int .i64 a] h = some (.int .i64 0, hp Try.prog TA 55 [.nilp, .int .i64 a] h) := by
  refine pure_of rfl res55 rfl ?_
  simp (maxSteps := 10000000) (maxDischargeDepth := 30) only [q55, r55, go_sem, Nat.reduceEqDiff, ↓reduceIte, Nat.reduceAdd, Nat.reduceMul, Nat.reduceLeDiff, Nat.reduceLT, reduceCtorEq, Int.reduceToNat, Int.reduceLE, Int.reduceLT, Int.reduceEq, Int.reduceNeg, Int.reduceNe, Int.reducePow, Nat.reducePow, Nat.reduceSub, IntKind.bits]
  refine ro_kcall (cAPlaceN a h) w (fun h1 k1 w1 => ?_)
  simp (maxSteps := 10000000) (maxDischargeDepth := 30) only [k1, go_sem, Nat.reduceEqDiff, ↓reduceIte, Nat.reduceAdd, Nat.reduceMul, Nat.reduceLeDiff, Nat.reduceLT, reduceCtorEq, Int.reduceToNat, Int.reduceLE, Int.reduceLT, Int.reduceEq, Int.reduceNeg, Int.reduceNe, Int.reducePow, Nat.reducePow, Nat.reduceSub, IntKind.bits]
theorem cAAheadN (a : Int) (h : H) (w : WF h) : runI Try.prog TA 56 [.nilp, .int .i64 a] h = some (cnt0.e, hp Try.prog TA 56 [.nilp, .int .i64 a] h) := by
  refine pure_of rfl res56 rfl ?_
  have lo := w.1
  have k0 := (Keep.refl h).alloc [.int .i64 0, .int .i64 0, .int .i64 0]
  have w0 := w.keep k0
  have g0 : (h.alloc [.int .i64 0, .int .i64 0, .int .i64 0]).get h.len = _ := get_alloc_eq _ _
  simp (maxSteps := 10000000) (maxDischargeDepth := 30) only [q56, r56, go_sem, Nat.reduceEqDiff, ↓reduceIte, Nat.reduceAdd, Nat.reduceMul, Nat.reduceLeDiff, Nat.reduceLT, reduceCtorEq, Int.reduceToNat, Int.reduceLE, Int.reduceLT, Int.reduceEq, Int.reduceNeg, Int.reduceNe, Int.reducePow, Nat.reducePow, Nat.reduceSub, IntKind.bits]
  refine ro_kcall (cAPlaceN a _) w0 (fun h1 k1 w1 => ?_)
  have g1 := (k1.get (lt_of_get g0)).trans g0
  have l1 := lt_of_get g1
  have lo1 : h1.lob ≤ h.len := by rw [k1.lob, k0.lob]; exact lo
  have kk := (k0.trans k1).put (Nat.le_refl h.len) ⟨false, [.int .i64 0, .int .i64 0, .int .i64 0]⟩
  simp (maxSteps := 10000000) (maxDischargeDepth := 30) only [g1, l1, lo1, kk, cnt0, Cnt.e, go_sem, Nat.reduceEqDiff, ↓reduceIte, Nat.reduceAdd, Nat.reduceMul, Nat.reduceLeDiff, Nat.reduceLT, reduceCtorEq, Int.reduceToNat, Int.reduceLE, Int.reduceLT, Int.reduceEq, Int.reduceNeg, Int.reduceNe, Int.reducePow, Nat.reducePow, Nat.reduceSub, IntKind.bits]
theorem cADueN (a : Int) (h : H) (w : WF h) : runI Try.prog TA 58 [.nilp, .int .i64 a] h = some (cnt0.e, hp Try.prog TA 58 [.nilp, .int .i64 a] h) := by
  refine pure_of rfl res58 rfl ?_
  have lo := w.1
  have k0 := (Keep.refl h).alloc [.int .i64 0, .int .i64 0, .int .i64 0]
  have w0 := w.keep k0
  have g0 : (h.alloc [.int .i64 0, .int .i64 0, .int .i64 0]).get h.len = _ := get_alloc_eq _ _
  simp (maxSteps := 10000000) (maxDischargeDepth := 30) only [q58, r58, go_sem, Nat.reduceEqDiff, ↓reduceIte, Nat.reduceAdd, Nat.reduceMul, Nat.reduceLeDiff, Nat.reduceLT, reduceCtorEq, Int.reduceToNat, Int.reduceLE, Int.reduceLT, Int.reduceEq, Int.reduceNeg, Int.reduceNe, Int.reducePow, Nat.reducePow, Nat.reduceSub, IntKind.bits]
  refine ro_kcall (cAPlaceN a _) w0 (fun h1 k1 w1 => ?_)
  have g1 := (k1.get (lt_of_get g0)).trans g0
  have l1 := lt_of_get g1
  have lo1 : h1.lob ≤ h.len := by rw [k1.lob, k0.lob]; exact lo
  have kk := (k0.trans k1).put (Nat.le_refl h.len) ⟨false, [.int .i64 0, .int .i64 0, .int .i64 0]⟩
  simp (maxSteps := 10000000) (maxDischargeDepth := 30) only [g1, l1, lo1, kk, cnt0, Cnt.e, go_sem, Nat.reduceEqDiff, ↓reduceIte, Nat.reduceAdd, Nat.reduceMul, Nat.reduceLeDiff, Nat.reduceLT, reduceCtorEq, Int.reduceToNat, Int.reduceLE, Int.reduceLT, Int.reduceEq, Int.reduceNeg, Int.reduceNe, Int.reducePow, Nat.reducePow, Nat.reduceSub, IntKind.bits]
theorem lAnchorNone (a b : Int) : ∃ h', runI Try.prog TA 14 [.int .i64 a, .int .i64 b] H0 = some (.bool true, h') := by
  refine true_of rfl res14 rfl ?_
  have w0 := wf0
  simp (maxSteps := 10000000) (maxDischargeDepth := 30) only [q14, r14, go_sem, Nat.reduceEqDiff, ↓reduceIte, Nat.reduceAdd, Nat.reduceMul, Nat.reduceLeDiff, Nat.reduceLT, reduceCtorEq, Int.reduceToNat, Int.reduceLE, Int.reduceLT, Int.reduceEq, Int.reduceNeg, Int.reduceNe, Int.reducePow, Nat.reducePow, Nat.reduceSub, IntKind.bits]
  refine ro_kcall (cANotesN a b H0 w0) w0 (fun h1 k1 w1 => ?_)
  simp (maxSteps := 10000000) (maxDischargeDepth := 30) only [go_sem, Nat.reduceEqDiff, ↓reduceIte, Nat.reduceAdd, Nat.reduceMul, Nat.reduceLeDiff, Nat.reduceLT, reduceCtorEq, Int.reduceToNat, Int.reduceLE, Int.reduceLT, Int.reduceEq, Int.reduceNeg, Int.reduceNe, Int.reducePow, Nat.reducePow, Nat.reduceSub, IntKind.bits]
  refine ro_kcall (cAFloatsN a b h1 w1) w1 (fun h2 k2 w2 => ?_)
  simp (maxSteps := 10000000) (maxDischargeDepth := 30) only [go_sem, Nat.reduceEqDiff, ↓reduceIte, Nat.reduceAdd, Nat.reduceMul, Nat.reduceLeDiff, Nat.reduceLT, reduceCtorEq, Int.reduceToNat, Int.reduceLE, Int.reduceLT, Int.reduceEq, Int.reduceNeg, Int.reduceNe, Int.reducePow, Nat.reducePow, Nat.reduceSub, IntKind.bits]
  refine ro_kcall (cABegunN a h2 w2) w2 (fun h3 k3 w3 => ?_)
  simp (maxSteps := 10000000) (maxDischargeDepth := 30) only [go_sem, Nat.reduceEqDiff, ↓reduceIte, Nat.reduceAdd, Nat.reduceMul, Nat.reduceLeDiff, Nat.reduceLT, reduceCtorEq, Int.reduceToNat, Int.reduceLE, Int.reduceLT, Int.reduceEq, Int.reduceNeg, Int.reduceNe, Int.reducePow, Nat.reducePow, Nat.reduceSub, IntKind.bits]
  refine ro_kcall (cAAheadN a h3 w3) w3 (fun h4 k4 w4 => ?_)
  simp (maxSteps := 10000000) (maxDischargeDepth := 30) only [cnt0, Cnt.e, go_sem, Nat.reduceEqDiff, ↓reduceIte, Nat.reduceAdd, Nat.reduceMul, Nat.reduceLeDiff, Nat.reduceLT, reduceCtorEq, Int.reduceToNat, Int.reduceLE, Int.reduceLT, Int.reduceEq, Int.reduceNeg, Int.reduceNe, Int.reducePow, Nat.reducePow, Nat.reduceSub, IntKind.bits]
  refine ro_kcall (cADueN a h4 w4) w4 (fun h5 k5 w5 => ?_)
  simp (maxSteps := 10000000) (maxDischargeDepth := 30) only [cnt0, Cnt.e, awAwake21, go_sem, Nat.reduceEqDiff, ↓reduceIte, Nat.reduceAdd, Nat.reduceMul, Nat.reduceLeDiff, Nat.reduceLT, reduceCtorEq, Int.reduceToNat, Int.reduceLE, Int.reduceLT, Int.reduceEq, Int.reduceNeg, Int.reduceNe, Int.reducePow, Nat.reducePow, Nat.reduceSub, IntKind.bits]
end Go.LM
