import Derived.Test.YtgbhkmgmpodnkaaLmTrcR1
import Derived.Test.YtgbhkmgmpodnkaaLmcVlist2
namespace Go.LM
open Go.Proofs
set_option maxRecDepth 8000
set_option maxHeartbeats 4000000
set_option linter.unusedSimpArgs false

theorem cCloneI (o : Option (Nat × Nat)) (l : List ItemR) (hl : l.length ≤ 1000) (h : H) (w : WF h) :
    ∃ v h', runI Try.prog TA 47 [mkS o 7 (l.map ItemR.e)] h = some (v, h') ∧ (∃ o2, v = mkS o2 7 (l.map ItemR.e)) ∧ Keep h h' := by
  refine calls_of rfl res47 rfl ?_
  by_cases hn : o = none ∧ l.map ItemR.e = []
  · obtain ⟨rfl, he⟩ := hn
    have k0 := Keep.refl h
    simp (maxSteps := 10000000) (maxDischargeDepth := 30) only [q47, r47, he, and_self, k0, go_sem, Nat.reduceEqDiff, ↓reduceIte, Nat.reduceAdd, Nat.reduceMul, Nat.reduceLeDiff, Nat.reduceLT, reduceCtorEq, Int.reduceToNat, Int.reduceLE, Int.reduceLT, Int.reduceEq, Int.reduceNeg, Int.reduceNe, Int.reducePow, Nat.reducePow, Nat.reduceSub, IntKind.bits]
    exact ⟨none, rfl⟩
  · have w1 : WF (h.nrow 0) := wf_nrow w
    have t1 : okTok (some (h.rlen, 0)) 0 (h.nrow 0) := ⟨by have := w.2.2; omega, by simp; exact w.2.1, by simp, by simp⟩
    have ap := append_mk (sz := 7) (by_ := 56) (xs := []) (ys := l.map ItemR.e) t1 (by simp; omega)
    have n1 : newTok (some (h.rlen, 0)) h := Nat.le_refl _
    simp (maxSteps := 10000000) (maxDischargeDepth := 30) only [q47, r47, hn, ap, List.nil_append, go_sem, Nat.reduceEqDiff, ↓reduceIte, Nat.reduceAdd, Nat.reduceMul, Nat.reduceLeDiff, Nat.reduceLT, reduceCtorEq, Int.reduceToNat, Int.reduceLE, Int.reduceLT, Int.reduceEq, Int.reduceNeg, Int.reduceNe, Int.reducePow, Nat.reducePow, Nat.reduceSub, IntKind.bits]
    have k1 : Keep h (h.nrow 0) := (Keep.refl h).nrow 0
    exact ⟨⟨_, rfl⟩, keep_ap k1 n1⟩
theorem cVNew (o : Option (Nat × Nat)) (l : List ItemR) (hl : l.length ≤ 1000) (h : H) (w : WF h) :
    ∃ v h', runI Try.prog TA 12 [mkS o 7 (l.map ItemR.e)] h = some (v, h') ∧ IsV v l h' ∧ Keep h h' := by
  refine calls_of rfl res12 rfl ?_
  simp (maxSteps := 10000000) (maxDischargeDepth := 30) only [q12, r12, go_sem, Nat.reduceEqDiff, ↓reduceIte, Nat.reduceAdd, Nat.reduceMul, Nat.reduceLeDiff, Nat.reduceLT, reduceCtorEq, Int.reduceToNat, Int.reduceLE, Int.reduceLT, Int.reduceEq, Int.reduceNeg, Int.reduceNe, Int.reducePow, Nat.reducePow, Nat.reduceSub, IntKind.bits]
  refine ro_vcall (cCloneI o l hl h w) (fun v h1 J => ?_)
  obtain ⟨⟨o2, rfl⟩, k1⟩ := J
  simp (maxSteps := 10000000) (maxDischargeDepth := 30) only [go_sem, Nat.reduceEqDiff, ↓reduceIte, Nat.reduceAdd, Nat.reduceMul, Nat.reduceLeDiff, Nat.reduceLT, reduceCtorEq, Int.reduceToNat, Int.reduceLE, Int.reduceLT, Int.reduceEq, Int.reduceNeg, Int.reduceNe, Int.reducePow, Nat.reducePow, Nat.reduceSub, IntKind.bits]
  exact ⟨⟨.inr ⟨_, _, rfl, get_alloc_eq _ _⟩⟩, k1.alloc _⟩
end Go.LM
