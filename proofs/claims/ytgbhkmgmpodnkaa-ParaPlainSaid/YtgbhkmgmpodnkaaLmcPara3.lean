import Derived.Test.YtgbhkmgmpodnkaaLmTrcR1
import Derived.Test.YtgbhkmgmpodnkaaLmcPara2
namespace Go.LM
open Go.Proofs
set_option maxRecDepth 8000
set_option maxHeartbeats 8000000
set_option linter.unusedSimpArgs false

theorem cPaClub (v : LV) (l : List ItemR) (b : Int) (hl : l.length ≤ 1000) (h : H) (w : WF h) (m : IsV v l h) :
    runI Try.prog TA 24 [v, .int .i64 b] h = some (.bool (clubP l b), hp Try.prog TA 24 [v, .int .i64 b] h) := by
  refine pure_of rfl res24 rfl ?_
  simp (maxSteps := 10000000) (maxDischargeDepth := 30) only [q24, r24, go_sem, Nat.reduceEqDiff, ↓reduceIte, Nat.reduceAdd, Nat.reduceMul, Nat.reduceLeDiff, Nat.reduceLT, reduceCtorEq, Int.reduceToNat, Int.reduceLE, Int.reduceLT, Int.reduceEq, Int.reduceNeg, Int.reduceNe, Int.reducePow, Nat.reducePow, Nat.reduceSub, IntKind.bits]
  refine ro_vcall (cPaIs v l 1 h m) (fun u h1 J => ?_)
  obtain ⟨⟨p, q, rfl, gp, gq⟩, k1⟩ := J
  have w1 := w.keep k1
  have m1 := m.next k1
  simp (maxSteps := 10000000) (maxDischargeDepth := 30) only [go_sem, Nat.reduceEqDiff, ↓reduceIte, Nat.reduceAdd, Nat.reduceMul, Nat.reduceLeDiff, Nat.reduceLT, reduceCtorEq, Int.reduceToNat, Int.reduceLE, Int.reduceLT, Int.reduceEq, Int.reduceNeg, Int.reduceNe, Int.reducePow, Nat.reducePow, Nat.reduceSub, IntKind.bits]
  refine ro_kcall (cPaAhead v l b hl h1 w1 m1) w1 (fun h2 k2 w2 => ?_)
  have gp2 := (k2.get (lt_of_get gp)).trans gp
  have gq2 := (k2.get (lt_of_get gq)).trans gq
  simp (maxSteps := 10000000) (maxDischargeDepth := 30) only [go_sem, Nat.reduceEqDiff, ↓reduceIte, Nat.reduceAdd, Nat.reduceMul, Nat.reduceLeDiff, Nat.reduceLT, reduceCtorEq, Int.reduceToNat, Int.reduceLE, Int.reduceLT, Int.reduceEq, Int.reduceNeg, Int.reduceNe, Int.reducePow, Nat.reducePow, Nat.reduceSub, IntKind.bits]
  refine ro_kcall (cPaIsF v l 1 (aheadP l b l.length) p q h2 w2 (m1.next k2) gp2 gq2) w2 (fun h3 k3 w3 => ?_)
  have kk := (k1.trans k2).trans k3
  simp (maxSteps := 10000000) (maxDischargeDepth := 30) only [kk, go_sem, Nat.reduceEqDiff, ↓reduceIte, Nat.reduceAdd, Nat.reduceMul, Nat.reduceLeDiff, Nat.reduceLT, reduceCtorEq, Int.reduceToNat, Int.reduceLE, Int.reduceLT, Int.reduceEq, Int.reduceNeg, Int.reduceNe, Int.reducePow, Nat.reducePow, Nat.reduceSub, IntKind.bits]
  rfl

theorem cPaWidow (v : LV) (l : List ItemR) (b : Int) (hl : l.length ≤ 1000) (h : H) (w : WF h) (m : IsV v l h) :
    runI Try.prog TA 26 [v, .int .i64 b] h = some (.bool (widowP l b), hp Try.prog TA 26 [v, .int .i64 b] h) := by
  refine pure_of rfl res26 rfl ?_
  simp (maxSteps := 10000000) (maxDischargeDepth := 30) only [q26, r26, go_sem, Nat.reduceEqDiff, ↓reduceIte, Nat.reduceAdd, Nat.reduceMul, Nat.reduceLeDiff, Nat.reduceLT, reduceCtorEq, Int.reduceToNat, Int.reduceLE, Int.reduceLT, Int.reduceEq, Int.reduceNeg, Int.reduceNe, Int.reducePow, Nat.reducePow, Nat.reduceSub, IntKind.bits]
  refine ro_vcall (cPaIs v l 2 h m) (fun u h1 J => ?_)
  obtain ⟨⟨p, q, rfl, gp, gq⟩, k1⟩ := J
  have w1 := w.keep k1
  have m1 := m.next k1
  simp (maxSteps := 10000000) (maxDischargeDepth := 30) only [go_sem, Nat.reduceEqDiff, ↓reduceIte, Nat.reduceAdd, Nat.reduceMul, Nat.reduceLeDiff, Nat.reduceLT, reduceCtorEq, Int.reduceToNat, Int.reduceLE, Int.reduceLT, Int.reduceEq, Int.reduceNeg, Int.reduceNe, Int.reducePow, Nat.reducePow, Nat.reduceSub, IntKind.bits]
  refine ro_kcall (cPaBehind v l b hl h1 w1 m1) w1 (fun h2 k2 w2 => ?_)
  have gp2 := (k2.get (lt_of_get gp)).trans gp
  have gq2 := (k2.get (lt_of_get gq)).trans gq
  simp (maxSteps := 10000000) (maxDischargeDepth := 30) only [go_sem, Nat.reduceEqDiff, ↓reduceIte, Nat.reduceAdd, Nat.reduceMul, Nat.reduceLeDiff, Nat.reduceLT, reduceCtorEq, Int.reduceToNat, Int.reduceLE, Int.reduceLT, Int.reduceEq, Int.reduceNeg, Int.reduceNe, Int.reducePow, Nat.reducePow, Nat.reduceSub, IntKind.bits]
  refine ro_kcall (cPaIsF v l 2 (behindP l b) p q h2 w2 (m1.next k2) gp2 gq2) w2 (fun h3 k3 w3 => ?_)
  have kk := (k1.trans k2).trans k3
  simp (maxSteps := 10000000) (maxDischargeDepth := 30) only [kk, go_sem, Nat.reduceEqDiff, ↓reduceIte, Nat.reduceAdd, Nat.reduceMul, Nat.reduceLeDiff, Nat.reduceLT, reduceCtorEq, Int.reduceToNat, Int.reduceLE, Int.reduceLT, Int.reduceEq, Int.reduceNeg, Int.reduceNe, Int.reducePow, Nat.reducePow, Nat.reduceSub, IntKind.bits]
  rfl

/-! ### the document's -/
theorem cRMay18 (o : Option (Nat × Nat)) (l : List ItemR) (b : Int) (hl : l.length ≤ 1000) (h : H) (w : WF h) :
    runI Try.prog TA 28 [mkS o 7 (l.map ItemR.e), .int .i64 b] h = some (.bool (mayV l b), hp Try.prog TA 28 [mkS o 7 (l.map ItemR.e), .int .i64 b] h) := by
  refine pure_of rfl res28 rfl ?_
  unfold mayV
  by_cases c0 : b < 1
  · rw [if_pos (.inl c0)]
    simp (maxSteps := 10000000) (maxDischargeDepth := 30) only [q28, r28, c0, go_sem, Nat.reduceEqDiff, ↓reduceIte, Nat.reduceAdd, Nat.reduceMul, Nat.reduceLeDiff, Nat.reduceLT, reduceCtorEq, Int.reduceToNat, Int.reduceLE, Int.reduceLT, Int.reduceEq, Int.reduceNeg, Int.reduceNe, Int.reducePow, Nat.reducePow, Nat.reduceSub, IntKind.bits]
  by_cases c1 : (l.length : Int) < b
  · rw [if_pos (.inr c1)]
    simp (maxSteps := 10000000) (maxDischargeDepth := 30) only [q28, r28, c0, c1, List.length_map, go_sem, Nat.reduceEqDiff, ↓reduceIte, Nat.reduceAdd, Nat.reduceMul, Nat.reduceLeDiff, Nat.reduceLT, reduceCtorEq, Int.reduceToNat, Int.reduceLE, Int.reduceLT, Int.reduceEq, Int.reduceNeg, Int.reduceNe, Int.reducePow, Nat.reducePow, Nat.reduceSub, IntKind.bits]
  rw [if_neg (by omega)]
  cases hx : itAt l b with
  | none =>
    have c2 : b = l.length := by have := itAt_none hx; omega
    simp (maxSteps := 10000000) (maxDischargeDepth := 30) only [q28, r28, c0, c1, List.length_map, eq_true c2, go_sem, Nat.reduceEqDiff, ↓reduceIte, Nat.reduceAdd, Nat.reduceMul, Nat.reduceLeDiff, Nat.reduceLT, reduceCtorEq, Int.reduceToNat, Int.reduceLE, Int.reduceLT, Int.reduceEq, Int.reduceNeg, Int.reduceNe, Int.reducePow, Nat.reducePow, Nat.reduceSub, IntKind.bits]
  | some x =>
    obtain ⟨-, cl, -⟩ := itAt_some hx
    have c2 : ¬ b = l.length := by omega
    have ia := item_atV hx
    by_cases c3 : x.k = 2
    · obtain ⟨y, hy⟩ := itAt_in (l := l) (n := b - 1) (by omega) (by omega)
      have iy := item_atV hy
      have eb : IntKind.i64.wrap (b - 1) = b - 1 := wrap64 (by omega) (by omega)
      simp (maxSteps := 10000000) (maxDischargeDepth := 30) only [q28, r28, c0, c1, List.length_map, eq_false c2, ia, ItemR.e, c3, eb, iy, go_sem, Nat.reduceEqDiff, ↓reduceIte, Nat.reduceAdd, Nat.reduceMul, Nat.reduceLeDiff, Nat.reduceLT, reduceCtorEq, Int.reduceToNat, Int.reduceLE, Int.reduceLT, Int.reduceEq, Int.reduceNeg, Int.reduceNe, Int.reducePow, Nat.reducePow, Nat.reduceSub, IntKind.bits]
      refine ro_kcall (cRLoose10 y h) w (fun h3 k3 w3 => ?_)
      rw [hy]
      simp (maxSteps := 10000000) (maxDischargeDepth := 30) only [k3, go_sem, Nat.reduceEqDiff, ↓reduceIte, Nat.reduceAdd, Nat.reduceMul, Nat.reduceLeDiff, Nat.reduceLT, reduceCtorEq, Int.reduceToNat, Int.reduceLE, Int.reduceLT, Int.reduceEq, Int.reduceNeg, Int.reduceNe, Int.reducePow, Nat.reducePow, Nat.reduceSub, IntKind.bits]
    · by_cases c4 : x.k = 3
      · simp (maxSteps := 10000000) (maxDischargeDepth := 30) only [q28, r28, c0, c1, List.length_map, eq_false c2, ia, ItemR.e, c3, eq_true c4, go_sem, Nat.reduceEqDiff, ↓reduceIte, Nat.reduceAdd, Nat.reduceMul, Nat.reduceLeDiff, Nat.reduceLT, reduceCtorEq, Int.reduceToNat, Int.reduceLE, Int.reduceLT, Int.reduceEq, Int.reduceNeg, Int.reduceNe, Int.reducePow, Nat.reducePow, Nat.reduceSub, IntKind.bits]
      · simp (maxSteps := 10000000) (maxDischargeDepth := 30) only [q28, r28, c0, c1, List.length_map, eq_false c2, ia, ItemR.e, c3, eq_false c4, go_sem, Nat.reduceEqDiff, ↓reduceIte, Nat.reduceAdd, Nat.reduceMul, Nat.reduceLeDiff, Nat.reduceLT, reduceCtorEq, Int.reduceToNat, Int.reduceLE, Int.reduceLT, Int.reduceEq, Int.reduceNeg, Int.reduceNe, Int.reducePow, Nat.reducePow, Nat.reduceSub, IntKind.bits]
end Go.LM
