import Derived.Test.YtgbhkmgmpodnkaaLmTrcR1
import Derived.Test.YtgbhkmgmpodnkaaLmcVlist1
namespace Go.LM
open Go.Proofs
set_option maxRecDepth 8000
set_option maxHeartbeats 4000000
set_option linter.unusedSimpArgs false

theorem cVMay (v : LV) (l : List ItemR) (b : Int) (hl : l.length ≤ 1000) (h : H) (w : WF h) (m : IsV v l h) :
    runI Try.prog TA 16 [v, .int .i64 b] h = some (.bool (mayV l b), hp Try.prog TA 16 [v, .int .i64 b] h) := by
  refine pure_of rfl res16 rfl ?_
  simp (maxSteps := 10000000) (maxDischargeDepth := 30) only [q16, r16, go_sem, Nat.reduceEqDiff, ↓reduceIte, Nat.reduceAdd, Nat.reduceMul, Nat.reduceLeDiff, Nat.reduceLT, reduceCtorEq, Int.reduceToNat, Int.reduceLE, Int.reduceLT, Int.reduceEq, Int.reduceNeg, Int.reduceNe, Int.reducePow, Nat.reducePow, Nat.reduceSub, IntKind.bits]
  refine ro_kcall (cVAt v l b h w m) w (fun h1 k1 w1 => ?_)
  have lo1 := w1.1
  unfold mayV
  by_cases c0 : b < 1
  · rw [if_pos (.inl c0)]
    have kk : ∀ c B, Keep h ((h1.alloc c).put h1.len B) := fun c B => (k1.alloc c).put k1.len B
    cases hx : itAt l b with
    | none => simp (maxSteps := 10000000) (maxDischargeDepth := 30) only [lo1, itemZ, ItemR.e, Option.getD_none, Option.isSome_none, c0, kk, go_sem, Nat.reduceEqDiff, ↓reduceIte, Nat.reduceAdd, Nat.reduceMul, Nat.reduceLeDiff, Nat.reduceLT, reduceCtorEq, Int.reduceToNat, Int.reduceLE, Int.reduceLT, Int.reduceEq, Int.reduceNeg, Int.reduceNe, Int.reducePow, Nat.reducePow, Nat.reduceSub, IntKind.bits]
    | some x => simp (maxSteps := 10000000) (maxDischargeDepth := 30) only [lo1, ItemR.e, Option.getD_some, Option.isSome_some, c0, kk, go_sem, Nat.reduceEqDiff, ↓reduceIte, Nat.reduceAdd, Nat.reduceMul, Nat.reduceLeDiff, Nat.reduceLT, reduceCtorEq, Int.reduceToNat, Int.reduceLE, Int.reduceLT, Int.reduceEq, Int.reduceNeg, Int.reduceNe, Int.reducePow, Nat.reducePow, Nat.reduceSub, IntKind.bits]
  cases hx : itAt l b with
  | none =>
    simp (maxSteps := 10000000) (maxDischargeDepth := 30) only [lo1, itemZ, ItemR.e, Option.getD_none, Option.isSome_none, go_sem, Nat.reduceEqDiff, ↓reduceIte, Nat.reduceAdd, Nat.reduceMul, Nat.reduceLeDiff, Nat.reduceLT, reduceCtorEq, Int.reduceToNat, Int.reduceLE, Int.reduceLT, Int.reduceEq, Int.reduceNeg, Int.reduceNe, Int.reducePow, Nat.reducePow, Nat.reduceSub, IntKind.bits]
    generalize hgg : H.put _ _ _ = g
    have kg : Keep h g := by rw [← hgg]; exact (k1.alloc _).put k1.len _
    clear hgg
    have wg := w.keep kg
    try (simp (maxSteps := 10000000) (maxDischargeDepth := 30) only [c0, go_sem, Nat.reduceEqDiff, ↓reduceIte, Nat.reduceAdd, Nat.reduceMul, Nat.reduceLeDiff, Nat.reduceLT, reduceCtorEq, Int.reduceToNat, Int.reduceLE, Int.reduceLT, Int.reduceEq, Int.reduceNeg, Int.reduceNe, Int.reducePow, Nat.reducePow, Nat.reduceSub, IntKind.bits])
    refine ro_kcall (cVLen v l g (m.next kg)) wg (fun h2 k2 w2 => ?_)
    have kk := kg.trans k2
    by_cases c1 : (l.length : Int) < b
    · rw [if_pos c1]
      simp (maxSteps := 10000000) (maxDischargeDepth := 30) only [c1, kk, go_sem, Nat.reduceEqDiff, ↓reduceIte, Nat.reduceAdd, Nat.reduceMul, Nat.reduceLeDiff, Nat.reduceLT, reduceCtorEq, Int.reduceToNat, Int.reduceLE, Int.reduceLT, Int.reduceEq, Int.reduceNeg, Int.reduceNe, Int.reducePow, Nat.reducePow, Nat.reduceSub, IntKind.bits]
    · rw [if_neg c1]
      simp (maxSteps := 10000000) (maxDischargeDepth := 30) only [c1, kk, go_sem, Nat.reduceEqDiff, ↓reduceIte, Nat.reduceAdd, Nat.reduceMul, Nat.reduceLeDiff, Nat.reduceLT, reduceCtorEq, Int.reduceToNat, Int.reduceLE, Int.reduceLT, Int.reduceEq, Int.reduceNeg, Int.reduceNe, Int.reducePow, Nat.reducePow, Nat.reduceSub, IntKind.bits]
  | some x =>
    simp (maxSteps := 10000000) (maxDischargeDepth := 30) only [lo1, ItemR.e, Option.getD_some, Option.isSome_some, go_sem, Nat.reduceEqDiff, ↓reduceIte, Nat.reduceAdd, Nat.reduceMul, Nat.reduceLeDiff, Nat.reduceLT, reduceCtorEq, Int.reduceToNat, Int.reduceLE, Int.reduceLT, Int.reduceEq, Int.reduceNeg, Int.reduceNe, Int.reducePow, Nat.reducePow, Nat.reduceSub, IntKind.bits]
    generalize hgg : H.put _ _ _ = g
    have kg : Keep h g := by rw [← hgg]; exact (k1.alloc _).put k1.len _
    have gg : g.get h1.len = some ⟨false, [.int .i64 x.k, .int .i64 x.h, .int .i64 x.f, .int .i64 x.str, .int .i64 x.ord, .int .i64 x.shr, .int .i64 x.n]⟩ := by rw [← hgg]; exact get_put_eq (by rw [len_alloc]; omega)
    clear hgg
    have wg := w.keep kg
    have mg := m.next kg
    obtain ⟨-, cl, -⟩ := itAt_some hx
    have c1 : ¬ (l.length : Int) < b := by omega
    rw [if_neg (by omega)]
    try (simp (maxSteps := 10000000) (maxDischargeDepth := 30) only [c0, go_sem, Nat.reduceEqDiff, ↓reduceIte, Nat.reduceAdd, Nat.reduceMul, Nat.reduceLeDiff, Nat.reduceLT, reduceCtorEq, Int.reduceToNat, Int.reduceLE, Int.reduceLT, Int.reduceEq, Int.reduceNeg, Int.reduceNe, Int.reducePow, Nat.reducePow, Nat.reduceSub, IntKind.bits])
    refine ro_kcall (cVLen v l g mg) wg (fun h2 k2 w2 => ?_)
    have kk := kg.trans k2
    have gg2 := (k2.get (lt_of_get gg)).trans gg
    have m2 := mg.next k2
    by_cases c2 : x.k = 2
    · obtain ⟨y, hy⟩ := itAt_in (l := l) (n := b - 1) (by omega) (by omega)
      have iy := item_atV hy
      have eb : IntKind.i64.wrap (b - 1) = b - 1 := wrap64 (by omega) (by omega)
      rcases m2.is with ⟨rfl, rfl⟩ | ⟨p, o, rfl, gp⟩
      · simp only [List.length_nil] at cl; omega
      · simp (maxSteps := 10000000) (maxDischargeDepth := 30) only [c1, c2, gg2, gp, eb, iy, go_sem, Nat.reduceEqDiff, ↓reduceIte, Nat.reduceAdd, Nat.reduceMul, Nat.reduceLeDiff, Nat.reduceLT, reduceCtorEq, Int.reduceToNat, Int.reduceLE, Int.reduceLT, Int.reduceEq, Int.reduceNeg, Int.reduceNe, Int.reducePow, Nat.reducePow, Nat.reduceSub, IntKind.bits]
        refine ro_kcall (cItLoose y h2) w2 (fun h3 k3 w3 => ?_)
        have k3' := kk.trans k3
        rw [hy]
        simp (maxSteps := 10000000) (maxDischargeDepth := 30) only [k3', go_sem, Nat.reduceEqDiff, ↓reduceIte, Nat.reduceAdd, Nat.reduceMul, Nat.reduceLeDiff, Nat.reduceLT, reduceCtorEq, Int.reduceToNat, Int.reduceLE, Int.reduceLT, Int.reduceEq, Int.reduceNeg, Int.reduceNe, Int.reducePow, Nat.reducePow, Nat.reduceSub, IntKind.bits]
    · by_cases c3 : x.k = 3
      · have c3t : (x.k = 3) = True := eq_true c3
        simp (maxSteps := 10000000) (maxDischargeDepth := 30) only [c1, c2, c3t, gg2, go_sem, Nat.reduceEqDiff, ↓reduceIte, Nat.reduceAdd, Nat.reduceMul, Nat.reduceLeDiff, Nat.reduceLT, reduceCtorEq, Int.reduceToNat, Int.reduceLE, Int.reduceLT, Int.reduceEq, Int.reduceNeg, Int.reduceNe, Int.reducePow, Nat.reducePow, Nat.reduceSub, IntKind.bits]
        refine ro_kcall (cItForbids x h2) w2 (fun h3 k3 w3 => ?_)
        have k3' := kk.trans k3
        unfold forbidsR
        by_cases c4 : x.n < 10000
        · have c5 : ¬ 10000 ≤ x.n := by omega
          simp [c3, c4, c5]
          simp (maxSteps := 10000000) (maxDischargeDepth := 30) only [k3', go_sem, Nat.reduceEqDiff, ↓reduceIte, Nat.reduceAdd, Nat.reduceMul, Nat.reduceLeDiff, Nat.reduceLT, reduceCtorEq, Int.reduceToNat, Int.reduceLE, Int.reduceLT, Int.reduceEq, Int.reduceNeg, Int.reduceNe, Int.reducePow, Nat.reducePow, Nat.reduceSub, IntKind.bits]
        · have c5 : 10000 ≤ x.n := by omega
          simp [c3, c4, c5]
          simp (maxSteps := 10000000) (maxDischargeDepth := 30) only [k3', go_sem, Nat.reduceEqDiff, ↓reduceIte, Nat.reduceAdd, Nat.reduceMul, Nat.reduceLeDiff, Nat.reduceLT, reduceCtorEq, Int.reduceToNat, Int.reduceLE, Int.reduceLT, Int.reduceEq, Int.reduceNeg, Int.reduceNe, Int.reducePow, Nat.reducePow, Nat.reduceSub, IntKind.bits]
      · have c4 : ¬ (x.k = 3 ∧ x.n < 10000) := fun q => c3 q.1
        rw [decide_eq_false c4]
        simp (maxSteps := 10000000) (maxDischargeDepth := 30) only [c1, c2, c3, gg2, kk, go_sem, Nat.reduceEqDiff, ↓reduceIte, Nat.reduceAdd, Nat.reduceMul, Nat.reduceLeDiff, Nat.reduceLT, reduceCtorEq, Int.reduceToNat, Int.reduceLE, Int.reduceLT, Int.reduceEq, Int.reduceNeg, Int.reduceNe, Int.reducePow, Nat.reducePow, Nat.reduceSub, IntKind.bits]
end Go.LM
