import Derived.Test.YtgbhkmgmpodnkaaLmTrcR1
import Derived.Test.YtgbhkmgmpodnkaaLmcPara3
namespace Go.LM
open Go.Proofs
set_option maxRecDepth 8000
set_option maxHeartbeats 8000000
set_option linter.unusedSimpArgs false

/-- Nothing overflows. -/
def Fits (g : GeomR) (l : List ItemR) (b : Int) : Prop :=
  ∀ x, itAt l b = some x → x.n < 9223372036854775808 ∧ ((x.n ≤ 1099511627776 ∧ g.c13 ≤ 1099511627776 ∧ g.c14 ≤ 1099511627776) ∨ (clubP l b = false ∧ widowP l b = false))
theorem cPaOf (g : GeomR) (v : LV) (l : List ItemR) (b : Int) (hl : l.length ≤ 1000) (hf : Fits g l b) (h : H) (w : WF h) (m : IsV v l h) :
    runI Try.prog TA 18 [g.e, v, .int .i64 b] h = some (.int .i64 (costP g l b), hp Try.prog TA 18 [g.e, v, .int .i64 b] h) := by
  refine pure_of rfl res18 rfl ?_
  simp (maxSteps := 10000000) (maxDischargeDepth := 30) only [q18, r18, GeomR.e, GeomR.cells, go_sem, Nat.reduceEqDiff, ↓reduceIte, Nat.reduceAdd, Nat.reduceMul, Nat.reduceLeDiff, Nat.reduceLT, reduceCtorEq, Int.reduceToNat, Int.reduceLE, Int.reduceLT, Int.reduceEq, Int.reduceNeg, Int.reduceNe, Int.reducePow, Nat.reducePow, Nat.reduceSub, IntKind.bits]
  generalize hgg : H.alloc _ _ = g0
  have k0 : Keep h g0 := by rw [← hgg]; exact (Keep.refl h).alloc _
  have gg0 : g0.get h.len = some ⟨false, [.int .i64 g.c0, .int .i64 g.c1, .int .i64 g.c2, .int .i64 g.c3, .int .i64 g.c4, .int .i64 g.c5, .int .i64 g.c6, .int .i64 g.c7, .int .i64 g.c8, .int .i64 g.c9, .int .i64 g.c10, .int .i64 g.c11, .int .i64 g.c12, .int .i64 g.c13, .int .i64 g.c14, .int .i64 g.c15, .int .i64 g.c16, .int .i64 g.c17, .bool g.bal]⟩ := by rw [← hgg]; exact get_alloc_eq _ _
  clear hgg
  have w0 := w.keep k0
  refine ro_kcall (cVAt v l b g0 w0 (m.next k0)) w0 (fun h1 k1 w1 => ?_)
  have lo1 := w1.1
  cases hx : itAt l b with
  | none =>
    have kf : ∀ c B, Keep h ((h1.alloc c).put h1.len B) := fun c B => ((k0.trans k1).alloc c).put (k0.trans k1).len B
    have hc : costP g l b = 0 := by unfold costP; rw [hx]
    rw [hc]
    simp (maxSteps := 10000000) (maxDischargeDepth := 30) only [lo1, itemZ, ItemR.e, Option.getD_none, Option.isSome_none, kf, go_sem, Nat.reduceEqDiff, ↓reduceIte, Nat.reduceAdd, Nat.reduceMul, Nat.reduceLeDiff, Nat.reduceLT, reduceCtorEq, Int.reduceToNat, Int.reduceLE, Int.reduceLT, Int.reduceEq, Int.reduceNeg, Int.reduceNe, Int.reducePow, Nat.reducePow, Nat.reduceSub, IntKind.bits]
  | some x =>
    obtain ⟨fx, fs⟩ := hf x hx
    simp (maxSteps := 10000000) (maxDischargeDepth := 30) only [lo1, ItemR.e, Option.getD_some, Option.isSome_some, go_sem, Nat.reduceEqDiff, ↓reduceIte, Nat.reduceAdd, Nat.reduceMul, Nat.reduceLeDiff, Nat.reduceLT, reduceCtorEq, Int.reduceToNat, Int.reduceLE, Int.reduceLT, Int.reduceEq, Int.reduceNeg, Int.reduceNe, Int.reducePow, Nat.reducePow, Nat.reduceSub, IntKind.bits]
    generalize hgg : H.put _ _ _ = q
    have kq : Keep h1 q := by rw [← hgg]; exact ((Keep.refl h1).alloc _).put (Nat.le_refl _) _
    have gi : q.get h1.len = some ⟨false, [.int .i64 x.k, .int .i64 x.h, .int .i64 x.f, .int .i64 x.str, .int .i64 x.ord, .int .i64 x.shr, .int .i64 x.n]⟩ := by rw [← hgg]; exact get_put_eq (by rw [len_alloc]; omega)
    clear hgg
    have K := (k0.trans k1).trans kq
    have wq := w.keep K
    have ggq := ((k1.trans kq).get (lt_of_get gg0)).trans gg0
    have mq := m.next K
    try (simp (maxSteps := 10000000) (maxDischargeDepth := 30) only [go_sem, Nat.reduceEqDiff, ↓reduceIte, Nat.reduceAdd, Nat.reduceMul, Nat.reduceLeDiff, Nat.reduceLT, reduceCtorEq, Int.reduceToNat, Int.reduceLE, Int.reduceLT, Int.reduceEq, Int.reduceNeg, Int.reduceNe, Int.reducePow, Nat.reducePow, Nat.reduceSub, IntKind.bits])
    refine ro_kcall (cVMay v l b hl q wq mq) wq (fun h2 k2 w2 => ?_)
    have K2 := K.trans k2
    have gi2 := (k2.get (lt_of_get gi)).trans gi
    have gg2 := (k2.get (lt_of_get ggq)).trans ggq
    have m2 := mq.next k2
    cases hm : mayV l b
    · have hc : costP g l b = 0 := by unfold costP; rw [hx]; simp [hm]
      rw [hc]
      simp (maxSteps := 10000000) (maxDischargeDepth := 30) only [K2, go_sem, Nat.reduceEqDiff, ↓reduceIte, Nat.reduceAdd, Nat.reduceMul, Nat.reduceLeDiff, Nat.reduceLT, reduceCtorEq, Int.reduceToNat, Int.reduceLE, Int.reduceLT, Int.reduceEq, Int.reduceNeg, Int.reduceNe, Int.reducePow, Nat.reducePow, Nat.reduceSub, IntKind.bits]
    simp (maxSteps := 10000000) (maxDischargeDepth := 30) only [gi2, go_sem, Nat.reduceEqDiff, ↓reduceIte, Nat.reduceAdd, Nat.reduceMul, Nat.reduceLeDiff, Nat.reduceLT, reduceCtorEq, Int.reduceToNat, Int.reduceLE, Int.reduceLT, Int.reduceEq, Int.reduceNeg, Int.reduceNe, Int.reducePow, Nat.reducePow, Nat.reduceSub, IntKind.bits]
    refine ro_kcall (cItForces x h2) w2 (fun h3 k3 w3 => ?_)
    have K3 := K2.trans k3
    have gi3 := (k3.get (lt_of_get gi2)).trans gi2
    have gg3 := (k3.get (lt_of_get gg2)).trans gg2
    have m3 := m2.next k3
    cases hfo : forcesR x
    rotate_left
    · have hc : costP g l b = 0 := by unfold costP; rw [hx]; simp [hm, hfo]
      rw [hc]
      simp (maxSteps := 10000000) (maxDischargeDepth := 30) only [K3, go_sem, Nat.reduceEqDiff, ↓reduceIte, Nat.reduceAdd, Nat.reduceMul, Nat.reduceLeDiff, Nat.reduceLT, reduceCtorEq, Int.reduceToNat, Int.reduceLE, Int.reduceLT, Int.reduceEq, Int.reduceNeg, Int.reduceNe, Int.reducePow, Nat.reducePow, Nat.reduceSub, IntKind.bits]
    by_cases c3 : x.k = 3
    · simp (maxSteps := 10000000) (maxDischargeDepth := 30) only [gi3, eq_true c3, go_sem, Nat.reduceEqDiff, ↓reduceIte, Nat.reduceAdd, Nat.reduceMul, Nat.reduceLeDiff, Nat.reduceLT, reduceCtorEq, Int.reduceToNat, Int.reduceLE, Int.reduceLT, Int.reduceEq, Int.reduceNeg, Int.reduceNe, Int.reducePow, Nat.reducePow, Nat.reduceSub, IntKind.bits]
      refine ro_kcall (cPaClub v l b hl h3 w3 m3) w3 (fun h4 k4 w4 => ?_)
      have K4 := K3.trans k4
      have gg4 := (k4.get (lt_of_get gg3)).trans gg3
      have m4 := m3.next k4
      cases hcl : clubP l b
      · simp (maxSteps := 10000000) (maxDischargeDepth := 30) only [go_sem, Nat.reduceEqDiff, ↓reduceIte, Nat.reduceAdd, Nat.reduceMul, Nat.reduceLeDiff, Nat.reduceLT, reduceCtorEq, Int.reduceToNat, Int.reduceLE, Int.reduceLT, Int.reduceEq, Int.reduceNeg, Int.reduceNe, Int.reducePow, Nat.reducePow, Nat.reduceSub, IntKind.bits]
        refine ro_kcall (cPaWidow v l b hl h4 w4 m4) w4 (fun h5 k5 w5 => ?_)
        have K5 := K4.trans k5
        have gg5 := (k5.get (lt_of_get gg4)).trans gg4
        cases hwi : widowP l b
        · have hc : costP g l b = max x.n 0 := by unfold costP; rw [hx]; simp [hm, hfo, c3, hcl, hwi]
          rw [hc]
          simp (maxSteps := 10000000) (maxDischargeDepth := 30) only [K5, go_sem, Nat.reduceEqDiff, ↓reduceIte, Nat.reduceAdd, Nat.reduceMul, Nat.reduceLeDiff, Nat.reduceLT, reduceCtorEq, Int.reduceToNat, Int.reduceLE, Int.reduceLT, Int.reduceEq, Int.reduceNeg, Int.reduceNe, Int.reducePow, Nat.reducePow, Nat.reduceSub, IntKind.bits]
        · have hc : costP g l b = max x.n 0 + max g.c14 0 := by unfold costP; rw [hx]; simp [hm, hfo, c3, hcl, hwi]
          rw [hc]
          have fs1 : x.n ≤ 1099511627776 ∧ g.c13 ≤ 1099511627776 ∧ g.c14 ≤ 1099511627776 := by
            rcases fs with q | q
            · exact q
            · rw [hwi] at q; cases q.2
          have ew : IntKind.i64.wrap (max x.n 0 + max g.c14 0) = max x.n 0 + max g.c14 0 := wrap64 (by omega) (by omega)
          simp (maxSteps := 10000000) (maxDischargeDepth := 30) only [gg5, ew, K5, go_sem, Nat.reduceEqDiff, ↓reduceIte, Nat.reduceAdd, Nat.reduceMul, Nat.reduceLeDiff, Nat.reduceLT, reduceCtorEq, Int.reduceToNat, Int.reduceLE, Int.reduceLT, Int.reduceEq, Int.reduceNeg, Int.reduceNe, Int.reducePow, Nat.reducePow, Nat.reduceSub, IntKind.bits]
      · have fs1 : x.n ≤ 1099511627776 ∧ g.c13 ≤ 1099511627776 ∧ g.c14 ≤ 1099511627776 := by
          rcases fs with q | q
          · exact q
          · rw [hcl] at q; cases q.1
        have ew : IntKind.i64.wrap (max x.n 0 + max g.c13 0) = max x.n 0 + max g.c13 0 := wrap64 (by omega) (by omega)
        simp (maxSteps := 10000000) (maxDischargeDepth := 30) only [gg4, ew, go_sem, Nat.reduceEqDiff, ↓reduceIte, Nat.reduceAdd, Nat.reduceMul, Nat.reduceLeDiff, Nat.reduceLT, reduceCtorEq, Int.reduceToNat, Int.reduceLE, Int.reduceLT, Int.reduceEq, Int.reduceNeg, Int.reduceNe, Int.reducePow, Nat.reducePow, Nat.reduceSub, IntKind.bits]
        refine ro_kcall (cPaWidow v l b hl h4 w4 m4) w4 (fun h5 k5 w5 => ?_)
        have K5 := K4.trans k5
        have gg5 := (k5.get (lt_of_get gg4)).trans gg4
        cases hwi : widowP l b
        · have hc : costP g l b = max x.n 0 + max g.c13 0 := by unfold costP; rw [hx]; simp [hm, hfo, c3, hcl, hwi]
          rw [hc]
          simp (maxSteps := 10000000) (maxDischargeDepth := 30) only [K5, go_sem, Nat.reduceEqDiff, ↓reduceIte, Nat.reduceAdd, Nat.reduceMul, Nat.reduceLeDiff, Nat.reduceLT, reduceCtorEq, Int.reduceToNat, Int.reduceLE, Int.reduceLT, Int.reduceEq, Int.reduceNeg, Int.reduceNe, Int.reducePow, Nat.reducePow, Nat.reduceSub, IntKind.bits]
        · have hc : costP g l b = max x.n 0 + max g.c13 0 + max g.c14 0 := by unfold costP; rw [hx]; simp [hm, hfo, c3, hcl, hwi]
          rw [hc]
          have ew2 : IntKind.i64.wrap (max x.n 0 + max g.c13 0 + max g.c14 0) = max x.n 0 + max g.c13 0 + max g.c14 0 := wrap64 (by omega) (by omega)
          simp (maxSteps := 10000000) (maxDischargeDepth := 30) only [gg5, ew2, K5, go_sem, Nat.reduceEqDiff, ↓reduceIte, Nat.reduceAdd, Nat.reduceMul, Nat.reduceLeDiff, Nat.reduceLT, reduceCtorEq, Int.reduceToNat, Int.reduceLE, Int.reduceLT, Int.reduceEq, Int.reduceNeg, Int.reduceNe, Int.reducePow, Nat.reducePow, Nat.reduceSub, IntKind.bits]
    · simp (maxSteps := 10000000) (maxDischargeDepth := 30) only [gi3, eq_false c3, go_sem, Nat.reduceEqDiff, ↓reduceIte, Nat.reduceAdd, Nat.reduceMul, Nat.reduceLeDiff, Nat.reduceLT, reduceCtorEq, Int.reduceToNat, Int.reduceLE, Int.reduceLT, Int.reduceEq, Int.reduceNeg, Int.reduceNe, Int.reducePow, Nat.reducePow, Nat.reduceSub, IntKind.bits]
      refine ro_kcall (cPaClub v l b hl h3 w3 m3) w3 (fun h4 k4 w4 => ?_)
      have K4 := K3.trans k4
      have gg4 := (k4.get (lt_of_get gg3)).trans gg3
      have m4 := m3.next k4
      cases hcl : clubP l b
      · simp (maxSteps := 10000000) (maxDischargeDepth := 30) only [go_sem, Nat.reduceEqDiff, ↓reduceIte, Nat.reduceAdd, Nat.reduceMul, Nat.reduceLeDiff, Nat.reduceLT, reduceCtorEq, Int.reduceToNat, Int.reduceLE, Int.reduceLT, Int.reduceEq, Int.reduceNeg, Int.reduceNe, Int.reducePow, Nat.reducePow, Nat.reduceSub, IntKind.bits]
        refine ro_kcall (cPaWidow v l b hl h4 w4 m4) w4 (fun h5 k5 w5 => ?_)
        have K5 := K4.trans k5
        have gg5 := (k5.get (lt_of_get gg4)).trans gg4
        cases hwi : widowP l b
        · have hc : costP g l b = 0 := by unfold costP; rw [hx]; simp [hm, hfo, c3, hcl, hwi]
          rw [hc]
          simp (maxSteps := 10000000) (maxDischargeDepth := 30) only [K5, go_sem, Nat.reduceEqDiff, ↓reduceIte, Nat.reduceAdd, Nat.reduceMul, Nat.reduceLeDiff, Nat.reduceLT, reduceCtorEq, Int.reduceToNat, Int.reduceLE, Int.reduceLT, Int.reduceEq, Int.reduceNeg, Int.reduceNe, Int.reducePow, Nat.reducePow, Nat.reduceSub, IntKind.bits]
        · have hc : costP g l b = max g.c14 0 := by unfold costP; rw [hx]; simp [hm, hfo, c3, hcl, hwi]
          rw [hc]
          have fs1 : x.n ≤ 1099511627776 ∧ g.c13 ≤ 1099511627776 ∧ g.c14 ≤ 1099511627776 := by
            rcases fs with q | q
            · exact q
            · rw [hwi] at q; cases q.2
          have ew : IntKind.i64.wrap (max g.c14 0) = max g.c14 0 := wrap64 (by omega) (by omega)
          simp (maxSteps := 10000000) (maxDischargeDepth := 30) only [gg5, ew, K5, go_sem, Nat.reduceEqDiff, ↓reduceIte, Nat.reduceAdd, Nat.reduceMul, Nat.reduceLeDiff, Nat.reduceLT, reduceCtorEq, Int.reduceToNat, Int.reduceLE, Int.reduceLT, Int.reduceEq, Int.reduceNeg, Int.reduceNe, Int.reducePow, Nat.reducePow, Nat.reduceSub, IntKind.bits]
      · have fs1 : x.n ≤ 1099511627776 ∧ g.c13 ≤ 1099511627776 ∧ g.c14 ≤ 1099511627776 := by
          rcases fs with q | q
          · exact q
          · rw [hcl] at q; cases q.1
        have ew : IntKind.i64.wrap (max g.c13 0) = max g.c13 0 := wrap64 (by omega) (by omega)
        simp (maxSteps := 10000000) (maxDischargeDepth := 30) only [gg4, ew, go_sem, Nat.reduceEqDiff, ↓reduceIte, Nat.reduceAdd, Nat.reduceMul, Nat.reduceLeDiff, Nat.reduceLT, reduceCtorEq, Int.reduceToNat, Int.reduceLE, Int.reduceLT, Int.reduceEq, Int.reduceNeg, Int.reduceNe, Int.reducePow, Nat.reducePow, Nat.reduceSub, IntKind.bits]
        refine ro_kcall (cPaWidow v l b hl h4 w4 m4) w4 (fun h5 k5 w5 => ?_)
        have K5 := K4.trans k5
        have gg5 := (k5.get (lt_of_get gg4)).trans gg4
        cases hwi : widowP l b
        · have hc : costP g l b = max g.c13 0 := by unfold costP; rw [hx]; simp [hm, hfo, c3, hcl, hwi]
          rw [hc]
          simp (maxSteps := 10000000) (maxDischargeDepth := 30) only [K5, go_sem, Nat.reduceEqDiff, ↓reduceIte, Nat.reduceAdd, Nat.reduceMul, Nat.reduceLeDiff, Nat.reduceLT, reduceCtorEq, Int.reduceToNat, Int.reduceLE, Int.reduceLT, Int.reduceEq, Int.reduceNeg, Int.reduceNe, Int.reducePow, Nat.reducePow, Nat.reduceSub, IntKind.bits]
        · have hc : costP g l b = max g.c13 0 + max g.c14 0 := by unfold costP; rw [hx]; simp [hm, hfo, c3, hcl, hwi]
          rw [hc]
          have ew2 : IntKind.i64.wrap (max g.c13 0 + max g.c14 0) = max g.c13 0 + max g.c14 0 := wrap64 (by omega) (by omega)
          simp (maxSteps := 10000000) (maxDischargeDepth := 30) only [gg5, ew2, K5, go_sem, Nat.reduceEqDiff, ↓reduceIte, Nat.reduceAdd, Nat.reduceMul, Nat.reduceLeDiff, Nat.reduceLT, reduceCtorEq, Int.reduceToNat, Int.reduceLE, Int.reduceLT, Int.reduceEq, Int.reduceNeg, Int.reduceNe, Int.reducePow, Nat.reducePow, Nat.reduceSub, IntKind.bits]
end Go.LM
