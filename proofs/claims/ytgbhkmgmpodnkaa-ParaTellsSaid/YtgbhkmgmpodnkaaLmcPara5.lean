import Derived.Test.YtgbhkmgmpodnkaaLmTrcR1
import Derived.Test.YtgbhkmgmpodnkaaLmcPara4
namespace Go.LM
open Go.Proofs
set_option maxRecDepth 8000
set_option maxHeartbeats 8000000
set_option linter.unusedSimpArgs false

theorem may_range {l : List ItemR} {b : Int} (h : mayV l b = true) : 1 ≤ b ∧ b ≤ l.length := by
  unfold mayV at h
  split at h
  · cases h
  · omega
theorem cROf20 (g : GeomR) (o : Option (Nat × Nat)) (l : List ItemR) (b : Int) (hl : l.length ≤ 1000) (hf : Fits g l b) (h : H) (w : WF h) :
    runI Try.prog TA 19 [g.e, mkS o 7 (l.map ItemR.e), .int .i64 b] h = some (.int .i64 (costP g l b), hp Try.prog TA 19 [g.e, mkS o 7 (l.map ItemR.e), .int .i64 b] h) := by
  refine pure_of rfl res19 rfl ?_
  simp (maxSteps := 10000000) (maxDischargeDepth := 30) only [q19, r19, GeomR.e, GeomR.cells, go_sem, Nat.reduceEqDiff, ↓reduceIte, Nat.reduceAdd, Nat.reduceMul, Nat.reduceLeDiff, Nat.reduceLT, reduceCtorEq, Int.reduceToNat, Int.reduceLE, Int.reduceLT, Int.reduceEq, Int.reduceNeg, Int.reduceNe, Int.reducePow, Nat.reducePow, Nat.reduceSub, IntKind.bits]
  generalize hgg : H.alloc _ _ = g0
  have k0 : Keep h g0 := by rw [← hgg]; exact (Keep.refl h).alloc _
  have gg0 : g0.get h.len = some ⟨false, [.int .i64 g.c0, .int .i64 g.c1, .int .i64 g.c2, .int .i64 g.c3, .int .i64 g.c4, .int .i64 g.c5, .int .i64 g.c6, .int .i64 g.c7, .int .i64 g.c8, .int .i64 g.c9, .int .i64 g.c10, .int .i64 g.c11, .int .i64 g.c12, .int .i64 g.c13, .int .i64 g.c14, .int .i64 g.c15, .int .i64 g.c16, .int .i64 g.c17, .bool g.bal]⟩ := by rw [← hgg]; exact get_alloc_eq _ _
  clear hgg
  have w0 := w.keep k0
  have ec : max 0 g.c13 = max g.c13 0 := by omega
  have ec2 : max 0 g.c14 = max g.c14 0 := by omega
  try (simp (maxSteps := 10000000) (maxDischargeDepth := 30) only [go_sem, Nat.reduceEqDiff, ↓reduceIte, Nat.reduceAdd, Nat.reduceMul, Nat.reduceLeDiff, Nat.reduceLT, reduceCtorEq, Int.reduceToNat, Int.reduceLE, Int.reduceLT, Int.reduceEq, Int.reduceNeg, Int.reduceNe, Int.reducePow, Nat.reducePow, Nat.reduceSub, IntKind.bits])
  refine ro_kcall (cRMay18 o l b hl g0 w0) w0 (fun h1 k1 w1 => ?_)
  have K1 := k0.trans k1
  have gg1 := (k1.get (lt_of_get gg0)).trans gg0
  cases hm : mayV l b
  · have hc : costP g l b = 0 := by
      unfold costP
      cases itAt l b with
      | none => rfl
      | some x => simp [hm]
    rw [hc]
    simp (maxSteps := 10000000) (maxDischargeDepth := 30) only [K1, go_sem, Nat.reduceEqDiff, ↓reduceIte, Nat.reduceAdd, Nat.reduceMul, Nat.reduceLeDiff, Nat.reduceLT, reduceCtorEq, Int.reduceToNat, Int.reduceLE, Int.reduceLT, Int.reduceEq, Int.reduceNeg, Int.reduceNe, Int.reducePow, Nat.reducePow, Nat.reduceSub, IntKind.bits]
  obtain ⟨b1, b2⟩ := may_range hm
  by_cases c1 : b = l.length
  · have hc : costP g l b = 0 := by unfold costP; rw [itAt_end (by omega)]
    rw [hc]
    simp (maxSteps := 10000000) (maxDischargeDepth := 30) only [List.length_map, eq_true c1, K1, go_sem, Nat.reduceEqDiff, ↓reduceIte, Nat.reduceAdd, Nat.reduceMul, Nat.reduceLeDiff, Nat.reduceLT, reduceCtorEq, Int.reduceToNat, Int.reduceLE, Int.reduceLT, Int.reduceEq, Int.reduceNeg, Int.reduceNe, Int.reducePow, Nat.reducePow, Nat.reduceSub, IntKind.bits]
  obtain ⟨x, hx⟩ := itAt_in (l := l) (n := b) (by omega) (by omega)
  obtain ⟨fx, fs⟩ := hf x hx
  have ia := item_atV hx
  simp (maxSteps := 10000000) (maxDischargeDepth := 30) only [List.length_map, eq_false c1, go_sem, Nat.reduceEqDiff, ↓reduceIte, Nat.reduceAdd, Nat.reduceMul, Nat.reduceLeDiff, Nat.reduceLT, reduceCtorEq, Int.reduceToNat, Int.reduceLE, Int.reduceLT, Int.reduceEq, Int.reduceNeg, Int.reduceNe, Int.reducePow, Nat.reducePow, Nat.reduceSub, IntKind.bits]
  refine ro_kcall (cRMust18 o l b x b1 hx h1) w1 (fun h3 k3 w3 => ?_)
  have K3 := K1.trans k3
  have gg3 := (k3.get (lt_of_get gg1)).trans gg1
  cases hfo : forcesR x
  rotate_left
  · have hc : costP g l b = 0 := by unfold costP; rw [hx]; simp [hm, hfo]
    rw [hc]
    simp (maxSteps := 10000000) (maxDischargeDepth := 30) only [K3, go_sem, Nat.reduceEqDiff, ↓reduceIte, Nat.reduceAdd, Nat.reduceMul, Nat.reduceLeDiff, Nat.reduceLT, reduceCtorEq, Int.reduceToNat, Int.reduceLE, Int.reduceLT, Int.reduceEq, Int.reduceNeg, Int.reduceNe, Int.reducePow, Nat.reducePow, Nat.reduceSub, IntKind.bits]
  by_cases c3 : x.k = 3
  · by_cases c4 : 0 < x.n
    · have en : max x.n 0 = x.n := by omega
      simp (maxSteps := 10000000) (maxDischargeDepth := 30) only [ia, ItemR.e, eq_true c3, c4, go_sem, Nat.reduceEqDiff, ↓reduceIte, Nat.reduceAdd, Nat.reduceMul, Nat.reduceLeDiff, Nat.reduceLT, reduceCtorEq, Int.reduceToNat, Int.reduceLE, Int.reduceLT, Int.reduceEq, Int.reduceNeg, Int.reduceNe, Int.reducePow, Nat.reducePow, Nat.reduceSub, IntKind.bits]
      refine ro_kcall (cRClub20 o l b hl h3 w3) w3 (fun h4 k4 w4 => ?_)
      have K4 := K3.trans k4
      have gg4 := (k4.get (lt_of_get gg3)).trans gg3
      cases hcl : clubP l b
      · simp (maxSteps := 10000000) (maxDischargeDepth := 30) only [go_sem, Nat.reduceEqDiff, ↓reduceIte, Nat.reduceAdd, Nat.reduceMul, Nat.reduceLeDiff, Nat.reduceLT, reduceCtorEq, Int.reduceToNat, Int.reduceLE, Int.reduceLT, Int.reduceEq, Int.reduceNeg, Int.reduceNe, Int.reducePow, Nat.reducePow, Nat.reduceSub, IntKind.bits]
        refine ro_kcall (cRWidow20 o l b hl h4 w4) w4 (fun h5 k5 w5 => ?_)
        have K5 := K4.trans k5
        have gg5 := (k5.get (lt_of_get gg4)).trans gg4
        cases hwi : widowP l b
        · have hc : costP g l b = x.n := by unfold costP; rw [hx]; simp [hm, hfo, c3, hcl, hwi, en]
          rw [hc]
          simp (maxSteps := 10000000) (maxDischargeDepth := 30) only [K5, go_sem, Nat.reduceEqDiff, ↓reduceIte, Nat.reduceAdd, Nat.reduceMul, Nat.reduceLeDiff, Nat.reduceLT, reduceCtorEq, Int.reduceToNat, Int.reduceLE, Int.reduceLT, Int.reduceEq, Int.reduceNeg, Int.reduceNe, Int.reducePow, Nat.reducePow, Nat.reduceSub, IntKind.bits]
        · have hc : costP g l b = x.n + max g.c14 0 := by unfold costP; rw [hx]; simp [hm, hfo, c3, hcl, hwi, en]
          rw [hc]
          have fs1 : x.n ≤ 1099511627776 ∧ g.c13 ≤ 1099511627776 ∧ g.c14 ≤ 1099511627776 := by
            rcases fs with q | q
            · exact q
            · rw [hwi] at q; cases q.2
          have ew : IntKind.i64.wrap (x.n + max g.c14 0) = x.n + max g.c14 0 := wrap64 (by omega) (by omega)
          simp (maxSteps := 10000000) (maxDischargeDepth := 30) only [gg5, ec, ec2, ew, K5, go_sem, Nat.reduceEqDiff, ↓reduceIte, Nat.reduceAdd, Nat.reduceMul, Nat.reduceLeDiff, Nat.reduceLT, reduceCtorEq, Int.reduceToNat, Int.reduceLE, Int.reduceLT, Int.reduceEq, Int.reduceNeg, Int.reduceNe, Int.reducePow, Nat.reducePow, Nat.reduceSub, IntKind.bits]
      · have fs1 : x.n ≤ 1099511627776 ∧ g.c13 ≤ 1099511627776 ∧ g.c14 ≤ 1099511627776 := by
          rcases fs with q | q
          · exact q
          · rw [hcl] at q; cases q.1
        have ew : IntKind.i64.wrap (x.n + max g.c13 0) = x.n + max g.c13 0 := wrap64 (by omega) (by omega)
        simp (maxSteps := 10000000) (maxDischargeDepth := 30) only [gg4, ec, ec2, ew, go_sem, Nat.reduceEqDiff, ↓reduceIte, Nat.reduceAdd, Nat.reduceMul, Nat.reduceLeDiff, Nat.reduceLT, reduceCtorEq, Int.reduceToNat, Int.reduceLE, Int.reduceLT, Int.reduceEq, Int.reduceNeg, Int.reduceNe, Int.reducePow, Nat.reducePow, Nat.reduceSub, IntKind.bits]
        refine ro_kcall (cRWidow20 o l b hl h4 w4) w4 (fun h5 k5 w5 => ?_)
        have K5 := K4.trans k5
        have gg5 := (k5.get (lt_of_get gg4)).trans gg4
        cases hwi : widowP l b
        · have hc : costP g l b = x.n + max g.c13 0 := by unfold costP; rw [hx]; simp [hm, hfo, c3, hcl, hwi, en]
          rw [hc]
          simp (maxSteps := 10000000) (maxDischargeDepth := 30) only [K5, go_sem, Nat.reduceEqDiff, ↓reduceIte, Nat.reduceAdd, Nat.reduceMul, Nat.reduceLeDiff, Nat.reduceLT, reduceCtorEq, Int.reduceToNat, Int.reduceLE, Int.reduceLT, Int.reduceEq, Int.reduceNeg, Int.reduceNe, Int.reducePow, Nat.reducePow, Nat.reduceSub, IntKind.bits]
        · have hc : costP g l b = x.n + max g.c13 0 + max g.c14 0 := by unfold costP; rw [hx]; simp [hm, hfo, c3, hcl, hwi, en]
          rw [hc]
          have ew2 : IntKind.i64.wrap (x.n + max g.c13 0 + max g.c14 0) = x.n + max g.c13 0 + max g.c14 0 := wrap64 (by omega) (by omega)
          simp (maxSteps := 10000000) (maxDischargeDepth := 30) only [gg5, ec, ec2, ew2, K5, go_sem, Nat.reduceEqDiff, ↓reduceIte, Nat.reduceAdd, Nat.reduceMul, Nat.reduceLeDiff, Nat.reduceLT, reduceCtorEq, Int.reduceToNat, Int.reduceLE, Int.reduceLT, Int.reduceEq, Int.reduceNeg, Int.reduceNe, Int.reducePow, Nat.reducePow, Nat.reduceSub, IntKind.bits]
    · have en : max x.n 0 = 0 := by omega
      simp (maxSteps := 10000000) (maxDischargeDepth := 30) only [ia, ItemR.e, eq_true c3, c4, go_sem, Nat.reduceEqDiff, ↓reduceIte, Nat.reduceAdd, Nat.reduceMul, Nat.reduceLeDiff, Nat.reduceLT, reduceCtorEq, Int.reduceToNat, Int.reduceLE, Int.reduceLT, Int.reduceEq, Int.reduceNeg, Int.reduceNe, Int.reducePow, Nat.reducePow, Nat.reduceSub, IntKind.bits]
      refine ro_kcall (cRClub20 o l b hl h3 w3) w3 (fun h4 k4 w4 => ?_)
      have K4 := K3.trans k4
      have gg4 := (k4.get (lt_of_get gg3)).trans gg3
      cases hcl : clubP l b
      · simp (maxSteps := 10000000) (maxDischargeDepth := 30) only [go_sem, Nat.reduceEqDiff, ↓reduceIte, Nat.reduceAdd, Nat.reduceMul, Nat.reduceLeDiff, Nat.reduceLT, reduceCtorEq, Int.reduceToNat, Int.reduceLE, Int.reduceLT, Int.reduceEq, Int.reduceNeg, Int.reduceNe, Int.reducePow, Nat.reducePow, Nat.reduceSub, IntKind.bits]
        refine ro_kcall (cRWidow20 o l b hl h4 w4) w4 (fun h5 k5 w5 => ?_)
        have K5 := K4.trans k5
        have gg5 := (k5.get (lt_of_get gg4)).trans gg4
        cases hwi : widowP l b
        · have hc : costP g l b = 0 := by unfold costP; rw [hx]; simp [hm, hfo, c3, hcl, hwi, en]
          rw [hc]
          simp (maxSteps := 10000000) (maxDischargeDepth := 30) only [K5, go_sem, Nat.reduceEqDiff, ↓reduceIte, Nat.reduceAdd, Nat.reduceMul, Nat.reduceLeDiff, Nat.reduceLT, reduceCtorEq, Int.reduceToNat, Int.reduceLE, Int.reduceLT, Int.reduceEq, Int.reduceNeg, Int.reduceNe, Int.reducePow, Nat.reducePow, Nat.reduceSub, IntKind.bits]
        · have hc : costP g l b = max g.c14 0 := by unfold costP; rw [hx]; simp [hm, hfo, c3, hcl, hwi, en]
          rw [hc]
          have fs1 : x.n ≤ 1099511627776 ∧ g.c13 ≤ 1099511627776 ∧ g.c14 ≤ 1099511627776 := by
            rcases fs with q | q
            · exact q
            · rw [hwi] at q; cases q.2
          have ew : IntKind.i64.wrap (max g.c14 0) = max g.c14 0 := wrap64 (by omega) (by omega)
          simp (maxSteps := 10000000) (maxDischargeDepth := 30) only [gg5, ec, ec2, ew, K5, go_sem, Nat.reduceEqDiff, ↓reduceIte, Nat.reduceAdd, Nat.reduceMul, Nat.reduceLeDiff, Nat.reduceLT, reduceCtorEq, Int.reduceToNat, Int.reduceLE, Int.reduceLT, Int.reduceEq, Int.reduceNeg, Int.reduceNe, Int.reducePow, Nat.reducePow, Nat.reduceSub, IntKind.bits]
      · have fs1 : x.n ≤ 1099511627776 ∧ g.c13 ≤ 1099511627776 ∧ g.c14 ≤ 1099511627776 := by
          rcases fs with q | q
          · exact q
          · rw [hcl] at q; cases q.1
        have ew : IntKind.i64.wrap (max g.c13 0) = max g.c13 0 := wrap64 (by omega) (by omega)
        simp (maxSteps := 10000000) (maxDischargeDepth := 30) only [gg4, ec, ec2, ew, go_sem, Nat.reduceEqDiff, ↓reduceIte, Nat.reduceAdd, Nat.reduceMul, Nat.reduceLeDiff, Nat.reduceLT, reduceCtorEq, Int.reduceToNat, Int.reduceLE, Int.reduceLT, Int.reduceEq, Int.reduceNeg, Int.reduceNe, Int.reducePow, Nat.reducePow, Nat.reduceSub, IntKind.bits]
        refine ro_kcall (cRWidow20 o l b hl h4 w4) w4 (fun h5 k5 w5 => ?_)
        have K5 := K4.trans k5
        have gg5 := (k5.get (lt_of_get gg4)).trans gg4
        cases hwi : widowP l b
        · have hc : costP g l b = max g.c13 0 := by unfold costP; rw [hx]; simp [hm, hfo, c3, hcl, hwi, en]
          rw [hc]
          simp (maxSteps := 10000000) (maxDischargeDepth := 30) only [K5, go_sem, Nat.reduceEqDiff, ↓reduceIte, Nat.reduceAdd, Nat.reduceMul, Nat.reduceLeDiff, Nat.reduceLT, reduceCtorEq, Int.reduceToNat, Int.reduceLE, Int.reduceLT, Int.reduceEq, Int.reduceNeg, Int.reduceNe, Int.reducePow, Nat.reducePow, Nat.reduceSub, IntKind.bits]
        · have hc : costP g l b = max g.c13 0 + max g.c14 0 := by unfold costP; rw [hx]; simp [hm, hfo, c3, hcl, hwi, en]
          rw [hc]
          have ew2 : IntKind.i64.wrap (max g.c13 0 + max g.c14 0) = max g.c13 0 + max g.c14 0 := wrap64 (by omega) (by omega)
          simp (maxSteps := 10000000) (maxDischargeDepth := 30) only [gg5, ec, ec2, ew2, K5, go_sem, Nat.reduceEqDiff, ↓reduceIte, Nat.reduceAdd, Nat.reduceMul, Nat.reduceLeDiff, Nat.reduceLT, reduceCtorEq, Int.reduceToNat, Int.reduceLE, Int.reduceLT, Int.reduceEq, Int.reduceNeg, Int.reduceNe, Int.reducePow, Nat.reducePow, Nat.reduceSub, IntKind.bits]
  · have en : True := trivial
    simp (maxSteps := 10000000) (maxDischargeDepth := 30) only [ia, ItemR.e, eq_false c3, go_sem, Nat.reduceEqDiff, ↓reduceIte, Nat.reduceAdd, Nat.reduceMul, Nat.reduceLeDiff, Nat.reduceLT, reduceCtorEq, Int.reduceToNat, Int.reduceLE, Int.reduceLT, Int.reduceEq, Int.reduceNeg, Int.reduceNe, Int.reducePow, Nat.reducePow, Nat.reduceSub, IntKind.bits]
    refine ro_kcall (cRClub20 o l b hl h3 w3) w3 (fun h4 k4 w4 => ?_)
    have K4 := K3.trans k4
    have gg4 := (k4.get (lt_of_get gg3)).trans gg3
    cases hcl : clubP l b
    · simp (maxSteps := 10000000) (maxDischargeDepth := 30) only [go_sem, Nat.reduceEqDiff, ↓reduceIte, Nat.reduceAdd, Nat.reduceMul, Nat.reduceLeDiff, Nat.reduceLT, reduceCtorEq, Int.reduceToNat, Int.reduceLE, Int.reduceLT, Int.reduceEq, Int.reduceNeg, Int.reduceNe, Int.reducePow, Nat.reducePow, Nat.reduceSub, IntKind.bits]
      refine ro_kcall (cRWidow20 o l b hl h4 w4) w4 (fun h5 k5 w5 => ?_)
      have K5 := K4.trans k5
      have gg5 := (k5.get (lt_of_get gg4)).trans gg4
      cases hwi : widowP l b
      · have hc : costP g l b = 0 := by unfold costP; rw [hx]; simp [hm, hfo, c3, hcl, hwi]
        rw [hc]
        simp (maxSteps := 10000000) (maxDischargeDepth := 30) only [K5, go_sem, Nat.reduceEqDiff, ↓reduceIte, Nat.reduceAdd, Nat.reduceMul, Nat.reduceLeDiff, Nat.reduceLT, reduceCtorEq, Int.reduceToNat, Int.reduceLE, Int.reduceLT, Int.reduceEq, Int.reduceNeg, Int.reduceNe, Int.reducePow, Nat.reducePow, Nat.reduceSub, IntKind.bits]
      · have hc : costP g l b = max g.c14 0 := by unfold costP; rw [hx]; simp [hm, hfo, c3, hcl, hwi]
        rw [hc]
        have fs1 : x.n ≤ 1099511627776 ∧ g.c13 ≤ 1099511627776 ∧ g.c14 ≤ 1099511627776 := by
          rcases fs with q | q
          · exact q
          · rw [hwi] at q; cases q.2
        have ew : IntKind.i64.wrap (max g.c14 0) = max g.c14 0 := wrap64 (by omega) (by omega)
        simp (maxSteps := 10000000) (maxDischargeDepth := 30) only [gg5, ec, ec2, ew, K5, go_sem, Nat.reduceEqDiff, ↓reduceIte, Nat.reduceAdd, Nat.reduceMul, Nat.reduceLeDiff, Nat.reduceLT, reduceCtorEq, Int.reduceToNat, Int.reduceLE, Int.reduceLT, Int.reduceEq, Int.reduceNeg, Int.reduceNe, Int.reducePow, Nat.reducePow, Nat.reduceSub, IntKind.bits]
    · have fs1 : x.n ≤ 1099511627776 ∧ g.c13 ≤ 1099511627776 ∧ g.c14 ≤ 1099511627776 := by
        rcases fs with q | q
        · exact q
        · rw [hcl] at q; cases q.1
      have ew : IntKind.i64.wrap (max g.c13 0) = max g.c13 0 := wrap64 (by omega) (by omega)
      simp (maxSteps := 10000000) (maxDischargeDepth := 30) only [gg4, ec, ec2, ew, go_sem, Nat.reduceEqDiff, ↓reduceIte, Nat.reduceAdd, Nat.reduceMul, Nat.reduceLeDiff, Nat.reduceLT, reduceCtorEq, Int.reduceToNat, Int.reduceLE, Int.reduceLT, Int.reduceEq, Int.reduceNeg, Int.reduceNe, Int.reducePow, Nat.reducePow, Nat.reduceSub, IntKind.bits]
      refine ro_kcall (cRWidow20 o l b hl h4 w4) w4 (fun h5 k5 w5 => ?_)
      have K5 := K4.trans k5
      have gg5 := (k5.get (lt_of_get gg4)).trans gg4
      cases hwi : widowP l b
      · have hc : costP g l b = max g.c13 0 := by unfold costP; rw [hx]; simp [hm, hfo, c3, hcl, hwi]
        rw [hc]
        simp (maxSteps := 10000000) (maxDischargeDepth := 30) only [K5, go_sem, Nat.reduceEqDiff, ↓reduceIte, Nat.reduceAdd, Nat.reduceMul, Nat.reduceLeDiff, Nat.reduceLT, reduceCtorEq, Int.reduceToNat, Int.reduceLE, Int.reduceLT, Int.reduceEq, Int.reduceNeg, Int.reduceNe, Int.reducePow, Nat.reducePow, Nat.reduceSub, IntKind.bits]
      · have hc : costP g l b = max g.c13 0 + max g.c14 0 := by unfold costP; rw [hx]; simp [hm, hfo, c3, hcl, hwi]
        rw [hc]
        have ew2 : IntKind.i64.wrap (max g.c13 0 + max g.c14 0) = max g.c13 0 + max g.c14 0 := wrap64 (by omega) (by omega)
        simp (maxSteps := 10000000) (maxDischargeDepth := 30) only [gg5, ec, ec2, ew2, K5, go_sem, Nat.reduceEqDiff, ↓reduceIte, Nat.reduceAdd, Nat.reduceMul, Nat.reduceLeDiff, Nat.reduceLT, reduceCtorEq, Int.reduceToNat, Int.reduceLE, Int.reduceLT, Int.reduceEq, Int.reduceNeg, Int.reduceNe, Int.reducePow, Nat.reducePow, Nat.reduceSub, IntKind.bits]

def IPT (o o2 : Option (Nat × Nat)) (l : List ItemR) (g : GeomR) (b : Int) (P : ItemR → Prop) (u : Nat) (i : Nat) (s : S) (hh : H) : Prop :=
  s 1 = mkS o 7 (l.map ItemR.e) ∧ s 2 = .int .i64 b ∧ s 3 = .ptr u 0 ∧ s 7 = .int .i64 i ∧ i ≤ l.length ∧ (∀ x ∈ l.take i, P x) ∧ hh.get u = some ⟨false, [.int .i64 g.c0, .int .i64 g.c1, .int .i64 g.c2, .int .i64 g.c3, .int .i64 g.c4, .int .i64 g.c5, .int .i64 g.c6, .int .i64 g.c7, .int .i64 g.c8, .int .i64 g.c9, .int .i64 g.c10, .int .i64 g.c11, .int .i64 g.c12, .int .i64 g.c13, .int .i64 g.c14, .int .i64 g.c15, .int .i64 g.c16, .int .i64 g.c17, .bool g.bal]⟩ ∧ WF hh
def Small (x : ItemR) : Prop := x.n ≤ 1099511627776
theorem fits_small {g : GeomR} {l : List ItemR} {b : Int} (h : ∀ x ∈ l, Small x) (h1 : g.c13 ≤ 1099511627776) (h2 : g.c14 ≤ 1099511627776) : Fits g l b := by
  intro x hx
  obtain ⟨-, -, h3⟩ := itAt_some hx
  have := h x (List.mem_of_getElem? h3)
  unfold Small at this
  exact ⟨by omega, .inl ⟨this, h1, h2⟩⟩
end Go.LM
