import Derived.Test.YtmanbekgnooocaaLmaGeom
namespace Go.LM
open Go.Proofs
set_option maxRecDepth 4000
set_option maxHeartbeats 4000000
set_option linter.unusedSimpArgs false


def GL1 (g : Geo) (m n : Nat) (x : H) (i : Nat) (s : S) (hh : H) : Prop :=
  s 1 = .ptr m 0 ∧ s 3 = .ptr n 0 ∧ s 4 = .int .i64 i ∧ x = hh ∧ i ≤ 3 ∧ (i ≤ 0 ∨ 1 ≤ g.wide ∧ g.wide ≤ 1073741823) ∧ (i ≤ 1 ∨ 1 ≤ g.high ∧ g.high ≤ 1073741823) ∧ (i ≤ 2 ∨ 1 ≤ g.first ∧ g.first ≤ 1073741823)

def GL2 (g : Geo) (m n : Nat) (x : H) (i : Nat) (s : S) (hh : H) : Prop :=
  s 1 = .ptr m 0 ∧ s 5 = .ptr n 0 ∧ s 6 = .int .i64 i ∧ x = hh ∧ i ≤ 7 ∧ (i ≤ 0 ∨ 0 ≤ g.gap ∧ g.gap ≤ 1073741823) ∧ (i ≤ 1 ∨ 0 ≤ g.rule ∧ g.rule ≤ 1073741823) ∧ (i ≤ 2 ∨ 0 ≤ g.sep ∧ g.sep ≤ 1073741823) ∧ (i ≤ 3 ∨ 0 ≤ g.noteMost ∧ g.noteMost ≤ 1073741823) ∧ (i ≤ 4 ∨ 0 ≤ g.topMost ∧ g.topMost ≤ 1073741823) ∧ (i ≤ 5 ∨ 0 ≤ g.botMost ∧ g.botMost ≤ 1073741823) ∧ (i ≤ 6 ∨ 0 ≤ g.grid ∧ g.grid ≤ 1073741823)

def GL3 (g : Geo) (m n : Nat) (x : H) (i : Nat) (s : S) (hh : H) : Prop :=
  s 1 = .ptr m 0 ∧ s 7 = .ptr n 0 ∧ s 8 = .int .i64 i ∧ x = hh ∧ i ≤ 7 ∧ (i ≤ 0 ∨ 0 ≤ g.topMany ∧ g.topMany ≤ 1048576 ∧ g.topMany ≤ 4) ∧ (i ≤ 1 ∨ 0 ≤ g.botMany ∧ g.botMany ≤ 1048576 ∧ g.botMany ≤ 4) ∧ (i ≤ 2 ∨ 0 ≤ g.club ∧ g.club ≤ 1048576) ∧ (i ≤ 3 ∨ 0 ≤ g.widow ∧ g.widow ≤ 1048576) ∧ (i ≤ 4 ∨ 0 ≤ g.split ∧ g.split ≤ 1048576) ∧ (i ≤ 5 ∨ 0 ≤ g.defer_ ∧ g.defer_ ≤ 1048576) ∧ (i ≤ 6 ∨ 0 ≤ g.spare ∧ g.spare ≤ 1048576)

theorem cRGCheck (g : Geo) (h : H) (w : WF h) : runI Try.prog TA 40 [g.e] h = some (.int .i64 (geoCheck g), hp Try.prog TA 40 [g.e] h) := by
  refine pure_of rfl res40 rfl ?_
  have hlo := w.1
  by_cases c1 : g.cols < 1
  · have hR : geoCheck g = 6 := by unfold geoCheck; rw [if_pos (by omega)]
    simp (maxSteps := 10000000) (maxDischargeDepth := 30) only [q40, r40, Geo.e, w, hlo, c1, hR, go_sem, Nat.reduceEqDiff, ↓reduceIte, Nat.reduceAdd, Nat.reduceMul, Nat.reduceLeDiff, Nat.reduceLT, reduceCtorEq, Int.reduceToNat, Int.reduceLE, Int.reduceLT, Int.reduceEq, Int.reduceNeg, Int.reduceNe, Int.reducePow, Nat.reducePow, Nat.reduceSub, IntKind.bits]
  by_cases c2 : 8 < g.cols
  · have hR : geoCheck g = 6 := by unfold geoCheck; rw [if_pos (by omega)]
    simp (maxSteps := 10000000) (maxDischargeDepth := 30) only [q40, r40, Geo.e, w, hlo, c1, c2, hR, go_sem, Nat.reduceEqDiff, ↓reduceIte, Nat.reduceAdd, Nat.reduceMul, Nat.reduceLeDiff, Nat.reduceLT, reduceCtorEq, Int.reduceToNat, Int.reduceLE, Int.reduceLT, Int.reduceEq, Int.reduceNeg, Int.reduceNe, Int.reducePow, Nat.reducePow, Nat.reduceSub, IntKind.bits]
  have hC : geoCheck g = if geoBad g then 7 else 0 := by unfold geoCheck; rw [if_neg (by omega)]
  have h7 : geoBad g → geoCheck g = 7 := fun hb => by rw [hC, if_pos hb]
  simp (maxSteps := 10000000) (maxDischargeDepth := 30) only [q40, r40, Geo.e, w, hlo, c1, c2, go_sem, Nat.reduceEqDiff, ↓reduceIte, Nat.reduceAdd, Nat.reduceMul, Nat.reduceLeDiff, Nat.reduceLT, reduceCtorEq, Int.reduceToNat, Int.reduceLE, Int.reduceLT, Int.reduceEq, Int.reduceNeg, Int.reduceNe, Int.reducePow, Nat.reducePow, Nat.reduceSub, IntKind.bits]

  generalize hx1 : H.put _ _ _ = x1
  have gm1 : x1.get h.len = some ⟨false, [.int .i64 g.cols, .int .i64 g.wide, .int .i64 g.gap, .int .i64 g.high, .int .i64 g.first, .int .i64 g.grid, .int .i64 g.rule, .int .i64 g.sep, .int .i64 g.noteMost, .int .i64 g.topMost, .int .i64 g.botMost, .int .i64 g.topMany, .int .i64 g.botMany, .int .i64 g.club, .int .i64 g.widow, .int .i64 g.split, .int .i64 g.defer_, .int .i64 g.spare, .bool g.balance]⟩ := by rw [← hx1]; simp (maxSteps := 10000000) (maxDischargeDepth := 30) only [w, hlo, go_sem, Nat.reduceEqDiff, ↓reduceIte, Nat.reduceAdd, Nat.reduceMul, Nat.reduceLeDiff, Nat.reduceLT, reduceCtorEq, Int.reduceToNat, Int.reduceLE, Int.reduceLT, Int.reduceEq, Int.reduceNeg, Int.reduceNe, Int.reducePow, Nat.reducePow, Nat.reduceSub, IntKind.bits]
  have ga1 : x1.get (h.len + 1) = some ⟨false, [.int .i64 g.wide, .int .i64 g.high, .int .i64 g.first]⟩ := by rw [← hx1]; simp (maxSteps := 10000000) (maxDischargeDepth := 30) only [w, hlo, go_sem, Nat.reduceEqDiff, ↓reduceIte, Nat.reduceAdd, Nat.reduceMul, Nat.reduceLeDiff, Nat.reduceLT, reduceCtorEq, Int.reduceToNat, Int.reduceLE, Int.reduceLT, Int.reduceEq, Int.reduceNeg, Int.reduceNe, Int.reducePow, Nat.reducePow, Nat.reduceSub, IntKind.bits]
  have kp1 : Keep h x1 := by rw [← hx1]; simp (maxSteps := 10000000) (maxDischargeDepth := 30) only [w, hlo, go_sem, Nat.reduceEqDiff, ↓reduceIte, Nat.reduceAdd, Nat.reduceMul, Nat.reduceLeDiff, Nat.reduceLT, reduceCtorEq, Int.reduceToNat, Int.reduceLE, Int.reduceLT, Int.reduceEq, Int.reduceNeg, Int.reduceNe, Int.reducePow, Nat.reducePow, Nat.reduceSub, IntKind.bits]
  have wf1 : WF x1 := by rw [← hx1]; simp (maxSteps := 10000000) (maxDischargeDepth := 30) only [w, hlo, go_sem, Nat.reduceEqDiff, ↓reduceIte, Nat.reduceAdd, Nat.reduceMul, Nat.reduceLeDiff, Nat.reduceLT, reduceCtorEq, Int.reduceToNat, Int.reduceLE, Int.reduceLT, Int.reduceEq, Int.reduceNeg, Int.reduceNe, Int.reducePow, Nat.reducePow, Nat.reduceSub, IntKind.bits]
  have lm1 : h.len < x1.len := lt_of_get gm1
  have lj1 : h.len ≤ x1.len := by omega
  clear hx1
  refine ru_loop (fun i => 3 - i) (GL1 g h.len (h.len + 1) x1) 0 ?_ ?_
  · unfold GL1
    simp (maxSteps := 10000000) (maxDischargeDepth := 30) only [Int.natCast_zero, go_sem, Nat.reduceEqDiff, ↓reduceIte, Nat.reduceAdd, Nat.reduceMul, Nat.reduceLeDiff, Nat.reduceLT, reduceCtorEq, Int.reduceToNat, Int.reduceLE, Int.reduceLT, Int.reduceEq, Int.reduceNeg, Int.reduceNe, Int.reducePow, Nat.reducePow, Nat.reduceSub, IntKind.bits]
  · rintro i s hh ⟨e1, ea, ei, rfl, hi, hp⟩
    have hcase : i = 0 ∨ i = 1 ∨ i = 2 ∨ i = 3 := by omega
    rcases hcase with rfl | rfl | rfl | rfl
    · have hnat : ((0 : Nat) : Int) = 0 := rfl
      have hsuc : IntKind.i64.wrap 1 = ((1 : Nat) : Int) := by decide
      rw [hnat] at ei
      have htn : Int.toNat 0 = 0 := rfl
      by_cases d1 : g.wide < 1
      · have hR := h7 (by unfold geoBad; omega)
        simp (maxSteps := 10000000) (maxDischargeDepth := 30) only [e1, ea, ei, gm1, ga1, kp1, wf1, hsuc, htn, Nat.mul_one, d1, hR, go_sem, Nat.reduceEqDiff, ↓reduceIte, Nat.reduceAdd, Nat.reduceMul, Nat.reduceLeDiff, Nat.reduceLT, reduceCtorEq, Int.reduceToNat, Int.reduceLE, Int.reduceLT, Int.reduceEq, Int.reduceNeg, Int.reduceNe, Int.reducePow, Nat.reducePow, Nat.reduceSub, IntKind.bits]
      by_cases d2 : 1073741823 < g.wide
      · have hR := h7 (by unfold geoBad; omega)
        simp (maxSteps := 10000000) (maxDischargeDepth := 30) only [e1, ea, ei, gm1, ga1, kp1, wf1, hsuc, htn, Nat.mul_one, d1, d2, hR, go_sem, Nat.reduceEqDiff, ↓reduceIte, Nat.reduceAdd, Nat.reduceMul, Nat.reduceLeDiff, Nat.reduceLT, reduceCtorEq, Int.reduceToNat, Int.reduceLE, Int.reduceLT, Int.reduceEq, Int.reduceNeg, Int.reduceNe, Int.reducePow, Nat.reducePow, Nat.reduceSub, IntKind.bits]
      simp (maxSteps := 10000000) (maxDischargeDepth := 30) only [e1, ea, ei, gm1, ga1, kp1, wf1, hsuc, htn, Nat.mul_one, d1, d2, go_sem, Nat.reduceEqDiff, ↓reduceIte, Nat.reduceAdd, Nat.reduceMul, Nat.reduceLeDiff, Nat.reduceLT, reduceCtorEq, Int.reduceToNat, Int.reduceLE, Int.reduceLT, Int.reduceEq, Int.reduceNeg, Int.reduceNe, Int.reducePow, Nat.reducePow, Nat.reduceSub, IntKind.bits]
      refine ⟨0 + 1, by omega, ?_⟩
      unfold GL1
      simp (maxSteps := 10000000) (maxDischargeDepth := 30) only [e1, ea, ei, gm1, ga1, kp1, wf1, go_sem, Nat.reduceEqDiff, ↓reduceIte, Nat.reduceAdd, Nat.reduceMul, Nat.reduceLeDiff, Nat.reduceLT, reduceCtorEq, Int.reduceToNat, Int.reduceLE, Int.reduceLT, Int.reduceEq, Int.reduceNeg, Int.reduceNe, Int.reducePow, Nat.reducePow, Nat.reduceSub, IntKind.bits]
      omega
    · have hnat : ((1 : Nat) : Int) = 1 := rfl
      have hsuc : IntKind.i64.wrap (1 + 1) = ((1 + 1 : Nat) : Int) := by decide
      rw [hnat] at ei
      have htn : Int.toNat 1 = 1 := rfl
      by_cases d1 : g.high < 1
      · have hR := h7 (by unfold geoBad; omega)
        simp (maxSteps := 10000000) (maxDischargeDepth := 30) only [e1, ea, ei, gm1, ga1, kp1, wf1, hsuc, htn, Nat.mul_one, d1, hR, go_sem, Nat.reduceEqDiff, ↓reduceIte, Nat.reduceAdd, Nat.reduceMul, Nat.reduceLeDiff, Nat.reduceLT, reduceCtorEq, Int.reduceToNat, Int.reduceLE, Int.reduceLT, Int.reduceEq, Int.reduceNeg, Int.reduceNe, Int.reducePow, Nat.reducePow, Nat.reduceSub, IntKind.bits]
      by_cases d2 : 1073741823 < g.high
      · have hR := h7 (by unfold geoBad; omega)
        simp (maxSteps := 10000000) (maxDischargeDepth := 30) only [e1, ea, ei, gm1, ga1, kp1, wf1, hsuc, htn, Nat.mul_one, d1, d2, hR, go_sem, Nat.reduceEqDiff, ↓reduceIte, Nat.reduceAdd, Nat.reduceMul, Nat.reduceLeDiff, Nat.reduceLT, reduceCtorEq, Int.reduceToNat, Int.reduceLE, Int.reduceLT, Int.reduceEq, Int.reduceNeg, Int.reduceNe, Int.reducePow, Nat.reducePow, Nat.reduceSub, IntKind.bits]
      simp (maxSteps := 10000000) (maxDischargeDepth := 30) only [e1, ea, ei, gm1, ga1, kp1, wf1, hsuc, htn, Nat.mul_one, d1, d2, go_sem, Nat.reduceEqDiff, ↓reduceIte, Nat.reduceAdd, Nat.reduceMul, Nat.reduceLeDiff, Nat.reduceLT, reduceCtorEq, Int.reduceToNat, Int.reduceLE, Int.reduceLT, Int.reduceEq, Int.reduceNeg, Int.reduceNe, Int.reducePow, Nat.reducePow, Nat.reduceSub, IntKind.bits]
      refine ⟨1 + 1, by omega, ?_⟩
      unfold GL1
      simp (maxSteps := 10000000) (maxDischargeDepth := 30) only [e1, ea, ei, gm1, ga1, kp1, wf1, go_sem, Nat.reduceEqDiff, ↓reduceIte, Nat.reduceAdd, Nat.reduceMul, Nat.reduceLeDiff, Nat.reduceLT, reduceCtorEq, Int.reduceToNat, Int.reduceLE, Int.reduceLT, Int.reduceEq, Int.reduceNeg, Int.reduceNe, Int.reducePow, Nat.reducePow, Nat.reduceSub, IntKind.bits]
      omega
    · have hnat : ((2 : Nat) : Int) = 2 := rfl
      have hsuc : IntKind.i64.wrap (2 + 1) = ((2 + 1 : Nat) : Int) := by decide
      rw [hnat] at ei
      have htn : Int.toNat 2 = 2 := rfl
      by_cases d1 : g.first < 1
      · have hR := h7 (by unfold geoBad; omega)
        simp (maxSteps := 10000000) (maxDischargeDepth := 30) only [e1, ea, ei, gm1, ga1, kp1, wf1, hsuc, htn, Nat.mul_one, d1, hR, go_sem, Nat.reduceEqDiff, ↓reduceIte, Nat.reduceAdd, Nat.reduceMul, Nat.reduceLeDiff, Nat.reduceLT, reduceCtorEq, Int.reduceToNat, Int.reduceLE, Int.reduceLT, Int.reduceEq, Int.reduceNeg, Int.reduceNe, Int.reducePow, Nat.reducePow, Nat.reduceSub, IntKind.bits]
      by_cases d2 : 1073741823 < g.first
      · have hR := h7 (by unfold geoBad; omega)
        simp (maxSteps := 10000000) (maxDischargeDepth := 30) only [e1, ea, ei, gm1, ga1, kp1, wf1, hsuc, htn, Nat.mul_one, d1, d2, hR, go_sem, Nat.reduceEqDiff, ↓reduceIte, Nat.reduceAdd, Nat.reduceMul, Nat.reduceLeDiff, Nat.reduceLT, reduceCtorEq, Int.reduceToNat, Int.reduceLE, Int.reduceLT, Int.reduceEq, Int.reduceNeg, Int.reduceNe, Int.reducePow, Nat.reducePow, Nat.reduceSub, IntKind.bits]
      simp (maxSteps := 10000000) (maxDischargeDepth := 30) only [e1, ea, ei, gm1, ga1, kp1, wf1, hsuc, htn, Nat.mul_one, d1, d2, go_sem, Nat.reduceEqDiff, ↓reduceIte, Nat.reduceAdd, Nat.reduceMul, Nat.reduceLeDiff, Nat.reduceLT, reduceCtorEq, Int.reduceToNat, Int.reduceLE, Int.reduceLT, Int.reduceEq, Int.reduceNeg, Int.reduceNe, Int.reducePow, Nat.reducePow, Nat.reduceSub, IntKind.bits]
      refine ⟨2 + 1, by omega, ?_⟩
      unfold GL1
      simp (maxSteps := 10000000) (maxDischargeDepth := 30) only [e1, ea, ei, gm1, ga1, kp1, wf1, go_sem, Nat.reduceEqDiff, ↓reduceIte, Nat.reduceAdd, Nat.reduceMul, Nat.reduceLeDiff, Nat.reduceLT, reduceCtorEq, Int.reduceToNat, Int.reduceLE, Int.reduceLT, Int.reduceEq, Int.reduceNeg, Int.reduceNe, Int.reducePow, Nat.reducePow, Nat.reduceSub, IntKind.bits]
      omega
    · have hnat : ((3 : Nat) : Int) = 3 := rfl
      rw [hnat] at ei
      simp (maxSteps := 10000000) (maxDischargeDepth := 30) only [e1, ea, ei, gm1, ga1, kp1, wf1, lm1, lj1, wf1.1, go_sem, Nat.reduceEqDiff, ↓reduceIte, Nat.reduceAdd, Nat.reduceMul, Nat.reduceLeDiff, Nat.reduceLT, reduceCtorEq, Int.reduceToNat, Int.reduceLE, Int.reduceLT, Int.reduceEq, Int.reduceNeg, Int.reduceNe, Int.reducePow, Nat.reducePow, Nat.reduceSub, IntKind.bits]
      generalize hx2 : H.put _ _ _ = x2
      have gm2 : x2.get h.len = some ⟨false, [.int .i64 g.cols, .int .i64 g.wide, .int .i64 g.gap, .int .i64 g.high, .int .i64 g.first, .int .i64 g.grid, .int .i64 g.rule, .int .i64 g.sep, .int .i64 g.noteMost, .int .i64 g.topMost, .int .i64 g.botMost, .int .i64 g.topMany, .int .i64 g.botMany, .int .i64 g.club, .int .i64 g.widow, .int .i64 g.split, .int .i64 g.defer_, .int .i64 g.spare, .bool g.balance]⟩ := by rw [← hx2]; simp (maxSteps := 10000000) (maxDischargeDepth := 30) only [gm1, lm1, lj1, kp1, wf1, wf1.1, go_sem, Nat.reduceEqDiff, ↓reduceIte, Nat.reduceAdd, Nat.reduceMul, Nat.reduceLeDiff, Nat.reduceLT, reduceCtorEq, Int.reduceToNat, Int.reduceLE, Int.reduceLT, Int.reduceEq, Int.reduceNeg, Int.reduceNe, Int.reducePow, Nat.reducePow, Nat.reduceSub, IntKind.bits]
      have ga2 : x2.get x1.len = some ⟨false, [.int .i64 g.gap, .int .i64 g.rule, .int .i64 g.sep, .int .i64 g.noteMost, .int .i64 g.topMost, .int .i64 g.botMost, .int .i64 g.grid]⟩ := by rw [← hx2]; simp (maxSteps := 10000000) (maxDischargeDepth := 30) only [gm1, lm1, lj1, kp1, wf1, wf1.1, go_sem, Nat.reduceEqDiff, ↓reduceIte, Nat.reduceAdd, Nat.reduceMul, Nat.reduceLeDiff, Nat.reduceLT, reduceCtorEq, Int.reduceToNat, Int.reduceLE, Int.reduceLT, Int.reduceEq, Int.reduceNeg, Int.reduceNe, Int.reducePow, Nat.reducePow, Nat.reduceSub, IntKind.bits]
      have kp2 : Keep h x2 := by rw [← hx2]; simp (maxSteps := 10000000) (maxDischargeDepth := 30) only [gm1, lm1, lj1, kp1, wf1, wf1.1, go_sem, Nat.reduceEqDiff, ↓reduceIte, Nat.reduceAdd, Nat.reduceMul, Nat.reduceLeDiff, Nat.reduceLT, reduceCtorEq, Int.reduceToNat, Int.reduceLE, Int.reduceLT, Int.reduceEq, Int.reduceNeg, Int.reduceNe, Int.reducePow, Nat.reducePow, Nat.reduceSub, IntKind.bits]
      have wf2 : WF x2 := by rw [← hx2]; simp (maxSteps := 10000000) (maxDischargeDepth := 30) only [gm1, lm1, lj1, kp1, wf1, wf1.1, go_sem, Nat.reduceEqDiff, ↓reduceIte, Nat.reduceAdd, Nat.reduceMul, Nat.reduceLeDiff, Nat.reduceLT, reduceCtorEq, Int.reduceToNat, Int.reduceLE, Int.reduceLT, Int.reduceEq, Int.reduceNeg, Int.reduceNe, Int.reducePow, Nat.reducePow, Nat.reduceSub, IntKind.bits]
      have lm2 : h.len < x2.len := lt_of_get gm2
      have lj2 : h.len ≤ x2.len := by omega
      clear hx2
      refine ru_loop (fun i => 7 - i) (GL2 g h.len x1.len x2) 0 ?_ ?_
      · unfold GL2
        simp (maxSteps := 10000000) (maxDischargeDepth := 30) only [Int.natCast_zero, e1, go_sem, Nat.reduceEqDiff, ↓reduceIte, Nat.reduceAdd, Nat.reduceMul, Nat.reduceLeDiff, Nat.reduceLT, reduceCtorEq, Int.reduceToNat, Int.reduceLE, Int.reduceLT, Int.reduceEq, Int.reduceNeg, Int.reduceNe, Int.reducePow, Nat.reducePow, Nat.reduceSub, IntKind.bits]
      · rintro i s hh ⟨e1, ea, ei, rfl, hi, hp⟩
        have hcase : i = 0 ∨ i = 1 ∨ i = 2 ∨ i = 3 ∨ i = 4 ∨ i = 5 ∨ i = 6 ∨ i = 7 := by omega
        rcases hcase with rfl | rfl | rfl | rfl | rfl | rfl | rfl | rfl
        · have hnat : ((0 : Nat) : Int) = 0 := rfl
          have hsuc : IntKind.i64.wrap 1 = ((1 : Nat) : Int) := by decide
          rw [hnat] at ei
          have htn : Int.toNat 0 = 0 := rfl
          by_cases d1 : g.gap < 0
          · have hR := h7 (by unfold geoBad; omega)
            simp (maxSteps := 10000000) (maxDischargeDepth := 30) only [e1, ea, ei, gm2, ga2, kp2, wf2, hsuc, htn, Nat.mul_one, d1, hR, go_sem, Nat.reduceEqDiff, ↓reduceIte, Nat.reduceAdd, Nat.reduceMul, Nat.reduceLeDiff, Nat.reduceLT, reduceCtorEq, Int.reduceToNat, Int.reduceLE, Int.reduceLT, Int.reduceEq, Int.reduceNeg, Int.reduceNe, Int.reducePow, Nat.reducePow, Nat.reduceSub, IntKind.bits]
          by_cases d2 : 1073741823 < g.gap
          · have hR := h7 (by unfold geoBad; omega)
            simp (maxSteps := 10000000) (maxDischargeDepth := 30) only [e1, ea, ei, gm2, ga2, kp2, wf2, hsuc, htn, Nat.mul_one, d1, d2, hR, go_sem, Nat.reduceEqDiff, ↓reduceIte, Nat.reduceAdd, Nat.reduceMul, Nat.reduceLeDiff, Nat.reduceLT, reduceCtorEq, Int.reduceToNat, Int.reduceLE, Int.reduceLT, Int.reduceEq, Int.reduceNeg, Int.reduceNe, Int.reducePow, Nat.reducePow, Nat.reduceSub, IntKind.bits]
          simp (maxSteps := 10000000) (maxDischargeDepth := 30) only [e1, ea, ei, gm2, ga2, kp2, wf2, hsuc, htn, Nat.mul_one, d1, d2, go_sem, Nat.reduceEqDiff, ↓reduceIte, Nat.reduceAdd, Nat.reduceMul, Nat.reduceLeDiff, Nat.reduceLT, reduceCtorEq, Int.reduceToNat, Int.reduceLE, Int.reduceLT, Int.reduceEq, Int.reduceNeg, Int.reduceNe, Int.reducePow, Nat.reducePow, Nat.reduceSub, IntKind.bits]
          refine ⟨0 + 1, by omega, ?_⟩
          unfold GL2
          simp (maxSteps := 10000000) (maxDischargeDepth := 30) only [e1, ea, ei, gm2, ga2, kp2, wf2, go_sem, Nat.reduceEqDiff, ↓reduceIte, Nat.reduceAdd, Nat.reduceMul, Nat.reduceLeDiff, Nat.reduceLT, reduceCtorEq, Int.reduceToNat, Int.reduceLE, Int.reduceLT, Int.reduceEq, Int.reduceNeg, Int.reduceNe, Int.reducePow, Nat.reducePow, Nat.reduceSub, IntKind.bits]
          omega
        · have hnat : ((1 : Nat) : Int) = 1 := rfl
          have hsuc : IntKind.i64.wrap (1 + 1) = ((1 + 1 : Nat) : Int) := by decide
          rw [hnat] at ei
          have htn : Int.toNat 1 = 1 := rfl
          by_cases d1 : g.rule < 0
          · have hR := h7 (by unfold geoBad; omega)
            simp (maxSteps := 10000000) (maxDischargeDepth := 30) only [e1, ea, ei, gm2, ga2, kp2, wf2, hsuc, htn, Nat.mul_one, d1, hR, go_sem, Nat.reduceEqDiff, ↓reduceIte, Nat.reduceAdd, Nat.reduceMul, Nat.reduceLeDiff, Nat.reduceLT, reduceCtorEq, Int.reduceToNat, Int.reduceLE, Int.reduceLT, Int.reduceEq, Int.reduceNeg, Int.reduceNe, Int.reducePow, Nat.reducePow, Nat.reduceSub, IntKind.bits]
          by_cases d2 : 1073741823 < g.rule
          · have hR := h7 (by unfold geoBad; omega)
            simp (maxSteps := 10000000) (maxDischargeDepth := 30) only [e1, ea, ei, gm2, ga2, kp2, wf2, hsuc, htn, Nat.mul_one, d1, d2, hR, go_sem, Nat.reduceEqDiff, ↓reduceIte, Nat.reduceAdd, Nat.reduceMul, Nat.reduceLeDiff, Nat.reduceLT, reduceCtorEq, Int.reduceToNat, Int.reduceLE, Int.reduceLT, Int.reduceEq, Int.reduceNeg, Int.reduceNe, Int.reducePow, Nat.reducePow, Nat.reduceSub, IntKind.bits]
          simp (maxSteps := 10000000) (maxDischargeDepth := 30) only [e1, ea, ei, gm2, ga2, kp2, wf2, hsuc, htn, Nat.mul_one, d1, d2, go_sem, Nat.reduceEqDiff, ↓reduceIte, Nat.reduceAdd, Nat.reduceMul, Nat.reduceLeDiff, Nat.reduceLT, reduceCtorEq, Int.reduceToNat, Int.reduceLE, Int.reduceLT, Int.reduceEq, Int.reduceNeg, Int.reduceNe, Int.reducePow, Nat.reducePow, Nat.reduceSub, IntKind.bits]
          refine ⟨1 + 1, by omega, ?_⟩
          unfold GL2
          simp (maxSteps := 10000000) (maxDischargeDepth := 30) only [e1, ea, ei, gm2, ga2, kp2, wf2, go_sem, Nat.reduceEqDiff, ↓reduceIte, Nat.reduceAdd, Nat.reduceMul, Nat.reduceLeDiff, Nat.reduceLT, reduceCtorEq, Int.reduceToNat, Int.reduceLE, Int.reduceLT, Int.reduceEq, Int.reduceNeg, Int.reduceNe, Int.reducePow, Nat.reducePow, Nat.reduceSub, IntKind.bits]
          omega
        · have hnat : ((2 : Nat) : Int) = 2 := rfl
          have hsuc : IntKind.i64.wrap (2 + 1) = ((2 + 1 : Nat) : Int) := by decide
          rw [hnat] at ei
          have htn : Int.toNat 2 = 2 := rfl
          by_cases d1 : g.sep < 0
          · have hR := h7 (by unfold geoBad; omega)
            simp (maxSteps := 10000000) (maxDischargeDepth := 30) only [e1, ea, ei, gm2, ga2, kp2, wf2, hsuc, htn, Nat.mul_one, d1, hR, go_sem, Nat.reduceEqDiff, ↓reduceIte, Nat.reduceAdd, Nat.reduceMul, Nat.reduceLeDiff, Nat.reduceLT, reduceCtorEq, Int.reduceToNat, Int.reduceLE, Int.reduceLT, Int.reduceEq, Int.reduceNeg, Int.reduceNe, Int.reducePow, Nat.reducePow, Nat.reduceSub, IntKind.bits]
          by_cases d2 : 1073741823 < g.sep
          · have hR := h7 (by unfold geoBad; omega)
            simp (maxSteps := 10000000) (maxDischargeDepth := 30) only [e1, ea, ei, gm2, ga2, kp2, wf2, hsuc, htn, Nat.mul_one, d1, d2, hR, go_sem, Nat.reduceEqDiff, ↓reduceIte, Nat.reduceAdd, Nat.reduceMul, Nat.reduceLeDiff, Nat.reduceLT, reduceCtorEq, Int.reduceToNat, Int.reduceLE, Int.reduceLT, Int.reduceEq, Int.reduceNeg, Int.reduceNe, Int.reducePow, Nat.reducePow, Nat.reduceSub, IntKind.bits]
          simp (maxSteps := 10000000) (maxDischargeDepth := 30) only [e1, ea, ei, gm2, ga2, kp2, wf2, hsuc, htn, Nat.mul_one, d1, d2, go_sem, Nat.reduceEqDiff, ↓reduceIte, Nat.reduceAdd, Nat.reduceMul, Nat.reduceLeDiff, Nat.reduceLT, reduceCtorEq, Int.reduceToNat, Int.reduceLE, Int.reduceLT, Int.reduceEq, Int.reduceNeg, Int.reduceNe, Int.reducePow, Nat.reducePow, Nat.reduceSub, IntKind.bits]
          refine ⟨2 + 1, by omega, ?_⟩
          unfold GL2
          simp (maxSteps := 10000000) (maxDischargeDepth := 30) only [e1, ea, ei, gm2, ga2, kp2, wf2, go_sem, Nat.reduceEqDiff, ↓reduceIte, Nat.reduceAdd, Nat.reduceMul, Nat.reduceLeDiff, Nat.reduceLT, reduceCtorEq, Int.reduceToNat, Int.reduceLE, Int.reduceLT, Int.reduceEq, Int.reduceNeg, Int.reduceNe, Int.reducePow, Nat.reducePow, Nat.reduceSub, IntKind.bits]
          omega
        · have hnat : ((3 : Nat) : Int) = 3 := rfl
          have hsuc : IntKind.i64.wrap (3 + 1) = ((3 + 1 : Nat) : Int) := by decide
          rw [hnat] at ei
          have htn : Int.toNat 3 = 3 := rfl
          by_cases d1 : g.noteMost < 0
          · have hR := h7 (by unfold geoBad; omega)
            simp (maxSteps := 10000000) (maxDischargeDepth := 30) only [e1, ea, ei, gm2, ga2, kp2, wf2, hsuc, htn, Nat.mul_one, d1, hR, go_sem, Nat.reduceEqDiff, ↓reduceIte, Nat.reduceAdd, Nat.reduceMul, Nat.reduceLeDiff, Nat.reduceLT, reduceCtorEq, Int.reduceToNat, Int.reduceLE, Int.reduceLT, Int.reduceEq, Int.reduceNeg, Int.reduceNe, Int.reducePow, Nat.reducePow, Nat.reduceSub, IntKind.bits]
          by_cases d2 : 1073741823 < g.noteMost
          · have hR := h7 (by unfold geoBad; omega)
            simp (maxSteps := 10000000) (maxDischargeDepth := 30) only [e1, ea, ei, gm2, ga2, kp2, wf2, hsuc, htn, Nat.mul_one, d1, d2, hR, go_sem, Nat.reduceEqDiff, ↓reduceIte, Nat.reduceAdd, Nat.reduceMul, Nat.reduceLeDiff, Nat.reduceLT, reduceCtorEq, Int.reduceToNat, Int.reduceLE, Int.reduceLT, Int.reduceEq, Int.reduceNeg, Int.reduceNe, Int.reducePow, Nat.reducePow, Nat.reduceSub, IntKind.bits]
          simp (maxSteps := 10000000) (maxDischargeDepth := 30) only [e1, ea, ei, gm2, ga2, kp2, wf2, hsuc, htn, Nat.mul_one, d1, d2, go_sem, Nat.reduceEqDiff, ↓reduceIte, Nat.reduceAdd, Nat.reduceMul, Nat.reduceLeDiff, Nat.reduceLT, reduceCtorEq, Int.reduceToNat, Int.reduceLE, Int.reduceLT, Int.reduceEq, Int.reduceNeg, Int.reduceNe, Int.reducePow, Nat.reducePow, Nat.reduceSub, IntKind.bits]
          refine ⟨3 + 1, by omega, ?_⟩
          unfold GL2
          simp (maxSteps := 10000000) (maxDischargeDepth := 30) only [e1, ea, ei, gm2, ga2, kp2, wf2, go_sem, Nat.reduceEqDiff, ↓reduceIte, Nat.reduceAdd, Nat.reduceMul, Nat.reduceLeDiff, Nat.reduceLT, reduceCtorEq, Int.reduceToNat, Int.reduceLE, Int.reduceLT, Int.reduceEq, Int.reduceNeg, Int.reduceNe, Int.reducePow, Nat.reducePow, Nat.reduceSub, IntKind.bits]
          omega
        · have hnat : ((4 : Nat) : Int) = 4 := rfl
          have hsuc : IntKind.i64.wrap (4 + 1) = ((4 + 1 : Nat) : Int) := by decide
          rw [hnat] at ei
          have htn : Int.toNat 4 = 4 := rfl
          by_cases d1 : g.topMost < 0
          · have hR := h7 (by unfold geoBad; omega)
            simp (maxSteps := 10000000) (maxDischargeDepth := 30) only [e1, ea, ei, gm2, ga2, kp2, wf2, hsuc, htn, Nat.mul_one, d1, hR, go_sem, Nat.reduceEqDiff, ↓reduceIte, Nat.reduceAdd, Nat.reduceMul, Nat.reduceLeDiff, Nat.reduceLT, reduceCtorEq, Int.reduceToNat, Int.reduceLE, Int.reduceLT, Int.reduceEq, Int.reduceNeg, Int.reduceNe, Int.reducePow, Nat.reducePow, Nat.reduceSub, IntKind.bits]
          by_cases d2 : 1073741823 < g.topMost
          · have hR := h7 (by unfold geoBad; omega)
            simp (maxSteps := 10000000) (maxDischargeDepth := 30) only [e1, ea, ei, gm2, ga2, kp2, wf2, hsuc, htn, Nat.mul_one, d1, d2, hR, go_sem, Nat.reduceEqDiff, ↓reduceIte, Nat.reduceAdd, Nat.reduceMul, Nat.reduceLeDiff, Nat.reduceLT, reduceCtorEq, Int.reduceToNat, Int.reduceLE, Int.reduceLT, Int.reduceEq, Int.reduceNeg, Int.reduceNe, Int.reducePow, Nat.reducePow, Nat.reduceSub, IntKind.bits]
          simp (maxSteps := 10000000) (maxDischargeDepth := 30) only [e1, ea, ei, gm2, ga2, kp2, wf2, hsuc, htn, Nat.mul_one, d1, d2, go_sem, Nat.reduceEqDiff, ↓reduceIte, Nat.reduceAdd, Nat.reduceMul, Nat.reduceLeDiff, Nat.reduceLT, reduceCtorEq, Int.reduceToNat, Int.reduceLE, Int.reduceLT, Int.reduceEq, Int.reduceNeg, Int.reduceNe, Int.reducePow, Nat.reducePow, Nat.reduceSub, IntKind.bits]
          refine ⟨4 + 1, by omega, ?_⟩
          unfold GL2
          simp (maxSteps := 10000000) (maxDischargeDepth := 30) only [e1, ea, ei, gm2, ga2, kp2, wf2, go_sem, Nat.reduceEqDiff, ↓reduceIte, Nat.reduceAdd, Nat.reduceMul, Nat.reduceLeDiff, Nat.reduceLT, reduceCtorEq, Int.reduceToNat, Int.reduceLE, Int.reduceLT, Int.reduceEq, Int.reduceNeg, Int.reduceNe, Int.reducePow, Nat.reducePow, Nat.reduceSub, IntKind.bits]
          omega
        · have hnat : ((5 : Nat) : Int) = 5 := rfl
          have hsuc : IntKind.i64.wrap (5 + 1) = ((5 + 1 : Nat) : Int) := by decide
          rw [hnat] at ei
          have htn : Int.toNat 5 = 5 := rfl
          by_cases d1 : g.botMost < 0
          · have hR := h7 (by unfold geoBad; omega)
            simp (maxSteps := 10000000) (maxDischargeDepth := 30) only [e1, ea, ei, gm2, ga2, kp2, wf2, hsuc, htn, Nat.mul_one, d1, hR, go_sem, Nat.reduceEqDiff, ↓reduceIte, Nat.reduceAdd, Nat.reduceMul, Nat.reduceLeDiff, Nat.reduceLT, reduceCtorEq, Int.reduceToNat, Int.reduceLE, Int.reduceLT, Int.reduceEq, Int.reduceNeg, Int.reduceNe, Int.reducePow, Nat.reducePow, Nat.reduceSub, IntKind.bits]
          by_cases d2 : 1073741823 < g.botMost
          · have hR := h7 (by unfold geoBad; omega)
            simp (maxSteps := 10000000) (maxDischargeDepth := 30) only [e1, ea, ei, gm2, ga2, kp2, wf2, hsuc, htn, Nat.mul_one, d1, d2, hR, go_sem, Nat.reduceEqDiff, ↓reduceIte, Nat.reduceAdd, Nat.reduceMul, Nat.reduceLeDiff, Nat.reduceLT, reduceCtorEq, Int.reduceToNat, Int.reduceLE, Int.reduceLT, Int.reduceEq, Int.reduceNeg, Int.reduceNe, Int.reducePow, Nat.reducePow, Nat.reduceSub, IntKind.bits]
          simp (maxSteps := 10000000) (maxDischargeDepth := 30) only [e1, ea, ei, gm2, ga2, kp2, wf2, hsuc, htn, Nat.mul_one, d1, d2, go_sem, Nat.reduceEqDiff, ↓reduceIte, Nat.reduceAdd, Nat.reduceMul, Nat.reduceLeDiff, Nat.reduceLT, reduceCtorEq, Int.reduceToNat, Int.reduceLE, Int.reduceLT, Int.reduceEq, Int.reduceNeg, Int.reduceNe, Int.reducePow, Nat.reducePow, Nat.reduceSub, IntKind.bits]
          refine ⟨5 + 1, by omega, ?_⟩
          unfold GL2
          simp (maxSteps := 10000000) (maxDischargeDepth := 30) only [e1, ea, ei, gm2, ga2, kp2, wf2, go_sem, Nat.reduceEqDiff, ↓reduceIte, Nat.reduceAdd, Nat.reduceMul, Nat.reduceLeDiff, Nat.reduceLT, reduceCtorEq, Int.reduceToNat, Int.reduceLE, Int.reduceLT, Int.reduceEq, Int.reduceNeg, Int.reduceNe, Int.reducePow, Nat.reducePow, Nat.reduceSub, IntKind.bits]
          omega
        · have hnat : ((6 : Nat) : Int) = 6 := rfl
          have hsuc : IntKind.i64.wrap (6 + 1) = ((6 + 1 : Nat) : Int) := by decide
          rw [hnat] at ei
          have htn : Int.toNat 6 = 6 := rfl
          by_cases d1 : g.grid < 0
          · have hR := h7 (by unfold geoBad; omega)
            simp (maxSteps := 10000000) (maxDischargeDepth := 30) only [e1, ea, ei, gm2, ga2, kp2, wf2, hsuc, htn, Nat.mul_one, d1, hR, go_sem, Nat.reduceEqDiff, ↓reduceIte, Nat.reduceAdd, Nat.reduceMul, Nat.reduceLeDiff, Nat.reduceLT, reduceCtorEq, Int.reduceToNat, Int.reduceLE, Int.reduceLT, Int.reduceEq, Int.reduceNeg, Int.reduceNe, Int.reducePow, Nat.reducePow, Nat.reduceSub, IntKind.bits]
          by_cases d2 : 1073741823 < g.grid
          · have hR := h7 (by unfold geoBad; omega)
            simp (maxSteps := 10000000) (maxDischargeDepth := 30) only [e1, ea, ei, gm2, ga2, kp2, wf2, hsuc, htn, Nat.mul_one, d1, d2, hR, go_sem, Nat.reduceEqDiff, ↓reduceIte, Nat.reduceAdd, Nat.reduceMul, Nat.reduceLeDiff, Nat.reduceLT, reduceCtorEq, Int.reduceToNat, Int.reduceLE, Int.reduceLT, Int.reduceEq, Int.reduceNeg, Int.reduceNe, Int.reducePow, Nat.reducePow, Nat.reduceSub, IntKind.bits]
          simp (maxSteps := 10000000) (maxDischargeDepth := 30) only [e1, ea, ei, gm2, ga2, kp2, wf2, hsuc, htn, Nat.mul_one, d1, d2, go_sem, Nat.reduceEqDiff, ↓reduceIte, Nat.reduceAdd, Nat.reduceMul, Nat.reduceLeDiff, Nat.reduceLT, reduceCtorEq, Int.reduceToNat, Int.reduceLE, Int.reduceLT, Int.reduceEq, Int.reduceNeg, Int.reduceNe, Int.reducePow, Nat.reducePow, Nat.reduceSub, IntKind.bits]
          refine ⟨6 + 1, by omega, ?_⟩
          unfold GL2
          simp (maxSteps := 10000000) (maxDischargeDepth := 30) only [e1, ea, ei, gm2, ga2, kp2, wf2, go_sem, Nat.reduceEqDiff, ↓reduceIte, Nat.reduceAdd, Nat.reduceMul, Nat.reduceLeDiff, Nat.reduceLT, reduceCtorEq, Int.reduceToNat, Int.reduceLE, Int.reduceLT, Int.reduceEq, Int.reduceNeg, Int.reduceNe, Int.reducePow, Nat.reducePow, Nat.reduceSub, IntKind.bits]
          omega
        · have hnat : ((7 : Nat) : Int) = 7 := rfl
          rw [hnat] at ei
          simp (maxSteps := 10000000) (maxDischargeDepth := 30) only [e1, ea, ei, gm2, ga2, kp2, wf2, lm2, lj2, wf2.1, go_sem, Nat.reduceEqDiff, ↓reduceIte, Nat.reduceAdd, Nat.reduceMul, Nat.reduceLeDiff, Nat.reduceLT, reduceCtorEq, Int.reduceToNat, Int.reduceLE, Int.reduceLT, Int.reduceEq, Int.reduceNeg, Int.reduceNe, Int.reducePow, Nat.reducePow, Nat.reduceSub, IntKind.bits]
          generalize hx3 : H.put _ _ _ = x3
          have gm3 : x3.get h.len = some ⟨false, [.int .i64 g.cols, .int .i64 g.wide, .int .i64 g.gap, .int .i64 g.high, .int .i64 g.first, .int .i64 g.grid, .int .i64 g.rule, .int .i64 g.sep, .int .i64 g.noteMost, .int .i64 g.topMost, .int .i64 g.botMost, .int .i64 g.topMany, .int .i64 g.botMany, .int .i64 g.club, .int .i64 g.widow, .int .i64 g.split, .int .i64 g.defer_, .int .i64 g.spare, .bool g.balance]⟩ := by rw [← hx3]; simp (maxSteps := 10000000) (maxDischargeDepth := 30) only [gm2, lm2, lj2, kp2, wf2, wf2.1, go_sem, Nat.reduceEqDiff, ↓reduceIte, Nat.reduceAdd, Nat.reduceMul, Nat.reduceLeDiff, Nat.reduceLT, reduceCtorEq, Int.reduceToNat, Int.reduceLE, Int.reduceLT, Int.reduceEq, Int.reduceNeg, Int.reduceNe, Int.reducePow, Nat.reducePow, Nat.reduceSub, IntKind.bits]
          have ga3 : x3.get x2.len = some ⟨false, [.int .i64 g.topMany, .int .i64 g.botMany, .int .i64 g.club, .int .i64 g.widow, .int .i64 g.split, .int .i64 g.defer_, .int .i64 g.spare]⟩ := by rw [← hx3]; simp (maxSteps := 10000000) (maxDischargeDepth := 30) only [gm2, lm2, lj2, kp2, wf2, wf2.1, go_sem, Nat.reduceEqDiff, ↓reduceIte, Nat.reduceAdd, Nat.reduceMul, Nat.reduceLeDiff, Nat.reduceLT, reduceCtorEq, Int.reduceToNat, Int.reduceLE, Int.reduceLT, Int.reduceEq, Int.reduceNeg, Int.reduceNe, Int.reducePow, Nat.reducePow, Nat.reduceSub, IntKind.bits]
          have kp3 : Keep h x3 := by rw [← hx3]; simp (maxSteps := 10000000) (maxDischargeDepth := 30) only [gm2, lm2, lj2, kp2, wf2, wf2.1, go_sem, Nat.reduceEqDiff, ↓reduceIte, Nat.reduceAdd, Nat.reduceMul, Nat.reduceLeDiff, Nat.reduceLT, reduceCtorEq, Int.reduceToNat, Int.reduceLE, Int.reduceLT, Int.reduceEq, Int.reduceNeg, Int.reduceNe, Int.reducePow, Nat.reducePow, Nat.reduceSub, IntKind.bits]
          have wf3 : WF x3 := by rw [← hx3]; simp (maxSteps := 10000000) (maxDischargeDepth := 30) only [gm2, lm2, lj2, kp2, wf2, wf2.1, go_sem, Nat.reduceEqDiff, ↓reduceIte, Nat.reduceAdd, Nat.reduceMul, Nat.reduceLeDiff, Nat.reduceLT, reduceCtorEq, Int.reduceToNat, Int.reduceLE, Int.reduceLT, Int.reduceEq, Int.reduceNeg, Int.reduceNe, Int.reducePow, Nat.reducePow, Nat.reduceSub, IntKind.bits]
          have lm3 : h.len < x3.len := lt_of_get gm3
          have lj3 : h.len ≤ x3.len := by omega
          clear hx3
          refine ru_loop (fun i => 7 - i) (GL3 g h.len x2.len x3) 0 ?_ ?_
          · unfold GL3
            simp (maxSteps := 10000000) (maxDischargeDepth := 30) only [Int.natCast_zero, e1, go_sem, Nat.reduceEqDiff, ↓reduceIte, Nat.reduceAdd, Nat.reduceMul, Nat.reduceLeDiff, Nat.reduceLT, reduceCtorEq, Int.reduceToNat, Int.reduceLE, Int.reduceLT, Int.reduceEq, Int.reduceNeg, Int.reduceNe, Int.reducePow, Nat.reducePow, Nat.reduceSub, IntKind.bits]
          · rintro i s hh ⟨e1, ea, ei, rfl, hi, hp⟩
            have hcase : i = 0 ∨ i = 1 ∨ i = 2 ∨ i = 3 ∨ i = 4 ∨ i = 5 ∨ i = 6 ∨ i = 7 := by omega
            rcases hcase with rfl | rfl | rfl | rfl | rfl | rfl | rfl | rfl
            · have hnat : ((0 : Nat) : Int) = 0 := rfl
              have hsuc : IntKind.i64.wrap 1 = ((1 : Nat) : Int) := by decide
              rw [hnat] at ei
              have htn : Int.toNat 0 = 0 := rfl
              by_cases d1 : g.topMany < 0
              · have hR := h7 (by unfold geoBad; omega)
                simp (maxSteps := 10000000) (maxDischargeDepth := 30) only [e1, ea, ei, gm3, ga3, kp3, wf3, hsuc, htn, Nat.mul_one, d1, hR, go_sem, Nat.reduceEqDiff, ↓reduceIte, Nat.reduceAdd, Nat.reduceMul, Nat.reduceLeDiff, Nat.reduceLT, reduceCtorEq, Int.reduceToNat, Int.reduceLE, Int.reduceLT, Int.reduceEq, Int.reduceNeg, Int.reduceNe, Int.reducePow, Nat.reducePow, Nat.reduceSub, IntKind.bits]
              by_cases d2 : 1048576 < g.topMany
              · have hR := h7 (by unfold geoBad; omega)
                simp (maxSteps := 10000000) (maxDischargeDepth := 30) only [e1, ea, ei, gm3, ga3, kp3, wf3, hsuc, htn, Nat.mul_one, d1, d2, hR, go_sem, Nat.reduceEqDiff, ↓reduceIte, Nat.reduceAdd, Nat.reduceMul, Nat.reduceLeDiff, Nat.reduceLT, reduceCtorEq, Int.reduceToNat, Int.reduceLE, Int.reduceLT, Int.reduceEq, Int.reduceNeg, Int.reduceNe, Int.reducePow, Nat.reducePow, Nat.reduceSub, IntKind.bits]
              by_cases d3 : 4 < g.topMany
              · have hR := h7 (by unfold geoBad; omega)
                simp (maxSteps := 10000000) (maxDischargeDepth := 30) only [e1, ea, ei, gm3, ga3, kp3, wf3, hsuc, htn, Nat.mul_one, d1, d2, d3, hR, go_sem, Nat.reduceEqDiff, ↓reduceIte, Nat.reduceAdd, Nat.reduceMul, Nat.reduceLeDiff, Nat.reduceLT, reduceCtorEq, Int.reduceToNat, Int.reduceLE, Int.reduceLT, Int.reduceEq, Int.reduceNeg, Int.reduceNe, Int.reducePow, Nat.reducePow, Nat.reduceSub, IntKind.bits]
              simp (maxSteps := 10000000) (maxDischargeDepth := 30) only [e1, ea, ei, gm3, ga3, kp3, wf3, hsuc, htn, Nat.mul_one, d1, d2, d3, go_sem, Nat.reduceEqDiff, ↓reduceIte, Nat.reduceAdd, Nat.reduceMul, Nat.reduceLeDiff, Nat.reduceLT, reduceCtorEq, Int.reduceToNat, Int.reduceLE, Int.reduceLT, Int.reduceEq, Int.reduceNeg, Int.reduceNe, Int.reducePow, Nat.reducePow, Nat.reduceSub, IntKind.bits]
              refine ⟨0 + 1, by omega, ?_⟩
              unfold GL3
              simp (maxSteps := 10000000) (maxDischargeDepth := 30) only [e1, ea, ei, gm3, ga3, kp3, wf3, go_sem, Nat.reduceEqDiff, ↓reduceIte, Nat.reduceAdd, Nat.reduceMul, Nat.reduceLeDiff, Nat.reduceLT, reduceCtorEq, Int.reduceToNat, Int.reduceLE, Int.reduceLT, Int.reduceEq, Int.reduceNeg, Int.reduceNe, Int.reducePow, Nat.reducePow, Nat.reduceSub, IntKind.bits]
              omega
            · have hnat : ((1 : Nat) : Int) = 1 := rfl
              have hsuc : IntKind.i64.wrap (1 + 1) = ((1 + 1 : Nat) : Int) := by decide
              rw [hnat] at ei
              have htn : Int.toNat 1 = 1 := rfl
              by_cases d1 : g.botMany < 0
              · have hR := h7 (by unfold geoBad; omega)
                simp (maxSteps := 10000000) (maxDischargeDepth := 30) only [e1, ea, ei, gm3, ga3, kp3, wf3, hsuc, htn, Nat.mul_one, d1, hR, go_sem, Nat.reduceEqDiff, ↓reduceIte, Nat.reduceAdd, Nat.reduceMul, Nat.reduceLeDiff, Nat.reduceLT, reduceCtorEq, Int.reduceToNat, Int.reduceLE, Int.reduceLT, Int.reduceEq, Int.reduceNeg, Int.reduceNe, Int.reducePow, Nat.reducePow, Nat.reduceSub, IntKind.bits]
              by_cases d2 : 1048576 < g.botMany
              · have hR := h7 (by unfold geoBad; omega)
                simp (maxSteps := 10000000) (maxDischargeDepth := 30) only [e1, ea, ei, gm3, ga3, kp3, wf3, hsuc, htn, Nat.mul_one, d1, d2, hR, go_sem, Nat.reduceEqDiff, ↓reduceIte, Nat.reduceAdd, Nat.reduceMul, Nat.reduceLeDiff, Nat.reduceLT, reduceCtorEq, Int.reduceToNat, Int.reduceLE, Int.reduceLT, Int.reduceEq, Int.reduceNeg, Int.reduceNe, Int.reducePow, Nat.reducePow, Nat.reduceSub, IntKind.bits]
              by_cases d3 : 4 < g.botMany
              · have hR := h7 (by unfold geoBad; omega)
                simp (maxSteps := 10000000) (maxDischargeDepth := 30) only [e1, ea, ei, gm3, ga3, kp3, wf3, hsuc, htn, Nat.mul_one, d1, d2, d3, hR, go_sem, Nat.reduceEqDiff, ↓reduceIte, Nat.reduceAdd, Nat.reduceMul, Nat.reduceLeDiff, Nat.reduceLT, reduceCtorEq, Int.reduceToNat, Int.reduceLE, Int.reduceLT, Int.reduceEq, Int.reduceNeg, Int.reduceNe, Int.reducePow, Nat.reducePow, Nat.reduceSub, IntKind.bits]
              simp (maxSteps := 10000000) (maxDischargeDepth := 30) only [e1, ea, ei, gm3, ga3, kp3, wf3, hsuc, htn, Nat.mul_one, d1, d2, d3, go_sem, Nat.reduceEqDiff, ↓reduceIte, Nat.reduceAdd, Nat.reduceMul, Nat.reduceLeDiff, Nat.reduceLT, reduceCtorEq, Int.reduceToNat, Int.reduceLE, Int.reduceLT, Int.reduceEq, Int.reduceNeg, Int.reduceNe, Int.reducePow, Nat.reducePow, Nat.reduceSub, IntKind.bits]
              refine ⟨1 + 1, by omega, ?_⟩
              unfold GL3
              simp (maxSteps := 10000000) (maxDischargeDepth := 30) only [e1, ea, ei, gm3, ga3, kp3, wf3, go_sem, Nat.reduceEqDiff, ↓reduceIte, Nat.reduceAdd, Nat.reduceMul, Nat.reduceLeDiff, Nat.reduceLT, reduceCtorEq, Int.reduceToNat, Int.reduceLE, Int.reduceLT, Int.reduceEq, Int.reduceNeg, Int.reduceNe, Int.reducePow, Nat.reducePow, Nat.reduceSub, IntKind.bits]
              omega
            · have hnat : ((2 : Nat) : Int) = 2 := rfl
              have hsuc : IntKind.i64.wrap (2 + 1) = ((2 + 1 : Nat) : Int) := by decide
              rw [hnat] at ei
              have htn : Int.toNat 2 = 2 := rfl
              by_cases d1 : g.club < 0
              · have hR := h7 (by unfold geoBad; omega)
                simp (maxSteps := 10000000) (maxDischargeDepth := 30) only [e1, ea, ei, gm3, ga3, kp3, wf3, hsuc, htn, Nat.mul_one, d1, hR, go_sem, Nat.reduceEqDiff, ↓reduceIte, Nat.reduceAdd, Nat.reduceMul, Nat.reduceLeDiff, Nat.reduceLT, reduceCtorEq, Int.reduceToNat, Int.reduceLE, Int.reduceLT, Int.reduceEq, Int.reduceNeg, Int.reduceNe, Int.reducePow, Nat.reducePow, Nat.reduceSub, IntKind.bits]
              by_cases d2 : 1048576 < g.club
              · have hR := h7 (by unfold geoBad; omega)
                simp (maxSteps := 10000000) (maxDischargeDepth := 30) only [e1, ea, ei, gm3, ga3, kp3, wf3, hsuc, htn, Nat.mul_one, d1, d2, hR, go_sem, Nat.reduceEqDiff, ↓reduceIte, Nat.reduceAdd, Nat.reduceMul, Nat.reduceLeDiff, Nat.reduceLT, reduceCtorEq, Int.reduceToNat, Int.reduceLE, Int.reduceLT, Int.reduceEq, Int.reduceNeg, Int.reduceNe, Int.reducePow, Nat.reducePow, Nat.reduceSub, IntKind.bits]
              simp (maxSteps := 10000000) (maxDischargeDepth := 30) only [e1, ea, ei, gm3, ga3, kp3, wf3, hsuc, htn, Nat.mul_one, d1, d2, go_sem, Nat.reduceEqDiff, ↓reduceIte, Nat.reduceAdd, Nat.reduceMul, Nat.reduceLeDiff, Nat.reduceLT, reduceCtorEq, Int.reduceToNat, Int.reduceLE, Int.reduceLT, Int.reduceEq, Int.reduceNeg, Int.reduceNe, Int.reducePow, Nat.reducePow, Nat.reduceSub, IntKind.bits]
              refine ⟨2 + 1, by omega, ?_⟩
              unfold GL3
              simp (maxSteps := 10000000) (maxDischargeDepth := 30) only [e1, ea, ei, gm3, ga3, kp3, wf3, go_sem, Nat.reduceEqDiff, ↓reduceIte, Nat.reduceAdd, Nat.reduceMul, Nat.reduceLeDiff, Nat.reduceLT, reduceCtorEq, Int.reduceToNat, Int.reduceLE, Int.reduceLT, Int.reduceEq, Int.reduceNeg, Int.reduceNe, Int.reducePow, Nat.reducePow, Nat.reduceSub, IntKind.bits]
              omega
            · have hnat : ((3 : Nat) : Int) = 3 := rfl
              have hsuc : IntKind.i64.wrap (3 + 1) = ((3 + 1 : Nat) : Int) := by decide
              rw [hnat] at ei
              have htn : Int.toNat 3 = 3 := rfl
              by_cases d1 : g.widow < 0
              · have hR := h7 (by unfold geoBad; omega)
                simp (maxSteps := 10000000) (maxDischargeDepth := 30) only [e1, ea, ei, gm3, ga3, kp3, wf3, hsuc, htn, Nat.mul_one, d1, hR, go_sem, Nat.reduceEqDiff, ↓reduceIte, Nat.reduceAdd, Nat.reduceMul, Nat.reduceLeDiff, Nat.reduceLT, reduceCtorEq, Int.reduceToNat, Int.reduceLE, Int.reduceLT, Int.reduceEq, Int.reduceNeg, Int.reduceNe, Int.reducePow, Nat.reducePow, Nat.reduceSub, IntKind.bits]
              by_cases d2 : 1048576 < g.widow
              · have hR := h7 (by unfold geoBad; omega)
                simp (maxSteps := 10000000) (maxDischargeDepth := 30) only [e1, ea, ei, gm3, ga3, kp3, wf3, hsuc, htn, Nat.mul_one, d1, d2, hR, go_sem, Nat.reduceEqDiff, ↓reduceIte, Nat.reduceAdd, Nat.reduceMul, Nat.reduceLeDiff, Nat.reduceLT, reduceCtorEq, Int.reduceToNat, Int.reduceLE, Int.reduceLT, Int.reduceEq, Int.reduceNeg, Int.reduceNe, Int.reducePow, Nat.reducePow, Nat.reduceSub, IntKind.bits]
              simp (maxSteps := 10000000) (maxDischargeDepth := 30) only [e1, ea, ei, gm3, ga3, kp3, wf3, hsuc, htn, Nat.mul_one, d1, d2, go_sem, Nat.reduceEqDiff, ↓reduceIte, Nat.reduceAdd, Nat.reduceMul, Nat.reduceLeDiff, Nat.reduceLT, reduceCtorEq, Int.reduceToNat, Int.reduceLE, Int.reduceLT, Int.reduceEq, Int.reduceNeg, Int.reduceNe, Int.reducePow, Nat.reducePow, Nat.reduceSub, IntKind.bits]
              refine ⟨3 + 1, by omega, ?_⟩
              unfold GL3
              simp (maxSteps := 10000000) (maxDischargeDepth := 30) only [e1, ea, ei, gm3, ga3, kp3, wf3, go_sem, Nat.reduceEqDiff, ↓reduceIte, Nat.reduceAdd, Nat.reduceMul, Nat.reduceLeDiff, Nat.reduceLT, reduceCtorEq, Int.reduceToNat, Int.reduceLE, Int.reduceLT, Int.reduceEq, Int.reduceNeg, Int.reduceNe, Int.reducePow, Nat.reducePow, Nat.reduceSub, IntKind.bits]
              omega
            · have hnat : ((4 : Nat) : Int) = 4 := rfl
              have hsuc : IntKind.i64.wrap (4 + 1) = ((4 + 1 : Nat) : Int) := by decide
              rw [hnat] at ei
              have htn : Int.toNat 4 = 4 := rfl
              by_cases d1 : g.split < 0
              · have hR := h7 (by unfold geoBad; omega)
                simp (maxSteps := 10000000) (maxDischargeDepth := 30) only [e1, ea, ei, gm3, ga3, kp3, wf3, hsuc, htn, Nat.mul_one, d1, hR, go_sem, Nat.reduceEqDiff, ↓reduceIte, Nat.reduceAdd, Nat.reduceMul, Nat.reduceLeDiff, Nat.reduceLT, reduceCtorEq, Int.reduceToNat, Int.reduceLE, Int.reduceLT, Int.reduceEq, Int.reduceNeg, Int.reduceNe, Int.reducePow, Nat.reducePow, Nat.reduceSub, IntKind.bits]
              by_cases d2 : 1048576 < g.split
              · have hR := h7 (by unfold geoBad; omega)
                simp (maxSteps := 10000000) (maxDischargeDepth := 30) only [e1, ea, ei, gm3, ga3, kp3, wf3, hsuc, htn, Nat.mul_one, d1, d2, hR, go_sem, Nat.reduceEqDiff, ↓reduceIte, Nat.reduceAdd, Nat.reduceMul, Nat.reduceLeDiff, Nat.reduceLT, reduceCtorEq, Int.reduceToNat, Int.reduceLE, Int.reduceLT, Int.reduceEq, Int.reduceNeg, Int.reduceNe, Int.reducePow, Nat.reducePow, Nat.reduceSub, IntKind.bits]
              simp (maxSteps := 10000000) (maxDischargeDepth := 30) only [e1, ea, ei, gm3, ga3, kp3, wf3, hsuc, htn, Nat.mul_one, d1, d2, go_sem, Nat.reduceEqDiff, ↓reduceIte, Nat.reduceAdd, Nat.reduceMul, Nat.reduceLeDiff, Nat.reduceLT, reduceCtorEq, Int.reduceToNat, Int.reduceLE, Int.reduceLT, Int.reduceEq, Int.reduceNeg, Int.reduceNe, Int.reducePow, Nat.reducePow, Nat.reduceSub, IntKind.bits]
              refine ⟨4 + 1, by omega, ?_⟩
              unfold GL3
              simp (maxSteps := 10000000) (maxDischargeDepth := 30) only [e1, ea, ei, gm3, ga3, kp3, wf3, go_sem, Nat.reduceEqDiff, ↓reduceIte, Nat.reduceAdd, Nat.reduceMul, Nat.reduceLeDiff, Nat.reduceLT, reduceCtorEq, Int.reduceToNat, Int.reduceLE, Int.reduceLT, Int.reduceEq, Int.reduceNeg, Int.reduceNe, Int.reducePow, Nat.reducePow, Nat.reduceSub, IntKind.bits]
              omega
            · have hnat : ((5 : Nat) : Int) = 5 := rfl
              have hsuc : IntKind.i64.wrap (5 + 1) = ((5 + 1 : Nat) : Int) := by decide
              rw [hnat] at ei
              have htn : Int.toNat 5 = 5 := rfl
              by_cases d1 : g.defer_ < 0
              · have hR := h7 (by unfold geoBad; omega)
                simp (maxSteps := 10000000) (maxDischargeDepth := 30) only [e1, ea, ei, gm3, ga3, kp3, wf3, hsuc, htn, Nat.mul_one, d1, hR, go_sem, Nat.reduceEqDiff, ↓reduceIte, Nat.reduceAdd, Nat.reduceMul, Nat.reduceLeDiff, Nat.reduceLT, reduceCtorEq, Int.reduceToNat, Int.reduceLE, Int.reduceLT, Int.reduceEq, Int.reduceNeg, Int.reduceNe, Int.reducePow, Nat.reducePow, Nat.reduceSub, IntKind.bits]
              by_cases d2 : 1048576 < g.defer_
              · have hR := h7 (by unfold geoBad; omega)
                simp (maxSteps := 10000000) (maxDischargeDepth := 30) only [e1, ea, ei, gm3, ga3, kp3, wf3, hsuc, htn, Nat.mul_one, d1, d2, hR, go_sem, Nat.reduceEqDiff, ↓reduceIte, Nat.reduceAdd, Nat.reduceMul, Nat.reduceLeDiff, Nat.reduceLT, reduceCtorEq, Int.reduceToNat, Int.reduceLE, Int.reduceLT, Int.reduceEq, Int.reduceNeg, Int.reduceNe, Int.reducePow, Nat.reducePow, Nat.reduceSub, IntKind.bits]
              simp (maxSteps := 10000000) (maxDischargeDepth := 30) only [e1, ea, ei, gm3, ga3, kp3, wf3, hsuc, htn, Nat.mul_one, d1, d2, go_sem, Nat.reduceEqDiff, ↓reduceIte, Nat.reduceAdd, Nat.reduceMul, Nat.reduceLeDiff, Nat.reduceLT, reduceCtorEq, Int.reduceToNat, Int.reduceLE, Int.reduceLT, Int.reduceEq, Int.reduceNeg, Int.reduceNe, Int.reducePow, Nat.reducePow, Nat.reduceSub, IntKind.bits]
              refine ⟨5 + 1, by omega, ?_⟩
              unfold GL3
              simp (maxSteps := 10000000) (maxDischargeDepth := 30) only [e1, ea, ei, gm3, ga3, kp3, wf3, go_sem, Nat.reduceEqDiff, ↓reduceIte, Nat.reduceAdd, Nat.reduceMul, Nat.reduceLeDiff, Nat.reduceLT, reduceCtorEq, Int.reduceToNat, Int.reduceLE, Int.reduceLT, Int.reduceEq, Int.reduceNeg, Int.reduceNe, Int.reducePow, Nat.reducePow, Nat.reduceSub, IntKind.bits]
              omega
            · have hnat : ((6 : Nat) : Int) = 6 := rfl
              have hsuc : IntKind.i64.wrap (6 + 1) = ((6 + 1 : Nat) : Int) := by decide
              rw [hnat] at ei
              have htn : Int.toNat 6 = 6 := rfl
              by_cases d1 : g.spare < 0
              · have hR := h7 (by unfold geoBad; omega)
                simp (maxSteps := 10000000) (maxDischargeDepth := 30) only [e1, ea, ei, gm3, ga3, kp3, wf3, hsuc, htn, Nat.mul_one, d1, hR, go_sem, Nat.reduceEqDiff, ↓reduceIte, Nat.reduceAdd, Nat.reduceMul, Nat.reduceLeDiff, Nat.reduceLT, reduceCtorEq, Int.reduceToNat, Int.reduceLE, Int.reduceLT, Int.reduceEq, Int.reduceNeg, Int.reduceNe, Int.reducePow, Nat.reducePow, Nat.reduceSub, IntKind.bits]
              by_cases d2 : 1048576 < g.spare
              · have hR := h7 (by unfold geoBad; omega)
                simp (maxSteps := 10000000) (maxDischargeDepth := 30) only [e1, ea, ei, gm3, ga3, kp3, wf3, hsuc, htn, Nat.mul_one, d1, d2, hR, go_sem, Nat.reduceEqDiff, ↓reduceIte, Nat.reduceAdd, Nat.reduceMul, Nat.reduceLeDiff, Nat.reduceLT, reduceCtorEq, Int.reduceToNat, Int.reduceLE, Int.reduceLT, Int.reduceEq, Int.reduceNeg, Int.reduceNe, Int.reducePow, Nat.reducePow, Nat.reduceSub, IntKind.bits]
              simp (maxSteps := 10000000) (maxDischargeDepth := 30) only [e1, ea, ei, gm3, ga3, kp3, wf3, hsuc, htn, Nat.mul_one, d1, d2, go_sem, Nat.reduceEqDiff, ↓reduceIte, Nat.reduceAdd, Nat.reduceMul, Nat.reduceLeDiff, Nat.reduceLT, reduceCtorEq, Int.reduceToNat, Int.reduceLE, Int.reduceLT, Int.reduceEq, Int.reduceNeg, Int.reduceNe, Int.reducePow, Nat.reducePow, Nat.reduceSub, IntKind.bits]
              refine ⟨6 + 1, by omega, ?_⟩
              unfold GL3
              simp (maxSteps := 10000000) (maxDischargeDepth := 30) only [e1, ea, ei, gm3, ga3, kp3, wf3, go_sem, Nat.reduceEqDiff, ↓reduceIte, Nat.reduceAdd, Nat.reduceMul, Nat.reduceLeDiff, Nat.reduceLT, reduceCtorEq, Int.reduceToNat, Int.reduceLE, Int.reduceLT, Int.reduceEq, Int.reduceNeg, Int.reduceNe, Int.reducePow, Nat.reducePow, Nat.reduceSub, IntKind.bits]
              omega
            · have hnat : ((7 : Nat) : Int) = 7 := rfl
              rw [hnat] at ei
              by_cases f0 : g.high < g.first
              · have hR := h7 (by unfold geoBad; omega)
                simp (maxSteps := 10000000) (maxDischargeDepth := 30) only [e1, ea, ei, gm3, ga3, kp3, wf3, f0, hR, go_sem, Nat.reduceEqDiff, ↓reduceIte, Nat.reduceAdd, Nat.reduceMul, Nat.reduceLeDiff, Nat.reduceLT, reduceCtorEq, Int.reduceToNat, Int.reduceLE, Int.reduceLT, Int.reduceEq, Int.reduceNeg, Int.reduceNe, Int.reducePow, Nat.reducePow, Nat.reduceSub, IntKind.bits]
              by_cases f1 : g.first < g.grid
              · have hR := h7 (by unfold geoBad; omega)
                simp (maxSteps := 10000000) (maxDischargeDepth := 30) only [e1, ea, ei, gm3, ga3, kp3, wf3, f0, f1, hR, go_sem, Nat.reduceEqDiff, ↓reduceIte, Nat.reduceAdd, Nat.reduceMul, Nat.reduceLeDiff, Nat.reduceLT, reduceCtorEq, Int.reduceToNat, Int.reduceLE, Int.reduceLT, Int.reduceEq, Int.reduceNeg, Int.reduceNe, Int.reducePow, Nat.reducePow, Nat.reduceSub, IntKind.bits]
              by_cases f2 : 536870912 < g.grid
              · have hR := h7 (by unfold geoBad; omega)
                simp (maxSteps := 10000000) (maxDischargeDepth := 30) only [e1, ea, ei, gm3, ga3, kp3, wf3, f0, f1, f2, hR, go_sem, Nat.reduceEqDiff, ↓reduceIte, Nat.reduceAdd, Nat.reduceMul, Nat.reduceLeDiff, Nat.reduceLT, reduceCtorEq, Int.reduceToNat, Int.reduceLE, Int.reduceLT, Int.reduceEq, Int.reduceNeg, Int.reduceNe, Int.reducePow, Nat.reducePow, Nat.reduceSub, IntKind.bits]
              by_cases f3 : 536870912 < g.rule
              · have hR := h7 (by unfold geoBad; omega)
                simp (maxSteps := 10000000) (maxDischargeDepth := 30) only [e1, ea, ei, gm3, ga3, kp3, wf3, f0, f1, f2, f3, hR, go_sem, Nat.reduceEqDiff, ↓reduceIte, Nat.reduceAdd, Nat.reduceMul, Nat.reduceLeDiff, Nat.reduceLT, reduceCtorEq, Int.reduceToNat, Int.reduceLE, Int.reduceLT, Int.reduceEq, Int.reduceNeg, Int.reduceNe, Int.reducePow, Nat.reducePow, Nat.reduceSub, IntKind.bits]
              by_cases f4 : 536870912 < g.sep
              · have hR := h7 (by unfold geoBad; omega)
                simp (maxSteps := 10000000) (maxDischargeDepth := 30) only [e1, ea, ei, gm3, ga3, kp3, wf3, f0, f1, f2, f3, f4, hR, go_sem, Nat.reduceEqDiff, ↓reduceIte, Nat.reduceAdd, Nat.reduceMul, Nat.reduceLeDiff, Nat.reduceLT, reduceCtorEq, Int.reduceToNat, Int.reduceLE, Int.reduceLT, Int.reduceEq, Int.reduceNeg, Int.reduceNe, Int.reducePow, Nat.reducePow, Nat.reduceSub, IntKind.bits]
              have hR : geoCheck g = 0 := by rw [hC, if_neg (by unfold geoBad; omega)]
              simp (maxSteps := 10000000) (maxDischargeDepth := 30) only [e1, ea, ei, gm3, ga3, kp3, wf3, f0, f1, f2, f3, f4, hR, go_sem, Nat.reduceEqDiff, ↓reduceIte, Nat.reduceAdd, Nat.reduceMul, Nat.reduceLeDiff, Nat.reduceLT, reduceCtorEq, Int.reduceToNat, Int.reduceLE, Int.reduceLT, Int.reduceEq, Int.reduceNeg, Int.reduceNe, Int.reducePow, Nat.reducePow, Nat.reduceSub, IntKind.bits]
end Go.LM
