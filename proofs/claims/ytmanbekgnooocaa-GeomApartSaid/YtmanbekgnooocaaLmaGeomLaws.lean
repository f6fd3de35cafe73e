import Derived.Test.YtmanbekgnooocaaLmaGeom3
namespace Go.LM
open Go.Proofs
set_option maxRecDepth 4000
set_option maxHeartbeats 4000000
set_option linter.unusedSimpArgs false

theorem lob0 : H0.lob = 0 := rfl
theorem lGeomTells (g : Geo) (n : Int) (h1 : -9223372036854775808 ≤ n) (h2 : n < 9223372036854775808) : ∃ h', runI Try.prog TA 9 [g.e, .int .i64 n] H0 = some (.bool true, h') := by
  refine true_of rfl res9 rfl ?_
  have a1 := cGCheck g; have a2 := cRGCheck g; have a3 := cGCol g n; have a4 := cRGCol g n; have a5 := cGHigh g n; have a6 := cRGHigh g n
  have a7 := cGPage g n h1 h2; have a8 := cRGPage g n h1 h2; have a9 := cGX g n h1 h2; have a10 := cRGX g n h1 h2
  simp only [Geo.e] at *
  simp (maxSteps := 10000000) (maxDischargeDepth := 30) only [q9, r9, wf0, a1, a2, a3, a4, a5, a6, a7, a8, a9, a10, awAwake13, go_sem, Nat.reduceEqDiff, ↓reduceIte, Nat.reduceAdd, Nat.reduceMul, Nat.reduceLeDiff, Nat.reduceLT, reduceCtorEq, Int.reduceToNat, Int.reduceLE, Int.reduceLT, Int.reduceEq, Int.reduceNeg, Int.reduceNe, Int.reducePow, Nat.reducePow, Nat.reduceSub, IntKind.bits]
theorem lGeomPlain (c s : Int) : ∃ h', runI Try.prog TA 10 [.int .i64 c, .int .i64 s] H0 = some (.bool true, h') := by
  refine true_of rfl res10 rfl ?_
  have a1 := cGPlain c s
  have a2 := cGCheck (geoPlain c s)
  have hgood : 1 ≤ c → c ≤ 8 → 1 ≤ s → s ≤ 1073741823 → geoCheck (geoPlain c s) = 0 := by
    intro d1 d2 d3 d4
    unfold geoCheck; rw [if_neg (by simp [geoPlain]; omega), if_neg (by simp [geoBad, geoPlain]; omega)]
  have hbad : (¬ 1 ≤ c ∨ ¬ c ≤ 8 ∨ ¬ 1 ≤ s ∨ ¬ s ≤ 1073741823) → geoCheck (geoPlain c s) ≠ 0 := by
    intro hd hc; have := geoOk hc; simp [geoBad, geoPlain] at this; omega
  generalize geoCheck (geoPlain c s) = z at *
  simp only [Geo.e, geoPlain] at a1 a2
  by_cases d1 : 1 ≤ c
  · by_cases d2 : c ≤ 8
    · by_cases d3 : 1 ≤ s
      · by_cases d4 : s ≤ 1073741823
        · have hR := hgood d1 d2 d3 d4
          simp (maxSteps := 10000000) (maxDischargeDepth := 30) only [q10, r10, wf0, lob0, a1, a2, d1, d2, d3, d4, hR, awAwake13, go_sem, Nat.reduceEqDiff, ↓reduceIte, Nat.reduceAdd, Nat.reduceMul, Nat.reduceLeDiff, Nat.reduceLT, reduceCtorEq, Int.reduceToNat, Int.reduceLE, Int.reduceLT, Int.reduceEq, Int.reduceNeg, Int.reduceNe, Int.reducePow, Nat.reducePow, Nat.reduceSub, IntKind.bits]
        · have hR : (decide (z = 0)) = false := by simpa using hbad (by omega)
          simp (maxSteps := 10000000) (maxDischargeDepth := 30) only [q10, r10, wf0, lob0, a1, a2, d1, d2, d3, d4, hR, awAwake13, go_sem, Nat.reduceEqDiff, ↓reduceIte, Nat.reduceAdd, Nat.reduceMul, Nat.reduceLeDiff, Nat.reduceLT, reduceCtorEq, Int.reduceToNat, Int.reduceLE, Int.reduceLT, Int.reduceEq, Int.reduceNeg, Int.reduceNe, Int.reducePow, Nat.reducePow, Nat.reduceSub, IntKind.bits]
      · have hR : (decide (z = 0)) = false := by simpa using hbad (by omega)
        simp (maxSteps := 10000000) (maxDischargeDepth := 30) only [q10, r10, wf0, lob0, a1, a2, d1, d2, d3, hR, awAwake13, go_sem, Nat.reduceEqDiff, ↓reduceIte, Nat.reduceAdd, Nat.reduceMul, Nat.reduceLeDiff, Nat.reduceLT, reduceCtorEq, Int.reduceToNat, Int.reduceLE, Int.reduceLT, Int.reduceEq, Int.reduceNeg, Int.reduceNe, Int.reducePow, Nat.reducePow, Nat.reduceSub, IntKind.bits]
    · have hR : (decide (z = 0)) = false := by simpa using hbad (by omega)
      simp (maxSteps := 10000000) (maxDischargeDepth := 30) only [q10, r10, wf0, lob0, a1, a2, d1, d2, hR, awAwake13, go_sem, Nat.reduceEqDiff, ↓reduceIte, Nat.reduceAdd, Nat.reduceMul, Nat.reduceLeDiff, Nat.reduceLT, reduceCtorEq, Int.reduceToNat, Int.reduceLE, Int.reduceLT, Int.reduceEq, Int.reduceNeg, Int.reduceNe, Int.reducePow, Nat.reducePow, Nat.reduceSub, IntKind.bits]
  · have hR : (decide (z = 0)) = false := by simpa using hbad (by omega)
    simp (maxSteps := 10000000) (maxDischargeDepth := 30) only [q10, r10, wf0, lob0, a1, a2, d1, hR, awAwake13, go_sem, Nat.reduceEqDiff, ↓reduceIte, Nat.reduceAdd, Nat.reduceMul, Nat.reduceLeDiff, Nat.reduceLT, reduceCtorEq, Int.reduceToNat, Int.reduceLE, Int.reduceLT, Int.reduceEq, Int.reduceNeg, Int.reduceNe, Int.reducePow, Nat.reducePow, Nat.reduceSub, IntKind.bits]
theorem pageFacts (c n : Int) (h1 : 1 ≤ c) (h2 : c ≤ 8) (h3 : 0 ≤ n) : n / c * c + n % c = n ∧ 0 ≤ n % c ∧ n % c < c ∧ (n + 1) / c * c + (n + 1) % c = n + 1 ∧ 0 ≤ (n + 1) % c ∧ (n + 1) % c < c ∧
    (n / c = (n + 1) / c → (n + 1) % c = n % c + 1) ∧ (n / c ≠ (n + 1) / c → (n + 1) % c = 0) ∧ (n / c = 0 ↔ n < c) ∧ 0 ≤ n / c ∧ n / c ≤ n ∧ 0 ≤ (n + 1) / c ∧ (n + 1) / c ≤ n + 1 ∧
    0 ≤ n / c * c ∧ n / c * c ≤ n ∧ 0 ≤ (n + 1) / c * c ∧ (n + 1) / c * c ≤ n + 1 := by
  have : c = 1 ∨ c = 2 ∨ c = 3 ∨ c = 4 ∨ c = 5 ∨ c = 6 ∨ c = 7 ∨ c = 8 := by omega
  rcases this with rfl | rfl | rfl | rfl | rfl | rfl | rfl | rfl <;> omega
theorem lGeomApart (g : Geo) (n : Int) (h1 : -9223372036854775808 ≤ n) (h2 : n < 9223372036854775808) : ∃ h', runI Try.prog TA 11 [g.e, .int .i64 n] H0 = some (.bool true, h') := by
  refine true_of rfl res11 rfl ?_
  have a1 := cGCheck g
  simp only [Geo.e] at a1
  by_cases c : geoCheck g = 0
  rotate_left
  · have c' : decide (geoCheck g = 0) = false := by simp [c]
    simp (maxSteps := 10000000) (maxDischargeDepth := 30) only [q11, r11, Geo.e, wf0, lob0, a1, c', awAwake13, go_sem, Nat.reduceEqDiff, ↓reduceIte, Nat.reduceAdd, Nat.reduceMul, Nat.reduceLeDiff, Nat.reduceLT, reduceCtorEq, Int.reduceToNat, Int.reduceLE, Int.reduceLT, Int.reduceEq, Int.reduceNeg, Int.reduceNe, Int.reducePow, Nat.reducePow, Nat.reduceSub, IntKind.bits]
  by_cases n0 : n < 0
  · simp (maxSteps := 10000000) (maxDischargeDepth := 30) only [q11, r11, Geo.e, wf0, lob0, a1, c, n0, awAwake13, go_sem, Nat.reduceEqDiff, ↓reduceIte, Nat.reduceAdd, Nat.reduceMul, Nat.reduceLeDiff, Nat.reduceLT, reduceCtorEq, Int.reduceToNat, Int.reduceLE, Int.reduceLT, Int.reduceEq, Int.reduceNeg, Int.reduceNe, Int.reducePow, Nat.reducePow, Nat.reduceSub, IntKind.bits]
  by_cases n1 : 1099511627776 < n
  · simp (maxSteps := 10000000) (maxDischargeDepth := 30) only [q11, r11, Geo.e, wf0, lob0, a1, c, n0, n1, awAwake13, go_sem, Nat.reduceEqDiff, ↓reduceIte, Nat.reduceAdd, Nat.reduceMul, Nat.reduceLeDiff, Nat.reduceLT, reduceCtorEq, Int.reduceToNat, Int.reduceLE, Int.reduceLT, Int.reduceEq, Int.reduceNeg, Int.reduceNe, Int.reducePow, Nat.reducePow, Nat.reduceSub, IntKind.bits]
  have hk := geoOk c
  have b1 := cGPage g n h1 h2
  have b2 := cGPage g (n + 1) (by omega) (by omega)
  have b3 := cGX g n h1 h2
  have b4 := cGX g (n + 1) (by omega) (by omega)
  have b5 := cGCol g n
  have b6 := fun k => cGHigh g k
  have m1 : max n 0 = n := by omega
  have m2 : max (n + 1) 0 = n + 1 := by omega
  have p1 : geoPage g n = (n / g.cols, n % g.cols) := by unfold geoPage; rw [if_pos c, m1]
  have p2 : geoPage g (n + 1) = ((n + 1) / g.cols, (n + 1) % g.cols) := by unfold geoPage; rw [if_pos c, m2]
  have x1 : geoX g n = n % g.cols * (g.wide + g.gap) := by unfold geoX; rw [if_pos c, p1]
  have x2 : geoX g (n + 1) = (n + 1) % g.cols * (g.wide + g.gap) := by unfold geoX; rw [if_pos c, p2]
  have hc : geoCol g n = min n g.cols := by unfold geoCol; rw [if_pos c, m1]
  obtain ⟨f1, f2, f3, f4, f5, f6, f7, f8, f9, f10, f11, f12, f13, f14, f15, f16, f17⟩ := pageFacts g.cols n hk.1 hk.2.1 (by omega)
  have w1 : IntKind.i64.wrap (n + 1) = n + 1 := wrap64 (by omega) (by omega)
  have w2 : IntKind.i64.wrap (n / g.cols * g.cols) = n / g.cols * g.cols := wrap64 (by omega) (by omega)
  have w3 : IntKind.i64.wrap (n / g.cols * g.cols + n % g.cols) = n := by rw [f1]; exact wrap64 (by omega) (by omega)
  have w4 : IntKind.i64.wrap ((n + 1) / g.cols * g.cols) = (n + 1) / g.cols * g.cols := wrap64 (by omega) (by omega)
  have w5 : IntKind.i64.wrap ((n + 1) / g.cols * g.cols + (n + 1) % g.cols) = n + 1 := by rw [f4]; exact w1
  have wg : 1 ≤ g.wide + g.gap ∧ g.wide + g.gap ≤ 2147483646 := by have := hk.2.2; unfold geoBad at this; omega
  have w6 : IntKind.i64.wrap (g.wide + g.gap) = g.wide + g.gap := wrap64 (by omega) (by omega)
  have r0 : (n % g.cols < 0) = False := by simp; omega
  have r1 : (g.cols ≤ n % g.cols) = False := by simp; omega
  have hh : geoHigh g (min n g.cols) = if n < g.cols then g.first else g.high := by
    unfold geoHigh; rw [if_pos c]
    by_cases d : n < g.cols
    · rw [if_pos d, if_pos (by omega)]
    · rw [if_neg d, if_neg (by omega)]
  simp only [p1] at b1
  simp only [p2] at b2
  rw [x1] at b3
  rw [x2] at b4
  rw [hc] at b5
  have b7 := b6 (min n g.cols)
  rw [hh] at b7
  simp only [Geo.e] at b1 b2 b3 b4 b5 b7
  by_cases e : n / g.cols = (n + 1) / g.cols
  · have e2 := f7 e
    have w7 : IntKind.i64.wrap ((n + 1) % g.cols * (g.wide + g.gap) - n % g.cols * (g.wide + g.gap)) = g.wide + g.gap := by
      rw [e2, Int.add_mul, Int.one_mul, show n % g.cols * (g.wide + g.gap) + (g.wide + g.gap) - n % g.cols * (g.wide + g.gap) = g.wide + g.gap by omega]; exact w6
    have e3 : decide (n / g.cols = (n + 1) / g.cols) = true := by simp [e]
    by_cases d : n < g.cols
    · rw [if_pos d] at b7
      have q0 : decide (0 < n / g.cols) = false := by simp; omega
      have q1 : decide (n / g.cols = 0) = true := by simp; omega
      simp (maxSteps := 10000000) (maxDischargeDepth := 30) only [q11, r11, Geo.e, wf0, lob0, a1, c, n0, n1, w1, b1, b2, b3, b4, b5, b7, w2, w3, w4, w5, w6, w7, r0, r1, e3, q0, q1, awAwake13, go_sem, Nat.reduceEqDiff, ↓reduceIte, Nat.reduceAdd, Nat.reduceMul, Nat.reduceLeDiff, Nat.reduceLT, reduceCtorEq, Int.reduceToNat, Int.reduceLE, Int.reduceLT, Int.reduceEq, Int.reduceNeg, Int.reduceNe, Int.reducePow, Nat.reducePow, Nat.reduceSub, IntKind.bits]
    · rw [if_neg d] at b7
      have q0 : 0 < n / g.cols := by omega
      have q1 : decide (n / g.cols = 0) = false := by simp; omega
      have q2 : decide (g.high = g.first) = true ∨ decide (g.high = g.first) = false := by cases decide (g.high = g.first) <;> simp
      rcases q2 with q2 | q2
      · simp (maxSteps := 10000000) (maxDischargeDepth := 30) only [q11, r11, Geo.e, wf0, lob0, a1, c, n0, n1, w1, b1, b2, b3, b4, b5, b7, w2, w3, w4, w5, w6, w7, r0, r1, e3, q0, q1, q2, awAwake13, go_sem, Nat.reduceEqDiff, ↓reduceIte, Nat.reduceAdd, Nat.reduceMul, Nat.reduceLeDiff, Nat.reduceLT, reduceCtorEq, Int.reduceToNat, Int.reduceLE, Int.reduceLT, Int.reduceEq, Int.reduceNeg, Int.reduceNe, Int.reducePow, Nat.reducePow, Nat.reduceSub, IntKind.bits]
      · simp (maxSteps := 10000000) (maxDischargeDepth := 30) only [q11, r11, Geo.e, wf0, lob0, a1, c, n0, n1, w1, b1, b2, b3, b4, b5, b7, w2, w3, w4, w5, w6, w7, r0, r1, e3, q0, q1, q2, awAwake13, go_sem, Nat.reduceEqDiff, ↓reduceIte, Nat.reduceAdd, Nat.reduceMul, Nat.reduceLeDiff, Nat.reduceLT, reduceCtorEq, Int.reduceToNat, Int.reduceLE, Int.reduceLT, Int.reduceEq, Int.reduceNeg, Int.reduceNe, Int.reducePow, Nat.reducePow, Nat.reduceSub, IntKind.bits]
  · have e2 := f8 e
    have e3 : decide (n / g.cols = (n + 1) / g.cols) = false := by simp [e]
    have x3 : (n + 1) % g.cols * (g.wide + g.gap) = 0 := by rw [e2, Int.zero_mul]
    by_cases d : n < g.cols
    · rw [if_pos d] at b7
      have q0 : decide (0 < n / g.cols) = false := by simp; omega
      have q1 : decide (n / g.cols = 0) = true := by simp; omega
      simp (maxSteps := 10000000) (maxDischargeDepth := 30) only [q11, r11, Geo.e, wf0, lob0, a1, c, n0, n1, w1, b1, b2, b3, b4, b5, b7, w2, w3, w4, w5, w6, x3, r0, r1, e3, q0, q1, awAwake13, go_sem, Nat.reduceEqDiff, ↓reduceIte, Nat.reduceAdd, Nat.reduceMul, Nat.reduceLeDiff, Nat.reduceLT, reduceCtorEq, Int.reduceToNat, Int.reduceLE, Int.reduceLT, Int.reduceEq, Int.reduceNeg, Int.reduceNe, Int.reducePow, Nat.reducePow, Nat.reduceSub, IntKind.bits]
    · rw [if_neg d] at b7
      have q0 : 0 < n / g.cols := by omega
      have q1 : decide (n / g.cols = 0) = false := by simp; omega
      have q2 : decide (g.high = g.first) = true ∨ decide (g.high = g.first) = false := by cases decide (g.high = g.first) <;> simp
      rcases q2 with q2 | q2
      · simp (maxSteps := 10000000) (maxDischargeDepth := 30) only [q11, r11, Geo.e, wf0, lob0, a1, c, n0, n1, w1, b1, b2, b3, b4, b5, b7, w2, w3, w4, w5, w6, x3, r0, r1, e3, q0, q1, q2, awAwake13, go_sem, Nat.reduceEqDiff, ↓reduceIte, Nat.reduceAdd, Nat.reduceMul, Nat.reduceLeDiff, Nat.reduceLT, reduceCtorEq, Int.reduceToNat, Int.reduceLE, Int.reduceLT, Int.reduceEq, Int.reduceNeg, Int.reduceNe, Int.reducePow, Nat.reducePow, Nat.reduceSub, IntKind.bits]
      · simp (maxSteps := 10000000) (maxDischargeDepth := 30) only [q11, r11, Geo.e, wf0, lob0, a1, c, n0, n1, w1, b1, b2, b3, b4, b5, b7, w2, w3, w4, w5, w6, x3, r0, r1, e3, q0, q1, q2, awAwake13, go_sem, Nat.reduceEqDiff, ↓reduceIte, Nat.reduceAdd, Nat.reduceMul, Nat.reduceLeDiff, Nat.reduceLT, reduceCtorEq, Int.reduceToNat, Int.reduceLE, Int.reduceLT, Int.reduceEq, Int.reduceNeg, Int.reduceNe, Int.reducePow, Nat.reducePow, Nat.reduceSub, IntKind.bits]
end Go.LM
