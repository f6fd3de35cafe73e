import Derived.Test.YtmanbekgnooocaaLmaGeom2
namespace Go.LM
open Go.Proofs
set_option maxRecDepth 4000
set_option maxHeartbeats 4000000
set_option linter.unusedSimpArgs false

theorem geoOk {g : Geo} (h : geoCheck g = 0) : 1 ≤ g.cols ∧ g.cols ≤ 8 ∧ ¬ geoBad g := by
  unfold geoCheck at h
  split at h
  · cases h
  · split at h
    · cases h
    · rename_i h1 h2; exact ⟨by omega, by omega, h2⟩
def geoCol (g : Geo) (n : Int) : Int := if geoCheck g = 0 then min (max n 0) g.cols else 0
def geoHigh (g : Geo) (n : Int) : Int := if geoCheck g = 0 then (if n < g.cols then g.first else g.high) else 0
def geoPage (g : Geo) (n : Int) : Int × Int := if geoCheck g = 0 then (max n 0 / g.cols, max n 0 % g.cols) else (0, 0)
def geoX (g : Geo) (n : Int) : Int := if geoCheck g = 0 then (geoPage g n).2 * (g.wide + g.gap) else 0

theorem cGCol (g : Geo) (n : Int) (h : H) (w : WF h) : runI Try.prog TA 41 [g.e, .int .i64 n] h = some (.int .i64 (geoCol g n), hp Try.prog TA 41 [g.e, .int .i64 n] h) := by
  refine pure_of rfl res41 rfl ?_
  have e := cGCheck g
  have hlo := w.1
  simp only [Geo.e] at e
  by_cases c : geoCheck g = 0
  · have hR : geoCol g n = min (max n 0) g.cols := by unfold geoCol; rw [if_pos c]
    simp (maxSteps := 10000000) (maxDischargeDepth := 30) only [q41, r41, Geo.e, w, e, hlo, hR, c, go_sem, Nat.reduceEqDiff, ↓reduceIte, Nat.reduceAdd, Nat.reduceMul, Nat.reduceLeDiff, Nat.reduceLT, reduceCtorEq, Int.reduceToNat, Int.reduceLE, Int.reduceLT, Int.reduceEq, Int.reduceNeg, Int.reduceNe, Int.reducePow, Nat.reducePow, Nat.reduceSub, IntKind.bits]
  · have hR : geoCol g n = 0 := by unfold geoCol; rw [if_neg c]
    have c' : decide (geoCheck g = 0) = false := by simp [c]
    simp (maxSteps := 10000000) (maxDischargeDepth := 30) only [q41, r41, Geo.e, w, e, hlo, hR, c', go_sem, Nat.reduceEqDiff, ↓reduceIte, Nat.reduceAdd, Nat.reduceMul, Nat.reduceLeDiff, Nat.reduceLT, reduceCtorEq, Int.reduceToNat, Int.reduceLE, Int.reduceLT, Int.reduceEq, Int.reduceNeg, Int.reduceNe, Int.reducePow, Nat.reducePow, Nat.reduceSub, IntKind.bits]

theorem cRGCol (g : Geo) (n : Int) (h : H) (w : WF h) : runI Try.prog TA 42 [g.e, .int .i64 n] h = some (.int .i64 (geoCol g n), hp Try.prog TA 42 [g.e, .int .i64 n] h) := by
  refine pure_of rfl res42 rfl ?_
  have e := cRGCheck g
  have hlo := w.1
  simp only [Geo.e] at e
  by_cases c : geoCheck g = 0
  · have hR : geoCol g n = min (max n 0) g.cols := by unfold geoCol; rw [if_pos c]
    simp (maxSteps := 10000000) (maxDischargeDepth := 30) only [q42, r42, Geo.e, w, e, hlo, hR, c, go_sem, Nat.reduceEqDiff, ↓reduceIte, Nat.reduceAdd, Nat.reduceMul, Nat.reduceLeDiff, Nat.reduceLT, reduceCtorEq, Int.reduceToNat, Int.reduceLE, Int.reduceLT, Int.reduceEq, Int.reduceNeg, Int.reduceNe, Int.reducePow, Nat.reducePow, Nat.reduceSub, IntKind.bits]
  · have hR : geoCol g n = 0 := by unfold geoCol; rw [if_neg c]
    have c' : decide (geoCheck g = 0) = false := by simp [c]
    simp (maxSteps := 10000000) (maxDischargeDepth := 30) only [q42, r42, Geo.e, w, e, hlo, hR, c', go_sem, Nat.reduceEqDiff, ↓reduceIte, Nat.reduceAdd, Nat.reduceMul, Nat.reduceLeDiff, Nat.reduceLT, reduceCtorEq, Int.reduceToNat, Int.reduceLE, Int.reduceLT, Int.reduceEq, Int.reduceNeg, Int.reduceNe, Int.reducePow, Nat.reducePow, Nat.reduceSub, IntKind.bits]

theorem cGHigh (g : Geo) (n : Int) (h : H) (w : WF h) : runI Try.prog TA 43 [g.e, .int .i64 n] h = some (.int .i64 (geoHigh g n), hp Try.prog TA 43 [g.e, .int .i64 n] h) := by
  refine pure_of rfl res43 rfl ?_
  have e := cGCheck g
  have hlo := w.1
  simp only [Geo.e] at e
  by_cases c : geoCheck g = 0
  · have hR : geoHigh g n = if n < g.cols then g.first else g.high := by unfold geoHigh; rw [if_pos c]
    by_cases d : n < g.cols
    · rw [if_pos d] at hR
      simp (maxSteps := 10000000) (maxDischargeDepth := 30) only [q43, r43, Geo.e, w, e, hlo, hR, d, c, go_sem, Nat.reduceEqDiff, ↓reduceIte, Nat.reduceAdd, Nat.reduceMul, Nat.reduceLeDiff, Nat.reduceLT, reduceCtorEq, Int.reduceToNat, Int.reduceLE, Int.reduceLT, Int.reduceEq, Int.reduceNeg, Int.reduceNe, Int.reducePow, Nat.reducePow, Nat.reduceSub, IntKind.bits]
    · rw [if_neg d] at hR
      simp (maxSteps := 10000000) (maxDischargeDepth := 30) only [q43, r43, Geo.e, w, e, hlo, hR, d, c, go_sem, Nat.reduceEqDiff, ↓reduceIte, Nat.reduceAdd, Nat.reduceMul, Nat.reduceLeDiff, Nat.reduceLT, reduceCtorEq, Int.reduceToNat, Int.reduceLE, Int.reduceLT, Int.reduceEq, Int.reduceNeg, Int.reduceNe, Int.reducePow, Nat.reducePow, Nat.reduceSub, IntKind.bits]
  · have hR : geoHigh g n = 0 := by unfold geoHigh; rw [if_neg c]
    have c' : decide (geoCheck g = 0) = false := by simp [c]
    simp (maxSteps := 10000000) (maxDischargeDepth := 30) only [q43, r43, Geo.e, w, e, hlo, hR, c', go_sem, Nat.reduceEqDiff, ↓reduceIte, Nat.reduceAdd, Nat.reduceMul, Nat.reduceLeDiff, Nat.reduceLT, reduceCtorEq, Int.reduceToNat, Int.reduceLE, Int.reduceLT, Int.reduceEq, Int.reduceNeg, Int.reduceNe, Int.reducePow, Nat.reducePow, Nat.reduceSub, IntKind.bits]

theorem cRGHigh (g : Geo) (n : Int) (h : H) (w : WF h) : runI Try.prog TA 44 [g.e, .int .i64 n] h = some (.int .i64 (geoHigh g n), hp Try.prog TA 44 [g.e, .int .i64 n] h) := by
  refine pure_of rfl res44 rfl ?_
  have e := cRGCheck g
  have hlo := w.1
  simp only [Geo.e] at e
  by_cases c : geoCheck g = 0
  · have hR : geoHigh g n = if n < g.cols then g.first else g.high := by unfold geoHigh; rw [if_pos c]
    by_cases d : n < g.cols
    · rw [if_pos d] at hR
      simp (maxSteps := 10000000) (maxDischargeDepth := 30) only [q44, r44, Geo.e, w, e, hlo, hR, d, c, go_sem, Nat.reduceEqDiff, ↓reduceIte, Nat.reduceAdd, Nat.reduceMul, Nat.reduceLeDiff, Nat.reduceLT, reduceCtorEq, Int.reduceToNat, Int.reduceLE, Int.reduceLT, Int.reduceEq, Int.reduceNeg, Int.reduceNe, Int.reducePow, Nat.reducePow, Nat.reduceSub, IntKind.bits]
    · rw [if_neg d] at hR
      simp (maxSteps := 10000000) (maxDischargeDepth := 30) only [q44, r44, Geo.e, w, e, hlo, hR, d, c, go_sem, Nat.reduceEqDiff, ↓reduceIte, Nat.reduceAdd, Nat.reduceMul, Nat.reduceLeDiff, Nat.reduceLT, reduceCtorEq, Int.reduceToNat, Int.reduceLE, Int.reduceLT, Int.reduceEq, Int.reduceNeg, Int.reduceNe, Int.reducePow, Nat.reducePow, Nat.reduceSub, IntKind.bits]
  · have hR : geoHigh g n = 0 := by unfold geoHigh; rw [if_neg c]
    have c' : decide (geoCheck g = 0) = false := by simp [c]
    simp (maxSteps := 10000000) (maxDischargeDepth := 30) only [q44, r44, Geo.e, w, e, hlo, hR, c', go_sem, Nat.reduceEqDiff, ↓reduceIte, Nat.reduceAdd, Nat.reduceMul, Nat.reduceLeDiff, Nat.reduceLT, reduceCtorEq, Int.reduceToNat, Int.reduceLE, Int.reduceLT, Int.reduceEq, Int.reduceNeg, Int.reduceNe, Int.reducePow, Nat.reducePow, Nat.reduceSub, IntKind.bits]

theorem cGPage (g : Geo) (n : Int) (h1 : -9223372036854775808 ≤ n) (h2 : n < 9223372036854775808) (h : H) (w : WF h) : runI Try.prog TA 38 [g.e, .int .i64 n] h = some (.tup [.int .i64 (geoPage g n).1, .int .i64 (geoPage g n).2], hp Try.prog TA 38 [g.e, .int .i64 n] h) := by
  refine pure_of rfl res38 rfl ?_
  have e := cGCheck g
  have hlo := w.1
  simp only [Geo.e] at e
  by_cases c : geoCheck g = 0
  · have hk := geoOk c
    have hR1 : (geoPage g n).1 = max n 0 / g.cols := by unfold geoPage; rw [if_pos c]
    have hR2 : (geoPage g n).2 = max n 0 % g.cols := by unfold geoPage; rw [if_pos c]
    have d0 : (g.cols = 0) = False := by simp; omega
    have dq : (max n 0).tdiv g.cols = max n 0 / g.cols := Int.tdiv_eq_ediv_of_nonneg (by omega)
    have dr : (max n 0).tmod g.cols = max n 0 % g.cols := Int.tmod_eq_emod_of_nonneg (by omega)
    have dle : max n 0 / g.cols ≤ max n 0 := Int.ediv_le_self _ (by omega)
    have dge : 0 ≤ max n 0 / g.cols := Int.ediv_nonneg (by omega) (by omega)
    have wq : IntKind.i64.wrap (max n 0 / g.cols) = max n 0 / g.cols := wrap64 (by omega) (by omega)
    have mlt : max n 0 % g.cols < g.cols := Int.emod_lt_of_pos _ (by omega)
    have mge : 0 ≤ max n 0 % g.cols := Int.emod_nonneg _ (by omega)
    have wr : IntKind.i64.wrap (max n 0 % g.cols) = max n 0 % g.cols := wrap64 (by omega) (by omega)
    simp (maxSteps := 10000000) (maxDischargeDepth := 30) only [q38, r38, Geo.e, w, e, hlo, hR1, hR2, d0, dq, dr, wq, wr, c, go_sem, Nat.reduceEqDiff, ↓reduceIte, Nat.reduceAdd, Nat.reduceMul, Nat.reduceLeDiff, Nat.reduceLT, reduceCtorEq, Int.reduceToNat, Int.reduceLE, Int.reduceLT, Int.reduceEq, Int.reduceNeg, Int.reduceNe, Int.reducePow, Nat.reducePow, Nat.reduceSub, IntKind.bits]
  · have hR : geoPage g n = (0, 0) := by unfold geoPage; rw [if_neg c]
    have c' : decide (geoCheck g = 0) = false := by simp [c]
    simp (maxSteps := 10000000) (maxDischargeDepth := 30) only [q38, r38, Geo.e, w, e, hlo, hR, c', go_sem, Nat.reduceEqDiff, ↓reduceIte, Nat.reduceAdd, Nat.reduceMul, Nat.reduceLeDiff, Nat.reduceLT, reduceCtorEq, Int.reduceToNat, Int.reduceLE, Int.reduceLT, Int.reduceEq, Int.reduceNeg, Int.reduceNe, Int.reducePow, Nat.reducePow, Nat.reduceSub, IntKind.bits]

theorem cRGPage (g : Geo) (n : Int) (h1 : -9223372036854775808 ≤ n) (h2 : n < 9223372036854775808) (h : H) (w : WF h) : runI Try.prog TA 45 [g.e, .int .i64 n] h = some (.agg [.int .i64 (geoPage g n).1, .int .i64 (geoPage g n).2], hp Try.prog TA 45 [g.e, .int .i64 n] h) := by
  refine pure_of rfl res45 rfl ?_
  have e := cRGCheck g
  have hlo := w.1
  simp only [Geo.e] at e
  by_cases c : geoCheck g = 0
  · have hk := geoOk c
    have hR1 : (geoPage g n).1 = max n 0 / g.cols := by unfold geoPage; rw [if_pos c]
    have hR2 : (geoPage g n).2 = max n 0 % g.cols := by unfold geoPage; rw [if_pos c]
    have d0 : (g.cols = 0) = False := by simp; omega
    have dq : (max n 0).tdiv g.cols = max n 0 / g.cols := Int.tdiv_eq_ediv_of_nonneg (by omega)
    have dr : (max n 0).tmod g.cols = max n 0 % g.cols := Int.tmod_eq_emod_of_nonneg (by omega)
    have dle : max n 0 / g.cols ≤ max n 0 := Int.ediv_le_self _ (by omega)
    have dge : 0 ≤ max n 0 / g.cols := Int.ediv_nonneg (by omega) (by omega)
    have wq : IntKind.i64.wrap (max n 0 / g.cols) = max n 0 / g.cols := wrap64 (by omega) (by omega)
    have mlt : max n 0 % g.cols < g.cols := Int.emod_lt_of_pos _ (by omega)
    have mge : 0 ≤ max n 0 % g.cols := Int.emod_nonneg _ (by omega)
    have wr : IntKind.i64.wrap (max n 0 % g.cols) = max n 0 % g.cols := wrap64 (by omega) (by omega)
    simp (maxSteps := 10000000) (maxDischargeDepth := 30) only [q45, r45, Geo.e, w, e, hlo, hR1, hR2, d0, dq, dr, wq, wr, c, go_sem, Nat.reduceEqDiff, ↓reduceIte, Nat.reduceAdd, Nat.reduceMul, Nat.reduceLeDiff, Nat.reduceLT, reduceCtorEq, Int.reduceToNat, Int.reduceLE, Int.reduceLT, Int.reduceEq, Int.reduceNeg, Int.reduceNe, Int.reducePow, Nat.reducePow, Nat.reduceSub, IntKind.bits]
  · have hR : geoPage g n = (0, 0) := by unfold geoPage; rw [if_neg c]
    have c' : decide (geoCheck g = 0) = false := by simp [c]
    simp (maxSteps := 10000000) (maxDischargeDepth := 30) only [q45, r45, Geo.e, w, e, hlo, hR, c', go_sem, Nat.reduceEqDiff, ↓reduceIte, Nat.reduceAdd, Nat.reduceMul, Nat.reduceLeDiff, Nat.reduceLT, reduceCtorEq, Int.reduceToNat, Int.reduceLE, Int.reduceLT, Int.reduceEq, Int.reduceNeg, Int.reduceNe, Int.reducePow, Nat.reducePow, Nat.reduceSub, IntKind.bits]

theorem cGX (g : Geo) (n : Int) (h1 : -9223372036854775808 ≤ n) (h2 : n < 9223372036854775808) (h : H) (w : WF h) : runI Try.prog TA 46 [g.e, .int .i64 n] h = some (.int .i64 (geoX g n), hp Try.prog TA 46 [g.e, .int .i64 n] h) := by
  refine pure_of rfl res46 rfl ?_
  have e := cGPage g n h1 h2
  have hlo := w.1
  simp only [Geo.e] at e
  by_cases c : geoCheck g = 0
  · have hk := geoOk c
    have hR : geoX g n = (geoPage g n).2 * (g.wide + g.gap) := by unfold geoX; rw [if_pos c]
    have hP : (geoPage g n).2 = max n 0 % g.cols := by unfold geoPage; rw [if_pos c]
    have mlt : max n 0 % g.cols < g.cols := Int.emod_lt_of_pos _ (by omega)
    have mge : 0 ≤ max n 0 % g.cols := Int.emod_nonneg _ (by omega)
    have wa : IntKind.i64.wrap (g.wide + g.gap) = g.wide + g.gap := wrap64 (by unfold geoBad at hk; omega) (by unfold geoBad at hk; omega)
    have b1 : 0 ≤ (geoPage g n).2 * (g.wide + g.gap) := Int.mul_nonneg (by omega) (by unfold geoBad at hk; omega)
    have b2 : (geoPage g n).2 * (g.wide + g.gap) ≤ 8 * 4294967296 := Int.mul_le_mul (by omega) (by unfold geoBad at hk; omega) (by unfold geoBad at hk; omega) (by decide)
    have wm : IntKind.i64.wrap ((geoPage g n).2 * (g.wide + g.gap)) = (geoPage g n).2 * (g.wide + g.gap) := wrap64 (by omega) (by omega)
    simp (maxSteps := 10000000) (maxDischargeDepth := 30) only [q46, r46, Geo.e, w, e, hlo, hR, wa, wm, go_sem, Nat.reduceEqDiff, ↓reduceIte, Nat.reduceAdd, Nat.reduceMul, Nat.reduceLeDiff, Nat.reduceLT, reduceCtorEq, Int.reduceToNat, Int.reduceLE, Int.reduceLT, Int.reduceEq, Int.reduceNeg, Int.reduceNe, Int.reducePow, Nat.reducePow, Nat.reduceSub, IntKind.bits]
  · have hR : geoX g n = 0 := by unfold geoX; rw [if_neg c]
    have hP : geoPage g n = (0, 0) := by unfold geoPage; rw [if_neg c]
    have wz : IntKind.i64.wrap (0 * IntKind.i64.wrap (g.wide + g.gap)) = 0 := by rw [Int.zero_mul]; decide
    rw [hP] at e
    simp (maxSteps := 10000000) (maxDischargeDepth := 30) only [q46, r46, Geo.e, w, e, hlo, hR, wz, go_sem, Nat.reduceEqDiff, ↓reduceIte, Nat.reduceAdd, Nat.reduceMul, Nat.reduceLeDiff, Nat.reduceLT, reduceCtorEq, Int.reduceToNat, Int.reduceLE, Int.reduceLT, Int.reduceEq, Int.reduceNeg, Int.reduceNe, Int.reducePow, Nat.reducePow, Nat.reduceSub, IntKind.bits]

theorem cRGX (g : Geo) (n : Int) (h1 : -9223372036854775808 ≤ n) (h2 : n < 9223372036854775808) (h : H) (w : WF h) : runI Try.prog TA 47 [g.e, .int .i64 n] h = some (.int .i64 (geoX g n), hp Try.prog TA 47 [g.e, .int .i64 n] h) := by
  refine pure_of rfl res47 rfl ?_
  have e := cRGCheck g
  have hlo := w.1
  simp only [Geo.e] at e
  by_cases c : geoCheck g = 0
  · have hk := geoOk c
    have hR : geoX g n = (geoPage g n).2 * (g.wide + g.gap) := by unfold geoX; rw [if_pos c]
    have hP : (geoPage g n).2 = max n 0 % g.cols := by unfold geoPage; rw [if_pos c]
    have mlt : max n 0 % g.cols < g.cols := Int.emod_lt_of_pos _ (by omega)
    have mge : 0 ≤ max n 0 % g.cols := Int.emod_nonneg _ (by omega)
    have wa : IntKind.i64.wrap (g.wide + g.gap) = g.wide + g.gap := wrap64 (by unfold geoBad at hk; omega) (by unfold geoBad at hk; omega)
    have b1 : 0 ≤ (geoPage g n).2 * (g.wide + g.gap) := Int.mul_nonneg (by omega) (by unfold geoBad at hk; omega)
    have b2 : (geoPage g n).2 * (g.wide + g.gap) ≤ 8 * 4294967296 := Int.mul_le_mul (by omega) (by unfold geoBad at hk; omega) (by unfold geoBad at hk; omega) (by decide)
    have wm : IntKind.i64.wrap ((geoPage g n).2 * (g.wide + g.gap)) = (geoPage g n).2 * (g.wide + g.gap) := wrap64 (by omega) (by omega)
    have e2 := cRGPage g n h1 h2
    simp only [Geo.e] at e2
    simp (maxSteps := 10000000) (maxDischargeDepth := 30) only [q47, r47, Geo.e, w, e, hlo, hR, wa, wm, e2, c, go_sem, Nat.reduceEqDiff, ↓reduceIte, Nat.reduceAdd, Nat.reduceMul, Nat.reduceLeDiff, Nat.reduceLT, reduceCtorEq, Int.reduceToNat, Int.reduceLE, Int.reduceLT, Int.reduceEq, Int.reduceNeg, Int.reduceNe, Int.reducePow, Nat.reducePow, Nat.reduceSub, IntKind.bits]
  · have hR : geoX g n = 0 := by unfold geoX; rw [if_neg c]
    have c' : decide (geoCheck g = 0) = false := by simp [c]
    simp (maxSteps := 10000000) (maxDischargeDepth := 30) only [q47, r47, Geo.e, w, e, hlo, hR, c', go_sem, Nat.reduceEqDiff, ↓reduceIte, Nat.reduceAdd, Nat.reduceMul, Nat.reduceLeDiff, Nat.reduceLT, reduceCtorEq, Int.reduceToNat, Int.reduceLE, Int.reduceLT, Int.reduceEq, Int.reduceNeg, Int.reduceNe, Int.reducePow, Nat.reducePow, Nat.reduceSub, IntKind.bits]

def geoPlain (c s : Int) : Geo := ⟨c, s, 0, s, s, 0, 0, 0, s, s, s, 4, 4, 0, 0, 0, 0, 0, false⟩
theorem cGPlain (c s : Int) (h : H) (w : WF h) : runI Try.prog TA 49 [.int .i64 c, .int .i64 s] h = some ((geoPlain c s).e, hp Try.prog TA 49 [.int .i64 c, .int .i64 s] h) := by
  refine pure_of rfl res49 rfl ?_
  have hlo := w.1
  simp (maxSteps := 10000000) (maxDischargeDepth := 30) only [q49, r49, w, hlo, Geo.e, geoPlain, go_sem, Nat.reduceEqDiff, ↓reduceIte, Nat.reduceAdd, Nat.reduceMul, Nat.reduceLeDiff, Nat.reduceLT, reduceCtorEq, Int.reduceToNat, Int.reduceLE, Int.reduceLT, Int.reduceEq, Int.reduceNeg, Int.reduceNe, Int.reducePow, Nat.reducePow, Nat.reduceSub, IntKind.bits]
theorem awAwake13 (h : H) : runI Try.prog TA 48 [] h = some (.bool true, h) := runI_known rfl
end Go.LM
