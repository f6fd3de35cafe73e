import Derived.Test.YtmanbekgnooocaaLmC3
import Derived.Test.YtmanbekgnooocaaLmB5
namespace Go.LM
open Go.Proofs
set_option maxRecDepth 4000
set_option maxHeartbeats 1000000
set_option linter.unusedSimpArgs false

theorem c28 (n : Int) (h1 : -9223372036854775808 ≤ n) (h2 : n < 9223372036854775808) (h : H) : runI Try.prog TA 28 [.int .i64 n] h = some (.int .u64 (foldN n), hp Try.prog TA 28 [.int .i64 n] h) := by
  refine pure_of rfl res28 rfl ?_
  by_cases h0 : n < 0
  · have e1 : IntKind.u64.wrap n = n + 18446744073709551616 := wrapU64_neg (by omega) h0
    have e2 : IntKind.u64.wrap ((n + 18446744073709551616) * 2) = 2 * n + 18446744073709551616 := by
      rw [show (n + 18446744073709551616) * 2 = (2 * n + 18446744073709551616) + 18446744073709551616 by omega, wrapU64_big (by omega) (by omega)]; omega
    have e3 : n.fdiv 9223372036854775808 = -1 := by rw [Int.fdiv_eq_ediv_of_nonneg _ (by decide)]; omega
    have e4 : IntKind.u64.wrap (-1) = 18446744073709551615 := by decide
    have e5 := xor_u64_all (x := 2 * n + 18446744073709551616) (by omega) (by omega)
    have e6 : 18446744073709551615 - (2 * n + 18446744073709551616) = foldN n := by unfold foldN; rw [if_pos h0]; omega
    simp (maxSteps := 10000000) (maxDischargeDepth := 30) only [q28, r28, e1, e2, e3, e4, e5, e6, go_sem, Nat.reduceEqDiff, ↓reduceIte, Nat.reduceAdd, Nat.reduceMul, Nat.reduceLeDiff, Nat.reduceLT, reduceCtorEq, Int.reduceToNat, Int.reduceLE, Int.reduceLT, Int.reduceEq, Int.reduceNeg, Int.reduceNe, Int.reducePow, Nat.reducePow, Nat.reduceSub, IntKind.bits]
  · have e1 : IntKind.u64.wrap n = n := wrapU64 (by omega) (by omega)
    have e2 : IntKind.u64.wrap (n * 2) = 2 * n := by rw [wrapU64 (by omega) (by omega)]; omega
    have e3 : n.fdiv 9223372036854775808 = 0 := by rw [Int.fdiv_eq_ediv_of_nonneg _ (by decide)]; omega
    have e4 : IntKind.u64.wrap 0 = 0 := by decide
    have e6 : foldN n = 2 * n := by unfold foldN; rw [if_neg h0]
    have e5 := xor_u64_0 (x := 2 * n) (by omega) (by omega)
    simp (maxSteps := 10000000) (maxDischargeDepth := 30) only [q28, r28, e1, e2, e3, e4, e5, e6, go_sem, Nat.reduceEqDiff, ↓reduceIte, Nat.reduceAdd, Nat.reduceMul, Nat.reduceLeDiff, Nat.reduceLT, reduceCtorEq, Int.reduceToNat, Int.reduceLE, Int.reduceLT, Int.reduceEq, Int.reduceNeg, Int.reduceNe, Int.reducePow, Nat.reducePow, Nat.reduceSub, IntKind.bits]
theorem c29 (n : Int) (h1 : -9223372036854775808 ≤ n) (h2 : n < 9223372036854775808) (h : H) : runI Try.prog TA 29 [.int .i64 n] h = some (.int .u64 (foldN n), hp Try.prog TA 29 [.int .i64 n] h) := by
  refine pure_of rfl res29 rfl ?_
  by_cases h0 : n < 0
  · have e1 : IntKind.i64.wrap (n + 1) = n + 1 := wrapI64 (by omega) (by omega)
    have e2 : IntKind.i64.wrap (0 - (n + 1)) = -n - 1 := by rw [wrapI64 (by omega) (by omega)]; omega
    have e3 : IntKind.u64.wrap (-n - 1) = -n - 1 := wrapU64 (by omega) (by omega)
    have e4 : IntKind.u64.wrap (2 * (-n - 1)) = 2 * (-n - 1) := wrapU64 (by omega) (by omega)
    have e5 : IntKind.u64.wrap (2 * (-n - 1) + 1) = foldN n := by rw [wrapU64 (by omega) (by omega)]; unfold foldN; rw [if_pos h0]; omega
    simp (maxSteps := 10000000) (maxDischargeDepth := 30) only [q29, r29, h0, e1, e2, e3, e4, e5, go_sem, Nat.reduceEqDiff, ↓reduceIte, Nat.reduceAdd, Nat.reduceMul, Nat.reduceLeDiff, Nat.reduceLT, reduceCtorEq, Int.reduceToNat, Int.reduceLE, Int.reduceLT, Int.reduceEq, Int.reduceNeg, Int.reduceNe, Int.reducePow, Nat.reducePow, Nat.reduceSub, IntKind.bits]
  · have e1 : IntKind.u64.wrap n = n := wrapU64 (by omega) (by omega)
    have e2 : IntKind.u64.wrap (2 * n) = foldN n := by rw [wrapU64 (by omega) (by omega)]; unfold foldN; rw [if_neg h0]
    simp (maxSteps := 10000000) (maxDischargeDepth := 30) only [q29, r29, h0, e1, e2, go_sem, Nat.reduceEqDiff, ↓reduceIte, Nat.reduceAdd, Nat.reduceMul, Nat.reduceLeDiff, Nat.reduceLT, reduceCtorEq, Int.reduceToNat, Int.reduceLE, Int.reduceLT, Int.reduceEq, Int.reduceNeg, Int.reduceNe, Int.reducePow, Nat.reducePow, Nat.reduceSub, IntKind.bits]
theorem c30 (u : Int) (h1 : 0 ≤ u) (h2 : u < 18446744073709551616) (h : H) : runI Try.prog TA 30 [.int .u64 u] h = some (.int .i64 (unfoldN u), hp Try.prog TA 30 [.int .u64 u] h) := by
  refine pure_of rfl res30 rfl ?_
  have e1 : u.fdiv 2 = u / 2 := Int.fdiv_eq_ediv_of_nonneg _ (by decide)
  have e2 : IntKind.i64.wrap (u / 2) = u / 2 := wrapI64 (by omega) (by omega)
  have e3 := and_u64_1 h1 h2
  by_cases h0 : u % 2 = 1
  · have e4 : IntKind.i64.wrap 1 = 1 := by decide
    have e5 : IntKind.i64.wrap (0 - 1) = -1 := by decide
    have e6 := xor_i64_m1 (x := u / 2) (by omega) (by omega)
    have e7 : -(u / 2) - 1 = unfoldN u := by unfold unfoldN; rw [if_pos h0]
    simp (maxSteps := 10000000) (maxDischargeDepth := 30) only [q30, r30, e1, e2, e3, h0, e4, e5, e6, e7, go_sem, Nat.reduceEqDiff, ↓reduceIte, Nat.reduceAdd, Nat.reduceMul, Nat.reduceLeDiff, Nat.reduceLT, reduceCtorEq, Int.reduceToNat, Int.reduceLE, Int.reduceLT, Int.reduceEq, Int.reduceNeg, Int.reduceNe, Int.reducePow, Nat.reducePow, Nat.reduceSub, IntKind.bits]
  · have h0' : u % 2 = 0 := by omega
    have e4 : IntKind.i64.wrap 0 = 0 := by decide
    have e5 : IntKind.i64.wrap (0 - 0) = 0 := by decide
    have e6 := xor_i64_0 (x := u / 2) (by omega) (by omega)
    have e7 : u / 2 = unfoldN u := by unfold unfoldN; rw [if_neg h0]
    have e8 : xorI .i64 (u / 2) 0 = unfoldN u := by rw [e6, e7]
    simp (maxSteps := 10000000) (maxDischargeDepth := 30) only [q30, r30, e1, e2, e3, h0', e4, e5, e8, go_sem, Nat.reduceEqDiff, ↓reduceIte, Nat.reduceAdd, Nat.reduceMul, Nat.reduceLeDiff, Nat.reduceLT, reduceCtorEq, Int.reduceToNat, Int.reduceLE, Int.reduceLT, Int.reduceEq, Int.reduceNeg, Int.reduceNe, Int.reducePow, Nat.reducePow, Nat.reduceSub, IntKind.bits]
theorem c31 (u : Int) (h1 : 0 ≤ u) (h2 : u < 18446744073709551616) (h : H) : runI Try.prog TA 31 [.int .u64 u] h = some (.int .i64 (unfoldN u), hp Try.prog TA 31 [.int .u64 u] h) := by
  refine pure_of rfl res31 rfl ?_
  have e1 : u.tmod 2 = u % 2 := Int.tmod_eq_emod_of_nonneg h1
  have e2 : u.tdiv 2 = u / 2 := Int.tdiv_eq_ediv_of_nonneg h1
  have e3 : IntKind.u64.wrap (u / 2) = u / 2 := wrapU64 (by omega) (by omega)
  have e4 : IntKind.i64.wrap (u / 2) = u / 2 := wrapI64 (by omega) (by omega)
  by_cases h0 : u % 2 = 1
  · have e5 : IntKind.i64.wrap (0 - u / 2) = -(u / 2) := by rw [wrapI64 (by omega) (by omega)]; omega
    have e6 : IntKind.i64.wrap (-(u / 2) - 1) = unfoldN u := by rw [wrapI64 (by omega) (by omega)]; unfold unfoldN; rw [if_pos h0]
    simp (maxSteps := 10000000) (maxDischargeDepth := 30) only [q31, r31, e1, e2, e3, e4, h0, e5, e6, go_sem, Nat.reduceEqDiff, ↓reduceIte, Nat.reduceAdd, Nat.reduceMul, Nat.reduceLeDiff, Nat.reduceLT, reduceCtorEq, Int.reduceToNat, Int.reduceLE, Int.reduceLT, Int.reduceEq, Int.reduceNeg, Int.reduceNe, Int.reducePow, Nat.reducePow, Nat.reduceSub, IntKind.bits]
  · have e7 : unfoldN u = u / 2 := by unfold unfoldN; rw [if_neg h0]
    simp (maxSteps := 10000000) (maxDischargeDepth := 30) only [q31, r31, e1, e2, e3, e4, h0, e7, go_sem, Nat.reduceEqDiff, ↓reduceIte, Nat.reduceAdd, Nat.reduceMul, Nat.reduceLeDiff, Nat.reduceLT, reduceCtorEq, Int.reduceToNat, Int.reduceLE, Int.reduceLT, Int.reduceEq, Int.reduceNeg, Int.reduceNe, Int.reducePow, Nat.reducePow, Nat.reduceSub, IntKind.bits]

/-! chains -/
abbrev byts (o : Option (Nat × Nat)) (l : List Int) : LV := mkS o 1 (l.map (LV.int .u8))
theorem c65 (o : Option (Nat × Nat)) (l : List Int) (hl : l.length ≤ 100000) (h : H) (w : WF h) :
    runI Try.prog TA 65 [byts o l] h = some (byts (tk Try.prog TA 65 [byts o l] h) l, hp Try.prog TA 65 [byts o l] h) ∧
      okTok (tk Try.prog TA 65 [byts o l] h) l.length (hp Try.prog TA 65 [byts o l] h) ∧ newTok (tk Try.prog TA 65 [byts o l] h) h := by
  have hr := pureO_of (P := Try.prog) (T := TA) (f := 65) (args := [byts o l]) (h := h) (sz := 1) (xs := l.map (LV.int .u8)) rfl res65 rfl ?_
  · rw [List.length_map] at hr; exact hr
  by_cases hn : o = none ∧ l.map (LV.int .u8) = []
  · obtain ⟨rfl, he⟩ := hn
    simp (maxSteps := 10000000) (maxDischargeDepth := 30) only [q65, r65, he, and_self, go_sem, Nat.reduceEqDiff, ↓reduceIte, Nat.reduceAdd, Nat.reduceMul, Nat.reduceLeDiff, Nat.reduceLT, reduceCtorEq, Int.reduceToNat, Int.reduceLE, Int.reduceLT, Int.reduceEq, Int.reduceNeg, Int.reduceNe, Int.reducePow, Nat.reducePow, Nat.reduceSub, IntKind.bits]
    exact ⟨none, rfl, rfl, trivial⟩
  · have w1 : WF (h.nrow 0) := wf_nrow w
    have t1 : okTok (some (h.rlen, 0)) 0 (h.nrow 0) := ⟨by have := w.2.2; omega, by simp; exact w.2.1, by simp, by simp⟩
    have ap := append_mk (sz := 1) (by_ := 1) (xs := []) (ys := l.map (LV.int .u8)) t1 (by simp; omega)
    have n1 : newTok (some (h.rlen, 0)) h := Nat.le_refl _
    simp (maxSteps := 10000000) (maxDischargeDepth := 30) only [q65, r65, hn, ap, List.nil_append, go_sem, Nat.reduceEqDiff, ↓reduceIte, Nat.reduceAdd, Nat.reduceMul, Nat.reduceLeDiff, Nat.reduceLT, reduceCtorEq, Int.reduceToNat, Int.reduceLE, Int.reduceLT, Int.reduceEq, Int.reduceNeg, Int.reduceNe, Int.reducePow, Nat.reducePow, Nat.reduceSub, IntKind.bits]
    have k1 : Keep h (h.nrow 0) := (Keep.refl h).nrow 0
    refine ⟨_, rfl, keep_ap k1 n1, ?_, newTok_ap k1 n1⟩
    have := okTok_ap (m := (l.map (LV.int .u8)).length) w1 t1
    simpa using this
end Go.LM
