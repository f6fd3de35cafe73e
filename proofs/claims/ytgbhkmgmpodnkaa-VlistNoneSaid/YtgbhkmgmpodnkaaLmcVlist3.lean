import Derived.Test.YtgbhkmgmpodnkaaLmTrcR1
import Derived.Test.YtgbhkmgmpodnkaaLmcVlist2
namespace Go.LM
open Go.Proofs
set_option maxRecDepth 8000
set_option maxHeartbeats 4000000
set_option linter.unusedSimpArgs false

theorem seekN_s (P : Int → Bool) (k i : Nat) : seekN P (k + 1) i = if P i = true then (i : Int) else seekN P k (i + 1) := rfl
def ISeek (v : LV) (l : List ItemR) (f : Nat) (P : Int → Bool) (i0 : Nat) (h0 : H) (i : Nat) (s : S) (hh : H) : Prop :=
  s 0 = v ∧ s 2 = .fn f [v] [] ∧ s 7 = .int .i64 i ∧ i ≤ i0 + l.length + 1 ∧ seekN P (l.length + 1 - i) i = seekN P (l.length + 1 - i0) i0 ∧ Keep h0 hh ∧ WF hh
theorem cVSeek (v : LV) (l : List ItemR) (f : Nat) (P : Int → Bool) (i : Nat) (hl : l.length ≤ 1000) (hi : i ≤ 2000) (h : H) (w : WF h) (m : IsV v l h)
    (hP : ∀ (n : Int) (g : H), WF g → IsV v l g → runI Try.prog TA f [v, .int .i64 n] g = some (.bool (P n), hp Try.prog TA f [v, .int .i64 n] g)) :
    runI Try.prog TA 48 [v, .int .i64 i, .fn f [v] []] h = some (.int .i64 (seekN P (l.length + 1 - i) i), hp Try.prog TA 48 [v, .int .i64 i, .fn f [v] []] h) := by
  refine pure_of rfl res48 rfl ?_
  simp (maxSteps := 10000000) (maxDischargeDepth := 30) only [q48, r48, go_sem, Nat.reduceEqDiff, ↓reduceIte, Nat.reduceAdd, Nat.reduceMul, Nat.reduceLeDiff, Nat.reduceLT, reduceCtorEq, Int.reduceToNat, Int.reduceLE, Int.reduceLT, Int.reduceEq, Int.reduceNeg, Int.reduceNe, Int.reducePow, Nat.reducePow, Nat.reduceSub, IntKind.bits]
  refine ru_loop (fun j => i + l.length + 1 - j) (ISeek v l f P i h) i ?_ ?_
  · unfold ISeek
    simp (maxSteps := 10000000) (maxDischargeDepth := 30) only [go_sem, Nat.reduceEqDiff, ↓reduceIte, Nat.reduceAdd, Nat.reduceMul, Nat.reduceLeDiff, Nat.reduceLT, reduceCtorEq, Int.reduceToNat, Int.reduceLE, Int.reduceLT, Int.reduceEq, Int.reduceNeg, Int.reduceNe, Int.reducePow, Nat.reducePow, Nat.reduceSub, IntKind.bits]
    exact ⟨by omega, w⟩
  · rintro j s hh ⟨e0, e2, e7, hj, hs, kk, ww⟩
    have mm := m.next kk
    by_cases c1 : (j : Int) ≤ l.length
    rotate_left
    · rw [show l.length + 1 - j = 0 by omega] at hs
      rw [← hs]
      simp (maxSteps := 10000000) (maxDischargeDepth := 30) only [e0, e2, e7, go_sem, Nat.reduceEqDiff, ↓reduceIte, Nat.reduceAdd, Nat.reduceMul, Nat.reduceLeDiff, Nat.reduceLT, reduceCtorEq, Int.reduceToNat, Int.reduceLE, Int.reduceLT, Int.reduceEq, Int.reduceNeg, Int.reduceNe, Int.reducePow, Nat.reducePow, Nat.reduceSub, IntKind.bits]
      refine ro_kcall (cVLen v l hh mm) ww (fun h1 k1 w1 => ?_)
      have k1' := kk.trans k1
      simp (maxSteps := 10000000) (maxDischargeDepth := 30) only [e0, e2, e7, c1, k1', go_sem, Nat.reduceEqDiff, ↓reduceIte, Nat.reduceAdd, Nat.reduceMul, Nat.reduceLeDiff, Nat.reduceLT, reduceCtorEq, Int.reduceToNat, Int.reduceLE, Int.reduceLT, Int.reduceEq, Int.reduceNeg, Int.reduceNe, Int.reducePow, Nat.reducePow, Nat.reduceSub, IntKind.bits]
      rfl
    rw [show l.length + 1 - j = (l.length - j) + 1 by omega] at hs
    rw [seekN_s] at hs
    cases hp : P j
    · rw [hp] at hs
      simp only [Bool.false_eq_true, if_false] at hs
      refine ru_step ?_
      have ew : IntKind.i64.wrap ((j : Int) + 1) = ((j + 1 : Nat) : Int) := by rw [wrap64 (by omega) (by omega)]; omega
      simp (maxSteps := 10000000) (maxDischargeDepth := 30) only [e0, e2, e7, go_sem, Nat.reduceEqDiff, ↓reduceIte, Nat.reduceAdd, Nat.reduceMul, Nat.reduceLeDiff, Nat.reduceLT, reduceCtorEq, Int.reduceToNat, Int.reduceLE, Int.reduceLT, Int.reduceEq, Int.reduceNeg, Int.reduceNe, Int.reducePow, Nat.reducePow, Nat.reduceSub, IntKind.bits]
      refine ro_kcall (cVLen v l hh mm) ww (fun h1 k1 w1 => ?_)
      simp (maxSteps := 10000000) (maxDischargeDepth := 30) only [e0, e2, e7, c1, go_sem, Nat.reduceEqDiff, ↓reduceIte, Nat.reduceAdd, Nat.reduceMul, Nat.reduceLeDiff, Nat.reduceLT, reduceCtorEq, Int.reduceToNat, Int.reduceLE, Int.reduceLT, Int.reduceEq, Int.reduceNeg, Int.reduceNe, Int.reducePow, Nat.reducePow, Nat.reduceSub, IntKind.bits]
      refine ro_kcall (hP j h1 w1 (mm.next k1)) w1 (fun h2 k2 w2 => ?_)
      have kk2 := (kk.trans k1).trans k2
      simp (maxSteps := 10000000) (maxDischargeDepth := 30) only [e0, e2, e7, hp, ew, go_sem, Nat.reduceEqDiff, ↓reduceIte, Nat.reduceAdd, Nat.reduceMul, Nat.reduceLeDiff, Nat.reduceLT, reduceCtorEq, Int.reduceToNat, Int.reduceLE, Int.reduceLT, Int.reduceEq, Int.reduceNeg, Int.reduceNe, Int.reducePow, Nat.reducePow, Nat.reduceSub, IntKind.bits]
      refine ⟨j + 1, by omega, ?_⟩
      unfold ISeek
      simp (maxSteps := 10000000) (maxDischargeDepth := 30) only [e0, e2, go_sem, Nat.reduceEqDiff, ↓reduceIte, Nat.reduceAdd, Nat.reduceMul, Nat.reduceLeDiff, Nat.reduceLT, reduceCtorEq, Int.reduceToNat, Int.reduceLE, Int.reduceLT, Int.reduceEq, Int.reduceNeg, Int.reduceNe, Int.reducePow, Nat.reducePow, Nat.reduceSub, IntKind.bits]
      exact ⟨by omega, by rw [← hs]; congr 1; omega, kk2, w2⟩
    · rw [hp] at hs
      simp only [if_true] at hs
      rw [← hs]
      simp (maxSteps := 10000000) (maxDischargeDepth := 30) only [e0, e2, e7, go_sem, Nat.reduceEqDiff, ↓reduceIte, Nat.reduceAdd, Nat.reduceMul, Nat.reduceLeDiff, Nat.reduceLT, reduceCtorEq, Int.reduceToNat, Int.reduceLE, Int.reduceLT, Int.reduceEq, Int.reduceNeg, Int.reduceNe, Int.reducePow, Nat.reducePow, Nat.reduceSub, IntKind.bits]
      refine ro_kcall (cVLen v l hh mm) ww (fun h1 k1 w1 => ?_)
      simp (maxSteps := 10000000) (maxDischargeDepth := 30) only [e0, e2, e7, c1, go_sem, Nat.reduceEqDiff, ↓reduceIte, Nat.reduceAdd, Nat.reduceMul, Nat.reduceLeDiff, Nat.reduceLT, reduceCtorEq, Int.reduceToNat, Int.reduceLE, Int.reduceLT, Int.reduceEq, Int.reduceNeg, Int.reduceNe, Int.reducePow, Nat.reducePow, Nat.reduceSub, IntKind.bits]
      refine ro_kcall (hP j h1 w1 (mm.next k1)) w1 (fun h2 k2 w2 => ?_)
      have kk2 := (kk.trans k1).trans k2
      simp (maxSteps := 10000000) (maxDischargeDepth := 30) only [e0, e2, e7, hp, kk2, go_sem, Nat.reduceEqDiff, ↓reduceIte, Nat.reduceAdd, Nat.reduceMul, Nat.reduceLeDiff, Nat.reduceLT, reduceCtorEq, Int.reduceToNat, Int.reduceLE, Int.reduceLT, Int.reduceEq, Int.reduceNeg, Int.reduceNe, Int.reducePow, Nat.reducePow, Nat.reduceSub, IntKind.bits]
theorem cVTrim (v : LV) (l : List ItemR) (n : Int) (hl : l.length ≤ 1000) (h : H) (w : WF h) (m : IsV v l h) :
    runI Try.prog TA 13 [v, .int .i64 n] h = some (.int .i64 (trimV l n), hp Try.prog TA 13 [v, .int .i64 n] h) := by
  refine pure_of rfl res13 rfl ?_
  have hpl := placeN_le (l := l) n
  rcases m.is with ⟨rfl, rfl⟩ | ⟨p, o, rfl, g⟩
  · have e : trimV [] n = 0 := by
      unfold trimV
      rw [show placeN [] n = 0 by simp only [List.length_nil] at hpl; omega]
      rfl
    rw [e]
    simp (maxSteps := 10000000) (maxDischargeDepth := 30) only [q13, r13, go_sem, Nat.reduceEqDiff, ↓reduceIte, Nat.reduceAdd, Nat.reduceMul, Nat.reduceLeDiff, Nat.reduceLT, reduceCtorEq, Int.reduceToNat, Int.reduceLE, Int.reduceLT, Int.reduceEq, Int.reduceNeg, Int.reduceNe, Int.reducePow, Nat.reducePow, Nat.reduceSub, IntKind.bits]
  · simp (maxSteps := 10000000) (maxDischargeDepth := 30) only [q13, r13, go_sem, Nat.reduceEqDiff, ↓reduceIte, Nat.reduceAdd, Nat.reduceMul, Nat.reduceLeDiff, Nat.reduceLT, reduceCtorEq, Int.reduceToNat, Int.reduceLE, Int.reduceLT, Int.reduceEq, Int.reduceNeg, Int.reduceNe, Int.reducePow, Nat.reducePow, Nat.reduceSub, IntKind.bits]
    refine ro_kcall (cVLen (.ptr p 0) l h m) w (fun h1 k1 w1 => ?_)
    have m1 := m.next k1
    have ep : min (max n 0) (l.length : Int) = ((placeN l n : Nat) : Int) := by unfold placeN; omega
    simp (maxSteps := 10000000) (maxDischargeDepth := 30) only [ep, go_sem, Nat.reduceEqDiff, ↓reduceIte, Nat.reduceAdd, Nat.reduceMul, Nat.reduceLeDiff, Nat.reduceLT, reduceCtorEq, Int.reduceToNat, Int.reduceLE, Int.reduceLT, Int.reduceEq, Int.reduceNeg, Int.reduceNe, Int.reducePow, Nat.reducePow, Nat.reduceSub, IntKind.bits]
    refine ro_kcall (cVSeek (.ptr p 0) l 49 (staysV l) (placeN l n) hl (by omega) h1 w1 m1 (fun n g wg mg => cVStays _ l n g wg mg)) w1 (fun h2 k2 w2 => ?_)
    have kk := k1.trans k2
    simp (maxSteps := 10000000) (maxDischargeDepth := 30) only [kk, go_sem, Nat.reduceEqDiff, ↓reduceIte, Nat.reduceAdd, Nat.reduceMul, Nat.reduceLeDiff, Nat.reduceLT, reduceCtorEq, Int.reduceToNat, Int.reduceLE, Int.reduceLT, Int.reduceEq, Int.reduceNeg, Int.reduceNe, Int.reducePow, Nat.reducePow, Nat.reduceSub, IntKind.bits]
    rfl
theorem cVFirst (v : LV) (l : List ItemR) (n : Int) (hl : l.length ≤ 1000) (h : H) (w : WF h) (m : IsV v l h) :
    runI Try.prog TA 14 [v, .int .i64 n] h = some (.int .i64 (firstV l n), hp Try.prog TA 14 [v, .int .i64 n] h) := by
  refine pure_of rfl res14 rfl ?_
  simp (maxSteps := 10000000) (maxDischargeDepth := 30) only [q14, r14, go_sem, Nat.reduceEqDiff, ↓reduceIte, Nat.reduceAdd, Nat.reduceMul, Nat.reduceLeDiff, Nat.reduceLT, reduceCtorEq, Int.reduceToNat, Int.reduceLE, Int.reduceLT, Int.reduceEq, Int.reduceNeg, Int.reduceNe, Int.reducePow, Nat.reducePow, Nat.reduceSub, IntKind.bits]
  refine ro_kcall (cVLen v l h m) w (fun h1 k1 w1 => ?_)
  have m1 := m.next k1
  unfold firstV
  by_cases c0 : (l.length : Int) ≤ n
  · rw [if_pos c0]
    simp (maxSteps := 10000000) (maxDischargeDepth := 30) only [c0, k1, go_sem, Nat.reduceEqDiff, ↓reduceIte, Nat.reduceAdd, Nat.reduceMul, Nat.reduceLeDiff, Nat.reduceLT, reduceCtorEq, Int.reduceToNat, Int.reduceLE, Int.reduceLT, Int.reduceEq, Int.reduceNeg, Int.reduceNe, Int.reducePow, Nat.reducePow, Nat.reduceSub, IntKind.bits]
  · rw [if_neg c0]
    have ep : IntKind.i64.wrap (max n 0 + 1) = (((max n 0).toNat + 1 : Nat) : Int) := by rw [wrap64 (by omega) (by omega)]; omega
    simp (maxSteps := 10000000) (maxDischargeDepth := 30) only [c0, ep, go_sem, Nat.reduceEqDiff, ↓reduceIte, Nat.reduceAdd, Nat.reduceMul, Nat.reduceLeDiff, Nat.reduceLT, reduceCtorEq, Int.reduceToNat, Int.reduceLE, Int.reduceLT, Int.reduceEq, Int.reduceNeg, Int.reduceNe, Int.reducePow, Nat.reducePow, Nat.reduceSub, IntKind.bits]
    refine ro_kcall (cVSeek v l 16 (mayV l) ((max n 0).toNat + 1) hl (by omega) h1 w1 m1 (fun n g wg mg => cVMay _ l n hl g wg mg)) w1 (fun h2 k2 w2 => ?_)
    have kk := k1.trans k2
    simp (maxSteps := 10000000) (maxDischargeDepth := 30) only [kk, go_sem, Nat.reduceEqDiff, ↓reduceIte, Nat.reduceAdd, Nat.reduceMul, Nat.reduceLeDiff, Nat.reduceLT, reduceCtorEq, Int.reduceToNat, Int.reduceLE, Int.reduceLT, Int.reduceEq, Int.reduceNeg, Int.reduceNe, Int.reducePow, Nat.reducePow, Nat.reduceSub, IntKind.bits]
theorem cVForce (v : LV) (l : List ItemR) (n : Int) (hl : l.length ≤ 1000) (h : H) (w : WF h) (m : IsV v l h) :
    runI Try.prog TA 15 [v, .int .i64 n] h = some (.int .i64 (forceV l n), hp Try.prog TA 15 [v, .int .i64 n] h) := by
  refine pure_of rfl res15 rfl ?_
  simp (maxSteps := 10000000) (maxDischargeDepth := 30) only [q15, r15, go_sem, Nat.reduceEqDiff, ↓reduceIte, Nat.reduceAdd, Nat.reduceMul, Nat.reduceLeDiff, Nat.reduceLT, reduceCtorEq, Int.reduceToNat, Int.reduceLE, Int.reduceLT, Int.reduceEq, Int.reduceNeg, Int.reduceNe, Int.reducePow, Nat.reducePow, Nat.reduceSub, IntKind.bits]
  refine ro_kcall (cVLen v l h m) w (fun h1 k1 w1 => ?_)
  have m1 := m.next k1
  unfold forceV
  by_cases c0 : (l.length : Int) ≤ n
  · rw [if_pos c0]
    simp (maxSteps := 10000000) (maxDischargeDepth := 30) only [c0, k1, go_sem, Nat.reduceEqDiff, ↓reduceIte, Nat.reduceAdd, Nat.reduceMul, Nat.reduceLeDiff, Nat.reduceLT, reduceCtorEq, Int.reduceToNat, Int.reduceLE, Int.reduceLT, Int.reduceEq, Int.reduceNeg, Int.reduceNe, Int.reducePow, Nat.reducePow, Nat.reduceSub, IntKind.bits]
  · rw [if_neg c0]
    have ep : IntKind.i64.wrap (max n 0 + 1) = (((max n 0).toNat + 1 : Nat) : Int) := by rw [wrap64 (by omega) (by omega)]; omega
    simp (maxSteps := 10000000) (maxDischargeDepth := 30) only [c0, ep, go_sem, Nat.reduceEqDiff, ↓reduceIte, Nat.reduceAdd, Nat.reduceMul, Nat.reduceLeDiff, Nat.reduceLT, reduceCtorEq, Int.reduceToNat, Int.reduceLE, Int.reduceLT, Int.reduceEq, Int.reduceNeg, Int.reduceNe, Int.reducePow, Nat.reducePow, Nat.reduceSub, IntKind.bits]
    refine ro_kcall (cVSeek v l 50 (mustV l) ((max n 0).toNat + 1) hl (by omega) h1 w1 m1 (fun n g wg mg => cVMust _ l n g wg mg)) w1 (fun h2 k2 w2 => ?_)
    have kk := k1.trans k2
    simp (maxSteps := 10000000) (maxDischargeDepth := 30) only [kk, go_sem, Nat.reduceEqDiff, ↓reduceIte, Nat.reduceAdd, Nat.reduceMul, Nat.reduceLeDiff, Nat.reduceLT, reduceCtorEq, Int.reduceToNat, Int.reduceLE, Int.reduceLT, Int.reduceEq, Int.reduceNeg, Int.reduceNe, Int.reducePow, Nat.reducePow, Nat.reduceSub, IntKind.bits]
end Go.LM
