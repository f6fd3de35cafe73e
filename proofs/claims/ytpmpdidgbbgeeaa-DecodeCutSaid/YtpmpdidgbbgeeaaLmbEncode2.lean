import Derived.Test.YtpmpdidgbbgeeaaLmTrbR2
import Derived.Test.YtpmpdidgbbgeeaaLmTrbR3
import Derived.Test.YtpmpdidgbbgeeaaLmbEncode1
import Derived.Test.YtpmpdidgbbgeeaaLmB10
namespace Go.LM
open Go.Proofs
set_option maxRecDepth 8000
set_option maxHeartbeats 4000000
set_option linter.unusedSimpArgs false

theorem cEnFields (x : ItemR) (h : H) : runI Try.prog TA 108 [x.e] h = some (ints (tk Try.prog TA 108 [x.e] h) (fieldsR x), hp Try.prog TA 108 [x.e] h) := by
  refine pureS_of rfl res108 rfl ?_
  by_cases d1 : x.k = 1
  · have e : fieldsR x = [x.h, x.f] := by unfold fieldsR; rw [if_pos d1]
    rw [e]
    simp (maxSteps := 10000000) (maxDischargeDepth := 30) only [q108, r108, ItemR.e, d1, go_sem, Nat.reduceEqDiff, ↓reduceIte, Nat.reduceAdd, Nat.reduceMul, Nat.reduceLeDiff, Nat.reduceLT, reduceCtorEq, Int.reduceToNat, Int.reduceLE, Int.reduceLT, Int.reduceEq, Int.reduceNeg, Int.reduceNe, Int.reducePow, Nat.reducePow, Nat.reduceSub, IntKind.bits]
    exact ⟨_, rfl⟩
  by_cases d2 : x.k = 2
  · have e : fieldsR x = [x.h, x.str, x.ord, x.shr] := by unfold fieldsR; rw [if_neg d1, if_pos d2]
    rw [e]
    simp (maxSteps := 10000000) (maxDischargeDepth := 30) only [q108, r108, ItemR.e, d2, go_sem, Nat.reduceEqDiff, ↓reduceIte, Nat.reduceAdd, Nat.reduceMul, Nat.reduceLeDiff, Nat.reduceLT, reduceCtorEq, Int.reduceToNat, Int.reduceLE, Int.reduceLT, Int.reduceEq, Int.reduceNeg, Int.reduceNe, Int.reducePow, Nat.reducePow, Nat.reduceSub, IntKind.bits]
    exact ⟨_, rfl⟩
  by_cases d7 : x.k = 7
  · have e : fieldsR x = [] := by unfold fieldsR; rw [if_neg d1, if_neg d2, if_pos d7]
    rw [e]
    simp (maxSteps := 10000000) (maxDischargeDepth := 30) only [q108, r108, ItemR.e, d7, go_sem, Nat.reduceEqDiff, ↓reduceIte, Nat.reduceAdd, Nat.reduceMul, Nat.reduceLeDiff, Nat.reduceLT, reduceCtorEq, Int.reduceToNat, Int.reduceLE, Int.reduceLT, Int.reduceEq, Int.reduceNeg, Int.reduceNe, Int.reducePow, Nat.reducePow, Nat.reduceSub, IntKind.bits]
    exact ⟨none, rfl⟩
  · have e : fieldsR x = [x.n] := by unfold fieldsR; rw [if_neg d1, if_neg d2, if_neg d7]
    rw [e]
    simp (maxSteps := 10000000) (maxDischargeDepth := 30) only [q108, r108, ItemR.e, d1, d2, d7, go_sem, Nat.reduceEqDiff, ↓reduceIte, Nat.reduceAdd, Nat.reduceMul, Nat.reduceLeDiff, Nat.reduceLT, reduceCtorEq, Int.reduceToNat, Int.reduceLE, Int.reduceLT, Int.reduceEq, Int.reduceNeg, Int.reduceNe, Int.reducePow, Nat.reducePow, Nat.reduceSub, IntKind.bits]
    exact ⟨_, rfl⟩

/-! ### numbers of another name -/
def INumSp (o : Option (Nat × Nat)) (l : List Int) (h0 : H) (i : Nat) (s : S) (hh : H) : Prop :=
  s 6 = ints o l ∧ s 7 = .int .i64 l.length ∧ s 8 = .int .i64 i ∧ i ≤ l.length ∧ ∃ o2, s 3 = ints o2 (l.take i) ∧ AccN h0 o2 (l.take i).length hh
theorem cNumSp (o : Option (Nat × Nat)) (l : List Int) (h : H) (w : WF h) (hl : l.length ≤ 1000000) :
    runI Try.prog TA 85 [ints o l] h = some (ints (tk Try.prog TA 85 [ints o l] h) l, hp Try.prog TA 85 [ints o l] h) := by
  refine pureS_of rfl res85 rfl ?_
  simp (maxSteps := 10000000) (maxDischargeDepth := 30) only [q85, r85, go_sem, Nat.reduceEqDiff, ↓reduceIte, Nat.reduceAdd, Nat.reduceMul, Nat.reduceLeDiff, Nat.reduceLT, reduceCtorEq, Int.reduceToNat, Int.reduceLE, Int.reduceLT, Int.reduceEq, Int.reduceNeg, Int.reduceNe, Int.reducePow, Nat.reducePow, Nat.reduceSub, IntKind.bits]
  refine ru_loop (fun i => l.length - i) (INumSp o l h) 0 ?_ ?_
  · unfold INumSp
    simp (maxSteps := 10000000) (maxDischargeDepth := 30) only [Int.natCast_zero, go_sem, Nat.reduceEqDiff, ↓reduceIte, Nat.reduceAdd, Nat.reduceMul, Nat.reduceLeDiff, Nat.reduceLT, reduceCtorEq, Int.reduceToNat, Int.reduceLE, Int.reduceLT, Int.reduceEq, Int.reduceNeg, Int.reduceNe, Int.reducePow, Nat.reducePow, Nat.reduceSub, IntKind.bits]
    exact ⟨none, rfl, .start (.refl _) w⟩
  · rintro i s hh ⟨e6, e7, e8, hi, o2, e3, A⟩
    by_cases c1 : (i : Int) < l.length
    rotate_left
    · obtain rfl : i = l.length := by omega
      rw [List.take_length] at e3
      have kA := A.keep
      simp (maxSteps := 10000000) (maxDischargeDepth := 30) only [e3, e6, e7, e8, c1, kA, go_sem, Nat.reduceEqDiff, ↓reduceIte, Nat.reduceAdd, Nat.reduceMul, Nat.reduceLeDiff, Nat.reduceLT, reduceCtorEq, Int.reduceToNat, Int.reduceLE, Int.reduceLT, Int.reduceEq, Int.reduceNeg, Int.reduceNe, Int.reducePow, Nat.reducePow, Nat.reduceSub, IntKind.bits]
      exact ⟨o2, rfl⟩
    refine ru_step ?_
    obtain ⟨x, hx⟩ : ∃ x, l[i]? = some x := ⟨l[i], List.getElem?_eq_getElem (by omega)⟩
    have ia := int_at hx
    have ew : IntKind.i64.wrap ((i : Int) + 1) = ((i + 1 : Nat) : Int) := by rw [wrap64 (by omega) (by omega)]; omega
    have k1 := (Keep.refl hh).nrow 1
    obtain ⟨o3, h3, ap, A3, -⟩ := (A.next k1).appI (by_ := 8) [x] (by rw [List.length_take, List.length_singleton]; omega)
    rw [← take_succ hx] at ap A3
    have ap' : appS 1 8 (ints o2 (l.take i)) (hh.nrow 1) (some [.int .i64 x]) = some (ints o3 (l.take (i + 1)), h3) := ap
    simp (maxSteps := 10000000) (maxDischargeDepth := 30) only [e3, e6, e7, e8, c1, ia, ap', ew, go_sem, Nat.reduceEqDiff, ↓reduceIte, Nat.reduceAdd, Nat.reduceMul, Nat.reduceLeDiff, Nat.reduceLT, reduceCtorEq, Int.reduceToNat, Int.reduceLE, Int.reduceLT, Int.reduceEq, Int.reduceNeg, Int.reduceNe, Int.reducePow, Nat.reducePow, Nat.reduceSub, IntKind.bits]
    refine ⟨i + 1, by omega, ?_⟩
    unfold INumSp
    simp (maxSteps := 10000000) (maxDischargeDepth := 30) only [e6, e7, e8, go_sem, Nat.reduceEqDiff, ↓reduceIte, Nat.reduceAdd, Nat.reduceMul, Nat.reduceLeDiff, Nat.reduceLT, reduceCtorEq, Int.reduceToNat, Int.reduceLE, Int.reduceLT, Int.reduceEq, Int.reduceNeg, Int.reduceNe, Int.reducePow, Nat.reducePow, Nat.reduceSub, IntKind.bits]
    exact ⟨by omega, o3, rfl, A3⟩
def INumI (o : Option (Nat × Nat)) (l : List Int) (h0 : H) (i : Nat) (s : S) (hh : H) : Prop :=
  s 6 = ints o l ∧ s 7 = .int .i64 l.length ∧ s 8 = .int .i64 i ∧ i ≤ l.length ∧ ∃ o2, s 3 = ints o2 (l.take i) ∧ AccN h0 o2 (l.take i).length hh
theorem cNumI (o : Option (Nat × Nat)) (l : List Int) (h : H) (w : WF h) (hl : l.length ≤ 1000000) :
    runI Try.prog TA 86 [ints o l] h = some (ints (tk Try.prog TA 86 [ints o l] h) l, hp Try.prog TA 86 [ints o l] h) := by
  refine pureS_of rfl res86 rfl ?_
  simp (maxSteps := 10000000) (maxDischargeDepth := 30) only [q86, r86, go_sem, Nat.reduceEqDiff, ↓reduceIte, Nat.reduceAdd, Nat.reduceMul, Nat.reduceLeDiff, Nat.reduceLT, reduceCtorEq, Int.reduceToNat, Int.reduceLE, Int.reduceLT, Int.reduceEq, Int.reduceNeg, Int.reduceNe, Int.reducePow, Nat.reducePow, Nat.reduceSub, IntKind.bits]
  refine ru_loop (fun i => l.length - i) (INumI o l h) 0 ?_ ?_
  · unfold INumI
    simp (maxSteps := 10000000) (maxDischargeDepth := 30) only [Int.natCast_zero, go_sem, Nat.reduceEqDiff, ↓reduceIte, Nat.reduceAdd, Nat.reduceMul, Nat.reduceLeDiff, Nat.reduceLT, reduceCtorEq, Int.reduceToNat, Int.reduceLE, Int.reduceLT, Int.reduceEq, Int.reduceNeg, Int.reduceNe, Int.reducePow, Nat.reducePow, Nat.reduceSub, IntKind.bits]
    exact ⟨none, rfl, .start (.refl _) w⟩
  · rintro i s hh ⟨e6, e7, e8, hi, o2, e3, A⟩
    by_cases c1 : (i : Int) < l.length
    rotate_left
    · obtain rfl : i = l.length := by omega
      rw [List.take_length] at e3
      have kA := A.keep
      simp (maxSteps := 10000000) (maxDischargeDepth := 30) only [e3, e6, e7, e8, c1, kA, go_sem, Nat.reduceEqDiff, ↓reduceIte, Nat.reduceAdd, Nat.reduceMul, Nat.reduceLeDiff, Nat.reduceLT, reduceCtorEq, Int.reduceToNat, Int.reduceLE, Int.reduceLT, Int.reduceEq, Int.reduceNeg, Int.reduceNe, Int.reducePow, Nat.reducePow, Nat.reduceSub, IntKind.bits]
      exact ⟨o2, rfl⟩
    refine ru_step ?_
    obtain ⟨x, hx⟩ : ∃ x, l[i]? = some x := ⟨l[i], List.getElem?_eq_getElem (by omega)⟩
    have ia := int_at hx
    have ew : IntKind.i64.wrap ((i : Int) + 1) = ((i + 1 : Nat) : Int) := by rw [wrap64 (by omega) (by omega)]; omega
    have k1 := (Keep.refl hh).nrow 1
    obtain ⟨o3, h3, ap, A3, -⟩ := (A.next k1).appI (by_ := 8) [x] (by rw [List.length_take, List.length_singleton]; omega)
    rw [← take_succ hx] at ap A3
    have ap' : appS 1 8 (ints o2 (l.take i)) (hh.nrow 1) (some [.int .i64 x]) = some (ints o3 (l.take (i + 1)), h3) := ap
    simp (maxSteps := 10000000) (maxDischargeDepth := 30) only [e3, e6, e7, e8, c1, ia, ap', ew, go_sem, Nat.reduceEqDiff, ↓reduceIte, Nat.reduceAdd, Nat.reduceMul, Nat.reduceLeDiff, Nat.reduceLT, reduceCtorEq, Int.reduceToNat, Int.reduceLE, Int.reduceLT, Int.reduceEq, Int.reduceNeg, Int.reduceNe, Int.reducePow, Nat.reducePow, Nat.reduceSub, IntKind.bits]
    refine ⟨i + 1, by omega, ?_⟩
    unfold INumI
    simp (maxSteps := 10000000) (maxDischargeDepth := 30) only [e6, e7, e8, go_sem, Nat.reduceEqDiff, ↓reduceIte, Nat.reduceAdd, Nat.reduceMul, Nat.reduceLeDiff, Nat.reduceLT, reduceCtorEq, Int.reduceToNat, Int.reduceLE, Int.reduceLT, Int.reduceEq, Int.reduceNeg, Int.reduceNe, Int.reducePow, Nat.reducePow, Nat.reduceSub, IntKind.bits]
    exact ⟨by omega, o3, rfl, A3⟩
end Go.LM
