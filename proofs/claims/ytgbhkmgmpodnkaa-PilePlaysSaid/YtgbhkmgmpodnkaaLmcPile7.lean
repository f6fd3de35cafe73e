import Derived.Test.YtgbhkmgmpodnkaaLmTrcRc
import Derived.Test.YtgbhkmgmpodnkaaLmcPile6
namespace Go.LM
open Go.Proofs
set_option maxRecDepth 8000
set_option maxHeartbeats 4000000
set_option linter.unusedSimpArgs false
set_option linter.unusedVariables false
def IHas (o : Option (Nat × Nat)) (l : List PairR) (x : PairR) (h : H) (i : Nat) (s : S) (hh : H) : Prop :=
  s 0 = mkS o 2 (l.map PairR.e) ∧ s 3 = .ptr h.len 0 ∧ s 5 = .int .i64 ((l.take i).count x) ∧ s 6 = .int .i64 i ∧ i ≤ l.length ∧ hh.get h.len = some ⟨false, [.int .i64 x.a, .int .i64 x.b]⟩ ∧ Keep h hh
theorem pHas (o : Option (Nat × Nat)) (l : List PairR) (x : PairR) (h : H) (hl : l.length ≤ 100000) :
    runI Try.prog TA 45 [mkS o 2 (l.map PairR.e), x.e] h = some (.int .i64 (l.count x), hp Try.prog TA 45 [mkS o 2 (l.map PairR.e), x.e] h) := by
  refine pure_of rfl res45 rfl ?_
  simp (maxSteps := 10000000) (maxDischargeDepth := 30) only [q45, r45, PairR.e, go_sem, Nat.reduceEqDiff, ↓reduceIte, Nat.reduceAdd, Nat.reduceMul, Nat.reduceLeDiff, Nat.reduceLT, reduceCtorEq, Int.reduceToNat, Int.reduceLE, Int.reduceLT, Int.reduceEq, Int.reduceNeg, Int.reduceNe, Int.reducePow, Nat.reducePow, Nat.reduceSub, IntKind.bits]
  refine ru_loop (fun i => l.length - i) (IHas o l x h) 0 ?_ ?_
  · unfold IHas
    simp (maxSteps := 10000000) (maxDischargeDepth := 30) only [Int.natCast_zero, List.count_nil, go_sem, Nat.reduceEqDiff, ↓reduceIte, Nat.reduceAdd, Nat.reduceMul, Nat.reduceLeDiff, Nat.reduceLT, reduceCtorEq, Int.reduceToNat, Int.reduceLE, Int.reduceLT, Int.reduceEq, Int.reduceNeg, Int.reduceNe, Int.reducePow, Nat.reducePow, Nat.reduceSub, IntKind.bits]
  · rintro i s hh ⟨e0, e3, e5, e6, hi, g, k⟩
    by_cases c1 : (i : Int) < l.length
    rotate_left
    · obtain rfl : i = l.length := by omega
      rw [List.take_length] at e5
      simp (maxSteps := 10000000) (maxDischargeDepth := 30) only [e0, e3, e5, e6, List.length_map, c1, k, go_sem, Nat.reduceEqDiff, ↓reduceIte, Nat.reduceAdd, Nat.reduceMul, Nat.reduceLeDiff, Nat.reduceLT, reduceCtorEq, Int.reduceToNat, Int.reduceLE, Int.reduceLT, Int.reduceEq, Int.reduceNeg, Int.reduceNe, Int.reducePow, Nat.reducePow, Nat.reduceSub, IntKind.bits]
    refine ru_step ?_
    obtain ⟨y, hy⟩ := get_some (l := l) (i := i) (by omega)
    have ia := pair_at hy
    have ew : IntKind.i64.wrap ((i : Int) + 1) = ((i + 1 : Nat) : Int) := by rw [wrap64 (by omega) (by omega)]; omega
    have hcl := List.count_le_length (a := x) (l := l.take i)
    rw [List.length_take] at hcl
    have ec : IntKind.i64.wrap (((l.take i).count x : Nat) + 1 : Int) = (((l.take i).count x + 1 : Nat) : Int) := by rw [wrap64 (by omega) (by omega)]; omega
    have et : l.take (i + 1) = l.take i ++ [y] := take_succ hy
    by_cases hxy : y = x
    · subst hxy
      have e1 : (l.take (i + 1)).count y = (l.take i).count y + 1 := by rw [et, List.count_append, List.count_cons_self, List.count_nil]
      simp (maxSteps := 10000000) (maxDischargeDepth := 30) only [e0, e3, e5, e6, List.length_map, c1, ia, g, PairR.e, ew, ec, go_sem, Nat.reduceEqDiff, ↓reduceIte, Nat.reduceAdd, Nat.reduceMul, Nat.reduceLeDiff, Nat.reduceLT, reduceCtorEq, Int.reduceToNat, Int.reduceLE, Int.reduceLT, Int.reduceEq, Int.reduceNeg, Int.reduceNe, Int.reducePow, Nat.reducePow, Nat.reduceSub, IntKind.bits]
      refine ⟨i + 1, by omega, ?_⟩
      unfold IHas
      rw [e1]
      simp (maxSteps := 10000000) (maxDischargeDepth := 30) only [e0, e3, go_sem, Nat.reduceEqDiff, ↓reduceIte, Nat.reduceAdd, Nat.reduceMul, Nat.reduceLeDiff, Nat.reduceLT, reduceCtorEq, Int.reduceToNat, Int.reduceLE, Int.reduceLT, Int.reduceEq, Int.reduceNeg, Int.reduceNe, Int.reducePow, Nat.reducePow, Nat.reduceSub, IntKind.bits]
      exact ⟨by omega, g, k⟩
    · have e1 : (l.take (i + 1)).count x = (l.take i).count x := by rw [et, List.count_append, List.count_cons_of_ne (fun e => hxy e), List.count_nil, Nat.add_zero]
      have hf : (y.a == x.a && y.b == x.b) = false := by
        by_cases ha : y.a = x.a
        · by_cases hb : y.b = x.b
          · exact absurd (show y = x by cases y; cases x; cases ha; cases hb; rfl) hxy
          · rw [beq_eq_false_iff_ne.2 hb, Bool.and_false]
        · rw [beq_eq_false_iff_ne.2 ha, Bool.false_and]
      simp (maxSteps := 10000000) (maxDischargeDepth := 30) only [e0, e3, e5, e6, List.length_map, c1, ia, g, PairR.e, ew, eqSeq_2, hf, go_sem, Nat.reduceEqDiff, ↓reduceIte, Nat.reduceAdd, Nat.reduceMul, Nat.reduceLeDiff, Nat.reduceLT, reduceCtorEq, Int.reduceToNat, Int.reduceLE, Int.reduceLT, Int.reduceEq, Int.reduceNeg, Int.reduceNe, Int.reducePow, Nat.reducePow, Nat.reduceSub, IntKind.bits]
      refine ⟨i + 1, by omega, ?_⟩
      unfold IHas
      rw [e1]
      simp (maxSteps := 10000000) (maxDischargeDepth := 30) only [e0, e3, e5, go_sem, Nat.reduceEqDiff, ↓reduceIte, Nat.reduceAdd, Nat.reduceMul, Nat.reduceLeDiff, Nat.reduceLT, reduceCtorEq, Int.reduceToNat, Int.reduceLE, Int.reduceLT, Int.reduceEq, Int.reduceNeg, Int.reduceNe, Int.reducePow, Nat.reducePow, Nat.reduceSub, IntKind.bits]
      exact ⟨by omega, g, k⟩
end Go.LM
