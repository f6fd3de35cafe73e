import Derived.Test.YtgbhkmgmpodnkaaLmTrcRc
import Derived.Test.YtgbhkmgmpodnkaaLmcPile9
import Derived.Test.YtgbhkmgmpodnkaaLmB13
namespace Go.LM
open Go.Proofs
set_option maxRecDepth 8000
set_option maxHeartbeats 4000000
set_option linter.unusedSimpArgs false
set_option linter.unusedVariables false
/-! ### taking out of a list -/
def okTake32 (l : List PairR) (x : PairR) (h : H) (v : LV) (h' : H) : Prop := Keep h h' ∧ ∃ q, v = mkS q 2 ((l.erase x).map PairR.e)
def ITake (o : Option (Nat × Nat)) (l : List PairR) (x : PairR) (h : H) (i : Nat) (s : S) (hh : H) : Prop :=
  s 0 = mkS o 2 (l.map PairR.e) ∧ s 3 = .ptr h.len 0 ∧ (∃ q, s 5 = mkS q 2 (((l.take i).erase x).map PairR.e) ∧ AccN h q ((l.take i).erase x).length hh) ∧ s 6 = .bool (decide (x ∈ l.take i)) ∧ s 7 = .int .i64 i ∧ i ≤ l.length ∧ hh.get h.len = some ⟨false, [.int .i64 x.a, .int .i64 x.b]⟩
theorem pair_ne {x y : PairR} (h : ¬ y = x) : (y.a == x.a && y.b == x.b) = false := by
  by_cases ha : y.a = x.a
  · by_cases hb : y.b = x.b
    · exact absurd (show y = x by cases y; cases x; cases ha; cases hb; rfl) h
    · rw [beq_eq_false_iff_ne.2 hb, Bool.and_false]
  · rw [beq_eq_false_iff_ne.2 ha, Bool.false_and]
theorem cRTake32 (o : Option (Nat × Nat)) (l : List PairR) (x : PairR) (h : H) (w : WF h) (hl : l.length ≤ 100000) :
    ∃ v h', runI Try.prog TA 42 [mkS o 2 (l.map PairR.e), x.e] h = some (v, h') ∧ okTake32 l x h v h' := by
  refine calls_of rfl res42 rfl ?_
  simp (maxSteps := 10000000) (maxDischargeDepth := 30) only [q42, r42, PairR.e, go_sem, Nat.reduceEqDiff, ↓reduceIte, Nat.reduceAdd, Nat.reduceMul, Nat.reduceLeDiff, Nat.reduceLT, reduceCtorEq, Int.reduceToNat, Int.reduceLE, Int.reduceLT, Int.reduceEq, Int.reduceNeg, Int.reduceNe, Int.reducePow, Nat.reducePow, Nat.reduceSub, IntKind.bits]
  refine ru_loop (fun i => l.length - i) (ITake o l x h) 0 ?_ ?_
  · unfold ITake
    simp (maxSteps := 10000000) (maxDischargeDepth := 30) only [PairR.e, Int.natCast_zero, go_sem, Nat.reduceEqDiff, ↓reduceIte, Nat.reduceAdd, Nat.reduceMul, Nat.reduceLeDiff, Nat.reduceLT, reduceCtorEq, Int.reduceToNat, Int.reduceLE, Int.reduceLT, Int.reduceEq, Int.reduceNeg, Int.reduceNe, Int.reducePow, Nat.reducePow, Nat.reduceSub, IntKind.bits]
    have k0 := (Keep.refl h).alloc [.int .i64 x.a, .int .i64 x.b]
    exact ⟨⟨none, rfl, AccN.start k0 (w.keep k0)⟩, rfl⟩
  · rintro i s hh ⟨e0, e3, ⟨q, e5, a⟩, e6, e7, hi, g⟩
    by_cases c1 : (i : Int) < l.length
    rotate_left
    · obtain rfl : i = l.length := by omega
      rw [List.take_length] at e5
      simp (maxSteps := 10000000) (maxDischargeDepth := 30) only [e0, e3, e5, e6, e7, List.length_map, c1, go_sem, Nat.reduceEqDiff, ↓reduceIte, Nat.reduceAdd, Nat.reduceMul, Nat.reduceLeDiff, Nat.reduceLT, reduceCtorEq, Int.reduceToNat, Int.reduceLE, Int.reduceLT, Int.reduceEq, Int.reduceNeg, Int.reduceNe, Int.reducePow, Nat.reducePow, Nat.reduceSub, IntKind.bits]
      exact ⟨a.keep, q, rfl⟩
    refine ru_step ?_
    obtain ⟨y, hy⟩ := get_some (l := l) (i := i) (by omega)
    have ia := pair_at hy
    have ew : IntKind.i64.wrap ((i : Int) + 1) = ((i + 1 : Nat) : Int) := by rw [wrap64 (by omega) (by omega)]; omega
    have et : l.take (i + 1) = l.take i ++ [y] := take_succ hy
    have hel : ((l.take i).erase x).length ≤ 100000 := by
      have := (List.erase_sublist (a := x) (l := l.take i)).length_le
      rw [List.length_take] at this; omega
    have a1 := a.next ((Keep.refl hh).nrow 1)
    have a1' : AccN h q (((l.take i).erase x).map PairR.e).length (hh.nrow 1) := by rw [List.length_map]; exact a1
    obtain ⟨q2, m2, ap, a2, gm2, lm2, -⟩ := a1'.app (sz := 2) (by_ := 16) [y.e] (by simp; omega)
    have ap' : appS 2 16 (mkS q 2 (((l.take i).erase x).map PairR.e)) (hh.nrow 1) (some [.agg [.int .i64 y.a, .int .i64 y.b]]) = _ := ap
    have g2 := (gm2 h.len).trans g
    by_cases hm : x ∈ l.take i
    · have e1 : (l.take (i + 1)).erase x = (l.take i).erase x ++ [y] := by rw [et, List.erase_append, if_pos hm]
      have e6' : s 6 = .bool true := by rw [e6, decide_eq_true hm]
      have ez : ((l.take i).erase x).map PairR.e ++ [y.e] = ((l.take (i + 1)).erase x).map PairR.e := by rw [e1, List.map_append]; rfl
      have em : decide (x ∈ l.take (i + 1)) = true := decide_eq_true (by rw [et]; exact List.mem_append_left _ hm)
      rw [ez] at ap' a2
      rw [List.length_map] at a2
      by_cases hxy : y = x
      · have hf : (y.a == x.a && y.b == x.b) = true := by rw [hxy]; simp
        simp (maxSteps := 10000000) (maxDischargeDepth := 30) only [e0, e3, e5, e6, e7, List.length_map, c1, ia, g, PairR.e, ew, hm, ap', eqSeq_2, hf, go_sem, Nat.reduceEqDiff, ↓reduceIte, Nat.reduceAdd, Nat.reduceMul, Nat.reduceLeDiff, Nat.reduceLT, reduceCtorEq, Int.reduceToNat, Int.reduceLE, Int.reduceLT, Int.reduceEq, Int.reduceNeg, Int.reduceNe, Int.reducePow, Nat.reducePow, Nat.reduceSub, IntKind.bits]
        refine ⟨i + 1, by omega, ?_⟩
        unfold ITake
        simp (maxSteps := 10000000) (maxDischargeDepth := 30) only [e0, e3, em, e6', go_sem, Nat.reduceEqDiff, ↓reduceIte, Nat.reduceAdd, Nat.reduceMul, Nat.reduceLeDiff, Nat.reduceLT, reduceCtorEq, Int.reduceToNat, Int.reduceLE, Int.reduceLT, Int.reduceEq, Int.reduceNeg, Int.reduceNe, Int.reducePow, Nat.reducePow, Nat.reduceSub, IntKind.bits]
        exact ⟨⟨q2, rfl, a2⟩, by omega, g2⟩
      · have hf := pair_ne hxy
        simp (maxSteps := 10000000) (maxDischargeDepth := 30) only [e0, e3, e5, e6, e7, List.length_map, c1, ia, g, PairR.e, ew, hm, ap', eqSeq_2, hf, go_sem, Nat.reduceEqDiff, ↓reduceIte, Nat.reduceAdd, Nat.reduceMul, Nat.reduceLeDiff, Nat.reduceLT, reduceCtorEq, Int.reduceToNat, Int.reduceLE, Int.reduceLT, Int.reduceEq, Int.reduceNeg, Int.reduceNe, Int.reducePow, Nat.reducePow, Nat.reduceSub, IntKind.bits]
        refine ⟨i + 1, by omega, ?_⟩
        unfold ITake
        simp (maxSteps := 10000000) (maxDischargeDepth := 30) only [e0, e3, em, e6', go_sem, Nat.reduceEqDiff, ↓reduceIte, Nat.reduceAdd, Nat.reduceMul, Nat.reduceLeDiff, Nat.reduceLT, reduceCtorEq, Int.reduceToNat, Int.reduceLE, Int.reduceLT, Int.reduceEq, Int.reduceNeg, Int.reduceNe, Int.reducePow, Nat.reducePow, Nat.reduceSub, IntKind.bits]
        exact ⟨⟨q2, rfl, a2⟩, by omega, g2⟩
    by_cases hxy : y = x
    · have hf : (y.a == x.a && y.b == x.b) = true := by rw [hxy]; simp
      have e1 : (l.take (i + 1)).erase x = (l.take i).erase x := by rw [et, List.erase_append, if_neg hm, hxy, List.erase_cons_head, List.append_nil, List.erase_of_not_mem hm]
      have em : decide (x ∈ l.take (i + 1)) = true := decide_eq_true (by rw [et, hxy]; exact List.mem_append_right _ (List.mem_singleton.2 rfl))
      simp (maxSteps := 10000000) (maxDischargeDepth := 30) only [e0, e3, e5, e6, e7, List.length_map, c1, ia, g, PairR.e, ew, hm, ap', eqSeq_2, hf, go_sem, Nat.reduceEqDiff, ↓reduceIte, Nat.reduceAdd, Nat.reduceMul, Nat.reduceLeDiff, Nat.reduceLT, reduceCtorEq, Int.reduceToNat, Int.reduceLE, Int.reduceLT, Int.reduceEq, Int.reduceNeg, Int.reduceNe, Int.reducePow, Nat.reducePow, Nat.reduceSub, IntKind.bits]
      refine ⟨i + 1, by omega, ?_⟩
      unfold ITake
      rw [e1]
      simp (maxSteps := 10000000) (maxDischargeDepth := 30) only [e0, e3, em, e5, go_sem, Nat.reduceEqDiff, ↓reduceIte, Nat.reduceAdd, Nat.reduceMul, Nat.reduceLeDiff, Nat.reduceLT, reduceCtorEq, Int.reduceToNat, Int.reduceLE, Int.reduceLT, Int.reduceEq, Int.reduceNeg, Int.reduceNe, Int.reducePow, Nat.reducePow, Nat.reduceSub, IntKind.bits]
      exact ⟨⟨q, rfl, a⟩, by omega, g⟩
    · have hf := pair_ne hxy
      have e6' : s 6 = .bool false := by rw [e6, decide_eq_false hm]
      have e1 : (l.take (i + 1)).erase x = (l.take i).erase x ++ [y] := by
        rw [et, List.erase_append, if_neg hm, List.erase_of_not_mem hm, List.erase_of_not_mem (fun h => hxy (List.mem_singleton.1 h).symm)]
      have ez : ((l.take i).erase x).map PairR.e ++ [y.e] = ((l.take (i + 1)).erase x).map PairR.e := by rw [e1, List.map_append]; rfl
      have em : decide (x ∈ l.take (i + 1)) = false := decide_eq_false <| by
        rw [et]; intro h
        rcases List.mem_append.1 h with h | h
        · exact hm h
        · exact hxy (List.mem_singleton.1 h).symm
      rw [ez] at ap' a2
      rw [List.length_map] at a2
      simp (maxSteps := 10000000) (maxDischargeDepth := 30) only [e0, e3, e5, e6, e7, List.length_map, c1, ia, g, PairR.e, ew, hm, ap', eqSeq_2, hf, go_sem, Nat.reduceEqDiff, ↓reduceIte, Nat.reduceAdd, Nat.reduceMul, Nat.reduceLeDiff, Nat.reduceLT, reduceCtorEq, Int.reduceToNat, Int.reduceLE, Int.reduceLT, Int.reduceEq, Int.reduceNeg, Int.reduceNe, Int.reducePow, Nat.reducePow, Nat.reduceSub, IntKind.bits]
      refine ⟨i + 1, by omega, ?_⟩
      unfold ITake
      simp (maxSteps := 10000000) (maxDischargeDepth := 30) only [e0, e3, em, e6', go_sem, Nat.reduceEqDiff, ↓reduceIte, Nat.reduceAdd, Nat.reduceMul, Nat.reduceLeDiff, Nat.reduceLT, reduceCtorEq, Int.reduceToNat, Int.reduceLE, Int.reduceLT, Int.reduceEq, Int.reduceNeg, Int.reduceNe, Int.reducePow, Nat.reducePow, Nat.reduceSub, IntKind.bits]
      exact ⟨⟨q2, rfl, a2⟩, by omega, g2⟩
end Go.LM
