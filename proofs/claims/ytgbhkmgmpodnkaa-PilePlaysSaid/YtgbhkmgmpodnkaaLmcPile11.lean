import Derived.Test.YtgbhkmgmpodnkaaLmTrcRc
import Derived.Test.YtgbhkmgmpodnkaaLmcPile10
namespace Go.LM
open Go.Proofs
set_option maxRecDepth 8000
set_option maxHeartbeats 4000000
set_option linter.unusedSimpArgs false
set_option linter.unusedVariables false
/-! ### what the law's own functions answer -/
theorem inR_snoc {l : List PairR} {x : PairR} (h : InR l) (h1 : -1099511627776 ≤ x.a) (h2 : x.a ≤ 1099511627776) : InR (l ++ [x]) := by
  intro y hy
  rcases List.mem_append.1 hy with hy | hy
  · exact h y hy
  · rw [List.mem_singleton.1 hy]; exact ⟨h1, h2⟩
theorem pop_at {xs : List PopR} {i : Nat} {x : PopR} (h : xs[i]? = some x) : iaS (xs.map PopR.e) (i : Int) = some (.cptr x.e) := by
  unfold iaS
  rw [if_pos (by omega), Int.toNat_natCast, List.getElem?_map, h]; rfl
def SmallP (l : List PopR) : Prop := l.length ≤ 200 ∧ InR (l.map PopR.x)
def okSmall32 (l : List PopR) (h : H) (v : LV) (h' : H) : Prop := Keep h h' ∧ ∃ b, v = .bool b ∧ (b = true → SmallP l)
def ISmall (o : Option (Nat × Nat)) (l : List PopR) (h : H) (i : Nat) (s : S) (hh : H) : Prop :=
  s 0 = mkS o 3 (l.map PopR.e) ∧ s 3 = .int .i64 i ∧ i ≤ l.length ∧ InR ((l.take i).map PopR.x) ∧ hh = h
theorem cSmall32 (o : Option (Nat × Nat)) (l : List PopR) (h : H) (w : WF h) :
    ∃ v h', runI Try.prog TA 33 [mkS o 3 (l.map PopR.e)] h = some (v, h') ∧ okSmall32 l h v h' := by
  refine calls_of rfl res33 rfl ?_
  simp (maxSteps := 10000000) (maxDischargeDepth := 30) only [q33, r33, go_sem, Nat.reduceEqDiff, ↓reduceIte, Nat.reduceAdd, Nat.reduceMul, Nat.reduceLeDiff, Nat.reduceLT, reduceCtorEq, Int.reduceToNat, Int.reduceLE, Int.reduceLT, Int.reduceEq, Int.reduceNeg, Int.reduceNe, Int.reducePow, Nat.reducePow, Nat.reduceSub, IntKind.bits]
  refine ru_loop (fun i => l.length - i) (ISmall o l h) 0 ?_ ?_
  · unfold ISmall
    simp (maxSteps := 10000000) (maxDischargeDepth := 30) only [Int.natCast_zero, go_sem, Nat.reduceEqDiff, ↓reduceIte, Nat.reduceAdd, Nat.reduceMul, Nat.reduceLeDiff, Nat.reduceLT, reduceCtorEq, Int.reduceToNat, Int.reduceLE, Int.reduceLT, Int.reduceEq, Int.reduceNeg, Int.reduceNe, Int.reducePow, Nat.reducePow, Nat.reduceSub, IntKind.bits]
    exact fun x hx => (by simp at hx)
  · rintro i s hh ⟨e0, e3, hi, hin, rfl⟩
    by_cases c1 : (i : Int) < l.length
    rotate_left
    · obtain rfl : i = l.length := by omega
      rw [List.take_length] at hin
      simp (maxSteps := 10000000) (maxDischargeDepth := 30) only [e0, e3, List.length_map, c1, go_sem, Nat.reduceEqDiff, ↓reduceIte, Nat.reduceAdd, Nat.reduceMul, Nat.reduceLeDiff, Nat.reduceLT, reduceCtorEq, Int.reduceToNat, Int.reduceLE, Int.reduceLT, Int.reduceEq, Int.reduceNeg, Int.reduceNe, Int.reducePow, Nat.reducePow, Nat.reduceSub, IntKind.bits]
      refine ⟨Keep.refl _, _, rfl, fun hb => ⟨?_, hin⟩⟩
      have := of_decide_eq_true hb
      omega
    obtain ⟨y, hy⟩ : ∃ y, l[i]? = some y := ⟨_, List.getElem?_eq_getElem (by omega)⟩
    have ia := pop_at hy
    by_cases c2 : (i : Int) < 200
    rotate_left
    · simp (maxSteps := 10000000) (maxDischargeDepth := 30) only [e0, e3, List.length_map, c1, c2, go_sem, Nat.reduceEqDiff, ↓reduceIte, Nat.reduceAdd, Nat.reduceMul, Nat.reduceLeDiff, Nat.reduceLT, reduceCtorEq, Int.reduceToNat, Int.reduceLE, Int.reduceLT, Int.reduceEq, Int.reduceNeg, Int.reduceNe, Int.reducePow, Nat.reducePow, Nat.reduceSub, IntKind.bits]
      refine ⟨Keep.refl _, _, rfl, fun hb => ?_⟩
      have := of_decide_eq_true hb
      omega
    have ew : IntKind.i64.wrap ((i : Int) + 1) = ((i + 1 : Nat) : Int) := by rw [wrap64 (by omega) (by omega)]; omega
    have et : l.take (i + 1) = l.take i ++ [y] := take_succ hy
    by_cases ca : y.a < -1099511627776
    · simp (maxSteps := 10000000) (maxDischargeDepth := 30) only [e0, e3, List.length_map, c1, c2, ia, PopR.e, ca, go_sem, Nat.reduceEqDiff, ↓reduceIte, Nat.reduceAdd, Nat.reduceMul, Nat.reduceLeDiff, Nat.reduceLT, reduceCtorEq, Int.reduceToNat, Int.reduceLE, Int.reduceLT, Int.reduceEq, Int.reduceNeg, Int.reduceNe, Int.reducePow, Nat.reducePow, Nat.reduceSub, IntKind.bits]
      exact ⟨Keep.refl _, _, rfl, fun hb => by cases hb⟩
    by_cases cb : 1099511627776 < y.a
    · simp (maxSteps := 10000000) (maxDischargeDepth := 30) only [e0, e3, List.length_map, c1, c2, ia, PopR.e, ca, cb, go_sem, Nat.reduceEqDiff, ↓reduceIte, Nat.reduceAdd, Nat.reduceMul, Nat.reduceLeDiff, Nat.reduceLT, reduceCtorEq, Int.reduceToNat, Int.reduceLE, Int.reduceLT, Int.reduceEq, Int.reduceNeg, Int.reduceNe, Int.reducePow, Nat.reducePow, Nat.reduceSub, IntKind.bits]
      exact ⟨Keep.refl _, _, rfl, fun hb => by cases hb⟩
    refine ru_step ?_
    simp (maxSteps := 10000000) (maxDischargeDepth := 30) only [e0, e3, List.length_map, c1, c2, ia, PopR.e, ca, cb, ew, go_sem, Nat.reduceEqDiff, ↓reduceIte, Nat.reduceAdd, Nat.reduceMul, Nat.reduceLeDiff, Nat.reduceLT, reduceCtorEq, Int.reduceToNat, Int.reduceLE, Int.reduceLT, Int.reduceEq, Int.reduceNeg, Int.reduceNe, Int.reducePow, Nat.reducePow, Nat.reduceSub, IntKind.bits]
    refine ⟨i + 1, by omega, ?_⟩
    unfold ISmall
    simp (maxSteps := 10000000) (maxDischargeDepth := 30) only [e0, go_sem, Nat.reduceEqDiff, ↓reduceIte, Nat.reduceAdd, Nat.reduceMul, Nat.reduceLeDiff, Nat.reduceLT, reduceCtorEq, Int.reduceToNat, Int.reduceLE, Int.reduceLT, Int.reduceEq, Int.reduceNeg, Int.reduceNe, Int.reducePow, Nat.reducePow, Nat.reduceSub, IntKind.bits]
    refine ⟨by omega, ?_⟩
    rw [et, List.map_append]
    exact inR_snoc (x := y.x) hin (by simp only [PopR.x]; omega) (by simp only [PopR.x]; omega)
theorem pSame0 (h : H) (w : WF h) (o : Option (Nat × Nat)) : runI Try.prog TA 41 [(⟨0, 0⟩ : PairR).e, .bool false, mkS o 2 (([] : List PairR).map PairR.e)] h = some (.bool true, hp Try.prog TA 41 [(⟨0, 0⟩ : PairR).e, .bool false, mkS o 2 (([] : List PairR).map PairR.e)] h) := by
  refine pure_of rfl res41 rfl ?_
  simp (maxSteps := 10000000) (maxDischargeDepth := 30) only [q41, r41, PairR.e, List.map_nil, List.length_nil, Int.natCast_zero, go_sem, Nat.reduceEqDiff, ↓reduceIte, Nat.reduceAdd, Nat.reduceMul, Nat.reduceLeDiff, Nat.reduceLT, reduceCtorEq, Int.reduceToNat, Int.reduceLE, Int.reduceLT, Int.reduceEq, Int.reduceNeg, Int.reduceNe, Int.reducePow, Nat.reducePow, Nat.reduceSub, IntKind.bits]
  done
theorem pSame1 (h : H) (w : WF h) (o : Option (Nat × Nat)) (zs : List PairR) (x z : PairR) (hz : zs[0]? = some z) (ha : x.a = z.a) (hx : x ∈ zs) (hl : zs.length ≤ 100000) :
    runI Try.prog TA 41 [x.e, .bool true, mkS o 2 (zs.map PairR.e)] h = some (.bool true, hp Try.prog TA 41 [x.e, .bool true, mkS o 2 (zs.map PairR.e)] h) := by
  refine pure_of rfl res41 rfl ?_
  have hn : ((zs.length : Int) = 0) = False := eq_false (by have := (List.getElem?_eq_some_iff.1 hz).1; omega)
  have ia : iaS (zs.map PairR.e) 0 = some (.cptr z.e) := pair_at (i := 0) hz
  have hc : 0 < zs.count x := List.count_pos_iff.2 hx
  have hab : (x.a = z.a) = True := eq_true ha
  have k0 := (Keep.refl h).alloc [.int .i64 x.a, .int .i64 x.b]
  have w0 := w.keep k0
  simp (maxSteps := 10000000) (maxDischargeDepth := 30) only [q41, r41, PairR.e, List.length_map, hn, ia, hab, go_sem, Nat.reduceEqDiff, ↓reduceIte, Nat.reduceAdd, Nat.reduceMul, Nat.reduceLeDiff, Nat.reduceLT, reduceCtorEq, Int.reduceToNat, Int.reduceLE, Int.reduceLT, Int.reduceEq, Int.reduceNeg, Int.reduceNe, Int.reducePow, Nat.reducePow, Nat.reduceSub, IntKind.bits]
  first
  | refine rw_kcall (pHas o zs x _ hl) w0 (fun h1 k1 w1 => ?_)
  | refine rw_kcallD (pHas o zs x _ hl) w0 (fun h1 k1 w1 => ?_)
  have hp : ((0 : Int) < (zs.count x : Nat)) = True := eq_true (by omega)
  have kk := k0.trans k1
  simp (maxSteps := 10000000) (maxDischargeDepth := 30) only [hp, kk, go_sem, Nat.reduceEqDiff, ↓reduceIte, Nat.reduceAdd, Nat.reduceMul, Nat.reduceLeDiff, Nat.reduceLT, reduceCtorEq, Int.reduceToNat, Int.reduceLE, Int.reduceLT, Int.reduceEq, Int.reduceNeg, Int.reduceNe, Int.reducePow, Nat.reducePow, Nat.reduceSub, IntKind.bits]
end Go.LM
