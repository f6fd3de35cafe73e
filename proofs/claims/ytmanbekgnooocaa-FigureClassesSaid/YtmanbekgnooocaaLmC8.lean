import Derived.Test.YtmanbekgnooocaaLmC7
namespace Go.LM
open Go.Proofs
set_option maxRecDepth 4000
set_option maxHeartbeats 1000000
set_option linter.unusedSimpArgs false

/-- How many floats have a class. -/
def allC (l : List Flo) : Nat → Int
  | 0 => 0
  | i + 1 => match l[i]? with
    | some f => if 0 ≤ f.C ∧ f.C < 3 then allC l i + 1 else allC l i
    | none => allC l i
theorem allC_eq (l : List Flo) : ∀ i, allC l i = ((ofL l 0 i).length : Int) + (ofL l 1 i).length + (ofL l 2 i).length
  | 0 => by simp [allC, ofL]
  | i + 1 => by
    have ih := allC_eq l i
    simp only [allC, ofL]
    cases l[i]? with
    | none => exact ih
    | some f =>
      dsimp only
      by_cases h0 : f.C = 0
      · simp [h0, ih]; omega
      · by_cases h1 : f.C = 1
        · simp [h1, ih]; omega
        · by_cases h2 : f.C = 2
          · simp [h2, ih]; omega
          · rw [if_neg (by omega)]; simp [h0, h1, h2, ih]
theorem allC_le (l : List Flo) : ∀ i, 0 ≤ allC l i ∧ allC l i ≤ i
  | 0 => by simp [allC]
  | i + 1 => by
    have := allC_le l i
    simp only [allC]
    split
    · split <;> omega
    · omega

def J5 (o : Option (Nat × Nat)) (l : List Flo) (c : Int) (b : Nat) (i : Nat) (s : S) (h : H) : Prop :=
  s 0 = flos o l ∧ s 1 = .int .i64 c ∧ s 5 = .ptr b 0 ∧ s 6 = .int .i64 (allC l i) ∧ s 7 = .int .i64 i ∧ i ≤ l.length ∧ WF h ∧ b < h.len ∧ h.get b = some ⟨false, [.int .i64 (cnt l 0), .int .i64 (cnt l 1), .int .i64 (cnt l 2)]⟩
theorem l5 (o : Option (Nat × Nat)) (l : List Flo) (c : Int) : ∃ h', runI Try.prog TA 5 [flos o l, .int .i64 c] H0 = some (.bool true, h') := by
  refine true_of rfl res5 rfl ?_
  by_cases hl : (100 : Int) < l.length
  · simp (maxSteps := 10000000) (maxDischargeDepth := 30) only [q5, r5, hl, aw19, go_sem, Nat.reduceEqDiff, ↓reduceIte, Nat.reduceAdd, Nat.reduceMul, Nat.reduceLeDiff, Nat.reduceLT, reduceCtorEq, Int.reduceToNat, Int.reduceLE, Int.reduceLT, Int.reduceEq, Int.reduceNeg, Int.reduceNe, Int.reducePow, Nat.reducePow, Nat.reduceSub, IntKind.bits]
  have e23 := c23 o l (by omega)
  have hlo : H0.lob ≤ (hp Try.prog TA 23 [flos o l] H0).len := Nat.zero_le _
  simp (maxSteps := 10000000) (maxDischargeDepth := 30) only [q5, r5, hl, e23, wf0, hlo, go_sem, Nat.reduceEqDiff, ↓reduceIte, Nat.reduceAdd, Nat.reduceMul, Nat.reduceLeDiff, Nat.reduceLT, reduceCtorEq, Int.reduceToNat, Int.reduceLE, Int.reduceLT, Int.reduceEq, Int.reduceNeg, Int.reduceNe, Int.reducePow, Nat.reducePow, Nat.reduceSub, IntKind.bits]
  refine ru_loop (fun i => l.length - i) (J5 o l c (hp Try.prog TA 23 [flos o l] H0).len) 0 ?_ ?_
  · unfold J5
    simp (maxSteps := 10000000) (maxDischargeDepth := 30) only [wf0, Int.natCast_zero, allC, go_sem, Nat.reduceEqDiff, ↓reduceIte, Nat.reduceAdd, Nat.reduceMul, Nat.reduceLeDiff, Nat.reduceLT, reduceCtorEq, Int.reduceToNat, Int.reduceLE, Int.reduceLT, Int.reduceEq, Int.reduceNeg, Int.reduceNe, Int.reducePow, Nat.reducePow, Nat.reduceSub, IntKind.bits]
  · rintro i s h1 ⟨e0, e1, e5, e6, e7, hi2, w1, hb, g1⟩
    generalize (hp Try.prog TA 23 [flos o l] H0).len = b at e5 hb g1
    by_cases hlt : i < l.length
    · obtain ⟨f, hn⟩ : ∃ f, l[i]? = some f := ⟨l[i], List.getElem?_eq_getElem hlt⟩
      have ea := flo_at hn
      have c1 : (i : Int) < l.length := by omega
      have ew : IntKind.i64.wrap ((i : Int) + 1) = ((i + 1 : Nat) : Int) := by rw [wrap64 (by omega) (by omega)]; omega
      have hle := allC_le l i
      have ew2 : IntKind.i64.wrap (allC l i + 1) = allC l i + 1 := by rw [wrap64 (by omega) (by omega)]
      by_cases h0 : 0 ≤ f.C
      · by_cases h2 : f.C < 3
        · have ef : allC l (i + 1) = allC l i + 1 := by simp [allC, hn, h0, h2]
          simp (maxSteps := 10000000) (maxDischargeDepth := 30) only [e0, e1, e5, e6, e7, ea, c1, ew, ew2, Flo.e, h0, h2, go_sem, Nat.reduceEqDiff, ↓reduceIte, Nat.reduceAdd, Nat.reduceMul, Nat.reduceLeDiff, Nat.reduceLT, reduceCtorEq, Int.reduceToNat, Int.reduceLE, Int.reduceLT, Int.reduceEq, Int.reduceNeg, Int.reduceNe, Int.reducePow, Nat.reducePow, Nat.reduceSub, IntKind.bits]
          refine ⟨i + 1, by omega, ?_⟩
          unfold J5
          simp (maxSteps := 10000000) (maxDischargeDepth := 30) only [e0, e1, e5, e6, e7, w1, hb, g1, ef, go_sem, Nat.reduceEqDiff, ↓reduceIte, Nat.reduceAdd, Nat.reduceMul, Nat.reduceLeDiff, Nat.reduceLT, reduceCtorEq, Int.reduceToNat, Int.reduceLE, Int.reduceLT, Int.reduceEq, Int.reduceNeg, Int.reduceNe, Int.reducePow, Nat.reducePow, Nat.reduceSub, IntKind.bits]
          omega
        · have ef : allC l (i + 1) = allC l i := by simp [allC, hn, h0, h2]
          simp (maxSteps := 10000000) (maxDischargeDepth := 30) only [e0, e1, e5, e6, e7, ea, c1, ew, ew2, Flo.e, h0, h2, go_sem, Nat.reduceEqDiff, ↓reduceIte, Nat.reduceAdd, Nat.reduceMul, Nat.reduceLeDiff, Nat.reduceLT, reduceCtorEq, Int.reduceToNat, Int.reduceLE, Int.reduceLT, Int.reduceEq, Int.reduceNeg, Int.reduceNe, Int.reducePow, Nat.reducePow, Nat.reduceSub, IntKind.bits]
          refine ⟨i + 1, by omega, ?_⟩
          unfold J5
          simp (maxSteps := 10000000) (maxDischargeDepth := 30) only [e0, e1, e5, e6, e7, w1, hb, g1, ef, go_sem, Nat.reduceEqDiff, ↓reduceIte, Nat.reduceAdd, Nat.reduceMul, Nat.reduceLeDiff, Nat.reduceLT, reduceCtorEq, Int.reduceToNat, Int.reduceLE, Int.reduceLT, Int.reduceEq, Int.reduceNeg, Int.reduceNe, Int.reducePow, Nat.reducePow, Nat.reduceSub, IntKind.bits]
          omega
      · have ef : allC l (i + 1) = allC l i := by simp [allC, hn, h0]
        simp (maxSteps := 10000000) (maxDischargeDepth := 30) only [e0, e1, e5, e6, e7, ea, c1, ew, ew2, Flo.e, h0, go_sem, Nat.reduceEqDiff, ↓reduceIte, Nat.reduceAdd, Nat.reduceMul, Nat.reduceLeDiff, Nat.reduceLT, reduceCtorEq, Int.reduceToNat, Int.reduceLE, Int.reduceLT, Int.reduceEq, Int.reduceNeg, Int.reduceNe, Int.reducePow, Nat.reducePow, Nat.reduceSub, IntKind.bits]
        refine ⟨i + 1, by omega, ?_⟩
        unfold J5
        simp (maxSteps := 10000000) (maxDischargeDepth := 30) only [e0, e1, e5, e6, e7, w1, hb, g1, ef, go_sem, Nat.reduceEqDiff, ↓reduceIte, Nat.reduceAdd, Nat.reduceMul, Nat.reduceLeDiff, Nat.reduceLT, reduceCtorEq, Int.reduceToNat, Int.reduceLE, Int.reduceLT, Int.reduceEq, Int.reduceNeg, Int.reduceNe, Int.reducePow, Nat.reducePow, Nat.reduceSub, IntKind.bits]
        omega
    · have c1 : ¬ (i : Int) < l.length := by omega
      obtain rfl : i = l.length := by omega
      have e25 := c25 o l c (by omega)
      have e26 := c26 o l c (by omega)
      have e260 := c26 o l 0 (by omega)
      have e261 := c26 o l 1 (by omega)
      have e262 := c26 o l 2 (by omega)
      have e24 : ∀ (o o2 : Option (Nat × Nat)) (h : H), WF h → runI Try.prog TA 24 [ints o (ofL l c l.length), ints o2 (ofL l c l.length)] h = some (.bool true, hp Try.prog TA 24 [ints o (ofL l c l.length), ints o2 (ofL l c l.length)] h) :=
        fun o o2 h w => c24 o o2 _ (by have := ofL_len l c l.length; omega) h w
      have n0 : ((ofL l 0 l.length).length : Int) = cnt l 0 := rfl
      have n1 : ((ofL l 1 l.length).length : Int) = cnt l 1 := rfl
      have n2 : ((ofL l 2 l.length).length : Int) = cnt l 2 := rfl
      have b0 := ofL_len l 0 l.length
      have b1 := ofL_len l 1 l.length
      have b2 := ofL_len l 2 l.length
      have s1 : IntKind.i64.wrap (cnt l 0 + cnt l 1) = cnt l 0 + cnt l 1 := wrap64 (by unfold cnt; omega) (by unfold cnt; omega)
      have s2 : IntKind.i64.wrap (cnt l 0 + cnt l 1 + cnt l 2) = allC l l.length := by
        rw [allC_eq, wrap64 (by unfold cnt; omega) (by unfold cnt; omega)]; rfl
      simp (maxSteps := 10000000) (maxDischargeDepth := 30) only [e0, e1, e5, e6, e7, c1, e25, e26, e260, e261, e262, e24, n0, n1, n2, s1, s2, w1, hb, g1, aw19, go_sem, Nat.reduceEqDiff, ↓reduceIte, Nat.reduceAdd, Nat.reduceMul, Nat.reduceLeDiff, Nat.reduceLT, reduceCtorEq, Int.reduceToNat, Int.reduceLE, Int.reduceLT, Int.reduceEq, Int.reduceNeg, Int.reduceNe, Int.reducePow, Nat.reducePow, Nat.reduceSub, IntKind.bits]
end Go.LM
