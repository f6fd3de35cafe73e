import Derived.Test.YtgbhkmgmpodnkaaLmTrcR1
import Derived.Test.YtgbhkmgmpodnkaaLmcPara2
namespace Go.LM
open Go.Proofs
set_option maxRecDepth 8000
set_option maxHeartbeats 8000000
set_option linter.unusedSimpArgs false

theorem cPaClub (v : LV) (l : List ItemR) (b : Int) (hl : l.length ≤ 1000) (h : H) (w : WF h) (m : IsV v l h) :
    runI Try.prog TA 24 [v, .int .i64 b] h = some (.bool (clubP l b), hp Try.prog TA 24 [v, .int .i64 b] h) := by
  refine pure_of rfl res24 rfl ?_
  simp (maxSteps := 10000000) (maxDischargeDepth := 30) only [q24, r24, go_sem, Nat.reduceEqDiff, ↓reduceIte, Nat.reduceAdd, Nat.reduceMul, Nat.reduceLeDiff, Nat.reduceLT, reduceCtorEq, Int.reduceToNat, Int.reduceLE, Int.reduceLT, Int.reduceEq, Int.reduceNeg, Int.reduceNe, Int.reducePow, Nat.reducePow, Nat.reduceSub, IntKind.bits]
  refine ro_vcall (cPaIs v l 1 h m) (fun u h1 J => ?_)
  obtain ⟨⟨p, q, rfl, gp, gq⟩, k1⟩ := J
  have w1 := w.keep k1
  have m1 := m.next k1
  simp (maxSteps := 10000000) (maxDischargeDepth := 30) only [go_sem, Nat.reduceEqDiff, ↓reduceIte, Nat.reduceAdd, Nat.reduceMul, Nat.reduceLeDiff, Nat.reduceLT, reduceCtorEq, Int.reduceToNat, Int.reduceLE, Int.reduceLT, Int.reduceEq, Int.reduceNeg, Int.reduceNe, Int.reducePow, Nat.reducePow, Nat.reduceSub, IntKind.bits]
  refine ro_kcall (cPaAhead v l b hl h1 w1 m1) w1 (fun h2 k2 w2 => ?_)
  have gp2 := (k2.get (lt_of_get gp)).trans gp
  have gq2 := (k2.get (lt_of_get gq)).trans gq
  simp (maxSteps := 10000000) (maxDischargeDepth := 30) only [go_sem, Nat.reduceEqDiff, ↓reduceIte, Nat.reduceAdd, Nat.reduceMul, Nat.reduceLeDiff, Nat.reduceLT, reduceCtorEq, Int.reduceToNat, Int.reduceLE, Int.reduceLT, Int.reduceEq, Int.reduceNeg, Int.reduceNe, Int.reducePow, Nat.reducePow, Nat.reduceSub, IntKind.bits]
  refine ro_kcall (cPaIsF v l 1 (aheadP l b l.length) p q h2 w2 (m1.next k2) gp2 gq2) w2 (fun h3 k3 w3 => ?_)
  have kk := (k1.trans k2).trans k3
  simp (maxSteps := 10000000) (maxDischargeDepth := 30) only [kk, go_sem, Nat.reduceEqDiff, ↓reduceIte, Nat.reduceAdd, Nat.reduceMul, Nat.reduceLeDiff, Nat.reduceLT, reduceCtorEq, Int.reduceToNat, Int.reduceLE, Int.reduceLT, Int.reduceEq, Int.reduceNeg, Int.reduceNe, Int.reducePow, Nat.reducePow, Nat.reduceSub, IntKind.bits]
  rfl

theorem cPaWidow (v : LV) (l : List ItemR) (b : Int) (hl : l.length ≤ 1000) (h : H) (w : WF h) (m : IsV v l h) :
    runI Try.prog TA 26 [v, .int .i64 b] h = some (.bool (widowP l b), hp Try.prog TA 26 [v, .int .i64 b] h) := by
  refine pure_of rfl res26 rfl ?_
  simp (maxSteps := 10000000) (maxDischargeDepth := 30) only [q26, r26, go_sem, Nat.reduceEqDiff, ↓reduceIte, Nat.reduceAdd, Nat.reduceMul, Nat.reduceLeDiff, Nat.reduceLT, reduceCtorEq, Int.reduceToNat, Int.reduceLE, Int.reduceLT, Int.reduceEq, Int.reduceNeg, Int.reduceNe, Int.reducePow, Nat.reducePow, Nat.reduceSub, IntKind.bits]
  refine ro_vcall (cPaIs v l 2 h m) (fun u h1 J => ?_)
  obtain ⟨⟨p, q, rfl, gp, gq⟩, k1⟩ := J
  have w1 := w.keep k1
  have m1 := m.next k1
  simp (maxSteps := 10000000) (maxDischargeDepth := 30) only [go_sem, Nat.reduceEqDiff, ↓reduceIte, Nat.reduceAdd, Nat.reduceMul, Nat.reduceLeDiff, Nat.reduceLT, reduceCtorEq, Int.reduceToNat, Int.reduceLE, Int.reduceLT, Int.reduceEq, Int.reduceNeg, Int.reduceNe, Int.reducePow, Nat.reducePow, Nat.reduceSub, IntKind.bits]
  refine ro_kcall (cPaBehind v l b hl h1 w1 m1) w1 (fun h2 k2 w2 => ?_)
  have gp2 := (k2.get (lt_of_get gp)).trans gp
  have gq2 := (k2.get (lt_of_get gq)).trans gq
  simp (maxSteps := 10000000) (maxDischargeDepth := 30) only [go_sem, Nat.reduceEqDiff, ↓reduceIte, Nat.reduceAdd, Nat.reduceMul, Nat.reduceLeDiff, Nat.reduceLT, reduceCtorEq, Int.reduceToNat, Int.reduceLE, Int.reduceLT, Int.reduceEq, Int.reduceNeg, Int.reduceNe, Int.reducePow, Nat.reducePow, Nat.reduceSub, IntKind.bits]
  refine ro_kcall (cPaIsF v l 2 (behindP l b) p q h2 w2 (m1.next k2) gp2 gq2) w2 (fun h3 k3 w3 => ?_)
  have kk := (k1.trans k2).trans k3
  simp (maxSteps := 10000000) (maxDischargeDepth := 30) only [kk, go_sem, Nat.reduceEqDiff, ↓reduceIte, Nat.reduceAdd, Nat.reduceMul, Nat.reduceLeDiff, Nat.reduceLT, reduceCtorEq, Int.reduceToNat, Int.reduceLE, Int.reduceLT, Int.reduceEq, Int.reduceNeg, Int.reduceNe, Int.reducePow, Nat.reducePow, Nat.reduceSub, IntKind.bits]
  rfl

/-! ### the document's -/
def IRAhead20 (o : Option (Nat × Nat)) (l : List ItemR) (b : Int) (h0 : H) (i : Nat) (s : S) (hh : H) : Prop :=
  s 0 = mkS o 7 (l.map ItemR.e) ∧ s 1 = .int .i64 b ∧ s 5 = .int .i64 (aheadP l b i) ∧ s 6 = .int .i64 i ∧ i ≤ l.length ∧ Keep h0 hh ∧ WF hh
theorem cRAhead20 (o : Option (Nat × Nat)) (l : List ItemR) (b : Int) (hl : l.length ≤ 1000) (h : H) (w : WF h) :
    runI Try.prog TA 21 [mkS o 7 (l.map ItemR.e), .int .i64 b] h = some (.int .i64 (aheadP l b l.length), hp Try.prog TA 21 [mkS o 7 (l.map ItemR.e), .int .i64 b] h) := by
  refine pure_of rfl res21 rfl ?_
  simp (maxSteps := 10000000) (maxDischargeDepth := 30) only [q21, r21, go_sem, Nat.reduceEqDiff, ↓reduceIte, Nat.reduceAdd, Nat.reduceMul, Nat.reduceLeDiff, Nat.reduceLT, reduceCtorEq, Int.reduceToNat, Int.reduceLE, Int.reduceLT, Int.reduceEq, Int.reduceNeg, Int.reduceNe, Int.reducePow, Nat.reducePow, Nat.reduceSub, IntKind.bits]
  refine ru_loop (fun i => l.length - i) (IRAhead20 o l b h) 0 ?_ ?_
  · unfold IRAhead20
    simp (maxSteps := 10000000) (maxDischargeDepth := 30) only [Int.natCast_zero, go_sem, Nat.reduceEqDiff, ↓reduceIte, Nat.reduceAdd, Nat.reduceMul, Nat.reduceLeDiff, Nat.reduceLT, reduceCtorEq, Int.reduceToNat, Int.reduceLE, Int.reduceLT, Int.reduceEq, Int.reduceNeg, Int.reduceNe, Int.reducePow, Nat.reducePow, Nat.reduceSub, IntKind.bits]
    exact ⟨rfl, w⟩
  · rintro i s hh ⟨e0, e1, e5, e6, hi, kk, ww⟩
    by_cases c1 : (i : Int) < l.length
    rotate_left
    · obtain rfl : i = l.length := by omega
      simp (maxSteps := 10000000) (maxDischargeDepth := 30) only [e0, e1, e5, e6, c1, List.length_map, kk, go_sem, Nat.reduceEqDiff, ↓reduceIte, Nat.reduceAdd, Nat.reduceMul, Nat.reduceLeDiff, Nat.reduceLT, reduceCtorEq, Int.reduceToNat, Int.reduceLE, Int.reduceLT, Int.reduceEq, Int.reduceNeg, Int.reduceNe, Int.reducePow, Nat.reducePow, Nat.reduceSub, IntKind.bits]
    refine ru_step ?_
    obtain ⟨x, hx⟩ := at_lt (l := l) (i := i) (by omega)
    have hs := aheadP_s (b := b) hx
    have ia : iaS (l.map ItemR.e) (i : Int) = some (.cptr x.e) := iaS_map (Int.natCast_nonneg i) (by simpa using hx)
    have ew : IntKind.i64.wrap ((i : Int) + 1) = ((i + 1 : Nat) : Int) := by rw [wrap64 (by omega) (by omega)]; omega
    by_cases c2 : (i : Int) < b
    rotate_left
    · rw [if_neg (fun q => c2 q.1)] at hs
      simp (maxSteps := 10000000) (maxDischargeDepth := 30) only [e0, e1, e5, e6, c1, List.length_map, c2, ew, go_sem, Nat.reduceEqDiff, ↓reduceIte, Nat.reduceAdd, Nat.reduceMul, Nat.reduceLeDiff, Nat.reduceLT, reduceCtorEq, Int.reduceToNat, Int.reduceLE, Int.reduceLT, Int.reduceEq, Int.reduceNeg, Int.reduceNe, Int.reducePow, Nat.reducePow, Nat.reduceSub, IntKind.bits]
      refine ⟨i + 1, by omega, ?_⟩
      unfold IRAhead20
      rw [hs]
      simp (maxSteps := 10000000) (maxDischargeDepth := 30) only [e0, e1, e5, go_sem, Nat.reduceEqDiff, ↓reduceIte, Nat.reduceAdd, Nat.reduceMul, Nat.reduceLeDiff, Nat.reduceLT, reduceCtorEq, Int.reduceToNat, Int.reduceLE, Int.reduceLT, Int.reduceEq, Int.reduceNeg, Int.reduceNe, Int.reducePow, Nat.reducePow, Nat.reduceSub, IntKind.bits]
      exact ⟨by omega, kk, ww⟩
    by_cases c3 : x.k = 1
    rotate_left
    · rw [if_neg (fun q => c3 q.2)] at hs
      simp (maxSteps := 10000000) (maxDischargeDepth := 30) only [e0, e1, e5, e6, c1, List.length_map, c2, c3, ia, ItemR.e, ew, go_sem, Nat.reduceEqDiff, ↓reduceIte, Nat.reduceAdd, Nat.reduceMul, Nat.reduceLeDiff, Nat.reduceLT, reduceCtorEq, Int.reduceToNat, Int.reduceLE, Int.reduceLT, Int.reduceEq, Int.reduceNeg, Int.reduceNe, Int.reducePow, Nat.reducePow, Nat.reduceSub, IntKind.bits]
      refine ⟨i + 1, by omega, ?_⟩
      unfold IRAhead20
      rw [hs]
      simp (maxSteps := 10000000) (maxDischargeDepth := 30) only [e0, e1, e5, go_sem, Nat.reduceEqDiff, ↓reduceIte, Nat.reduceAdd, Nat.reduceMul, Nat.reduceLeDiff, Nat.reduceLT, reduceCtorEq, Int.reduceToNat, Int.reduceLE, Int.reduceLT, Int.reduceEq, Int.reduceNeg, Int.reduceNe, Int.reducePow, Nat.reducePow, Nat.reduceSub, IntKind.bits]
      exact ⟨by omega, kk, ww⟩
    · rw [if_pos ⟨c2, c3⟩] at hs
      simp (maxSteps := 10000000) (maxDischargeDepth := 30) only [e0, e1, e5, e6, c1, List.length_map, c2, c3, ia, ItemR.e, ew, go_sem, Nat.reduceEqDiff, ↓reduceIte, Nat.reduceAdd, Nat.reduceMul, Nat.reduceLeDiff, Nat.reduceLT, reduceCtorEq, Int.reduceToNat, Int.reduceLE, Int.reduceLT, Int.reduceEq, Int.reduceNeg, Int.reduceNe, Int.reducePow, Nat.reducePow, Nat.reduceSub, IntKind.bits]
      refine ⟨i + 1, by omega, ?_⟩
      unfold IRAhead20
      rw [hs]
      simp (maxSteps := 10000000) (maxDischargeDepth := 30) only [e0, e1, e5, go_sem, Nat.reduceEqDiff, ↓reduceIte, Nat.reduceAdd, Nat.reduceMul, Nat.reduceLeDiff, Nat.reduceLT, reduceCtorEq, Int.reduceToNat, Int.reduceLE, Int.reduceLT, Int.reduceEq, Int.reduceNeg, Int.reduceNe, Int.reducePow, Nat.reducePow, Nat.reduceSub, IntKind.bits]
      exact ⟨by omega, kk, ww⟩
def IRBehind20 (o : Option (Nat × Nat)) (l : List ItemR) (b : Int) (h0 : H) (i : Nat) (s : S) (hh : H) : Prop :=
  s 0 = mkS o 7 (l.map ItemR.e) ∧ s 1 = .int .i64 b ∧ s 5 = .int .i64 i ∧ i ≤ l.length ∧ (i ≤ (max b 0).toNat ∨ firstK (l.drop i) i = behindP l b) ∧ Keep h0 hh ∧ WF hh
theorem cRBehind20 (o : Option (Nat × Nat)) (l : List ItemR) (b : Int) (hl : l.length ≤ 1000) (h : H) (w : WF h) :
    runI Try.prog TA 23 [mkS o 7 (l.map ItemR.e), .int .i64 b] h = some (.int .i64 (behindP l b), hp Try.prog TA 23 [mkS o 7 (l.map ItemR.e), .int .i64 b] h) := by
  refine pure_of rfl res23 rfl ?_
  simp (maxSteps := 10000000) (maxDischargeDepth := 30) only [q23, r23, go_sem, Nat.reduceEqDiff, ↓reduceIte, Nat.reduceAdd, Nat.reduceMul, Nat.reduceLeDiff, Nat.reduceLT, reduceCtorEq, Int.reduceToNat, Int.reduceLE, Int.reduceLT, Int.reduceEq, Int.reduceNeg, Int.reduceNe, Int.reducePow, Nat.reducePow, Nat.reduceSub, IntKind.bits]
  refine ru_loop (fun i => l.length - i) (IRBehind20 o l b h) 0 ?_ ?_
  · unfold IRBehind20
    simp (maxSteps := 10000000) (maxDischargeDepth := 30) only [Int.natCast_zero, go_sem, Nat.reduceEqDiff, ↓reduceIte, Nat.reduceAdd, Nat.reduceMul, Nat.reduceLeDiff, Nat.reduceLT, reduceCtorEq, Int.reduceToNat, Int.reduceLE, Int.reduceLT, Int.reduceEq, Int.reduceNeg, Int.reduceNe, Int.reducePow, Nat.reducePow, Nat.reduceSub, IntKind.bits]
    exact w
  · rintro i s hh ⟨e0, e1, e5, hi, ha, kk, ww⟩
    by_cases c1 : (i : Int) < l.length
    rotate_left
    · obtain rfl : i = l.length := by omega
      have hr : behindP l b = -1 := by
        rcases ha with q | q
        · exact firstK_end q
        · rw [← q]; exact firstK_end (Nat.le_refl _)
      rw [hr]
      simp (maxSteps := 10000000) (maxDischargeDepth := 30) only [e0, e1, e5, c1, List.length_map, kk, go_sem, Nat.reduceEqDiff, ↓reduceIte, Nat.reduceAdd, Nat.reduceMul, Nat.reduceLeDiff, Nat.reduceLT, reduceCtorEq, Int.reduceToNat, Int.reduceLE, Int.reduceLT, Int.reduceEq, Int.reduceNeg, Int.reduceNe, Int.reducePow, Nat.reducePow, Nat.reduceSub, IntKind.bits]
    obtain ⟨x, hx⟩ := at_lt (l := l) (i := i) (by omega)
    have ia : iaS (l.map ItemR.e) (i : Int) = some (.cptr x.e) := iaS_map (Int.natCast_nonneg i) (by simpa using hx)
    have ew : IntKind.i64.wrap ((i : Int) + 1) = ((i + 1 : Nat) : Int) := by rw [wrap64 (by omega) (by omega)]; omega
    by_cases c2 : b ≤ (i : Int)
    rotate_left
    · refine ru_step ?_
      simp (maxSteps := 10000000) (maxDischargeDepth := 30) only [e0, e1, e5, c1, List.length_map, c2, ew, go_sem, Nat.reduceEqDiff, ↓reduceIte, Nat.reduceAdd, Nat.reduceMul, Nat.reduceLeDiff, Nat.reduceLT, reduceCtorEq, Int.reduceToNat, Int.reduceLE, Int.reduceLT, Int.reduceEq, Int.reduceNeg, Int.reduceNe, Int.reducePow, Nat.reducePow, Nat.reduceSub, IntKind.bits]
      refine ⟨i + 1, by omega, ?_⟩
      unfold IRBehind20
      simp (maxSteps := 10000000) (maxDischargeDepth := 30) only [e0, e1, go_sem, Nat.reduceEqDiff, ↓reduceIte, Nat.reduceAdd, Nat.reduceMul, Nat.reduceLeDiff, Nat.reduceLT, reduceCtorEq, Int.reduceToNat, Int.reduceLE, Int.reduceLT, Int.reduceEq, Int.reduceNeg, Int.reduceNe, Int.reducePow, Nat.reducePow, Nat.reduceSub, IntKind.bits]
      exact ⟨by omega, .inl (by omega), kk, ww⟩
    have hf : firstK (l.drop i) i = behindP l b := by
      rcases ha with q | q
      · have : i = (max b 0).toNat := by omega
        subst this; rfl
      · exact q
    have hs := firstK_at hx
    by_cases c3 : x.k = 1
    · rw [if_pos c3] at hs
      rw [← hf, hs]
      simp (maxSteps := 10000000) (maxDischargeDepth := 30) only [e0, e1, e5, c1, List.length_map, c2, c3, ia, ItemR.e, kk, go_sem, Nat.reduceEqDiff, ↓reduceIte, Nat.reduceAdd, Nat.reduceMul, Nat.reduceLeDiff, Nat.reduceLT, reduceCtorEq, Int.reduceToNat, Int.reduceLE, Int.reduceLT, Int.reduceEq, Int.reduceNeg, Int.reduceNe, Int.reducePow, Nat.reducePow, Nat.reduceSub, IntKind.bits]
    · rw [if_neg c3] at hs
      refine ru_step ?_
      simp (maxSteps := 10000000) (maxDischargeDepth := 30) only [e0, e1, e5, c1, List.length_map, c2, c3, ia, ItemR.e, ew, go_sem, Nat.reduceEqDiff, ↓reduceIte, Nat.reduceAdd, Nat.reduceMul, Nat.reduceLeDiff, Nat.reduceLT, reduceCtorEq, Int.reduceToNat, Int.reduceLE, Int.reduceLT, Int.reduceEq, Int.reduceNeg, Int.reduceNe, Int.reducePow, Nat.reducePow, Nat.reduceSub, IntKind.bits]
      refine ⟨i + 1, by omega, ?_⟩
      unfold IRBehind20
      simp (maxSteps := 10000000) (maxDischargeDepth := 30) only [e0, e1, go_sem, Nat.reduceEqDiff, ↓reduceIte, Nat.reduceAdd, Nat.reduceMul, Nat.reduceLeDiff, Nat.reduceLT, reduceCtorEq, Int.reduceToNat, Int.reduceLE, Int.reduceLT, Int.reduceEq, Int.reduceNeg, Int.reduceNe, Int.reducePow, Nat.reducePow, Nat.reduceSub, IntKind.bits]
      exact ⟨by omega, .inr (by rw [← hf, hs]), kk, ww⟩
theorem cRClub20 (o : Option (Nat × Nat)) (l : List ItemR) (b : Int) (hl : l.length ≤ 1000) (h : H) (w : WF h) :
    runI Try.prog TA 25 [mkS o 7 (l.map ItemR.e), .int .i64 b] h = some (.bool (clubP l b), hp Try.prog TA 25 [mkS o 7 (l.map ItemR.e), .int .i64 b] h) := by
  refine pure_of rfl res25 rfl ?_
  simp (maxSteps := 10000000) (maxDischargeDepth := 30) only [q25, r25, go_sem, Nat.reduceEqDiff, ↓reduceIte, Nat.reduceAdd, Nat.reduceMul, Nat.reduceLeDiff, Nat.reduceLT, reduceCtorEq, Int.reduceToNat, Int.reduceLE, Int.reduceLT, Int.reduceEq, Int.reduceNeg, Int.reduceNe, Int.reducePow, Nat.reducePow, Nat.reduceSub, IntKind.bits]
  refine ro_kcall (cRAhead20 o l b hl h w) w (fun h1 k1 w1 => ?_)
  unfold clubP isF
  rcases aheadP_range (l := l) (b := b) l.length with e | ⟨j, x, e, -, -, hx, -⟩
  · rw [e, itAt_end (.inl (by omega))]
    simp (maxSteps := 10000000) (maxDischargeDepth := 30) only [k1, go_sem, Nat.reduceEqDiff, ↓reduceIte, Nat.reduceAdd, Nat.reduceMul, Nat.reduceLeDiff, Nat.reduceLT, reduceCtorEq, Int.reduceToNat, Int.reduceLE, Int.reduceLT, Int.reduceEq, Int.reduceNeg, Int.reduceNe, Int.reducePow, Nat.reducePow, Nat.reduceSub, IntKind.bits]
  · rw [e]
    have hi : itAt l (j : Int) = some x := by unfold itAt; rw [if_pos (Int.natCast_nonneg j), Int.toNat_natCast]; exact hx
    have ia := item_atV hi
    have c0 : 0 ≤ (j : Int) := Int.natCast_nonneg j
    rw [hi]
    simp (maxSteps := 10000000) (maxDischargeDepth := 30) only [c0, ia, ItemR.e, k1, go_sem, Nat.reduceEqDiff, ↓reduceIte, Nat.reduceAdd, Nat.reduceMul, Nat.reduceLeDiff, Nat.reduceLT, reduceCtorEq, Int.reduceToNat, Int.reduceLE, Int.reduceLT, Int.reduceEq, Int.reduceNeg, Int.reduceNe, Int.reducePow, Nat.reducePow, Nat.reduceSub, IntKind.bits]
theorem cRWidow20 (o : Option (Nat × Nat)) (l : List ItemR) (b : Int) (hl : l.length ≤ 1000) (h : H) (w : WF h) :
    runI Try.prog TA 27 [mkS o 7 (l.map ItemR.e), .int .i64 b] h = some (.bool (widowP l b), hp Try.prog TA 27 [mkS o 7 (l.map ItemR.e), .int .i64 b] h) := by
  refine pure_of rfl res27 rfl ?_
  simp (maxSteps := 10000000) (maxDischargeDepth := 30) only [q27, r27, go_sem, Nat.reduceEqDiff, ↓reduceIte, Nat.reduceAdd, Nat.reduceMul, Nat.reduceLeDiff, Nat.reduceLT, reduceCtorEq, Int.reduceToNat, Int.reduceLE, Int.reduceLT, Int.reduceEq, Int.reduceNeg, Int.reduceNe, Int.reducePow, Nat.reducePow, Nat.reduceSub, IntKind.bits]
  refine ro_kcall (cRBehind20 o l b hl h w) w (fun h1 k1 w1 => ?_)
  unfold widowP isF
  rcases behindP_range (l := l) b with e | ⟨j, x, e, hx, -⟩
  · rw [e, itAt_end (.inl (by omega))]
    simp (maxSteps := 10000000) (maxDischargeDepth := 30) only [k1, go_sem, Nat.reduceEqDiff, ↓reduceIte, Nat.reduceAdd, Nat.reduceMul, Nat.reduceLeDiff, Nat.reduceLT, reduceCtorEq, Int.reduceToNat, Int.reduceLE, Int.reduceLT, Int.reduceEq, Int.reduceNeg, Int.reduceNe, Int.reducePow, Nat.reducePow, Nat.reduceSub, IntKind.bits]
  · rw [e]
    have hi : itAt l (j : Int) = some x := by unfold itAt; rw [if_pos (Int.natCast_nonneg j), Int.toNat_natCast]; exact hx
    have ia := item_atV hi
    have c0 : 0 ≤ (j : Int) := Int.natCast_nonneg j
    rw [hi]
    simp (maxSteps := 10000000) (maxDischargeDepth := 30) only [c0, ia, ItemR.e, k1, go_sem, Nat.reduceEqDiff, ↓reduceIte, Nat.reduceAdd, Nat.reduceMul, Nat.reduceLeDiff, Nat.reduceLT, reduceCtorEq, Int.reduceToNat, Int.reduceLE, Int.reduceLT, Int.reduceEq, Int.reduceNeg, Int.reduceNe, Int.reducePow, Nat.reducePow, Nat.reduceSub, IntKind.bits]
theorem cRMay18 (o : Option (Nat × Nat)) (l : List ItemR) (b : Int) (hl : l.length ≤ 1000) (h : H) (w : WF h) :
    runI Try.prog TA 28 [mkS o 7 (l.map ItemR.e), .int .i64 b] h = some (.bool (mayV l b), hp Try.prog TA 28 [mkS o 7 (l.map ItemR.e), .int .i64 b] h) := by
  refine pure_of rfl res28 rfl ?_
  unfold mayV
  by_cases c0 : b < 1
  · rw [if_pos (.inl c0)]
    simp (maxSteps := 10000000) (maxDischargeDepth := 30) only [q28, r28, c0, go_sem, Nat.reduceEqDiff, ↓reduceIte, Nat.reduceAdd, Nat.reduceMul, Nat.reduceLeDiff, Nat.reduceLT, reduceCtorEq, Int.reduceToNat, Int.reduceLE, Int.reduceLT, Int.reduceEq, Int.reduceNeg, Int.reduceNe, Int.reducePow, Nat.reducePow, Nat.reduceSub, IntKind.bits]
  by_cases c1 : (l.length : Int) < b
  · rw [if_pos (.inr c1)]
    simp (maxSteps := 10000000) (maxDischargeDepth := 30) only [q28, r28, c0, c1, List.length_map, go_sem, Nat.reduceEqDiff, ↓reduceIte, Nat.reduceAdd, Nat.reduceMul, Nat.reduceLeDiff, Nat.reduceLT, reduceCtorEq, Int.reduceToNat, Int.reduceLE, Int.reduceLT, Int.reduceEq, Int.reduceNeg, Int.reduceNe, Int.reducePow, Nat.reducePow, Nat.reduceSub, IntKind.bits]
  rw [if_neg (by omega)]
  cases hx : itAt l b with
  | none =>
    have c2 : b = l.length := by have := itAt_none hx; omega
    simp (maxSteps := 10000000) (maxDischargeDepth := 30) only [q28, r28, c0, c1, List.length_map, eq_true c2, go_sem, Nat.reduceEqDiff, ↓reduceIte, Nat.reduceAdd, Nat.reduceMul, Nat.reduceLeDiff, Nat.reduceLT, reduceCtorEq, Int.reduceToNat, Int.reduceLE, Int.reduceLT, Int.reduceEq, Int.reduceNeg, Int.reduceNe, Int.reducePow, Nat.reducePow, Nat.reduceSub, IntKind.bits]
  | some x =>
    obtain ⟨-, cl, -⟩ := itAt_some hx
    have c2 : ¬ b = l.length := by omega
    have ia := item_atV hx
    by_cases c3 : x.k = 2
    · obtain ⟨y, hy⟩ := itAt_in (l := l) (n := b - 1) (by omega) (by omega)
      have iy := item_atV hy
      have eb : IntKind.i64.wrap (b - 1) = b - 1 := wrap64 (by omega) (by omega)
      simp (maxSteps := 10000000) (maxDischargeDepth := 30) only [q28, r28, c0, c1, List.length_map, eq_false c2, ia, ItemR.e, c3, eb, iy, go_sem, Nat.reduceEqDiff, ↓reduceIte, Nat.reduceAdd, Nat.reduceMul, Nat.reduceLeDiff, Nat.reduceLT, reduceCtorEq, Int.reduceToNat, Int.reduceLE, Int.reduceLT, Int.reduceEq, Int.reduceNeg, Int.reduceNe, Int.reducePow, Nat.reducePow, Nat.reduceSub, IntKind.bits]
      refine ro_kcall (cRLoose10 y h) w (fun h3 k3 w3 => ?_)
      rw [hy]
      simp (maxSteps := 10000000) (maxDischargeDepth := 30) only [k3, go_sem, Nat.reduceEqDiff, ↓reduceIte, Nat.reduceAdd, Nat.reduceMul, Nat.reduceLeDiff, Nat.reduceLT, reduceCtorEq, Int.reduceToNat, Int.reduceLE, Int.reduceLT, Int.reduceEq, Int.reduceNeg, Int.reduceNe, Int.reducePow, Nat.reducePow, Nat.reduceSub, IntKind.bits]
    · by_cases c4 : x.k = 3
      · simp (maxSteps := 10000000) (maxDischargeDepth := 30) only [q28, r28, c0, c1, List.length_map, eq_false c2, ia, ItemR.e, c3, eq_true c4, go_sem, Nat.reduceEqDiff, ↓reduceIte, Nat.reduceAdd, Nat.reduceMul, Nat.reduceLeDiff, Nat.reduceLT, reduceCtorEq, Int.reduceToNat, Int.reduceLE, Int.reduceLT, Int.reduceEq, Int.reduceNeg, Int.reduceNe, Int.reducePow, Nat.reducePow, Nat.reduceSub, IntKind.bits]
      · simp (maxSteps := 10000000) (maxDischargeDepth := 30) only [q28, r28, c0, c1, List.length_map, eq_false c2, ia, ItemR.e, c3, eq_false c4, go_sem, Nat.reduceEqDiff, ↓reduceIte, Nat.reduceAdd, Nat.reduceMul, Nat.reduceLeDiff, Nat.reduceLT, reduceCtorEq, Int.reduceToNat, Int.reduceLE, Int.reduceLT, Int.reduceEq, Int.reduceNeg, Int.reduceNe, Int.reducePow, Nat.reducePow, Nat.reduceSub, IntKind.bits]
theorem cRMust18 (o : Option (Nat × Nat)) (l : List ItemR) (b : Int) (x : ItemR) (h1 : 1 ≤ b) (hx : itAt l b = some x) (h : H) :
    runI Try.prog TA 54 [mkS o 7 (l.map ItemR.e), .int .i64 b] h = some (.bool (forcesR x), hp Try.prog TA 54 [mkS o 7 (l.map ItemR.e), .int .i64 b] h) := by
  refine pure_of rfl res54 rfl ?_
  obtain ⟨-, cl, -⟩ := itAt_some hx
  have ia := item_atV hx
  unfold forcesR
  by_cases c4 : x.k = 3
  · simp (maxSteps := 10000000) (maxDischargeDepth := 30) only [q54, r54, h1, cl, List.length_map, ia, ItemR.e, eq_true c4, go_sem, Nat.reduceEqDiff, ↓reduceIte, Nat.reduceAdd, Nat.reduceMul, Nat.reduceLeDiff, Nat.reduceLT, reduceCtorEq, Int.reduceToNat, Int.reduceLE, Int.reduceLT, Int.reduceEq, Int.reduceNeg, Int.reduceNe, Int.reducePow, Nat.reducePow, Nat.reduceSub, IntKind.bits]
  · simp (maxSteps := 10000000) (maxDischargeDepth := 30) only [q54, r54, h1, cl, List.length_map, ia, ItemR.e, eq_false c4, go_sem, Nat.reduceEqDiff, ↓reduceIte, Nat.reduceAdd, Nat.reduceMul, Nat.reduceLeDiff, Nat.reduceLT, reduceCtorEq, Int.reduceToNat, Int.reduceLE, Int.reduceLT, Int.reduceEq, Int.reduceNeg, Int.reduceNe, Int.reducePow, Nat.reducePow, Nat.reduceSub, IntKind.bits]
end Go.LM
