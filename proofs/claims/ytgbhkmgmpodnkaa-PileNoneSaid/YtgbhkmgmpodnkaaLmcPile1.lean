import Derived.Test.YtgbhkmgmpodnkaaLmTrcRc
import Derived.Test.YtgbhkmgmpodnkaaLmB15
import Derived.Test.YtgbhkmgmpodnkaaLmcD0
namespace Go.LM
open Go.Proofs
set_option maxRecDepth 8000
set_option maxHeartbeats 4000000
set_option linter.unusedSimpArgs false
abbrev pr (a b : Int) : LV := .agg [.int .i64 a, .int .i64 b]
theorem awAwake32 (h : H) : runI Try.prog TA 34 [] h = some (.bool true, h) := runI_known rfl
/-! ### piles that are none -/
theorem nMade0 (h : H) : runI Try.prog TA 58 [.nilp] h = some (.bool false, hp Try.prog TA 58 [.nilp] h) := by
  refine pure_of rfl res58 rfl ?_
  simp (maxSteps := 10000000) (maxDischargeDepth := 30) only [q58, r58, go_sem, Nat.reduceEqDiff, ↓reduceIte, Nat.reduceAdd, Nat.reduceMul, Nat.reduceLeDiff, Nat.reduceLT, reduceCtorEq, Int.reduceToNat, Int.reduceLE, Int.reduceLT, Int.reduceEq, Int.reduceNeg, Int.reduceNe, Int.reducePow, Nat.reducePow, Nat.reduceSub, IntKind.bits]
theorem nMade1 (b : Nat) (h : H) (g : h.get b = some ⟨false, [.nilp]⟩) : runI Try.prog TA 58 [.ptr b 0] h = some (.bool false, hp Try.prog TA 58 [.ptr b 0] h) := by
  refine pure_of rfl res58 rfl ?_
  simp (maxSteps := 10000000) (maxDischargeDepth := 30) only [q58, r58, g, go_sem, Nat.reduceEqDiff, ↓reduceIte, Nat.reduceAdd, Nat.reduceMul, Nat.reduceLeDiff, Nat.reduceLT, reduceCtorEq, Int.reduceToNat, Int.reduceLE, Int.reduceLT, Int.reduceEq, Int.reduceNeg, Int.reduceNe, Int.reducePow, Nat.reducePow, Nat.reduceSub, IntKind.bits]
/-- A pile that is none, or has no order. -/
def NoPile (v : LV) (h : H) : Prop := v = .nilp ∨ ∃ b, v = .ptr b 0 ∧ h.get b = some ⟨false, [.nilp]⟩
theorem NoPile.keep {v : LV} {h h' : H} (n : NoPile v h) (k : Keep h h') : NoPile v h' := by
  rcases n with h1 | ⟨b, h1, h2⟩
  · exact .inl h1
  · exact .inr ⟨b, h1, (k.get (lt_of_get h2)).trans h2⟩
theorem nMade {v : LV} {h : H} (n : NoPile v h) : runI Try.prog TA 58 [v] h = some (.bool false, hp Try.prog TA 58 [v] h) := by
  rcases n with rfl | ⟨b, rfl, h2⟩
  · exact nMade0 h
  · exact nMade1 b h h2
theorem nLen {v : LV} {h : H} (w : WF h) (n : NoPile v h) : runI Try.prog TA 43 [v] h = some (.int .i64 0, hp Try.prog TA 43 [v] h) := by
  refine pure_of rfl res43 rfl ?_
  simp (maxSteps := 10000000) (maxDischargeDepth := 30) only [q43, r43, go_sem, Nat.reduceEqDiff, ↓reduceIte, Nat.reduceAdd, Nat.reduceMul, Nat.reduceLeDiff, Nat.reduceLT, reduceCtorEq, Int.reduceToNat, Int.reduceLE, Int.reduceLT, Int.reduceEq, Int.reduceNeg, Int.reduceNe, Int.reducePow, Nat.reducePow, Nat.reduceSub, IntKind.bits]
  refine ro_kcall (nMade n) w (fun h1 k1 w1 => ?_)
  simp (maxSteps := 10000000) (maxDischargeDepth := 30) only [k1, go_sem, Nat.reduceEqDiff, ↓reduceIte, Nat.reduceAdd, Nat.reduceMul, Nat.reduceLeDiff, Nat.reduceLT, reduceCtorEq, Int.reduceToNat, Int.reduceLE, Int.reduceLT, Int.reduceEq, Int.reduceNeg, Int.reduceNe, Int.reducePow, Nat.reducePow, Nat.reduceSub, IntKind.bits]
theorem nPush {v : LV} {h : H} (a b : Int) (w : WF h) (n : NoPile v h) : runI Try.prog TA 37 [v, pr a b] h = some (.tup [], hp Try.prog TA 37 [v, pr a b] h) := by
  refine pure_of rfl res37 rfl ?_
  simp (maxSteps := 10000000) (maxDischargeDepth := 30) only [q37, r37, go_sem, Nat.reduceEqDiff, ↓reduceIte, Nat.reduceAdd, Nat.reduceMul, Nat.reduceLeDiff, Nat.reduceLT, reduceCtorEq, Int.reduceToNat, Int.reduceLE, Int.reduceLT, Int.reduceEq, Int.reduceNeg, Int.reduceNe, Int.reducePow, Nat.reducePow, Nat.reduceSub, IntKind.bits]
  have k := (Keep.refl h).alloc [.int .i64 a, .int .i64 b]
  refine ro_kcall (nMade (n.keep k)) (w.keep k) (fun h1 k1 w1 => ?_)
  have k2 := k.trans k1
  simp (maxSteps := 10000000) (maxDischargeDepth := 30) only [k2, go_sem, Nat.reduceEqDiff, ↓reduceIte, Nat.reduceAdd, Nat.reduceMul, Nat.reduceLeDiff, Nat.reduceLT, reduceCtorEq, Int.reduceToNat, Int.reduceLE, Int.reduceLT, Int.reduceEq, Int.reduceNeg, Int.reduceNe, Int.reducePow, Nat.reducePow, Nat.reduceSub, IntKind.bits]
theorem nPeek {v : LV} {h : H} (w : WF h) (n : NoPile v h) : runI Try.prog TA 39 [v] h = some (.tup [pr 0 0, .bool false], hp Try.prog TA 39 [v] h) := by
  refine pure_of rfl res39 rfl ?_
  simp (maxSteps := 10000000) (maxDischargeDepth := 30) only [q39, r39, go_sem, Nat.reduceEqDiff, ↓reduceIte, Nat.reduceAdd, Nat.reduceMul, Nat.reduceLeDiff, Nat.reduceLT, reduceCtorEq, Int.reduceToNat, Int.reduceLE, Int.reduceLT, Int.reduceEq, Int.reduceNeg, Int.reduceNe, Int.reducePow, Nat.reducePow, Nat.reduceSub, IntKind.bits]
  have k := (Keep.refl h).alloc [.int .i64 0, .int .i64 0]
  have g : (h.alloc [.int .i64 0, .int .i64 0]).get h.len = _ := get_alloc_eq _ _
  refine ro_kcall (nLen (w.keep k) (n.keep k)) (w.keep k) (fun h1 k1 w1 => ?_)
  have g1 := (k1.get (lt_of_get g)).trans g
  have l1 := lt_of_get g1
  have l2 : h.len < h1.len + 1 := by omega
  have lo : h1.lob ≤ h.len := by rw [k1.lob, k.lob]; exact w.1
  have kf : ∀ c B, Keep h ((h1.alloc c).put h.len B) := fun c B => ((k.trans k1).alloc c).put (Nat.le_refl _) B
  simp (maxSteps := 10000000) (maxDischargeDepth := 30) only [g1, l1, l2, lo, kf, go_sem, Nat.reduceEqDiff, ↓reduceIte, Nat.reduceAdd, Nat.reduceMul, Nat.reduceLeDiff, Nat.reduceLT, reduceCtorEq, Int.reduceToNat, Int.reduceLE, Int.reduceLT, Int.reduceEq, Int.reduceNeg, Int.reduceNe, Int.reducePow, Nat.reducePow, Nat.reduceSub, IntKind.bits]
theorem nPop {v : LV} {h : H} (w : WF h) (n : NoPile v h) : runI Try.prog TA 40 [v] h = some (.tup [pr 0 0, .bool false], hp Try.prog TA 40 [v] h) := by
  refine pure_of rfl res40 rfl ?_
  simp (maxSteps := 10000000) (maxDischargeDepth := 30) only [q40, r40, go_sem, Nat.reduceEqDiff, ↓reduceIte, Nat.reduceAdd, Nat.reduceMul, Nat.reduceLeDiff, Nat.reduceLT, reduceCtorEq, Int.reduceToNat, Int.reduceLE, Int.reduceLT, Int.reduceEq, Int.reduceNeg, Int.reduceNe, Int.reducePow, Nat.reducePow, Nat.reduceSub, IntKind.bits]
  have k := (Keep.refl h).alloc [.int .i64 0, .int .i64 0]
  have g : (h.alloc [.int .i64 0, .int .i64 0]).get h.len = _ := get_alloc_eq _ _
  refine ro_kcall (nPeek (w.keep k) (n.keep k)) (w.keep k) (fun h1 k1 w1 => ?_)
  have g1 := (k1.get (lt_of_get g)).trans g
  have l1 := lt_of_get g1
  have l2 : h.len < h1.len + 1 := by omega
  have lo : h1.lob ≤ h.len := by rw [k1.lob, k.lob]; exact w.1
  have lo1 := w1.1
  have kf : ∀ c B B', Keep h (((h1.alloc c).put h1.len B').put h.len B) := fun c B B' => (((k.trans k1).alloc c).put (by have := k.len; have := k1.len; omega) B').put (Nat.le_refl _) B
  simp (maxSteps := 10000000) (maxDischargeDepth := 30) only [g1, l1, l2, lo, lo1, kf, go_sem, Nat.reduceEqDiff, ↓reduceIte, Nat.reduceAdd, Nat.reduceMul, Nat.reduceLeDiff, Nat.reduceLT, reduceCtorEq, Int.reduceToNat, Int.reduceLE, Int.reduceLT, Int.reduceEq, Int.reduceNeg, Int.reduceNe, Int.reducePow, Nat.reducePow, Nat.reduceSub, IntKind.bits]
theorem nDrain {v : LV} {h : H} (w : WF h) (n : NoPile v h) : runI Try.prog TA 44 [v] h = some (.nils, hp Try.prog TA 44 [v] h) := by
  refine pure_of rfl res44 rfl ?_
  simp (maxSteps := 10000000) (maxDischargeDepth := 30) only [q44, r44, go_sem, Nat.reduceEqDiff, ↓reduceIte, Nat.reduceAdd, Nat.reduceMul, Nat.reduceLeDiff, Nat.reduceLT, reduceCtorEq, Int.reduceToNat, Int.reduceLE, Int.reduceLT, Int.reduceEq, Int.reduceNeg, Int.reduceNe, Int.reducePow, Nat.reducePow, Nat.reduceSub, IntKind.bits]
  refine ru_loop (fun i => 1 - i) (fun i s hh => i = 0 ∧ s 0 = v ∧ s 3 = .nils ∧ hh = h) 0 ?_ ?_
  · simp (maxSteps := 10000000) (maxDischargeDepth := 30) only [go_sem, Nat.reduceEqDiff, ↓reduceIte, Nat.reduceAdd, Nat.reduceMul, Nat.reduceLeDiff, Nat.reduceLT, reduceCtorEq, Int.reduceToNat, Int.reduceLE, Int.reduceLT, Int.reduceEq, Int.reduceNeg, Int.reduceNe, Int.reducePow, Nat.reducePow, Nat.reduceSub, IntKind.bits]
  · rintro i s hh ⟨rfl, e0, e3, rfl⟩
    simp (maxSteps := 10000000) (maxDischargeDepth := 30) only [e0, e3, go_sem, Nat.reduceEqDiff, ↓reduceIte, Nat.reduceAdd, Nat.reduceMul, Nat.reduceLeDiff, Nat.reduceLT, reduceCtorEq, Int.reduceToNat, Int.reduceLE, Int.reduceLT, Int.reduceEq, Int.reduceNeg, Int.reduceNe, Int.reducePow, Nat.reducePow, Nat.reduceSub, IntKind.bits]
    refine ro_kcall (nPop w n) w (fun h1 k1 w1 => ?_)
    have lo1 := w1.1
    simp (maxSteps := 10000000) (maxDischargeDepth := 30) only [e3, lo1, go_sem, Nat.reduceEqDiff, ↓reduceIte, Nat.reduceAdd, Nat.reduceMul, Nat.reduceLeDiff, Nat.reduceLT, reduceCtorEq, Int.reduceToNat, Int.reduceLE, Int.reduceLT, Int.reduceEq, Int.reduceNeg, Int.reduceNe, Int.reducePow, Nat.reducePow, Nat.reduceSub, IntKind.bits]
    exact (k1.alloc _).put k1.len _
theorem nNew (o : Option (Nat × Nat)) (xs : List LV) (h : H) (w : WF h) : ∃ v h', runI Try.prog TA 35 [.nilf, mkS o 2 xs] h = some (v, h') ∧ NoPile v h' ∧ Keep h h' := by
  refine calls_of rfl res35 rfl ?_
  have k := (Keep.refl h).alloc [.nilp]
  have g : (h.alloc [.nilp]).get h.len = _ := get_alloc_eq _ _
  have n : NoPile (.ptr h.len 0) (h.alloc [.nilp]) := .inr ⟨_, rfl, g⟩
  simp (maxSteps := 10000000) (maxDischargeDepth := 30) only [q35, r35, n, k, go_sem, Nat.reduceEqDiff, ↓reduceIte, Nat.reduceAdd, Nat.reduceMul, Nat.reduceLeDiff, Nat.reduceLT, reduceCtorEq, Int.reduceToNat, Int.reduceLE, Int.reduceLT, Int.reduceEq, Int.reduceNeg, Int.reduceNe, Int.reducePow, Nat.reducePow, Nat.reduceSub, IntKind.bits]
theorem lPileNone (a b : Int) : ∃ h', runI Try.prog TA 10 [pr a b] H0 = some (.bool true, h') := by
  refine true_of rfl res10 rfl ?_
  simp (maxSteps := 10000000) (maxDischargeDepth := 30) only [q10, r10, go_sem, Nat.reduceEqDiff, ↓reduceIte, Nat.reduceAdd, Nat.reduceMul, Nat.reduceLeDiff, Nat.reduceLT, reduceCtorEq, Int.reduceToNat, Int.reduceLE, Int.reduceLT, Int.reduceEq, Int.reduceNeg, Int.reduceNe, Int.reducePow, Nat.reducePow, Nat.reduceSub, IntKind.bits]
  generalize hgg : H.nrow _ _ = g
  have kg : Keep H0 g := by rw [← hgg]; exact ((Keep.refl H0).alloc _).nrow _
  have gx : g.get H0.len = some ⟨false, [.int .i64 a, .int .i64 b]⟩ := by rw [← hgg, get_nrow]; exact get_alloc_eq _ _
  have w := wf0.keep kg
  clear hgg
  refine ro_vcall (nNew _ _ g w) (fun v h1 J => ?_)
  obtain ⟨n, k1⟩ := J
  have w1 := w.keep k1
  have g1 := (k1.get (lt_of_get gx)).trans gx
  have n0 : ∀ h, NoPile .nilp h := fun h => .inl rfl
  simp (maxSteps := 10000000) (maxDischargeDepth := 30) only [g1, go_sem, Nat.reduceEqDiff, ↓reduceIte, Nat.reduceAdd, Nat.reduceMul, Nat.reduceLeDiff, Nat.reduceLT, reduceCtorEq, Int.reduceToNat, Int.reduceLE, Int.reduceLT, Int.reduceEq, Int.reduceNeg, Int.reduceNe, Int.reducePow, Nat.reducePow, Nat.reduceSub, IntKind.bits]
  refine ro_kcall (nPush a b w1 (n0 h1)) w1 (fun h2 k2 w2 => ?_)
  have g2 := (k2.get (lt_of_get g1)).trans g1
  replace n := n.keep k2
  simp (maxSteps := 10000000) (maxDischargeDepth := 30) only [g2, go_sem, Nat.reduceEqDiff, ↓reduceIte, Nat.reduceAdd, Nat.reduceMul, Nat.reduceLeDiff, Nat.reduceLT, reduceCtorEq, Int.reduceToNat, Int.reduceLE, Int.reduceLT, Int.reduceEq, Int.reduceNeg, Int.reduceNe, Int.reducePow, Nat.reducePow, Nat.reduceSub, IntKind.bits]
  refine ro_kcall (nPush a b w2 n) w2 (fun h3 k3 w3 => ?_)
  replace n := n.keep k3
  try (simp (maxSteps := 10000000) (maxDischargeDepth := 30) only [go_sem, Nat.reduceEqDiff, ↓reduceIte, Nat.reduceAdd, Nat.reduceMul, Nat.reduceLeDiff, Nat.reduceLT, reduceCtorEq, Int.reduceToNat, Int.reduceLE, Int.reduceLT, Int.reduceEq, Int.reduceNeg, Int.reduceNe, Int.reducePow, Nat.reducePow, Nat.reduceSub, IntKind.bits])
  refine ro_kcall (nPop w3 (n0 h3)) w3 (fun h4 k4 w4 => ?_)
  replace n := n.keep k4
  have lo4 := w4.1
  simp (maxSteps := 10000000) (maxDischargeDepth := 30) only [lo4, go_sem, Nat.reduceEqDiff, ↓reduceIte, Nat.reduceAdd, Nat.reduceMul, Nat.reduceLeDiff, Nat.reduceLT, reduceCtorEq, Int.reduceToNat, Int.reduceLE, Int.reduceLT, Int.reduceEq, Int.reduceNeg, Int.reduceNe, Int.reducePow, Nat.reducePow, Nat.reduceSub, IntKind.bits]
  generalize hgg : H.put _ _ _ = h5
  have k5 : Keep h4 h5 := by rw [← hgg]; exact ((Keep.refl h4).alloc _).put (Nat.le_refl _) _
  have gp : h5.get h4.len = some ⟨false, [.int .i64 0, .int .i64 0]⟩ := by rw [← hgg]; exact get_put_eq (by rw [len_alloc]; omega)
  have w5 := w4.keep k5
  replace n := n.keep k5
  clear hgg
  try (simp (maxSteps := 10000000) (maxDischargeDepth := 30) only [go_sem, Nat.reduceEqDiff, ↓reduceIte, Nat.reduceAdd, Nat.reduceMul, Nat.reduceLeDiff, Nat.reduceLT, reduceCtorEq, Int.reduceToNat, Int.reduceLE, Int.reduceLT, Int.reduceEq, Int.reduceNeg, Int.reduceNe, Int.reducePow, Nat.reducePow, Nat.reduceSub, IntKind.bits])
  refine ro_kcall (nPeek w5 n) w5 (fun h6 k6 w6 => ?_)
  replace n := n.keep k6
  have gp6 := (k6.get (lt_of_get gp)).trans gp
  have lo6 := w6.1
  simp (maxSteps := 10000000) (maxDischargeDepth := 30) only [lo6, go_sem, Nat.reduceEqDiff, ↓reduceIte, Nat.reduceAdd, Nat.reduceMul, Nat.reduceLeDiff, Nat.reduceLT, reduceCtorEq, Int.reduceToNat, Int.reduceLE, Int.reduceLT, Int.reduceEq, Int.reduceNeg, Int.reduceNe, Int.reducePow, Nat.reducePow, Nat.reduceSub, IntKind.bits]
  generalize hgg : H.put _ _ _ = h7
  have k7 : Keep h6 h7 := by rw [← hgg]; exact ((Keep.refl h6).alloc _).put (Nat.le_refl _) _
  have gq : h7.get h6.len = some ⟨false, [.int .i64 0, .int .i64 0]⟩ := by rw [← hgg]; exact get_put_eq (by rw [len_alloc]; omega)
  have w7 := w6.keep k7
  replace n := n.keep k7
  have gp7 := (k7.get (lt_of_get gp6)).trans gp6
  clear hgg
  try (simp (maxSteps := 10000000) (maxDischargeDepth := 30) only [go_sem, Nat.reduceEqDiff, ↓reduceIte, Nat.reduceAdd, Nat.reduceMul, Nat.reduceLeDiff, Nat.reduceLT, reduceCtorEq, Int.reduceToNat, Int.reduceLE, Int.reduceLT, Int.reduceEq, Int.reduceNeg, Int.reduceNe, Int.reducePow, Nat.reducePow, Nat.reduceSub, IntKind.bits])
  refine ro_kcall (nLen w7 (n0 h7)) w7 (fun h8 k8 w8 => ?_)
  replace n := n.keep k8
  simp (maxSteps := 10000000) (maxDischargeDepth := 30) only [go_sem, Nat.reduceEqDiff, ↓reduceIte, Nat.reduceAdd, Nat.reduceMul, Nat.reduceLeDiff, Nat.reduceLT, reduceCtorEq, Int.reduceToNat, Int.reduceLE, Int.reduceLT, Int.reduceEq, Int.reduceNeg, Int.reduceNe, Int.reducePow, Nat.reducePow, Nat.reduceSub, IntKind.bits]
  refine ro_kcall (nLen w8 n) w8 (fun h9 k9 w9 => ?_)
  replace n := n.keep k9
  have gp9 := ((k8.trans k9).get (lt_of_get gp7)).trans gp7
  have gq9 := ((k8.trans k9).get (lt_of_get gq)).trans gq
  simp (maxSteps := 10000000) (maxDischargeDepth := 30) only [gp9, gq9, go_sem, Nat.reduceEqDiff, ↓reduceIte, Nat.reduceAdd, Nat.reduceMul, Nat.reduceLeDiff, Nat.reduceLT, reduceCtorEq, Int.reduceToNat, Int.reduceLE, Int.reduceLT, Int.reduceEq, Int.reduceNeg, Int.reduceNe, Int.reducePow, Nat.reducePow, Nat.reduceSub, IntKind.bits]
  refine ro_kcall (nDrain w9 (n0 h9)) w9 (fun h10 k10 w10 => ?_)
  replace n := n.keep k10
  simp (maxSteps := 10000000) (maxDischargeDepth := 30) only [go_sem, Nat.reduceEqDiff, ↓reduceIte, Nat.reduceAdd, Nat.reduceMul, Nat.reduceLeDiff, Nat.reduceLT, reduceCtorEq, Int.reduceToNat, Int.reduceLE, Int.reduceLT, Int.reduceEq, Int.reduceNeg, Int.reduceNe, Int.reducePow, Nat.reducePow, Nat.reduceSub, IntKind.bits]
  refine ro_kcall (nDrain w10 n) w10 (fun h11 k11 w11 => ?_)
  simp (maxSteps := 10000000) (maxDischargeDepth := 30) only [awAwake32, go_sem, Nat.reduceEqDiff, ↓reduceIte, Nat.reduceAdd, Nat.reduceMul, Nat.reduceLeDiff, Nat.reduceLT, reduceCtorEq, Int.reduceToNat, Int.reduceLE, Int.reduceLT, Int.reduceEq, Int.reduceNeg, Int.reduceNe, Int.reducePow, Nat.reducePow, Nat.reduceSub, IntKind.bits]
end Go.LM
