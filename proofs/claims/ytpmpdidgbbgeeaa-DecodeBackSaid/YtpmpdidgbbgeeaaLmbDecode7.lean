import Derived.Test.YtpmpdidgbbgeeaaLmTrbR1
import Derived.Test.YtpmpdidgbbgeeaaLmbDecode6
namespace Go.LM
open Go.Proofs
set_option maxRecDepth 8000
set_option maxHeartbeats 8000000
set_option linter.unusedSimpArgs false
theorem okJ_mono {m n : Nat} {j : PlainJ} (h : m ≤ n) (o : okJ m j) : okJ n j := by
  obtain ⟨h1, h2, h3, h4, h5, h6, h7⟩ := o
  refine ⟨h1, by omega, h3, by omega, fun x hx => ?_, by omega, h7⟩
  obtain ⟨a, b, c, d⟩ := h5 x hx
  exact ⟨by omega, by omega, c, d⟩
theorem okZ : okJR jobZ := by
  refine ⟨?_, by simp [jobZ, JobR.plain], by simp [jobZ, JobR.plain], by simp [jobZ, JobR.plain], by simp [jobZ, JobR.plain], by simp [jobZ, JobR.plain], by simp [jobZ, JobR.plain]⟩
  intro n hn
  simp [jobZ, JobR.plain, GeomR.nums, GeomR.numsA, GeomR.numsB] at hn
  subst hn
  exact ⟨by omega, by omega⟩
theorem bareZ : bareL jobZ.items = true := rfl
theorem lDecodeBack (j : JobR) (o : Option (Nat × Nat)) (b : List Int) (hn : j.num) (hbb : ∀ c ∈ b, 0 ≤ c ∧ c < 256) : ∃ h', runI Try.prog TA 17 [j.e, byts o b] H0 = some (.bool true, h') := by
  refine true_of rfl res17 rfl ?_
  simp (maxSteps := 10000000) (maxDischargeDepth := 30) only [q17, r17, JobR.e, JobR.cells, go_sem, Nat.reduceEqDiff, ↓reduceIte, Nat.reduceAdd, Nat.reduceMul, Nat.reduceLeDiff, Nat.reduceLT, reduceCtorEq, Int.reduceToNat, Int.reduceLE, Int.reduceLT, Int.reduceEq, Int.reduceNeg, Int.reduceNe, Int.reducePow, Nat.reducePow, Nat.reduceSub, IntKind.bits]
  generalize hgg : H0.alloc _ = g0
  have k0 : Keep H0 g0 := by rw [← hgg]; exact (Keep.refl H0).alloc _
  have gj : g0.get H0.len = some ⟨false, j.cells⟩ := by rw [← hgg]; exact get_alloc_eq _ _
  have w0 := wf0.keep k0
  clear hgg
  obtain ⟨v, e1, hv⟩ := cLarge14 j g0
  cases v
  rotate_left
  · refine ro_kcall e1 w0 (fun h1 k1 w1 => ?_)
    simp (maxSteps := 10000000) (maxDischargeDepth := 30) only [awAwake17, go_sem, Nat.reduceEqDiff, ↓reduceIte, Nat.reduceAdd, Nat.reduceMul, Nat.reduceLeDiff, Nat.reduceLT, reduceCtorEq, Int.reduceToNat, Int.reduceLE, Int.reduceLT, Int.reduceEq, Int.reduceNeg, Int.reduceNe, Int.reducePow, Nat.reducePow, Nat.reduceSub, IntKind.bits]
  have oj := okJ_of hn (hv rfl)
  have hjl := jobBP_len oj
  refine ro_kcall e1 w0 (fun h1 k1 w1 => ?_)
  have gj1 := (k1.get (lt_of_get gj)).trans gj
  by_cases c0 : (2000 : Int) < b.length
  · simp (maxSteps := 10000000) (maxDischargeDepth := 30) only [c0, List.length_map, awAwake17, go_sem, Nat.reduceEqDiff, ↓reduceIte, Nat.reduceAdd, Nat.reduceMul, Nat.reduceLeDiff, Nat.reduceLT, reduceCtorEq, Int.reduceToNat, Int.reduceLE, Int.reduceLT, Int.reduceEq, Int.reduceNeg, Int.reduceNe, Int.reducePow, Nat.reducePow, Nat.reduceSub, IntKind.bits]
  simp (maxSteps := 10000000) (maxDischargeDepth := 30) only [gj1, c0, List.length_map, JobR.cells, go_sem, Nat.reduceEqDiff, ↓reduceIte, Nat.reduceAdd, Nat.reduceMul, Nat.reduceLeDiff, Nat.reduceLT, reduceCtorEq, Int.reduceToNat, Int.reduceLE, Int.reduceLT, Int.reduceEq, Int.reduceNeg, Int.reduceNe, Int.reducePow, Nat.reducePow, Nat.reduceSub, IntKind.bits]
  refine ro_vcall (cEnJob j h1 w1 oj) (fun v h2 J => ?_)
  obtain ⟨⟨o2, rfl⟩, k2⟩ := J
  have w2 := w1.keep k2
  have gj2 := (k2.get (lt_of_get gj1)).trans gj1
  cases hbr : bareL j.items
  · try (simp (maxSteps := 10000000) (maxDischargeDepth := 30) only [hbr, go_sem, Nat.reduceEqDiff, ↓reduceIte, Nat.reduceAdd, Nat.reduceMul, Nat.reduceLeDiff, Nat.reduceLT, reduceCtorEq, Int.reduceToNat, Int.reduceLE, Int.reduceLT, Int.reduceEq, Int.reduceNeg, Int.reduceNe, Int.reducePow, Nat.reducePow, Nat.reduceSub, IntKind.bits])
    refine ro_vcall (cDeJob o b hbb (by omega) h2 w2) (fun v h6 J => ?_)
    obtain ⟨J, k6⟩ := J
    have w6 := w2.keep k6
    have lo6 := w6.1
    unfold okJob at J
    cases hj : jobRd b with
    | none =>
      rw [hj] at J
      dsimp only at J
      subst J
      simp (maxSteps := 10000000) (maxDischargeDepth := 30) only [lo6, JobR.e, JobR.cells, jobZ, go_sem, Nat.reduceEqDiff, ↓reduceIte, Nat.reduceAdd, Nat.reduceMul, Nat.reduceLeDiff, Nat.reduceLT, reduceCtorEq, Int.reduceToNat, Int.reduceLE, Int.reduceLT, Int.reduceEq, Int.reduceNeg, Int.reduceNe, Int.reducePow, Nat.reducePow, Nat.reduceSub, IntKind.bits]
      generalize hgg : H.put _ _ _ = g
      have kg : Keep h6 g := by rw [← hgg]; exact ((Keep.refl h6).alloc _).put (Nat.le_refl _) _
      have gg : g.get h6.len = some ⟨false, jobZ.cells⟩ := by rw [← hgg]; exact get_put_eq (by rw [len_alloc]; omega)
      have wg := w6.keep kg
      clear hgg
      try (simp (maxSteps := 10000000) (maxDischargeDepth := 30) only [gg, JobR.cells, go_sem, Nat.reduceEqDiff, ↓reduceIte, Nat.reduceAdd, Nat.reduceMul, Nat.reduceLeDiff, Nat.reduceLT, reduceCtorEq, Int.reduceToNat, Int.reduceLE, Int.reduceLT, Int.reduceEq, Int.reduceNeg, Int.reduceNe, Int.reducePow, Nat.reducePow, Nat.reduceSub, IntKind.bits])
      refine ro_vcall (cEnJob jobZ g wg okZ) (fun v h7 J => ?_)
      obtain ⟨⟨o7, rfl⟩, k7⟩ := J
      simp (maxSteps := 10000000) (maxDischargeDepth := 30) only [bareZ, awAwake17, go_sem, Nat.reduceEqDiff, ↓reduceIte, Nat.reduceAdd, Nat.reduceMul, Nat.reduceLeDiff, Nat.reduceLT, reduceCtorEq, Int.reduceToNat, Int.reduceLE, Int.reduceLT, Int.reduceEq, Int.reduceNeg, Int.reduceNe, Int.reducePow, Nat.reducePow, Nat.reduceSub, IntKind.bits]
    | some l =>
      rw [hj] at J
      dsimp only at J
      obtain ⟨x, rfl, rfl⟩ := J
      obtain ⟨hbx, ox, bx⟩ := jobRd_some hbb hj
      have ox2 : okJR x := okJ_mono (by omega) ox
      simp (maxSteps := 10000000) (maxDischargeDepth := 30) only [lo6, JobR.e, JobR.cells, go_sem, Nat.reduceEqDiff, ↓reduceIte, Nat.reduceAdd, Nat.reduceMul, Nat.reduceLeDiff, Nat.reduceLT, reduceCtorEq, Int.reduceToNat, Int.reduceLE, Int.reduceLT, Int.reduceEq, Int.reduceNeg, Int.reduceNe, Int.reducePow, Nat.reducePow, Nat.reduceSub, IntKind.bits]
      generalize hgg : H.put _ _ _ = g
      have kg : Keep h6 g := by rw [← hgg]; exact ((Keep.refl h6).alloc _).put (Nat.le_refl _) _
      have gg : g.get h6.len = some ⟨false, x.cells⟩ := by rw [← hgg]; exact get_put_eq (by rw [len_alloc]; omega)
      have wg := w6.keep kg
      clear hgg
      try (simp (maxSteps := 10000000) (maxDischargeDepth := 30) only [gg, JobR.cells, go_sem, Nat.reduceEqDiff, ↓reduceIte, Nat.reduceAdd, Nat.reduceMul, Nat.reduceLeDiff, Nat.reduceLT, reduceCtorEq, Int.reduceToNat, Int.reduceLE, Int.reduceLT, Int.reduceEq, Int.reduceNeg, Int.reduceNe, Int.reducePow, Nat.reducePow, Nat.reduceSub, IntKind.bits])
      refine ro_vcall (cEnJob x g wg ox2) (fun v h7 J => ?_)
      obtain ⟨⟨o7, rfl⟩, k7⟩ := J
      have w7 := wg.keep k7
      have bx2 : bareL x.items = true := bx
      rw [bx2]
      simp (maxSteps := 10000000) (maxDischargeDepth := 30) only [go_sem, Nat.reduceEqDiff, ↓reduceIte, Nat.reduceAdd, Nat.reduceMul, Nat.reduceLeDiff, Nat.reduceLT, reduceCtorEq, Int.reduceToNat, Int.reduceLE, Int.reduceLT, Int.reduceEq, Int.reduceNeg, Int.reduceNe, Int.reducePow, Nat.reducePow, Nat.reduceSub, IntKind.bits]
      have lbx : (jobBP x.plain).length ≤ 1000000000 := jobBP_len ox2
      refine ro_kcall (cSameG o7 o (jobBP x.plain) b (by omega) h7 w7) w7 (fun h8 k8 w8 => ?_)
      have db : decide (jobBP x.plain = b) = true := by simpa using hbx.symm
      have eb : (jobBP x.plain = b) = True := eq_true hbx.symm
      simp (maxSteps := 10000000) (maxDischargeDepth := 30) only [db, eb, awAwake17, go_sem, Nat.reduceEqDiff, ↓reduceIte, Nat.reduceAdd, Nat.reduceMul, Nat.reduceLeDiff, Nat.reduceLT, reduceCtorEq, Int.reduceToNat, Int.reduceLE, Int.reduceLT, Int.reduceEq, Int.reduceNeg, Int.reduceNe, Int.reducePow, Nat.reducePow, Nat.reduceSub, IntKind.bits]
  · simp (maxSteps := 10000000) (maxDischargeDepth := 30) only [go_sem, Nat.reduceEqDiff, ↓reduceIte, Nat.reduceAdd, Nat.reduceMul, Nat.reduceLeDiff, Nat.reduceLT, reduceCtorEq, Int.reduceToNat, Int.reduceLE, Int.reduceLT, Int.reduceEq, Int.reduceNeg, Int.reduceNe, Int.reducePow, Nat.reducePow, Nat.reduceSub, IntKind.bits]
    refine ro_vcall (cDeJob o2 (jobBP j.plain) (jobBP_bytes _) (by omega) h2 w2) (fun v h3 J => ?_)
    obtain ⟨J, k3⟩ := J
    have w3 := w2.keep k3
    have lo3 := w3.1
    have gj3 := (k3.get (lt_of_get gj2)).trans gj2
    have hjr := jobRd_more (more := []) (by omega) oj hbr (by simp)
    rw [List.append_nil, if_pos rfl] at hjr
    unfold okJob at J
    rw [hjr] at J
    dsimp only at J
    obtain ⟨x, rfl, hx⟩ := J
    simp (maxSteps := 10000000) (maxDischargeDepth := 30) only [lo3, JobR.e, JobR.cells, go_sem, Nat.reduceEqDiff, ↓reduceIte, Nat.reduceAdd, Nat.reduceMul, Nat.reduceLeDiff, Nat.reduceLT, reduceCtorEq, Int.reduceToNat, Int.reduceLE, Int.reduceLT, Int.reduceEq, Int.reduceNeg, Int.reduceNe, Int.reducePow, Nat.reducePow, Nat.reduceSub, IntKind.bits]
    generalize hgg : H.put _ _ _ = g
    have kg : Keep h3 g := by rw [← hgg]; exact ((Keep.refl h3).alloc _).put (Nat.le_refl _) _
    have gg : g.get h3.len = some ⟨false, x.cells⟩ := by rw [← hgg]; exact get_put_eq (by rw [len_alloc]; omega)
    have wg := w3.keep kg
    have gjg := (kg.get (lt_of_get gj3)).trans gj3
    clear hgg
    try (simp (maxSteps := 10000000) (maxDischargeDepth := 30) only [gg, gjg, JobR.cells, go_sem, Nat.reduceEqDiff, ↓reduceIte, Nat.reduceAdd, Nat.reduceMul, Nat.reduceLeDiff, Nat.reduceLT, reduceCtorEq, Int.reduceToNat, Int.reduceLE, Int.reduceLT, Int.reduceEq, Int.reduceNeg, Int.reduceNe, Int.reducePow, Nat.reducePow, Nat.reduceSub, IntKind.bits])
    refine ro_kcall (cRSame14 j x g wg oj) wg (fun h4 k4 w4 => ?_)
    have dx : decide (j.plain = x.plain) = true := by simpa using hx.symm
    have ex : (j.plain = x.plain) = True := eq_true hx.symm
    simp (maxSteps := 10000000) (maxDischargeDepth := 30) only [dx, ex, go_sem, Nat.reduceEqDiff, ↓reduceIte, Nat.reduceAdd, Nat.reduceMul, Nat.reduceLeDiff, Nat.reduceLT, reduceCtorEq, Int.reduceToNat, Int.reduceLE, Int.reduceLT, Int.reduceEq, Int.reduceNeg, Int.reduceNe, Int.reducePow, Nat.reducePow, Nat.reduceSub, IntKind.bits]
    try (simp (maxSteps := 10000000) (maxDischargeDepth := 30) only [go_sem, Nat.reduceEqDiff, ↓reduceIte, Nat.reduceAdd, Nat.reduceMul, Nat.reduceLeDiff, Nat.reduceLT, reduceCtorEq, Int.reduceToNat, Int.reduceLE, Int.reduceLT, Int.reduceEq, Int.reduceNeg, Int.reduceNe, Int.reducePow, Nat.reducePow, Nat.reduceSub, IntKind.bits])
    refine ro_vcall (cDeJob o b hbb (by omega) h4 w4) (fun v h6 J => ?_)
    obtain ⟨J, k6⟩ := J
    have w6 := w4.keep k6
    have lo6 := w6.1
    unfold okJob at J
    cases hj : jobRd b with
    | none =>
      rw [hj] at J
      dsimp only at J
      subst J
      simp (maxSteps := 10000000) (maxDischargeDepth := 30) only [lo6, JobR.e, JobR.cells, jobZ, go_sem, Nat.reduceEqDiff, ↓reduceIte, Nat.reduceAdd, Nat.reduceMul, Nat.reduceLeDiff, Nat.reduceLT, reduceCtorEq, Int.reduceToNat, Int.reduceLE, Int.reduceLT, Int.reduceEq, Int.reduceNeg, Int.reduceNe, Int.reducePow, Nat.reducePow, Nat.reduceSub, IntKind.bits]
      generalize hgg : H.put _ _ _ = g
      have kg : Keep h6 g := by rw [← hgg]; exact ((Keep.refl h6).alloc _).put (Nat.le_refl _) _
      have gg : g.get h6.len = some ⟨false, jobZ.cells⟩ := by rw [← hgg]; exact get_put_eq (by rw [len_alloc]; omega)
      have wg := w6.keep kg
      clear hgg
      try (simp (maxSteps := 10000000) (maxDischargeDepth := 30) only [gg, JobR.cells, go_sem, Nat.reduceEqDiff, ↓reduceIte, Nat.reduceAdd, Nat.reduceMul, Nat.reduceLeDiff, Nat.reduceLT, reduceCtorEq, Int.reduceToNat, Int.reduceLE, Int.reduceLT, Int.reduceEq, Int.reduceNeg, Int.reduceNe, Int.reducePow, Nat.reducePow, Nat.reduceSub, IntKind.bits])
      refine ro_vcall (cEnJob jobZ g wg okZ) (fun v h7 J => ?_)
      obtain ⟨⟨o7, rfl⟩, k7⟩ := J
      simp (maxSteps := 10000000) (maxDischargeDepth := 30) only [bareZ, awAwake17, go_sem, Nat.reduceEqDiff, ↓reduceIte, Nat.reduceAdd, Nat.reduceMul, Nat.reduceLeDiff, Nat.reduceLT, reduceCtorEq, Int.reduceToNat, Int.reduceLE, Int.reduceLT, Int.reduceEq, Int.reduceNeg, Int.reduceNe, Int.reducePow, Nat.reducePow, Nat.reduceSub, IntKind.bits]
    | some l =>
      rw [hj] at J
      dsimp only at J
      obtain ⟨x, rfl, rfl⟩ := J
      obtain ⟨hbx, ox, bx⟩ := jobRd_some hbb hj
      have ox2 : okJR x := okJ_mono (by omega) ox
      simp (maxSteps := 10000000) (maxDischargeDepth := 30) only [lo6, JobR.e, JobR.cells, go_sem, Nat.reduceEqDiff, ↓reduceIte, Nat.reduceAdd, Nat.reduceMul, Nat.reduceLeDiff, Nat.reduceLT, reduceCtorEq, Int.reduceToNat, Int.reduceLE, Int.reduceLT, Int.reduceEq, Int.reduceNeg, Int.reduceNe, Int.reducePow, Nat.reducePow, Nat.reduceSub, IntKind.bits]
      generalize hgg : H.put _ _ _ = g
      have kg : Keep h6 g := by rw [← hgg]; exact ((Keep.refl h6).alloc _).put (Nat.le_refl _) _
      have gg : g.get h6.len = some ⟨false, x.cells⟩ := by rw [← hgg]; exact get_put_eq (by rw [len_alloc]; omega)
      have wg := w6.keep kg
      clear hgg
      try (simp (maxSteps := 10000000) (maxDischargeDepth := 30) only [gg, JobR.cells, go_sem, Nat.reduceEqDiff, ↓reduceIte, Nat.reduceAdd, Nat.reduceMul, Nat.reduceLeDiff, Nat.reduceLT, reduceCtorEq, Int.reduceToNat, Int.reduceLE, Int.reduceLT, Int.reduceEq, Int.reduceNeg, Int.reduceNe, Int.reducePow, Nat.reducePow, Nat.reduceSub, IntKind.bits])
      refine ro_vcall (cEnJob x g wg ox2) (fun v h7 J => ?_)
      obtain ⟨⟨o7, rfl⟩, k7⟩ := J
      have w7 := wg.keep k7
      have bx2 : bareL x.items = true := bx
      rw [bx2]
      simp (maxSteps := 10000000) (maxDischargeDepth := 30) only [go_sem, Nat.reduceEqDiff, ↓reduceIte, Nat.reduceAdd, Nat.reduceMul, Nat.reduceLeDiff, Nat.reduceLT, reduceCtorEq, Int.reduceToNat, Int.reduceLE, Int.reduceLT, Int.reduceEq, Int.reduceNeg, Int.reduceNe, Int.reducePow, Nat.reducePow, Nat.reduceSub, IntKind.bits]
      have lbx : (jobBP x.plain).length ≤ 1000000000 := jobBP_len ox2
      refine ro_kcall (cSameG o7 o (jobBP x.plain) b (by omega) h7 w7) w7 (fun h8 k8 w8 => ?_)
      have db : decide (jobBP x.plain = b) = true := by simpa using hbx.symm
      have eb : (jobBP x.plain = b) = True := eq_true hbx.symm
      simp (maxSteps := 10000000) (maxDischargeDepth := 30) only [db, eb, awAwake17, go_sem, Nat.reduceEqDiff, ↓reduceIte, Nat.reduceAdd, Nat.reduceMul, Nat.reduceLeDiff, Nat.reduceLT, reduceCtorEq, Int.reduceToNat, Int.reduceLE, Int.reduceLT, Int.reduceEq, Int.reduceNeg, Int.reduceNe, Int.reducePow, Nat.reducePow, Nat.reduceSub, IntKind.bits]
end Go.LM
