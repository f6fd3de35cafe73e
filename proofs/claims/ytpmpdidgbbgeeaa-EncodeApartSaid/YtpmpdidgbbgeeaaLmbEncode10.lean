import Derived.Test.YtpmpdidgbbgeeaaLmTrbR1
import Derived.Test.YtpmpdidgbbgeeaaLmbEncode9
namespace Go.LM
open Go.Proofs
set_option maxRecDepth 8000
set_option maxHeartbeats 4000000
set_option linter.unusedSimpArgs false

theorem lEncodeJobs (j : JobR) (hn : j.num) : ∃ h', runI Try.prog TA 9 [j.e] H0 = some (.bool true, h') := by
  refine true_of rfl res9 rfl ?_
  simp (maxSteps := 10000000) (maxDischargeDepth := 30) only [q9, r9, JobR.e, JobR.cells, go_sem, Nat.reduceEqDiff, ↓reduceIte, Nat.reduceAdd, Nat.reduceMul, Nat.reduceLeDiff, Nat.reduceLT, reduceCtorEq, Int.reduceToNat, Int.reduceLE, Int.reduceLT, Int.reduceEq, Int.reduceNeg, Int.reduceNe, Int.reducePow, Nat.reducePow, Nat.reduceSub, IntKind.bits]
  generalize hgg : H0.alloc _ = g0
  have k0 : Keep H0 g0 := by rw [← hgg]; exact (Keep.refl H0).alloc _
  have gj : g0.get H0.len = some ⟨false, [.int .i64 j.g.c0, .int .i64 j.g.c1, .int .i64 j.g.c2, .int .i64 j.g.c3, .int .i64 j.g.c4, .int .i64 j.g.c5, .int .i64 j.g.c6, .int .i64 j.g.c7, .int .i64 j.g.c8, .int .i64 j.g.c9, .int .i64 j.g.c10, .int .i64 j.g.c11, .int .i64 j.g.c12, .int .i64 j.g.c13, .int .i64 j.g.c14, .int .i64 j.g.c15, .int .i64 j.g.c16, .int .i64 j.g.c17, .bool j.g.bal, mkS j.oi 7 (j.items.map ItemR.e), mkS j.on 2 (j.notes.map NoteR.e), mkS j.of 3 (j.floats.map FloatR.e)]⟩ := by rw [← hgg]; exact get_alloc_eq _ _
  have w0 := wf0.keep k0
  clear hgg
  obtain ⟨v, e1, hv⟩ := cLarge14 j g0
  cases v
  rotate_left
  · refine ro_kcall e1 w0 (fun h1 k1 w1 => ?_)
    simp (maxSteps := 10000000) (maxDischargeDepth := 30) only [awAwake16, go_sem, Nat.reduceEqDiff, ↓reduceIte, Nat.reduceAdd, Nat.reduceMul, Nat.reduceLeDiff, Nat.reduceLT, reduceCtorEq, Int.reduceToNat, Int.reduceLE, Int.reduceLT, Int.reduceEq, Int.reduceNeg, Int.reduceNe, Int.reducePow, Nat.reducePow, Nat.reduceSub, IntKind.bits]
  have oj := okJ_of hn (hv rfl)
  have hjl := jobBP_len oj
  refine ro_kcall e1 w0 (fun h1 k1 w1 => ?_)
  have gj1 := (k1.get (lt_of_get gj)).trans gj
  simp (maxSteps := 10000000) (maxDischargeDepth := 30) only [gj1, go_sem, Nat.reduceEqDiff, ↓reduceIte, Nat.reduceAdd, Nat.reduceMul, Nat.reduceLeDiff, Nat.reduceLT, reduceCtorEq, Int.reduceToNat, Int.reduceLE, Int.reduceLT, Int.reduceEq, Int.reduceNeg, Int.reduceNe, Int.reducePow, Nat.reducePow, Nat.reduceSub, IntKind.bits]
  refine ro_vcall (cEnJob j h1 w1 oj) (fun v h2 J => ?_)
  obtain ⟨⟨o2, rfl⟩, k2⟩ := J
  have w2 := w1.keep k2
  have gj2 := (k2.get (lt_of_get gj1)).trans gj1
  have eb : ∀ x : Bool, (x == x) = true := fun x => by cases x <;> rfl
  cases hb : bareL j.items
  · simp (maxSteps := 10000000) (maxDischargeDepth := 30) only [gj2, go_sem, Nat.reduceEqDiff, ↓reduceIte, Nat.reduceAdd, Nat.reduceMul, Nat.reduceLeDiff, Nat.reduceLT, reduceCtorEq, Int.reduceToNat, Int.reduceLE, Int.reduceLT, Int.reduceEq, Int.reduceNeg, Int.reduceNe, Int.reducePow, Nat.reducePow, Nat.reduceSub, IntKind.bits]
    refine ro_vcall (cRJob16 j h2 w2 oj) (fun v h3 J => ?_)
    obtain ⟨⟨o3, rfl⟩, k3⟩ := J
    have w3 := w2.keep k3
    have gj3 := (k3.get (lt_of_get gj2)).trans gj2
    have lo3 := w3.1
    rw [hb]
    simp (maxSteps := 10000000) (maxDischargeDepth := 30) only [lo3, go_sem, Nat.reduceEqDiff, ↓reduceIte, Nat.reduceAdd, Nat.reduceMul, Nat.reduceLeDiff, Nat.reduceLT, reduceCtorEq, Int.reduceToNat, Int.reduceLE, Int.reduceLT, Int.reduceEq, Int.reduceNeg, Int.reduceNe, Int.reducePow, Nat.reducePow, Nat.reduceSub, IntKind.bits]
    generalize hgg : (h3.alloc _).put _ _ = g
    have kg : Keep h3 g := by rw [← hgg]; exact ((Keep.refl h3).alloc _).put (Nat.le_refl _) _
    have gg : g.get h3.len = some ⟨false, [.nils, .bool false]⟩ := by rw [← hgg]; simp (maxSteps := 10000000) (maxDischargeDepth := 30) only [go_sem, Nat.reduceEqDiff, ↓reduceIte, Nat.reduceAdd, Nat.reduceMul, Nat.reduceLeDiff, Nat.reduceLT, reduceCtorEq, Int.reduceToNat, Int.reduceLE, Int.reduceLT, Int.reduceEq, Int.reduceNeg, Int.reduceNe, Int.reducePow, Nat.reducePow, Nat.reduceSub, IntKind.bits]
    have wg := w3.keep kg
    have gjg := (kg.get (lt_of_get gj3)).trans gj3
    clear hgg
    try (simp (maxSteps := 10000000) (maxDischargeDepth := 30) only [gg, go_sem, Nat.reduceEqDiff, ↓reduceIte, Nat.reduceAdd, Nat.reduceMul, Nat.reduceLeDiff, Nat.reduceLT, reduceCtorEq, Int.reduceToNat, Int.reduceLE, Int.reduceLT, Int.reduceEq, Int.reduceNeg, Int.reduceNe, Int.reducePow, Nat.reducePow, Nat.reduceSub, IntKind.bits])
    first
    | refine rw_kcall (cSameG none none [] [] (by simp) g wg) wg (fun h4 k4 w4 => ?_)
    | refine rw_kcallD (cSameG none none [] [] (by simp) g.up (wf_up wg)) wg (fun h4 k4 w4 => ?_)
    have gj4 := (k4.get (lt_of_get gjg)).trans gjg
    simp (maxSteps := 10000000) (maxDischargeDepth := 30) only [gj4, go_sem, Nat.reduceEqDiff, ↓reduceIte, Nat.reduceAdd, Nat.reduceMul, Nat.reduceLeDiff, Nat.reduceLT, reduceCtorEq, Int.reduceToNat, Int.reduceLE, Int.reduceLT, Int.reduceEq, Int.reduceNeg, Int.reduceNe, Int.reducePow, Nat.reducePow, Nat.reduceSub, IntKind.bits]
    first
    | refine rw_kcall (cEnGeom j.g h4 w4 oj.g) w4 (fun h5 k5 w5 => ?_)
    | refine rw_kcallD (cEnGeom j.g h4.up (wf_up w4) oj.g) w4 (fun h5 k5 w5 => ?_)
    have gj5 := (k5.get (lt_of_get gj4)).trans gj4
    simp (maxSteps := 10000000) (maxDischargeDepth := 30) only [gj5, go_sem, Nat.reduceEqDiff, ↓reduceIte, Nat.reduceAdd, Nat.reduceMul, Nat.reduceLeDiff, Nat.reduceLT, reduceCtorEq, Int.reduceToNat, Int.reduceLE, Int.reduceLT, Int.reduceEq, Int.reduceNeg, Int.reduceNe, Int.reducePow, Nat.reducePow, Nat.reduceSub, IntKind.bits]
    first
    | refine rw_vcall (cRGeom16 j.g h5 w5 oj.g) (fun v h6 J => ?_)
    | refine rw_vcallW (cRGeom16 j.g h5 w5 oj.g) (fun v hh J => by have := J.2; simp (maxSteps := 10000000) (maxDischargeDepth := 30) only [this.get, gj5, go_sem, Nat.reduceEqDiff, ↓reduceIte, Nat.reduceAdd, Nat.reduceMul, Nat.reduceLeDiff, Nat.reduceLT, reduceCtorEq, Int.reduceToNat, Int.reduceLE, Int.reduceLT, Int.reduceEq, Int.reduceNeg, Int.reduceNe, Int.reducePow, Nat.reducePow, Nat.reduceSub, IntKind.bits]) (fun v h6 J => ?_)
    obtain ⟨⟨o6, rfl⟩, k6⟩ := J
    have w6 := w5.keep k6
    have lgb := geomB_len oj.g
    simp (maxSteps := 10000000) (maxDischargeDepth := 30) only [go_sem, Nat.reduceEqDiff, ↓reduceIte, Nat.reduceAdd, Nat.reduceMul, Nat.reduceLeDiff, Nat.reduceLT, reduceCtorEq, Int.reduceToNat, Int.reduceLE, Int.reduceLT, Int.reduceEq, Int.reduceNeg, Int.reduceNe, Int.reducePow, Nat.reducePow, Nat.reduceSub, IntKind.bits]
    refine rw_kcall (cSameG _ o6 (geomB j.g) (geomB j.g) (by omega) h6 w6) w6 (fun h7 k7 w7 => ?_)
    simp (maxSteps := 10000000) (maxDischargeDepth := 30) only [awAwake16, go_sem, Nat.reduceEqDiff, ↓reduceIte, Nat.reduceAdd, Nat.reduceMul, Nat.reduceLeDiff, Nat.reduceLT, reduceCtorEq, Int.reduceToNat, Int.reduceLE, Int.reduceLT, Int.reduceEq, Int.reduceNeg, Int.reduceNe, Int.reducePow, Nat.reducePow, Nat.reduceSub, IntKind.bits]
  · simp (maxSteps := 10000000) (maxDischargeDepth := 30) only [gj2, go_sem, Nat.reduceEqDiff, ↓reduceIte, Nat.reduceAdd, Nat.reduceMul, Nat.reduceLeDiff, Nat.reduceLT, reduceCtorEq, Int.reduceToNat, Int.reduceLE, Int.reduceLT, Int.reduceEq, Int.reduceNeg, Int.reduceNe, Int.reducePow, Nat.reducePow, Nat.reduceSub, IntKind.bits]
    refine ro_vcall (cRJob16 j h2 w2 oj) (fun v h3 J => ?_)
    obtain ⟨⟨o3, rfl⟩, k3⟩ := J
    have w3 := w2.keep k3
    have gj3 := (k3.get (lt_of_get gj2)).trans gj2
    have lo3 := w3.1
    rw [hb]
    simp (maxSteps := 10000000) (maxDischargeDepth := 30) only [lo3, go_sem, Nat.reduceEqDiff, ↓reduceIte, Nat.reduceAdd, Nat.reduceMul, Nat.reduceLeDiff, Nat.reduceLT, reduceCtorEq, Int.reduceToNat, Int.reduceLE, Int.reduceLT, Int.reduceEq, Int.reduceNeg, Int.reduceNe, Int.reducePow, Nat.reducePow, Nat.reduceSub, IntKind.bits]
    generalize hgg : (h3.alloc _).put _ _ = g
    have kg : Keep h3 g := by rw [← hgg]; exact ((Keep.refl h3).alloc _).put (Nat.le_refl _) _
    have gg : g.get h3.len = some ⟨false, [byts o3 (jobBP j.plain), .bool true]⟩ := by rw [← hgg]; simp (maxSteps := 10000000) (maxDischargeDepth := 30) only [go_sem, Nat.reduceEqDiff, ↓reduceIte, Nat.reduceAdd, Nat.reduceMul, Nat.reduceLeDiff, Nat.reduceLT, reduceCtorEq, Int.reduceToNat, Int.reduceLE, Int.reduceLT, Int.reduceEq, Int.reduceNeg, Int.reduceNe, Int.reducePow, Nat.reducePow, Nat.reduceSub, IntKind.bits]
    have wg := w3.keep kg
    have gjg := (kg.get (lt_of_get gj3)).trans gj3
    clear hgg
    try (simp (maxSteps := 10000000) (maxDischargeDepth := 30) only [gg, go_sem, Nat.reduceEqDiff, ↓reduceIte, Nat.reduceAdd, Nat.reduceMul, Nat.reduceLeDiff, Nat.reduceLT, reduceCtorEq, Int.reduceToNat, Int.reduceLE, Int.reduceLT, Int.reduceEq, Int.reduceNeg, Int.reduceNe, Int.reducePow, Nat.reducePow, Nat.reduceSub, IntKind.bits])
    first
    | refine rw_kcall (cSameG o2 o3 (jobBP j.plain) (jobBP j.plain) (by omega) g wg) wg (fun h4 k4 w4 => ?_)
    | refine rw_kcallD (cSameG o2 o3 (jobBP j.plain) (jobBP j.plain) (by omega) g.up (wf_up wg)) wg (fun h4 k4 w4 => ?_)
    have gj4 := (k4.get (lt_of_get gjg)).trans gjg
    simp (maxSteps := 10000000) (maxDischargeDepth := 30) only [gj4, go_sem, Nat.reduceEqDiff, ↓reduceIte, Nat.reduceAdd, Nat.reduceMul, Nat.reduceLeDiff, Nat.reduceLT, reduceCtorEq, Int.reduceToNat, Int.reduceLE, Int.reduceLT, Int.reduceEq, Int.reduceNeg, Int.reduceNe, Int.reducePow, Nat.reducePow, Nat.reduceSub, IntKind.bits]
    first
    | refine rw_kcall (cEnGeom j.g h4 w4 oj.g) w4 (fun h5 k5 w5 => ?_)
    | refine rw_kcallD (cEnGeom j.g h4.up (wf_up w4) oj.g) w4 (fun h5 k5 w5 => ?_)
    have gj5 := (k5.get (lt_of_get gj4)).trans gj4
    simp (maxSteps := 10000000) (maxDischargeDepth := 30) only [gj5, go_sem, Nat.reduceEqDiff, ↓reduceIte, Nat.reduceAdd, Nat.reduceMul, Nat.reduceLeDiff, Nat.reduceLT, reduceCtorEq, Int.reduceToNat, Int.reduceLE, Int.reduceLT, Int.reduceEq, Int.reduceNeg, Int.reduceNe, Int.reducePow, Nat.reducePow, Nat.reduceSub, IntKind.bits]
    first
    | refine rw_vcall (cRGeom16 j.g h5 w5 oj.g) (fun v h6 J => ?_)
    | refine rw_vcallW (cRGeom16 j.g h5 w5 oj.g) (fun v hh J => by have := J.2; simp (maxSteps := 10000000) (maxDischargeDepth := 30) only [this.get, gj5, go_sem, Nat.reduceEqDiff, ↓reduceIte, Nat.reduceAdd, Nat.reduceMul, Nat.reduceLeDiff, Nat.reduceLT, reduceCtorEq, Int.reduceToNat, Int.reduceLE, Int.reduceLT, Int.reduceEq, Int.reduceNeg, Int.reduceNe, Int.reducePow, Nat.reducePow, Nat.reduceSub, IntKind.bits]) (fun v h6 J => ?_)
    obtain ⟨⟨o6, rfl⟩, k6⟩ := J
    have w6 := w5.keep k6
    have lgb := geomB_len oj.g
    simp (maxSteps := 10000000) (maxDischargeDepth := 30) only [go_sem, Nat.reduceEqDiff, ↓reduceIte, Nat.reduceAdd, Nat.reduceMul, Nat.reduceLeDiff, Nat.reduceLT, reduceCtorEq, Int.reduceToNat, Int.reduceLE, Int.reduceLT, Int.reduceEq, Int.reduceNeg, Int.reduceNe, Int.reducePow, Nat.reducePow, Nat.reduceSub, IntKind.bits]
    refine rw_kcall (cSameG _ o6 (geomB j.g) (geomB j.g) (by omega) h6 w6) w6 (fun h7 k7 w7 => ?_)
    simp (maxSteps := 10000000) (maxDischargeDepth := 30) only [awAwake16, go_sem, Nat.reduceEqDiff, ↓reduceIte, Nat.reduceAdd, Nat.reduceMul, Nat.reduceLeDiff, Nat.reduceLT, reduceCtorEq, Int.reduceToNat, Int.reduceLE, Int.reduceLT, Int.reduceEq, Int.reduceNeg, Int.reduceNe, Int.reducePow, Nat.reducePow, Nat.reduceSub, IntKind.bits]

theorem lEncodeApart (j k : JobR) (hn : j.num) (hm : k.num) : ∃ h', runI Try.prog TA 8 [j.e, k.e] H0 = some (.bool true, h') := by
  refine true_of rfl res8 rfl ?_
  simp (maxSteps := 10000000) (maxDischargeDepth := 30) only [q8, r8, JobR.e, JobR.cells, go_sem, Nat.reduceEqDiff, ↓reduceIte, Nat.reduceAdd, Nat.reduceMul, Nat.reduceLeDiff, Nat.reduceLT, reduceCtorEq, Int.reduceToNat, Int.reduceLE, Int.reduceLT, Int.reduceEq, Int.reduceNeg, Int.reduceNe, Int.reducePow, Nat.reducePow, Nat.reduceSub, IntKind.bits]
  generalize hgg : H.alloc (H0.alloc _) _ = g0
  have k0 : Keep H0 g0 := by rw [← hgg]; exact ((Keep.refl H0).alloc _).alloc _
  have gj : g0.get H0.len = some ⟨false, [.int .i64 j.g.c0, .int .i64 j.g.c1, .int .i64 j.g.c2, .int .i64 j.g.c3, .int .i64 j.g.c4, .int .i64 j.g.c5, .int .i64 j.g.c6, .int .i64 j.g.c7, .int .i64 j.g.c8, .int .i64 j.g.c9, .int .i64 j.g.c10, .int .i64 j.g.c11, .int .i64 j.g.c12, .int .i64 j.g.c13, .int .i64 j.g.c14, .int .i64 j.g.c15, .int .i64 j.g.c16, .int .i64 j.g.c17, .bool j.g.bal, mkS j.oi 7 (j.items.map ItemR.e), mkS j.on 2 (j.notes.map NoteR.e), mkS j.of 3 (j.floats.map FloatR.e)]⟩ := by rw [← hgg]; simp (maxSteps := 10000000) (maxDischargeDepth := 30) only [go_sem, Nat.reduceEqDiff, ↓reduceIte, Nat.reduceAdd, Nat.reduceMul, Nat.reduceLeDiff, Nat.reduceLT, reduceCtorEq, Int.reduceToNat, Int.reduceLE, Int.reduceLT, Int.reduceEq, Int.reduceNeg, Int.reduceNe, Int.reducePow, Nat.reducePow, Nat.reduceSub, IntKind.bits]
  have gk : g0.get (H0.len + 1) = some ⟨false, [.int .i64 k.g.c0, .int .i64 k.g.c1, .int .i64 k.g.c2, .int .i64 k.g.c3, .int .i64 k.g.c4, .int .i64 k.g.c5, .int .i64 k.g.c6, .int .i64 k.g.c7, .int .i64 k.g.c8, .int .i64 k.g.c9, .int .i64 k.g.c10, .int .i64 k.g.c11, .int .i64 k.g.c12, .int .i64 k.g.c13, .int .i64 k.g.c14, .int .i64 k.g.c15, .int .i64 k.g.c16, .int .i64 k.g.c17, .bool k.g.bal, mkS k.oi 7 (k.items.map ItemR.e), mkS k.on 2 (k.notes.map NoteR.e), mkS k.of 3 (k.floats.map FloatR.e)]⟩ := by rw [← hgg]; simp (maxSteps := 10000000) (maxDischargeDepth := 30) only [go_sem, Nat.reduceEqDiff, ↓reduceIte, Nat.reduceAdd, Nat.reduceMul, Nat.reduceLeDiff, Nat.reduceLT, reduceCtorEq, Int.reduceToNat, Int.reduceLE, Int.reduceLT, Int.reduceEq, Int.reduceNeg, Int.reduceNe, Int.reducePow, Nat.reducePow, Nat.reduceSub, IntKind.bits]
  have w0 := wf0.keep k0
  clear hgg
  obtain ⟨v, e1, hv⟩ := cLarge14 j g0
  cases v
  rotate_left
  · refine ro_kcall e1 w0 (fun h1 k1 w1 => ?_)
    simp (maxSteps := 10000000) (maxDischargeDepth := 30) only [awAwake16, go_sem, Nat.reduceEqDiff, ↓reduceIte, Nat.reduceAdd, Nat.reduceMul, Nat.reduceLeDiff, Nat.reduceLT, reduceCtorEq, Int.reduceToNat, Int.reduceLE, Int.reduceLT, Int.reduceEq, Int.reduceNeg, Int.reduceNe, Int.reducePow, Nat.reducePow, Nat.reduceSub, IntKind.bits]
  have oj := okJ_of hn (hv rfl)
  have hjl := jobBP_len oj
  refine ro_kcall e1 w0 (fun h1 k1 w1 => ?_)
  have gj1 := (k1.get (lt_of_get gj)).trans gj
  have gk1 := (k1.get (lt_of_get gk)).trans gk
  simp (maxSteps := 10000000) (maxDischargeDepth := 30) only [gk1, go_sem, Nat.reduceEqDiff, ↓reduceIte, Nat.reduceAdd, Nat.reduceMul, Nat.reduceLeDiff, Nat.reduceLT, reduceCtorEq, Int.reduceToNat, Int.reduceLE, Int.reduceLT, Int.reduceEq, Int.reduceNeg, Int.reduceNe, Int.reducePow, Nat.reducePow, Nat.reduceSub, IntKind.bits]
  obtain ⟨v, e2, hv⟩ := cLarge14 k h1
  cases v
  rotate_left
  · refine ro_kcall e2 w1 (fun h2 k2 w2 => ?_)
    simp (maxSteps := 10000000) (maxDischargeDepth := 30) only [awAwake16, go_sem, Nat.reduceEqDiff, ↓reduceIte, Nat.reduceAdd, Nat.reduceMul, Nat.reduceLeDiff, Nat.reduceLT, reduceCtorEq, Int.reduceToNat, Int.reduceLE, Int.reduceLT, Int.reduceEq, Int.reduceNeg, Int.reduceNe, Int.reducePow, Nat.reducePow, Nat.reduceSub, IntKind.bits]
  have ok := okJ_of hm (hv rfl)
  have hkl := jobBP_len ok
  refine ro_kcall e2 w1 (fun h2 k2 w2 => ?_)
  have gj2 := (k2.get (lt_of_get gj1)).trans gj1
  have gk2 := (k2.get (lt_of_get gk1)).trans gk1
  simp (maxSteps := 10000000) (maxDischargeDepth := 30) only [gj2, go_sem, Nat.reduceEqDiff, ↓reduceIte, Nat.reduceAdd, Nat.reduceMul, Nat.reduceLeDiff, Nat.reduceLT, reduceCtorEq, Int.reduceToNat, Int.reduceLE, Int.reduceLT, Int.reduceEq, Int.reduceNeg, Int.reduceNe, Int.reducePow, Nat.reducePow, Nat.reduceSub, IntKind.bits]
  refine ro_vcall (cEnJob j h2 w2 oj) (fun v h3 J => ?_)
  obtain ⟨⟨o3, rfl⟩, k3⟩ := J
  have w3 := w2.keep k3
  have gj3 := (k3.get (lt_of_get gj2)).trans gj2
  have gk3 := (k3.get (lt_of_get gk2)).trans gk2
  cases hb : bareL j.items
  · simp (maxSteps := 10000000) (maxDischargeDepth := 30) only [gk3, go_sem, Nat.reduceEqDiff, ↓reduceIte, Nat.reduceAdd, Nat.reduceMul, Nat.reduceLeDiff, Nat.reduceLT, reduceCtorEq, Int.reduceToNat, Int.reduceLE, Int.reduceLT, Int.reduceEq, Int.reduceNeg, Int.reduceNe, Int.reducePow, Nat.reducePow, Nat.reduceSub, IntKind.bits]
    refine ro_vcall (cEnJob k h3 w3 ok) (fun v h4 J => ?_)
    obtain ⟨⟨o4, rfl⟩, k4⟩ := J
    cases hc : bareL k.items
    · simp (maxSteps := 10000000) (maxDischargeDepth := 30) only [awAwake16, go_sem, Nat.reduceEqDiff, ↓reduceIte, Nat.reduceAdd, Nat.reduceMul, Nat.reduceLeDiff, Nat.reduceLT, reduceCtorEq, Int.reduceToNat, Int.reduceLE, Int.reduceLT, Int.reduceEq, Int.reduceNeg, Int.reduceNe, Int.reducePow, Nat.reducePow, Nat.reduceSub, IntKind.bits]
    · simp (maxSteps := 10000000) (maxDischargeDepth := 30) only [awAwake16, go_sem, Nat.reduceEqDiff, ↓reduceIte, Nat.reduceAdd, Nat.reduceMul, Nat.reduceLeDiff, Nat.reduceLT, reduceCtorEq, Int.reduceToNat, Int.reduceLE, Int.reduceLT, Int.reduceEq, Int.reduceNeg, Int.reduceNe, Int.reducePow, Nat.reducePow, Nat.reduceSub, IntKind.bits]
  simp (maxSteps := 10000000) (maxDischargeDepth := 30) only [gk3, go_sem, Nat.reduceEqDiff, ↓reduceIte, Nat.reduceAdd, Nat.reduceMul, Nat.reduceLeDiff, Nat.reduceLT, reduceCtorEq, Int.reduceToNat, Int.reduceLE, Int.reduceLT, Int.reduceEq, Int.reduceNeg, Int.reduceNe, Int.reducePow, Nat.reducePow, Nat.reduceSub, IntKind.bits]
  refine ro_vcall (cEnJob k h3 w3 ok) (fun v h4 J => ?_)
  obtain ⟨⟨o4, rfl⟩, k4⟩ := J
  have w4 := w3.keep k4
  have gj4 := (k4.get (lt_of_get gj3)).trans gj3
  have gk4 := (k4.get (lt_of_get gk3)).trans gk3
  cases hc : bareL k.items
  · simp (maxSteps := 10000000) (maxDischargeDepth := 30) only [awAwake16, go_sem, Nat.reduceEqDiff, ↓reduceIte, Nat.reduceAdd, Nat.reduceMul, Nat.reduceLeDiff, Nat.reduceLT, reduceCtorEq, Int.reduceToNat, Int.reduceLE, Int.reduceLT, Int.reduceEq, Int.reduceNeg, Int.reduceNe, Int.reducePow, Nat.reducePow, Nat.reduceSub, IntKind.bits]
  simp (maxSteps := 10000000) (maxDischargeDepth := 30) only [go_sem, Nat.reduceEqDiff, ↓reduceIte, Nat.reduceAdd, Nat.reduceMul, Nat.reduceLeDiff, Nat.reduceLT, reduceCtorEq, Int.reduceToNat, Int.reduceLE, Int.reduceLT, Int.reduceEq, Int.reduceNeg, Int.reduceNe, Int.reducePow, Nat.reducePow, Nat.reduceSub, IntKind.bits]
  have hd : decide (jobBP j.plain = jobBP k.plain) = decide (j.plain = k.plain) := by rw [Bool.eq_iff_iff]; simpa using jobBP_iff (m := 2000) (by decide) oj ok hb hc
  first
  | refine rw_kcall (cSameG o3 o4 (jobBP j.plain) (jobBP k.plain) (by omega) h4 w4) w4 (fun h5 k5 w5 => ?_)
  | refine rw_kcallD (cSameG o3 o4 (jobBP j.plain) (jobBP k.plain) (by omega) h4.up (wf_up w4)) w4 (fun h5 k5 w5 => ?_)
  rw [hd]
  have gj5 := (k5.get (lt_of_get gj4)).trans gj4
  have gk5 := (k5.get (lt_of_get gk4)).trans gk4
  simp (maxSteps := 10000000) (maxDischargeDepth := 30) only [gj5, gk5, go_sem, Nat.reduceEqDiff, ↓reduceIte, Nat.reduceAdd, Nat.reduceMul, Nat.reduceLeDiff, Nat.reduceLT, reduceCtorEq, Int.reduceToNat, Int.reduceLE, Int.reduceLT, Int.reduceEq, Int.reduceNeg, Int.reduceNe, Int.reducePow, Nat.reducePow, Nat.reduceSub, IntKind.bits]
  first
  | refine rw_kcall (cRSame14 j k h5 w5 oj) w5 (fun h6 k6 w6 => ?_)
  | refine rw_kcallD (cRSame14 j k h5.up (wf_up w5) oj) w5 (fun h6 k6 w6 => ?_)
  have eb : ∀ x : Bool, (x == x) = true := fun x => by cases x <;> rfl
  simp (maxSteps := 10000000) (maxDischargeDepth := 30) only [eb, awAwake16, go_sem, Nat.reduceEqDiff, ↓reduceIte, Nat.reduceAdd, Nat.reduceMul, Nat.reduceLeDiff, Nat.reduceLT, reduceCtorEq, Int.reduceToNat, Int.reduceLE, Int.reduceLT, Int.reduceEq, Int.reduceNeg, Int.reduceNe, Int.reducePow, Nat.reducePow, Nat.reduceSub, IntKind.bits]
end Go.LM
