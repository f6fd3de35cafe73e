import Derived.Test.YtpmpdidgbbgeeaaLmTrbR1
import Derived.Test.YtpmpdidgbbgeeaaLmbDecode11
namespace Go.LM
open Go.Proofs
set_option maxRecDepth 16000
set_option maxHeartbeats 8000000
set_option linter.unusedSimpArgs false
theorem okJob_ex {b : List Int} {v : LV} (hb : ∀ c ∈ b, 0 ≤ c ∧ c < 256) (hl : b.length ≤ 2000) (h : okJob b v) : ∃ (x : JobR) (c : Int), v = .tup [x.e, .int .i64 c] ∧ okJR x ∧ (c = 0 ∧ jobRd b = some x.plain ∨ c = 2 ∧ jobRd b = none ∧ x = jobZ) := by
  unfold okJob at h
  cases hj : jobRd b with
  | none => rw [hj] at h; exact ⟨jobZ, 2, h, okZ, .inr ⟨rfl, rfl, rfl⟩⟩
  | some l =>
    rw [hj] at h
    obtain ⟨x, rfl, rfl⟩ := h
    exact ⟨x, 0, rfl, okJ_mono hl (jobRd_some hb hj).2.1, .inl ⟨rfl, rfl⟩⟩
theorem okRead_ex {b : List Int} {v : LV} (h : okRead17 b v) : ∃ (y : JobR) (ok : Bool), v = .agg (y.cells ++ [.bool ok, .str (partS (partN b)), .int .i64 (jS5 b).2.at_]) ∧ (ok = true ∧ jobRd b = some y.plain ∨ ok = false ∧ jobRd b = none ∧ y = jobZ) := by
  unfold okRead17 at h
  cases hj : jobRd b with
  | none => rw [hj] at h; exact ⟨jobZ, false, h, .inr ⟨rfl, rfl, rfl⟩⟩
  | some l =>
    rw [hj] at h
    obtain ⟨x, rfl, rfl⟩ := h
    exact ⟨x, true, rfl, .inl ⟨rfl, rfl⟩⟩
theorem lDecodeReads (o : Option (Nat × Nat)) (b : List Int) (hb : ∀ c ∈ b, 0 ≤ c ∧ c < 256) : ∃ h', runI Try.prog TA 16 [byts o b] H0 = some (.bool true, h') := by
  refine true_of rfl res16 rfl ?_
  by_cases c0 : (2000 : Int) < b.length
  · simp (maxSteps := 10000000) (maxDischargeDepth := 30) only [q16, r16, c0, List.length_map, awAwake17, go_sem, Nat.reduceEqDiff, ↓reduceIte, Nat.reduceAdd, Nat.reduceMul, Nat.reduceLeDiff, Nat.reduceLT, reduceCtorEq, Int.reduceToNat, Int.reduceLE, Int.reduceLT, Int.reduceEq, Int.reduceNeg, Int.reduceNe, Nat.reduceSub, IntKind.bits]
  have hl : b.length ≤ 2000 := by omega
  simp (maxSteps := 10000000) (maxDischargeDepth := 30) only [q16, r16, c0, List.length_map, go_sem, Nat.reduceEqDiff, ↓reduceIte, Nat.reduceAdd, Nat.reduceMul, Nat.reduceLeDiff, Nat.reduceLT, reduceCtorEq, Int.reduceToNat, Int.reduceLE, Int.reduceLT, Int.reduceEq, Int.reduceNeg, Int.reduceNe, Nat.reduceSub, IntKind.bits]
  refine ro_vcall (cDeJob o b hb (by omega) H0 wf0) (fun v1 h1 J1 => ?_)
  obtain ⟨J1, k1⟩ := J1
  obtain ⟨x, c, rfl, okx, hx⟩ := okJob_ex hb hl J1
  have w1 := wf0.keep k1
  have lo1 := w1.1
  simp (maxSteps := 10000000) (maxDischargeDepth := 30) only [lo1, JobR.e, JobR.cells, go_sem, Nat.reduceEqDiff, ↓reduceIte, Nat.reduceAdd, Nat.reduceMul, Nat.reduceLeDiff, Nat.reduceLT, reduceCtorEq, Int.reduceToNat, Int.reduceLE, Int.reduceLT, Int.reduceEq, Int.reduceNeg, Int.reduceNe, Nat.reduceSub, IntKind.bits]
  generalize hgg : H.put _ _ _ = m1
  have km1 : Keep h1 m1 := by rw [← hgg]; exact ((Keep.refl h1).alloc _).put (Nat.le_refl _) _
  have gx1 : m1.get h1.len = some ⟨false, x.cells⟩ := by rw [← hgg]; exact get_put_eq (by rw [len_alloc]; omega)
  clear hgg
  have wm1 := w1.keep km1
  try (simp (maxSteps := 10000000) (maxDischargeDepth := 30) only [go_sem, Nat.reduceEqDiff, ↓reduceIte, Nat.reduceAdd, Nat.reduceMul, Nat.reduceLeDiff, Nat.reduceLT, reduceCtorEq, Int.reduceToNat, Int.reduceLE, Int.reduceLT, Int.reduceEq, Int.reduceNeg, Int.reduceNe, Nat.reduceSub, IntKind.bits])
  refine ro_vcall (cDeWhere o b hb (by omega) m1 wm1) (fun v2 h2 J2 => ?_)
  obtain ⟨rfl, k2⟩ := J2
  have w2 := wm1.keep k2
  have gx2 := (k2.get (lt_of_get gx1)).trans gx1
  simp (maxSteps := 10000000) (maxDischargeDepth := 30) only [go_sem, Nat.reduceEqDiff, ↓reduceIte, Nat.reduceAdd, Nat.reduceMul, Nat.reduceLeDiff, Nat.reduceLT, reduceCtorEq, Int.reduceToNat, Int.reduceLE, Int.reduceLT, Int.reduceEq, Int.reduceNeg, Int.reduceNe, Nat.reduceSub, IntKind.bits]
  refine ro_vcall (cRJob17 o b hb hl h2 w2) (fun v3 h3 J3 => ?_)
  obtain ⟨J3, k3⟩ := J3
  obtain ⟨y, ok, rfl, hy⟩ := okRead_ex J3
  have w3 := w2.keep k3
  have gx3 := (k3.get (lt_of_get gx2)).trans gx2
  have lo3 := w3.1
  have lx3 := lt_of_get gx3
  have hxy : x.plain = y.plain := by
    rcases hx with ⟨-, h1⟩ | ⟨-, h1, rfl⟩
    · rcases hy with ⟨-, h2⟩ | ⟨-, h2, rfl⟩
      · rw [h1] at h2; exact Option.some.inj h2
      · rw [h1] at h2; cases h2
    · rcases hy with ⟨-, h2⟩ | ⟨-, h2, rfl⟩
      · rw [h1] at h2; cases h2
      · rfl
  have hco : (c = 0 ∧ ok = true) ∨ (c = 2 ∧ ok = false) := by
    rcases hx with ⟨e, h1⟩ | ⟨e, h1, -⟩
    · rcases hy with ⟨e', -⟩ | ⟨-, h2, -⟩
      · exact .inl ⟨e, e'⟩
      · rw [h1] at h2; cases h2
    · rcases hy with ⟨-, h2⟩ | ⟨e', -⟩
      · rw [h1] at h2; cases h2
      · exact .inr ⟨e, e'⟩
  have hbd : ∀ c ∈ b.take 4, 0 ≤ c ∧ c < 256 := fun c hc => hb c (List.mem_of_mem_take hc)
  have est : (strOf (b.take 4) = ⟨#[84, 89, 77, 49]⟩) = (b.take 4 = magicJ) := strOf_eq (b := magicJ) hbd (by decide)
  have ed : ((b.map (LV.int .u8)).take 4).drop 0 = (b.take 4).map (LV.int .u8) := by rw [List.drop_zero, List.map_take]
  rcases hco with ⟨rfl, rfl⟩ | ⟨rfl, rfl⟩
  · by_cases c1 : (3 : Int) < b.length
    · have hb1 : boundL (some (.int .i64 4)) b.length b.length = some 4 := by rw [bound_some, if_pos ⟨by omega, by omega⟩]; rfl
      simp (maxSteps := 10000000) (maxDischargeDepth := 30) only [lo3, gx3, lx3, JobR.cells, List.cons_append, List.nil_append, List.length_map, c1, hb1, slM_some (bound_none 0 4), ed, cv_strB ty_u26 ty_u9 ty_u5, bin_eql_str, est, go_sem, Nat.reduceEqDiff, ↓reduceIte, Nat.reduceAdd, Nat.reduceMul, Nat.reduceLeDiff, Nat.reduceLT, reduceCtorEq, Int.reduceToNat, Int.reduceLE, Int.reduceLT, Int.reduceEq, Int.reduceNeg, Int.reduceNe, Nat.reduceSub, IntKind.bits]
      generalize hgg : H.put _ _ _ = m3
      have km3 : Keep h3 m3 := by rw [← hgg]; exact ((Keep.refl h3).alloc _).put (Nat.le_refl _) _
      have gy3 : m3.get h3.len = some ⟨false, y.cells ++ [.bool true, .str (partS (partN b)), .int .i64 (jS5 b).2.at_]⟩ := by rw [← hgg]; exact get_put_eq (by rw [len_alloc]; omega)
      clear hgg
      have wm3 := w3.keep km3
      try (simp (maxSteps := 10000000) (maxDischargeDepth := 30) only [go_sem, Nat.reduceEqDiff, ↓reduceIte, Nat.reduceAdd, Nat.reduceMul, Nat.reduceLeDiff, Nat.reduceLT, reduceCtorEq, Int.reduceToNat, Int.reduceLE, Int.reduceLT, Int.reduceEq, Int.reduceNeg, Int.reduceNe, Nat.reduceSub, IntKind.bits])
      refine ro_kcall (cRSame14 x y m3 wm3 okx) wm3 (fun h4 k4 w4 => ?_)
      have gy4 := (k4.get (lt_of_get gy3)).trans gy3
      simp (maxSteps := 10000000) (maxDischargeDepth := 30) only [hxy, gy4, JobR.cells, List.cons_append, List.nil_append, bin_eql_str, go_sem, Nat.reduceEqDiff, ↓reduceIte, Nat.reduceAdd, Nat.reduceMul, Nat.reduceLeDiff, Nat.reduceLT, reduceCtorEq, Int.reduceToNat, Int.reduceLE, Int.reduceLT, Int.reduceEq, Int.reduceNeg, Int.reduceNe, Nat.reduceSub, IntKind.bits]
      refine ro_kcall (cDeBegins o b hb h4 w4) w4 (fun h5 k5 w5 => ?_)
      simp (maxSteps := 10000000) (maxDischargeDepth := 30) only [awAwake17, go_sem, Nat.reduceEqDiff, ↓reduceIte, Nat.reduceAdd, Nat.reduceMul, Nat.reduceLeDiff, Nat.reduceLT, reduceCtorEq, Int.reduceToNat, Int.reduceLE, Int.reduceLT, Int.reduceEq, Int.reduceNeg, Int.reduceNe, Nat.reduceSub, IntKind.bits]
    · have e : (b.take 4 = magicJ) = False := eq_false fun h => by
        have := congrArg List.length h
        rw [List.length_take] at this
        simp [magicJ] at this
        omega
      simp (maxSteps := 10000000) (maxDischargeDepth := 30) only [lo3, gx3, lx3, JobR.cells, List.cons_append, List.nil_append, List.length_map, c1, go_sem, Nat.reduceEqDiff, ↓reduceIte, Nat.reduceAdd, Nat.reduceMul, Nat.reduceLeDiff, Nat.reduceLT, reduceCtorEq, Int.reduceToNat, Int.reduceLE, Int.reduceLT, Int.reduceEq, Int.reduceNeg, Int.reduceNe, Nat.reduceSub, IntKind.bits]
      generalize hgg : H.put _ _ _ = m3
      have km3 : Keep h3 m3 := by rw [← hgg]; exact ((Keep.refl h3).alloc _).put (Nat.le_refl _) _
      have gy3 : m3.get h3.len = some ⟨false, y.cells ++ [.bool true, .str (partS (partN b)), .int .i64 (jS5 b).2.at_]⟩ := by rw [← hgg]; exact get_put_eq (by rw [len_alloc]; omega)
      clear hgg
      have wm3 := w3.keep km3
      try (simp (maxSteps := 10000000) (maxDischargeDepth := 30) only [go_sem, Nat.reduceEqDiff, ↓reduceIte, Nat.reduceAdd, Nat.reduceMul, Nat.reduceLeDiff, Nat.reduceLT, reduceCtorEq, Int.reduceToNat, Int.reduceLE, Int.reduceLT, Int.reduceEq, Int.reduceNeg, Int.reduceNe, Nat.reduceSub, IntKind.bits])
      refine ro_kcall (cRSame14 x y m3 wm3 okx) wm3 (fun h4 k4 w4 => ?_)
      have gy4 := (k4.get (lt_of_get gy3)).trans gy3
      simp (maxSteps := 10000000) (maxDischargeDepth := 30) only [hxy, gy4, JobR.cells, List.cons_append, List.nil_append, bin_eql_str, go_sem, Nat.reduceEqDiff, ↓reduceIte, Nat.reduceAdd, Nat.reduceMul, Nat.reduceLeDiff, Nat.reduceLT, reduceCtorEq, Int.reduceToNat, Int.reduceLE, Int.reduceLT, Int.reduceEq, Int.reduceNeg, Int.reduceNe, Nat.reduceSub, IntKind.bits]
      refine ro_kcall (cDeBegins o b hb h4 w4) w4 (fun h5 k5 w5 => ?_)
      simp (maxSteps := 10000000) (maxDischargeDepth := 30) only [awAwake17, e, go_sem, Nat.reduceEqDiff, ↓reduceIte, Nat.reduceAdd, Nat.reduceMul, Nat.reduceLeDiff, Nat.reduceLT, reduceCtorEq, Int.reduceToNat, Int.reduceLE, Int.reduceLT, Int.reduceEq, Int.reduceNeg, Int.reduceNe, Nat.reduceSub, IntKind.bits]
  · by_cases c1 : (3 : Int) < b.length
    · have hb1 : boundL (some (.int .i64 4)) b.length b.length = some 4 := by rw [bound_some, if_pos ⟨by omega, by omega⟩]; rfl
      simp (maxSteps := 10000000) (maxDischargeDepth := 30) only [lo3, gx3, lx3, JobR.cells, List.cons_append, List.nil_append, List.length_map, c1, hb1, slM_some (bound_none 0 4), ed, cv_strB ty_u26 ty_u9 ty_u5, bin_eql_str, est, go_sem, Nat.reduceEqDiff, ↓reduceIte, Nat.reduceAdd, Nat.reduceMul, Nat.reduceLeDiff, Nat.reduceLT, reduceCtorEq, Int.reduceToNat, Int.reduceLE, Int.reduceLT, Int.reduceEq, Int.reduceNeg, Int.reduceNe, Nat.reduceSub, IntKind.bits]
      generalize hgg : H.put _ _ _ = m3
      have km3 : Keep h3 m3 := by rw [← hgg]; exact ((Keep.refl h3).alloc _).put (Nat.le_refl _) _
      have gy3 : m3.get h3.len = some ⟨false, y.cells ++ [.bool false, .str (partS (partN b)), .int .i64 (jS5 b).2.at_]⟩ := by rw [← hgg]; exact get_put_eq (by rw [len_alloc]; omega)
      clear hgg
      have wm3 := w3.keep km3
      try (simp (maxSteps := 10000000) (maxDischargeDepth := 30) only [go_sem, Nat.reduceEqDiff, ↓reduceIte, Nat.reduceAdd, Nat.reduceMul, Nat.reduceLeDiff, Nat.reduceLT, reduceCtorEq, Int.reduceToNat, Int.reduceLE, Int.reduceLT, Int.reduceEq, Int.reduceNeg, Int.reduceNe, Nat.reduceSub, IntKind.bits])
      refine ro_kcall (cRSame14 x y m3 wm3 okx) wm3 (fun h4 k4 w4 => ?_)
      have gy4 := (k4.get (lt_of_get gy3)).trans gy3
      simp (maxSteps := 10000000) (maxDischargeDepth := 30) only [hxy, gy4, JobR.cells, List.cons_append, List.nil_append, bin_eql_str, go_sem, Nat.reduceEqDiff, ↓reduceIte, Nat.reduceAdd, Nat.reduceMul, Nat.reduceLeDiff, Nat.reduceLT, reduceCtorEq, Int.reduceToNat, Int.reduceLE, Int.reduceLT, Int.reduceEq, Int.reduceNeg, Int.reduceNe, Nat.reduceSub, IntKind.bits]
      refine ro_kcall (cDeBegins o b hb h4 w4) w4 (fun h5 k5 w5 => ?_)
      simp (maxSteps := 10000000) (maxDischargeDepth := 30) only [awAwake17, go_sem, Nat.reduceEqDiff, ↓reduceIte, Nat.reduceAdd, Nat.reduceMul, Nat.reduceLeDiff, Nat.reduceLT, reduceCtorEq, Int.reduceToNat, Int.reduceLE, Int.reduceLT, Int.reduceEq, Int.reduceNeg, Int.reduceNe, Nat.reduceSub, IntKind.bits]
    · have e : (b.take 4 = magicJ) = False := eq_false fun h => by
        have := congrArg List.length h
        rw [List.length_take] at this
        simp [magicJ] at this
        omega
      simp (maxSteps := 10000000) (maxDischargeDepth := 30) only [lo3, gx3, lx3, JobR.cells, List.cons_append, List.nil_append, List.length_map, c1, go_sem, Nat.reduceEqDiff, ↓reduceIte, Nat.reduceAdd, Nat.reduceMul, Nat.reduceLeDiff, Nat.reduceLT, reduceCtorEq, Int.reduceToNat, Int.reduceLE, Int.reduceLT, Int.reduceEq, Int.reduceNeg, Int.reduceNe, Nat.reduceSub, IntKind.bits]
      generalize hgg : H.put _ _ _ = m3
      have km3 : Keep h3 m3 := by rw [← hgg]; exact ((Keep.refl h3).alloc _).put (Nat.le_refl _) _
      have gy3 : m3.get h3.len = some ⟨false, y.cells ++ [.bool false, .str (partS (partN b)), .int .i64 (jS5 b).2.at_]⟩ := by rw [← hgg]; exact get_put_eq (by rw [len_alloc]; omega)
      clear hgg
      have wm3 := w3.keep km3
      try (simp (maxSteps := 10000000) (maxDischargeDepth := 30) only [go_sem, Nat.reduceEqDiff, ↓reduceIte, Nat.reduceAdd, Nat.reduceMul, Nat.reduceLeDiff, Nat.reduceLT, reduceCtorEq, Int.reduceToNat, Int.reduceLE, Int.reduceLT, Int.reduceEq, Int.reduceNeg, Int.reduceNe, Nat.reduceSub, IntKind.bits])
      refine ro_kcall (cRSame14 x y m3 wm3 okx) wm3 (fun h4 k4 w4 => ?_)
      have gy4 := (k4.get (lt_of_get gy3)).trans gy3
      simp (maxSteps := 10000000) (maxDischargeDepth := 30) only [hxy, gy4, JobR.cells, List.cons_append, List.nil_append, bin_eql_str, go_sem, Nat.reduceEqDiff, ↓reduceIte, Nat.reduceAdd, Nat.reduceMul, Nat.reduceLeDiff, Nat.reduceLT, reduceCtorEq, Int.reduceToNat, Int.reduceLE, Int.reduceLT, Int.reduceEq, Int.reduceNeg, Int.reduceNe, Nat.reduceSub, IntKind.bits]
      refine ro_kcall (cDeBegins o b hb h4 w4) w4 (fun h5 k5 w5 => ?_)
      simp (maxSteps := 10000000) (maxDischargeDepth := 30) only [awAwake17, e, go_sem, Nat.reduceEqDiff, ↓reduceIte, Nat.reduceAdd, Nat.reduceMul, Nat.reduceLeDiff, Nat.reduceLT, reduceCtorEq, Int.reduceToNat, Int.reduceLE, Int.reduceLT, Int.reduceEq, Int.reduceNeg, Int.reduceNe, Nat.reduceSub, IntKind.bits]
end Go.LM
