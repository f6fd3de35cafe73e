import Derived.Test.YtmanbekgnooocaaLmTraR1
import Derived.Test.YtmanbekgnooocaaLmaAnchor6
namespace Go.LM
open Go.Proofs
set_option maxRecDepth 8000
set_option maxHeartbeats 8000000
set_option linter.unusedSimpArgs false

structure G4 (x0 x1 y0 y1 : Cnt) (a b : Int) (u q : Nat) (l : List ItemR) (fl : List FloatR) (p : Nat) (h : H) : Prop where
  g5 : h.get u = some ⟨false, [.int .i64 a, .int .i64 b]⟩
  g8 : h.get q = some ⟨false, [.int .i64 x0.a, .int .i64 x0.b, .int .i64 x0.c]⟩
  g9 : h.get (q + 1) = some ⟨false, [.int .i64 x1.a, .int .i64 x1.b, .int .i64 x1.c]⟩
  g10 : h.get (q + 1 + 1) = some ⟨false, [.int .i64 y0.a, .int .i64 y0.b, .int .i64 y0.c]⟩
  g11 : h.get (q + 1 + 1 + 1) = some ⟨false, [.int .i64 y1.a, .int .i64 y1.b, .int .i64 y1.c]⟩
  m : IsMap p l fl h
  w : WF h
def IGrow (x0 x1 y0 y1 : Cnt) (a b : Int) (u q : Nat) (l : List ItemR) (fl : List FloatR) (p : Nat) (i : Nat) (s : S) (h : H) : Prop :=
  s 5 = .ptr u 0 ∧ s 7 = .ptr p 0 ∧ s 8 = .ptr q 0 ∧ s 9 = .ptr (q + 1) 0 ∧ s 10 = .ptr (q + 1 + 1) 0 ∧ s 11 = .ptr (q + 1 + 1 + 1) 0 ∧ s 12 = .int .i64 i ∧ i ≤ 3 ∧ G4 x0 x1 y0 y1 a b u q l fl p h
theorem lAnchorGrows (o o2 : Option (Nat × Nat)) (l : List ItemR) (fl : List FloatR) (a b : Int) : ∃ h', runI Try.prog TA 13 [mkS o 7 (l.map ItemR.e), mkS o2 3 (fl.map FloatR.e), .agg [.int .i64 a, .int .i64 b]] H0 = some (.bool true, h') := by
  refine true_of rfl res13 rfl ?_
  by_cases c0 : (200 : Int) < l.length
  · simp (maxSteps := 10000000) (maxDischargeDepth := 30) only [q13, r13, c0, List.length_map, awAwake21, go_sem, Nat.reduceEqDiff, ↓reduceIte, Nat.reduceAdd, Nat.reduceMul, Nat.reduceLeDiff, Nat.reduceLT, reduceCtorEq, Int.reduceToNat, Int.reduceLE, Int.reduceLT, Int.reduceEq, Int.reduceNeg, Int.reduceNe, Int.reducePow, Nat.reducePow, Nat.reduceSub, IntKind.bits]
  by_cases c1 : b < a
  · simp (maxSteps := 10000000) (maxDischargeDepth := 30) only [q13, r13, c0, c1, List.length_map, awAwake21, go_sem, Nat.reduceEqDiff, ↓reduceIte, Nat.reduceAdd, Nat.reduceMul, Nat.reduceLeDiff, Nat.reduceLT, reduceCtorEq, Int.reduceToNat, Int.reduceLE, Int.reduceLT, Int.reduceEq, Int.reduceNeg, Int.reduceNe, Int.reducePow, Nat.reducePow, Nat.reduceSub, IntKind.bits]
  simp (maxSteps := 10000000) (maxDischargeDepth := 30) only [q13, r13, c0, c1, List.length_map, go_sem, Nat.reduceEqDiff, ↓reduceIte, Nat.reduceAdd, Nat.reduceMul, Nat.reduceLeDiff, Nat.reduceLT, reduceCtorEq, Int.reduceToNat, Int.reduceLE, Int.reduceLT, Int.reduceEq, Int.reduceNeg, Int.reduceNe, Int.reducePow, Nat.reducePow, Nat.reduceSub, IntKind.bits]
  have hl : l.length ≤ 1000 := by omega
  have hab : a ≤ b := by omega
  generalize hgg : H0.alloc _ = g0
  have k0 : Keep H0 g0 := by rw [← hgg]; exact (Keep.refl H0).alloc _
  have g5 : g0.get H0.len = some ⟨false, [.int .i64 a, .int .i64 b]⟩ := by rw [← hgg]; exact get_alloc_eq _ _
  have w0 := wf0.keep k0
  clear hgg
  refine ro_vcall (cANew o o2 l fl hl g0 w0) (fun v h1 J => ?_)
  obtain ⟨⟨p, rfl, m1⟩, k1⟩ := J
  have w1 := w0.keep k1
  have g51 := (k1.get (lt_of_get g5)).trans g5
  have n5 := numsD_le (l := l) (k := 5) (a := a) (b := b) l.length
  try (simp (maxSteps := 10000000) (maxDischargeDepth := 30) only [g51, go_sem, Nat.reduceEqDiff, ↓reduceIte, Nat.reduceAdd, Nat.reduceMul, Nat.reduceLeDiff, Nat.reduceLT, reduceCtorEq, Int.reduceToNat, Int.reduceLE, Int.reduceLT, Int.reduceEq, Int.reduceNeg, Int.reduceNe, Int.reducePow, Nat.reducePow, Nat.reduceSub, IntKind.bits])
  first
  | refine ro_kcall (cAAhead p l fl a h1 w1 m1) w1 (fun h2 k2 w2 => ?_)
  | refine rw_kcall (cAAhead p l fl a h1 w1 m1) w1 (fun h2 k2 w2 => ?_)
  | refine rw_kcallD (cAAhead p l fl a h1.up (wf_up w1) m1.up) w1 (fun h2 k2 w2 => ?_)
  have m2 := m1.next k2
  have g52 := (k2.get (lt_of_get g51)).trans g51
  simp (maxSteps := 10000000) (maxDischargeDepth := 30) only [g52, Cnt.e, go_sem, Nat.reduceEqDiff, ↓reduceIte, Nat.reduceAdd, Nat.reduceMul, Nat.reduceLeDiff, Nat.reduceLT, reduceCtorEq, Int.reduceToNat, Int.reduceLE, Int.reduceLT, Int.reduceEq, Int.reduceNeg, Int.reduceNe, Int.reducePow, Nat.reducePow, Nat.reduceSub, IntKind.bits]
  first
  | refine ro_kcall (cAAhead p l fl b h2 w2 m2) w2 (fun h3 k3 w3 => ?_)
  | refine rw_kcall (cAAhead p l fl b h2 w2 m2) w2 (fun h3 k3 w3 => ?_)
  | refine rw_kcallD (cAAhead p l fl b h2.up (wf_up w2) m2.up) w2 (fun h3 k3 w3 => ?_)
  have m3 := m2.next k3
  have g53 := (k3.get (lt_of_get g52)).trans g52
  simp (maxSteps := 10000000) (maxDischargeDepth := 30) only [g53, Cnt.e, go_sem, Nat.reduceEqDiff, ↓reduceIte, Nat.reduceAdd, Nat.reduceMul, Nat.reduceLeDiff, Nat.reduceLT, reduceCtorEq, Int.reduceToNat, Int.reduceLE, Int.reduceLT, Int.reduceEq, Int.reduceNeg, Int.reduceNe, Int.reducePow, Nat.reducePow, Nat.reduceSub, IntKind.bits]
  first
  | refine ro_kcall (cADue p l fl a h3 w3 m3) w3 (fun h4 k4 w4 => ?_)
  | refine rw_kcall (cADue p l fl a h3 w3 m3) w3 (fun h4 k4 w4 => ?_)
  | refine rw_kcallD (cADue p l fl a h3.up (wf_up w3) m3.up) w3 (fun h4 k4 w4 => ?_)
  have m4 := m3.next k4
  have g54 := (k4.get (lt_of_get g53)).trans g53
  simp (maxSteps := 10000000) (maxDischargeDepth := 30) only [g54, Cnt.e, go_sem, Nat.reduceEqDiff, ↓reduceIte, Nat.reduceAdd, Nat.reduceMul, Nat.reduceLeDiff, Nat.reduceLT, reduceCtorEq, Int.reduceToNat, Int.reduceLE, Int.reduceLT, Int.reduceEq, Int.reduceNeg, Int.reduceNe, Int.reducePow, Nat.reducePow, Nat.reduceSub, IntKind.bits]
  first
  | refine ro_kcall (cADue p l fl b h4 w4 m4) w4 (fun h5 k5 w5 => ?_)
  | refine rw_kcall (cADue p l fl b h4 w4 m4) w4 (fun h5 k5 w5 => ?_)
  | refine rw_kcallD (cADue p l fl b h4.up (wf_up w4) m4.up) w4 (fun h5 k5 w5 => ?_)
  have m5 := m4.next k5
  have g55 := (k5.get (lt_of_get g54)).trans g54
  have lo5 := w5.1
  simp (maxSteps := 10000000) (maxDischargeDepth := 30) only [g55, Cnt.e, lo5, go_sem, Nat.reduceEqDiff, ↓reduceIte, Nat.reduceAdd, Nat.reduceMul, Nat.reduceLeDiff, Nat.reduceLT, reduceCtorEq, Int.reduceToNat, Int.reduceLE, Int.reduceLT, Int.reduceEq, Int.reduceNeg, Int.reduceNe, Int.reducePow, Nat.reducePow, Nat.reduceSub, IntKind.bits]
  generalize hgg : H.put _ _ _ = g
  have kg : Keep h5 g := by rw [← hgg]; exact ((((((((Keep.refl h5).alloc _).alloc _).alloc _).alloc _).put (Nat.le_refl _) _).put (by omega) _).put (by omega) _).put (by omega) _
  have G : G4 (aheadN l fl (placeN l a)) (aheadN l fl (placeN l b)) (dueN l fl (placeN l a)) (dueN l fl (placeN l b)) a b H0.len h5.len l fl p g := by
    refine ⟨(kg.get (lt_of_get g55)).trans g55, ?_, ?_, ?_, ?_, m5.next kg, w5.keep kg⟩
    all_goals (rw [← hgg]; simp (maxSteps := 10000000) (maxDischargeDepth := 30) only [go_sem, Nat.reduceEqDiff, ↓reduceIte, Nat.reduceAdd, Nat.reduceMul, Nat.reduceLeDiff, Nat.reduceLT, reduceCtorEq, Int.reduceToNat, Int.reduceLE, Int.reduceLT, Int.reduceEq, Int.reduceNeg, Int.reduceNe, Int.reducePow, Nat.reducePow, Nat.reduceSub, IntKind.bits])
  clear hgg
  have P := placeN_mono (l := l) hab
  obtain ⟨pa, pb, pc⟩ := ahead_le (l := l) (fl := fl) P
  obtain ⟨qa, qb, qc⟩ := due_le (l := l) (fl := fl) P
  obtain ⟨ra, rb, rc⟩ := due_ahead (l := l) (fl := fl) (placeN l a)
  obtain ⟨sa, sb, sc⟩ := due_ahead (l := l) (fl := fl) (placeN l b)
  generalize aheadN l fl (placeN l a) = x0 at *
  generalize aheadN l fl (placeN l b) = x1 at *
  generalize dueN l fl (placeN l a) = y0 at *
  generalize dueN l fl (placeN l b) = y1 at *
  generalize h5.len = q at *
  generalize H0.len = u at *
  try (simp (maxSteps := 10000000) (maxDischargeDepth := 30) only [go_sem, Nat.reduceEqDiff, ↓reduceIte, Nat.reduceAdd, Nat.reduceMul, Nat.reduceLeDiff, Nat.reduceLT, reduceCtorEq, Int.reduceToNat, Int.reduceLE, Int.reduceLT, Int.reduceEq, Int.reduceNeg, Int.reduceNe, Int.reducePow, Nat.reducePow, Nat.reduceSub, IntKind.bits])
  refine ru_loop (fun i => 3 - i) (IGrow x0 x1 y0 y1 a b u q l fl p) 0 ?_ ?_
  · unfold IGrow
    simp (maxSteps := 10000000) (maxDischargeDepth := 30) only [Int.natCast_zero, go_sem, Nat.reduceEqDiff, ↓reduceIte, Nat.reduceAdd, Nat.reduceMul, Nat.reduceLeDiff, Nat.reduceLT, reduceCtorEq, Int.reduceToNat, Int.reduceLE, Int.reduceLT, Int.reduceEq, Int.reduceNeg, Int.reduceNe, Int.reducePow, Nat.reducePow, Nat.reduceSub, IntKind.bits]
    exact G
  · clear G
    rintro i s h ⟨e5, e7, e8, e9, e10, e11, e12, hi, G⟩
    have g5 := G.g5
    have g8 := G.g8
    have g9 := G.g9
    have g10 := G.g10
    have g11 := G.g11
    obtain rfl | rfl | rfl | rfl : i = 0 ∨ i = 1 ∨ i = 2 ∨ i = 3 := by omega
    · refine ru_step ?_
      have e12' : s 12 = .int .i64 0 := e12
      have d1 : ¬ x1.a < x0.a := by omega
      have d2 : ¬ y1.a < y0.a := by omega
      have d3 : ¬ x0.a < y0.a := by omega
      have d4 : ¬ x1.a < y1.a := by omega
      have ew : IntKind.i64.wrap (0 + 1) = ((1 : Nat) : Int) := by decide
      have ew2 : IntKind.i64.wrap 1 = ((1 : Nat) : Int) := by decide
      simp (maxSteps := 10000000) (maxDischargeDepth := 30) only [e5, e7, e8, e9, e10, e11, e12', g8, g9, g10, g11, d1, d2, d3, d4, ew, ew2, go_sem, Nat.reduceEqDiff, ↓reduceIte, Nat.reduceAdd, Nat.reduceMul, Nat.reduceLeDiff, Nat.reduceLT, reduceCtorEq, Int.reduceToNat, Int.reduceLE, Int.reduceLT, Int.reduceEq, Int.reduceNeg, Int.reduceNe, Int.reducePow, Nat.reducePow, Nat.reduceSub, IntKind.bits]
      refine ⟨1, by omega, ?_⟩
      unfold IGrow
      simp (maxSteps := 10000000) (maxDischargeDepth := 30) only [e5, e7, e8, e9, e10, e11, go_sem, Nat.reduceEqDiff, ↓reduceIte, Nat.reduceAdd, Nat.reduceMul, Nat.reduceLeDiff, Nat.reduceLT, reduceCtorEq, Int.reduceToNat, Int.reduceLE, Int.reduceLT, Int.reduceEq, Int.reduceNeg, Int.reduceNe, Int.reducePow, Nat.reducePow, Nat.reduceSub, IntKind.bits]
      exact G
    · refine ru_step ?_
      have e12' : s 12 = .int .i64 1 := e12
      have d1 : ¬ x1.b < x0.b := by omega
      have d2 : ¬ y1.b < y0.b := by omega
      have d3 : ¬ x0.b < y0.b := by omega
      have d4 : ¬ x1.b < y1.b := by omega
      have ew : IntKind.i64.wrap (1 + 1) = ((2 : Nat) : Int) := by decide
      have ew2 : IntKind.i64.wrap 2 = ((2 : Nat) : Int) := by decide
      simp (maxSteps := 10000000) (maxDischargeDepth := 30) only [e5, e7, e8, e9, e10, e11, e12', g8, g9, g10, g11, d1, d2, d3, d4, ew, ew2, go_sem, Nat.reduceEqDiff, ↓reduceIte, Nat.reduceAdd, Nat.reduceMul, Nat.reduceLeDiff, Nat.reduceLT, reduceCtorEq, Int.reduceToNat, Int.reduceLE, Int.reduceLT, Int.reduceEq, Int.reduceNeg, Int.reduceNe, Int.reducePow, Nat.reducePow, Nat.reduceSub, IntKind.bits]
      refine ⟨2, by omega, ?_⟩
      unfold IGrow
      simp (maxSteps := 10000000) (maxDischargeDepth := 30) only [e5, e7, e8, e9, e10, e11, go_sem, Nat.reduceEqDiff, ↓reduceIte, Nat.reduceAdd, Nat.reduceMul, Nat.reduceLeDiff, Nat.reduceLT, reduceCtorEq, Int.reduceToNat, Int.reduceLE, Int.reduceLT, Int.reduceEq, Int.reduceNeg, Int.reduceNe, Int.reducePow, Nat.reducePow, Nat.reduceSub, IntKind.bits]
      exact G
    · refine ru_step ?_
      have e12' : s 12 = .int .i64 2 := e12
      have d1 : ¬ x1.c < x0.c := by omega
      have d2 : ¬ y1.c < y0.c := by omega
      have d3 : ¬ x0.c < y0.c := by omega
      have d4 : ¬ x1.c < y1.c := by omega
      have ew : IntKind.i64.wrap (2 + 1) = ((3 : Nat) : Int) := by decide
      have ew2 : IntKind.i64.wrap 3 = ((3 : Nat) : Int) := by decide
      simp (maxSteps := 10000000) (maxDischargeDepth := 30) only [e5, e7, e8, e9, e10, e11, e12', g8, g9, g10, g11, d1, d2, d3, d4, ew, ew2, go_sem, Nat.reduceEqDiff, ↓reduceIte, Nat.reduceAdd, Nat.reduceMul, Nat.reduceLeDiff, Nat.reduceLT, reduceCtorEq, Int.reduceToNat, Int.reduceLE, Int.reduceLT, Int.reduceEq, Int.reduceNeg, Int.reduceNe, Int.reducePow, Nat.reducePow, Nat.reduceSub, IntKind.bits]
      refine ⟨3, by omega, ?_⟩
      unfold IGrow
      simp (maxSteps := 10000000) (maxDischargeDepth := 30) only [e5, e7, e8, e9, e10, e11, go_sem, Nat.reduceEqDiff, ↓reduceIte, Nat.reduceAdd, Nat.reduceMul, Nat.reduceLeDiff, Nat.reduceLT, reduceCtorEq, Int.reduceToNat, Int.reduceLE, Int.reduceLT, Int.reduceEq, Int.reduceNeg, Int.reduceNe, Int.reducePow, Nat.reducePow, Nat.reduceSub, IntKind.bits]
      exact G
    · have e12' : s 12 = .int .i64 3 := e12
      have w1 := G.w
      have m1 := G.m
      have g51 := g5
      have hg := nums_grow (l := l) hab
      have bb := begunN_ok (l := l) (placeN l b)
      have ba := begunN_ok (l := l) (placeN l a)
      have hpb := placeN_le (l := l) b
      have ew : IntKind.i64.wrap (begunN l (placeN l a) + (numsD l 5 a b l.length).length) = begunN l (placeN l b) := by rw [wrap64 (by omega) (by omega)]; omega
      simp (maxSteps := 10000000) (maxDischargeDepth := 30) only [e5, e7, e12', g5, go_sem, Nat.reduceEqDiff, ↓reduceIte, Nat.reduceAdd, Nat.reduceMul, Nat.reduceLeDiff, Nat.reduceLT, reduceCtorEq, Int.reduceToNat, Int.reduceLE, Int.reduceLT, Int.reduceEq, Int.reduceNeg, Int.reduceNe, Int.reducePow, Nat.reducePow, Nat.reduceSub, IntKind.bits]
      generalize h = h1 at *
      first
      | refine ro_kcall (cABegun p l fl a h1 w1 m1) w1 (fun h2 k2 w2 => ?_)
      | refine rw_kcall (cABegun p l fl a h1 w1 m1) w1 (fun h2 k2 w2 => ?_)
      | refine rw_kcallD (cABegun p l fl a h1.up (wf_up w1) m1.up) w1 (fun h2 k2 w2 => ?_)
      have m2 := m1.next k2
      have g52 := (k2.get (lt_of_get g51)).trans g51
      simp (maxSteps := 10000000) (maxDischargeDepth := 30) only [g52, e5, e7, go_sem, Nat.reduceEqDiff, ↓reduceIte, Nat.reduceAdd, Nat.reduceMul, Nat.reduceLeDiff, Nat.reduceLT, reduceCtorEq, Int.reduceToNat, Int.reduceLE, Int.reduceLT, Int.reduceEq, Int.reduceNeg, Int.reduceNe, Int.reducePow, Nat.reducePow, Nat.reduceSub, IntKind.bits]
      first
      | refine ro_kcall (cANotes p l fl a b hl h2 w2 m2) w2 (fun h3 k3 w3 => ?_)
      | refine rw_kcall (cANotes p l fl a b hl h2 w2 m2) w2 (fun h3 k3 w3 => ?_)
      | refine rw_kcallD (cANotes p l fl a b hl h2.up (wf_up w2) m2.up) w2 (fun h3 k3 w3 => ?_)
      have m3 := m2.next k3
      have g53 := (k3.get (lt_of_get g52)).trans g52
      simp (maxSteps := 10000000) (maxDischargeDepth := 30) only [g53, List.length_map, ew, e5, e7, go_sem, Nat.reduceEqDiff, ↓reduceIte, Nat.reduceAdd, Nat.reduceMul, Nat.reduceLeDiff, Nat.reduceLT, reduceCtorEq, Int.reduceToNat, Int.reduceLE, Int.reduceLT, Int.reduceEq, Int.reduceNeg, Int.reduceNe, Int.reducePow, Nat.reducePow, Nat.reduceSub, IntKind.bits]
      first
      | refine ro_kcall (cABegun p l fl b h3 w3 m3) w3 (fun h4 k4 w4 => ?_)
      | refine rw_kcall (cABegun p l fl b h3 w3 m3) w3 (fun h4 k4 w4 => ?_)
      | refine rw_kcallD (cABegun p l fl b h3.up (wf_up w3) m3.up) w3 (fun h4 k4 w4 => ?_)
      have m4 := m3.next k4
      have g54 := (k4.get (lt_of_get g53)).trans g53
      simp (maxSteps := 10000000) (maxDischargeDepth := 30) only [g54, ew, awAwake21, go_sem, Nat.reduceEqDiff, ↓reduceIte, Nat.reduceAdd, Nat.reduceMul, Nat.reduceLeDiff, Nat.reduceLT, reduceCtorEq, Int.reduceToNat, Int.reduceLE, Int.reduceLT, Int.reduceEq, Int.reduceNeg, Int.reduceNe, Int.reducePow, Nat.reducePow, Nat.reduceSub, IntKind.bits]
end Go.LM
