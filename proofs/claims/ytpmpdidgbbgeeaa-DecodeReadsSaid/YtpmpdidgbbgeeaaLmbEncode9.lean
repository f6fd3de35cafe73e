import Derived.Test.YtpmpdidgbbgeeaaLmTrbR1
import Derived.Test.YtpmpdidgbbgeeaaLmTrbR2
import Derived.Test.YtpmpdidgbbgeeaaLmbEncode8
import Derived.Test.YtpmpdidgbbgeeaaLmbPress2
namespace Go.LM
open Go.Proofs
set_option maxRecDepth 8000
set_option maxHeartbeats 4000000
set_option linter.unusedSimpArgs false

structure J2 (j k : JobR) (h0 h : H) : Prop where
  a : h.get h0.len = some ⟨false, [.int .i64 j.g.c0, .int .i64 j.g.c1, .int .i64 j.g.c2, .int .i64 j.g.c3, .int .i64 j.g.c4, .int .i64 j.g.c5, .int .i64 j.g.c6, .int .i64 j.g.c7, .int .i64 j.g.c8, .int .i64 j.g.c9, .int .i64 j.g.c10, .int .i64 j.g.c11, .int .i64 j.g.c12, .int .i64 j.g.c13, .int .i64 j.g.c14, .int .i64 j.g.c15, .int .i64 j.g.c16, .int .i64 j.g.c17, .bool j.g.bal, mkS j.oi 7 (j.items.map ItemR.e), mkS j.on 2 (j.notes.map NoteR.e), mkS j.of 3 (j.floats.map FloatR.e)]⟩
  b : h.get (h0.len + 1) = some ⟨false, [.int .i64 k.g.c0, .int .i64 k.g.c1, .int .i64 k.g.c2, .int .i64 k.g.c3, .int .i64 k.g.c4, .int .i64 k.g.c5, .int .i64 k.g.c6, .int .i64 k.g.c7, .int .i64 k.g.c8, .int .i64 k.g.c9, .int .i64 k.g.c10, .int .i64 k.g.c11, .int .i64 k.g.c12, .int .i64 k.g.c13, .int .i64 k.g.c14, .int .i64 k.g.c15, .int .i64 k.g.c16, .int .i64 k.g.c17, .bool k.g.bal, mkS k.oi 7 (k.items.map ItemR.e), mkS k.on 2 (k.notes.map NoteR.e), mkS k.of 3 (k.floats.map FloatR.e)]⟩
  keep : Keep h0 h
  wf : WF h
def ISame14 (j k : JobR) (h0 : H) (i : Nat) (s : S) (h : H) : Prop :=
  s 2 = .ptr h0.len 0 ∧ s 3 = .ptr (h0.len + 1) 0 ∧ s 5 = .int .i64 i ∧ i ≤ j.items.length ∧ j.items.take i = k.items.take i ∧ J2 j k h0 h
theorem cRSame14 (j k : JobR) (h : H) (w : WF h) (oj : okJR j) :
    runI Try.prog TA 38 [j.e, k.e] h = some (.bool (decide (j.plain = k.plain)), hp Try.prog TA 38 [j.e, k.e] h) := by
  refine pure_of rfl res38 rfl ?_
  obtain ⟨hil, -⟩ := oj.items
  obtain ⟨hnl, hn⟩ := oj.notes
  obtain ⟨hfl, -⟩ := oj.floats
  have kk : ∀ c d : List LV, Keep h ((h.alloc c).alloc d) := fun c d => ((Keep.refl h).alloc c).alloc d
  have N0 : J2 j k h ((h.alloc [.int .i64 j.g.c0, .int .i64 j.g.c1, .int .i64 j.g.c2, .int .i64 j.g.c3, .int .i64 j.g.c4, .int .i64 j.g.c5, .int .i64 j.g.c6, .int .i64 j.g.c7, .int .i64 j.g.c8, .int .i64 j.g.c9, .int .i64 j.g.c10, .int .i64 j.g.c11, .int .i64 j.g.c12, .int .i64 j.g.c13, .int .i64 j.g.c14, .int .i64 j.g.c15, .int .i64 j.g.c16, .int .i64 j.g.c17, .bool j.g.bal, mkS j.oi 7 (j.items.map ItemR.e), mkS j.on 2 (j.notes.map NoteR.e), mkS j.of 3 (j.floats.map FloatR.e)]).alloc [.int .i64 k.g.c0, .int .i64 k.g.c1, .int .i64 k.g.c2, .int .i64 k.g.c3, .int .i64 k.g.c4, .int .i64 k.g.c5, .int .i64 k.g.c6, .int .i64 k.g.c7, .int .i64 k.g.c8, .int .i64 k.g.c9, .int .i64 k.g.c10, .int .i64 k.g.c11, .int .i64 k.g.c12, .int .i64 k.g.c13, .int .i64 k.g.c14, .int .i64 k.g.c15, .int .i64 k.g.c16, .int .i64 k.g.c17, .bool k.g.bal, mkS k.oi 7 (k.items.map ItemR.e), mkS k.on 2 (k.notes.map NoteR.e), mkS k.of 3 (k.floats.map FloatR.e)]) := ⟨by rw [get_alloc_lt (by rw [len_alloc]; omega), get_alloc_eq], by rw [show h.len + 1 = (h.alloc [.int .i64 j.g.c0, .int .i64 j.g.c1, .int .i64 j.g.c2, .int .i64 j.g.c3, .int .i64 j.g.c4, .int .i64 j.g.c5, .int .i64 j.g.c6, .int .i64 j.g.c7, .int .i64 j.g.c8, .int .i64 j.g.c9, .int .i64 j.g.c10, .int .i64 j.g.c11, .int .i64 j.g.c12, .int .i64 j.g.c13, .int .i64 j.g.c14, .int .i64 j.g.c15, .int .i64 j.g.c16, .int .i64 j.g.c17, .bool j.g.bal, mkS j.oi 7 (j.items.map ItemR.e), mkS j.on 2 (j.notes.map NoteR.e), mkS j.of 3 (j.floats.map FloatR.e)]).len by rw [len_alloc], get_alloc_eq], kk _ _, w.keep (kk _ _)⟩
  have hne : ¬ (j.g = k.g ∧ j.items = k.items ∧ j.notes.map NoteR.plain = k.notes.map NoteR.plain ∧ j.floats = k.floats) → decide (j.plain = k.plain) = false := by
    intro hq
    apply decide_eq_false
    intro e
    unfold JobR.plain at e
    simp only [Prod.mk.injEq] at e
    exact hq e
  by_cases h1 : j.items.length = k.items.length
  rotate_left
  · have c1 : ¬ (j.items.length : Int) = k.items.length := by omega
    have d0 := hne (fun q => h1 (by rw [q.2.1]))
    simp (maxSteps := 10000000) (maxDischargeDepth := 30) only [q38, r38, JobR.e, JobR.cells, List.length_map, c1, d0, kk, go_sem, Nat.reduceEqDiff, ↓reduceIte, Nat.reduceAdd, Nat.reduceMul, Nat.reduceLeDiff, Nat.reduceLT, reduceCtorEq, Int.reduceToNat, Int.reduceLE, Int.reduceLT, Int.reduceEq, Int.reduceNeg, Int.reduceNe, Nat.reduceSub, IntKind.bits]
  have c1 : (j.items.length : Int) = k.items.length := by omega
  simp (maxSteps := 10000000) (maxDischargeDepth := 30) only [q38, r38, JobR.e, JobR.cells, List.length_map, c1, go_sem, Nat.reduceEqDiff, ↓reduceIte, Nat.reduceAdd, Nat.reduceMul, Nat.reduceLeDiff, Nat.reduceLT, reduceCtorEq, Int.reduceToNat, Int.reduceLE, Int.reduceLT, Int.reduceEq, Int.reduceNeg, Int.reduceNe, Nat.reduceSub, IntKind.bits]
  refine ru_loop (fun i => j.items.length - i) (ISame14 j k h) 0 ?_ ?_
  · unfold ISame14
    simp (maxSteps := 10000000) (maxDischargeDepth := 30) only [Int.natCast_zero, List.take_zero, go_sem, Nat.reduceEqDiff, ↓reduceIte, Nat.reduceAdd, Nat.reduceMul, Nat.reduceLeDiff, Nat.reduceLT, reduceCtorEq, Int.reduceToNat, Int.reduceLE, Int.reduceLT, Int.reduceEq, Int.reduceNeg, Int.reduceNe, Nat.reduceSub, IntKind.bits]
    exact N0
  · rintro i s hh ⟨e2, e3, e5, hi, ht, N⟩
    have ga := N.a
    have gb := N.b
    have hK := N.keep
    by_cases c3 : (i : Int) < k.items.length
    · obtain ⟨n, hn⟩ : ∃ n, j.items[i]? = some n := ⟨j.items[i]'(by omega), List.getElem?_eq_getElem (by omega)⟩
      obtain ⟨m, hm⟩ : ∃ m, k.items[i]? = some m := ⟨k.items[i]'(by omega), List.getElem?_eq_getElem (by omega)⟩
      have ea : iaS (j.items.map ItemR.e) (i : Int) = some (.cptr n.e) := iaS_map (Int.natCast_nonneg i) (by simpa using hn)
      have eb : iaS (k.items.map ItemR.e) (i : Int) = some (.cptr m.e) := iaS_map (Int.natCast_nonneg i) (by simpa using hm)
      have ew : IntKind.i64.wrap ((i : Int) + 1) = ((i + 1 : Nat) : Int) := by rw [wrap64 (by omega) (by omega)]; omega
      have pe := item_eq n m
      by_cases hnm : n = m
      · have dn : decide (n = m) = true := by simpa using hnm
        rw [dn] at pe
        simp (maxSteps := 10000000) (maxDischargeDepth := 30) only [e2, e3, e5, ga, gb, List.length_map, c1, c3, ea, eb, ItemR.e, pe, ew, go_sem, Nat.reduceEqDiff, ↓reduceIte, Nat.reduceAdd, Nat.reduceMul, Nat.reduceLeDiff, Nat.reduceLT, reduceCtorEq, Int.reduceToNat, Int.reduceLE, Int.reduceLT, Int.reduceEq, Int.reduceNeg, Int.reduceNe, Nat.reduceSub, IntKind.bits]
        refine ⟨i + 1, by omega, ?_⟩
        unfold ISame14
        simp (maxSteps := 10000000) (maxDischargeDepth := 30) only [e2, e3, go_sem, Nat.reduceEqDiff, ↓reduceIte, Nat.reduceAdd, Nat.reduceMul, Nat.reduceLeDiff, Nat.reduceLT, reduceCtorEq, Int.reduceToNat, Int.reduceLE, Int.reduceLT, Int.reduceEq, Int.reduceNeg, Int.reduceNe, Nat.reduceSub, IntKind.bits]
        refine ⟨by omega, ?_, N⟩
        subst hnm
        rw [take_succ hn, take_succ hm, ht]
      · have d0 := hne (fun q => hnm (by have := q.2.1; rw [this, hm] at hn; simpa using hn.symm))
        have dn : decide (n = m) = false := by simpa using hnm
        rw [dn] at pe
        simp (maxSteps := 10000000) (maxDischargeDepth := 30) only [e2, e3, e5, ga, gb, List.length_map, c1, c3, ea, eb, ItemR.e, pe, d0, hK, go_sem, Nat.reduceEqDiff, ↓reduceIte, Nat.reduceAdd, Nat.reduceMul, Nat.reduceLeDiff, Nat.reduceLT, reduceCtorEq, Int.reduceToNat, Int.reduceLE, Int.reduceLT, Int.reduceEq, Int.reduceNeg, Int.reduceNe, Nat.reduceSub, IntKind.bits]
    · obtain rfl : i = j.items.length := by omega
      have hie : j.items = k.items := by rw [List.take_length, h1, List.take_length] at ht; exact ht
      have c3' : ¬ (k.items.length : Int) < k.items.length := by omega
      have pg := geom_eq j.g k.g
      by_cases hg : j.g = k.g
      rotate_left
      · have dg : decide (j.g = k.g) = false := by simpa using hg
        have d0 := hne (fun q => hg q.1)
        rw [dg] at pg
        simp (maxSteps := 10000000) (maxDischargeDepth := 30) only [e2, e3, e5, ga, gb, List.length_map, c1, c3', pg, d0, hK, go_sem, Nat.reduceEqDiff, ↓reduceIte, Nat.reduceAdd, Nat.reduceMul, Nat.reduceLeDiff, Nat.reduceLT, reduceCtorEq, Int.reduceToNat, Int.reduceLE, Int.reduceLT, Int.reduceEq, Int.reduceNeg, Int.reduceNe, Nat.reduceSub, IntKind.bits]
      have dg : decide (j.g = k.g) = true := by simpa using hg
      rw [dg] at pg
      simp (maxSteps := 10000000) (maxDischargeDepth := 30) only [e2, e3, e5, ga, gb, List.length_map, c1, c3', pg, go_sem, Nat.reduceEqDiff, ↓reduceIte, Nat.reduceAdd, Nat.reduceMul, Nat.reduceLeDiff, Nat.reduceLT, reduceCtorEq, Int.reduceToNat, Int.reduceLE, Int.reduceLT, Int.reduceEq, Int.reduceNeg, Int.reduceNe, Nat.reduceSub, IntKind.bits]
      refine ro_kcall (cRAll11 j.on k.on j.notes k.notes (by omega) (fun x hx => ⟨by have := (hn x hx).1; omega, by have := (hn x hx).2.1; omega⟩) hh N.wf) N.wf (fun h2 k2 w2 => ?_)
      have ga2 := (k2.get (lt_of_get ga)).trans ga
      have gb2 := (k2.get (lt_of_get gb)).trans gb
      have hK2 := hK.trans k2
      by_cases hno : j.notes.map NoteR.plain = k.notes.map NoteR.plain
      rotate_left
      · have d0 := hne (fun q => hno q.2.2.1)
        simp (maxSteps := 10000000) (maxDischargeDepth := 30) only [hno, d0, hK2, go_sem, Nat.reduceEqDiff, ↓reduceIte, Nat.reduceAdd, Nat.reduceMul, Nat.reduceLeDiff, Nat.reduceLT, reduceCtorEq, Int.reduceToNat, Int.reduceLE, Int.reduceLT, Int.reduceEq, Int.reduceNeg, Int.reduceNe, Nat.reduceSub, IntKind.bits]
      simp (maxSteps := 10000000) (maxDischargeDepth := 30) only [hno, ga2, gb2, e2, e3, go_sem, Nat.reduceEqDiff, ↓reduceIte, Nat.reduceAdd, Nat.reduceMul, Nat.reduceLeDiff, Nat.reduceLT, reduceCtorEq, Int.reduceToNat, Int.reduceLE, Int.reduceLT, Int.reduceEq, Int.reduceNeg, Int.reduceNe, Nat.reduceSub, IntKind.bits]
      refine ro_kcall (cRSame12 j.of k.of j.floats k.floats (by omega) h2 w2) w2 (fun h3 k3 w3 => ?_)
      have hK3 := hK2.trans k3
      have d0 : decide (j.plain = k.plain) = decide (j.floats = k.floats) := by
        unfold JobR.plain
        simp only [Prod.mk.injEq, hg, hie, hno, true_and]
      simp (maxSteps := 10000000) (maxDischargeDepth := 30) only [d0, hK3, go_sem, Nat.reduceEqDiff, ↓reduceIte, Nat.reduceAdd, Nat.reduceMul, Nat.reduceLeDiff, Nat.reduceLT, reduceCtorEq, Int.reduceToNat, Int.reduceLE, Int.reduceLT, Int.reduceEq, Int.reduceNeg, Int.reduceNe, Nat.reduceSub, IntKind.bits]

/-! ### are jobs too long? -/
/-- Numbers of a job. -/
abbrev JobR.num (j : JobR) : Prop := j.g.ok ∧ (∀ x ∈ j.items, x.ok) ∧ (∀ x ∈ j.notes, x.num) ∧ ∀ x ∈ j.floats, x.ok
end Go.LM
