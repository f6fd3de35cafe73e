import Derived.Test.YtgbhkmgmpodnkaaLmTrcR1
import Derived.Test.YtgbhkmgmpodnkaaLmcPara5
namespace Go.LM
open Go.Proofs
set_option maxRecDepth 8000
set_option maxHeartbeats 8000000
set_option linter.unusedSimpArgs false

theorem all_takeP {α : Type} {R : α → Prop} {l : List α} {i : Nat} {x : α} (hx : l[i]? = some x) (h : ∀ y ∈ l.take i, R y) (h2 : R x) : ∀ y ∈ l.take (i + 1), R y := by
  intro y hy
  rw [take_succ hx] at hy
  rcases List.mem_append.1 hy with hy | hy
  · exact h y hy
  · rw [List.mem_singleton.1 hy]; exact h2
theorem lParaPlain (g : GeomR) (o : Option (Nat × Nat)) (l : List ItemR) (b : Int) (hn : ∀ x ∈ l, x.ok) : ∃ h', runI Try.prog TA 5 [g.e, mkS o 7 (l.map ItemR.e), .int .i64 b] H0 = some (.bool true, h') := by
  refine true_of rfl res5 rfl ?_
  by_cases c0 : (200 : Int) < l.length
  · simp (maxSteps := 10000000) (maxDischargeDepth := 30) only [q5, r5, c0, List.length_map, awAwake20, GeomR.e, GeomR.cells, go_sem, Nat.reduceEqDiff, ↓reduceIte, Nat.reduceAdd, Nat.reduceMul, Nat.reduceLeDiff, Nat.reduceLT, reduceCtorEq, Int.reduceToNat, Int.reduceLE, Int.reduceLT, Int.reduceEq, Int.reduceNeg, Int.reduceNe, Int.reducePow, Nat.reducePow, Nat.reduceSub, IntKind.bits]
  have hl : l.length ≤ 1000 := by omega
  simp (maxSteps := 10000000) (maxDischargeDepth := 30) only [q5, r5, c0, List.length_map, GeomR.e, GeomR.cells, go_sem, Nat.reduceEqDiff, ↓reduceIte, Nat.reduceAdd, Nat.reduceMul, Nat.reduceLeDiff, Nat.reduceLT, reduceCtorEq, Int.reduceToNat, Int.reduceLE, Int.reduceLT, Int.reduceEq, Int.reduceNeg, Int.reduceNe, Int.reducePow, Nat.reducePow, Nat.reduceSub, IntKind.bits]
  generalize hgg : H.alloc _ _ = g0
  have k0 : Keep H0 g0 := by rw [← hgg]; exact (Keep.refl H0).alloc _
  have gg0 : g0.get H0.len = some ⟨false, [.int .i64 g.c0, .int .i64 g.c1, .int .i64 g.c2, .int .i64 g.c3, .int .i64 g.c4, .int .i64 g.c5, .int .i64 g.c6, .int .i64 g.c7, .int .i64 g.c8, .int .i64 g.c9, .int .i64 g.c10, .int .i64 g.c11, .int .i64 g.c12, .int .i64 g.c13, .int .i64 g.c14, .int .i64 g.c15, .int .i64 g.c16, .int .i64 g.c17, .bool g.bal]⟩ := by rw [← hgg]; exact get_alloc_eq _ _
  clear hgg
  have w0 := wf0.keep k0
  generalize H0.len = u at *
  refine ru_loop (fun i => l.length - i) (IPT o o l g b Bare1 u) 0 ?_ ?_
  · unfold IPT
    simp (maxSteps := 10000000) (maxDischargeDepth := 30) only [Int.natCast_zero, List.take_zero, go_sem, Nat.reduceEqDiff, ↓reduceIte, Nat.reduceAdd, Nat.reduceMul, Nat.reduceLeDiff, Nat.reduceLT, reduceCtorEq, Int.reduceToNat, Int.reduceLE, Int.reduceLT, Int.reduceEq, Int.reduceNeg, Int.reduceNe, Int.reducePow, Nat.reducePow, Nat.reduceSub, IntKind.bits]
    exact ⟨(fun x hx => by cases hx), gg0, w0⟩
  · clear gg0 w0 k0
    rintro i s hh ⟨e1, e2, e3, e7, hi, hs, gg, ww⟩
    by_cases c1 : (i : Int) < l.length
    · obtain ⟨x, hx⟩ := at_lt (l := l) (i := i) (by omega)
      have ia : iaS (l.map ItemR.e) (i : Int) = some (.cptr x.e) := iaS_map (Int.natCast_nonneg i) (by simpa using hx)
      have ew : IntKind.i64.wrap ((i : Int) + 1) = ((i + 1 : Nat) : Int) := by rw [wrap64 (by omega) (by omega)]; omega
      by_cases c2 : x.k = 1
      rotate_left
      · refine ru_step ?_
        have hs2 := all_takeP hx hs (show Bare1 x from fun q => c2 q.1)
        simp (maxSteps := 10000000) (maxDischargeDepth := 30) only [e1, e2, e3, e7, c1, List.length_map, ia, ItemR.e, c2, ew, go_sem, Nat.reduceEqDiff, ↓reduceIte, Nat.reduceAdd, Nat.reduceMul, Nat.reduceLeDiff, Nat.reduceLT, reduceCtorEq, Int.reduceToNat, Int.reduceLE, Int.reduceLT, Int.reduceEq, Int.reduceNeg, Int.reduceNe, Int.reducePow, Nat.reducePow, Nat.reduceSub, IntKind.bits]
        refine ⟨i + 1, by omega, ?_⟩
        unfold IPT
        simp (maxSteps := 10000000) (maxDischargeDepth := 30) only [e1, e2, e3, go_sem, Nat.reduceEqDiff, ↓reduceIte, Nat.reduceAdd, Nat.reduceMul, Nat.reduceLeDiff, Nat.reduceLT, reduceCtorEq, Int.reduceToNat, Int.reduceLE, Int.reduceLT, Int.reduceEq, Int.reduceNeg, Int.reduceNe, Int.reducePow, Nat.reducePow, Nat.reduceSub, IntKind.bits]
        exact ⟨by omega, hs2, gg, ww⟩
      by_cases c3 : x.f = 0
      · refine ru_step ?_
        have hs2 := all_takeP hx hs (show Bare1 x from fun q => q.2 c3)
        simp (maxSteps := 10000000) (maxDischargeDepth := 30) only [e1, e2, e3, e7, c1, List.length_map, ia, ItemR.e, c2, c3, ew, go_sem, Nat.reduceEqDiff, ↓reduceIte, Nat.reduceAdd, Nat.reduceMul, Nat.reduceLeDiff, Nat.reduceLT, reduceCtorEq, Int.reduceToNat, Int.reduceLE, Int.reduceLT, Int.reduceEq, Int.reduceNeg, Int.reduceNe, Int.reducePow, Nat.reducePow, Nat.reduceSub, IntKind.bits]
        refine ⟨i + 1, by omega, ?_⟩
        unfold IPT
        simp (maxSteps := 10000000) (maxDischargeDepth := 30) only [e1, e2, e3, go_sem, Nat.reduceEqDiff, ↓reduceIte, Nat.reduceAdd, Nat.reduceMul, Nat.reduceLeDiff, Nat.reduceLT, reduceCtorEq, Int.reduceToNat, Int.reduceLE, Int.reduceLT, Int.reduceEq, Int.reduceNeg, Int.reduceNe, Int.reducePow, Nat.reducePow, Nat.reduceSub, IntKind.bits]
        exact ⟨by omega, hs2, gg, ww⟩
      · simp (maxSteps := 10000000) (maxDischargeDepth := 30) only [e1, e2, e3, e7, c1, List.length_map, ia, ItemR.e, c2, c3, awAwake20, go_sem, Nat.reduceEqDiff, ↓reduceIte, Nat.reduceAdd, Nat.reduceMul, Nat.reduceLeDiff, Nat.reduceLT, reduceCtorEq, Int.reduceToNat, Int.reduceLE, Int.reduceLT, Int.reduceEq, Int.reduceNeg, Int.reduceNe, Int.reducePow, Nat.reducePow, Nat.reduceSub, IntKind.bits]
    · obtain rfl : i = l.length := by omega
      rw [List.take_length] at hs
      obtain ⟨hc, hw⟩ := club_bare (b := b) hs
      have hf : Fits g l b := fun x hx => by
        obtain ⟨-, -, h3⟩ := itAt_some hx
        have := hn x (List.mem_of_getElem? h3) x.n (by simp [ItemR.nums])
        exact ⟨this.2, .inr ⟨hc, hw⟩⟩
      simp (maxSteps := 10000000) (maxDischargeDepth := 30) only [e1, e2, e3, e7, c1, List.length_map, go_sem, Nat.reduceEqDiff, ↓reduceIte, Nat.reduceAdd, Nat.reduceMul, Nat.reduceLeDiff, Nat.reduceLT, reduceCtorEq, Int.reduceToNat, Int.reduceLE, Int.reduceLT, Int.reduceEq, Int.reduceNeg, Int.reduceNe, Int.reducePow, Nat.reducePow, Nat.reduceSub, IntKind.bits]
      refine ro_vcall (cVNew o l hl hh ww) (fun v h1 J => ?_)
      obtain ⟨m1, k1⟩ := J
      have w1 := ww.keep k1
      have gg1 := (k1.get (lt_of_get gg)).trans gg
      simp (maxSteps := 10000000) (maxDischargeDepth := 30) only [e1, e2, e3, gg1, go_sem, Nat.reduceEqDiff, ↓reduceIte, Nat.reduceAdd, Nat.reduceMul, Nat.reduceLeDiff, Nat.reduceLT, reduceCtorEq, Int.reduceToNat, Int.reduceLE, Int.reduceLT, Int.reduceEq, Int.reduceNeg, Int.reduceNe, Int.reducePow, Nat.reducePow, Nat.reduceSub, IntKind.bits]
      refine ro_kcall (cPaOf g v l b hl hf h1 w1 m1) w1 (fun h2 k2 w2 => ?_)
      have ecost : costP g l b = match itAt l b with
        | none => 0
        | some x => if mayV l b = false ∨ forcesR x = true then 0 else if x.k = 3 then max x.n 0 else 0 := by
        unfold costP
        rw [hc, hw]
        cases itAt l b with
        | none => rfl
        | some x => simp
      cases hx : itAt l b with
      | none =>
        rw [hx] at ecost
        rw [show costP g l b = 0 from ecost]
        by_cases c2 : 0 ≤ b
        · have c3 : ¬ b < l.length := by have := itAt_none hx; omega
          simp (maxSteps := 10000000) (maxDischargeDepth := 30) only [e1, e2, e3, c2, c3, List.length_map, awAwake20, go_sem, Nat.reduceEqDiff, ↓reduceIte, Nat.reduceAdd, Nat.reduceMul, Nat.reduceLeDiff, Nat.reduceLT, reduceCtorEq, Int.reduceToNat, Int.reduceLE, Int.reduceLT, Int.reduceEq, Int.reduceNeg, Int.reduceNe, Int.reducePow, Nat.reducePow, Nat.reduceSub, IntKind.bits]
        · simp (maxSteps := 10000000) (maxDischargeDepth := 30) only [e1, e2, e3, c2, awAwake20, go_sem, Nat.reduceEqDiff, ↓reduceIte, Nat.reduceAdd, Nat.reduceMul, Nat.reduceLeDiff, Nat.reduceLT, reduceCtorEq, Int.reduceToNat, Int.reduceLE, Int.reduceLT, Int.reduceEq, Int.reduceNeg, Int.reduceNe, Int.reducePow, Nat.reducePow, Nat.reduceSub, IntKind.bits]
      | some x =>
        rw [hx] at ecost
        dsimp only at ecost
        obtain ⟨c2, c3, -⟩ := itAt_some hx
        have ia := item_atV hx
        by_cases c4 : x.k = 3
        rotate_left
        · have ec : costP g l b = 0 := by rw [ecost]; simp [c4]
          rw [ec]
          simp (maxSteps := 10000000) (maxDischargeDepth := 30) only [e1, e2, e3, c2, c3, List.length_map, ia, ItemR.e, eq_false c4, awAwake20, go_sem, Nat.reduceEqDiff, ↓reduceIte, Nat.reduceAdd, Nat.reduceMul, Nat.reduceLeDiff, Nat.reduceLT, reduceCtorEq, Int.reduceToNat, Int.reduceLE, Int.reduceLT, Int.reduceEq, Int.reduceNeg, Int.reduceNe, Int.reducePow, Nat.reducePow, Nat.reduceSub, IntKind.bits]
        have ec0 : mayV l b = true → costP g l b = max x.n 0 := by
          intro q
          rw [ecost]
          unfold forcesR
          by_cases c5 : x.n ≤ -10000
          · simp [q, c4, c5]; omega
          · simp [q, c4, c5]
        simp (maxSteps := 10000000) (maxDischargeDepth := 30) only [e1, e2, e3, c2, c3, List.length_map, ia, ItemR.e, eq_true c4, go_sem, Nat.reduceEqDiff, ↓reduceIte, Nat.reduceAdd, Nat.reduceMul, Nat.reduceLeDiff, Nat.reduceLT, reduceCtorEq, Int.reduceToNat, Int.reduceLE, Int.reduceLT, Int.reduceEq, Int.reduceNeg, Int.reduceNe, Int.reducePow, Nat.reducePow, Nat.reduceSub, IntKind.bits]
        refine ro_kcall (cRMay18 o l b hl h2 w2) w2 (fun h3 k3 w3 => ?_)
        cases hm : mayV l b
        · have ec : costP g l b = 0 := by rw [ecost]; simp [hm]
          rw [ec]
          simp (maxSteps := 10000000) (maxDischargeDepth := 30) only [e1, e2, e3, awAwake20, go_sem, Nat.reduceEqDiff, ↓reduceIte, Nat.reduceAdd, Nat.reduceMul, Nat.reduceLeDiff, Nat.reduceLT, reduceCtorEq, Int.reduceToNat, Int.reduceLE, Int.reduceLT, Int.reduceEq, Int.reduceNeg, Int.reduceNe, Int.reducePow, Nat.reducePow, Nat.reduceSub, IntKind.bits]
        · rw [ec0 hm]
          have em : max 0 x.n = max x.n 0 := by omega
          simp (maxSteps := 10000000) (maxDischargeDepth := 30) only [e1, e2, e3, ia, ItemR.e, em, awAwake20, go_sem, Nat.reduceEqDiff, ↓reduceIte, Nat.reduceAdd, Nat.reduceMul, Nat.reduceLeDiff, Nat.reduceLT, reduceCtorEq, Int.reduceToNat, Int.reduceLE, Int.reduceLT, Int.reduceEq, Int.reduceNeg, Int.reduceNe, Int.reducePow, Nat.reducePow, Nat.reduceSub, IntKind.bits]
end Go.LM
