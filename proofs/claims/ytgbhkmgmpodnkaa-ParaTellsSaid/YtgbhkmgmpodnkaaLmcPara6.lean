import Derived.Test.YtgbhkmgmpodnkaaLmTrcR1
import Derived.Test.YtgbhkmgmpodnkaaLmcPara5
namespace Go.LM
open Go.Proofs
set_option maxRecDepth 8000
set_option maxHeartbeats 8000000
set_option linter.unusedSimpArgs false

theorem all_takeP {α : Type} {R : α → Prop} {l : List α} {i : Nat} {x : α} (hx : l[i]? = some x) (h : ∀ y ∈ l.take i, R y) (h2 : R x) : ∀ y ∈ l.take (i + 1), R y := by
  intro y hy
  rw [take_succ hx] at hy
  rcases List.mem_append.1 hy with hy | hy
  · exact h y hy
  · rw [List.mem_singleton.1 hy]; exact h2
theorem lParaTells (g : GeomR) (o : Option (Nat × Nat)) (l : List ItemR) (b : Int) : ∃ h', runI Try.prog TA 4 [g.e, mkS o 7 (l.map ItemR.e), .int .i64 b] H0 = some (.bool true, h') := by
  refine true_of rfl res4 rfl ?_
  by_cases c0 : (200 : Int) < l.length
  · simp (maxSteps := 10000000) (maxDischargeDepth := 30) only [q4, r4, c0, List.length_map, awAwake20, GeomR.e, GeomR.cells, go_sem, Nat.reduceEqDiff, ↓reduceIte, Nat.reduceAdd, Nat.reduceMul, Nat.reduceLeDiff, Nat.reduceLT, reduceCtorEq, Int.reduceToNat, Int.reduceLE, Int.reduceLT, Int.reduceEq, Int.reduceNeg, Int.reduceNe, Int.reducePow, Nat.reducePow, Nat.reduceSub, IntKind.bits]
  have hl : l.length ≤ 1000 := by omega
  simp (maxSteps := 10000000) (maxDischargeDepth := 30) only [q4, r4, c0, List.length_map, GeomR.e, GeomR.cells, go_sem, Nat.reduceEqDiff, ↓reduceIte, Nat.reduceAdd, Nat.reduceMul, Nat.reduceLeDiff, Nat.reduceLT, reduceCtorEq, Int.reduceToNat, Int.reduceLE, Int.reduceLT, Int.reduceEq, Int.reduceNeg, Int.reduceNe, Int.reducePow, Nat.reducePow, Nat.reduceSub, IntKind.bits]
  generalize hgg : H.alloc _ _ = g0
  have k0 : Keep H0 g0 := by rw [← hgg]; exact (Keep.refl H0).alloc _
  have gg0 : g0.get H0.len = some ⟨false, [.int .i64 g.c0, .int .i64 g.c1, .int .i64 g.c2, .int .i64 g.c3, .int .i64 g.c4, .int .i64 g.c5, .int .i64 g.c6, .int .i64 g.c7, .int .i64 g.c8, .int .i64 g.c9, .int .i64 g.c10, .int .i64 g.c11, .int .i64 g.c12, .int .i64 g.c13, .int .i64 g.c14, .int .i64 g.c15, .int .i64 g.c16, .int .i64 g.c17, .bool g.bal]⟩ := by rw [← hgg]; exact get_alloc_eq _ _
  clear hgg
  have w0 := wf0.keep k0
  generalize H0.len = u at *
  refine ru_loop (fun i => l.length - i) (IPT o o l g b Small u) 0 ?_ ?_
  · unfold IPT
    simp (maxSteps := 10000000) (maxDischargeDepth := 30) only [Int.natCast_zero, List.take_zero, go_sem, Nat.reduceEqDiff, ↓reduceIte, Nat.reduceAdd, Nat.reduceMul, Nat.reduceLeDiff, Nat.reduceLT, reduceCtorEq, Int.reduceToNat, Int.reduceLE, Int.reduceLT, Int.reduceEq, Int.reduceNeg, Int.reduceNe, Int.reducePow, Nat.reducePow, Nat.reduceSub, IntKind.bits]
    exact ⟨(fun x hx => by cases hx), gg0, w0⟩
  · clear gg0 w0 k0
    rintro i s hh ⟨e1, e2, e3, e7, hi, hs, gg, ww⟩
    by_cases c1 : (i : Int) < l.length
    · obtain ⟨x, hx⟩ := at_lt (l := l) (i := i) (by omega)
      have ia : iaS (l.map ItemR.e) (i : Int) = some (.cptr x.e) := iaS_map (Int.natCast_nonneg i) (by simpa using hx)
      by_cases c2 : 1099511627776 < x.n
      · simp (maxSteps := 10000000) (maxDischargeDepth := 30) only [e1, e2, e3, e7, c1, List.length_map, ia, ItemR.e, c2, awAwake20, go_sem, Nat.reduceEqDiff, ↓reduceIte, Nat.reduceAdd, Nat.reduceMul, Nat.reduceLeDiff, Nat.reduceLT, reduceCtorEq, Int.reduceToNat, Int.reduceLE, Int.reduceLT, Int.reduceEq, Int.reduceNeg, Int.reduceNe, Int.reducePow, Nat.reducePow, Nat.reduceSub, IntKind.bits]
      · refine ru_step ?_
        have ew : IntKind.i64.wrap ((i : Int) + 1) = ((i + 1 : Nat) : Int) := by rw [wrap64 (by omega) (by omega)]; omega
        have hs2 := all_takeP hx hs (show Small x by unfold Small; omega)
        simp (maxSteps := 10000000) (maxDischargeDepth := 30) only [e1, e2, e3, e7, c1, List.length_map, ia, ItemR.e, c2, ew, go_sem, Nat.reduceEqDiff, ↓reduceIte, Nat.reduceAdd, Nat.reduceMul, Nat.reduceLeDiff, Nat.reduceLT, reduceCtorEq, Int.reduceToNat, Int.reduceLE, Int.reduceLT, Int.reduceEq, Int.reduceNeg, Int.reduceNe, Int.reducePow, Nat.reducePow, Nat.reduceSub, IntKind.bits]
        refine ⟨i + 1, by omega, ?_⟩
        unfold IPT
        simp (maxSteps := 10000000) (maxDischargeDepth := 30) only [e1, e2, e3, go_sem, Nat.reduceEqDiff, ↓reduceIte, Nat.reduceAdd, Nat.reduceMul, Nat.reduceLeDiff, Nat.reduceLT, reduceCtorEq, Int.reduceToNat, Int.reduceLE, Int.reduceLT, Int.reduceEq, Int.reduceNeg, Int.reduceNe, Int.reducePow, Nat.reducePow, Nat.reduceSub, IntKind.bits]
        exact ⟨by omega, hs2, gg, ww⟩
    · obtain rfl : i = l.length := by omega
      rw [List.take_length] at hs
      by_cases c3 : 1099511627776 < g.c13
      · simp (maxSteps := 10000000) (maxDischargeDepth := 30) only [e1, e2, e3, e7, c1, List.length_map, gg, c3, awAwake20, go_sem, Nat.reduceEqDiff, ↓reduceIte, Nat.reduceAdd, Nat.reduceMul, Nat.reduceLeDiff, Nat.reduceLT, reduceCtorEq, Int.reduceToNat, Int.reduceLE, Int.reduceLT, Int.reduceEq, Int.reduceNeg, Int.reduceNe, Int.reducePow, Nat.reducePow, Nat.reduceSub, IntKind.bits]
      by_cases c4 : 1099511627776 < g.c14
      · simp (maxSteps := 10000000) (maxDischargeDepth := 30) only [e1, e2, e3, e7, c1, List.length_map, gg, c3, c4, awAwake20, go_sem, Nat.reduceEqDiff, ↓reduceIte, Nat.reduceAdd, Nat.reduceMul, Nat.reduceLeDiff, Nat.reduceLT, reduceCtorEq, Int.reduceToNat, Int.reduceLE, Int.reduceLT, Int.reduceEq, Int.reduceNeg, Int.reduceNe, Int.reducePow, Nat.reducePow, Nat.reduceSub, IntKind.bits]
      have hf : Fits g l b := fits_small hs (by omega) (by omega)
      simp (maxSteps := 10000000) (maxDischargeDepth := 30) only [e1, e2, e3, e7, c1, List.length_map, gg, c3, c4, go_sem, Nat.reduceEqDiff, ↓reduceIte, Nat.reduceAdd, Nat.reduceMul, Nat.reduceLeDiff, Nat.reduceLT, reduceCtorEq, Int.reduceToNat, Int.reduceLE, Int.reduceLT, Int.reduceEq, Int.reduceNeg, Int.reduceNe, Int.reducePow, Nat.reducePow, Nat.reduceSub, IntKind.bits]
      refine ro_vcall (cVNew o l hl hh ww) (fun v h1 J => ?_)
      obtain ⟨m1, k1⟩ := J
      have w1 := ww.keep k1
      have gg1 := (k1.get (lt_of_get gg)).trans gg
      have eb : ∀ x : Bool, (x == x) = true := fun x => by cases x <;> rfl
      simp (maxSteps := 10000000) (maxDischargeDepth := 30) only [e1, e2, e3, gg1, go_sem, Nat.reduceEqDiff, ↓reduceIte, Nat.reduceAdd, Nat.reduceMul, Nat.reduceLeDiff, Nat.reduceLT, reduceCtorEq, Int.reduceToNat, Int.reduceLE, Int.reduceLT, Int.reduceEq, Int.reduceNeg, Int.reduceNe, Int.reducePow, Nat.reducePow, Nat.reduceSub, IntKind.bits]
      first
      | refine ro_kcall (cPaOf g v l b hl hf h1 w1 m1) w1 (fun h2 k2 w2 => ?_)
      | refine rw_kcall (cPaOf g v l b hl hf h1 w1 m1) w1 (fun h2 k2 w2 => ?_)
      | refine rw_kcallD (cPaOf g v l b hl hf h1.up (wf_up w1) m1.up) w1 (fun h2 k2 w2 => ?_)
      have m2 := m1.next k2
      have gg2 := (k2.get (lt_of_get gg1)).trans gg1
      simp (maxSteps := 10000000) (maxDischargeDepth := 30) only [e1, e2, e3, gg2, go_sem, Nat.reduceEqDiff, ↓reduceIte, Nat.reduceAdd, Nat.reduceMul, Nat.reduceLeDiff, Nat.reduceLT, reduceCtorEq, Int.reduceToNat, Int.reduceLE, Int.reduceLT, Int.reduceEq, Int.reduceNeg, Int.reduceNe, Int.reducePow, Nat.reducePow, Nat.reduceSub, IntKind.bits]
      first
      | refine ro_kcall (cROf20 g o l b hl hf h2 w2) w2 (fun h3 k3 w3 => ?_)
      | refine rw_kcall (cROf20 g o l b hl hf h2 w2) w2 (fun h3 k3 w3 => ?_)
      | refine rw_kcallD (cROf20 g o l b hl hf h2.up (wf_up w2)) w2 (fun h3 k3 w3 => ?_)
      have m3 := m2.next k3
      have gg3 := (k3.get (lt_of_get gg2)).trans gg2
      simp (maxSteps := 10000000) (maxDischargeDepth := 30) only [e1, e2, e3, gg3, go_sem, Nat.reduceEqDiff, ↓reduceIte, Nat.reduceAdd, Nat.reduceMul, Nat.reduceLeDiff, Nat.reduceLT, reduceCtorEq, Int.reduceToNat, Int.reduceLE, Int.reduceLT, Int.reduceEq, Int.reduceNeg, Int.reduceNe, Int.reducePow, Nat.reducePow, Nat.reduceSub, IntKind.bits]
      first
      | refine ro_kcall (cPaAhead v l b hl h3 w3 m3) w3 (fun h4 k4 w4 => ?_)
      | refine rw_kcall (cPaAhead v l b hl h3 w3 m3) w3 (fun h4 k4 w4 => ?_)
      | refine rw_kcallD (cPaAhead v l b hl h3.up (wf_up w3) m3.up) w3 (fun h4 k4 w4 => ?_)
      have m4 := m3.next k4
      have gg4 := (k4.get (lt_of_get gg3)).trans gg3
      simp (maxSteps := 10000000) (maxDischargeDepth := 30) only [e1, e2, e3, gg4, go_sem, Nat.reduceEqDiff, ↓reduceIte, Nat.reduceAdd, Nat.reduceMul, Nat.reduceLeDiff, Nat.reduceLT, reduceCtorEq, Int.reduceToNat, Int.reduceLE, Int.reduceLT, Int.reduceEq, Int.reduceNeg, Int.reduceNe, Int.reducePow, Nat.reducePow, Nat.reduceSub, IntKind.bits]
      first
      | refine ro_kcall (cRAhead20 o l b hl h4 w4) w4 (fun h5 k5 w5 => ?_)
      | refine rw_kcall (cRAhead20 o l b hl h4 w4) w4 (fun h5 k5 w5 => ?_)
      | refine rw_kcallD (cRAhead20 o l b hl h4.up (wf_up w4)) w4 (fun h5 k5 w5 => ?_)
      have m5 := m4.next k5
      have gg5 := (k5.get (lt_of_get gg4)).trans gg4
      simp (maxSteps := 10000000) (maxDischargeDepth := 30) only [e1, e2, e3, gg5, go_sem, Nat.reduceEqDiff, ↓reduceIte, Nat.reduceAdd, Nat.reduceMul, Nat.reduceLeDiff, Nat.reduceLT, reduceCtorEq, Int.reduceToNat, Int.reduceLE, Int.reduceLT, Int.reduceEq, Int.reduceNeg, Int.reduceNe, Int.reducePow, Nat.reducePow, Nat.reduceSub, IntKind.bits]
      first
      | refine ro_kcall (cPaBehind v l b hl h5 w5 m5) w5 (fun h6 k6 w6 => ?_)
      | refine rw_kcall (cPaBehind v l b hl h5 w5 m5) w5 (fun h6 k6 w6 => ?_)
      | refine rw_kcallD (cPaBehind v l b hl h5.up (wf_up w5) m5.up) w5 (fun h6 k6 w6 => ?_)
      have m6 := m5.next k6
      have gg6 := (k6.get (lt_of_get gg5)).trans gg5
      simp (maxSteps := 10000000) (maxDischargeDepth := 30) only [e1, e2, e3, gg6, go_sem, Nat.reduceEqDiff, ↓reduceIte, Nat.reduceAdd, Nat.reduceMul, Nat.reduceLeDiff, Nat.reduceLT, reduceCtorEq, Int.reduceToNat, Int.reduceLE, Int.reduceLT, Int.reduceEq, Int.reduceNeg, Int.reduceNe, Int.reducePow, Nat.reducePow, Nat.reduceSub, IntKind.bits]
      first
      | refine ro_kcall (cRBehind20 o l b hl h6 w6) w6 (fun h7 k7 w7 => ?_)
      | refine rw_kcall (cRBehind20 o l b hl h6 w6) w6 (fun h7 k7 w7 => ?_)
      | refine rw_kcallD (cRBehind20 o l b hl h6.up (wf_up w6)) w6 (fun h7 k7 w7 => ?_)
      have m7 := m6.next k7
      have gg7 := (k7.get (lt_of_get gg6)).trans gg6
      simp (maxSteps := 10000000) (maxDischargeDepth := 30) only [e1, e2, e3, gg7, go_sem, Nat.reduceEqDiff, ↓reduceIte, Nat.reduceAdd, Nat.reduceMul, Nat.reduceLeDiff, Nat.reduceLT, reduceCtorEq, Int.reduceToNat, Int.reduceLE, Int.reduceLT, Int.reduceEq, Int.reduceNeg, Int.reduceNe, Int.reducePow, Nat.reducePow, Nat.reduceSub, IntKind.bits]
      first
      | refine ro_kcall (cPaClub v l b hl h7 w7 m7) w7 (fun h8 k8 w8 => ?_)
      | refine rw_kcall (cPaClub v l b hl h7 w7 m7) w7 (fun h8 k8 w8 => ?_)
      | refine rw_kcallD (cPaClub v l b hl h7.up (wf_up w7) m7.up) w7 (fun h8 k8 w8 => ?_)
      have m8 := m7.next k8
      have gg8 := (k8.get (lt_of_get gg7)).trans gg7
      simp (maxSteps := 10000000) (maxDischargeDepth := 30) only [e1, e2, e3, gg8, go_sem, Nat.reduceEqDiff, ↓reduceIte, Nat.reduceAdd, Nat.reduceMul, Nat.reduceLeDiff, Nat.reduceLT, reduceCtorEq, Int.reduceToNat, Int.reduceLE, Int.reduceLT, Int.reduceEq, Int.reduceNeg, Int.reduceNe, Int.reducePow, Nat.reducePow, Nat.reduceSub, IntKind.bits]
      first
      | refine ro_kcall (cRClub20 o l b hl h8 w8) w8 (fun h9 k9 w9 => ?_)
      | refine rw_kcall (cRClub20 o l b hl h8 w8) w8 (fun h9 k9 w9 => ?_)
      | refine rw_kcallD (cRClub20 o l b hl h8.up (wf_up w8)) w8 (fun h9 k9 w9 => ?_)
      have m9 := m8.next k9
      have gg9 := (k9.get (lt_of_get gg8)).trans gg8
      simp (maxSteps := 10000000) (maxDischargeDepth := 30) only [e1, e2, e3, gg9, eb, go_sem, Nat.reduceEqDiff, ↓reduceIte, Nat.reduceAdd, Nat.reduceMul, Nat.reduceLeDiff, Nat.reduceLT, reduceCtorEq, Int.reduceToNat, Int.reduceLE, Int.reduceLT, Int.reduceEq, Int.reduceNeg, Int.reduceNe, Int.reducePow, Nat.reducePow, Nat.reduceSub, IntKind.bits]
      first
      | refine ro_kcall (cPaWidow v l b hl h9 w9 m9) w9 (fun h10 k10 w10 => ?_)
      | refine rw_kcall (cPaWidow v l b hl h9 w9 m9) w9 (fun h10 k10 w10 => ?_)
      | refine rw_kcallD (cPaWidow v l b hl h9.up (wf_up w9) m9.up) w9 (fun h10 k10 w10 => ?_)
      have m10 := m9.next k10
      have gg10 := (k10.get (lt_of_get gg9)).trans gg9
      simp (maxSteps := 10000000) (maxDischargeDepth := 30) only [e1, e2, e3, gg10, go_sem, Nat.reduceEqDiff, ↓reduceIte, Nat.reduceAdd, Nat.reduceMul, Nat.reduceLeDiff, Nat.reduceLT, reduceCtorEq, Int.reduceToNat, Int.reduceLE, Int.reduceLT, Int.reduceEq, Int.reduceNeg, Int.reduceNe, Int.reducePow, Nat.reducePow, Nat.reduceSub, IntKind.bits]
      first
      | refine ro_kcall (cRWidow20 o l b hl h10 w10) w10 (fun h11 k11 w11 => ?_)
      | refine rw_kcall (cRWidow20 o l b hl h10 w10) w10 (fun h11 k11 w11 => ?_)
      | refine rw_kcallD (cRWidow20 o l b hl h10.up (wf_up w10)) w10 (fun h11 k11 w11 => ?_)
      have m11 := m10.next k11
      have gg11 := (k11.get (lt_of_get gg10)).trans gg10
      simp (maxSteps := 10000000) (maxDischargeDepth := 30) only [e1, e2, e3, gg11, eb, awAwake20, go_sem, Nat.reduceEqDiff, ↓reduceIte, Nat.reduceAdd, Nat.reduceMul, Nat.reduceLeDiff, Nat.reduceLT, reduceCtorEq, Int.reduceToNat, Int.reduceLE, Int.reduceLT, Int.reduceEq, Int.reduceNeg, Int.reduceNe, Int.reducePow, Nat.reducePow, Nat.reduceSub, IntKind.bits]
end Go.LM
