import Derived.Test.YtgbhkmgmpodnkaaLmTrcR1
import Derived.Test.YtgbhkmgmpodnkaaLmcTa
import Derived.Test.YtgbhkmgmpodnkaaLmB15
namespace Go.LM
open Go.Proofs
set_option maxRecDepth 8000
set_option maxHeartbeats 4000000
set_option linter.unusedSimpArgs false

theorem awAwake20 (h : H) : runI Try.prog TA 17 [] h = some (.bool true, h) := runI_known rfl
theorem item_atV {l : List ItemR} {n : Int} {x : ItemR} (hx : itAt l n = some x) : iaS (l.map ItemR.e) n = some (.cptr x.e) := by
  obtain ⟨h0, -, h2⟩ := itAt_some hx
  exact iaS_map h0 (by simpa using h2)
/-- A list of items, or none. -/
structure IsV (v : LV) (l : List ItemR) (h : H) : Prop where
  is : (v = .nilp ∧ l = []) ∨ ∃ p o, v = .ptr p 0 ∧ h.get p = some ⟨false, [mkS o 7 (l.map ItemR.e)]⟩
theorem IsV.nil (h : H) : IsV .nilp [] h := ⟨.inl ⟨rfl, rfl⟩⟩
theorem IsV.next {v : LV} {l : List ItemR} {h h' : H} (m : IsV v l h) (k : Keep h h') : IsV v l h' := by
  rcases m.is with ⟨rfl, rfl⟩ | ⟨p, o, rfl, g⟩
  · exact .nil h'
  · exact ⟨.inr ⟨p, o, rfl, (k.get (lt_of_get g)).trans g⟩⟩
theorem IsV.up {v : LV} {l : List ItemR} {h : H} (m : IsV v l h) : IsV v l h.up := by
  rcases m.is with ⟨rfl, rfl⟩ | ⟨p, o, rfl, g⟩
  · exact .nil _
  · exact ⟨.inr ⟨p, o, rfl, by rw [get_up]; exact g⟩⟩
theorem cVLen (v : LV) (l : List ItemR) (h : H) (m : IsV v l h) : runI Try.prog TA 30 [v] h = some (.int .i64 l.length, hp Try.prog TA 30 [v] h) := by
  refine pure_of rfl res30 rfl ?_
  rcases m.is with ⟨rfl, rfl⟩ | ⟨p, o, rfl, g⟩
  · simp (maxSteps := 10000000) (maxDischargeDepth := 30) only [q30, r30, List.length_nil, Int.natCast_zero, go_sem, Nat.reduceEqDiff, ↓reduceIte, Nat.reduceAdd, Nat.reduceMul, Nat.reduceLeDiff, Nat.reduceLT, reduceCtorEq, Int.reduceToNat, Int.reduceLE, Int.reduceLT, Int.reduceEq, Int.reduceNeg, Int.reduceNe, Int.reducePow, Nat.reducePow, Nat.reduceSub, IntKind.bits]
  · simp (maxSteps := 10000000) (maxDischargeDepth := 30) only [q30, r30, g, List.length_map, go_sem, Nat.reduceEqDiff, ↓reduceIte, Nat.reduceAdd, Nat.reduceMul, Nat.reduceLeDiff, Nat.reduceLT, reduceCtorEq, Int.reduceToNat, Int.reduceLE, Int.reduceLT, Int.reduceEq, Int.reduceNeg, Int.reduceNe, Int.reducePow, Nat.reducePow, Nat.reduceSub, IntKind.bits]
theorem cVAt (v : LV) (l : List ItemR) (n : Int) (h : H) (w : WF h) (m : IsV v l h) :
    runI Try.prog TA 29 [v, .int .i64 n] h = some (.tup [((itAt l n).getD itemZ).e, .bool (itAt l n).isSome], hp Try.prog TA 29 [v, .int .i64 n] h) := by
  refine pure_of rfl res29 rfl ?_
  have lo := w.1
  simp (maxSteps := 10000000) (maxDischargeDepth := 30) only [q29, r29, go_sem, Nat.reduceEqDiff, ↓reduceIte, Nat.reduceAdd, Nat.reduceMul, Nat.reduceLeDiff, Nat.reduceLT, reduceCtorEq, Int.reduceToNat, Int.reduceLE, Int.reduceLT, Int.reduceEq, Int.reduceNeg, Int.reduceNe, Int.reducePow, Nat.reducePow, Nat.reduceSub, IntKind.bits]
  generalize hgg : H.alloc _ _ = g0
  have k0 : Keep h g0 := by rw [← hgg]; exact (Keep.refl h).alloc _
  have g00 : g0.get h.len = some ⟨false, [.int .i64 0, .int .i64 0, .int .i64 0, .int .i64 0, .int .i64 0, .int .i64 0, .int .i64 0]⟩ := by rw [← hgg]; exact get_alloc_eq _ _
  clear hgg
  have w0 := w.keep k0
  have m0 := m.next k0
  have kz := k0.put (Nat.le_refl h.len) ⟨false, [.int .i64 0, .int .i64 0, .int .i64 0, .int .i64 0, .int .i64 0, .int .i64 0, .int .i64 0]⟩
  have lo0 : g0.lob ≤ h.len := by rw [k0.lob]; exact lo
  have l0 := lt_of_get g00
  by_cases c0 : n < 0
  · rw [itAt_end (.inl c0)]
    simp (maxSteps := 10000000) (maxDischargeDepth := 30) only [c0, g00, l0, lo0, kz, itemZ, ItemR.e, Option.getD_none, Option.isSome_none, go_sem, Nat.reduceEqDiff, ↓reduceIte, Nat.reduceAdd, Nat.reduceMul, Nat.reduceLeDiff, Nat.reduceLT, reduceCtorEq, Int.reduceToNat, Int.reduceLE, Int.reduceLT, Int.reduceEq, Int.reduceNeg, Int.reduceNe, Int.reducePow, Nat.reducePow, Nat.reduceSub, IntKind.bits]
  simp (maxSteps := 10000000) (maxDischargeDepth := 30) only [c0, go_sem, Nat.reduceEqDiff, ↓reduceIte, Nat.reduceAdd, Nat.reduceMul, Nat.reduceLeDiff, Nat.reduceLT, reduceCtorEq, Int.reduceToNat, Int.reduceLE, Int.reduceLT, Int.reduceEq, Int.reduceNeg, Int.reduceNe, Int.reducePow, Nat.reducePow, Nat.reduceSub, IntKind.bits]
  refine ro_kcall (cVLen v l g0 m0) w0 (fun h1 k1 w1 => ?_)
  have m1 := m0.next k1
  have g1 := (k1.get l0).trans g00
  have l1 := lt_of_get g1
  have lo1 : h1.lob ≤ h.len := by rw [k1.lob]; exact lo0
  cases hx : itAt l n with
  | none =>
    have c1 : (l.length : Int) ≤ n := by have := itAt_none hx; omega
    have kz := (k0.trans k1).put (Nat.le_refl h.len) ⟨false, [.int .i64 0, .int .i64 0, .int .i64 0, .int .i64 0, .int .i64 0, .int .i64 0, .int .i64 0]⟩
    simp (maxSteps := 10000000) (maxDischargeDepth := 30) only [c1, g1, l1, lo1, kz, itemZ, ItemR.e, Option.getD_none, Option.isSome_none, go_sem, Nat.reduceEqDiff, ↓reduceIte, Nat.reduceAdd, Nat.reduceMul, Nat.reduceLeDiff, Nat.reduceLT, reduceCtorEq, Int.reduceToNat, Int.reduceLE, Int.reduceLT, Int.reduceEq, Int.reduceNeg, Int.reduceNe, Int.reducePow, Nat.reducePow, Nat.reduceSub, IntKind.bits]
  | some x =>
    obtain ⟨-, c1, -⟩ := itAt_some hx
    have c1' : ¬ (l.length : Int) ≤ n := by omega
    have ia := item_atV hx
    have kx := (k0.trans k1).put (Nat.le_refl h.len) ⟨false, [.int .i64 x.k, .int .i64 x.h, .int .i64 x.f, .int .i64 x.str, .int .i64 x.ord, .int .i64 x.shr, .int .i64 x.n]⟩
    rcases m1.is with ⟨rfl, rfl⟩ | ⟨p, o, rfl, g⟩
    · simp only [List.length_nil] at c1; omega
    · simp (maxSteps := 10000000) (maxDischargeDepth := 30) only [c1', g, ia, ItemR.e, g1, l1, lo1, kx, Option.getD_some, Option.isSome_some, go_sem, Nat.reduceEqDiff, ↓reduceIte, Nat.reduceAdd, Nat.reduceMul, Nat.reduceLeDiff, Nat.reduceLT, reduceCtorEq, Int.reduceToNat, Int.reduceLE, Int.reduceLT, Int.reduceEq, Int.reduceNeg, Int.reduceNe, Int.reducePow, Nat.reducePow, Nat.reduceSub, IntKind.bits]
theorem cItLoose (x : ItemR) (h : H) : runI Try.prog TA 51 [x.e] h = some (.bool (looseR x), hp Try.prog TA 51 [x.e] h) := by
  refine pure_of rfl res51 rfl ?_
  unfold looseR
  have kk : ∀ c, Keep h (h.alloc c) := fun c => (Keep.refl h).alloc c
  by_cases c1 : x.k = 2
  · have c2 : (x.k = 2 ∨ x.k = 3) := .inl c1
    simp (maxSteps := 10000000) (maxDischargeDepth := 30) only [q51, r51, ItemR.e, c1, decide_eq_true c2, kk, go_sem, Nat.reduceEqDiff, ↓reduceIte, Nat.reduceAdd, Nat.reduceMul, Nat.reduceLeDiff, Nat.reduceLT, reduceCtorEq, Int.reduceToNat, Int.reduceLE, Int.reduceLT, Int.reduceEq, Int.reduceNeg, Int.reduceNe, Int.reducePow, Nat.reducePow, Nat.reduceSub, IntKind.bits]
  · by_cases c2 : x.k = 3
    · simp (maxSteps := 10000000) (maxDischargeDepth := 30) only [q51, r51, ItemR.e, c1, c2, kk, go_sem, Nat.reduceEqDiff, ↓reduceIte, Nat.reduceAdd, Nat.reduceMul, Nat.reduceLeDiff, Nat.reduceLT, reduceCtorEq, Int.reduceToNat, Int.reduceLE, Int.reduceLT, Int.reduceEq, Int.reduceNeg, Int.reduceNe, Int.reducePow, Nat.reducePow, Nat.reduceSub, IntKind.bits]
    · have c3 : ¬ (x.k = 2 ∨ x.k = 3) := by omega
      simp (maxSteps := 10000000) (maxDischargeDepth := 30) only [q51, r51, ItemR.e, c1, c2, decide_eq_false c3, kk, go_sem, Nat.reduceEqDiff, ↓reduceIte, Nat.reduceAdd, Nat.reduceMul, Nat.reduceLeDiff, Nat.reduceLT, reduceCtorEq, Int.reduceToNat, Int.reduceLE, Int.reduceLT, Int.reduceEq, Int.reduceNeg, Int.reduceNe, Int.reducePow, Nat.reducePow, Nat.reduceSub, IntKind.bits]
theorem cRLoose10 (x : ItemR) (h : H) : runI Try.prog TA 57 [x.e] h = some (.bool (looseR x), hp Try.prog TA 57 [x.e] h) := by
  refine pure_of rfl res57 rfl ?_
  unfold looseR
  have kk : ∀ c, Keep h (h.alloc c) := fun c => (Keep.refl h).alloc c
  by_cases c1 : x.k = 2
  · simp (maxSteps := 10000000) (maxDischargeDepth := 30) only [q57, r57, ItemR.e, c1, kk, go_sem, Nat.reduceEqDiff, ↓reduceIte, Nat.reduceAdd, Nat.reduceMul, Nat.reduceLeDiff, Nat.reduceLT, reduceCtorEq, Int.reduceToNat, Int.reduceLE, Int.reduceLT, Int.reduceEq, Int.reduceNeg, Int.reduceNe, Int.reducePow, Nat.reducePow, Nat.reduceSub, IntKind.bits]
  · by_cases c2 : x.k = 3
    · simp (maxSteps := 10000000) (maxDischargeDepth := 30) only [q57, r57, ItemR.e, c1, c2, kk, go_sem, Nat.reduceEqDiff, ↓reduceIte, Nat.reduceAdd, Nat.reduceMul, Nat.reduceLeDiff, Nat.reduceLT, reduceCtorEq, Int.reduceToNat, Int.reduceLE, Int.reduceLT, Int.reduceEq, Int.reduceNeg, Int.reduceNe, Int.reducePow, Nat.reducePow, Nat.reduceSub, IntKind.bits]
    · have c3 : ¬ (x.k = 2 ∨ x.k = 3) := by omega
      simp (maxSteps := 10000000) (maxDischargeDepth := 30) only [q57, r57, ItemR.e, c1, c2, decide_eq_false c3, kk, go_sem, Nat.reduceEqDiff, ↓reduceIte, Nat.reduceAdd, Nat.reduceMul, Nat.reduceLeDiff, Nat.reduceLT, reduceCtorEq, Int.reduceToNat, Int.reduceLE, Int.reduceLT, Int.reduceEq, Int.reduceNeg, Int.reduceNe, Int.reducePow, Nat.reducePow, Nat.reduceSub, IntKind.bits]
theorem cItForbids (x : ItemR) (h : H) : runI Try.prog TA 52 [x.e] h = some (.bool (forbidsR x), hp Try.prog TA 52 [x.e] h) := by
  refine pure_of rfl res52 rfl ?_
  unfold forbidsR
  have kk : ∀ c, Keep h (h.alloc c) := fun c => (Keep.refl h).alloc c
  by_cases c1 : x.k = 3
  · simp (maxSteps := 10000000) (maxDischargeDepth := 30) only [q52, r52, ItemR.e, c1, kk, go_sem, Nat.reduceEqDiff, ↓reduceIte, Nat.reduceAdd, Nat.reduceMul, Nat.reduceLeDiff, Nat.reduceLT, reduceCtorEq, Int.reduceToNat, Int.reduceLE, Int.reduceLT, Int.reduceEq, Int.reduceNeg, Int.reduceNe, Int.reducePow, Nat.reducePow, Nat.reduceSub, IntKind.bits]
  · have c3 : ¬ (x.k = 3 ∧ 10000 ≤ x.n) := fun q => c1 q.1
    simp (maxSteps := 10000000) (maxDischargeDepth := 30) only [q52, r52, ItemR.e, c1, decide_eq_false c3, kk, go_sem, Nat.reduceEqDiff, ↓reduceIte, Nat.reduceAdd, Nat.reduceMul, Nat.reduceLeDiff, Nat.reduceLT, reduceCtorEq, Int.reduceToNat, Int.reduceLE, Int.reduceLT, Int.reduceEq, Int.reduceNeg, Int.reduceNe, Int.reducePow, Nat.reducePow, Nat.reduceSub, IntKind.bits]
theorem cItForces (x : ItemR) (h : H) : runI Try.prog TA 53 [x.e] h = some (.bool (forcesR x), hp Try.prog TA 53 [x.e] h) := by
  refine pure_of rfl res53 rfl ?_
  unfold forcesR
  have kk : ∀ c, Keep h (h.alloc c) := fun c => (Keep.refl h).alloc c
  by_cases c1 : x.k = 3
  · simp (maxSteps := 10000000) (maxDischargeDepth := 30) only [q53, r53, ItemR.e, c1, kk, go_sem, Nat.reduceEqDiff, ↓reduceIte, Nat.reduceAdd, Nat.reduceMul, Nat.reduceLeDiff, Nat.reduceLT, reduceCtorEq, Int.reduceToNat, Int.reduceLE, Int.reduceLT, Int.reduceEq, Int.reduceNeg, Int.reduceNe, Int.reducePow, Nat.reducePow, Nat.reduceSub, IntKind.bits]
  · have c3 : ¬ (x.k = 3 ∧ x.n ≤ -10000) := fun q => c1 q.1
    simp (maxSteps := 10000000) (maxDischargeDepth := 30) only [q53, r53, ItemR.e, c1, decide_eq_false c3, kk, go_sem, Nat.reduceEqDiff, ↓reduceIte, Nat.reduceAdd, Nat.reduceMul, Nat.reduceLeDiff, Nat.reduceLT, reduceCtorEq, Int.reduceToNat, Int.reduceLE, Int.reduceLT, Int.reduceEq, Int.reduceNeg, Int.reduceNe, Int.reducePow, Nat.reducePow, Nat.reduceSub, IntKind.bits]
end Go.LM
