import Derived.Test.YtpmpdidgbbgeeaaLmTrbR2
import Derived.Test.YtpmpdidgbbgeeaaLmTrbR3
import Derived.Test.YtpmpdidgbbgeeaaLmbEncode7
import Derived.Test.YtpmpdidgbbgeeaaLmB21
namespace Go.LM
open Go.Proofs
set_option maxRecDepth 8000
set_option maxHeartbeats 4000000
set_option linter.unusedSimpArgs false

/-! ### are jobs the same? -/
theorem float_eq (p q : FloatR) : eqSeq [some (p.c == q.c), some (p.h == q.h), some (p.w == q.w)] = some (decide (p = q)) := by
  cases p; cases q
  rw [eqSeq_3]
  simp only [FloatR.mk.injEq, bdec, Bool.decide_and]
theorem item_eq (p q : ItemR) : eqSeq [some (p.k == q.k), some (p.h == q.h), some (p.f == q.f), some (p.str == q.str), some (p.ord == q.ord), some (p.shr == q.shr), some (p.n == q.n)] = some (decide (p = q)) := by
  cases p; cases q
  rw [eqSeq_7]
  simp only [ItemR.mk.injEq, bdec, Bool.decide_and]
theorem beqdec (a b : Bool) : (a == b) = decide (a = b) := by cases a <;> cases b <;> rfl
theorem geom_eq (p q : GeomR) : eqSeq [some (p.c0 == q.c0), some (p.c1 == q.c1), some (p.c2 == q.c2), some (p.c3 == q.c3), some (p.c4 == q.c4), some (p.c5 == q.c5), some (p.c6 == q.c6), some (p.c7 == q.c7), some (p.c8 == q.c8), some (p.c9 == q.c9), some (p.c10 == q.c10), some (p.c11 == q.c11), some (p.c12 == q.c12), some (p.c13 == q.c13), some (p.c14 == q.c14), some (p.c15 == q.c15), some (p.c16 == q.c16), some (p.c17 == q.c17), some (p.bal == q.bal)] = some (decide (p = q)) := by
  show eqSeq (some (p.c0 == q.c0) :: [p.c1 == q.c1, p.c2 == q.c2, p.c3 == q.c3, p.c4 == q.c4, p.c5 == q.c5, p.c6 == q.c6, p.c7 == q.c7, p.c8 == q.c8, p.c9 == q.c9, p.c10 == q.c10, p.c11 == q.c11, p.c12 == q.c12, p.c13 == q.c13, p.c14 == q.c14, p.c15 == q.c15, p.c16 == q.c16, p.c17 == q.c17, p.bal == q.bal].map some) = _
  rw [eqSeq_cons]
  cases p; cases q
  simp only [GeomR.mk.injEq, List.all_cons, List.all_nil, id_eq, Bool.and_true, Bool.decide_and, bdec, beqdec]
def ISame12 (o o2 : Option (Nat × Nat)) (a b : List FloatR) (h0 : H) (i : Nat) (s : S) (h : H) : Prop :=
  s 0 = mkS o 3 (a.map FloatR.e) ∧ s 1 = mkS o2 3 (b.map FloatR.e) ∧ s 5 = .int .i64 i ∧ i ≤ a.length ∧ a.take i = b.take i ∧ Keep h0 h ∧ WF h
theorem cRSame12 (o o2 : Option (Nat × Nat)) (a b : List FloatR) (hl : a.length ≤ 1000000000) (h : H) (w : WF h) :
    runI Try.prog TA 88 [mkS o 3 (a.map FloatR.e), mkS o2 3 (b.map FloatR.e)] h = some (.bool (decide (a = b)), hp Try.prog TA 88 [mkS o 3 (a.map FloatR.e), mkS o2 3 (b.map FloatR.e)] h) := by
  refine pure_of rfl res88 rfl ?_
  by_cases hab : a.length = b.length
  rotate_left
  · have c0 : ¬ (a.length : Int) = b.length := by omega
    have d0 : decide (a = b) = false := by simp; intro e; exact hab (by rw [e])
    simp (maxSteps := 10000000) (maxDischargeDepth := 30) only [q88, r88, c0, d0, go_sem, Nat.reduceEqDiff, ↓reduceIte, Nat.reduceAdd, Nat.reduceMul, Nat.reduceLeDiff, Nat.reduceLT, reduceCtorEq, Int.reduceToNat, Int.reduceLE, Int.reduceLT, Int.reduceEq, Int.reduceNeg, Int.reduceNe, Nat.reduceSub, IntKind.bits]
  have c0 : (a.length : Int) = b.length := by omega
  simp (maxSteps := 10000000) (maxDischargeDepth := 30) only [q88, r88, c0, go_sem, Nat.reduceEqDiff, ↓reduceIte, Nat.reduceAdd, Nat.reduceMul, Nat.reduceLeDiff, Nat.reduceLT, reduceCtorEq, Int.reduceToNat, Int.reduceLE, Int.reduceLT, Int.reduceEq, Int.reduceNeg, Int.reduceNe, Nat.reduceSub, IntKind.bits]
  refine ru_loop (fun i => a.length - i) (ISame12 o o2 a b h) 0 ?_ ?_
  · unfold ISame12
    simp (maxSteps := 10000000) (maxDischargeDepth := 30) only [w, Int.natCast_zero, List.take_zero, go_sem, Nat.reduceEqDiff, ↓reduceIte, Nat.reduceAdd, Nat.reduceMul, Nat.reduceLeDiff, Nat.reduceLT, reduceCtorEq, Int.reduceToNat, Int.reduceLE, Int.reduceLT, Int.reduceEq, Int.reduceNeg, Int.reduceNe, Nat.reduceSub, IntKind.bits]
  · rintro i s h1 ⟨e0, e1, e5, hi, ht, k1, w1⟩
    by_cases hlt : i < a.length
    · obtain ⟨n, hn⟩ : ∃ n, a[i]? = some n := ⟨a[i], List.getElem?_eq_getElem hlt⟩
      obtain ⟨m, hm⟩ : ∃ m, b[i]? = some m := ⟨b[i]'(by omega), List.getElem?_eq_getElem (by omega)⟩
      have ea : iaS (a.map FloatR.e) (i : Int) = some (.cptr n.e) := iaS_map (Int.natCast_nonneg i) (by simpa using hn)
      have eb : iaS (b.map FloatR.e) (i : Int) = some (.cptr m.e) := iaS_map (Int.natCast_nonneg i) (by simpa using hm)
      have c1 : (i : Int) < b.length := by omega
      have ew : IntKind.i64.wrap ((i : Int) + 1) = ((i + 1 : Nat) : Int) := by rw [wrap64 (by omega) (by omega)]; omega
      have pe := float_eq n m
      by_cases hnm : n = m
      · have dn : decide (n = m) = true := by simpa using hnm
        rw [dn] at pe
        simp (maxSteps := 10000000) (maxDischargeDepth := 30) only [e0, e1, e5, ea, eb, c0, c1, ew, FloatR.e, pe, go_sem, Nat.reduceEqDiff, ↓reduceIte, Nat.reduceAdd, Nat.reduceMul, Nat.reduceLeDiff, Nat.reduceLT, reduceCtorEq, Int.reduceToNat, Int.reduceLE, Int.reduceLT, Int.reduceEq, Int.reduceNeg, Int.reduceNe, Nat.reduceSub, IntKind.bits]
        refine ⟨i + 1, by omega, ?_⟩
        unfold ISame12
        simp (maxSteps := 10000000) (maxDischargeDepth := 30) only [e0, e1, e5, k1, w1, ew, go_sem, Nat.reduceEqDiff, ↓reduceIte, Nat.reduceAdd, Nat.reduceMul, Nat.reduceLeDiff, Nat.reduceLT, reduceCtorEq, Int.reduceToNat, Int.reduceLE, Int.reduceLT, Int.reduceEq, Int.reduceNeg, Int.reduceNe, Nat.reduceSub, IntKind.bits]
        refine ⟨by omega, ?_⟩
        have := take_map_succ (f := fun x : FloatR => x) hn hm (by simpa using ht) hnm
        simpa using this
      · have d0 : decide (a = b) = false := by
          simp; intro e; rw [e, hm] at hn; exact hnm (by simpa using hn.symm)
        have dn : decide (n = m) = false := by simpa using hnm
        rw [dn] at pe
        simp (maxSteps := 10000000) (maxDischargeDepth := 30) only [e0, e1, e5, ea, eb, c0, c1, FloatR.e, pe, k1, d0, go_sem, Nat.reduceEqDiff, ↓reduceIte, Nat.reduceAdd, Nat.reduceMul, Nat.reduceLeDiff, Nat.reduceLT, reduceCtorEq, Int.reduceToNat, Int.reduceLE, Int.reduceLT, Int.reduceEq, Int.reduceNeg, Int.reduceNe, Nat.reduceSub, IntKind.bits]
    · have c1 : ¬ (b.length : Int) < b.length := by omega
      obtain rfl : i = a.length := by omega
      have d0 : decide (a = b) = true := by
        rw [List.take_length, hab, List.take_length] at ht
        simpa using ht
      simp (maxSteps := 10000000) (maxDischargeDepth := 30) only [e0, e1, e5, c0, c1, k1, d0, go_sem, Nat.reduceEqDiff, ↓reduceIte, Nat.reduceAdd, Nat.reduceMul, Nat.reduceLeDiff, Nat.reduceLT, reduceCtorEq, Int.reduceToNat, Int.reduceLE, Int.reduceLT, Int.reduceEq, Int.reduceNeg, Int.reduceNe, Nat.reduceSub, IntKind.bits]
structure NBox (x y : NoteR) (h0 h : H) : Prop where
  a : h.get h0.len = some ⟨false, [ints x.ol x.lines, ints x.op x.pens]⟩
  b : h.get (h0.len + 1) = some ⟨false, [ints y.ol y.lines, ints y.op y.pens]⟩
  keep : Keep h0 h
def ISame11 (x y : NoteR) (h0 : H) (i : Nat) (s : S) (h : H) : Prop :=
  s 2 = .ptr h0.len 0 ∧ s 3 = .ptr (h0.len + 1) 0 ∧ s 5 = .int .i64 i ∧ i ≤ x.lines.length ∧ x.lines.take i = y.lines.take i ∧ NBox x y h0 h
def ISame11b (x y : NoteR) (h0 : H) (i : Nat) (s : S) (h : H) : Prop :=
  s 2 = .ptr h0.len 0 ∧ s 3 = .ptr (h0.len + 1) 0 ∧ s 6 = .int .i64 i ∧ i ≤ x.pens.length ∧ x.pens.take i = y.pens.take i ∧ NBox x y h0 h
theorem take_eq_succ {l m : List Int} {i : Nat} {n : Int} (hn : l[i]? = some n) (hm : m[i]? = some n) (h : l.take i = m.take i) : l.take (i + 1) = m.take (i + 1) := by
  rw [take_succ hn, take_succ hm, h]
theorem cRSame11 (x y : NoteR) (h : H) (hx : x.lines.length ≤ 1000000 ∧ x.pens.length ≤ 1000000) :
    runI Try.prog TA 110 [x.e, y.e] h = some (.bool (decide (x.plain = y.plain)), hp Try.prog TA 110 [x.e, y.e] h) := by
  refine pure_of rfl res110 rfl ?_
  have kk : ∀ c d : List LV, Keep h ((h.alloc c).alloc d) := fun c d => ((Keep.refl h).alloc c).alloc d
  have N0 : NBox x y h ((h.alloc [ints x.ol x.lines, ints x.op x.pens]).alloc [ints y.ol y.lines, ints y.op y.pens]) := ⟨by rw [get_alloc_lt (by rw [len_alloc]; omega), get_alloc_eq], by rw [show h.len + 1 = (h.alloc [ints x.ol x.lines, ints x.op x.pens]).len by rw [len_alloc], get_alloc_eq], kk _ _⟩
  have hne : ¬ (x.lines = y.lines ∧ x.pens = y.pens) → decide (x.plain = y.plain) = false := by
    intro hq
    apply decide_eq_false
    intro e
    unfold NoteR.plain at e
    simp only [Prod.mk.injEq] at e
    exact hq e
  by_cases h1 : x.lines.length = y.lines.length
  rotate_left
  · have c1 : ¬ (x.lines.length : Int) = y.lines.length := by omega
    have d0 := hne (fun q => h1 (by rw [q.1]))
    simp (maxSteps := 10000000) (maxDischargeDepth := 30) only [q110, r110, NoteR.e, List.length_map, c1, d0, kk, go_sem, Nat.reduceEqDiff, ↓reduceIte, Nat.reduceAdd, Nat.reduceMul, Nat.reduceLeDiff, Nat.reduceLT, reduceCtorEq, Int.reduceToNat, Int.reduceLE, Int.reduceLT, Int.reduceEq, Int.reduceNeg, Int.reduceNe, Nat.reduceSub, IntKind.bits]
  have c1 : (x.lines.length : Int) = y.lines.length := by omega
  by_cases h2 : x.pens.length = y.pens.length
  rotate_left
  · have c2 : ¬ (x.pens.length : Int) = y.pens.length := by omega
    have d0 := hne (fun q => h2 (by rw [q.2]))
    simp (maxSteps := 10000000) (maxDischargeDepth := 30) only [q110, r110, NoteR.e, List.length_map, c1, c2, d0, kk, go_sem, Nat.reduceEqDiff, ↓reduceIte, Nat.reduceAdd, Nat.reduceMul, Nat.reduceLeDiff, Nat.reduceLT, reduceCtorEq, Int.reduceToNat, Int.reduceLE, Int.reduceLT, Int.reduceEq, Int.reduceNeg, Int.reduceNe, Nat.reduceSub, IntKind.bits]
  have c2 : (x.pens.length : Int) = y.pens.length := by omega
  simp (maxSteps := 10000000) (maxDischargeDepth := 30) only [q110, r110, NoteR.e, List.length_map, c1, c2, go_sem, Nat.reduceEqDiff, ↓reduceIte, Nat.reduceAdd, Nat.reduceMul, Nat.reduceLeDiff, Nat.reduceLT, reduceCtorEq, Int.reduceToNat, Int.reduceLE, Int.reduceLT, Int.reduceEq, Int.reduceNeg, Int.reduceNe, Nat.reduceSub, IntKind.bits]
  refine ru_loop (fun i => x.lines.length - i) (ISame11 x y h) 0 ?_ ?_
  · unfold ISame11
    simp (maxSteps := 10000000) (maxDischargeDepth := 30) only [Int.natCast_zero, List.take_zero, go_sem, Nat.reduceEqDiff, ↓reduceIte, Nat.reduceAdd, Nat.reduceMul, Nat.reduceLeDiff, Nat.reduceLT, reduceCtorEq, Int.reduceToNat, Int.reduceLE, Int.reduceLT, Int.reduceEq, Int.reduceNeg, Int.reduceNe, Nat.reduceSub, IntKind.bits]
    exact N0
  · rintro i s hh ⟨e2, e3, e5, hi, ht, N⟩
    have ga := N.a
    have gb := N.b
    have hK := N.keep
    by_cases c3 : (i : Int) < y.lines.length
    · obtain ⟨n, hn⟩ : ∃ n, x.lines[i]? = some n := ⟨x.lines[i]'(by omega), List.getElem?_eq_getElem (by omega)⟩
      obtain ⟨m, hm⟩ : ∃ m, y.lines[i]? = some m := ⟨y.lines[i]'(by omega), List.getElem?_eq_getElem (by omega)⟩
      have ea := int_at hn
      have eb := int_at hm
      have ew : IntKind.i64.wrap ((i : Int) + 1) = ((i + 1 : Nat) : Int) := by rw [wrap64 (by omega) (by omega)]; omega
      by_cases hnm : n = m
      · subst hnm
        simp (maxSteps := 10000000) (maxDischargeDepth := 30) only [e2, e3, e5, ga, gb, List.length_map, c1, c3, ea, eb, ew, go_sem, Nat.reduceEqDiff, ↓reduceIte, Nat.reduceAdd, Nat.reduceMul, Nat.reduceLeDiff, Nat.reduceLT, reduceCtorEq, Int.reduceToNat, Int.reduceLE, Int.reduceLT, Int.reduceEq, Int.reduceNeg, Int.reduceNe, Nat.reduceSub, IntKind.bits]
        refine ⟨i + 1, by omega, ?_⟩
        unfold ISame11
        simp (maxSteps := 10000000) (maxDischargeDepth := 30) only [e2, e3, go_sem, Nat.reduceEqDiff, ↓reduceIte, Nat.reduceAdd, Nat.reduceMul, Nat.reduceLeDiff, Nat.reduceLT, reduceCtorEq, Int.reduceToNat, Int.reduceLE, Int.reduceLT, Int.reduceEq, Int.reduceNeg, Int.reduceNe, Nat.reduceSub, IntKind.bits]
        exact ⟨by omega, take_eq_succ hn hm ht, N⟩
      · have d0 := hne (fun q => hnm (by have := q.1; rw [this, hm] at hn; simpa using hn.symm))
        simp (maxSteps := 10000000) (maxDischargeDepth := 30) only [e2, e3, e5, ga, gb, List.length_map, c1, c3, ea, eb, hnm, d0, hK, go_sem, Nat.reduceEqDiff, ↓reduceIte, Nat.reduceAdd, Nat.reduceMul, Nat.reduceLeDiff, Nat.reduceLT, reduceCtorEq, Int.reduceToNat, Int.reduceLE, Int.reduceLT, Int.reduceEq, Int.reduceNeg, Int.reduceNe, Nat.reduceSub, IntKind.bits]
    · obtain rfl : i = x.lines.length := by omega
      have hle : x.lines = y.lines := by rw [List.take_length, h1, List.take_length] at ht; exact ht
      have c3' : ¬ (y.lines.length : Int) < y.lines.length := by omega
      simp (maxSteps := 10000000) (maxDischargeDepth := 30) only [e2, e3, e5, ga, gb, List.length_map, c1, c3', go_sem, Nat.reduceEqDiff, ↓reduceIte, Nat.reduceAdd, Nat.reduceMul, Nat.reduceLeDiff, Nat.reduceLT, reduceCtorEq, Int.reduceToNat, Int.reduceLE, Int.reduceLT, Int.reduceEq, Int.reduceNeg, Int.reduceNe, Nat.reduceSub, IntKind.bits]
      refine ru_loop (fun i => x.pens.length - i) (ISame11b x y h) 0 ?_ ?_
      · unfold ISame11b
        simp (maxSteps := 10000000) (maxDischargeDepth := 30) only [Int.natCast_zero, List.take_zero, e2, e3, go_sem, Nat.reduceEqDiff, ↓reduceIte, Nat.reduceAdd, Nat.reduceMul, Nat.reduceLeDiff, Nat.reduceLT, reduceCtorEq, Int.reduceToNat, Int.reduceLE, Int.reduceLT, Int.reduceEq, Int.reduceNeg, Int.reduceNe, Nat.reduceSub, IntKind.bits]
        exact N
      · clear e2 e3 e5 N ga gb hK
        rintro i s hh ⟨e2, e3, e6, hi, ht, N⟩
        have ga := N.a
        have gb := N.b
        have hK := N.keep
        by_cases c3 : (i : Int) < y.pens.length
        · obtain ⟨n, hn⟩ : ∃ n, x.pens[i]? = some n := ⟨x.pens[i]'(by omega), List.getElem?_eq_getElem (by omega)⟩
          obtain ⟨m, hm⟩ : ∃ m, y.pens[i]? = some m := ⟨y.pens[i]'(by omega), List.getElem?_eq_getElem (by omega)⟩
          have ea := int_at hn
          have eb := int_at hm
          have ew : IntKind.i64.wrap ((i : Int) + 1) = ((i + 1 : Nat) : Int) := by rw [wrap64 (by omega) (by omega)]; omega
          by_cases hnm : n = m
          · subst hnm
            simp (maxSteps := 10000000) (maxDischargeDepth := 30) only [e2, e3, e6, ga, gb, List.length_map, c2, c3, ea, eb, ew, go_sem, Nat.reduceEqDiff, ↓reduceIte, Nat.reduceAdd, Nat.reduceMul, Nat.reduceLeDiff, Nat.reduceLT, reduceCtorEq, Int.reduceToNat, Int.reduceLE, Int.reduceLT, Int.reduceEq, Int.reduceNeg, Int.reduceNe, Nat.reduceSub, IntKind.bits]
            refine ⟨i + 1, by omega, ?_⟩
            unfold ISame11b
            simp (maxSteps := 10000000) (maxDischargeDepth := 30) only [e2, e3, go_sem, Nat.reduceEqDiff, ↓reduceIte, Nat.reduceAdd, Nat.reduceMul, Nat.reduceLeDiff, Nat.reduceLT, reduceCtorEq, Int.reduceToNat, Int.reduceLE, Int.reduceLT, Int.reduceEq, Int.reduceNeg, Int.reduceNe, Nat.reduceSub, IntKind.bits]
            exact ⟨by omega, take_eq_succ hn hm ht, N⟩
          · have d0 := hne (fun q => hnm (by have := q.2; rw [this, hm] at hn; simpa using hn.symm))
            simp (maxSteps := 10000000) (maxDischargeDepth := 30) only [e2, e3, e6, ga, gb, List.length_map, c2, c3, ea, eb, hnm, d0, hK, go_sem, Nat.reduceEqDiff, ↓reduceIte, Nat.reduceAdd, Nat.reduceMul, Nat.reduceLeDiff, Nat.reduceLT, reduceCtorEq, Int.reduceToNat, Int.reduceLE, Int.reduceLT, Int.reduceEq, Int.reduceNeg, Int.reduceNe, Nat.reduceSub, IntKind.bits]
        · obtain rfl : i = x.pens.length := by omega
          have hpe : x.pens = y.pens := by rw [List.take_length, h2, List.take_length] at ht; exact ht
          have d0 : decide (x.plain = y.plain) = true := by
            apply decide_eq_true
            unfold NoteR.plain
            rw [hle, hpe]
          have c3' : ¬ (y.pens.length : Int) < y.pens.length := by omega
          simp (maxSteps := 10000000) (maxDischargeDepth := 30) only [e2, e3, e6, ga, gb, List.length_map, c2, c3', d0, hK, go_sem, Nat.reduceEqDiff, ↓reduceIte, Nat.reduceAdd, Nat.reduceMul, Nat.reduceLeDiff, Nat.reduceLT, reduceCtorEq, Int.reduceToNat, Int.reduceLE, Int.reduceLT, Int.reduceEq, Int.reduceNeg, Int.reduceNe, Nat.reduceSub, IntKind.bits]
def IAll11 (o o2 : Option (Nat × Nat)) (a b : List NoteR) (h0 : H) (i : Nat) (s : S) (h : H) : Prop :=
  s 0 = mkS o 2 (a.map NoteR.e) ∧ s 1 = mkS o2 2 (b.map NoteR.e) ∧ s 5 = .int .i64 i ∧ i ≤ a.length ∧ (a.take i).map NoteR.plain = (b.take i).map NoteR.plain ∧ Keep h0 h ∧ WF h
theorem cRAll11 (o o2 : Option (Nat × Nat)) (a b : List NoteR) (hl : a.length ≤ 1000000000) (ha : ∀ x ∈ a, x.lines.length ≤ 1000000 ∧ x.pens.length ≤ 1000000) (h : H) (w : WF h) :
    runI Try.prog TA 87 [mkS o 2 (a.map NoteR.e), mkS o2 2 (b.map NoteR.e)] h = some (.bool (decide (a.map NoteR.plain = b.map NoteR.plain)), hp Try.prog TA 87 [mkS o 2 (a.map NoteR.e), mkS o2 2 (b.map NoteR.e)] h) := by
  refine pure_of rfl res87 rfl ?_
  by_cases hab : a.length = b.length
  rotate_left
  · have c0 : ¬ (a.length : Int) = b.length := by omega
    have d0 : decide (a.map NoteR.plain = b.map NoteR.plain) = false := by
      apply decide_eq_false
      intro e; have := congrArg List.length e; simp at this; exact hab this
    simp (maxSteps := 10000000) (maxDischargeDepth := 30) only [q87, r87, c0, d0, go_sem, Nat.reduceEqDiff, ↓reduceIte, Nat.reduceAdd, Nat.reduceMul, Nat.reduceLeDiff, Nat.reduceLT, reduceCtorEq, Int.reduceToNat, Int.reduceLE, Int.reduceLT, Int.reduceEq, Int.reduceNeg, Int.reduceNe, Nat.reduceSub, IntKind.bits]
  have c0 : (a.length : Int) = b.length := by omega
  simp (maxSteps := 10000000) (maxDischargeDepth := 30) only [q87, r87, c0, go_sem, Nat.reduceEqDiff, ↓reduceIte, Nat.reduceAdd, Nat.reduceMul, Nat.reduceLeDiff, Nat.reduceLT, reduceCtorEq, Int.reduceToNat, Int.reduceLE, Int.reduceLT, Int.reduceEq, Int.reduceNeg, Int.reduceNe, Nat.reduceSub, IntKind.bits]
  refine ru_loop (fun i => a.length - i) (IAll11 o o2 a b h) 0 ?_ ?_
  · unfold IAll11
    simp (maxSteps := 10000000) (maxDischargeDepth := 30) only [w, Int.natCast_zero, List.take_zero, go_sem, Nat.reduceEqDiff, ↓reduceIte, Nat.reduceAdd, Nat.reduceMul, Nat.reduceLeDiff, Nat.reduceLT, reduceCtorEq, Int.reduceToNat, Int.reduceLE, Int.reduceLT, Int.reduceEq, Int.reduceNeg, Int.reduceNe, Nat.reduceSub, IntKind.bits]
  · rintro i s h1 ⟨e0, e1, e5, hi, ht, k1, w1⟩
    by_cases hlt : i < a.length
    · obtain ⟨n, hn⟩ : ∃ n, a[i]? = some n := ⟨a[i], List.getElem?_eq_getElem hlt⟩
      obtain ⟨m, hm⟩ : ∃ m, b[i]? = some m := ⟨b[i]'(by omega), List.getElem?_eq_getElem (by omega)⟩
      have ea : iaS (a.map NoteR.e) (i : Int) = some (.cptr n.e) := iaS_map (Int.natCast_nonneg i) (by simpa using hn)
      have eb : iaS (b.map NoteR.e) (i : Int) = some (.cptr m.e) := iaS_map (Int.natCast_nonneg i) (by simpa using hm)
      have c1 : (i : Int) < b.length := by omega
      have ew : IntKind.i64.wrap ((i : Int) + 1) = ((i + 1 : Nat) : Int) := by rw [wrap64 (by omega) (by omega)]; omega
      have hk := cRSame11 n m h1 (ha n (List.mem_of_getElem? hn))
      by_cases hnm : n.plain = m.plain
      · have dn : decide (n.plain = m.plain) = true := by simpa using hnm
        rw [dn] at hk
        simp (maxSteps := 10000000) (maxDischargeDepth := 30) only [e0, e1, e5, ea, eb, c0, c1, NoteR.e, go_sem, Nat.reduceEqDiff, ↓reduceIte, Nat.reduceAdd, Nat.reduceMul, Nat.reduceLeDiff, Nat.reduceLT, reduceCtorEq, Int.reduceToNat, Int.reduceLE, Int.reduceLT, Int.reduceEq, Int.reduceNeg, Int.reduceNe, Nat.reduceSub, IntKind.bits]
        first
        | refine rw_kcall hk w1 (fun h2 k2 w2 => ?_)
        | refine rw_kcallW hk w1 (fun hh kk => by simp (maxSteps := 10000000) (maxDischargeDepth := 30) only [kk.get, go_sem, Nat.reduceEqDiff, ↓reduceIte, Nat.reduceAdd, Nat.reduceMul, Nat.reduceLeDiff, Nat.reduceLT, reduceCtorEq, Int.reduceToNat, Int.reduceLE, Int.reduceLT, Int.reduceEq, Int.reduceNeg, Int.reduceNe, Nat.reduceSub, IntKind.bits]) (fun h2 k2 w2 => ?_)
        have k12 := k1.trans k2
        simp (maxSteps := 10000000) (maxDischargeDepth := 30) only [e0, e1, e5, ew, go_sem, Nat.reduceEqDiff, ↓reduceIte, Nat.reduceAdd, Nat.reduceMul, Nat.reduceLeDiff, Nat.reduceLT, reduceCtorEq, Int.reduceToNat, Int.reduceLE, Int.reduceLT, Int.reduceEq, Int.reduceNeg, Int.reduceNe, Nat.reduceSub, IntKind.bits]
        refine ⟨i + 1, by omega, ?_⟩
        unfold IAll11
        simp (maxSteps := 10000000) (maxDischargeDepth := 30) only [e0, e1, e5, k12, w2, go_sem, Nat.reduceEqDiff, ↓reduceIte, Nat.reduceAdd, Nat.reduceMul, Nat.reduceLeDiff, Nat.reduceLT, reduceCtorEq, Int.reduceToNat, Int.reduceLE, Int.reduceLT, Int.reduceEq, Int.reduceNeg, Int.reduceNe, Nat.reduceSub, IntKind.bits]
        refine ⟨by omega, ?_⟩
        exact take_map_succ hn hm ht hnm
      · have d0 : decide (a.map NoteR.plain = b.map NoteR.plain) = false := decide_eq_false (map_ne hn hm hnm)
        have dn : decide (n.plain = m.plain) = false := by simpa using hnm
        rw [dn] at hk
        simp (maxSteps := 10000000) (maxDischargeDepth := 30) only [e0, e1, e5, ea, eb, c0, c1, NoteR.e, go_sem, Nat.reduceEqDiff, ↓reduceIte, Nat.reduceAdd, Nat.reduceMul, Nat.reduceLeDiff, Nat.reduceLT, reduceCtorEq, Int.reduceToNat, Int.reduceLE, Int.reduceLT, Int.reduceEq, Int.reduceNeg, Int.reduceNe, Nat.reduceSub, IntKind.bits]
        first
        | refine rw_kcall hk w1 (fun h2 k2 w2 => ?_)
        | refine rw_kcallW hk w1 (fun hh kk => by simp (maxSteps := 10000000) (maxDischargeDepth := 30) only [kk.get, go_sem, Nat.reduceEqDiff, ↓reduceIte, Nat.reduceAdd, Nat.reduceMul, Nat.reduceLeDiff, Nat.reduceLT, reduceCtorEq, Int.reduceToNat, Int.reduceLE, Int.reduceLT, Int.reduceEq, Int.reduceNeg, Int.reduceNe, Nat.reduceSub, IntKind.bits]) (fun h2 k2 w2 => ?_)
        have k12 := k1.trans k2
        simp (maxSteps := 10000000) (maxDischargeDepth := 30) only [d0, k12, go_sem, Nat.reduceEqDiff, ↓reduceIte, Nat.reduceAdd, Nat.reduceMul, Nat.reduceLeDiff, Nat.reduceLT, reduceCtorEq, Int.reduceToNat, Int.reduceLE, Int.reduceLT, Int.reduceEq, Int.reduceNeg, Int.reduceNe, Nat.reduceSub, IntKind.bits]
    · have c1 : ¬ (b.length : Int) < b.length := by omega
      obtain rfl : i = a.length := by omega
      have d0 : decide (a.map NoteR.plain = b.map NoteR.plain) = true := by
        rw [List.take_length, hab, List.take_length] at ht
        simpa using ht
      simp (maxSteps := 10000000) (maxDischargeDepth := 30) only [e0, e1, e5, c0, c1, k1, d0, go_sem, Nat.reduceEqDiff, ↓reduceIte, Nat.reduceAdd, Nat.reduceMul, Nat.reduceLeDiff, Nat.reduceLT, reduceCtorEq, Int.reduceToNat, Int.reduceLE, Int.reduceLT, Int.reduceEq, Int.reduceNeg, Int.reduceNe, Nat.reduceSub, IntKind.bits]
end Go.LM
