import Derived.Test.YtpmpdidgbbgeeaaLmTrbR1
import Derived.Test.YtpmpdidgbbgeeaaLmTrbR2
import Derived.Test.YtpmpdidgbbgeeaaLmbPress3
namespace Go.LM
open Go.Proofs
set_option maxRecDepth 8000
set_option maxHeartbeats 4000000
set_option linter.unusedSimpArgs false

/-! ### are things the same? -/
theorem put_eq (p q : PutR) : eqSeq [some (p.k == q.k), some (p.n == q.n), some (p.l == q.l), some (p.y == q.y), some (p.h == q.h)] = some (decide (p = q)) := by
  cases p; cases q
  simp only [PutR.mk.injEq]
  rename_i a b c d e a' b' c' d' e'
  show eqSeq (some (a == a') :: [b == b', c == c', d == d', e == e'].map some) = _
  rw [eqSeq_cons]
  have hb : ∀ x y : Int, (x == y) = decide (x = y) := fun _ _ => rfl
  simp only [List.all_cons, List.all_nil, id_eq, Bool.and_true, Bool.decide_and, hb]
def ISame37 (o o2 : Option (Nat × Nat)) (a b : List PutR) (h0 : H) (i : Nat) (s : S) (h : H) : Prop :=
  s 0 = mkS o 5 (a.map PutR.e) ∧ s 1 = mkS o2 5 (b.map PutR.e) ∧ s 5 = .int .i64 i ∧ i ≤ a.length ∧ a.take i = b.take i ∧ Keep h0 h ∧ WF h
theorem cSame37 (o o2 : Option (Nat × Nat)) (a b : List PutR) (hl : a.length ≤ 1000000000) (h : H) (w : WF h) :
    runI Try.prog TA 75 [mkS o 5 (a.map PutR.e), mkS o2 5 (b.map PutR.e)] h = some (.bool (decide (a = b)), hp Try.prog TA 75 [mkS o 5 (a.map PutR.e), mkS o2 5 (b.map PutR.e)] h) := by
  refine pure_of rfl res75 rfl ?_
  by_cases hab : a.length = b.length
  rotate_left
  · have c0 : ¬ (a.length : Int) = b.length := by omega
    have d0 : decide (a = b) = false := by simp; intro e; exact hab (by rw [e])
    simp (maxSteps := 10000000) (maxDischargeDepth := 30) only [q75, r75, c0, d0, go_sem, Nat.reduceEqDiff, ↓reduceIte, Nat.reduceAdd, Nat.reduceMul, Nat.reduceLeDiff, Nat.reduceLT, reduceCtorEq, Int.reduceToNat, Int.reduceLE, Int.reduceLT, Int.reduceEq, Int.reduceNeg, Int.reduceNe, Int.reducePow, Nat.reducePow, Nat.reduceSub, IntKind.bits]
  have c0 : (a.length : Int) = b.length := by omega
  simp (maxSteps := 10000000) (maxDischargeDepth := 30) only [q75, r75, c0, go_sem, Nat.reduceEqDiff, ↓reduceIte, Nat.reduceAdd, Nat.reduceMul, Nat.reduceLeDiff, Nat.reduceLT, reduceCtorEq, Int.reduceToNat, Int.reduceLE, Int.reduceLT, Int.reduceEq, Int.reduceNeg, Int.reduceNe, Int.reducePow, Nat.reducePow, Nat.reduceSub, IntKind.bits]
  refine ru_loop (fun i => a.length - i) (ISame37 o o2 a b h) 0 ?_ ?_
  · unfold ISame37
    simp (maxSteps := 10000000) (maxDischargeDepth := 30) only [w, Int.natCast_zero, List.take_zero, go_sem, Nat.reduceEqDiff, ↓reduceIte, Nat.reduceAdd, Nat.reduceMul, Nat.reduceLeDiff, Nat.reduceLT, reduceCtorEq, Int.reduceToNat, Int.reduceLE, Int.reduceLT, Int.reduceEq, Int.reduceNeg, Int.reduceNe, Int.reducePow, Nat.reducePow, Nat.reduceSub, IntKind.bits]
  · rintro i s h1 ⟨e0, e1, e5, hi, ht, k1, w1⟩
    by_cases hlt : i < a.length
    · obtain ⟨n, hn⟩ : ∃ n, a[i]? = some n := ⟨a[i], List.getElem?_eq_getElem hlt⟩
      obtain ⟨m, hm⟩ : ∃ m, b[i]? = some m := ⟨b[i]'(by omega), List.getElem?_eq_getElem (by omega)⟩
      have ea : iaS (a.map PutR.e) (i : Int) = some (.cptr n.e) := iaS_map (Int.natCast_nonneg i) (by simpa using hn)
      have eb : iaS (b.map PutR.e) (i : Int) = some (.cptr m.e) := iaS_map (Int.natCast_nonneg i) (by simpa using hm)
      have c1 : (i : Int) < b.length := by omega
      have ew : IntKind.i64.wrap ((i : Int) + 1) = ((i + 1 : Nat) : Int) := by rw [wrap64 (by omega) (by omega)]; omega
      have pe := put_eq n m
      by_cases hnm : n = m
      · have dn : decide (n = m) = true := by simpa using hnm
        rw [dn] at pe
        simp (maxSteps := 10000000) (maxDischargeDepth := 30) only [e0, e1, e5, ea, eb, c0, c1, ew, PutR.e, pe, go_sem, Nat.reduceEqDiff, ↓reduceIte, Nat.reduceAdd, Nat.reduceMul, Nat.reduceLeDiff, Nat.reduceLT, reduceCtorEq, Int.reduceToNat, Int.reduceLE, Int.reduceLT, Int.reduceEq, Int.reduceNeg, Int.reduceNe, Int.reducePow, Nat.reducePow, Nat.reduceSub, IntKind.bits]
        refine ⟨i + 1, by omega, ?_⟩
        unfold ISame37
        simp (maxSteps := 10000000) (maxDischargeDepth := 30) only [e0, e1, e5, k1, w1, ew, go_sem, Nat.reduceEqDiff, ↓reduceIte, Nat.reduceAdd, Nat.reduceMul, Nat.reduceLeDiff, Nat.reduceLT, reduceCtorEq, Int.reduceToNat, Int.reduceLE, Int.reduceLT, Int.reduceEq, Int.reduceNeg, Int.reduceNe, Int.reducePow, Nat.reducePow, Nat.reduceSub, IntKind.bits]
        refine ⟨by omega, ?_⟩
        have := take_map_succ (f := fun x : PutR => x) hn hm (by simpa using ht) hnm
        simpa using this
      · have d0 : decide (a = b) = false := by
          simp; intro e; rw [e, hm] at hn; exact hnm (by simpa using hn.symm)
        have dn : decide (n = m) = false := by simpa using hnm
        rw [dn] at pe
        simp (maxSteps := 10000000) (maxDischargeDepth := 30) only [e0, e1, e5, ea, eb, c0, c1, PutR.e, pe, k1, d0, go_sem, Nat.reduceEqDiff, ↓reduceIte, Nat.reduceAdd, Nat.reduceMul, Nat.reduceLeDiff, Nat.reduceLT, reduceCtorEq, Int.reduceToNat, Int.reduceLE, Int.reduceLT, Int.reduceEq, Int.reduceNeg, Int.reduceNe, Int.reducePow, Nat.reducePow, Nat.reduceSub, IntKind.bits]
    · have c1 : ¬ (b.length : Int) < b.length := by omega
      obtain rfl : i = a.length := by omega
      have d0 : decide (a = b) = true := by
        rw [List.take_length, hab, List.take_length] at ht
        simpa using ht
      simp (maxSteps := 10000000) (maxDischargeDepth := 30) only [e0, e1, e5, c0, c1, k1, d0, go_sem, Nat.reduceEqDiff, ↓reduceIte, Nat.reduceAdd, Nat.reduceMul, Nat.reduceLeDiff, Nat.reduceLT, reduceCtorEq, Int.reduceToNat, Int.reduceLE, Int.reduceLT, Int.reduceEq, Int.reduceNeg, Int.reduceNe, Int.reducePow, Nat.reducePow, Nat.reduceSub, IntKind.bits]

def ISP (o o2 : Option (Nat × Nat)) (a b : List PageR) (h0 : H) (i : Nat) (s : S) (h : H) : Prop :=
  s 0 = mkS o 4 (a.map PageR.e) ∧ s 1 = mkS o2 4 (b.map PageR.e) ∧ s 5 = .int .i64 i ∧ i ≤ a.length ∧ (a.take i).map PageR.plain = (b.take i).map PageR.plain ∧ Keep h0 h ∧ WF h
def ISL (o o2 : Option (Nat × Nat)) (a b : List PageR) (p q : PageR) (h0 : H) (i k : Nat) (s : S) (h : H) : Prop :=
  s 0 = mkS o 4 (a.map PageR.e) ∧ s 1 = mkS o2 4 (b.map PageR.e) ∧ s 5 = .int .i64 i ∧ s 6 = .int .i64 k ∧ k ≤ p.lanes.length ∧ (p.lanes.take k).map LaneR.plain = (q.lanes.take k).map LaneR.plain ∧ Keep h0 h ∧ WF h
theorem cSame38 (o o2 : Option (Nat × Nat)) (a b : List PageR) (la : a.length ≤ 2000) (ha : ∀ x ∈ a, x.ok) (h : H) (w : WF h) :
    runI Try.prog TA 26 [mkS o 4 (a.map PageR.e), mkS o2 4 (b.map PageR.e)] h = some (.bool (decide (a.map PageR.plain = b.map PageR.plain)), hp Try.prog TA 26 [mkS o 4 (a.map PageR.e), mkS o2 4 (b.map PageR.e)] h) := by
  refine pure_of rfl res26 rfl ?_
  by_cases hab : a.length = b.length
  rotate_left
  · have c0 : ¬ (a.length : Int) = b.length := by omega
    have d0 : decide (a.map PageR.plain = b.map PageR.plain) = false := by
      simp only [decide_eq_false_iff_not]; intro e; have := congrArg List.length e; simp at this; exact hab this
    simp (maxSteps := 10000000) (maxDischargeDepth := 30) only [q26, r26, c0, d0, go_sem, Nat.reduceEqDiff, ↓reduceIte, Nat.reduceAdd, Nat.reduceMul, Nat.reduceLeDiff, Nat.reduceLT, reduceCtorEq, Int.reduceToNat, Int.reduceLE, Int.reduceLT, Int.reduceEq, Int.reduceNeg, Int.reduceNe, Int.reducePow, Nat.reducePow, Nat.reduceSub, IntKind.bits]
  have c0 : (a.length : Int) = b.length := by omega
  simp (maxSteps := 10000000) (maxDischargeDepth := 30) only [q26, r26, c0, go_sem, Nat.reduceEqDiff, ↓reduceIte, Nat.reduceAdd, Nat.reduceMul, Nat.reduceLeDiff, Nat.reduceLT, reduceCtorEq, Int.reduceToNat, Int.reduceLE, Int.reduceLT, Int.reduceEq, Int.reduceNeg, Int.reduceNe, Int.reducePow, Nat.reducePow, Nat.reduceSub, IntKind.bits]
  refine ru_loop (fun i => a.length - i) (ISP o o2 a b h) 0 ?_ ?_
  · unfold ISP
    simp (maxSteps := 10000000) (maxDischargeDepth := 30) only [w, Int.natCast_zero, List.take_zero, go_sem, Nat.reduceEqDiff, ↓reduceIte, Nat.reduceAdd, Nat.reduceMul, Nat.reduceLeDiff, Nat.reduceLT, reduceCtorEq, Int.reduceToNat, Int.reduceLE, Int.reduceLT, Int.reduceEq, Int.reduceNeg, Int.reduceNe, Int.reducePow, Nat.reducePow, Nat.reduceSub, IntKind.bits]
  · rintro i s h1 ⟨e0, e1, e5, hi, ht, k1, w1⟩
    by_cases hlt : i < a.length
    rotate_left
    · have c1 : ¬ (b.length : Int) < b.length := by omega
      obtain rfl : i = a.length := by omega
      have d0 : decide (a.map PageR.plain = b.map PageR.plain) = true := by
        rw [List.take_length, hab, List.take_length] at ht
        simpa using ht
      simp (maxSteps := 10000000) (maxDischargeDepth := 30) only [e0, e1, e5, c0, c1, k1, d0, go_sem, Nat.reduceEqDiff, ↓reduceIte, Nat.reduceAdd, Nat.reduceMul, Nat.reduceLeDiff, Nat.reduceLT, reduceCtorEq, Int.reduceToNat, Int.reduceLE, Int.reduceLT, Int.reduceEq, Int.reduceNeg, Int.reduceNe, Int.reducePow, Nat.reducePow, Nat.reduceSub, IntKind.bits]
    obtain ⟨p, hp⟩ : ∃ n, a[i]? = some n := ⟨a[i], List.getElem?_eq_getElem hlt⟩
    obtain ⟨q, hq⟩ : ∃ m, b[i]? = some m := ⟨b[i]'(by omega), List.getElem?_eq_getElem (by omega)⟩
    have ea : iaS (a.map PageR.e) (i : Int) = some (.cptr p.e) := iaS_map (Int.natCast_nonneg i) (by simpa using hp)
    have eb : iaS (b.map PageR.e) (i : Int) = some (.cptr q.e) := iaS_map (Int.natCast_nonneg i) (by simpa using hq)
    have c1 : (i : Int) < b.length := by omega
    have ew : IntKind.i64.wrap ((i : Int) + 1) = ((i + 1 : Nat) : Int) := by rw [wrap64 (by omega) (by omega)]; omega
    have hpl := (ha p (List.mem_of_getElem? hp)).2
    have dne : p.plain ≠ q.plain → decide (a.map PageR.plain = b.map PageR.plain) = false := fun hn => by simpa using map_ne hp hq hn
    by_cases t1 : p.top = q.top
    rotate_left
    · have d0 := dne (fun e => t1 (by simp only [PageR.plain, Prod.mk.injEq] at e; exact e.1))
      simp (maxSteps := 10000000) (maxDischargeDepth := 30) only [e0, e1, e5, ea, eb, c0, c1, PageR.e, t1, k1, d0, go_sem, Nat.reduceEqDiff, ↓reduceIte, Nat.reduceAdd, Nat.reduceMul, Nat.reduceLeDiff, Nat.reduceLT, reduceCtorEq, Int.reduceToNat, Int.reduceLE, Int.reduceLT, Int.reduceEq, Int.reduceNeg, Int.reduceNe, Int.reducePow, Nat.reducePow, Nat.reduceSub, IntKind.bits]
    by_cases t2 : p.first = q.first
    rotate_left
    · have d0 := dne (fun e => t2 (by simp only [PageR.plain, Prod.mk.injEq] at e; exact e.2.1))
      simp (maxSteps := 10000000) (maxDischargeDepth := 30) only [e0, e1, e5, ea, eb, c0, c1, PageR.e, t1, t2, k1, d0, go_sem, Nat.reduceEqDiff, ↓reduceIte, Nat.reduceAdd, Nat.reduceMul, Nat.reduceLeDiff, Nat.reduceLT, reduceCtorEq, Int.reduceToNat, Int.reduceLE, Int.reduceLT, Int.reduceEq, Int.reduceNeg, Int.reduceNe, Int.reducePow, Nat.reducePow, Nat.reduceSub, IntKind.bits]
    by_cases t3 : p.last = q.last
    rotate_left
    · have d0 := dne (fun e => t3 (by simp only [PageR.plain, Prod.mk.injEq] at e; exact e.2.2.1))
      simp (maxSteps := 10000000) (maxDischargeDepth := 30) only [e0, e1, e5, ea, eb, c0, c1, PageR.e, t1, t2, t3, k1, d0, go_sem, Nat.reduceEqDiff, ↓reduceIte, Nat.reduceAdd, Nat.reduceMul, Nat.reduceLeDiff, Nat.reduceLT, reduceCtorEq, Int.reduceToNat, Int.reduceLE, Int.reduceLT, Int.reduceEq, Int.reduceNeg, Int.reduceNe, Int.reducePow, Nat.reducePow, Nat.reduceSub, IntKind.bits]
    by_cases t4 : p.lanes.length = q.lanes.length
    rotate_left
    · have d0 := dne (fun e => t4 (by simp only [PageR.plain, Prod.mk.injEq] at e; have := congrArg List.length e.2.2.2; simpa using this))
      have t5 : ¬ (p.lanes.length : Int) = q.lanes.length := by omega
      simp (maxSteps := 10000000) (maxDischargeDepth := 30) only [e0, e1, e5, ea, eb, c0, c1, PageR.e, t1, t2, t3, t5, k1, d0, go_sem, Nat.reduceEqDiff, ↓reduceIte, Nat.reduceAdd, Nat.reduceMul, Nat.reduceLeDiff, Nat.reduceLT, reduceCtorEq, Int.reduceToNat, Int.reduceLE, Int.reduceLT, Int.reduceEq, Int.reduceNeg, Int.reduceNe, Int.reducePow, Nat.reducePow, Nat.reduceSub, IntKind.bits]
    have t5 : (p.lanes.length : Int) = q.lanes.length := by omega
    simp (maxSteps := 10000000) (maxDischargeDepth := 30) only [e0, e1, e5, ea, eb, c0, c1, PageR.e, t1, t2, t3, t5, go_sem, Nat.reduceEqDiff, ↓reduceIte, Nat.reduceAdd, Nat.reduceMul, Nat.reduceLeDiff, Nat.reduceLT, reduceCtorEq, Int.reduceToNat, Int.reduceLE, Int.reduceLT, Int.reduceEq, Int.reduceNeg, Int.reduceNe, Int.reducePow, Nat.reducePow, Nat.reduceSub, IntKind.bits]
    as_aux_lemma =>
    refine ru_loop (fun k => p.lanes.length - k) (ISL o o2 a b p q h i) 0 ?_ ?_
    · unfold ISL
      simp (maxSteps := 10000000) (maxDischargeDepth := 30) only [e0, e1, e5, k1, w1, Int.natCast_zero, List.take_zero, go_sem, Nat.reduceEqDiff, ↓reduceIte, Nat.reduceAdd, Nat.reduceMul, Nat.reduceLeDiff, Nat.reduceLT, reduceCtorEq, Int.reduceToNat, Int.reduceLE, Int.reduceLT, Int.reduceEq, Int.reduceNeg, Int.reduceNe, Int.reducePow, Nat.reducePow, Nat.reduceSub, IntKind.bits]
    · rintro k s2 h2 ⟨f0, f1, f5, f6, hk, hu, k2, w2⟩
      by_cases hlt2 : k < p.lanes.length
      rotate_left
      · have c2 : ¬ (q.lanes.length : Int) < q.lanes.length := by omega
        obtain rfl : k = p.lanes.length := by omega
        have hpq : p.plain = q.plain := by
          rw [List.take_length, t4, List.take_length] at hu
          unfold PageR.plain
          rw [t1, t2, t3, hu]
        simp (maxSteps := 10000000) (maxDischargeDepth := 30) only [f0, f1, f5, f6, ea, eb, PageR.e, t5, c2, ew, go_sem, Nat.reduceEqDiff, ↓reduceIte, Nat.reduceAdd, Nat.reduceMul, Nat.reduceLeDiff, Nat.reduceLT, reduceCtorEq, Int.reduceToNat, Int.reduceLE, Int.reduceLT, Int.reduceEq, Int.reduceNeg, Int.reduceNe, Int.reducePow, Nat.reducePow, Nat.reduceSub, IntKind.bits]
        refine ⟨i + 1, by omega, ?_⟩
        unfold ISP
        simp (maxSteps := 10000000) (maxDischargeDepth := 30) only [f0, f1, f5, k2, w2, go_sem, Nat.reduceEqDiff, ↓reduceIte, Nat.reduceAdd, Nat.reduceMul, Nat.reduceLeDiff, Nat.reduceLT, reduceCtorEq, Int.reduceToNat, Int.reduceLE, Int.reduceLT, Int.reduceEq, Int.reduceNeg, Int.reduceNe, Int.reducePow, Nat.reducePow, Nat.reduceSub, IntKind.bits]
        exact ⟨by omega, take_map_succ hp hq ht hpq⟩
      obtain ⟨x, hx⟩ : ∃ n, p.lanes[k]? = some n := ⟨p.lanes[k], List.getElem?_eq_getElem hlt2⟩
      obtain ⟨y, hy⟩ : ∃ m, q.lanes[k]? = some m := ⟨q.lanes[k]'(by omega), List.getElem?_eq_getElem (by omega)⟩
      have fa : iaS (p.lanes.map LaneR.e) (k : Int) = some (.cptr x.e) := iaS_map (Int.natCast_nonneg k) (by simpa using hx)
      have fb : iaS (q.lanes.map LaneR.e) (k : Int) = some (.cptr y.e) := iaS_map (Int.natCast_nonneg k) (by simpa using hy)
      have c2 : (k : Int) < q.lanes.length := by omega
      have ew2 : IntKind.i64.wrap ((k : Int) + 1) = ((k + 1 : Nat) : Int) := by rw [wrap64 (by omega) (by omega)]; omega
      have hxl := (hpl.2 x (List.mem_of_getElem? hx)).2.1
      have dn2 : x.plain ≠ y.plain → decide (a.map PageR.plain = b.map PageR.plain) = false := fun hn => dne (fun e => by
        simp only [PageR.plain, Prod.mk.injEq] at e
        exact map_ne hx hy hn e.2.2.2)
      by_cases u1 : x.x = y.x
      rotate_left
      · have d0 := dn2 (fun e => u1 (by simp only [LaneR.plain, Prod.mk.injEq] at e; exact e.1))
        simp (maxSteps := 10000000) (maxDischargeDepth := 30) only [f0, f1, f5, f6, ea, eb, fa, fb, PageR.e, LaneR.e, t5, c2, u1, k2, d0, go_sem, Nat.reduceEqDiff, ↓reduceIte, Nat.reduceAdd, Nat.reduceMul, Nat.reduceLeDiff, Nat.reduceLT, reduceCtorEq, Int.reduceToNat, Int.reduceLE, Int.reduceLT, Int.reduceEq, Int.reduceNeg, Int.reduceNe, Int.reducePow, Nat.reducePow, Nat.reduceSub, IntKind.bits]
      have hs := cSame37 x.o y.o x.puts y.puts (by omega) h2 w2
      simp (maxSteps := 10000000) (maxDischargeDepth := 30) only [f0, f1, f5, f6, ea, eb, fa, fb, PageR.e, LaneR.e, t5, c2, u1, go_sem, Nat.reduceEqDiff, ↓reduceIte, Nat.reduceAdd, Nat.reduceMul, Nat.reduceLeDiff, Nat.reduceLT, reduceCtorEq, Int.reduceToNat, Int.reduceLE, Int.reduceLT, Int.reduceEq, Int.reduceNeg, Int.reduceNe, Int.reducePow, Nat.reducePow, Nat.reduceSub, IntKind.bits]
      refine rw_kcall hs w2 (fun h3 k3 w3 => ?_)
      by_cases u2 : x.puts = y.puts
      · have u3 : decide (x.puts = y.puts) = true := by simpa using u2
        simp (maxSteps := 10000000) (maxDischargeDepth := 30) only [f0, f1, f5, f6, u3, ew2, go_sem, Nat.reduceEqDiff, ↓reduceIte, Nat.reduceAdd, Nat.reduceMul, Nat.reduceLeDiff, Nat.reduceLT, reduceCtorEq, Int.reduceToNat, Int.reduceLE, Int.reduceLT, Int.reduceEq, Int.reduceNeg, Int.reduceNe, Int.reducePow, Nat.reducePow, Nat.reduceSub, IntKind.bits]
        refine ⟨k + 1, by omega, ?_⟩
        unfold ISL
        simp (maxSteps := 10000000) (maxDischargeDepth := 30) only [f0, f1, f5, f6, w3, go_sem, Nat.reduceEqDiff, ↓reduceIte, Nat.reduceAdd, Nat.reduceMul, Nat.reduceLeDiff, Nat.reduceLT, reduceCtorEq, Int.reduceToNat, Int.reduceLE, Int.reduceLT, Int.reduceEq, Int.reduceNeg, Int.reduceNe, Int.reducePow, Nat.reducePow, Nat.reduceSub, IntKind.bits]
        refine ⟨by omega, take_map_succ hx hy hu (by unfold LaneR.plain; rw [u1, u2]), k2.trans k3⟩
      · have u3 : decide (x.puts = y.puts) = false := by simpa using u2
        have d0 := dn2 (fun e => u2 (by simp only [LaneR.plain, Prod.mk.injEq] at e; exact e.2))
        simp (maxSteps := 10000000) (maxDischargeDepth := 30) only [f0, f1, f5, f6, u3, d0, go_sem, Nat.reduceEqDiff, ↓reduceIte, Nat.reduceAdd, Nat.reduceMul, Nat.reduceLeDiff, Nat.reduceLT, reduceCtorEq, Int.reduceToNat, Int.reduceLE, Int.reduceLT, Int.reduceEq, Int.reduceNeg, Int.reduceNe, Int.reducePow, Nat.reducePow, Nat.reduceSub, IntKind.bits]
        exact k2.trans k3
end Go.LM
