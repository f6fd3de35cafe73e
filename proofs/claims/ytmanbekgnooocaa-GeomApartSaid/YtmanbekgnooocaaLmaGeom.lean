import Derived.Test.YtmanbekgnooocaaLmaTa
import Derived.Test.YtmanbekgnooocaaLmB9
namespace Go.LM
open Go.Proofs
set_option maxRecDepth 4000
set_option maxHeartbeats 2000000
set_option linter.unusedSimpArgs false

def II (o : Option (Nat × Nat)) (l : List Int) (a b : Nat) (lo hi : Int) (h0 : H) (i : Nat) (s : S) (h : H) : Prop :=
  s 7 = ints o l ∧ s 8 = .int .i64 l.length ∧ s 9 = .int .i64 i ∧ s 1 = .ptr a 0 ∧ s 2 = .ptr b 0 ∧ i ≤ l.length ∧ Keep h0 h ∧ WF h ∧ ∀ k, k < i → ∀ x, l[k]? = some x → lo ≤ x ∧ x ≤ hi
theorem cInI (o : Option (Nat × Nat)) (l : List Int) (hl : l.length ≤ 100000) (a b : Nat) (ra rb : Bool) (lo hi : Int) (h : H) (w : WF h) (ha : h.get a = some ⟨ra, [.int .i64 lo]⟩) (hb : h.get b = some ⟨rb, [.int .i64 hi]⟩) :
    runI Try.prog TA 71 [ints o l, .ptr a 0, .ptr b 0] h = some (.bool (inR lo hi l), hp Try.prog TA 71 [ints o l, .ptr a 0, .ptr b 0] h) := by
  refine pure_of rfl res71 rfl ?_
  have la := lt_of_get ha
  have lb := lt_of_get hb
  simp (maxSteps := 10000000) (maxDischargeDepth := 30) only [q71, r71, go_sem, Nat.reduceEqDiff, ↓reduceIte, Nat.reduceAdd, Nat.reduceMul, Nat.reduceLeDiff, Nat.reduceLT, reduceCtorEq, Int.reduceToNat, Int.reduceLE, Int.reduceLT, Int.reduceEq, Int.reduceNeg, Int.reduceNe, Int.reducePow, Nat.reducePow, Nat.reduceSub, IntKind.bits]
  refine ru_loop (fun i => l.length - i) (II o l a b lo hi h) 0 ?_ ?_
  · unfold II
    simp (maxSteps := 10000000) (maxDischargeDepth := 30) only [w, Int.natCast_zero, go_sem, Nat.reduceEqDiff, ↓reduceIte, Nat.reduceAdd, Nat.reduceMul, Nat.reduceLeDiff, Nat.reduceLT, reduceCtorEq, Int.reduceToNat, Int.reduceLE, Int.reduceLT, Int.reduceEq, Int.reduceNeg, Int.reduceNe, Int.reducePow, Nat.reducePow, Nat.reduceSub, IntKind.bits]
    exact fun k hk => absurd hk (by omega)
  · rintro i s hh ⟨e7, e8, e9, e1, e2, hi', k1, w1, hall⟩
    have ga : hh.get a = some ⟨ra, [.int .i64 lo]⟩ := (k1.get la).trans ha
    have gb : hh.get b = some ⟨rb, [.int .i64 hi]⟩ := (k1.get lb).trans hb
    by_cases hlt : i < l.length
    · obtain ⟨x, hx⟩ : ∃ x, l[i]? = some x := ⟨l[i], List.getElem?_eq_getElem hlt⟩
      have ia := int_at hx
      have c1 : (i : Int) < l.length := by omega
      have ew : IntKind.i64.wrap ((i : Int) + 1) = ((i + 1 : Nat) : Int) := by rw [wrap64 (by omega) (by omega)]; omega
      by_cases hA : x < lo
      · have hR : inR lo hi l = false := by
          cases hc : inR lo hi l with
          | false => rfl
          | true => have := inR_all.1 hc x (List.mem_of_getElem? hx); omega
        simp (maxSteps := 10000000) (maxDischargeDepth := 30) only [e7, e8, e9, e1, e2, c1, ia, ga, gb, hA, hR, k1, go_sem, Nat.reduceEqDiff, ↓reduceIte, Nat.reduceAdd, Nat.reduceMul, Nat.reduceLeDiff, Nat.reduceLT, reduceCtorEq, Int.reduceToNat, Int.reduceLE, Int.reduceLT, Int.reduceEq, Int.reduceNeg, Int.reduceNe, Int.reducePow, Nat.reducePow, Nat.reduceSub, IntKind.bits]
      · by_cases hB : hi < x
        · have hR : inR lo hi l = false := by
            cases hc : inR lo hi l with
            | false => rfl
            | true => have := inR_all.1 hc x (List.mem_of_getElem? hx); omega
          simp (maxSteps := 10000000) (maxDischargeDepth := 30) only [e7, e8, e9, e1, e2, c1, ia, ga, gb, hA, hB, hR, k1, go_sem, Nat.reduceEqDiff, ↓reduceIte, Nat.reduceAdd, Nat.reduceMul, Nat.reduceLeDiff, Nat.reduceLT, reduceCtorEq, Int.reduceToNat, Int.reduceLE, Int.reduceLT, Int.reduceEq, Int.reduceNeg, Int.reduceNe, Int.reducePow, Nat.reducePow, Nat.reduceSub, IntKind.bits]
        · simp (maxSteps := 10000000) (maxDischargeDepth := 30) only [e7, e8, e9, e1, e2, c1, ia, ga, gb, hA, hB, ew, go_sem, Nat.reduceEqDiff, ↓reduceIte, Nat.reduceAdd, Nat.reduceMul, Nat.reduceLeDiff, Nat.reduceLT, reduceCtorEq, Int.reduceToNat, Int.reduceLE, Int.reduceLT, Int.reduceEq, Int.reduceNeg, Int.reduceNe, Int.reducePow, Nat.reducePow, Nat.reduceSub, IntKind.bits]
          refine ⟨i + 1, by omega, ?_⟩
          unfold II
          simp (maxSteps := 10000000) (maxDischargeDepth := 30) only [e7, e8, e9, e1, e2, k1, w1, go_sem, Nat.reduceEqDiff, ↓reduceIte, Nat.reduceAdd, Nat.reduceMul, Nat.reduceLeDiff, Nat.reduceLT, reduceCtorEq, Int.reduceToNat, Int.reduceLE, Int.reduceLT, Int.reduceEq, Int.reduceNeg, Int.reduceNe, Int.reducePow, Nat.reducePow, Nat.reduceSub, IntKind.bits]
          refine ⟨by omega, fun k hk y hy => ?_⟩
          rcases Nat.lt_or_ge k i with h3 | h3
          · exact hall k h3 y hy
          · obtain rfl : k = i := by omega
            rw [hx] at hy; cases hy; omega
    · have c1 : ¬ (i : Int) < l.length := by omega
      have hR : inR lo hi l = true := by
        rw [inR_all]
        intro x hx
        obtain ⟨k, hk, rfl⟩ := List.getElem_of_mem hx
        exact hall k (by omega) _ (List.getElem?_eq_getElem hk)
      simp (maxSteps := 10000000) (maxDischargeDepth := 30) only [e7, e8, e9, e1, e2, c1, hR, k1, go_sem, Nat.reduceEqDiff, ↓reduceIte, Nat.reduceAdd, Nat.reduceMul, Nat.reduceLeDiff, Nat.reduceLT, reduceCtorEq, Int.reduceToNat, Int.reduceLE, Int.reduceLT, Int.reduceEq, Int.reduceNeg, Int.reduceNe, Int.reducePow, Nat.reducePow, Nat.reduceSub, IntKind.bits]
theorem cInS (o : Option (Nat × Nat)) (l : List Int) (hl : l.length ≤ 100000) (a b : Nat) (ra rb : Bool) (lo hi : Int) (h : H) (w : WF h) (ha : h.get a = some ⟨ra, [.int .i64 lo]⟩) (hb : h.get b = some ⟨rb, [.int .i64 hi]⟩) :
    runI Try.prog TA 72 [ints o l, .ptr a 0, .ptr b 0] h = some (.bool (inR lo hi l), hp Try.prog TA 72 [ints o l, .ptr a 0, .ptr b 0] h) := by
  refine pure_of rfl res72 rfl ?_
  have la := lt_of_get ha
  have lb := lt_of_get hb
  simp (maxSteps := 10000000) (maxDischargeDepth := 30) only [q72, r72, go_sem, Nat.reduceEqDiff, ↓reduceIte, Nat.reduceAdd, Nat.reduceMul, Nat.reduceLeDiff, Nat.reduceLT, reduceCtorEq, Int.reduceToNat, Int.reduceLE, Int.reduceLT, Int.reduceEq, Int.reduceNeg, Int.reduceNe, Int.reducePow, Nat.reducePow, Nat.reduceSub, IntKind.bits]
  refine ru_loop (fun i => l.length - i) (II o l a b lo hi h) 0 ?_ ?_
  · unfold II
    simp (maxSteps := 10000000) (maxDischargeDepth := 30) only [w, Int.natCast_zero, go_sem, Nat.reduceEqDiff, ↓reduceIte, Nat.reduceAdd, Nat.reduceMul, Nat.reduceLeDiff, Nat.reduceLT, reduceCtorEq, Int.reduceToNat, Int.reduceLE, Int.reduceLT, Int.reduceEq, Int.reduceNeg, Int.reduceNe, Int.reducePow, Nat.reducePow, Nat.reduceSub, IntKind.bits]
    exact fun k hk => absurd hk (by omega)
  · rintro i s hh ⟨e7, e8, e9, e1, e2, hi', k1, w1, hall⟩
    have ga : hh.get a = some ⟨ra, [.int .i64 lo]⟩ := (k1.get la).trans ha
    have gb : hh.get b = some ⟨rb, [.int .i64 hi]⟩ := (k1.get lb).trans hb
    by_cases hlt : i < l.length
    · obtain ⟨x, hx⟩ : ∃ x, l[i]? = some x := ⟨l[i], List.getElem?_eq_getElem hlt⟩
      have ia := int_at hx
      have c1 : (i : Int) < l.length := by omega
      have ew : IntKind.i64.wrap ((i : Int) + 1) = ((i + 1 : Nat) : Int) := by rw [wrap64 (by omega) (by omega)]; omega
      by_cases hA : x < lo
      · have hR : inR lo hi l = false := by
          cases hc : inR lo hi l with
          | false => rfl
          | true => have := inR_all.1 hc x (List.mem_of_getElem? hx); omega
        simp (maxSteps := 10000000) (maxDischargeDepth := 30) only [e7, e8, e9, e1, e2, c1, ia, ga, gb, hA, hR, k1, go_sem, Nat.reduceEqDiff, ↓reduceIte, Nat.reduceAdd, Nat.reduceMul, Nat.reduceLeDiff, Nat.reduceLT, reduceCtorEq, Int.reduceToNat, Int.reduceLE, Int.reduceLT, Int.reduceEq, Int.reduceNeg, Int.reduceNe, Int.reducePow, Nat.reducePow, Nat.reduceSub, IntKind.bits]
      · by_cases hB : hi < x
        · have hR : inR lo hi l = false := by
            cases hc : inR lo hi l with
            | false => rfl
            | true => have := inR_all.1 hc x (List.mem_of_getElem? hx); omega
          simp (maxSteps := 10000000) (maxDischargeDepth := 30) only [e7, e8, e9, e1, e2, c1, ia, ga, gb, hA, hB, hR, k1, go_sem, Nat.reduceEqDiff, ↓reduceIte, Nat.reduceAdd, Nat.reduceMul, Nat.reduceLeDiff, Nat.reduceLT, reduceCtorEq, Int.reduceToNat, Int.reduceLE, Int.reduceLT, Int.reduceEq, Int.reduceNeg, Int.reduceNe, Int.reducePow, Nat.reducePow, Nat.reduceSub, IntKind.bits]
        · simp (maxSteps := 10000000) (maxDischargeDepth := 30) only [e7, e8, e9, e1, e2, c1, ia, ga, gb, hA, hB, ew, go_sem, Nat.reduceEqDiff, ↓reduceIte, Nat.reduceAdd, Nat.reduceMul, Nat.reduceLeDiff, Nat.reduceLT, reduceCtorEq, Int.reduceToNat, Int.reduceLE, Int.reduceLT, Int.reduceEq, Int.reduceNeg, Int.reduceNe, Int.reducePow, Nat.reducePow, Nat.reduceSub, IntKind.bits]
          refine ⟨i + 1, by omega, ?_⟩
          unfold II
          simp (maxSteps := 10000000) (maxDischargeDepth := 30) only [e7, e8, e9, e1, e2, k1, w1, go_sem, Nat.reduceEqDiff, ↓reduceIte, Nat.reduceAdd, Nat.reduceMul, Nat.reduceLeDiff, Nat.reduceLT, reduceCtorEq, Int.reduceToNat, Int.reduceLE, Int.reduceLT, Int.reduceEq, Int.reduceNeg, Int.reduceNe, Int.reducePow, Nat.reducePow, Nat.reduceSub, IntKind.bits]
          refine ⟨by omega, fun k hk y hy => ?_⟩
          rcases Nat.lt_or_ge k i with h3 | h3
          · exact hall k h3 y hy
          · obtain rfl : k = i := by omega
            rw [hx] at hy; cases hy; omega
    · have c1 : ¬ (i : Int) < l.length := by omega
      have hR : inR lo hi l = true := by
        rw [inR_all]
        intro x hx
        obtain ⟨k, hk, rfl⟩ := List.getElem_of_mem hx
        exact hall k (by omega) _ (List.getElem?_eq_getElem hk)
      simp (maxSteps := 10000000) (maxDischargeDepth := 30) only [e7, e8, e9, e1, e2, c1, hR, k1, go_sem, Nat.reduceEqDiff, ↓reduceIte, Nat.reduceAdd, Nat.reduceMul, Nat.reduceLeDiff, Nat.reduceLT, reduceCtorEq, Int.reduceToNat, Int.reduceLE, Int.reduceLT, Int.reduceEq, Int.reduceNeg, Int.reduceNe, Int.reducePow, Nat.reducePow, Nat.reduceSub, IntKind.bits]
theorem cWithI (lo hi : Int) (h : H) : runI Try.prog TA 66 [.int .i64 lo, .int .i64 hi] h = some (.fn 71 [] [.ptr h.len 0, .ptr (h.len + 1) 0], (h.alloc [.int .i64 lo]).alloc [.int .i64 hi]) := by
  obtain ⟨v, h', hr, rfl, rfl⟩ := calls_of (P := Try.prog) (T := TA) (R := fun v h' => v = .fn 71 [] [.ptr h.len 0, .ptr (h.len + 1) 0] ∧ h' = (h.alloc [.int .i64 lo]).alloc [.int .i64 hi]) (f := 66) (args := [.int .i64 lo, .int .i64 hi]) (h := h) rfl res66 rfl (by
    simp (maxSteps := 10000000) (maxDischargeDepth := 30) only [q66, r66, go_sem, Nat.reduceEqDiff, ↓reduceIte, Nat.reduceAdd, Nat.reduceMul, Nat.reduceLeDiff, Nat.reduceLT, reduceCtorEq, Int.reduceToNat, Int.reduceLE, Int.reduceLT, Int.reduceEq, Int.reduceNeg, Int.reduceNe, Int.reducePow, Nat.reducePow, Nat.reduceSub, IntKind.bits])
  exact hr
theorem cWithS (lo hi : Int) (h : H) : runI Try.prog TA 67 [.int .i64 lo, .int .i64 hi] h = some (.fn 72 [] [.ptr h.len 0, .ptr (h.len + 1) 0], (h.alloc [.int .i64 lo]).alloc [.int .i64 hi]) := by
  obtain ⟨v, h', hr, rfl, rfl⟩ := calls_of (P := Try.prog) (T := TA) (R := fun v h' => v = .fn 72 [] [.ptr h.len 0, .ptr (h.len + 1) 0] ∧ h' = (h.alloc [.int .i64 lo]).alloc [.int .i64 hi]) (f := 67) (args := [.int .i64 lo, .int .i64 hi]) (h := h) rfl res67 rfl (by
    simp (maxSteps := 10000000) (maxDischargeDepth := 30) only [q67, r67, go_sem, Nat.reduceEqDiff, ↓reduceIte, Nat.reduceAdd, Nat.reduceMul, Nat.reduceLeDiff, Nat.reduceLT, reduceCtorEq, Int.reduceToNat, Int.reduceLE, Int.reduceLT, Int.reduceEq, Int.reduceNeg, Int.reduceNe, Int.reducePow, Nat.reducePow, Nat.reduceSub, IntKind.bits])
  exact hr
/-- What geom.Check holds in memory, once all is made. -/
structure GB (g : Geo) (m n : Nat) (r6 r7 : Bool) (h0 hh : H) : Prop where
  gm : hh.get m = some ⟨false, [.int .i64 g.cols, .int .i64 g.wide, .int .i64 g.gap, .int .i64 g.high, .int .i64 g.first, .int .i64 g.grid, .int .i64 g.rule, .int .i64 g.sep, .int .i64 g.noteMost, .int .i64 g.topMost, .int .i64 g.botMost, .int .i64 g.topMany, .int .i64 g.botMany, .int .i64 g.club, .int .i64 g.widow, .int .i64 g.split, .int .i64 g.defer_, .int .i64 g.spare, .bool g.balance]⟩
  g0 : hh.get n = some ⟨false, [.int .i64 1]⟩
  g1 : hh.get (n + 1) = some ⟨false, [.int .i64 1073741823]⟩
  g2 : hh.get (n + 1 + 1) = some ⟨false, [.int .i64 0]⟩
  g3 : hh.get (n + 1 + 1 + 1) = some ⟨false, [.int .i64 1073741823]⟩
  g4 : hh.get (n + 1 + 1 + 1 + 1) = some ⟨false, [.int .i64 0]⟩
  g5 : hh.get (n + 1 + 1 + 1 + 1 + 1) = some ⟨false, [.int .i64 536870912]⟩
  g6 : hh.get (n + 1 + 1 + 1 + 1 + 1 + 1) = some ⟨r6, [.int .i64 g.gap, .int .i64 g.noteMost, .int .i64 g.topMost, .int .i64 g.botMost]⟩
  g7 : hh.get (n + 1 + 1 + 1 + 1 + 1 + 1 + 1) = some ⟨r7, [.int .i64 g.club, .int .i64 g.widow, .int .i64 g.split, .int .i64 g.defer_, .int .i64 g.spare]⟩
  len : n + 8 ≤ hh.len
  mn : m < n
  lob : hh.lob ≤ n
  h0n : h0.len ≤ n
  keep : Keep h0 hh
  wf : WF hh
namespace GB
variable {g : Geo} {m n : Nat} {r6 r7 : Bool} {h0 hh : H}
theorem lm (B : GB g m n r6 r7 h0 hh) : m < hh.len := by have := B.len; have := B.mn; omega
theorem l0 (B : GB g m n r6 r7 h0 hh) : n < hh.len := by have := B.len; omega
theorem l1 (B : GB g m n r6 r7 h0 hh) : n + 1 < hh.len := by have := B.len; omega
theorem l2 (B : GB g m n r6 r7 h0 hh) : n + 1 + 1 < hh.len := by have := B.len; omega
theorem l3 (B : GB g m n r6 r7 h0 hh) : n + 1 + 1 + 1 < hh.len := by have := B.len; omega
theorem l4 (B : GB g m n r6 r7 h0 hh) : n + 1 + 1 + 1 + 1 < hh.len := by have := B.len; omega
theorem l5 (B : GB g m n r6 r7 h0 hh) : n + 1 + 1 + 1 + 1 + 1 < hh.len := by have := B.len; omega
theorem l6 (B : GB g m n r6 r7 h0 hh) : n + 1 + 1 + 1 + 1 + 1 + 1 < hh.len := by have := B.len; omega
theorem l7 (B : GB g m n r6 r7 h0 hh) : n + 1 + 1 + 1 + 1 + 1 + 1 + 1 < hh.len := by have := B.len; omega
theorem jm (B : GB g m n r6 r7 h0 hh) : m ≤ hh.len := Nat.le_of_lt B.lm
theorem j0 (B : GB g m n r6 r7 h0 hh) : n ≤ hh.len := Nat.le_of_lt B.l0
theorem j1 (B : GB g m n r6 r7 h0 hh) : n + 1 ≤ hh.len := Nat.le_of_lt B.l1
theorem j2 (B : GB g m n r6 r7 h0 hh) : n + 1 + 1 ≤ hh.len := Nat.le_of_lt B.l2
theorem j3 (B : GB g m n r6 r7 h0 hh) : n + 1 + 1 + 1 ≤ hh.len := Nat.le_of_lt B.l3
theorem j4 (B : GB g m n r6 r7 h0 hh) : n + 1 + 1 + 1 + 1 ≤ hh.len := Nat.le_of_lt B.l4
theorem j5 (B : GB g m n r6 r7 h0 hh) : n + 1 + 1 + 1 + 1 + 1 ≤ hh.len := Nat.le_of_lt B.l5
theorem j6 (B : GB g m n r6 r7 h0 hh) : n + 1 + 1 + 1 + 1 + 1 + 1 ≤ hh.len := Nat.le_of_lt B.l6
theorem j7 (B : GB g m n r6 r7 h0 hh) : n + 1 + 1 + 1 + 1 + 1 + 1 + 1 ≤ hh.len := Nat.le_of_lt B.l7
theorem o6 (B : GB g m n r6 r7 h0 hh) : hh.lob ≤ n + 1 + 1 + 1 + 1 + 1 + 1 := by have := B.lob; omega
theorem o7 (B : GB g m n r6 r7 h0 hh) : hh.lob ≤ n + 1 + 1 + 1 + 1 + 1 + 1 + 1 := by have := B.lob; omega
theorem next (B : GB g m n r6 r7 h0 hh) {h' : H} (k : Keep hh h') (w : WF h') : GB g m n r6 r7 h0 h' :=
  ⟨(k.get B.lm).trans B.gm, (k.get B.l0).trans B.g0, (k.get B.l1).trans B.g1, (k.get B.l2).trans B.g2, (k.get B.l3).trans B.g3, (k.get B.l4).trans B.g4, (k.get B.l5).trans B.g5, (k.get B.l6).trans B.g6, (k.get B.l7).trans B.g7,
    Nat.le_trans B.len k.len, B.mn, by rw [k.lob]; exact B.lob, B.h0n, B.keep.trans k, w⟩
theorem ro6 (B : GB g m n r6 r7 h0 hh) : GB g m n true r7 h0 (hh.put (n + 1 + 1 + 1 + 1 + 1 + 1) ⟨true, [.int .i64 g.gap, .int .i64 g.noteMost, .int .i64 g.topMost, .int .i64 g.botMost]⟩) := by
  have := B.mn
  have ne : ∀ b, n + 1 + 1 + 1 + 1 + 1 + 1 ≠ b → (hh.put (n + 1 + 1 + 1 + 1 + 1 + 1) ⟨true, [.int .i64 g.gap, .int .i64 g.noteMost, .int .i64 g.topMost, .int .i64 g.botMost]⟩).get b = hh.get b := fun b hb => get_put_ne hb
  exact ⟨(ne _ (by omega)).trans B.gm, (ne _ (by omega)).trans B.g0, (ne _ (by omega)).trans B.g1, (ne _ (by omega)).trans B.g2, (ne _ (by omega)).trans B.g3, (ne _ (by omega)).trans B.g4, (ne _ (by omega)).trans B.g5, get_put_eq B.l6, (ne _ (by omega)).trans B.g7,
    by rw [len_put]; exact B.len, B.mn, B.lob, B.h0n, B.keep.put (by have := B.h0n; omega) _, wf_put B.wf⟩
theorem ro7 (B : GB g m n r6 r7 h0 hh) : GB g m n r6 true h0 (hh.put (n + 1 + 1 + 1 + 1 + 1 + 1 + 1) ⟨true, [.int .i64 g.club, .int .i64 g.widow, .int .i64 g.split, .int .i64 g.defer_, .int .i64 g.spare]⟩) := by
  have := B.mn
  have ne : ∀ b, n + 1 + 1 + 1 + 1 + 1 + 1 + 1 ≠ b → (hh.put (n + 1 + 1 + 1 + 1 + 1 + 1 + 1) ⟨true, [.int .i64 g.club, .int .i64 g.widow, .int .i64 g.split, .int .i64 g.defer_, .int .i64 g.spare]⟩).get b = hh.get b := fun b hb => get_put_ne hb
  exact ⟨(ne _ (by omega)).trans B.gm, (ne _ (by omega)).trans B.g0, (ne _ (by omega)).trans B.g1, (ne _ (by omega)).trans B.g2, (ne _ (by omega)).trans B.g3, (ne _ (by omega)).trans B.g4, (ne _ (by omega)).trans B.g5, (ne _ (by omega)).trans B.g6, get_put_eq B.l7,
    by rw [len_put]; exact B.len, B.mn, B.lob, B.h0n, B.keep.put (by have := B.h0n; omega) _, wf_put B.wf⟩
end GB
theorem cGCheck (g : Geo) (h : H) (w : WF h) : runI Try.prog TA 39 [g.e] h = some (.int .i64 (geoCheck g), hp Try.prog TA 39 [g.e] h) := by
  refine pure_of rfl res39 rfl ?_
  have hlo := w.1
  simp (maxSteps := 10000000) (maxDischargeDepth := 30) only [q39, r39, Geo.e, cWithI, cWithS, w, hlo, go_sem, Nat.reduceEqDiff, ↓reduceIte, Nat.reduceAdd, Nat.reduceMul, Nat.reduceLeDiff, Nat.reduceLT, reduceCtorEq, Int.reduceToNat, Int.reduceLE, Int.reduceLT, Int.reduceEq, Int.reduceNeg, Int.reduceNe, Int.reducePow, Nat.reducePow, Nat.reduceSub, IntKind.bits]
  refine rw_kcall (cInI _ [g.cols] (by simp) _ _ false false 1 8 _ ?_ ?_ ?_) ?_ (fun h1 k1 w1 => ?_)
  · simp (maxSteps := 10000000) (maxDischargeDepth := 30) only [w, go_sem, Nat.reduceEqDiff, ↓reduceIte, Nat.reduceAdd, Nat.reduceMul, Nat.reduceLeDiff, Nat.reduceLT, reduceCtorEq, Int.reduceToNat, Int.reduceLE, Int.reduceLT, Int.reduceEq, Int.reduceNeg, Int.reduceNe, Int.reducePow, Nat.reducePow, Nat.reduceSub, IntKind.bits]
  · simp (maxSteps := 10000000) (maxDischargeDepth := 30) only [w, go_sem, Nat.reduceEqDiff, ↓reduceIte, Nat.reduceAdd, Nat.reduceMul, Nat.reduceLeDiff, Nat.reduceLT, reduceCtorEq, Int.reduceToNat, Int.reduceLE, Int.reduceLT, Int.reduceEq, Int.reduceNeg, Int.reduceNe, Int.reducePow, Nat.reducePow, Nat.reduceSub, IntKind.bits]
  · simp (maxSteps := 10000000) (maxDischargeDepth := 30) only [w, go_sem, Nat.reduceEqDiff, ↓reduceIte, Nat.reduceAdd, Nat.reduceMul, Nat.reduceLeDiff, Nat.reduceLT, reduceCtorEq, Int.reduceToNat, Int.reduceLE, Int.reduceLT, Int.reduceEq, Int.reduceNeg, Int.reduceNe, Int.reducePow, Nat.reducePow, Nat.reduceSub, IntKind.bits]
  · simp (maxSteps := 10000000) (maxDischargeDepth := 30) only [w, go_sem, Nat.reduceEqDiff, ↓reduceIte, Nat.reduceAdd, Nat.reduceMul, Nat.reduceLeDiff, Nat.reduceLT, reduceCtorEq, Int.reduceToNat, Int.reduceLE, Int.reduceLT, Int.reduceEq, Int.reduceNeg, Int.reduceNe, Int.reducePow, Nat.reducePow, Nat.reduceSub, IntKind.bits]
  have e1 : inR 1 8 [g.cols] = true ∨ inR 1 8 [g.cols] = false := by cases inR 1 8 [g.cols] <;> simp
  rcases e1 with e1 | e1
  rotate_left
  · simp (maxSteps := 10000000) (maxDischargeDepth := 30) only [e1, w, w1, k1.get, k1.lt, k1.le, k1.lob, k1.lor, k1.rget, k1.rlt, k1.rle, k1.to, go_sem, Nat.reduceEqDiff, ↓reduceIte, Nat.reduceAdd, Nat.reduceMul, Nat.reduceLeDiff, Nat.reduceLT, reduceCtorEq, Int.reduceToNat, Int.reduceLE, Int.reduceLT, Int.reduceEq, Int.reduceNeg, Int.reduceNe, Int.reducePow, Nat.reducePow, Nat.reduceSub, IntKind.bits]
    congr 1
    simp only [inR, in1, Bool.and_eq_true, Bool.and_eq_false_iff, decide_eq_true_eq, decide_eq_false_iff_not, Bool.and_true, Bool.true_eq_false, or_false] at e1
    unfold geoCheck
    rw [if_pos (by omega)]
  have gm : h1.get h.len = some ⟨false, [.int .i64 g.cols, .int .i64 g.wide, .int .i64 g.gap, .int .i64 g.high, .int .i64 g.first, .int .i64 g.grid, .int .i64 g.rule, .int .i64 g.sep, .int .i64 g.noteMost, .int .i64 g.topMost, .int .i64 g.botMost, .int .i64 g.topMany, .int .i64 g.botMany, .int .i64 g.club, .int .i64 g.widow, .int .i64 g.split, .int .i64 g.defer_, .int .i64 g.spare, .bool g.balance]⟩ := by simp (maxSteps := 10000000) (maxDischargeDepth := 30) only [k1.get, k1.lt, k1.le, k1.lob, k1.lor, k1.rget, k1.rlt, k1.rle, k1.to, go_sem, Nat.reduceEqDiff, ↓reduceIte, Nat.reduceAdd, Nat.reduceMul, Nat.reduceLeDiff, Nat.reduceLT, reduceCtorEq, Int.reduceToNat, Int.reduceLE, Int.reduceLT, Int.reduceEq, Int.reduceNeg, Int.reduceNe, Int.reducePow, Nat.reducePow, Nat.reduceSub, IntKind.bits]
  have kk : Keep h h1 := k1.to (by simp (maxSteps := 10000000) (maxDischargeDepth := 30) only [w, go_sem, Nat.reduceEqDiff, ↓reduceIte, Nat.reduceAdd, Nat.reduceMul, Nat.reduceLeDiff, Nat.reduceLT, reduceCtorEq, Int.reduceToNat, Int.reduceLE, Int.reduceLT, Int.reduceEq, Int.reduceNeg, Int.reduceNe, Int.reducePow, Nat.reducePow, Nat.reduceSub, IntKind.bits])
  have hl1 : h.len < h1.len := by have := k1.len; simp at this; omega
  have hl1' : h.len ≤ h1.len := by omega
  have ol1 : h1.lob ≤ h1.len := w1.1
  simp (maxSteps := 10000000) (maxDischargeDepth := 30) only [e1, w1, gm, hl1, hl1', ol1, kk, cWithI, cWithS, go_sem, Nat.reduceEqDiff, ↓reduceIte, Nat.reduceAdd, Nat.reduceMul, Nat.reduceLeDiff, Nat.reduceLT, reduceCtorEq, Int.reduceToNat, Int.reduceLE, Int.reduceLT, Int.reduceEq, Int.reduceNeg, Int.reduceNe, Int.reducePow, Nat.reducePow, Nat.reduceSub, IntKind.bits]
  -- the memory, once all is made
  generalize hhm : H.put _ _ _ = hm
  have B1 : GB g h.len h1.len false false h hm := by
    rw [← hhm]
    refine ⟨?_, ?_, ?_, ?_, ?_, ?_, ?_, ?_, ?_, ?_, ?_, ?_, ?_, ?_, ?_⟩
    · simp (maxSteps := 10000000) (maxDischargeDepth := 30) only [gm, hl1, hl1', ol1, kk, w1, go_sem, Nat.reduceEqDiff, ↓reduceIte, Nat.reduceAdd, Nat.reduceMul, Nat.reduceLeDiff, Nat.reduceLT, reduceCtorEq, Int.reduceToNat, Int.reduceLE, Int.reduceLT, Int.reduceEq, Int.reduceNeg, Int.reduceNe, Int.reducePow, Nat.reducePow, Nat.reduceSub, IntKind.bits]
    · simp (maxSteps := 10000000) (maxDischargeDepth := 30) only [gm, hl1, hl1', ol1, kk, w1, go_sem, Nat.reduceEqDiff, ↓reduceIte, Nat.reduceAdd, Nat.reduceMul, Nat.reduceLeDiff, Nat.reduceLT, reduceCtorEq, Int.reduceToNat, Int.reduceLE, Int.reduceLT, Int.reduceEq, Int.reduceNeg, Int.reduceNe, Int.reducePow, Nat.reducePow, Nat.reduceSub, IntKind.bits]
    · simp (maxSteps := 10000000) (maxDischargeDepth := 30) only [gm, hl1, hl1', ol1, kk, w1, go_sem, Nat.reduceEqDiff, ↓reduceIte, Nat.reduceAdd, Nat.reduceMul, Nat.reduceLeDiff, Nat.reduceLT, reduceCtorEq, Int.reduceToNat, Int.reduceLE, Int.reduceLT, Int.reduceEq, Int.reduceNeg, Int.reduceNe, Int.reducePow, Nat.reducePow, Nat.reduceSub, IntKind.bits]
    · simp (maxSteps := 10000000) (maxDischargeDepth := 30) only [gm, hl1, hl1', ol1, kk, w1, go_sem, Nat.reduceEqDiff, ↓reduceIte, Nat.reduceAdd, Nat.reduceMul, Nat.reduceLeDiff, Nat.reduceLT, reduceCtorEq, Int.reduceToNat, Int.reduceLE, Int.reduceLT, Int.reduceEq, Int.reduceNeg, Int.reduceNe, Int.reducePow, Nat.reducePow, Nat.reduceSub, IntKind.bits]
    · simp (maxSteps := 10000000) (maxDischargeDepth := 30) only [gm, hl1, hl1', ol1, kk, w1, go_sem, Nat.reduceEqDiff, ↓reduceIte, Nat.reduceAdd, Nat.reduceMul, Nat.reduceLeDiff, Nat.reduceLT, reduceCtorEq, Int.reduceToNat, Int.reduceLE, Int.reduceLT, Int.reduceEq, Int.reduceNeg, Int.reduceNe, Int.reducePow, Nat.reducePow, Nat.reduceSub, IntKind.bits]
    · simp (maxSteps := 10000000) (maxDischargeDepth := 30) only [gm, hl1, hl1', ol1, kk, w1, go_sem, Nat.reduceEqDiff, ↓reduceIte, Nat.reduceAdd, Nat.reduceMul, Nat.reduceLeDiff, Nat.reduceLT, reduceCtorEq, Int.reduceToNat, Int.reduceLE, Int.reduceLT, Int.reduceEq, Int.reduceNeg, Int.reduceNe, Int.reducePow, Nat.reducePow, Nat.reduceSub, IntKind.bits]
    · simp (maxSteps := 10000000) (maxDischargeDepth := 30) only [gm, hl1, hl1', ol1, kk, w1, go_sem, Nat.reduceEqDiff, ↓reduceIte, Nat.reduceAdd, Nat.reduceMul, Nat.reduceLeDiff, Nat.reduceLT, reduceCtorEq, Int.reduceToNat, Int.reduceLE, Int.reduceLT, Int.reduceEq, Int.reduceNeg, Int.reduceNe, Int.reducePow, Nat.reducePow, Nat.reduceSub, IntKind.bits]
    · simp (maxSteps := 10000000) (maxDischargeDepth := 30) only [gm, hl1, hl1', ol1, kk, w1, go_sem, Nat.reduceEqDiff, ↓reduceIte, Nat.reduceAdd, Nat.reduceMul, Nat.reduceLeDiff, Nat.reduceLT, reduceCtorEq, Int.reduceToNat, Int.reduceLE, Int.reduceLT, Int.reduceEq, Int.reduceNeg, Int.reduceNe, Int.reducePow, Nat.reducePow, Nat.reduceSub, IntKind.bits]
    · simp (maxSteps := 10000000) (maxDischargeDepth := 30) only [gm, hl1, hl1', ol1, kk, w1, go_sem, Nat.reduceEqDiff, ↓reduceIte, Nat.reduceAdd, Nat.reduceMul, Nat.reduceLeDiff, Nat.reduceLT, reduceCtorEq, Int.reduceToNat, Int.reduceLE, Int.reduceLT, Int.reduceEq, Int.reduceNeg, Int.reduceNe, Int.reducePow, Nat.reducePow, Nat.reduceSub, IntKind.bits]
    · simp
    · exact hl1
    · simp (maxSteps := 10000000) (maxDischargeDepth := 30) only [gm, hl1, hl1', ol1, kk, w1, go_sem, Nat.reduceEqDiff, ↓reduceIte, Nat.reduceAdd, Nat.reduceMul, Nat.reduceLeDiff, Nat.reduceLT, reduceCtorEq, Int.reduceToNat, Int.reduceLE, Int.reduceLT, Int.reduceEq, Int.reduceNeg, Int.reduceNe, Int.reducePow, Nat.reducePow, Nat.reduceSub, IntKind.bits]
    · exact hl1'
    · simp (maxSteps := 10000000) (maxDischargeDepth := 30) only [gm, hl1, hl1', ol1, kk, w1, go_sem, Nat.reduceEqDiff, ↓reduceIte, Nat.reduceAdd, Nat.reduceMul, Nat.reduceLeDiff, Nat.reduceLT, reduceCtorEq, Int.reduceToNat, Int.reduceLE, Int.reduceLT, Int.reduceEq, Int.reduceNeg, Int.reduceNe, Int.reducePow, Nat.reducePow, Nat.reduceSub, IntKind.bits]
    · simp (maxSteps := 10000000) (maxDischargeDepth := 30) only [gm, hl1, hl1', ol1, kk, w1, go_sem, Nat.reduceEqDiff, ↓reduceIte, Nat.reduceAdd, Nat.reduceMul, Nat.reduceLeDiff, Nat.reduceLT, reduceCtorEq, Int.reduceToNat, Int.reduceLE, Int.reduceLT, Int.reduceEq, Int.reduceNeg, Int.reduceNe, Int.reducePow, Nat.reducePow, Nat.reduceSub, IntKind.bits]
  clear hhm
  refine ro_kcall (cInS _ [g.wide, g.high] (by simp) _ _ false false (1) (1073741823) _ ?_ ?_ ?_) ?_ (fun h2 k2 w2 => ?_)
  · simp (maxSteps := 10000000) (maxDischargeDepth := 30) only [B1.gm, B1.g0, B1.g1, B1.g2, B1.g3, B1.g4, B1.g5, B1.g6, B1.g7, B1.lm, B1.l0, B1.l1, B1.l2, B1.l3, B1.l4, B1.l5, B1.l6, B1.l7, B1.jm, B1.j0, B1.j1, B1.j2, B1.j3, B1.j4, B1.j5, B1.j6, B1.j7, B1.o6, B1.o7, B1.wf, B1.keep, go_sem, Nat.reduceEqDiff, ↓reduceIte, Nat.reduceAdd, Nat.reduceMul, Nat.reduceLeDiff, Nat.reduceLT, reduceCtorEq, Int.reduceToNat, Int.reduceLE, Int.reduceLT, Int.reduceEq, Int.reduceNeg, Int.reduceNe, Int.reducePow, Nat.reducePow, Nat.reduceSub, IntKind.bits]
  · simp (maxSteps := 10000000) (maxDischargeDepth := 30) only [B1.gm, B1.g0, B1.g1, B1.g2, B1.g3, B1.g4, B1.g5, B1.g6, B1.g7, B1.lm, B1.l0, B1.l1, B1.l2, B1.l3, B1.l4, B1.l5, B1.l6, B1.l7, B1.jm, B1.j0, B1.j1, B1.j2, B1.j3, B1.j4, B1.j5, B1.j6, B1.j7, B1.o6, B1.o7, B1.wf, B1.keep, go_sem, Nat.reduceEqDiff, ↓reduceIte, Nat.reduceAdd, Nat.reduceMul, Nat.reduceLeDiff, Nat.reduceLT, reduceCtorEq, Int.reduceToNat, Int.reduceLE, Int.reduceLT, Int.reduceEq, Int.reduceNeg, Int.reduceNe, Int.reducePow, Nat.reducePow, Nat.reduceSub, IntKind.bits]
  · simp (maxSteps := 10000000) (maxDischargeDepth := 30) only [B1.gm, B1.g0, B1.g1, B1.g2, B1.g3, B1.g4, B1.g5, B1.g6, B1.g7, B1.lm, B1.l0, B1.l1, B1.l2, B1.l3, B1.l4, B1.l5, B1.l6, B1.l7, B1.jm, B1.j0, B1.j1, B1.j2, B1.j3, B1.j4, B1.j5, B1.j6, B1.j7, B1.o6, B1.o7, B1.wf, B1.keep, go_sem, Nat.reduceEqDiff, ↓reduceIte, Nat.reduceAdd, Nat.reduceMul, Nat.reduceLeDiff, Nat.reduceLT, reduceCtorEq, Int.reduceToNat, Int.reduceLE, Int.reduceLT, Int.reduceEq, Int.reduceNeg, Int.reduceNe, Int.reducePow, Nat.reducePow, Nat.reduceSub, IntKind.bits]
  · simp (maxSteps := 10000000) (maxDischargeDepth := 30) only [B1.gm, B1.g0, B1.g1, B1.g2, B1.g3, B1.g4, B1.g5, B1.g6, B1.g7, B1.lm, B1.l0, B1.l1, B1.l2, B1.l3, B1.l4, B1.l5, B1.l6, B1.l7, B1.jm, B1.j0, B1.j1, B1.j2, B1.j3, B1.j4, B1.j5, B1.j6, B1.j7, B1.o6, B1.o7, B1.wf, B1.keep, go_sem, Nat.reduceEqDiff, ↓reduceIte, Nat.reduceAdd, Nat.reduceMul, Nat.reduceLeDiff, Nat.reduceLT, reduceCtorEq, Int.reduceToNat, Int.reduceLE, Int.reduceLT, Int.reduceEq, Int.reduceNeg, Int.reduceNe, Int.reducePow, Nat.reducePow, Nat.reduceSub, IntKind.bits]
  have B2 := B1.next (k2.to (by simp (maxSteps := 10000000) (maxDischargeDepth := 30) only [B1.gm, B1.g0, B1.g1, B1.g2, B1.g3, B1.g4, B1.g5, B1.g6, B1.g7, B1.lm, B1.l0, B1.l1, B1.l2, B1.l3, B1.l4, B1.l5, B1.l6, B1.l7, B1.jm, B1.j0, B1.j1, B1.j2, B1.j3, B1.j4, B1.j5, B1.j6, B1.j7, B1.o6, B1.o7, B1.wf, B1.keep, go_sem, Nat.reduceEqDiff, ↓reduceIte, Nat.reduceAdd, Nat.reduceMul, Nat.reduceLeDiff, Nat.reduceLT, reduceCtorEq, Int.reduceToNat, Int.reduceLE, Int.reduceLT, Int.reduceEq, Int.reduceNeg, Int.reduceNe, Int.reducePow, Nat.reducePow, Nat.reduceSub, IntKind.bits])) w2
  have e2 : inR (1) (1073741823) [g.wide, g.high] = true ∨ inR (1) (1073741823) [g.wide, g.high] = false := by cases inR (1) (1073741823) [g.wide, g.high] <;> simp
  rcases e2 with e2 | e2
  rotate_left
  · simp (maxSteps := 10000000) (maxDischargeDepth := 30) only [e2, B2.gm, B2.g0, B2.g1, B2.g2, B2.g3, B2.g4, B2.g5, B2.g6, B2.g7, B2.lm, B2.l0, B2.l1, B2.l2, B2.l3, B2.l4, B2.l5, B2.l6, B2.l7, B2.jm, B2.j0, B2.j1, B2.j2, B2.j3, B2.j4, B2.j5, B2.j6, B2.j7, B2.o6, B2.o7, B2.wf, B2.keep, cWithI, cWithS, go_sem, Nat.reduceEqDiff, ↓reduceIte, Nat.reduceAdd, Nat.reduceMul, Nat.reduceLeDiff, Nat.reduceLT, reduceCtorEq, Int.reduceToNat, Int.reduceLE, Int.reduceLT, Int.reduceEq, Int.reduceNeg, Int.reduceNe, Int.reducePow, Nat.reducePow, Nat.reduceSub, IntKind.bits]
    congr 1
    simp only [inR, in1, Bool.and_eq_true, Bool.and_eq_false_iff, decide_eq_true_eq, decide_eq_false_iff_not, Bool.and_true, Bool.true_eq_false, or_false] at e1 e2
    unfold geoCheck
    rw [if_neg (by omega), if_pos (by omega)]
  simp (maxSteps := 10000000) (maxDischargeDepth := 30) only [e2, B2.gm, B2.g0, B2.g1, B2.g2, B2.g3, B2.g4, B2.g5, B2.g6, B2.g7, B2.lm, B2.l0, B2.l1, B2.l2, B2.l3, B2.l4, B2.l5, B2.l6, B2.l7, B2.jm, B2.j0, B2.j1, B2.j2, B2.j3, B2.j4, B2.j5, B2.j6, B2.j7, B2.o6, B2.o7, B2.wf, B2.keep, cWithI, cWithS, go_sem, Nat.reduceEqDiff, ↓reduceIte, Nat.reduceAdd, Nat.reduceMul, Nat.reduceLeDiff, Nat.reduceLT, reduceCtorEq, Int.reduceToNat, Int.reduceLE, Int.reduceLT, Int.reduceEq, Int.reduceNeg, Int.reduceNe, Int.reducePow, Nat.reducePow, Nat.reduceSub, IntKind.bits]
  have C3 := B2.ro6
  generalize hx3 : H.put _ _ _ = x3 at C3 ⊢
  have hl3 : h2.len = x3.len := by rw [← hx3]; exact (len_put _ _ _).symm
  refine ro_kcall (cInS _ [g.gap, g.noteMost, g.topMost, g.botMost] (by simp) _ _ false false (0) (1073741823) _ ?_ ?_ ?_) ?_ (fun h3 k3 w3 => ?_)
  · simp (maxSteps := 10000000) (maxDischargeDepth := 30) only [C3.gm, C3.g0, C3.g1, C3.g2, C3.g3, C3.g4, C3.g5, C3.g6, C3.g7, C3.lm, C3.l0, C3.l1, C3.l2, C3.l3, C3.l4, C3.l5, C3.l6, C3.l7, C3.jm, C3.j0, C3.j1, C3.j2, C3.j3, C3.j4, C3.j5, C3.j6, C3.j7, C3.o6, C3.o7, C3.wf, C3.keep, hl3, go_sem, Nat.reduceEqDiff, ↓reduceIte, Nat.reduceAdd, Nat.reduceMul, Nat.reduceLeDiff, Nat.reduceLT, reduceCtorEq, Int.reduceToNat, Int.reduceLE, Int.reduceLT, Int.reduceEq, Int.reduceNeg, Int.reduceNe, Int.reducePow, Nat.reducePow, Nat.reduceSub, IntKind.bits]
  · simp (maxSteps := 10000000) (maxDischargeDepth := 30) only [C3.gm, C3.g0, C3.g1, C3.g2, C3.g3, C3.g4, C3.g5, C3.g6, C3.g7, C3.lm, C3.l0, C3.l1, C3.l2, C3.l3, C3.l4, C3.l5, C3.l6, C3.l7, C3.jm, C3.j0, C3.j1, C3.j2, C3.j3, C3.j4, C3.j5, C3.j6, C3.j7, C3.o6, C3.o7, C3.wf, C3.keep, hl3, go_sem, Nat.reduceEqDiff, ↓reduceIte, Nat.reduceAdd, Nat.reduceMul, Nat.reduceLeDiff, Nat.reduceLT, reduceCtorEq, Int.reduceToNat, Int.reduceLE, Int.reduceLT, Int.reduceEq, Int.reduceNeg, Int.reduceNe, Int.reducePow, Nat.reducePow, Nat.reduceSub, IntKind.bits]
  · simp (maxSteps := 10000000) (maxDischargeDepth := 30) only [C3.gm, C3.g0, C3.g1, C3.g2, C3.g3, C3.g4, C3.g5, C3.g6, C3.g7, C3.lm, C3.l0, C3.l1, C3.l2, C3.l3, C3.l4, C3.l5, C3.l6, C3.l7, C3.jm, C3.j0, C3.j1, C3.j2, C3.j3, C3.j4, C3.j5, C3.j6, C3.j7, C3.o6, C3.o7, C3.wf, C3.keep, hl3, go_sem, Nat.reduceEqDiff, ↓reduceIte, Nat.reduceAdd, Nat.reduceMul, Nat.reduceLeDiff, Nat.reduceLT, reduceCtorEq, Int.reduceToNat, Int.reduceLE, Int.reduceLT, Int.reduceEq, Int.reduceNeg, Int.reduceNe, Int.reducePow, Nat.reducePow, Nat.reduceSub, IntKind.bits]
  · simp (maxSteps := 10000000) (maxDischargeDepth := 30) only [C3.gm, C3.g0, C3.g1, C3.g2, C3.g3, C3.g4, C3.g5, C3.g6, C3.g7, C3.lm, C3.l0, C3.l1, C3.l2, C3.l3, C3.l4, C3.l5, C3.l6, C3.l7, C3.jm, C3.j0, C3.j1, C3.j2, C3.j3, C3.j4, C3.j5, C3.j6, C3.j7, C3.o6, C3.o7, C3.wf, C3.keep, hl3, go_sem, Nat.reduceEqDiff, ↓reduceIte, Nat.reduceAdd, Nat.reduceMul, Nat.reduceLeDiff, Nat.reduceLT, reduceCtorEq, Int.reduceToNat, Int.reduceLE, Int.reduceLT, Int.reduceEq, Int.reduceNeg, Int.reduceNe, Int.reducePow, Nat.reducePow, Nat.reduceSub, IntKind.bits]
  have B3 := C3.next (k3.to (by simp (maxSteps := 10000000) (maxDischargeDepth := 30) only [C3.gm, C3.g0, C3.g1, C3.g2, C3.g3, C3.g4, C3.g5, C3.g6, C3.g7, C3.lm, C3.l0, C3.l1, C3.l2, C3.l3, C3.l4, C3.l5, C3.l6, C3.l7, C3.jm, C3.j0, C3.j1, C3.j2, C3.j3, C3.j4, C3.j5, C3.j6, C3.j7, C3.o6, C3.o7, C3.wf, C3.keep, go_sem, Nat.reduceEqDiff, ↓reduceIte, Nat.reduceAdd, Nat.reduceMul, Nat.reduceLeDiff, Nat.reduceLT, reduceCtorEq, Int.reduceToNat, Int.reduceLE, Int.reduceLT, Int.reduceEq, Int.reduceNeg, Int.reduceNe, Int.reducePow, Nat.reducePow, Nat.reduceSub, IntKind.bits])) w3
  have e3 : inR (0) (1073741823) [g.gap, g.noteMost, g.topMost, g.botMost] = true ∨ inR (0) (1073741823) [g.gap, g.noteMost, g.topMost, g.botMost] = false := by cases inR (0) (1073741823) [g.gap, g.noteMost, g.topMost, g.botMost] <;> simp
  rcases e3 with e3 | e3
  rotate_left
  · simp (maxSteps := 10000000) (maxDischargeDepth := 30) only [e3, B3.gm, B3.g0, B3.g1, B3.g2, B3.g3, B3.g4, B3.g5, B3.g6, B3.g7, B3.lm, B3.l0, B3.l1, B3.l2, B3.l3, B3.l4, B3.l5, B3.l6, B3.l7, B3.jm, B3.j0, B3.j1, B3.j2, B3.j3, B3.j4, B3.j5, B3.j6, B3.j7, B3.o6, B3.o7, B3.wf, B3.keep, cWithI, cWithS, go_sem, Nat.reduceEqDiff, ↓reduceIte, Nat.reduceAdd, Nat.reduceMul, Nat.reduceLeDiff, Nat.reduceLT, reduceCtorEq, Int.reduceToNat, Int.reduceLE, Int.reduceLT, Int.reduceEq, Int.reduceNeg, Int.reduceNe, Int.reducePow, Nat.reducePow, Nat.reduceSub, IntKind.bits]
    congr 1
    simp only [inR, in1, Bool.and_eq_true, Bool.and_eq_false_iff, decide_eq_true_eq, decide_eq_false_iff_not, Bool.and_true, Bool.true_eq_false, or_false] at e1 e2 e3
    unfold geoCheck
    rw [if_neg (by omega), if_pos (by omega)]
  simp (maxSteps := 10000000) (maxDischargeDepth := 30) only [e3, B3.gm, B3.g0, B3.g1, B3.g2, B3.g3, B3.g4, B3.g5, B3.g6, B3.g7, B3.lm, B3.l0, B3.l1, B3.l2, B3.l3, B3.l4, B3.l5, B3.l6, B3.l7, B3.jm, B3.j0, B3.j1, B3.j2, B3.j3, B3.j4, B3.j5, B3.j6, B3.j7, B3.o6, B3.o7, B3.wf, B3.keep, cWithI, cWithS, go_sem, Nat.reduceEqDiff, ↓reduceIte, Nat.reduceAdd, Nat.reduceMul, Nat.reduceLeDiff, Nat.reduceLT, reduceCtorEq, Int.reduceToNat, Int.reduceLE, Int.reduceLT, Int.reduceEq, Int.reduceNeg, Int.reduceNe, Int.reducePow, Nat.reducePow, Nat.reduceSub, IntKind.bits]
  refine ro_kcall (cInS _ [g.rule, g.sep, g.grid] (by simp) _ _ false false (0) (536870912) _ ?_ ?_ ?_) ?_ (fun h4 k4 w4 => ?_)
  · simp (maxSteps := 10000000) (maxDischargeDepth := 30) only [B3.gm, B3.g0, B3.g1, B3.g2, B3.g3, B3.g4, B3.g5, B3.g6, B3.g7, B3.lm, B3.l0, B3.l1, B3.l2, B3.l3, B3.l4, B3.l5, B3.l6, B3.l7, B3.jm, B3.j0, B3.j1, B3.j2, B3.j3, B3.j4, B3.j5, B3.j6, B3.j7, B3.o6, B3.o7, B3.wf, B3.keep, go_sem, Nat.reduceEqDiff, ↓reduceIte, Nat.reduceAdd, Nat.reduceMul, Nat.reduceLeDiff, Nat.reduceLT, reduceCtorEq, Int.reduceToNat, Int.reduceLE, Int.reduceLT, Int.reduceEq, Int.reduceNeg, Int.reduceNe, Int.reducePow, Nat.reducePow, Nat.reduceSub, IntKind.bits]
  · simp (maxSteps := 10000000) (maxDischargeDepth := 30) only [B3.gm, B3.g0, B3.g1, B3.g2, B3.g3, B3.g4, B3.g5, B3.g6, B3.g7, B3.lm, B3.l0, B3.l1, B3.l2, B3.l3, B3.l4, B3.l5, B3.l6, B3.l7, B3.jm, B3.j0, B3.j1, B3.j2, B3.j3, B3.j4, B3.j5, B3.j6, B3.j7, B3.o6, B3.o7, B3.wf, B3.keep, go_sem, Nat.reduceEqDiff, ↓reduceIte, Nat.reduceAdd, Nat.reduceMul, Nat.reduceLeDiff, Nat.reduceLT, reduceCtorEq, Int.reduceToNat, Int.reduceLE, Int.reduceLT, Int.reduceEq, Int.reduceNeg, Int.reduceNe, Int.reducePow, Nat.reducePow, Nat.reduceSub, IntKind.bits]
  · simp (maxSteps := 10000000) (maxDischargeDepth := 30) only [B3.gm, B3.g0, B3.g1, B3.g2, B3.g3, B3.g4, B3.g5, B3.g6, B3.g7, B3.lm, B3.l0, B3.l1, B3.l2, B3.l3, B3.l4, B3.l5, B3.l6, B3.l7, B3.jm, B3.j0, B3.j1, B3.j2, B3.j3, B3.j4, B3.j5, B3.j6, B3.j7, B3.o6, B3.o7, B3.wf, B3.keep, go_sem, Nat.reduceEqDiff, ↓reduceIte, Nat.reduceAdd, Nat.reduceMul, Nat.reduceLeDiff, Nat.reduceLT, reduceCtorEq, Int.reduceToNat, Int.reduceLE, Int.reduceLT, Int.reduceEq, Int.reduceNeg, Int.reduceNe, Int.reducePow, Nat.reducePow, Nat.reduceSub, IntKind.bits]
  · simp (maxSteps := 10000000) (maxDischargeDepth := 30) only [B3.gm, B3.g0, B3.g1, B3.g2, B3.g3, B3.g4, B3.g5, B3.g6, B3.g7, B3.lm, B3.l0, B3.l1, B3.l2, B3.l3, B3.l4, B3.l5, B3.l6, B3.l7, B3.jm, B3.j0, B3.j1, B3.j2, B3.j3, B3.j4, B3.j5, B3.j6, B3.j7, B3.o6, B3.o7, B3.wf, B3.keep, go_sem, Nat.reduceEqDiff, ↓reduceIte, Nat.reduceAdd, Nat.reduceMul, Nat.reduceLeDiff, Nat.reduceLT, reduceCtorEq, Int.reduceToNat, Int.reduceLE, Int.reduceLT, Int.reduceEq, Int.reduceNeg, Int.reduceNe, Int.reducePow, Nat.reducePow, Nat.reduceSub, IntKind.bits]
  have B4 := B3.next (k4.to (by simp (maxSteps := 10000000) (maxDischargeDepth := 30) only [B3.gm, B3.g0, B3.g1, B3.g2, B3.g3, B3.g4, B3.g5, B3.g6, B3.g7, B3.lm, B3.l0, B3.l1, B3.l2, B3.l3, B3.l4, B3.l5, B3.l6, B3.l7, B3.jm, B3.j0, B3.j1, B3.j2, B3.j3, B3.j4, B3.j5, B3.j6, B3.j7, B3.o6, B3.o7, B3.wf, B3.keep, go_sem, Nat.reduceEqDiff, ↓reduceIte, Nat.reduceAdd, Nat.reduceMul, Nat.reduceLeDiff, Nat.reduceLT, reduceCtorEq, Int.reduceToNat, Int.reduceLE, Int.reduceLT, Int.reduceEq, Int.reduceNeg, Int.reduceNe, Int.reducePow, Nat.reducePow, Nat.reduceSub, IntKind.bits])) w4
  have e4 : inR (0) (536870912) [g.rule, g.sep, g.grid] = true ∨ inR (0) (536870912) [g.rule, g.sep, g.grid] = false := by cases inR (0) (536870912) [g.rule, g.sep, g.grid] <;> simp
  rcases e4 with e4 | e4
  rotate_left
  · simp (maxSteps := 10000000) (maxDischargeDepth := 30) only [e4, B4.gm, B4.g0, B4.g1, B4.g2, B4.g3, B4.g4, B4.g5, B4.g6, B4.g7, B4.lm, B4.l0, B4.l1, B4.l2, B4.l3, B4.l4, B4.l5, B4.l6, B4.l7, B4.jm, B4.j0, B4.j1, B4.j2, B4.j3, B4.j4, B4.j5, B4.j6, B4.j7, B4.o6, B4.o7, B4.wf, B4.keep, cWithI, cWithS, go_sem, Nat.reduceEqDiff, ↓reduceIte, Nat.reduceAdd, Nat.reduceMul, Nat.reduceLeDiff, Nat.reduceLT, reduceCtorEq, Int.reduceToNat, Int.reduceLE, Int.reduceLT, Int.reduceEq, Int.reduceNeg, Int.reduceNe, Int.reducePow, Nat.reducePow, Nat.reduceSub, IntKind.bits]
    congr 1
    simp only [inR, in1, Bool.and_eq_true, Bool.and_eq_false_iff, decide_eq_true_eq, decide_eq_false_iff_not, Bool.and_true, Bool.true_eq_false, or_false] at e1 e2 e3 e4
    unfold geoCheck
    rw [if_neg (by omega), if_pos (by omega)]
  simp (maxSteps := 10000000) (maxDischargeDepth := 30) only [e4, B4.gm, B4.g0, B4.g1, B4.g2, B4.g3, B4.g4, B4.g5, B4.g6, B4.g7, B4.lm, B4.l0, B4.l1, B4.l2, B4.l3, B4.l4, B4.l5, B4.l6, B4.l7, B4.jm, B4.j0, B4.j1, B4.j2, B4.j3, B4.j4, B4.j5, B4.j6, B4.j7, B4.o6, B4.o7, B4.wf, B4.keep, cWithI, cWithS, go_sem, Nat.reduceEqDiff, ↓reduceIte, Nat.reduceAdd, Nat.reduceMul, Nat.reduceLeDiff, Nat.reduceLT, reduceCtorEq, Int.reduceToNat, Int.reduceLE, Int.reduceLT, Int.reduceEq, Int.reduceNeg, Int.reduceNe, Int.reducePow, Nat.reducePow, Nat.reduceSub, IntKind.bits]
  refine rw_kcall (cInS _ [g.first] (by simp) _ _ false false (1) (g.high) _ ?_ ?_ ?_) ?_ (fun h5 k5 w5 => ?_)
  · simp (maxSteps := 10000000) (maxDischargeDepth := 30) only [B4.gm, B4.g0, B4.g1, B4.g2, B4.g3, B4.g4, B4.g5, B4.g6, B4.g7, B4.lm, B4.l0, B4.l1, B4.l2, B4.l3, B4.l4, B4.l5, B4.l6, B4.l7, B4.jm, B4.j0, B4.j1, B4.j2, B4.j3, B4.j4, B4.j5, B4.j6, B4.j7, B4.o6, B4.o7, B4.wf, B4.keep, go_sem, Nat.reduceEqDiff, ↓reduceIte, Nat.reduceAdd, Nat.reduceMul, Nat.reduceLeDiff, Nat.reduceLT, reduceCtorEq, Int.reduceToNat, Int.reduceLE, Int.reduceLT, Int.reduceEq, Int.reduceNeg, Int.reduceNe, Int.reducePow, Nat.reducePow, Nat.reduceSub, IntKind.bits]
  · simp (maxSteps := 10000000) (maxDischargeDepth := 30) only [B4.gm, B4.g0, B4.g1, B4.g2, B4.g3, B4.g4, B4.g5, B4.g6, B4.g7, B4.lm, B4.l0, B4.l1, B4.l2, B4.l3, B4.l4, B4.l5, B4.l6, B4.l7, B4.jm, B4.j0, B4.j1, B4.j2, B4.j3, B4.j4, B4.j5, B4.j6, B4.j7, B4.o6, B4.o7, B4.wf, B4.keep, go_sem, Nat.reduceEqDiff, ↓reduceIte, Nat.reduceAdd, Nat.reduceMul, Nat.reduceLeDiff, Nat.reduceLT, reduceCtorEq, Int.reduceToNat, Int.reduceLE, Int.reduceLT, Int.reduceEq, Int.reduceNeg, Int.reduceNe, Int.reducePow, Nat.reducePow, Nat.reduceSub, IntKind.bits]
  · simp (maxSteps := 10000000) (maxDischargeDepth := 30) only [B4.gm, B4.g0, B4.g1, B4.g2, B4.g3, B4.g4, B4.g5, B4.g6, B4.g7, B4.lm, B4.l0, B4.l1, B4.l2, B4.l3, B4.l4, B4.l5, B4.l6, B4.l7, B4.jm, B4.j0, B4.j1, B4.j2, B4.j3, B4.j4, B4.j5, B4.j6, B4.j7, B4.o6, B4.o7, B4.wf, B4.keep, go_sem, Nat.reduceEqDiff, ↓reduceIte, Nat.reduceAdd, Nat.reduceMul, Nat.reduceLeDiff, Nat.reduceLT, reduceCtorEq, Int.reduceToNat, Int.reduceLE, Int.reduceLT, Int.reduceEq, Int.reduceNeg, Int.reduceNe, Int.reducePow, Nat.reducePow, Nat.reduceSub, IntKind.bits]
  · simp (maxSteps := 10000000) (maxDischargeDepth := 30) only [B4.gm, B4.g0, B4.g1, B4.g2, B4.g3, B4.g4, B4.g5, B4.g6, B4.g7, B4.lm, B4.l0, B4.l1, B4.l2, B4.l3, B4.l4, B4.l5, B4.l6, B4.l7, B4.jm, B4.j0, B4.j1, B4.j2, B4.j3, B4.j4, B4.j5, B4.j6, B4.j7, B4.o6, B4.o7, B4.wf, B4.keep, go_sem, Nat.reduceEqDiff, ↓reduceIte, Nat.reduceAdd, Nat.reduceMul, Nat.reduceLeDiff, Nat.reduceLT, reduceCtorEq, Int.reduceToNat, Int.reduceLE, Int.reduceLT, Int.reduceEq, Int.reduceNeg, Int.reduceNe, Int.reducePow, Nat.reducePow, Nat.reduceSub, IntKind.bits]
  have B5 := B4.next (k5.to (by simp (maxSteps := 10000000) (maxDischargeDepth := 30) only [B4.gm, B4.g0, B4.g1, B4.g2, B4.g3, B4.g4, B4.g5, B4.g6, B4.g7, B4.lm, B4.l0, B4.l1, B4.l2, B4.l3, B4.l4, B4.l5, B4.l6, B4.l7, B4.jm, B4.j0, B4.j1, B4.j2, B4.j3, B4.j4, B4.j5, B4.j6, B4.j7, B4.o6, B4.o7, B4.wf, B4.keep, go_sem, Nat.reduceEqDiff, ↓reduceIte, Nat.reduceAdd, Nat.reduceMul, Nat.reduceLeDiff, Nat.reduceLT, reduceCtorEq, Int.reduceToNat, Int.reduceLE, Int.reduceLT, Int.reduceEq, Int.reduceNeg, Int.reduceNe, Int.reducePow, Nat.reducePow, Nat.reduceSub, IntKind.bits])) w5
  have e5 : inR (1) (g.high) [g.first] = true ∨ inR (1) (g.high) [g.first] = false := by cases inR (1) (g.high) [g.first] <;> simp
  rcases e5 with e5 | e5
  rotate_left
  · simp (maxSteps := 10000000) (maxDischargeDepth := 30) only [e5, B5.gm, B5.g0, B5.g1, B5.g2, B5.g3, B5.g4, B5.g5, B5.g6, B5.g7, B5.lm, B5.l0, B5.l1, B5.l2, B5.l3, B5.l4, B5.l5, B5.l6, B5.l7, B5.jm, B5.j0, B5.j1, B5.j2, B5.j3, B5.j4, B5.j5, B5.j6, B5.j7, B5.o6, B5.o7, B5.wf, B5.keep, cWithI, cWithS, go_sem, Nat.reduceEqDiff, ↓reduceIte, Nat.reduceAdd, Nat.reduceMul, Nat.reduceLeDiff, Nat.reduceLT, reduceCtorEq, Int.reduceToNat, Int.reduceLE, Int.reduceLT, Int.reduceEq, Int.reduceNeg, Int.reduceNe, Int.reducePow, Nat.reducePow, Nat.reduceSub, IntKind.bits]
    congr 1
    simp only [inR, in1, Bool.and_eq_true, Bool.and_eq_false_iff, decide_eq_true_eq, decide_eq_false_iff_not, Bool.and_true, Bool.true_eq_false, or_false] at e1 e2 e3 e4 e5
    unfold geoCheck
    rw [if_neg (by omega), if_pos (by omega)]
  simp (maxSteps := 10000000) (maxDischargeDepth := 30) only [e5, B5.gm, B5.g0, B5.g1, B5.g2, B5.g3, B5.g4, B5.g5, B5.g6, B5.g7, B5.lm, B5.l0, B5.l1, B5.l2, B5.l3, B5.l4, B5.l5, B5.l6, B5.l7, B5.jm, B5.j0, B5.j1, B5.j2, B5.j3, B5.j4, B5.j5, B5.j6, B5.j7, B5.o6, B5.o7, B5.wf, B5.keep, cWithI, cWithS, go_sem, Nat.reduceEqDiff, ↓reduceIte, Nat.reduceAdd, Nat.reduceMul, Nat.reduceLeDiff, Nat.reduceLT, reduceCtorEq, Int.reduceToNat, Int.reduceLE, Int.reduceLT, Int.reduceEq, Int.reduceNeg, Int.reduceNe, Int.reducePow, Nat.reducePow, Nat.reduceSub, IntKind.bits]
  refine rw_kcall (cInS _ [g.grid] (by simp) _ _ false false (0) (g.first) _ ?_ ?_ ?_) ?_ (fun h6 k6 w6 => ?_)
  · simp (maxSteps := 10000000) (maxDischargeDepth := 30) only [B5.gm, B5.g0, B5.g1, B5.g2, B5.g3, B5.g4, B5.g5, B5.g6, B5.g7, B5.lm, B5.l0, B5.l1, B5.l2, B5.l3, B5.l4, B5.l5, B5.l6, B5.l7, B5.jm, B5.j0, B5.j1, B5.j2, B5.j3, B5.j4, B5.j5, B5.j6, B5.j7, B5.o6, B5.o7, B5.wf, B5.keep, go_sem, Nat.reduceEqDiff, ↓reduceIte, Nat.reduceAdd, Nat.reduceMul, Nat.reduceLeDiff, Nat.reduceLT, reduceCtorEq, Int.reduceToNat, Int.reduceLE, Int.reduceLT, Int.reduceEq, Int.reduceNeg, Int.reduceNe, Int.reducePow, Nat.reducePow, Nat.reduceSub, IntKind.bits]
  · simp (maxSteps := 10000000) (maxDischargeDepth := 30) only [B5.gm, B5.g0, B5.g1, B5.g2, B5.g3, B5.g4, B5.g5, B5.g6, B5.g7, B5.lm, B5.l0, B5.l1, B5.l2, B5.l3, B5.l4, B5.l5, B5.l6, B5.l7, B5.jm, B5.j0, B5.j1, B5.j2, B5.j3, B5.j4, B5.j5, B5.j6, B5.j7, B5.o6, B5.o7, B5.wf, B5.keep, go_sem, Nat.reduceEqDiff, ↓reduceIte, Nat.reduceAdd, Nat.reduceMul, Nat.reduceLeDiff, Nat.reduceLT, reduceCtorEq, Int.reduceToNat, Int.reduceLE, Int.reduceLT, Int.reduceEq, Int.reduceNeg, Int.reduceNe, Int.reducePow, Nat.reducePow, Nat.reduceSub, IntKind.bits]
  · simp (maxSteps := 10000000) (maxDischargeDepth := 30) only [B5.gm, B5.g0, B5.g1, B5.g2, B5.g3, B5.g4, B5.g5, B5.g6, B5.g7, B5.lm, B5.l0, B5.l1, B5.l2, B5.l3, B5.l4, B5.l5, B5.l6, B5.l7, B5.jm, B5.j0, B5.j1, B5.j2, B5.j3, B5.j4, B5.j5, B5.j6, B5.j7, B5.o6, B5.o7, B5.wf, B5.keep, go_sem, Nat.reduceEqDiff, ↓reduceIte, Nat.reduceAdd, Nat.reduceMul, Nat.reduceLeDiff, Nat.reduceLT, reduceCtorEq, Int.reduceToNat, Int.reduceLE, Int.reduceLT, Int.reduceEq, Int.reduceNeg, Int.reduceNe, Int.reducePow, Nat.reducePow, Nat.reduceSub, IntKind.bits]
  · simp (maxSteps := 10000000) (maxDischargeDepth := 30) only [B5.gm, B5.g0, B5.g1, B5.g2, B5.g3, B5.g4, B5.g5, B5.g6, B5.g7, B5.lm, B5.l0, B5.l1, B5.l2, B5.l3, B5.l4, B5.l5, B5.l6, B5.l7, B5.jm, B5.j0, B5.j1, B5.j2, B5.j3, B5.j4, B5.j5, B5.j6, B5.j7, B5.o6, B5.o7, B5.wf, B5.keep, go_sem, Nat.reduceEqDiff, ↓reduceIte, Nat.reduceAdd, Nat.reduceMul, Nat.reduceLeDiff, Nat.reduceLT, reduceCtorEq, Int.reduceToNat, Int.reduceLE, Int.reduceLT, Int.reduceEq, Int.reduceNeg, Int.reduceNe, Int.reducePow, Nat.reducePow, Nat.reduceSub, IntKind.bits]
  have B6 := B5.next (k6.to (by simp (maxSteps := 10000000) (maxDischargeDepth := 30) only [B5.gm, B5.g0, B5.g1, B5.g2, B5.g3, B5.g4, B5.g5, B5.g6, B5.g7, B5.lm, B5.l0, B5.l1, B5.l2, B5.l3, B5.l4, B5.l5, B5.l6, B5.l7, B5.jm, B5.j0, B5.j1, B5.j2, B5.j3, B5.j4, B5.j5, B5.j6, B5.j7, B5.o6, B5.o7, B5.wf, B5.keep, go_sem, Nat.reduceEqDiff, ↓reduceIte, Nat.reduceAdd, Nat.reduceMul, Nat.reduceLeDiff, Nat.reduceLT, reduceCtorEq, Int.reduceToNat, Int.reduceLE, Int.reduceLT, Int.reduceEq, Int.reduceNeg, Int.reduceNe, Int.reducePow, Nat.reducePow, Nat.reduceSub, IntKind.bits])) w6
  have e6 : inR (0) (g.first) [g.grid] = true ∨ inR (0) (g.first) [g.grid] = false := by cases inR (0) (g.first) [g.grid] <;> simp
  rcases e6 with e6 | e6
  rotate_left
  · simp (maxSteps := 10000000) (maxDischargeDepth := 30) only [e6, B6.gm, B6.g0, B6.g1, B6.g2, B6.g3, B6.g4, B6.g5, B6.g6, B6.g7, B6.lm, B6.l0, B6.l1, B6.l2, B6.l3, B6.l4, B6.l5, B6.l6, B6.l7, B6.jm, B6.j0, B6.j1, B6.j2, B6.j3, B6.j4, B6.j5, B6.j6, B6.j7, B6.o6, B6.o7, B6.wf, B6.keep, cWithI, cWithS, go_sem, Nat.reduceEqDiff, ↓reduceIte, Nat.reduceAdd, Nat.reduceMul, Nat.reduceLeDiff, Nat.reduceLT, reduceCtorEq, Int.reduceToNat, Int.reduceLE, Int.reduceLT, Int.reduceEq, Int.reduceNeg, Int.reduceNe, Int.reducePow, Nat.reducePow, Nat.reduceSub, IntKind.bits]
    congr 1
    simp only [inR, in1, Bool.and_eq_true, Bool.and_eq_false_iff, decide_eq_true_eq, decide_eq_false_iff_not, Bool.and_true, Bool.true_eq_false, or_false] at e1 e2 e3 e4 e5 e6
    unfold geoCheck
    rw [if_neg (by omega), if_pos (by omega)]
  simp (maxSteps := 10000000) (maxDischargeDepth := 30) only [e6, B6.gm, B6.g0, B6.g1, B6.g2, B6.g3, B6.g4, B6.g5, B6.g6, B6.g7, B6.lm, B6.l0, B6.l1, B6.l2, B6.l3, B6.l4, B6.l5, B6.l6, B6.l7, B6.jm, B6.j0, B6.j1, B6.j2, B6.j3, B6.j4, B6.j5, B6.j6, B6.j7, B6.o6, B6.o7, B6.wf, B6.keep, cWithI, cWithS, go_sem, Nat.reduceEqDiff, ↓reduceIte, Nat.reduceAdd, Nat.reduceMul, Nat.reduceLeDiff, Nat.reduceLT, reduceCtorEq, Int.reduceToNat, Int.reduceLE, Int.reduceLT, Int.reduceEq, Int.reduceNeg, Int.reduceNe, Int.reducePow, Nat.reducePow, Nat.reduceSub, IntKind.bits]
  refine rw_kcall (cInI _ [g.topMany, g.botMany] (by simp) _ _ false false (0) (4) _ ?_ ?_ ?_) ?_ (fun h7 k7 w7 => ?_)
  · simp (maxSteps := 10000000) (maxDischargeDepth := 30) only [B6.gm, B6.g0, B6.g1, B6.g2, B6.g3, B6.g4, B6.g5, B6.g6, B6.g7, B6.lm, B6.l0, B6.l1, B6.l2, B6.l3, B6.l4, B6.l5, B6.l6, B6.l7, B6.jm, B6.j0, B6.j1, B6.j2, B6.j3, B6.j4, B6.j5, B6.j6, B6.j7, B6.o6, B6.o7, B6.wf, B6.keep, go_sem, Nat.reduceEqDiff, ↓reduceIte, Nat.reduceAdd, Nat.reduceMul, Nat.reduceLeDiff, Nat.reduceLT, reduceCtorEq, Int.reduceToNat, Int.reduceLE, Int.reduceLT, Int.reduceEq, Int.reduceNeg, Int.reduceNe, Int.reducePow, Nat.reducePow, Nat.reduceSub, IntKind.bits]
  · simp (maxSteps := 10000000) (maxDischargeDepth := 30) only [B6.gm, B6.g0, B6.g1, B6.g2, B6.g3, B6.g4, B6.g5, B6.g6, B6.g7, B6.lm, B6.l0, B6.l1, B6.l2, B6.l3, B6.l4, B6.l5, B6.l6, B6.l7, B6.jm, B6.j0, B6.j1, B6.j2, B6.j3, B6.j4, B6.j5, B6.j6, B6.j7, B6.o6, B6.o7, B6.wf, B6.keep, go_sem, Nat.reduceEqDiff, ↓reduceIte, Nat.reduceAdd, Nat.reduceMul, Nat.reduceLeDiff, Nat.reduceLT, reduceCtorEq, Int.reduceToNat, Int.reduceLE, Int.reduceLT, Int.reduceEq, Int.reduceNeg, Int.reduceNe, Int.reducePow, Nat.reducePow, Nat.reduceSub, IntKind.bits]
  · simp (maxSteps := 10000000) (maxDischargeDepth := 30) only [B6.gm, B6.g0, B6.g1, B6.g2, B6.g3, B6.g4, B6.g5, B6.g6, B6.g7, B6.lm, B6.l0, B6.l1, B6.l2, B6.l3, B6.l4, B6.l5, B6.l6, B6.l7, B6.jm, B6.j0, B6.j1, B6.j2, B6.j3, B6.j4, B6.j5, B6.j6, B6.j7, B6.o6, B6.o7, B6.wf, B6.keep, go_sem, Nat.reduceEqDiff, ↓reduceIte, Nat.reduceAdd, Nat.reduceMul, Nat.reduceLeDiff, Nat.reduceLT, reduceCtorEq, Int.reduceToNat, Int.reduceLE, Int.reduceLT, Int.reduceEq, Int.reduceNeg, Int.reduceNe, Int.reducePow, Nat.reducePow, Nat.reduceSub, IntKind.bits]
  · simp (maxSteps := 10000000) (maxDischargeDepth := 30) only [B6.gm, B6.g0, B6.g1, B6.g2, B6.g3, B6.g4, B6.g5, B6.g6, B6.g7, B6.lm, B6.l0, B6.l1, B6.l2, B6.l3, B6.l4, B6.l5, B6.l6, B6.l7, B6.jm, B6.j0, B6.j1, B6.j2, B6.j3, B6.j4, B6.j5, B6.j6, B6.j7, B6.o6, B6.o7, B6.wf, B6.keep, go_sem, Nat.reduceEqDiff, ↓reduceIte, Nat.reduceAdd, Nat.reduceMul, Nat.reduceLeDiff, Nat.reduceLT, reduceCtorEq, Int.reduceToNat, Int.reduceLE, Int.reduceLT, Int.reduceEq, Int.reduceNeg, Int.reduceNe, Int.reducePow, Nat.reducePow, Nat.reduceSub, IntKind.bits]
  have B7 := B6.next (k7.to (by simp (maxSteps := 10000000) (maxDischargeDepth := 30) only [B6.gm, B6.g0, B6.g1, B6.g2, B6.g3, B6.g4, B6.g5, B6.g6, B6.g7, B6.lm, B6.l0, B6.l1, B6.l2, B6.l3, B6.l4, B6.l5, B6.l6, B6.l7, B6.jm, B6.j0, B6.j1, B6.j2, B6.j3, B6.j4, B6.j5, B6.j6, B6.j7, B6.o6, B6.o7, B6.wf, B6.keep, go_sem, Nat.reduceEqDiff, ↓reduceIte, Nat.reduceAdd, Nat.reduceMul, Nat.reduceLeDiff, Nat.reduceLT, reduceCtorEq, Int.reduceToNat, Int.reduceLE, Int.reduceLT, Int.reduceEq, Int.reduceNeg, Int.reduceNe, Int.reducePow, Nat.reducePow, Nat.reduceSub, IntKind.bits])) w7
  have e7 : inR (0) (4) [g.topMany, g.botMany] = true ∨ inR (0) (4) [g.topMany, g.botMany] = false := by cases inR (0) (4) [g.topMany, g.botMany] <;> simp
  rcases e7 with e7 | e7
  rotate_left
  · simp (maxSteps := 10000000) (maxDischargeDepth := 30) only [e7, B7.gm, B7.g0, B7.g1, B7.g2, B7.g3, B7.g4, B7.g5, B7.g6, B7.g7, B7.lm, B7.l0, B7.l1, B7.l2, B7.l3, B7.l4, B7.l5, B7.l6, B7.l7, B7.jm, B7.j0, B7.j1, B7.j2, B7.j3, B7.j4, B7.j5, B7.j6, B7.j7, B7.o6, B7.o7, B7.wf, B7.keep, cWithI, cWithS, go_sem, Nat.reduceEqDiff, ↓reduceIte, Nat.reduceAdd, Nat.reduceMul, Nat.reduceLeDiff, Nat.reduceLT, reduceCtorEq, Int.reduceToNat, Int.reduceLE, Int.reduceLT, Int.reduceEq, Int.reduceNeg, Int.reduceNe, Int.reducePow, Nat.reducePow, Nat.reduceSub, IntKind.bits]
    congr 1
    simp only [inR, in1, Bool.and_eq_true, Bool.and_eq_false_iff, decide_eq_true_eq, decide_eq_false_iff_not, Bool.and_true, Bool.true_eq_false, or_false] at e1 e2 e3 e4 e5 e6 e7
    unfold geoCheck
    rw [if_neg (by omega), if_pos (by omega)]
  simp (maxSteps := 10000000) (maxDischargeDepth := 30) only [e7, B7.gm, B7.g0, B7.g1, B7.g2, B7.g3, B7.g4, B7.g5, B7.g6, B7.g7, B7.lm, B7.l0, B7.l1, B7.l2, B7.l3, B7.l4, B7.l5, B7.l6, B7.l7, B7.jm, B7.j0, B7.j1, B7.j2, B7.j3, B7.j4, B7.j5, B7.j6, B7.j7, B7.o6, B7.o7, B7.wf, B7.keep, cWithI, cWithS, go_sem, Nat.reduceEqDiff, ↓reduceIte, Nat.reduceAdd, Nat.reduceMul, Nat.reduceLeDiff, Nat.reduceLT, reduceCtorEq, Int.reduceToNat, Int.reduceLE, Int.reduceLT, Int.reduceEq, Int.reduceNeg, Int.reduceNe, Int.reducePow, Nat.reducePow, Nat.reduceSub, IntKind.bits]
  have C8 := B7.ro7
  generalize hx8 : H.put _ _ _ = x8 at C8 ⊢
  have hl8 : h7.len = x8.len := by rw [← hx8]; exact (len_put _ _ _).symm
  refine rw_kcall (cInI _ [g.club, g.widow, g.split, g.defer_, g.spare] (by simp) _ _ false false (0) (1048576) _ ?_ ?_ ?_) ?_ (fun h8 k8 w8 => ?_)
  · simp (maxSteps := 10000000) (maxDischargeDepth := 30) only [C8.gm, C8.g0, C8.g1, C8.g2, C8.g3, C8.g4, C8.g5, C8.g6, C8.g7, C8.lm, C8.l0, C8.l1, C8.l2, C8.l3, C8.l4, C8.l5, C8.l6, C8.l7, C8.jm, C8.j0, C8.j1, C8.j2, C8.j3, C8.j4, C8.j5, C8.j6, C8.j7, C8.o6, C8.o7, C8.wf, C8.keep, hl8, go_sem, Nat.reduceEqDiff, ↓reduceIte, Nat.reduceAdd, Nat.reduceMul, Nat.reduceLeDiff, Nat.reduceLT, reduceCtorEq, Int.reduceToNat, Int.reduceLE, Int.reduceLT, Int.reduceEq, Int.reduceNeg, Int.reduceNe, Int.reducePow, Nat.reducePow, Nat.reduceSub, IntKind.bits]
  · simp (maxSteps := 10000000) (maxDischargeDepth := 30) only [C8.gm, C8.g0, C8.g1, C8.g2, C8.g3, C8.g4, C8.g5, C8.g6, C8.g7, C8.lm, C8.l0, C8.l1, C8.l2, C8.l3, C8.l4, C8.l5, C8.l6, C8.l7, C8.jm, C8.j0, C8.j1, C8.j2, C8.j3, C8.j4, C8.j5, C8.j6, C8.j7, C8.o6, C8.o7, C8.wf, C8.keep, hl8, go_sem, Nat.reduceEqDiff, ↓reduceIte, Nat.reduceAdd, Nat.reduceMul, Nat.reduceLeDiff, Nat.reduceLT, reduceCtorEq, Int.reduceToNat, Int.reduceLE, Int.reduceLT, Int.reduceEq, Int.reduceNeg, Int.reduceNe, Int.reducePow, Nat.reducePow, Nat.reduceSub, IntKind.bits]
  · simp (maxSteps := 10000000) (maxDischargeDepth := 30) only [C8.gm, C8.g0, C8.g1, C8.g2, C8.g3, C8.g4, C8.g5, C8.g6, C8.g7, C8.lm, C8.l0, C8.l1, C8.l2, C8.l3, C8.l4, C8.l5, C8.l6, C8.l7, C8.jm, C8.j0, C8.j1, C8.j2, C8.j3, C8.j4, C8.j5, C8.j6, C8.j7, C8.o6, C8.o7, C8.wf, C8.keep, hl8, go_sem, Nat.reduceEqDiff, ↓reduceIte, Nat.reduceAdd, Nat.reduceMul, Nat.reduceLeDiff, Nat.reduceLT, reduceCtorEq, Int.reduceToNat, Int.reduceLE, Int.reduceLT, Int.reduceEq, Int.reduceNeg, Int.reduceNe, Int.reducePow, Nat.reducePow, Nat.reduceSub, IntKind.bits]
  · simp (maxSteps := 10000000) (maxDischargeDepth := 30) only [C8.gm, C8.g0, C8.g1, C8.g2, C8.g3, C8.g4, C8.g5, C8.g6, C8.g7, C8.lm, C8.l0, C8.l1, C8.l2, C8.l3, C8.l4, C8.l5, C8.l6, C8.l7, C8.jm, C8.j0, C8.j1, C8.j2, C8.j3, C8.j4, C8.j5, C8.j6, C8.j7, C8.o6, C8.o7, C8.wf, C8.keep, hl8, go_sem, Nat.reduceEqDiff, ↓reduceIte, Nat.reduceAdd, Nat.reduceMul, Nat.reduceLeDiff, Nat.reduceLT, reduceCtorEq, Int.reduceToNat, Int.reduceLE, Int.reduceLT, Int.reduceEq, Int.reduceNeg, Int.reduceNe, Int.reducePow, Nat.reducePow, Nat.reduceSub, IntKind.bits]
  have B8 := C8.next (k8.to (by simp (maxSteps := 10000000) (maxDischargeDepth := 30) only [C8.gm, C8.g0, C8.g1, C8.g2, C8.g3, C8.g4, C8.g5, C8.g6, C8.g7, C8.lm, C8.l0, C8.l1, C8.l2, C8.l3, C8.l4, C8.l5, C8.l6, C8.l7, C8.jm, C8.j0, C8.j1, C8.j2, C8.j3, C8.j4, C8.j5, C8.j6, C8.j7, C8.o6, C8.o7, C8.wf, C8.keep, go_sem, Nat.reduceEqDiff, ↓reduceIte, Nat.reduceAdd, Nat.reduceMul, Nat.reduceLeDiff, Nat.reduceLT, reduceCtorEq, Int.reduceToNat, Int.reduceLE, Int.reduceLT, Int.reduceEq, Int.reduceNeg, Int.reduceNe, Int.reducePow, Nat.reducePow, Nat.reduceSub, IntKind.bits])) w8
  have e8 : inR (0) (1048576) [g.club, g.widow, g.split, g.defer_, g.spare] = true ∨ inR (0) (1048576) [g.club, g.widow, g.split, g.defer_, g.spare] = false := by cases inR (0) (1048576) [g.club, g.widow, g.split, g.defer_, g.spare] <;> simp
  rcases e8 with e8 | e8
  rotate_left
  · simp (maxSteps := 10000000) (maxDischargeDepth := 30) only [e8, B8.gm, B8.g0, B8.g1, B8.g2, B8.g3, B8.g4, B8.g5, B8.g6, B8.g7, B8.lm, B8.l0, B8.l1, B8.l2, B8.l3, B8.l4, B8.l5, B8.l6, B8.l7, B8.jm, B8.j0, B8.j1, B8.j2, B8.j3, B8.j4, B8.j5, B8.j6, B8.j7, B8.o6, B8.o7, B8.wf, B8.keep, cWithI, cWithS, go_sem, Nat.reduceEqDiff, ↓reduceIte, Nat.reduceAdd, Nat.reduceMul, Nat.reduceLeDiff, Nat.reduceLT, reduceCtorEq, Int.reduceToNat, Int.reduceLE, Int.reduceLT, Int.reduceEq, Int.reduceNeg, Int.reduceNe, Int.reducePow, Nat.reducePow, Nat.reduceSub, IntKind.bits]
    congr 1
    simp only [inR, in1, Bool.and_eq_true, Bool.and_eq_false_iff, decide_eq_true_eq, decide_eq_false_iff_not, Bool.and_true, Bool.true_eq_false, or_false] at e1 e2 e3 e4 e5 e6 e7 e8
    unfold geoCheck
    rw [if_neg (by omega), if_pos (by omega)]
  simp (maxSteps := 10000000) (maxDischargeDepth := 30) only [e8, B8.gm, B8.g0, B8.g1, B8.g2, B8.g3, B8.g4, B8.g5, B8.g6, B8.g7, B8.lm, B8.l0, B8.l1, B8.l2, B8.l3, B8.l4, B8.l5, B8.l6, B8.l7, B8.jm, B8.j0, B8.j1, B8.j2, B8.j3, B8.j4, B8.j5, B8.j6, B8.j7, B8.o6, B8.o7, B8.wf, B8.keep, cWithI, cWithS, go_sem, Nat.reduceEqDiff, ↓reduceIte, Nat.reduceAdd, Nat.reduceMul, Nat.reduceLeDiff, Nat.reduceLT, reduceCtorEq, Int.reduceToNat, Int.reduceLE, Int.reduceLT, Int.reduceEq, Int.reduceNeg, Int.reduceNe, Int.reducePow, Nat.reducePow, Nat.reduceSub, IntKind.bits]
  congr 1
  simp only [inR, in1, Bool.and_eq_true, Bool.and_eq_false_iff, decide_eq_true_eq, decide_eq_false_iff_not, Bool.and_true, Bool.true_eq_false, or_false] at e1 e2 e3 e4 e5 e6 e7 e8
  unfold geoCheck
  rw [if_neg (by omega), if_neg (by omega)]
end Go.LM
