import Derived.Test.YtmanbekgnooocaaLmC4
namespace Go.LM
open Go.Proofs
set_option maxRecDepth 4000
set_option linter.unusedSimpArgs false

theorem figAt_none' {l : List Flo} {n : Int} (h : figAt l n = none) (h0 : 0 ≤ n) : ¬ n < l.length := by
  have := figAt_none h; omega
def I22 (o o2 : Option (Nat × Nat)) (l : List Flo) (ids : List Int) (sep : Int) (h0 : H) (i : Nat) (s : S) (h : H) : Prop :=
  s 0 = flos o l ∧ s 1 = ints o2 ids ∧ s 2 = .int .i64 sep ∧ s 7 = .int .i64 ((ids.take i).foldl (hiStep l sep) 0) ∧ s 8 = .int .i64 i ∧ i ≤ ids.length ∧ Keep h0 h ∧ WF h

theorem c22 (o o2 : Option (Nat × Nat)) (l : List Flo) (ids : List Int) (sep : Int) (hl : ids.length ≤ 1000) (h : H) (w : WF h) :
    runI Try.prog TA 22 [flos o l, ints o2 ids, .int .i64 sep] h = some (.int .i64 (high l ids sep), hp Try.prog TA 22 [flos o l, ints o2 ids, .int .i64 sep] h) := by
  refine pure_of rfl res22 rfl ?_
  simp (maxSteps := 10000000) (maxDischargeDepth := 30) only [q22, r22, go_sem, Nat.reduceEqDiff, ↓reduceIte, Nat.reduceAdd, Nat.reduceMul, Nat.reduceLeDiff, Nat.reduceLT, reduceCtorEq, Int.reduceToNat, Int.reduceLE, Int.reduceLT, Int.reduceEq, Int.reduceNeg, Int.reduceNe, Int.reducePow, Nat.reducePow, Nat.reduceSub, IntKind.bits]
  refine ru_loop (fun i => ids.length - i) (I22 o o2 l ids sep h) 0 ?_ ?_
  · unfold I22
    simp (maxSteps := 10000000) (maxDischargeDepth := 30) only [w, List.foldl_nil, Int.natCast_zero, go_sem, Nat.reduceEqDiff, ↓reduceIte, Nat.reduceAdd, Nat.reduceMul, Nat.reduceLeDiff, Nat.reduceLT, reduceCtorEq, Int.reduceToNat, Int.reduceLE, Int.reduceLT, Int.reduceEq, Int.reduceNeg, Int.reduceNe, Int.reducePow, Nat.reducePow, Nat.reduceSub, IntKind.bits]
  · rintro i s h1 ⟨e0, e1, e2, e7, e8, hi, k1, w1⟩
    by_cases hlt : i < ids.length
    · obtain ⟨n, hn⟩ : ∃ n, ids[i]? = some n := ⟨ids[i], List.getElem?_eq_getElem hlt⟩
      have ea := int_at hn
      have c1 : (i : Int) < ids.length := by omega
      have ew : IntKind.i64.wrap ((i : Int) + 1) = ((i + 1 : Nat) : Int) := by rw [wrap64 (by omega) (by omega)]; omega
      have hlo := le_hp0 w1
      have ef := foldl_at (hiStep l sep) 0 ids i n hn
      cases hf : figAt l n with
      | none =>
        have ef : (ids.take (i + 1)).foldl (hiStep l sep) 0 = (ids.take i).foldl (hiStep l sep) 0 := by rw [ef]; simp [hiStep, hf]
        by_cases h0 : 0 ≤ n
        · have h2 := figAt_none' hf h0
          simp (maxSteps := 10000000) (maxDischargeDepth := 30) only [e0, e1, e2, e7, e8, ea, c1, ew, w1, h0, h2, go_sem, Nat.reduceEqDiff, ↓reduceIte, Nat.reduceAdd, Nat.reduceMul, Nat.reduceLeDiff, Nat.reduceLT, reduceCtorEq, Int.reduceToNat, Int.reduceLE, Int.reduceLT, Int.reduceEq, Int.reduceNeg, Int.reduceNe, Int.reducePow, Nat.reducePow, Nat.reduceSub, IntKind.bits]
          refine ⟨i + 1, by omega, ?_⟩
          unfold I22
          simp (maxSteps := 10000000) (maxDischargeDepth := 30) only [e0, e1, e2, e7, e8, ef, k1, k1.len, w1, ew, go_sem, Nat.reduceEqDiff, ↓reduceIte, Nat.reduceAdd, Nat.reduceMul, Nat.reduceLeDiff, Nat.reduceLT, reduceCtorEq, Int.reduceToNat, Int.reduceLE, Int.reduceLT, Int.reduceEq, Int.reduceNeg, Int.reduceNe, Int.reducePow, Nat.reducePow, Nat.reduceSub, IntKind.bits]
          omega
        · simp (maxSteps := 10000000) (maxDischargeDepth := 30) only [e0, e1, e2, e7, e8, ea, c1, ew, w1, h0, go_sem, Nat.reduceEqDiff, ↓reduceIte, Nat.reduceAdd, Nat.reduceMul, Nat.reduceLeDiff, Nat.reduceLT, reduceCtorEq, Int.reduceToNat, Int.reduceLE, Int.reduceLT, Int.reduceEq, Int.reduceNeg, Int.reduceNe, Int.reducePow, Nat.reducePow, Nat.reduceSub, IntKind.bits]
          refine ⟨i + 1, by omega, ?_⟩
          unfold I22
          simp (maxSteps := 10000000) (maxDischargeDepth := 30) only [e0, e1, e2, e7, e8, ef, k1, k1.len, w1, ew, go_sem, Nat.reduceEqDiff, ↓reduceIte, Nat.reduceAdd, Nat.reduceMul, Nat.reduceLeDiff, Nat.reduceLT, reduceCtorEq, Int.reduceToNat, Int.reduceLE, Int.reduceLT, Int.reduceEq, Int.reduceNeg, Int.reduceNe, Int.reducePow, Nat.reducePow, Nat.reduceSub, IntKind.bits]
          omega
      | some f =>
        have ef : (ids.take (i + 1)).foldl (hiStep l sep) 0 = heldF (IntKind.i64.wrap (IntKind.i64.wrap ((ids.take i).foldl (hiStep l sep) 0 + heldF f.H) + heldF sep)) := by rw [ef]; simp [hiStep, hf]
        obtain ⟨h0, h2, h3⟩ := figAt_some hf
        simp (maxSteps := 10000000) (maxDischargeDepth := 30) only [e0, e1, e2, e7, e8, ea, c1, ew, w1, c64, Flo.e, h0, h2, h3, go_sem, Nat.reduceEqDiff, ↓reduceIte, Nat.reduceAdd, Nat.reduceMul, Nat.reduceLeDiff, Nat.reduceLT, reduceCtorEq, Int.reduceToNat, Int.reduceLE, Int.reduceLT, Int.reduceEq, Int.reduceNeg, Int.reduceNe, Int.reducePow, Nat.reducePow, Nat.reduceSub, IntKind.bits]
        refine ⟨i + 1, by omega, ?_⟩
        unfold I22
        simp (maxSteps := 10000000) (maxDischargeDepth := 30) only [e0, e1, e2, e7, e8, ef, k1, k1.len, w1, ew, go_sem, Nat.reduceEqDiff, ↓reduceIte, Nat.reduceAdd, Nat.reduceMul, Nat.reduceLeDiff, Nat.reduceLT, reduceCtorEq, Int.reduceToNat, Int.reduceLE, Int.reduceLT, Int.reduceEq, Int.reduceNeg, Int.reduceNe, Int.reducePow, Nat.reducePow, Nat.reduceSub, IntKind.bits]
        omega
    · have c1 : ¬ (i : Int) < ids.length := by omega
      obtain rfl : i = ids.length := by omega
      simp (maxSteps := 10000000) (maxDischargeDepth := 30) only [e0, e1, e2, e7, e8, c1, k1, List.take_length, high, go_sem, Nat.reduceEqDiff, ↓reduceIte, Nat.reduceAdd, Nat.reduceMul, Nat.reduceLeDiff, Nat.reduceLT, reduceCtorEq, Int.reduceToNat, Int.reduceLE, Int.reduceLT, Int.reduceEq, Int.reduceNeg, Int.reduceNe, Int.reducePow, Nat.reducePow, Nat.reduceSub, IntKind.bits]

/-! the same numbers -/
def I24 (o o2 : Option (Nat × Nat)) (a b : List Int) (h0 : H) (i : Nat) (s : S) (h : H) : Prop :=
  s 0 = ints o a ∧ s 1 = ints o2 b ∧ s 5 = .int .i64 i ∧ i ≤ a.length ∧ Keep h0 h ∧ WF h
theorem c24 (o o2 : Option (Nat × Nat)) (a : List Int) (hl : a.length ≤ 1000) (h : H) (w : WF h) :
    runI Try.prog TA 24 [ints o a, ints o2 a] h = some (.bool true, hp Try.prog TA 24 [ints o a, ints o2 a] h) := by
  refine pure_of rfl res24 rfl ?_
  simp (maxSteps := 10000000) (maxDischargeDepth := 30) only [q24, r24, go_sem, Nat.reduceEqDiff, ↓reduceIte, Nat.reduceAdd, Nat.reduceMul, Nat.reduceLeDiff, Nat.reduceLT, reduceCtorEq, Int.reduceToNat, Int.reduceLE, Int.reduceLT, Int.reduceEq, Int.reduceNeg, Int.reduceNe, Int.reducePow, Nat.reducePow, Nat.reduceSub, IntKind.bits]
  refine ru_loop (fun i => a.length - i) (I24 o o2 a a h) 0 ?_ ?_
  · unfold I24
    simp (maxSteps := 10000000) (maxDischargeDepth := 30) only [w, Int.natCast_zero, go_sem, Nat.reduceEqDiff, ↓reduceIte, Nat.reduceAdd, Nat.reduceMul, Nat.reduceLeDiff, Nat.reduceLT, reduceCtorEq, Int.reduceToNat, Int.reduceLE, Int.reduceLT, Int.reduceEq, Int.reduceNeg, Int.reduceNe, Int.reducePow, Nat.reducePow, Nat.reduceSub, IntKind.bits]
  · rintro i s h1 ⟨e0, e1, e5, hi, k1, w1⟩
    by_cases hlt : i < a.length
    · obtain ⟨n, hn⟩ : ∃ n, a[i]? = some n := ⟨a[i], List.getElem?_eq_getElem hlt⟩
      have ea := int_at hn
      have c1 : (i : Int) < a.length := by omega
      have ew : IntKind.i64.wrap ((i : Int) + 1) = ((i + 1 : Nat) : Int) := by rw [wrap64 (by omega) (by omega)]; omega
      simp (maxSteps := 10000000) (maxDischargeDepth := 30) only [e0, e1, e5, ea, c1, ew, go_sem, Nat.reduceEqDiff, ↓reduceIte, Nat.reduceAdd, Nat.reduceMul, Nat.reduceLeDiff, Nat.reduceLT, reduceCtorEq, Int.reduceToNat, Int.reduceLE, Int.reduceLT, Int.reduceEq, Int.reduceNeg, Int.reduceNe, Int.reducePow, Nat.reducePow, Nat.reduceSub, IntKind.bits]
      refine ⟨i + 1, by omega, ?_⟩
      unfold I24
      simp (maxSteps := 10000000) (maxDischargeDepth := 30) only [e0, e1, e5, k1, w1, ew, go_sem, Nat.reduceEqDiff, ↓reduceIte, Nat.reduceAdd, Nat.reduceMul, Nat.reduceLeDiff, Nat.reduceLT, reduceCtorEq, Int.reduceToNat, Int.reduceLE, Int.reduceLT, Int.reduceEq, Int.reduceNeg, Int.reduceNe, Int.reducePow, Nat.reducePow, Nat.reduceSub, IntKind.bits]
      omega
    · have c1 : ¬ (i : Int) < a.length := by omega
      simp (maxSteps := 10000000) (maxDischargeDepth := 30) only [e0, e1, e5, c1, k1, go_sem, Nat.reduceEqDiff, ↓reduceIte, Nat.reduceAdd, Nat.reduceMul, Nat.reduceLeDiff, Nat.reduceLT, reduceCtorEq, Int.reduceToNat, Int.reduceLE, Int.reduceLT, Int.reduceEq, Int.reduceNeg, Int.reduceNe, Int.reducePow, Nat.reducePow, Nat.reduceSub, IntKind.bits]

/-! the floats of a class -/
def ofL (l : List Flo) (c : Int) : Nat → List Int
  | 0 => []
  | i + 1 => match l[i]? with
    | some f => if f.C = c then ofL l c i ++ [(i : Int)] else ofL l c i
    | none => ofL l c i
theorem ofL_len (l : List Flo) (c : Int) : ∀ i, (ofL l c i).length ≤ i
  | 0 => by simp [ofL]
  | i + 1 => by
    have := ofL_len l c i
    simp only [ofL]
    split
    · split <;> simp <;> omega
    · omega
theorem flo_at {l : List Flo} {i : Nat} {f : Flo} (h : l[i]? = some f) : iaS (l.map Flo.e) (i : Int) = some (.cptr f.e) := iaS_map (Int.natCast_nonneg i) (by simpa using h)

def I26 (o : Option (Nat × Nat)) (l : List Flo) (c : Int) (h0 : H) (i : Nat) (s : S) (h : H) : Prop :=
  s 0 = flos o l ∧ s 1 = .int .i64 c ∧ s 6 = .int .i64 i ∧ i ≤ l.length ∧ Keep h0 h ∧ WF h ∧ ∃ o2, s 5 = ints o2 (ofL l c i) ∧ okTok o2 (ofL l c i).length h ∧ newTok o2 h0
theorem c26 (o : Option (Nat × Nat)) (l : List Flo) (c : Int) (hl : l.length ≤ 1000) (h : H) (w : WF h) :
    runI Try.prog TA 26 [flos o l, .int .i64 c] h = some (ints (tk Try.prog TA 26 [flos o l, .int .i64 c] h) (ofL l c l.length), hp Try.prog TA 26 [flos o l, .int .i64 c] h) := by
  refine pureS_of rfl res26 rfl ?_
  simp (maxSteps := 10000000) (maxDischargeDepth := 30) only [q26, r26, go_sem, Nat.reduceEqDiff, ↓reduceIte, Nat.reduceAdd, Nat.reduceMul, Nat.reduceLeDiff, Nat.reduceLT, reduceCtorEq, Int.reduceToNat, Int.reduceLE, Int.reduceLT, Int.reduceEq, Int.reduceNeg, Int.reduceNe, Int.reducePow, Nat.reducePow, Nat.reduceSub, IntKind.bits]
  refine ru_loop (fun i => l.length - i) (I26 o l c h) 0 ?_ ?_
  · unfold I26
    simp (maxSteps := 10000000) (maxDischargeDepth := 30) only [w, Int.natCast_zero, go_sem, Nat.reduceEqDiff, ↓reduceIte, Nat.reduceAdd, Nat.reduceMul, Nat.reduceLeDiff, Nat.reduceLT, reduceCtorEq, Int.reduceToNat, Int.reduceLE, Int.reduceLT, Int.reduceEq, Int.reduceNeg, Int.reduceNe, Int.reducePow, Nat.reducePow, Nat.reduceSub, IntKind.bits]
    exact ⟨none, rfl, rfl, trivial⟩
  · rintro i s h1 ⟨e0, e1, e6, hi, k1, w1, o2, e5, t1, n1⟩
    by_cases hlt : i < l.length
    · obtain ⟨f, hn⟩ : ∃ f, l[i]? = some f := ⟨l[i], List.getElem?_eq_getElem hlt⟩
      have ea := flo_at hn
      have c1 : (i : Int) < l.length := by omega
      have ew : IntKind.i64.wrap ((i : Int) + 1) = ((i + 1 : Nat) : Int) := by rw [wrap64 (by omega) (by omega)]; omega
      have hlen := ofL_len l c i
      by_cases hc : f.C = c
      · have ef : ofL l c (i + 1) = ofL l c i ++ [(i : Int)] := by simp [ofL, hn, hc]
        have k2 : Keep h1 (h1.nrow 1) := (Keep.refl h1).nrow 1
        have w2 : WF (h1.nrow 1) := wf_nrow w1
        have t2 := okTok_keep k2 t1
        have ap := append_mk (sz := 1) (by_ := 8) (ys := [LV.int .i64 (i : Int)]) (xs := (ofL l c i).map (LV.int .i64)) (o := o2) (h := h1.nrow 1) (by simpa using t2) (by simp; omega)
        simp (maxSteps := 10000000) (maxDischargeDepth := 30) only [e0, e1, e5, e6, ea, c1, ew, Flo.e, hc, ap, go_sem, Nat.reduceEqDiff, ↓reduceIte, Nat.reduceAdd, Nat.reduceMul, Nat.reduceLeDiff, Nat.reduceLT, reduceCtorEq, Int.reduceToNat, Int.reduceLE, Int.reduceLT, Int.reduceEq, Int.reduceNeg, Int.reduceNe, Int.reducePow, Nat.reducePow, Nat.reduceSub, IntKind.bits]
        refine ⟨i + 1, by omega, ?_⟩
        unfold I26
        simp (maxSteps := 10000000) (maxDischargeDepth := 30) only [e0, e1, e5, e6, ew, ef, List.map_append, go_sem, Nat.reduceEqDiff, ↓reduceIte, Nat.reduceAdd, Nat.reduceMul, Nat.reduceLeDiff, Nat.reduceLT, reduceCtorEq, Int.reduceToNat, Int.reduceLE, Int.reduceLT, Int.reduceEq, Int.reduceNeg, Int.reduceNe, Int.reducePow, Nat.reducePow, Nat.reduceSub, IntKind.bits]
        have t3 := okTok_ap (m := 1) w2 t2
        refine ⟨by omega, keep_ap (k1.nrow 1) n1, wf_ap w2, apO o2 1 _, ?_, by simpa using t3, newTok_ap (k1.nrow 1) n1⟩
        simp only [ints, List.map_append, List.map_cons, List.map_nil]
      · have ef : ofL l c (i + 1) = ofL l c i := by simp [ofL, hn, hc]
        simp (maxSteps := 10000000) (maxDischargeDepth := 30) only [e0, e1, e5, e6, ea, c1, ew, Flo.e, hc, go_sem, Nat.reduceEqDiff, ↓reduceIte, Nat.reduceAdd, Nat.reduceMul, Nat.reduceLeDiff, Nat.reduceLT, reduceCtorEq, Int.reduceToNat, Int.reduceLE, Int.reduceLT, Int.reduceEq, Int.reduceNeg, Int.reduceNe, Int.reducePow, Nat.reducePow, Nat.reduceSub, IntKind.bits]
        refine ⟨i + 1, by omega, ?_⟩
        unfold I26
        simp (maxSteps := 10000000) (maxDischargeDepth := 30) only [e0, e1, e5, e6, k1, w1, ew, ef, go_sem, Nat.reduceEqDiff, ↓reduceIte, Nat.reduceAdd, Nat.reduceMul, Nat.reduceLeDiff, Nat.reduceLT, reduceCtorEq, Int.reduceToNat, Int.reduceLE, Int.reduceLT, Int.reduceEq, Int.reduceNeg, Int.reduceNe, Int.reducePow, Nat.reducePow, Nat.reduceSub, IntKind.bits]
        exact ⟨by omega, o2, rfl, t1, n1⟩
    · have c1 : ¬ (i : Int) < l.length := by omega
      obtain rfl : i = l.length := by omega
      simp (maxSteps := 10000000) (maxDischargeDepth := 30) only [e0, e1, e5, e6, c1, k1, go_sem, Nat.reduceEqDiff, ↓reduceIte, Nat.reduceAdd, Nat.reduceMul, Nat.reduceLeDiff, Nat.reduceLT, reduceCtorEq, Int.reduceToNat, Int.reduceLE, Int.reduceLT, Int.reduceEq, Int.reduceNeg, Int.reduceNe, Int.reducePow, Nat.reducePow, Nat.reduceSub, IntKind.bits]
      exact ⟨_, rfl⟩
end Go.LM
