import Derived.Test.YtmanbekgnooocaaLmC5
namespace Go.LM
open Go.Proofs
set_option maxRecDepth 4000
set_option linter.unusedSimpArgs false

def I25 (o : Option (Nat × Nat)) (l : List Flo) (c : Int) (h0 : H) (i : Nat) (s : S) (h : H) : Prop :=
  s 1 = .int .i64 c ∧ s 8 = flos o l ∧ s 9 = .int .i64 l.length ∧ s 10 = .int .i64 i ∧ i ≤ l.length ∧ Keep h0 h ∧ WF h ∧ ∃ o2, s 5 = ints o2 (ofL l c i) ∧ okTok o2 (ofL l c i).length h ∧ newTok o2 h0
theorem c25 (o : Option (Nat × Nat)) (l : List Flo) (c : Int) (hl : l.length ≤ 1000) (h : H) (w : WF h) :
    runI Try.prog TA 25 [flos o l, .int .i64 c] h = some (ints (tk Try.prog TA 25 [flos o l, .int .i64 c] h) (ofL l c l.length), hp Try.prog TA 25 [flos o l, .int .i64 c] h) := by
  refine pureS_of rfl res25 rfl ?_
  simp (maxSteps := 10000000) (maxDischargeDepth := 30) only [q25, r25, go_sem, Nat.reduceEqDiff, ↓reduceIte, Nat.reduceAdd, Nat.reduceMul, Nat.reduceLeDiff, Nat.reduceLT, reduceCtorEq, Int.reduceToNat, Int.reduceLE, Int.reduceLT, Int.reduceEq, Int.reduceNeg, Int.reduceNe, Int.reducePow, Nat.reducePow, Nat.reduceSub, IntKind.bits]
  refine ru_loop (fun i => l.length - i) (I25 o l c h) 0 ?_ ?_
  · unfold I25
    simp (maxSteps := 10000000) (maxDischargeDepth := 30) only [w, Int.natCast_zero, go_sem, Nat.reduceEqDiff, ↓reduceIte, Nat.reduceAdd, Nat.reduceMul, Nat.reduceLeDiff, Nat.reduceLT, reduceCtorEq, Int.reduceToNat, Int.reduceLE, Int.reduceLT, Int.reduceEq, Int.reduceNeg, Int.reduceNe, Int.reducePow, Nat.reducePow, Nat.reduceSub, IntKind.bits]
    exact ⟨none, rfl, rfl, trivial⟩
  · rintro i s h1 ⟨e1, e8, e9, e10, hi, k1, w1, o2, e5, t1, n1⟩
    by_cases hlt : i < l.length
    · obtain ⟨f, hn⟩ : ∃ f, l[i]? = some f := ⟨l[i], List.getElem?_eq_getElem hlt⟩
      have ea := flo_at hn
      have c1 : (i : Int) < l.length := by omega
      have ew : IntKind.i64.wrap ((i : Int) + 1) = ((i + 1 : Nat) : Int) := by rw [wrap64 (by omega) (by omega)]; omega
      have hlen := ofL_len l c i
      have hlo := le_hp0 w1
      have k3 : Keep h1 ((h1.alloc [.int .i64 0, .int .i64 0, .int .i64 0]).put h1.len ⟨false, [.int .i64 f.C, .int .i64 f.H, .int .i64 f.W]⟩) := ((Keep.refl h1).alloc _).put (Nat.le_refl _) _
      have w3 := w1.keep k3
      by_cases hc : f.C = c
      · have ef : ofL l c (i + 1) = ofL l c i ++ [(i : Int)] := by simp [ofL, hn, hc]
        have k2 := k3.nrow 1
        have w2 := w1.keep k2
        have t2 := okTok_keep k2 t1
        have ap := append_mk (sz := 1) (by_ := 8) (ys := [LV.int .i64 (i : Int)]) (xs := (ofL l c i).map (LV.int .i64)) (by simpa using t2) (by simp; omega)
        simp only [hc] at ap k2 w2 t2
        simp (maxSteps := 10000000) (maxDischargeDepth := 30) only [e1, e5, e8, e9, e10, ea, c1, ew, Flo.e, hc, hlo, ap, go_sem, Nat.reduceEqDiff, ↓reduceIte, Nat.reduceAdd, Nat.reduceMul, Nat.reduceLeDiff, Nat.reduceLT, reduceCtorEq, Int.reduceToNat, Int.reduceLE, Int.reduceLT, Int.reduceEq, Int.reduceNeg, Int.reduceNe, Int.reducePow, Nat.reducePow, Nat.reduceSub, IntKind.bits]
        refine ⟨i + 1, by omega, ?_⟩
        unfold I25
        simp (maxSteps := 10000000) (maxDischargeDepth := 30) only [e1, e5, e8, e9, e10, ew, ef, List.map_append, go_sem, Nat.reduceEqDiff, ↓reduceIte, Nat.reduceAdd, Nat.reduceMul, Nat.reduceLeDiff, Nat.reduceLT, reduceCtorEq, Int.reduceToNat, Int.reduceLE, Int.reduceLT, Int.reduceEq, Int.reduceNeg, Int.reduceNe, Int.reducePow, Nat.reducePow, Nat.reduceSub, IntKind.bits]
        have t3 := okTok_ap (m := 1) w2 t2
        refine ⟨by omega, keep_ap (k1.trans k2) n1, wf_ap w2, apO o2 1 _, ?_, by simpa using t3, newTok_ap (k1.trans k2) n1⟩
        simp only [ints, List.map_append, List.map_cons, List.map_nil]
      · have ef : ofL l c (i + 1) = ofL l c i := by simp [ofL, hn, hc]
        simp (maxSteps := 10000000) (maxDischargeDepth := 30) only [e1, e5, e8, e9, e10, ea, c1, ew, Flo.e, hc, hlo, go_sem, Nat.reduceEqDiff, ↓reduceIte, Nat.reduceAdd, Nat.reduceMul, Nat.reduceLeDiff, Nat.reduceLT, reduceCtorEq, Int.reduceToNat, Int.reduceLE, Int.reduceLT, Int.reduceEq, Int.reduceNeg, Int.reduceNe, Int.reducePow, Nat.reducePow, Nat.reduceSub, IntKind.bits]
        refine ⟨i + 1, by omega, ?_⟩
        unfold I25
        simp (maxSteps := 10000000) (maxDischargeDepth := 30) only [e1, e5, e8, e9, e10, ew, ef, w3, k1.trans k3, go_sem, Nat.reduceEqDiff, ↓reduceIte, Nat.reduceAdd, Nat.reduceMul, Nat.reduceLeDiff, Nat.reduceLT, reduceCtorEq, Int.reduceToNat, Int.reduceLE, Int.reduceLT, Int.reduceEq, Int.reduceNeg, Int.reduceNe, Int.reducePow, Nat.reducePow, Nat.reduceSub, IntKind.bits]
        exact ⟨by omega, o2, rfl, okTok_keep k3 t1, n1⟩
    · have c1 : ¬ (i : Int) < l.length := by omega
      obtain rfl : i = l.length := by omega
      simp (maxSteps := 10000000) (maxDischargeDepth := 30) only [e1, e5, e8, e9, e10, c1, k1, go_sem, Nat.reduceEqDiff, ↓reduceIte, Nat.reduceAdd, Nat.reduceMul, Nat.reduceLeDiff, Nat.reduceLT, reduceCtorEq, Int.reduceToNat, Int.reduceLE, Int.reduceLT, Int.reduceEq, Int.reduceNeg, Int.reduceNe, Int.reducePow, Nat.reducePow, Nat.reduceSub, IntKind.bits]
      exact ⟨_, rfl⟩

def cnt (l : List Flo) (c : Int) : Int := (ofL l c l.length).length
/-- The counts so far. -/
def cntAt (l : List Flo) (i : Nat) : List LV := [.int .i64 (if 0 < i then cnt l 0 else 0), .int .i64 (if 1 < i then cnt l 1 else 0), .int .i64 (if 2 < i then cnt l 2 else 0)]
def I23 (o : Option (Nat × Nat)) (l : List Flo) (h0 : H) (i : Nat) (s : S) (h : H) : Prop :=
  s 0 = flos o l ∧ s 2 = .ptr h0.len 0 ∧ s 3 = .ptr (h0.len + 1) 0 ∧ s 5 = .int .i64 i ∧ i ≤ 3 ∧ Keep h0 h ∧ WF h ∧ h0.len + 1 < h.len ∧ h.get h0.len = some ⟨false, [.int .i64 0, .int .i64 0, .int .i64 0]⟩ ∧ h.get (h0.len + 1) = some ⟨false, cntAt l i⟩
theorem c23 (o : Option (Nat × Nat)) (l : List Flo) (hl : l.length ≤ 1000) (h : H) (w : WF h) :
    runI Try.prog TA 23 [flos o l] h = some (.agg [.int .i64 (cnt l 0), .int .i64 (cnt l 1), .int .i64 (cnt l 2)], hp Try.prog TA 23 [flos o l] h) := by
  refine pure_of rfl res23 rfl ?_
  simp (maxSteps := 10000000) (maxDischargeDepth := 30) only [q23, r23, go_sem, Nat.reduceEqDiff, ↓reduceIte, Nat.reduceAdd, Nat.reduceMul, Nat.reduceLeDiff, Nat.reduceLT, reduceCtorEq, Int.reduceToNat, Int.reduceLE, Int.reduceLT, Int.reduceEq, Int.reduceNeg, Int.reduceNe, Int.reducePow, Nat.reducePow, Nat.reduceSub, IntKind.bits]
  refine ru_loop (fun i => 3 - i) (I23 o l h) 0 ?_ ?_
  · unfold I23
    have := get_alloc_eq (h.alloc [.int .i64 0, .int .i64 0, .int .i64 0]) [.int .i64 0, .int .i64 0, .int .i64 0]
    simp only [len_alloc] at this
    simp (maxSteps := 10000000) (maxDischargeDepth := 30) only [w, Int.natCast_zero, cntAt, this, go_sem, Nat.reduceEqDiff, ↓reduceIte, Nat.reduceAdd, Nat.reduceMul, Nat.reduceLeDiff, Nat.reduceLT, reduceCtorEq, Int.reduceToNat, Int.reduceLE, Int.reduceLT, Int.reduceEq, Int.reduceNeg, Int.reduceNe, Int.reducePow, Nat.reducePow, Nat.reduceSub, IntKind.bits]
  · rintro i s h1 ⟨e0, e2, e3, e5, hi, k1, w1, l1, g1, g2⟩
    have hb : h1.lob ≤ h.len + 1 := by have := k1.lob; have := w.1; omega
    by_cases hlt : i < 3
    · have e25 := c25 o l i hl
      have ew : IntKind.i64.wrap ((i : Int) + 1) = ((i + 1 : Nat) : Int) := by rw [wrap64 (by omega) (by omega)]; omega
      have c1 : (i : Int) < 3 := by omega
      have c0 : (0 : Int) ≤ i := by omega
      have n0 : (h.len + 1 = h.len) = False := by simp
      have hx : (0 + (i : Int).toNat * 1) = i := by omega
      have hs : (cntAt l i).set i (.int .i64 (cnt l i)) = cntAt l (i + 1) := by
        rcases i with _ | _ | _ | i
        · rfl
        · rfl
        · rfl
        · omega
      have hy : i + 1 ≤ (cntAt l i).length := by simp [cntAt]; omega
      have hcnt : ((ofL l i l.length).length : Int) = cnt l i := rfl
      simp (maxSteps := 10000000) (maxDischargeDepth := 30) only [e0, e2, e3, e5, e25, w1, g1, g2, c1, c0, ew, hx, hb, l1, hs, hy, hcnt, go_sem, Nat.reduceEqDiff, ↓reduceIte, Nat.reduceAdd, Nat.reduceMul, Nat.reduceLeDiff, Nat.reduceLT, reduceCtorEq, Int.reduceToNat, Int.reduceLE, Int.reduceLT, Int.reduceEq, Int.reduceNeg, Int.reduceNe, Int.reducePow, Nat.reducePow, Nat.reduceSub, IntKind.bits]
      refine ⟨i + 1, by omega, ?_⟩
      unfold I23
      have l0 : h.len < h1.len := by omega
      simp (maxSteps := 10000000) (maxDischargeDepth := 30) only [e0, e2, e3, e5, ew, k1, k1.len, w1, l0, l1, g1, g2, go_sem, Nat.reduceEqDiff, ↓reduceIte, Nat.reduceAdd, Nat.reduceMul, Nat.reduceLeDiff, Nat.reduceLT, reduceCtorEq, Int.reduceToNat, Int.reduceLE, Int.reduceLT, Int.reduceEq, Int.reduceNeg, Int.reduceNe, Int.reducePow, Nat.reducePow, Nat.reduceSub, IntKind.bits]
      omega
    · have c1 : ¬ (i : Int) < 3 := by omega
      obtain rfl : i = 3 := by omega
      have hb0 : h1.lob ≤ h.len := by have := k1.lob; have := w.1; omega
      have l0 : h.len < h1.len := by omega
      simp only [cntAt] at g2
      simp (maxSteps := 10000000) (maxDischargeDepth := 30) only [e0, e2, e3, e5, c1, g1, g2, hb0, l0, k1, go_sem, Nat.reduceEqDiff, ↓reduceIte, Nat.reduceAdd, Nat.reduceMul, Nat.reduceLeDiff, Nat.reduceLT, reduceCtorEq, Int.reduceToNat, Int.reduceLE, Int.reduceLT, Int.reduceEq, Int.reduceNeg, Int.reduceNe, Int.reducePow, Nat.reducePow, Nat.reduceSub, IntKind.bits]
end Go.LM
