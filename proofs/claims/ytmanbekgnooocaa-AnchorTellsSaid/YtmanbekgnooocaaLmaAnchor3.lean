import Derived.Test.YtmanbekgnooocaaLmTraR2
import Derived.Test.YtmanbekgnooocaaLmaAnchor2
namespace Go.LM
open Go.Proofs
set_option maxRecDepth 8000
set_option maxHeartbeats 4000000
set_option linter.unusedSimpArgs false

theorem cANotes (p : Nat) (l : List ItemR) (fl : List FloatR) (a b : Int) (hl : l.length ≤ 1000) (h : H) (w : WF h) (m : IsMap p l fl h) :
    runI Try.prog TA 52 [.ptr p 0, .int .i64 a, .int .i64 b] h = some (ints (tk Try.prog TA 52 [.ptr p 0, .int .i64 a, .int .i64 b] h) (numsD l 5 a b l.length), hp Try.prog TA 52 [.ptr p 0, .int .i64 a, .int .i64 b] h) := by
  refine pureS_of rfl res52 rfl ?_
  simp (maxSteps := 10000000) (maxDischargeDepth := 30) only [q52, r52, go_sem, Nat.reduceEqDiff, ↓reduceIte, Nat.reduceAdd, Nat.reduceMul, Nat.reduceLeDiff, Nat.reduceLT, reduceCtorEq, Int.reduceToNat, Int.reduceLE, Int.reduceLT, Int.reduceEq, Int.reduceNeg, Int.reduceNe, Int.reducePow, Nat.reducePow, Nat.reduceSub, IntKind.bits]
  refine ro_kcall (cANums p l fl 5 a b hl h w m) w (fun h1 k1 w1 => ?_)
  simp (maxSteps := 10000000) (maxDischargeDepth := 30) only [k1, go_sem, Nat.reduceEqDiff, ↓reduceIte, Nat.reduceAdd, Nat.reduceMul, Nat.reduceLeDiff, Nat.reduceLT, reduceCtorEq, Int.reduceToNat, Int.reduceLE, Int.reduceLT, Int.reduceEq, Int.reduceNeg, Int.reduceNe, Int.reducePow, Nat.reducePow, Nat.reduceSub, IntKind.bits]
  exact ⟨_, rfl⟩
theorem cAFloats (p : Nat) (l : List ItemR) (fl : List FloatR) (a b : Int) (hl : l.length ≤ 1000) (h : H) (w : WF h) (m : IsMap p l fl h) :
    runI Try.prog TA 54 [.ptr p 0, .int .i64 a, .int .i64 b] h = some (ints (tk Try.prog TA 54 [.ptr p 0, .int .i64 a, .int .i64 b] h) (numsD l 6 a b l.length), hp Try.prog TA 54 [.ptr p 0, .int .i64 a, .int .i64 b] h) := by
  refine pureS_of rfl res54 rfl ?_
  simp (maxSteps := 10000000) (maxDischargeDepth := 30) only [q54, r54, go_sem, Nat.reduceEqDiff, ↓reduceIte, Nat.reduceAdd, Nat.reduceMul, Nat.reduceLeDiff, Nat.reduceLT, reduceCtorEq, Int.reduceToNat, Int.reduceLE, Int.reduceLT, Int.reduceEq, Int.reduceNeg, Int.reduceNe, Int.reducePow, Nat.reducePow, Nat.reduceSub, IntKind.bits]
  refine ro_kcall (cANums p l fl 6 a b hl h w m) w (fun h1 k1 w1 => ?_)
  simp (maxSteps := 10000000) (maxDischargeDepth := 30) only [k1, go_sem, Nat.reduceEqDiff, ↓reduceIte, Nat.reduceAdd, Nat.reduceMul, Nat.reduceLeDiff, Nat.reduceLT, reduceCtorEq, Int.reduceToNat, Int.reduceLE, Int.reduceLT, Int.reduceEq, Int.reduceNeg, Int.reduceNe, Int.reducePow, Nat.reducePow, Nat.reduceSub, IntKind.bits]
  exact ⟨_, rfl⟩
theorem cABegun (p : Nat) (l : List ItemR) (fl : List FloatR) (a : Int) (h : H) (w : WF h) (m : IsMap p l fl h) :
    runI Try.prog TA 55 [.ptr p 0, .int .i64 a] h = some (.int .i64 (begunN l (placeN l a)), hp Try.prog TA 55 [.ptr p 0, .int .i64 a] h) := by
  refine pure_of rfl res55 rfl ?_
  simp (maxSteps := 10000000) (maxDischargeDepth := 30) only [q55, r55, go_sem, Nat.reduceEqDiff, ↓reduceIte, Nat.reduceAdd, Nat.reduceMul, Nat.reduceLeDiff, Nat.reduceLT, reduceCtorEq, Int.reduceToNat, Int.reduceLE, Int.reduceLT, Int.reduceEq, Int.reduceNeg, Int.reduceNe, Int.reducePow, Nat.reducePow, Nat.reduceSub, IntKind.bits]
  refine ro_kcall (cAPlace p l fl a h m) w (fun h1 k1 w1 => ?_)
  obtain ⟨o, o1, o2, o3, g⟩ := (m.next k1).get
  have ia := range_at (f := begunN l) (placeN_le (l := l) a)
  simp (maxSteps := 10000000) (maxDischargeDepth := 30) only [g, mapL, ia, k1, go_sem, Nat.reduceEqDiff, ↓reduceIte, Nat.reduceAdd, Nat.reduceMul, Nat.reduceLeDiff, Nat.reduceLT, reduceCtorEq, Int.reduceToNat, Int.reduceLE, Int.reduceLT, Int.reduceEq, Int.reduceNeg, Int.reduceNe, Int.reducePow, Nat.reducePow, Nat.reduceSub, IntKind.bits]
theorem cAAhead (p : Nat) (l : List ItemR) (fl : List FloatR) (a : Int) (h : H) (w : WF h) (m : IsMap p l fl h) :
    runI Try.prog TA 56 [.ptr p 0, .int .i64 a] h = some ((aheadN l fl (placeN l a)).e, hp Try.prog TA 56 [.ptr p 0, .int .i64 a] h) := by
  refine pure_of rfl res56 rfl ?_
  have lo := w.1
  have k0 := (Keep.refl h).alloc [.int .i64 0, .int .i64 0, .int .i64 0]
  have w0 := w.keep k0
  have g0 : (h.alloc [.int .i64 0, .int .i64 0, .int .i64 0]).get h.len = _ := get_alloc_eq _ _
  simp (maxSteps := 10000000) (maxDischargeDepth := 30) only [q56, r56, go_sem, Nat.reduceEqDiff, ↓reduceIte, Nat.reduceAdd, Nat.reduceMul, Nat.reduceLeDiff, Nat.reduceLT, reduceCtorEq, Int.reduceToNat, Int.reduceLE, Int.reduceLT, Int.reduceEq, Int.reduceNeg, Int.reduceNe, Int.reducePow, Nat.reducePow, Nat.reduceSub, IntKind.bits]
  refine ro_kcall (cAPlace p l fl a _ (m.next k0)) w0 (fun h1 k1 w1 => ?_)
  have g1 := (k1.get (lt_of_get g0)).trans g0
  have l1 := lt_of_get g1
  have lo1 : h1.lob ≤ h.len := by rw [k1.lob, k0.lob]; exact lo
  obtain ⟨o, o1, o2, o3, g⟩ := (m.next (k0.trans k1)).get
  have ia : iaS (ups (fun k => (aheadN l fl k).e) l.length) ((placeN l a : Nat) : Int) = some (.cptr (.agg [.int .i64 (aheadN l fl (placeN l a)).a, .int .i64 (aheadN l fl (placeN l a)).b, .int .i64 (aheadN l fl (placeN l a)).c])) := range_at' (g := fun k => (aheadN l fl k).e) (placeN_le (l := l) a)
  have kk := (k0.trans k1).put (Nat.le_refl h.len) ⟨false, [.int .i64 (aheadN l fl (placeN l a)).a, .int .i64 (aheadN l fl (placeN l a)).b, .int .i64 (aheadN l fl (placeN l a)).c]⟩
  simp (maxSteps := 10000000) (maxDischargeDepth := 30) only [g, mapL, ia, g1, l1, lo1, kk, go_sem, Nat.reduceEqDiff, ↓reduceIte, Nat.reduceAdd, Nat.reduceMul, Nat.reduceLeDiff, Nat.reduceLT, reduceCtorEq, Int.reduceToNat, Int.reduceLE, Int.reduceLT, Int.reduceEq, Int.reduceNeg, Int.reduceNe, Int.reducePow, Nat.reducePow, Nat.reduceSub, IntKind.bits]
  rfl
theorem cADue (p : Nat) (l : List ItemR) (fl : List FloatR) (a : Int) (h : H) (w : WF h) (m : IsMap p l fl h) :
    runI Try.prog TA 58 [.ptr p 0, .int .i64 a] h = some ((dueN l fl (placeN l a)).e, hp Try.prog TA 58 [.ptr p 0, .int .i64 a] h) := by
  refine pure_of rfl res58 rfl ?_
  have lo := w.1
  have k0 := (Keep.refl h).alloc [.int .i64 0, .int .i64 0, .int .i64 0]
  have w0 := w.keep k0
  have g0 : (h.alloc [.int .i64 0, .int .i64 0, .int .i64 0]).get h.len = _ := get_alloc_eq _ _
  simp (maxSteps := 10000000) (maxDischargeDepth := 30) only [q58, r58, go_sem, Nat.reduceEqDiff, ↓reduceIte, Nat.reduceAdd, Nat.reduceMul, Nat.reduceLeDiff, Nat.reduceLT, reduceCtorEq, Int.reduceToNat, Int.reduceLE, Int.reduceLT, Int.reduceEq, Int.reduceNeg, Int.reduceNe, Int.reducePow, Nat.reducePow, Nat.reduceSub, IntKind.bits]
  refine ro_kcall (cAPlace p l fl a _ (m.next k0)) w0 (fun h1 k1 w1 => ?_)
  have g1 := (k1.get (lt_of_get g0)).trans g0
  have l1 := lt_of_get g1
  have lo1 : h1.lob ≤ h.len := by rw [k1.lob, k0.lob]; exact lo
  obtain ⟨o, o1, o2, o3, g⟩ := (m.next (k0.trans k1)).get
  have ia : iaS (ups (fun k => (dueN l fl k).e) l.length) ((placeN l a : Nat) : Int) = some (.cptr (.agg [.int .i64 (dueN l fl (placeN l a)).a, .int .i64 (dueN l fl (placeN l a)).b, .int .i64 (dueN l fl (placeN l a)).c])) := range_at' (g := fun k => (dueN l fl k).e) (placeN_le (l := l) a)
  have kk := (k0.trans k1).put (Nat.le_refl h.len) ⟨false, [.int .i64 (dueN l fl (placeN l a)).a, .int .i64 (dueN l fl (placeN l a)).b, .int .i64 (dueN l fl (placeN l a)).c]⟩
  simp (maxSteps := 10000000) (maxDischargeDepth := 30) only [g, mapL, ia, g1, l1, lo1, kk, go_sem, Nat.reduceEqDiff, ↓reduceIte, Nat.reduceAdd, Nat.reduceMul, Nat.reduceLeDiff, Nat.reduceLT, reduceCtorEq, Int.reduceToNat, Int.reduceLE, Int.reduceLT, Int.reduceEq, Int.reduceNeg, Int.reduceNe, Int.reducePow, Nat.reducePow, Nat.reduceSub, IntKind.bits]
  rfl
/-! ### the document's -/
def INumsD (o : Option (Nat × Nat)) (l : List ItemR) (k a b : Int) (h0 : H) (i : Nat) (s : S) (hh : H) : Prop :=
  s 0 = mkS o 7 (l.map ItemR.e) ∧ s 1 = .int .i64 k ∧ s 2 = .int .i64 a ∧ s 3 = .int .i64 b ∧ s 10 = .int .i64 i ∧ i ≤ l.length ∧ ∃ o2, s 9 = ints o2 (numsD l k a b i) ∧ AccN h0 o2 (numsD l k a b i).length hh
theorem cRNums21 (o : Option (Nat × Nat)) (l : List ItemR) (k a b : Int) (hl : l.length ≤ 1000) (h : H) (w : WF h) :
    runI Try.prog TA 53 [mkS o 7 (l.map ItemR.e), .int .i64 k, .int .i64 a, .int .i64 b] h = some (ints (tk Try.prog TA 53 [mkS o 7 (l.map ItemR.e), .int .i64 k, .int .i64 a, .int .i64 b] h) (numsD l k a b l.length), hp Try.prog TA 53 [mkS o 7 (l.map ItemR.e), .int .i64 k, .int .i64 a, .int .i64 b] h) := by
  refine pureS_of rfl res53 rfl ?_
  simp (maxSteps := 10000000) (maxDischargeDepth := 30) only [q53, r53, go_sem, Nat.reduceEqDiff, ↓reduceIte, Nat.reduceAdd, Nat.reduceMul, Nat.reduceLeDiff, Nat.reduceLT, reduceCtorEq, Int.reduceToNat, Int.reduceLE, Int.reduceLT, Int.reduceEq, Int.reduceNeg, Int.reduceNe, Int.reducePow, Nat.reducePow, Nat.reduceSub, IntKind.bits]
  refine ru_loop (fun i => l.length - i) (INumsD o l k a b h) 0 ?_ ?_
  · unfold INumsD
    simp (maxSteps := 10000000) (maxDischargeDepth := 30) only [Int.natCast_zero, go_sem, Nat.reduceEqDiff, ↓reduceIte, Nat.reduceAdd, Nat.reduceMul, Nat.reduceLeDiff, Nat.reduceLT, reduceCtorEq, Int.reduceToNat, Int.reduceLE, Int.reduceLT, Int.reduceEq, Int.reduceNeg, Int.reduceNe, Int.reducePow, Nat.reducePow, Nat.reduceSub, IntKind.bits]
    exact ⟨none, rfl, .start (.refl _) w⟩
  · rintro i s hh ⟨e0, e1, e2, e3, e10, hi, o2, e9, A⟩
    by_cases c1 : (i : Int) < l.length
    rotate_left
    · obtain rfl : i = l.length := by omega
      have kA := A.keep
      simp (maxSteps := 10000000) (maxDischargeDepth := 30) only [e0, e1, e2, e3, e9, e10, c1, List.length_map, kA, go_sem, Nat.reduceEqDiff, ↓reduceIte, Nat.reduceAdd, Nat.reduceMul, Nat.reduceLeDiff, Nat.reduceLT, reduceCtorEq, Int.reduceToNat, Int.reduceLE, Int.reduceLT, Int.reduceEq, Int.reduceNeg, Int.reduceNe, Int.reducePow, Nat.reducePow, Nat.reduceSub, IntKind.bits]
      exact ⟨o2, rfl⟩
    refine ru_step ?_
    obtain ⟨x, hx⟩ := at_lt (l := l) (i := i) (by omega)
    have hin := numsD_s (k := k) (a := a) (b := b) hx
    have ia := item_atA hx
    have ew : IntKind.i64.wrap ((i : Int) + 1) = ((i + 1 : Nat) : Int) := by rw [wrap64 (by omega) (by omega)]; omega
    have hle := numsD_le (l := l) (k := k) (a := a) (b := b) i
    by_cases c2 : a ≤ (i : Int)
    rotate_left
    · rw [if_neg (fun q => c2 q.1.1)] at hin
      simp (maxSteps := 10000000) (maxDischargeDepth := 30) only [e0, e1, e2, e3, e9, e10, c1, List.length_map, c2, ew, go_sem, Nat.reduceEqDiff, ↓reduceIte, Nat.reduceAdd, Nat.reduceMul, Nat.reduceLeDiff, Nat.reduceLT, reduceCtorEq, Int.reduceToNat, Int.reduceLE, Int.reduceLT, Int.reduceEq, Int.reduceNeg, Int.reduceNe, Int.reducePow, Nat.reducePow, Nat.reduceSub, IntKind.bits]
      refine ⟨i + 1, by omega, ?_⟩
      unfold INumsD
      simp (maxSteps := 10000000) (maxDischargeDepth := 30) only [e0, e1, e2, e3, e9, go_sem, Nat.reduceEqDiff, ↓reduceIte, Nat.reduceAdd, Nat.reduceMul, Nat.reduceLeDiff, Nat.reduceLT, reduceCtorEq, Int.reduceToNat, Int.reduceLE, Int.reduceLT, Int.reduceEq, Int.reduceNeg, Int.reduceNe, Int.reducePow, Nat.reducePow, Nat.reduceSub, IntKind.bits]
      rw [hin]
      exact ⟨by omega, o2, rfl, A⟩
    by_cases c3 : (i : Int) < b
    rotate_left
    · rw [if_neg (fun q => c3 q.1.2)] at hin
      simp (maxSteps := 10000000) (maxDischargeDepth := 30) only [e0, e1, e2, e3, e9, e10, c1, List.length_map, c2, c3, ew, go_sem, Nat.reduceEqDiff, ↓reduceIte, Nat.reduceAdd, Nat.reduceMul, Nat.reduceLeDiff, Nat.reduceLT, reduceCtorEq, Int.reduceToNat, Int.reduceLE, Int.reduceLT, Int.reduceEq, Int.reduceNeg, Int.reduceNe, Int.reducePow, Nat.reducePow, Nat.reduceSub, IntKind.bits]
      refine ⟨i + 1, by omega, ?_⟩
      unfold INumsD
      simp (maxSteps := 10000000) (maxDischargeDepth := 30) only [e0, e1, e2, e3, e9, go_sem, Nat.reduceEqDiff, ↓reduceIte, Nat.reduceAdd, Nat.reduceMul, Nat.reduceLeDiff, Nat.reduceLT, reduceCtorEq, Int.reduceToNat, Int.reduceLE, Int.reduceLT, Int.reduceEq, Int.reduceNeg, Int.reduceNe, Int.reducePow, Nat.reducePow, Nat.reduceSub, IntKind.bits]
      rw [hin]
      exact ⟨by omega, o2, rfl, A⟩
    by_cases c4 : x.k = k
    rotate_left
    · rw [if_neg (fun q => c4 q.2)] at hin
      simp (maxSteps := 10000000) (maxDischargeDepth := 30) only [e0, e1, e2, e3, e9, e10, c1, List.length_map, c2, c3, c4, ia, ItemR.e, ew, go_sem, Nat.reduceEqDiff, ↓reduceIte, Nat.reduceAdd, Nat.reduceMul, Nat.reduceLeDiff, Nat.reduceLT, reduceCtorEq, Int.reduceToNat, Int.reduceLE, Int.reduceLT, Int.reduceEq, Int.reduceNeg, Int.reduceNe, Int.reducePow, Nat.reducePow, Nat.reduceSub, IntKind.bits]
      refine ⟨i + 1, by omega, ?_⟩
      unfold INumsD
      simp (maxSteps := 10000000) (maxDischargeDepth := 30) only [e0, e1, e2, e3, e9, go_sem, Nat.reduceEqDiff, ↓reduceIte, Nat.reduceAdd, Nat.reduceMul, Nat.reduceLeDiff, Nat.reduceLT, reduceCtorEq, Int.reduceToNat, Int.reduceLE, Int.reduceLT, Int.reduceEq, Int.reduceNeg, Int.reduceNe, Int.reducePow, Nat.reducePow, Nat.reduceSub, IntKind.bits]
      rw [hin]
      exact ⟨by omega, o2, rfl, A⟩
    rw [if_pos ⟨⟨c2, c3⟩, c4⟩] at hin
    have k1 := (Keep.refl hh).nrow 1
    obtain ⟨o5, h3, ap, A3, gg, -⟩ := (A.next k1).appI (by_ := 8) [x.n] (by rw [List.length_singleton]; omega)
    rw [← hin] at ap A3
    have ap' : appS 1 8 (ints o2 (numsD l k a b i)) (hh.nrow 1) (some [.int .i64 x.n]) = some (ints o5 (numsD l k a b (i + 1)), h3) := ap
    simp (maxSteps := 10000000) (maxDischargeDepth := 30) only [e0, e1, e2, e3, e9, e10, c1, List.length_map, c2, c3, c4, ia, ItemR.e, ap', ew, go_sem, Nat.reduceEqDiff, ↓reduceIte, Nat.reduceAdd, Nat.reduceMul, Nat.reduceLeDiff, Nat.reduceLT, reduceCtorEq, Int.reduceToNat, Int.reduceLE, Int.reduceLT, Int.reduceEq, Int.reduceNeg, Int.reduceNe, Int.reducePow, Nat.reducePow, Nat.reduceSub, IntKind.bits]
    refine ⟨i + 1, by omega, ?_⟩
    unfold INumsD
    simp (maxSteps := 10000000) (maxDischargeDepth := 30) only [e0, e1, e2, e3, go_sem, Nat.reduceEqDiff, ↓reduceIte, Nat.reduceAdd, Nat.reduceMul, Nat.reduceLeDiff, Nat.reduceLT, reduceCtorEq, Int.reduceToNat, Int.reduceLE, Int.reduceLT, Int.reduceEq, Int.reduceNeg, Int.reduceNe, Int.reducePow, Nat.reducePow, Nat.reduceSub, IntKind.bits]
    exact ⟨by omega, o5, rfl, A3⟩
end Go.LM
