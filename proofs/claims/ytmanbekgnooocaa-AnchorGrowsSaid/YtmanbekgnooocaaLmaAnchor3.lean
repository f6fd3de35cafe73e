import Derived.Test.YtmanbekgnooocaaLmTraR2
import Derived.Test.YtmanbekgnooocaaLmaAnchor2
namespace Go.LM
open Go.Proofs
set_option maxRecDepth 8000
set_option maxHeartbeats 4000000
set_option linter.unusedSimpArgs false

theorem cANotes (p : Nat) (l : List ItemR) (fl : List FloatR) (a b : Int) (hl : l.length ≤ 1000) (h : H) (w : WF h) (m : IsMap p l fl h) :
    runI Try.prog TA 52 [.ptr p 0, .int .i64 a, .int .i64 b] h = some (ints (tk Try.prog TA 52 [.ptr p 0, .int .i64 a, .int .i64 b] h) (numsD l 5 a b l.length), hp Try.prog TA 52 [.ptr p 0, .int .i64 a, .int .i64 b] h) := by
  refine pureS_of rfl res52 rfl ?_
  simp (maxSteps := 10000000) (maxDischargeDepth := 30) only [q52, r52, go_sem, Nat.reduceEqDiff, ↓reduceIte, Nat.reduceAdd, Nat.reduceMul, Nat.reduceLeDiff, Nat.reduceLT, reduceCtorEq, Int.reduceToNat, Int.reduceLE, Int.reduceLT, Int.reduceEq, Int.reduceNeg, Int.reduceNe, Int.reducePow, Nat.reducePow, Nat.reduceSub, IntKind.bits]
  refine ro_kcall (cANums p l fl 5 a b hl h w m) w (fun h1 k1 w1 => ?_)
  simp (maxSteps := 10000000) (maxDischargeDepth := 30) only [k1, go_sem, Nat.reduceEqDiff, ↓reduceIte, Nat.reduceAdd, Nat.reduceMul, Nat.reduceLeDiff, Nat.reduceLT, reduceCtorEq, Int.reduceToNat, Int.reduceLE, Int.reduceLT, Int.reduceEq, Int.reduceNeg, Int.reduceNe, Int.reducePow, Nat.reducePow, Nat.reduceSub, IntKind.bits]
  exact ⟨_, rfl⟩
theorem cABegun (p : Nat) (l : List ItemR) (fl : List FloatR) (a : Int) (h : H) (w : WF h) (m : IsMap p l fl h) :
    runI Try.prog TA 55 [.ptr p 0, .int .i64 a] h = some (.int .i64 (begunN l (placeN l a)), hp Try.prog TA 55 [.ptr p 0, .int .i64 a] h) := by
  refine pure_of rfl res55 rfl ?_
  simp (maxSteps := 10000000) (maxDischargeDepth := 30) only [q55, r55, go_sem, Nat.reduceEqDiff, ↓reduceIte, Nat.reduceAdd, Nat.reduceMul, Nat.reduceLeDiff, Nat.reduceLT, reduceCtorEq, Int.reduceToNat, Int.reduceLE, Int.reduceLT, Int.reduceEq, Int.reduceNeg, Int.reduceNe, Int.reducePow, Nat.reducePow, Nat.reduceSub, IntKind.bits]
  refine ro_kcall (cAPlace p l fl a h m) w (fun h1 k1 w1 => ?_)
  obtain ⟨o, o1, o2, o3, g⟩ := (m.next k1).get
  have ia := range_at (f := begunN l) (placeN_le (l := l) a)
  simp (maxSteps := 10000000) (maxDischargeDepth := 30) only [g, mapL, ia, k1, go_sem, Nat.reduceEqDiff, ↓reduceIte, Nat.reduceAdd, Nat.reduceMul, Nat.reduceLeDiff, Nat.reduceLT, reduceCtorEq, Int.reduceToNat, Int.reduceLE, Int.reduceLT, Int.reduceEq, Int.reduceNeg, Int.reduceNe, Int.reducePow, Nat.reducePow, Nat.reduceSub, IntKind.bits]
theorem cAAhead (p : Nat) (l : List ItemR) (fl : List FloatR) (a : Int) (h : H) (w : WF h) (m : IsMap p l fl h) :
    runI Try.prog TA 56 [.ptr p 0, .int .i64 a] h = some ((aheadN l fl (placeN l a)).e, hp Try.prog TA 56 [.ptr p 0, .int .i64 a] h) := by
  refine pure_of rfl res56 rfl ?_
  have lo := w.1
  have k0 := (Keep.refl h).alloc [.int .i64 0, .int .i64 0, .int .i64 0]
  have w0 := w.keep k0
  have g0 : (h.alloc [.int .i64 0, .int .i64 0, .int .i64 0]).get h.len = _ := get_alloc_eq _ _
  simp (maxSteps := 10000000) (maxDischargeDepth := 30) only [q56, r56, go_sem, Nat.reduceEqDiff, ↓reduceIte, Nat.reduceAdd, Nat.reduceMul, Nat.reduceLeDiff, Nat.reduceLT, reduceCtorEq, Int.reduceToNat, Int.reduceLE, Int.reduceLT, Int.reduceEq, Int.reduceNeg, Int.reduceNe, Int.reducePow, Nat.reducePow, Nat.reduceSub, IntKind.bits]
  refine ro_kcall (cAPlace p l fl a _ (m.next k0)) w0 (fun h1 k1 w1 => ?_)
  have g1 := (k1.get (lt_of_get g0)).trans g0
  have l1 := lt_of_get g1
  have lo1 : h1.lob ≤ h.len := by rw [k1.lob, k0.lob]; exact lo
  obtain ⟨o, o1, o2, o3, g⟩ := (m.next (k0.trans k1)).get
  have ia : iaS (ups (fun k => (aheadN l fl k).e) l.length) ((placeN l a : Nat) : Int) = some (.cptr (.agg [.int .i64 (aheadN l fl (placeN l a)).a, .int .i64 (aheadN l fl (placeN l a)).b, .int .i64 (aheadN l fl (placeN l a)).c])) := range_at' (g := fun k => (aheadN l fl k).e) (placeN_le (l := l) a)
  have kk := (k0.trans k1).put (Nat.le_refl h.len) ⟨false, [.int .i64 (aheadN l fl (placeN l a)).a, .int .i64 (aheadN l fl (placeN l a)).b, .int .i64 (aheadN l fl (placeN l a)).c]⟩
  simp (maxSteps := 10000000) (maxDischargeDepth := 30) only [g, mapL, ia, g1, l1, lo1, kk, go_sem, Nat.reduceEqDiff, ↓reduceIte, Nat.reduceAdd, Nat.reduceMul, Nat.reduceLeDiff, Nat.reduceLT, reduceCtorEq, Int.reduceToNat, Int.reduceLE, Int.reduceLT, Int.reduceEq, Int.reduceNeg, Int.reduceNe, Int.reducePow, Nat.reducePow, Nat.reduceSub, IntKind.bits]
  rfl
theorem cADue (p : Nat) (l : List ItemR) (fl : List FloatR) (a : Int) (h : H) (w : WF h) (m : IsMap p l fl h) :
    runI Try.prog TA 58 [.ptr p 0, .int .i64 a] h = some ((dueN l fl (placeN l a)).e, hp Try.prog TA 58 [.ptr p 0, .int .i64 a] h) := by
  refine pure_of rfl res58 rfl ?_
  have lo := w.1
  have k0 := (Keep.refl h).alloc [.int .i64 0, .int .i64 0, .int .i64 0]
  have w0 := w.keep k0
  have g0 : (h.alloc [.int .i64 0, .int .i64 0, .int .i64 0]).get h.len = _ := get_alloc_eq _ _
  simp (maxSteps := 10000000) (maxDischargeDepth := 30) only [q58, r58, go_sem, Nat.reduceEqDiff, ↓reduceIte, Nat.reduceAdd, Nat.reduceMul, Nat.reduceLeDiff, Nat.reduceLT, reduceCtorEq, Int.reduceToNat, Int.reduceLE, Int.reduceLT, Int.reduceEq, Int.reduceNeg, Int.reduceNe, Int.reducePow, Nat.reducePow, Nat.reduceSub, IntKind.bits]
  refine ro_kcall (cAPlace p l fl a _ (m.next k0)) w0 (fun h1 k1 w1 => ?_)
  have g1 := (k1.get (lt_of_get g0)).trans g0
  have l1 := lt_of_get g1
  have lo1 : h1.lob ≤ h.len := by rw [k1.lob, k0.lob]; exact lo
  obtain ⟨o, o1, o2, o3, g⟩ := (m.next (k0.trans k1)).get
  have ia : iaS (ups (fun k => (dueN l fl k).e) l.length) ((placeN l a : Nat) : Int) = some (.cptr (.agg [.int .i64 (dueN l fl (placeN l a)).a, .int .i64 (dueN l fl (placeN l a)).b, .int .i64 (dueN l fl (placeN l a)).c])) := range_at' (g := fun k => (dueN l fl k).e) (placeN_le (l := l) a)
  have kk := (k0.trans k1).put (Nat.le_refl h.len) ⟨false, [.int .i64 (dueN l fl (placeN l a)).a, .int .i64 (dueN l fl (placeN l a)).b, .int .i64 (dueN l fl (placeN l a)).c]⟩
  simp (maxSteps := 10000000) (maxDischargeDepth := 30) only [g, mapL, ia, g1, l1, lo1, kk, go_sem, Nat.reduceEqDiff, ↓reduceIte, Nat.reduceAdd, Nat.reduceMul, Nat.reduceLeDiff, Nat.reduceLT, reduceCtorEq, Int.reduceToNat, Int.reduceLE, Int.reduceLT, Int.reduceEq, Int.reduceNeg, Int.reduceNe, Int.reducePow, Nat.reducePow, Nat.reduceSub, IntKind.bits]
  rfl
/-! ### the document's -/
end Go.LM
