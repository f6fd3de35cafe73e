import Derived.Test.YtgbhkmgmpodnkaaLmTrcR1
import Derived.Test.YtgbhkmgmpodnkaaLmcVlist3
namespace Go.LM
open Go.Proofs
set_option maxRecDepth 8000
set_option maxHeartbeats 8000000
set_option linter.unusedSimpArgs false

/-! ### the box ahead -/
def IAheadS (v : LV) (l : List ItemR) (b : Int) (h0 : H) (i : Nat) (s : S) (hh : H) : Prop :=
  s 0 = v ∧ s 2 = .int .i64 (-1) ∧ s 7 = .int .i64 (-1) ∧ s 8 = .int .i64 ((i : Int) - 1) ∧ i ≤ placeN l b ∧ aheadP l b i = aheadP l b (placeN l b) ∧ Keep h0 hh ∧ WF hh
theorem cPaSeekA (v : LV) (l : List ItemR) (b : Int) (hl : l.length ≤ 1000) (h : H) (w : WF h) (m : IsV v l h) :
    runI Try.prog TA 55 [v, .int .i64 ((placeN l b : Nat) - 1 : Int), .int .i64 (-1)] h = some (.int .i64 (aheadP l b l.length), hp Try.prog TA 55 [v, .int .i64 ((placeN l b : Nat) - 1 : Int), .int .i64 (-1)] h) := by
  refine pure_of rfl res55 rfl ?_
  have hpl := placeN_le (l := l) b
  simp (maxSteps := 10000000) (maxDischargeDepth := 30) only [q55, r55, go_sem, Nat.reduceEqDiff, ↓reduceIte, Nat.reduceAdd, Nat.reduceMul, Nat.reduceLeDiff, Nat.reduceLT, reduceCtorEq, Int.reduceToNat, Int.reduceLE, Int.reduceLT, Int.reduceEq, Int.reduceNeg, Int.reduceNe, Int.reducePow, Nat.reducePow, Nat.reduceSub, IntKind.bits]
  refine ru_loop (fun i => i) (IAheadS v l b h) (placeN l b) ?_ ?_
  · unfold IAheadS
    simp (maxSteps := 10000000) (maxDischargeDepth := 30) only [go_sem, Nat.reduceEqDiff, ↓reduceIte, Nat.reduceAdd, Nat.reduceMul, Nat.reduceLeDiff, Nat.reduceLT, reduceCtorEq, Int.reduceToNat, Int.reduceLE, Int.reduceLT, Int.reduceEq, Int.reduceNeg, Int.reduceNe, Int.reducePow, Nat.reducePow, Nat.reduceSub, IntKind.bits]
    exact w
  · rintro i s hh ⟨e0, e2, e7, e8, hi, ha, kk, ww⟩
    have mm := m.next kk
    by_cases c1 : i = 0
    · subst c1
      have hr : aheadP l b l.length = -1 := by rw [aheadP_place, ← ha]; rfl
      have e8' : s 8 = .int .i64 (-1) := e8
      rw [hr]
      simp (maxSteps := 10000000) (maxDischargeDepth := 30) only [e0, e2, e7, e8', kk, go_sem, Nat.reduceEqDiff, ↓reduceIte, Nat.reduceAdd, Nat.reduceMul, Nat.reduceLeDiff, Nat.reduceLT, reduceCtorEq, Int.reduceToNat, Int.reduceLE, Int.reduceLT, Int.reduceEq, Int.reduceNeg, Int.reduceNe, Int.reducePow, Nat.reducePow, Nat.reduceSub, IntKind.bits]
    obtain ⟨j, rfl⟩ : ∃ j, i = j + 1 := ⟨i - 1, by omega⟩
    have e8' : s 8 = .int .i64 (j : Int) := by rw [e8]; congr 1; omega
    have c2 : 0 ≤ (j : Int) := by omega
    have c3 : (j : Int) < l.length := by omega
    obtain ⟨x, hx⟩ := itAt_in (l := l) (n := j) c2 c3
    obtain ⟨-, -, hx2⟩ := itAt_some hx
    rw [Int.toNat_natCast] at hx2
    have hs := aheadP_s (b := b) hx2
    have hjb := (lt_placeN (l := l) (n := b) (i := j) (by omega)).1 (by omega)
    by_cases c4 : x.k = 1
    · rw [if_pos ⟨hjb, c4⟩] at hs
      have hr : aheadP l b l.length = j := by rw [aheadP_place, ← ha, hs]
      rw [hr]
      simp (maxSteps := 10000000) (maxDischargeDepth := 30) only [e0, e2, e7, e8', c2, go_sem, Nat.reduceEqDiff, ↓reduceIte, Nat.reduceAdd, Nat.reduceMul, Nat.reduceLeDiff, Nat.reduceLT, reduceCtorEq, Int.reduceToNat, Int.reduceLE, Int.reduceLT, Int.reduceEq, Int.reduceNeg, Int.reduceNe, Int.reducePow, Nat.reducePow, Nat.reduceSub, IntKind.bits]
      refine ro_kcall (cVLen v l hh mm) ww (fun h1 k1 w1 => ?_)
      simp (maxSteps := 10000000) (maxDischargeDepth := 30) only [e0, e2, e7, e8', c3, go_sem, Nat.reduceEqDiff, ↓reduceIte, Nat.reduceAdd, Nat.reduceMul, Nat.reduceLeDiff, Nat.reduceLT, reduceCtorEq, Int.reduceToNat, Int.reduceLE, Int.reduceLT, Int.reduceEq, Int.reduceNeg, Int.reduceNe, Int.reducePow, Nat.reducePow, Nat.reduceSub, IntKind.bits]
      refine ro_kcall (cVAt v l j h1 w1 (mm.next k1)) w1 (fun h2 k2 w2 => ?_)
      rw [hx]
      have lo2 := w2.1
      have kf : ∀ c B, Keep h ((h2.alloc c).put h2.len B) := fun c B => (((kk.trans k1).trans k2).alloc c).put ((kk.trans k1).trans k2).len B
      have lx : h2.len < h2.len + 1 := by omega
      simp (maxSteps := 10000000) (maxDischargeDepth := 30) only [e0, e2, e7, e8', lo2, lx, Option.getD_some, Option.isSome_some, ItemR.e, c4, kf, go_sem, Nat.reduceEqDiff, ↓reduceIte, Nat.reduceAdd, Nat.reduceMul, Nat.reduceLeDiff, Nat.reduceLT, reduceCtorEq, Int.reduceToNat, Int.reduceLE, Int.reduceLT, Int.reduceEq, Int.reduceNeg, Int.reduceNe, Int.reducePow, Nat.reducePow, Nat.reduceSub, IntKind.bits]
    · rw [if_neg (fun q => c4 q.2)] at hs
      refine ru_step ?_
      have ew : IntKind.i64.wrap ((j : Int) + -1) = (j : Int) - 1 := by rw [wrap64 (by omega) (by omega)]; omega
      simp (maxSteps := 10000000) (maxDischargeDepth := 30) only [e0, e2, e7, e8', c2, go_sem, Nat.reduceEqDiff, ↓reduceIte, Nat.reduceAdd, Nat.reduceMul, Nat.reduceLeDiff, Nat.reduceLT, reduceCtorEq, Int.reduceToNat, Int.reduceLE, Int.reduceLT, Int.reduceEq, Int.reduceNeg, Int.reduceNe, Int.reducePow, Nat.reducePow, Nat.reduceSub, IntKind.bits]
      refine ro_kcall (cVLen v l hh mm) ww (fun h1 k1 w1 => ?_)
      simp (maxSteps := 10000000) (maxDischargeDepth := 30) only [e0, e2, e7, e8', c3, go_sem, Nat.reduceEqDiff, ↓reduceIte, Nat.reduceAdd, Nat.reduceMul, Nat.reduceLeDiff, Nat.reduceLT, reduceCtorEq, Int.reduceToNat, Int.reduceLE, Int.reduceLT, Int.reduceEq, Int.reduceNeg, Int.reduceNe, Int.reducePow, Nat.reducePow, Nat.reduceSub, IntKind.bits]
      refine ro_kcall (cVAt v l j h1 w1 (mm.next k1)) w1 (fun h2 k2 w2 => ?_)
      rw [hx]
      have lo2 := w2.1
      have kf : ∀ c B, Keep h ((h2.alloc c).put h2.len B) := fun c B => (((kk.trans k1).trans k2).alloc c).put ((kk.trans k1).trans k2).len B
      have wf : ∀ c B, WF ((h2.alloc c).put h2.len B) := fun c B => w2.keep (((Keep.refl h2).alloc c).put (Nat.le_refl _) B)
      have lx : h2.len < h2.len + 1 := by omega
      simp (maxSteps := 10000000) (maxDischargeDepth := 30) only [e0, e2, e7, e8', lo2, lx, Option.getD_some, Option.isSome_some, ItemR.e, c4, ew, go_sem, Nat.reduceEqDiff, ↓reduceIte, Nat.reduceAdd, Nat.reduceMul, Nat.reduceLeDiff, Nat.reduceLT, reduceCtorEq, Int.reduceToNat, Int.reduceLE, Int.reduceLT, Int.reduceEq, Int.reduceNeg, Int.reduceNe, Int.reducePow, Nat.reducePow, Nat.reduceSub, IntKind.bits]
      refine ⟨j, by omega, ?_⟩
      unfold IAheadS
      simp (maxSteps := 10000000) (maxDischargeDepth := 30) only [e0, e2, e7, go_sem, Nat.reduceEqDiff, ↓reduceIte, Nat.reduceAdd, Nat.reduceMul, Nat.reduceLeDiff, Nat.reduceLT, reduceCtorEq, Int.reduceToNat, Int.reduceLE, Int.reduceLT, Int.reduceEq, Int.reduceNeg, Int.reduceNe, Int.reducePow, Nat.reducePow, Nat.reduceSub, IntKind.bits]
      exact ⟨by omega, by rw [← ha, hs], kf _ _, wf _ _⟩
end Go.LM
