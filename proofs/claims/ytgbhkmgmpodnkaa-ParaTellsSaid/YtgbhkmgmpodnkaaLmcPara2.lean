import Derived.Test.YtgbhkmgmpodnkaaLmTrcR1
import Derived.Test.YtgbhkmgmpodnkaaLmcPara1
namespace Go.LM
open Go.Proofs
set_option maxRecDepth 8000
set_option maxHeartbeats 8000000
set_option linter.unusedSimpArgs false

/-! ### the box behind -/
def IBehindS (v : LV) (l : List ItemR) (b : Int) (h0 : H) (i : Nat) (s : S) (hh : H) : Prop :=
  s 0 = v ∧ s 2 = .int .i64 1 ∧ s 7 = .int .i64 (-1) ∧ s 8 = .int .i64 (i : Int) ∧ firstK (l.drop i) i = behindP l b ∧ Keep h0 hh ∧ WF hh
theorem cPaSeekB (v : LV) (l : List ItemR) (b : Int) (hl : l.length ≤ 1000) (h : H) (w : WF h) (m : IsV v l h) :
    runI Try.prog TA 55 [v, .int .i64 (max b 0), .int .i64 1] h = some (.int .i64 (behindP l b), hp Try.prog TA 55 [v, .int .i64 (max b 0), .int .i64 1] h) := by
  refine pure_of rfl res55 rfl ?_
  have eb : max b 0 = (((max b 0).toNat : Nat) : Int) := by omega
  simp (maxSteps := 10000000) (maxDischargeDepth := 30) only [q55, r55, go_sem, Nat.reduceEqDiff, ↓reduceIte, Nat.reduceAdd, Nat.reduceMul, Nat.reduceLeDiff, Nat.reduceLT, reduceCtorEq, Int.reduceToNat, Int.reduceLE, Int.reduceLT, Int.reduceEq, Int.reduceNeg, Int.reduceNe, Int.reducePow, Nat.reducePow, Nat.reduceSub, IntKind.bits]
  refine ru_loop (fun i => l.length - i) (IBehindS v l b h) (max b 0).toNat ?_ ?_
  · unfold IBehindS
    rw [← eb]
    simp (maxSteps := 10000000) (maxDischargeDepth := 30) only [go_sem, Nat.reduceEqDiff, ↓reduceIte, Nat.reduceAdd, Nat.reduceMul, Nat.reduceLeDiff, Nat.reduceLT, reduceCtorEq, Int.reduceToNat, Int.reduceLE, Int.reduceLT, Int.reduceEq, Int.reduceNeg, Int.reduceNe, Int.reducePow, Nat.reducePow, Nat.reduceSub, IntKind.bits]
    exact ⟨rfl, w⟩
  · rintro i s hh ⟨e0, e2, e7, e8, ha, kk, ww⟩
    have mm := m.next kk
    have c2 : 0 ≤ (i : Int) := by omega
    by_cases c3 : (i : Int) < l.length
    rotate_left
    · rw [← ha, firstK_end (by omega)]
      simp (maxSteps := 10000000) (maxDischargeDepth := 30) only [e0, e2, e7, e8, c2, go_sem, Nat.reduceEqDiff, ↓reduceIte, Nat.reduceAdd, Nat.reduceMul, Nat.reduceLeDiff, Nat.reduceLT, reduceCtorEq, Int.reduceToNat, Int.reduceLE, Int.reduceLT, Int.reduceEq, Int.reduceNeg, Int.reduceNe, Int.reducePow, Nat.reducePow, Nat.reduceSub, IntKind.bits]
      refine ro_kcall (cVLen v l hh mm) ww (fun h1 k1 w1 => ?_)
      have k1' := kk.trans k1
      simp (maxSteps := 10000000) (maxDischargeDepth := 30) only [e0, e2, e7, e8, c3, k1', go_sem, Nat.reduceEqDiff, ↓reduceIte, Nat.reduceAdd, Nat.reduceMul, Nat.reduceLeDiff, Nat.reduceLT, reduceCtorEq, Int.reduceToNat, Int.reduceLE, Int.reduceLT, Int.reduceEq, Int.reduceNeg, Int.reduceNe, Int.reducePow, Nat.reducePow, Nat.reduceSub, IntKind.bits]
    obtain ⟨x, hx⟩ := itAt_in (l := l) (n := i) c2 c3
    obtain ⟨-, -, hx2⟩ := itAt_some hx
    rw [Int.toNat_natCast] at hx2
    have hs := firstK_at hx2
    by_cases c4 : x.k = 1
    · rw [if_pos c4] at hs
      rw [← ha, hs]
      simp (maxSteps := 10000000) (maxDischargeDepth := 30) only [e0, e2, e7, e8, c2, go_sem, Nat.reduceEqDiff, ↓reduceIte, Nat.reduceAdd, Nat.reduceMul, Nat.reduceLeDiff, Nat.reduceLT, reduceCtorEq, Int.reduceToNat, Int.reduceLE, Int.reduceLT, Int.reduceEq, Int.reduceNeg, Int.reduceNe, Int.reducePow, Nat.reducePow, Nat.reduceSub, IntKind.bits]
      refine ro_kcall (cVLen v l hh mm) ww (fun h1 k1 w1 => ?_)
      simp (maxSteps := 10000000) (maxDischargeDepth := 30) only [e0, e2, e7, e8, c3, go_sem, Nat.reduceEqDiff, ↓reduceIte, Nat.reduceAdd, Nat.reduceMul, Nat.reduceLeDiff, Nat.reduceLT, reduceCtorEq, Int.reduceToNat, Int.reduceLE, Int.reduceLT, Int.reduceEq, Int.reduceNeg, Int.reduceNe, Int.reducePow, Nat.reducePow, Nat.reduceSub, IntKind.bits]
      refine ro_kcall (cVAt v l i h1 w1 (mm.next k1)) w1 (fun h2 k2 w2 => ?_)
      rw [hx]
      have lo2 := w2.1
      have kf : ∀ c B, Keep h ((h2.alloc c).put h2.len B) := fun c B => (((kk.trans k1).trans k2).alloc c).put ((kk.trans k1).trans k2).len B
      have lx : h2.len < h2.len + 1 := by omega
      simp (maxSteps := 10000000) (maxDischargeDepth := 30) only [e0, e2, e7, e8, lo2, lx, Option.getD_some, Option.isSome_some, ItemR.e, c4, kf, go_sem, Nat.reduceEqDiff, ↓reduceIte, Nat.reduceAdd, Nat.reduceMul, Nat.reduceLeDiff, Nat.reduceLT, reduceCtorEq, Int.reduceToNat, Int.reduceLE, Int.reduceLT, Int.reduceEq, Int.reduceNeg, Int.reduceNe, Int.reducePow, Nat.reducePow, Nat.reduceSub, IntKind.bits]
    · rw [if_neg c4] at hs
      refine ru_step ?_
      have ew : IntKind.i64.wrap ((i : Int) + 1) = ((i + 1 : Nat) : Int) := by rw [wrap64 (by omega) (by omega)]; omega
      simp (maxSteps := 10000000) (maxDischargeDepth := 30) only [e0, e2, e7, e8, c2, go_sem, Nat.reduceEqDiff, ↓reduceIte, Nat.reduceAdd, Nat.reduceMul, Nat.reduceLeDiff, Nat.reduceLT, reduceCtorEq, Int.reduceToNat, Int.reduceLE, Int.reduceLT, Int.reduceEq, Int.reduceNeg, Int.reduceNe, Int.reducePow, Nat.reducePow, Nat.reduceSub, IntKind.bits]
      refine ro_kcall (cVLen v l hh mm) ww (fun h1 k1 w1 => ?_)
      simp (maxSteps := 10000000) (maxDischargeDepth := 30) only [e0, e2, e7, e8, c3, go_sem, Nat.reduceEqDiff, ↓reduceIte, Nat.reduceAdd, Nat.reduceMul, Nat.reduceLeDiff, Nat.reduceLT, reduceCtorEq, Int.reduceToNat, Int.reduceLE, Int.reduceLT, Int.reduceEq, Int.reduceNeg, Int.reduceNe, Int.reducePow, Nat.reducePow, Nat.reduceSub, IntKind.bits]
      refine ro_kcall (cVAt v l i h1 w1 (mm.next k1)) w1 (fun h2 k2 w2 => ?_)
      rw [hx]
      have lo2 := w2.1
      have kf : ∀ c B, Keep h ((h2.alloc c).put h2.len B) := fun c B => (((kk.trans k1).trans k2).alloc c).put ((kk.trans k1).trans k2).len B
      have wf : ∀ c B, WF ((h2.alloc c).put h2.len B) := fun c B => w2.keep (((Keep.refl h2).alloc c).put (Nat.le_refl _) B)
      have lx : h2.len < h2.len + 1 := by omega
      simp (maxSteps := 10000000) (maxDischargeDepth := 30) only [e0, e2, e7, e8, lo2, lx, Option.getD_some, Option.isSome_some, ItemR.e, c4, ew, go_sem, Nat.reduceEqDiff, ↓reduceIte, Nat.reduceAdd, Nat.reduceMul, Nat.reduceLeDiff, Nat.reduceLT, reduceCtorEq, Int.reduceToNat, Int.reduceLE, Int.reduceLT, Int.reduceEq, Int.reduceNeg, Int.reduceNe, Int.reducePow, Nat.reducePow, Nat.reduceSub, IntKind.bits]
      refine ⟨i + 1, by omega, ?_⟩
      unfold IBehindS
      simp (maxSteps := 10000000) (maxDischargeDepth := 30) only [e0, e2, e7, go_sem, Nat.reduceEqDiff, ↓reduceIte, Nat.reduceAdd, Nat.reduceMul, Nat.reduceLeDiff, Nat.reduceLT, reduceCtorEq, Int.reduceToNat, Int.reduceLE, Int.reduceLT, Int.reduceEq, Int.reduceNeg, Int.reduceNe, Int.reducePow, Nat.reducePow, Nat.reduceSub, IntKind.bits]
      exact ⟨by rw [← ha, hs], kf _ _, wf _ _⟩
theorem cPaAhead (v : LV) (l : List ItemR) (b : Int) (hl : l.length ≤ 1000) (h : H) (w : WF h) (m : IsV v l h) :
    runI Try.prog TA 20 [v, .int .i64 b] h = some (.int .i64 (aheadP l b l.length), hp Try.prog TA 20 [v, .int .i64 b] h) := by
  refine pure_of rfl res20 rfl ?_
  have hpl := placeN_le (l := l) b
  by_cases c0 : b < 1
  · have hp : placeN l b = 0 := by unfold placeN; omega
    have hr : aheadP l b l.length = -1 := by rw [aheadP_place, hp]; rfl
    rw [hr]
    simp (maxSteps := 10000000) (maxDischargeDepth := 30) only [q20, r20, c0, go_sem, Nat.reduceEqDiff, ↓reduceIte, Nat.reduceAdd, Nat.reduceMul, Nat.reduceLeDiff, Nat.reduceLT, reduceCtorEq, Int.reduceToNat, Int.reduceLE, Int.reduceLT, Int.reduceEq, Int.reduceNeg, Int.reduceNe, Int.reducePow, Nat.reducePow, Nat.reduceSub, IntKind.bits]
  · simp (maxSteps := 10000000) (maxDischargeDepth := 30) only [q20, r20, c0, go_sem, Nat.reduceEqDiff, ↓reduceIte, Nat.reduceAdd, Nat.reduceMul, Nat.reduceLeDiff, Nat.reduceLT, reduceCtorEq, Int.reduceToNat, Int.reduceLE, Int.reduceLT, Int.reduceEq, Int.reduceNeg, Int.reduceNe, Int.reducePow, Nat.reducePow, Nat.reduceSub, IntKind.bits]
    refine ro_kcall (cVLen v l h m) w (fun h1 k1 w1 => ?_)
    have ep : IntKind.i64.wrap (min b (l.length : Int) - 1) = ((placeN l b : Nat) - 1 : Int) := by
      rw [wrap64 (by omega) (by omega)]; unfold placeN; omega
    simp (maxSteps := 10000000) (maxDischargeDepth := 30) only [ep, go_sem, Nat.reduceEqDiff, ↓reduceIte, Nat.reduceAdd, Nat.reduceMul, Nat.reduceLeDiff, Nat.reduceLT, reduceCtorEq, Int.reduceToNat, Int.reduceLE, Int.reduceLT, Int.reduceEq, Int.reduceNeg, Int.reduceNe, Int.reducePow, Nat.reducePow, Nat.reduceSub, IntKind.bits]
    refine ro_kcall (cPaSeekA v l b hl h1 w1 (m.next k1)) w1 (fun h2 k2 w2 => ?_)
    have kk := k1.trans k2
    simp (maxSteps := 10000000) (maxDischargeDepth := 30) only [kk, go_sem, Nat.reduceEqDiff, ↓reduceIte, Nat.reduceAdd, Nat.reduceMul, Nat.reduceLeDiff, Nat.reduceLT, reduceCtorEq, Int.reduceToNat, Int.reduceLE, Int.reduceLT, Int.reduceEq, Int.reduceNeg, Int.reduceNe, Int.reducePow, Nat.reducePow, Nat.reduceSub, IntKind.bits]
theorem cPaBehind (v : LV) (l : List ItemR) (b : Int) (hl : l.length ≤ 1000) (h : H) (w : WF h) (m : IsV v l h) :
    runI Try.prog TA 22 [v, .int .i64 b] h = some (.int .i64 (behindP l b), hp Try.prog TA 22 [v, .int .i64 b] h) := by
  refine pure_of rfl res22 rfl ?_
  simp (maxSteps := 10000000) (maxDischargeDepth := 30) only [q22, r22, go_sem, Nat.reduceEqDiff, ↓reduceIte, Nat.reduceAdd, Nat.reduceMul, Nat.reduceLeDiff, Nat.reduceLT, reduceCtorEq, Int.reduceToNat, Int.reduceLE, Int.reduceLT, Int.reduceEq, Int.reduceNeg, Int.reduceNe, Int.reducePow, Nat.reducePow, Nat.reduceSub, IntKind.bits]
  refine ro_kcall (cPaSeekB v l b hl h w m) w (fun h2 k2 w2 => ?_)
  simp (maxSteps := 10000000) (maxDischargeDepth := 30) only [k2, go_sem, Nat.reduceEqDiff, ↓reduceIte, Nat.reduceAdd, Nat.reduceMul, Nat.reduceLeDiff, Nat.reduceLT, reduceCtorEq, Int.reduceToNat, Int.reduceLE, Int.reduceLT, Int.reduceEq, Int.reduceNeg, Int.reduceNe, Int.reducePow, Nat.reducePow, Nat.reduceSub, IntKind.bits]
/-! ### closures: is it such a line? -/
theorem cPaIs (v : LV) (l : List ItemR) (f : Int) (h : H) (m : IsV v l h) : ∃ u h', runI Try.prog TA 56 [v, .int .i64 f] h = some (u, h') ∧ (∃ p q, u = .fn 62 [] [.ptr p 0, .ptr q 0] ∧ h'.get p = some ⟨false, [v]⟩ ∧ h'.get q = some ⟨false, [.int .i64 f]⟩) ∧ Keep h h' := by
  refine calls_of rfl res56 rfl ?_

  have g1 : ((h.alloc [v]).alloc [.int .i64 f]).get h.len = some ⟨false, [v]⟩ := (get_alloc_lt (by rw [len_alloc]; omega)).trans (get_alloc_eq _ _)
  have g2 : ((h.alloc [v]).alloc [.int .i64 f]).get (h.len + 1) = some ⟨false, [.int .i64 f]⟩ := by have := get_alloc_eq (h.alloc [v]) [.int .i64 f]; rwa [len_alloc] at this
  rcases m.is with ⟨rfl, -⟩ | ⟨p, o, rfl, -⟩
  · simp (maxSteps := 10000000) (maxDischargeDepth := 30) only [q56, r56, go_sem, Nat.reduceEqDiff, ↓reduceIte, Nat.reduceAdd, Nat.reduceMul, Nat.reduceLeDiff, Nat.reduceLT, reduceCtorEq, Int.reduceToNat, Int.reduceLE, Int.reduceLT, Int.reduceEq, Int.reduceNeg, Int.reduceNe, Int.reducePow, Nat.reducePow, Nat.reduceSub, IntKind.bits]
    exact ⟨_, _, rfl, g1, g2⟩
  · simp (maxSteps := 10000000) (maxDischargeDepth := 30) only [q56, r56, go_sem, Nat.reduceEqDiff, ↓reduceIte, Nat.reduceAdd, Nat.reduceMul, Nat.reduceLeDiff, Nat.reduceLT, reduceCtorEq, Int.reduceToNat, Int.reduceLE, Int.reduceLT, Int.reduceEq, Int.reduceNeg, Int.reduceNe, Int.reducePow, Nat.reducePow, Nat.reduceSub, IntKind.bits]
    exact ⟨_, _, rfl, g1, g2⟩
theorem cPaIsF (v : LV) (l : List ItemR) (f n : Int) (p q : Nat) (h : H) (w : WF h) (m : IsV v l h) (gp : h.get p = some ⟨false, [v]⟩) (gq : h.get q = some ⟨false, [.int .i64 f]⟩) :
    runI Try.prog TA 62 [.int .i64 n, .ptr p 0, .ptr q 0] h = some (.bool (isF l f n), hp Try.prog TA 62 [.int .i64 n, .ptr p 0, .ptr q 0] h) := by
  refine pure_of rfl res62 rfl ?_
  simp (maxSteps := 10000000) (maxDischargeDepth := 30) only [q62, r62, gp, go_sem, Nat.reduceEqDiff, ↓reduceIte, Nat.reduceAdd, Nat.reduceMul, Nat.reduceLeDiff, Nat.reduceLT, reduceCtorEq, Int.reduceToNat, Int.reduceLE, Int.reduceLT, Int.reduceEq, Int.reduceNeg, Int.reduceNe, Int.reducePow, Nat.reducePow, Nat.reduceSub, IntKind.bits]
  refine ro_kcall (cVAt v l n h w m) w (fun h1 k1 w1 => ?_)
  have lo1 := w1.1
  unfold isF
  cases hx : itAt l n with
  | none =>
    have kf : ∀ c B, Keep h ((h1.alloc c).put h1.len B) := fun c B => (k1.alloc c).put k1.len B
    simp (maxSteps := 10000000) (maxDischargeDepth := 30) only [lo1, itemZ, ItemR.e, Option.getD_none, Option.isSome_none, kf, go_sem, Nat.reduceEqDiff, ↓reduceIte, Nat.reduceAdd, Nat.reduceMul, Nat.reduceLeDiff, Nat.reduceLT, reduceCtorEq, Int.reduceToNat, Int.reduceLE, Int.reduceLT, Int.reduceEq, Int.reduceNeg, Int.reduceNe, Int.reducePow, Nat.reducePow, Nat.reduceSub, IntKind.bits]
  | some x =>
    simp (maxSteps := 10000000) (maxDischargeDepth := 30) only [lo1, ItemR.e, Option.getD_some, Option.isSome_some, go_sem, Nat.reduceEqDiff, ↓reduceIte, Nat.reduceAdd, Nat.reduceMul, Nat.reduceLeDiff, Nat.reduceLT, reduceCtorEq, Int.reduceToNat, Int.reduceLE, Int.reduceLT, Int.reduceEq, Int.reduceNeg, Int.reduceNe, Int.reducePow, Nat.reducePow, Nat.reduceSub, IntKind.bits]
    generalize hgg : H.put _ _ _ = g
    have kg : Keep h1 g := by rw [← hgg]; exact ((Keep.refl h1).alloc _).put (Nat.le_refl _) _
    have gg : g.get h1.len = some ⟨false, [.int .i64 x.k, .int .i64 x.h, .int .i64 x.f, .int .i64 x.str, .int .i64 x.ord, .int .i64 x.shr, .int .i64 x.n]⟩ := by rw [← hgg]; exact get_put_eq (by rw [len_alloc]; omega)
    clear hgg
    have kk := k1.trans kg
    have gqg := (kk.get (lt_of_get gq)).trans gq
    simp (maxSteps := 10000000) (maxDischargeDepth := 30) only [gg, gqg, kk, go_sem, Nat.reduceEqDiff, ↓reduceIte, Nat.reduceAdd, Nat.reduceMul, Nat.reduceLeDiff, Nat.reduceLT, reduceCtorEq, Int.reduceToNat, Int.reduceLE, Int.reduceLT, Int.reduceEq, Int.reduceNeg, Int.reduceNe, Int.reducePow, Nat.reducePow, Nat.reduceSub, IntKind.bits]
end Go.LM
