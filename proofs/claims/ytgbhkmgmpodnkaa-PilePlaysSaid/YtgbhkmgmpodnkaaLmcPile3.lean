import Derived.Test.YtgbhkmgmpodnkaaLmTrcRc
import Derived.Test.YtgbhkmgmpodnkaaLmcPile2
namespace Go.LM
open Go.Proofs
set_option maxRecDepth 8000
set_option maxHeartbeats 4000000
set_option linter.unusedSimpArgs false
set_option linter.unusedVariables false
theorem mLess : methodL Try.prog 75 "Less" = some 81 := by kernel_rfl
theorem mSwap : methodL Try.prog 75 "Swap" = some 84 := by kernel_rfl
theorem mPush : methodL Try.prog 75 "Push" = some 83 := by kernel_rfl
theorem mPop : methodL Try.prog 75 "Pop" = some 82 := by kernel_rfl
theorem mLen : methodL Try.prog 75 "Len" = some 61 := by kernel_rfl
def IUp (C : Prop) (h0 h : H) (r m : Nat) (l : List PairR) (jl : Nat × List PairR) (s : S) (hh : H) : Prop :=
  s 0 = .iface 75 (.ptr r 0) ∧ s 1 = .int .i64 jl.1 ∧ Row2 h0 r (some m) jl.2 hh ∧ Fr2 r (some m) h hh ∧ jl.2.Perm l ∧ jl.1 < l.length ∧ (C → UpOk jl.2 jl.1)
def okUp (C : Prop) (h0 h : H) (r m : Nat) (l : List PairR) (h' : H) : Prop := (∃ l', Row2 h0 r (some m) l' h' ∧ l'.Perm l ∧ (C → HeapN l' l'.length)) ∧ Fr2 r (some m) h h'
theorem cHpUp {h0 : H} {r m j : Nat} {l : List PairR} {h : H} (R : Row2 h0 r (some m) l h) (hj : j < l.length) (hb : l.length ≤ 100001) {C : Prop} (hC : C → InR l) (hu : C → UpOk l j) :
    ∃ h', runI Try.prog TA 63 [.iface 75 (.ptr r 0), .int .i64 j] h = some (.tup [], h') ∧ okUp C h0 h r m l h' := by
  refine calls_ex rfl res63 rfl ?_
  simp (maxSteps := 10000000) (maxDischargeDepth := 30) only [q63, r63, go_sem, Nat.reduceEqDiff, ↓reduceIte, Nat.reduceAdd, Nat.reduceMul, Nat.reduceLeDiff, Nat.reduceLT, reduceCtorEq, Int.reduceToNat, Int.reduceLE, Int.reduceLT, Int.reduceEq, Int.reduceNeg, Int.reduceNe, Int.reducePow, Nat.reducePow, Nat.reduceSub, IntKind.bits]
  refine ru_loop (fun a : Nat × List PairR => a.1) (IUp C h0 h r m l) (j, l) ?_ ?_
  · unfold IUp
    simp (maxSteps := 10000000) (maxDischargeDepth := 30) only [go_sem, Nat.reduceEqDiff, ↓reduceIte, Nat.reduceAdd, Nat.reduceMul, Nat.reduceLeDiff, Nat.reduceLT, reduceCtorEq, Int.reduceToNat, Int.reduceLE, Int.reduceLT, Int.reduceEq, Int.reduceNeg, Int.reduceNe, Int.reducePow, Nat.reducePow, Nat.reduceSub, IntKind.bits]
    exact ⟨R, (Keep.refl h).fr2 r (some m), .refl _, hj, hu⟩
  · rintro ⟨j, l'⟩ s hh ⟨e0, e1, R, F, p, hj, hu⟩
    dsimp only at e1 R p hj hu
    have hlen := p.length_eq
    obtain ⟨q, hq⟩ : ∃ q, q = (j - 1) / 2 := ⟨_, rfl⟩
    have ew : IntKind.i64.wrap ((j : Int) - 1) = (j : Int) - 1 := wrap64 (by omega) (by omega)
    have et : ((j : Int) - 1).tdiv 2 = (q : Int) := by
      rcases Nat.eq_zero_or_pos j with h | h
      · subst h; subst hq; decide
      · rw [Int.tdiv_eq_ediv_of_nonneg (by omega)]; omega
    have ew2 : IntKind.i64.wrap (q : Int) = (q : Int) := wrap64 (by omega) (by omega)
    by_cases hj0 : j = 0
    · have ej : ((q : Int) = (j : Int)) = True := eq_true (by omega)
      simp (maxSteps := 10000000) (maxDischargeDepth := 30) only [e0, e1, ew, et, ew2, ej, go_sem, Nat.reduceEqDiff, ↓reduceIte, Nat.reduceAdd, Nat.reduceMul, Nat.reduceLeDiff, Nat.reduceLT, reduceCtorEq, Int.reduceToNat, Int.reduceLE, Int.reduceLT, Int.reduceEq, Int.reduceNeg, Int.reduceNe, Int.reducePow, Nat.reducePow, Nat.reduceSub, IntKind.bits]
      exact ⟨⟨l', R, p, fun hi => up_done (hu hi) (.inl hj0)⟩, F⟩
    have ej : ((q : Int) = (j : Int)) = False := eq_false (by omega)
    obtain ⟨x, hx⟩ := get_some (l := l') (i := j) (by omega)
    obtain ⟨y, hy⟩ := get_some (l := l') (i := q) (by omega)
    have kx := key_some hx
    have ky := key_some hy
    have hin : C → lessB x y = decide (x.a < y.a) := fun hi => lessB_in (hC hi x (p.mem_iff.1 (List.mem_of_getElem? hx))) (hC hi y (p.mem_iff.1 (List.mem_of_getElem? hy)))
    cases hl : lessB x y
    · simp (maxSteps := 10000000) (maxDischargeDepth := 30) only [e0, e1, ew, et, ew2, ej, mLess, go_sem, Nat.reduceEqDiff, ↓reduceIte, Nat.reduceAdd, Nat.reduceMul, Nat.reduceLeDiff, Nat.reduceLT, reduceCtorEq, Int.reduceToNat, Int.reduceLE, Int.reduceLT, Int.reduceEq, Int.reduceNeg, Int.reduceNe, Int.reducePow, Nat.reducePow, Nat.reduceSub, IntKind.bits]
      refine ro_kcall (pRowLess R hx hy) R.wf (fun h1 k1 w1 => ?_)
      simp (maxSteps := 10000000) (maxDischargeDepth := 30) only [hl, go_sem, Nat.reduceEqDiff, ↓reduceIte, Nat.reduceAdd, Nat.reduceMul, Nat.reduceLeDiff, Nat.reduceLT, reduceCtorEq, Int.reduceToNat, Int.reduceLE, Int.reduceLT, Int.reduceEq, Int.reduceNeg, Int.reduceNe, Int.reducePow, Nat.reducePow, Nat.reduceSub, IntKind.bits]
      refine ⟨⟨l', R.next k1, p, fun hi => up_done (hu hi) (.inr ?_)⟩, F.trans (k1.fr2 r (some m)) (.inl rfl)⟩
      have := hin hi
      rw [hl] at this
      have := of_decide_eq_false this.symm
      rw [← hq, kx, ky]; omega
    · refine ru_step ?_
      simp (maxSteps := 10000000) (maxDischargeDepth := 30) only [e0, e1, ew, et, ew2, ej, mLess, go_sem, Nat.reduceEqDiff, ↓reduceIte, Nat.reduceAdd, Nat.reduceMul, Nat.reduceLeDiff, Nat.reduceLT, reduceCtorEq, Int.reduceToNat, Int.reduceLE, Int.reduceLT, Int.reduceEq, Int.reduceNeg, Int.reduceNe, Int.reducePow, Nat.reducePow, Nat.reduceSub, IntKind.bits]
      refine ro_kcall (pRowLess R hx hy) R.wf (fun h1 k1 w1 => ?_)
      have R1 := R.next k1
      simp (maxSteps := 10000000) (maxDischargeDepth := 30) only [hl, e0, e1, mSwap, go_sem, Nat.reduceEqDiff, ↓reduceIte, Nat.reduceAdd, Nat.reduceMul, Nat.reduceLeDiff, Nat.reduceLT, reduceCtorEq, Int.reduceToNat, Int.reduceLE, Int.reduceLT, Int.reduceEq, Int.reduceNeg, Int.reduceNe, Int.reducePow, Nat.reducePow, Nat.reduceSub, IntKind.bits]
      refine ro_wcall (cRowSwap R1 (i := q) (j := j) (by omega) (by omega)) (fun h2 J => ?_)
      obtain ⟨R2, F2⟩ := J
      simp (maxSteps := 10000000) (maxDischargeDepth := 30) only [go_sem, Nat.reduceEqDiff, ↓reduceIte, Nat.reduceAdd, Nat.reduceMul, Nat.reduceLeDiff, Nat.reduceLT, reduceCtorEq, Int.reduceToNat, Int.reduceLE, Int.reduceLT, Int.reduceEq, Int.reduceNeg, Int.reduceNe, Int.reducePow, Nat.reducePow, Nat.reduceSub, IntKind.bits]
      refine ⟨(q, swapL l' q j), by dsimp only; omega, ?_⟩
      unfold IUp
      simp (maxSteps := 10000000) (maxDischargeDepth := 30) only [e0, go_sem, Nat.reduceEqDiff, ↓reduceIte, Nat.reduceAdd, Nat.reduceMul, Nat.reduceLeDiff, Nat.reduceLT, reduceCtorEq, Int.reduceToNat, Int.reduceLE, Int.reduceLT, Int.reduceEq, Int.reduceNeg, Int.reduceNe, Int.reducePow, Nat.reducePow, Nat.reduceSub, IntKind.bits]
      refine ⟨R2, (F.trans (k1.fr2 r (some m)) (.inl rfl)).trans F2 (.inl rfl), (swap_perm (by omega) (by omega)).trans p, by omega, fun hi => up_step (hu hi) (by omega) (by omega) hq ?_⟩
      have := hin hi
      rw [hl] at this
      have := of_decide_eq_true this.symm
      rw [kx, ky]; exact this
def SameUp (n : Nat) (l' l : List PairR) : Prop := ∀ k, n ≤ k → l'[k]? = l[k]?
def IDown (C : Prop) (h0 h : H) (r m n i0 : Nat) (l : List PairR) (jl : Nat × List PairR) (s : S) (hh : H) : Prop :=
  s 0 = .iface 75 (.ptr r 0) ∧ s 1 = .int .i64 i0 ∧ s 2 = .int .i64 n ∧ s 7 = .int .i64 jl.1 ∧ Row2 h0 r (some m) jl.2 hh ∧ Fr2 r (some m) h hh ∧ jl.2.Perm l ∧ jl.1 ≤ l.length ∧ SameUp n jl.2 l ∧ (C → DownOk jl.2 n jl.1)
def okDown (C : Prop) (h0 h : H) (r m n : Nat) (l : List PairR) (v : LV) (h' : H) : Prop := (∃ b, v = .bool b) ∧ (∃ l', Row2 h0 r (some m) l' h' ∧ l'.Perm l ∧ SameUp n l' l ∧ (C → HeapN l' n)) ∧ Fr2 r (some m) h h'
theorem cHpDown {h0 : H} {r m n i0 : Nat} {l : List PairR} {h : H} (R : Row2 h0 r (some m) l h) (hn : n ≤ l.length) (hi0 : i0 ≤ l.length) (hb : l.length ≤ 100001) {C : Prop} (hC : C → InR l) (hu : C → DownOk l n i0) :
    ∃ v h', runI Try.prog TA 64 [.iface 75 (.ptr r 0), .int .i64 i0, .int .i64 n] h = some (v, h') ∧ okDown C h0 h r m n l v h' := by
  refine calls_of rfl res64 rfl ?_
  simp (maxSteps := 10000000) (maxDischargeDepth := 30) only [q64, r64, go_sem, Nat.reduceEqDiff, ↓reduceIte, Nat.reduceAdd, Nat.reduceMul, Nat.reduceLeDiff, Nat.reduceLT, reduceCtorEq, Int.reduceToNat, Int.reduceLE, Int.reduceLT, Int.reduceEq, Int.reduceNeg, Int.reduceNe, Int.reducePow, Nat.reducePow, Nat.reduceSub, IntKind.bits]
  refine ru_loop (fun a : Nat × List PairR => n - a.1) (IDown C h0 h r m n i0 l) (i0, l) ?_ ?_
  · unfold IDown
    simp (maxSteps := 10000000) (maxDischargeDepth := 30) only [go_sem, Nat.reduceEqDiff, ↓reduceIte, Nat.reduceAdd, Nat.reduceMul, Nat.reduceLeDiff, Nat.reduceLT, reduceCtorEq, Int.reduceToNat, Int.reduceLE, Int.reduceLT, Int.reduceEq, Int.reduceNeg, Int.reduceNe, Int.reducePow, Nat.reducePow, Nat.reduceSub, IntKind.bits]
    exact ⟨R, (Keep.refl h).fr2 r (some m), .refl _, hi0, fun _ _ => rfl, hu⟩
  · rintro ⟨i, l'⟩ s hh ⟨e0, e1, e2, e7, R, F, p, hil, hs, hu⟩
    dsimp only at e7 R p hil hs hu
    have hlen := p.length_eq
    have ew1 : IntKind.i64.wrap (2 * (i : Int)) = 2 * (i : Int) := wrap64 (by omega) (by omega)
    have ew2 : IntKind.i64.wrap (2 * (i : Int) + 1) = ((2 * i + 1 : Nat) : Int) := by rw [wrap64 (by omega) (by omega)]; omega
    have ew3 : IntKind.i64.wrap (((2 * i + 1 : Nat) : Int) + 1) = ((2 * i + 2 : Nat) : Int) := by rw [wrap64 (by omega) (by omega)]; omega
    have ec0 : (((2 * i + 1 : Nat) : Int) < 0) = False := eq_false (by omega)
    by_cases c1 : ((n : Nat) : Int) ≤ ((2 * i + 1 : Nat) : Int)
    · simp (maxSteps := 10000000) (maxDischargeDepth := 30) only [e0, e1, e2, e7, ew1, ew2, c1, go_sem, Nat.reduceEqDiff, ↓reduceIte, Nat.reduceAdd, Nat.reduceMul, Nat.reduceLeDiff, Nat.reduceLT, reduceCtorEq, Int.reduceToNat, Int.reduceLE, Int.reduceLT, Int.reduceEq, Int.reduceNeg, Int.reduceNe, Int.reducePow, Nat.reducePow, Nat.reduceSub, IntKind.bits]
      exact ⟨⟨_, rfl⟩, ⟨l', R, p, hs, fun hi => down_done (hu hi) (fun k h0 h1 h2 => by omega)⟩, F⟩
    obtain ⟨x0, hx0⟩ := get_some (l := l') (i := i) (by omega)
    obtain ⟨x1, hx1⟩ := get_some (l := l') (i := 2 * i + 1) (by omega)
    have k0 := key_some hx0
    have k1 := key_some hx1
    have rng : ∀ {x : PairR} {k : Nat}, C → l'[k]? = some x → -1099511627776 ≤ x.a ∧ x.a ≤ 1099511627776 := fun hi hx => hC hi _ (p.mem_iff.1 (List.mem_of_getElem? hx))
    by_cases c2 : ((2 * i + 2 : Nat) : Int) < ((n : Nat) : Int)
    rotate_left
    · have hin : C → lessB x1 x0 = decide (x1.a < x0.a) := fun hi => lessB_in (rng hi hx1) (rng hi hx0)
      have kj := key_some hx1
      have hm : C → ∀ k, 0 < k → k < n → (k - 1) / 2 = i → keyL l' (2 * i + 1) ≤ keyL l' k := by
        intro hi k h0 h1 h2
        obtain rfl : k = 2 * i + 1 := by omega
        exact Int.le_refl _
      cases hl : lessB x1 x0
      · simp (maxSteps := 10000000) (maxDischargeDepth := 30) only [e0, e1, e2, e7, ew1, ew2, c1, ec0, ew3, mLess, c2, go_sem, Nat.reduceEqDiff, ↓reduceIte, Nat.reduceAdd, Nat.reduceMul, Nat.reduceLeDiff, Nat.reduceLT, reduceCtorEq, Int.reduceToNat, Int.reduceLE, Int.reduceLT, Int.reduceEq, Int.reduceNeg, Int.reduceNe, Int.reducePow, Nat.reducePow, Nat.reduceSub, IntKind.bits]
        refine ro_kcall (pRowLess R hx1 hx0) R.wf (fun hb kb wb => ?_)
        simp (maxSteps := 10000000) (maxDischargeDepth := 30) only [hl, e1, e7, go_sem, Nat.reduceEqDiff, ↓reduceIte, Nat.reduceAdd, Nat.reduceMul, Nat.reduceLeDiff, Nat.reduceLT, reduceCtorEq, Int.reduceToNat, Int.reduceLE, Int.reduceLT, Int.reduceEq, Int.reduceNeg, Int.reduceNe, Int.reducePow, Nat.reducePow, Nat.reduceSub, IntKind.bits]
        refine ⟨⟨_, rfl⟩, ⟨l', R.next kb, p, hs, fun hi => down_done (hu hi) (fun k h0 h1 h2 => ?_)⟩, (F).trans (kb.fr2 r (some m)) (.inl rfl)⟩
        have a1 := hm hi k h0 h1 h2
        have a2 := hin hi
        rw [hl] at a2
        have a3 := of_decide_eq_false a2.symm
        rw [k0]; rw [kj] at a1; omega
      · refine ru_step ?_
        simp (maxSteps := 10000000) (maxDischargeDepth := 30) only [e0, e1, e2, e7, ew1, ew2, c1, ec0, ew3, mLess, c2, go_sem, Nat.reduceEqDiff, ↓reduceIte, Nat.reduceAdd, Nat.reduceMul, Nat.reduceLeDiff, Nat.reduceLT, reduceCtorEq, Int.reduceToNat, Int.reduceLE, Int.reduceLT, Int.reduceEq, Int.reduceNeg, Int.reduceNe, Int.reducePow, Nat.reducePow, Nat.reduceSub, IntKind.bits]
        refine ro_kcall (pRowLess R hx1 hx0) R.wf (fun hb kb wb => ?_)
        have Rb := R.next kb
        simp (maxSteps := 10000000) (maxDischargeDepth := 30) only [hl, e0, e7, mSwap, go_sem, Nat.reduceEqDiff, ↓reduceIte, Nat.reduceAdd, Nat.reduceMul, Nat.reduceLeDiff, Nat.reduceLT, reduceCtorEq, Int.reduceToNat, Int.reduceLE, Int.reduceLT, Int.reduceEq, Int.reduceNeg, Int.reduceNe, Int.reducePow, Nat.reducePow, Nat.reduceSub, IntKind.bits]
        refine ro_wcall (cRowSwap Rb (i := i) (j := 2 * i + 1) (by omega) (by omega)) (fun hd J => ?_)
        obtain ⟨R2, F2⟩ := J
        simp (maxSteps := 10000000) (maxDischargeDepth := 30) only [go_sem, Nat.reduceEqDiff, ↓reduceIte, Nat.reduceAdd, Nat.reduceMul, Nat.reduceLeDiff, Nat.reduceLT, reduceCtorEq, Int.reduceToNat, Int.reduceLE, Int.reduceLT, Int.reduceEq, Int.reduceNeg, Int.reduceNe, Int.reducePow, Nat.reducePow, Nat.reduceSub, IntKind.bits]
        refine ⟨(2 * i + 1, swapL l' i (2 * i + 1)), by dsimp only; omega, ?_⟩
        unfold IDown
        simp (maxSteps := 10000000) (maxDischargeDepth := 30) only [e0, e1, e2, go_sem, Nat.reduceEqDiff, ↓reduceIte, Nat.reduceAdd, Nat.reduceMul, Nat.reduceLeDiff, Nat.reduceLT, reduceCtorEq, Int.reduceToNat, Int.reduceLE, Int.reduceLT, Int.reduceEq, Int.reduceNeg, Int.reduceNe, Int.reducePow, Nat.reducePow, Nat.reduceSub, IntKind.bits]
        refine ⟨R2, ((F).trans (kb.fr2 r (some m)) (.inl rfl)).trans F2 (.inl rfl), (swap_perm (by omega) (by omega)).trans p, by omega, fun k hk => ?_, fun hi => down_step (hu hi) (by omega) (by omega) (by omega) (by omega) ?_ (hm hi)⟩
        · rw [swap_get (by omega) (by omega), if_neg (by omega), if_neg (by omega)]; exact hs k hk
        · have a2 := hin hi
          rw [hl] at a2
          have a3 := of_decide_eq_true a2.symm
          rw [k0, kj]; exact a3
    obtain ⟨x2, hx2⟩ := get_some (l := l') (i := 2 * i + 2) (by omega)
    have k2 := key_some hx2
    have hin2 : C → lessB x2 x1 = decide (x2.a < x1.a) := fun hi => lessB_in (rng hi hx2) (rng hi hx1)
    cases hl2 : lessB x2 x1
    · have hin : C → lessB x1 x0 = decide (x1.a < x0.a) := fun hi => lessB_in (rng hi hx1) (rng hi hx0)
      have kj := key_some hx1
      have hm : C → ∀ k, 0 < k → k < n → (k - 1) / 2 = i → keyL l' (2 * i + 1) ≤ keyL l' k := by
        intro hi k h0 h1 h2
        have a2 := hin2 hi
        rw [hl2] at a2
        have a3 := of_decide_eq_false a2.symm
        obtain rfl | rfl : k = 2 * i + 1 ∨ k = 2 * i + 2 := by omega
        · exact Int.le_refl _
        · rw [k1, k2]; omega
      cases hl : lessB x1 x0
      · simp (maxSteps := 10000000) (maxDischargeDepth := 30) only [e0, e1, e2, e7, ew1, ew2, c1, ec0, ew3, mLess, c2, go_sem, Nat.reduceEqDiff, ↓reduceIte, Nat.reduceAdd, Nat.reduceMul, Nat.reduceLeDiff, Nat.reduceLT, reduceCtorEq, Int.reduceToNat, Int.reduceLE, Int.reduceLT, Int.reduceEq, Int.reduceNeg, Int.reduceNe, Int.reducePow, Nat.reducePow, Nat.reduceSub, IntKind.bits]
        refine ro_kcall (pRowLess R hx2 hx1) R.wf (fun ha ka wa => ?_)
        have Ra := R.next ka
        simp (maxSteps := 10000000) (maxDischargeDepth := 30) only [hl2, e0, e7, mLess, go_sem, Nat.reduceEqDiff, ↓reduceIte, Nat.reduceAdd, Nat.reduceMul, Nat.reduceLeDiff, Nat.reduceLT, reduceCtorEq, Int.reduceToNat, Int.reduceLE, Int.reduceLT, Int.reduceEq, Int.reduceNeg, Int.reduceNe, Int.reducePow, Nat.reducePow, Nat.reduceSub, IntKind.bits]
        refine ro_kcall (pRowLess Ra hx1 hx0) Ra.wf (fun hb kb wb => ?_)
        simp (maxSteps := 10000000) (maxDischargeDepth := 30) only [hl, e1, e7, go_sem, Nat.reduceEqDiff, ↓reduceIte, Nat.reduceAdd, Nat.reduceMul, Nat.reduceLeDiff, Nat.reduceLT, reduceCtorEq, Int.reduceToNat, Int.reduceLE, Int.reduceLT, Int.reduceEq, Int.reduceNeg, Int.reduceNe, Int.reducePow, Nat.reducePow, Nat.reduceSub, IntKind.bits]
        refine ⟨⟨_, rfl⟩, ⟨l', Ra.next kb, p, hs, fun hi => down_done (hu hi) (fun k h0 h1 h2 => ?_)⟩, ((F.trans (ka.fr2 r (some m)) (.inl rfl))).trans (kb.fr2 r (some m)) (.inl rfl)⟩
        have a1 := hm hi k h0 h1 h2
        have a2 := hin hi
        rw [hl] at a2
        have a3 := of_decide_eq_false a2.symm
        rw [k0]; rw [kj] at a1; omega
      · refine ru_step ?_
        simp (maxSteps := 10000000) (maxDischargeDepth := 30) only [e0, e1, e2, e7, ew1, ew2, c1, ec0, ew3, mLess, c2, go_sem, Nat.reduceEqDiff, ↓reduceIte, Nat.reduceAdd, Nat.reduceMul, Nat.reduceLeDiff, Nat.reduceLT, reduceCtorEq, Int.reduceToNat, Int.reduceLE, Int.reduceLT, Int.reduceEq, Int.reduceNeg, Int.reduceNe, Int.reducePow, Nat.reducePow, Nat.reduceSub, IntKind.bits]
        refine ro_kcall (pRowLess R hx2 hx1) R.wf (fun ha ka wa => ?_)
        have Ra := R.next ka
        simp (maxSteps := 10000000) (maxDischargeDepth := 30) only [hl2, e0, e7, mLess, go_sem, Nat.reduceEqDiff, ↓reduceIte, Nat.reduceAdd, Nat.reduceMul, Nat.reduceLeDiff, Nat.reduceLT, reduceCtorEq, Int.reduceToNat, Int.reduceLE, Int.reduceLT, Int.reduceEq, Int.reduceNeg, Int.reduceNe, Int.reducePow, Nat.reducePow, Nat.reduceSub, IntKind.bits]
        refine ro_kcall (pRowLess Ra hx1 hx0) Ra.wf (fun hb kb wb => ?_)
        have Rb := Ra.next kb
        simp (maxSteps := 10000000) (maxDischargeDepth := 30) only [hl, e0, e7, mSwap, go_sem, Nat.reduceEqDiff, ↓reduceIte, Nat.reduceAdd, Nat.reduceMul, Nat.reduceLeDiff, Nat.reduceLT, reduceCtorEq, Int.reduceToNat, Int.reduceLE, Int.reduceLT, Int.reduceEq, Int.reduceNeg, Int.reduceNe, Int.reducePow, Nat.reducePow, Nat.reduceSub, IntKind.bits]
        refine ro_wcall (cRowSwap Rb (i := i) (j := 2 * i + 1) (by omega) (by omega)) (fun hd J => ?_)
        obtain ⟨R2, F2⟩ := J
        simp (maxSteps := 10000000) (maxDischargeDepth := 30) only [go_sem, Nat.reduceEqDiff, ↓reduceIte, Nat.reduceAdd, Nat.reduceMul, Nat.reduceLeDiff, Nat.reduceLT, reduceCtorEq, Int.reduceToNat, Int.reduceLE, Int.reduceLT, Int.reduceEq, Int.reduceNeg, Int.reduceNe, Int.reducePow, Nat.reducePow, Nat.reduceSub, IntKind.bits]
        refine ⟨(2 * i + 1, swapL l' i (2 * i + 1)), by dsimp only; omega, ?_⟩
        unfold IDown
        simp (maxSteps := 10000000) (maxDischargeDepth := 30) only [e0, e1, e2, go_sem, Nat.reduceEqDiff, ↓reduceIte, Nat.reduceAdd, Nat.reduceMul, Nat.reduceLeDiff, Nat.reduceLT, reduceCtorEq, Int.reduceToNat, Int.reduceLE, Int.reduceLT, Int.reduceEq, Int.reduceNeg, Int.reduceNe, Int.reducePow, Nat.reducePow, Nat.reduceSub, IntKind.bits]
        refine ⟨R2, (((F.trans (ka.fr2 r (some m)) (.inl rfl))).trans (kb.fr2 r (some m)) (.inl rfl)).trans F2 (.inl rfl), (swap_perm (by omega) (by omega)).trans p, by omega, fun k hk => ?_, fun hi => down_step (hu hi) (by omega) (by omega) (by omega) (by omega) ?_ (hm hi)⟩
        · rw [swap_get (by omega) (by omega), if_neg (by omega), if_neg (by omega)]; exact hs k hk
        · have a2 := hin hi
          rw [hl] at a2
          have a3 := of_decide_eq_true a2.symm
          rw [k0, kj]; exact a3
    · have hin : C → lessB x2 x0 = decide (x2.a < x0.a) := fun hi => lessB_in (rng hi hx2) (rng hi hx0)
      have kj := key_some hx2
      have hm : C → ∀ k, 0 < k → k < n → (k - 1) / 2 = i → keyL l' (2 * i + 2) ≤ keyL l' k := by
        intro hi k h0 h1 h2
        have a2 := hin2 hi
        rw [hl2] at a2
        have a3 := of_decide_eq_true a2.symm
        obtain rfl | rfl : k = 2 * i + 1 ∨ k = 2 * i + 2 := by omega
        · rw [k1, k2]; omega
        · exact Int.le_refl _
      cases hl : lessB x2 x0
      · simp (maxSteps := 10000000) (maxDischargeDepth := 30) only [e0, e1, e2, e7, ew1, ew2, c1, ec0, ew3, mLess, c2, go_sem, Nat.reduceEqDiff, ↓reduceIte, Nat.reduceAdd, Nat.reduceMul, Nat.reduceLeDiff, Nat.reduceLT, reduceCtorEq, Int.reduceToNat, Int.reduceLE, Int.reduceLT, Int.reduceEq, Int.reduceNeg, Int.reduceNe, Int.reducePow, Nat.reducePow, Nat.reduceSub, IntKind.bits]
        refine ro_kcall (pRowLess R hx2 hx1) R.wf (fun ha ka wa => ?_)
        have Ra := R.next ka
        simp (maxSteps := 10000000) (maxDischargeDepth := 30) only [hl2, e0, e7, mLess, go_sem, Nat.reduceEqDiff, ↓reduceIte, Nat.reduceAdd, Nat.reduceMul, Nat.reduceLeDiff, Nat.reduceLT, reduceCtorEq, Int.reduceToNat, Int.reduceLE, Int.reduceLT, Int.reduceEq, Int.reduceNeg, Int.reduceNe, Int.reducePow, Nat.reducePow, Nat.reduceSub, IntKind.bits]
        refine ro_kcall (pRowLess Ra hx2 hx0) Ra.wf (fun hb kb wb => ?_)
        simp (maxSteps := 10000000) (maxDischargeDepth := 30) only [hl, e1, e7, go_sem, Nat.reduceEqDiff, ↓reduceIte, Nat.reduceAdd, Nat.reduceMul, Nat.reduceLeDiff, Nat.reduceLT, reduceCtorEq, Int.reduceToNat, Int.reduceLE, Int.reduceLT, Int.reduceEq, Int.reduceNeg, Int.reduceNe, Int.reducePow, Nat.reducePow, Nat.reduceSub, IntKind.bits]
        refine ⟨⟨_, rfl⟩, ⟨l', Ra.next kb, p, hs, fun hi => down_done (hu hi) (fun k h0 h1 h2 => ?_)⟩, ((F.trans (ka.fr2 r (some m)) (.inl rfl))).trans (kb.fr2 r (some m)) (.inl rfl)⟩
        have a1 := hm hi k h0 h1 h2
        have a2 := hin hi
        rw [hl] at a2
        have a3 := of_decide_eq_false a2.symm
        rw [k0]; rw [kj] at a1; omega
      · refine ru_step ?_
        simp (maxSteps := 10000000) (maxDischargeDepth := 30) only [e0, e1, e2, e7, ew1, ew2, c1, ec0, ew3, mLess, c2, go_sem, Nat.reduceEqDiff, ↓reduceIte, Nat.reduceAdd, Nat.reduceMul, Nat.reduceLeDiff, Nat.reduceLT, reduceCtorEq, Int.reduceToNat, Int.reduceLE, Int.reduceLT, Int.reduceEq, Int.reduceNeg, Int.reduceNe, Int.reducePow, Nat.reducePow, Nat.reduceSub, IntKind.bits]
        refine ro_kcall (pRowLess R hx2 hx1) R.wf (fun ha ka wa => ?_)
        have Ra := R.next ka
        simp (maxSteps := 10000000) (maxDischargeDepth := 30) only [hl2, e0, e7, mLess, go_sem, Nat.reduceEqDiff, ↓reduceIte, Nat.reduceAdd, Nat.reduceMul, Nat.reduceLeDiff, Nat.reduceLT, reduceCtorEq, Int.reduceToNat, Int.reduceLE, Int.reduceLT, Int.reduceEq, Int.reduceNeg, Int.reduceNe, Int.reducePow, Nat.reducePow, Nat.reduceSub, IntKind.bits]
        refine ro_kcall (pRowLess Ra hx2 hx0) Ra.wf (fun hb kb wb => ?_)
        have Rb := Ra.next kb
        simp (maxSteps := 10000000) (maxDischargeDepth := 30) only [hl, e0, e7, mSwap, go_sem, Nat.reduceEqDiff, ↓reduceIte, Nat.reduceAdd, Nat.reduceMul, Nat.reduceLeDiff, Nat.reduceLT, reduceCtorEq, Int.reduceToNat, Int.reduceLE, Int.reduceLT, Int.reduceEq, Int.reduceNeg, Int.reduceNe, Int.reducePow, Nat.reducePow, Nat.reduceSub, IntKind.bits]
        refine ro_wcall (cRowSwap Rb (i := i) (j := 2 * i + 2) (by omega) (by omega)) (fun hd J => ?_)
        obtain ⟨R2, F2⟩ := J
        simp (maxSteps := 10000000) (maxDischargeDepth := 30) only [go_sem, Nat.reduceEqDiff, ↓reduceIte, Nat.reduceAdd, Nat.reduceMul, Nat.reduceLeDiff, Nat.reduceLT, reduceCtorEq, Int.reduceToNat, Int.reduceLE, Int.reduceLT, Int.reduceEq, Int.reduceNeg, Int.reduceNe, Int.reducePow, Nat.reducePow, Nat.reduceSub, IntKind.bits]
        refine ⟨(2 * i + 2, swapL l' i (2 * i + 2)), by dsimp only; omega, ?_⟩
        unfold IDown
        simp (maxSteps := 10000000) (maxDischargeDepth := 30) only [e0, e1, e2, go_sem, Nat.reduceEqDiff, ↓reduceIte, Nat.reduceAdd, Nat.reduceMul, Nat.reduceLeDiff, Nat.reduceLT, reduceCtorEq, Int.reduceToNat, Int.reduceLE, Int.reduceLT, Int.reduceEq, Int.reduceNeg, Int.reduceNe, Int.reducePow, Nat.reducePow, Nat.reduceSub, IntKind.bits]
        refine ⟨R2, (((F.trans (ka.fr2 r (some m)) (.inl rfl))).trans (kb.fr2 r (some m)) (.inl rfl)).trans F2 (.inl rfl), (swap_perm (by omega) (by omega)).trans p, by omega, fun k hk => ?_, fun hi => down_step (hu hi) (by omega) (by omega) (by omega) (by omega) ?_ (hm hi)⟩
        · rw [swap_get (by omega) (by omega), if_neg (by omega), if_neg (by omega)]; exact hs k hk
        · have a2 := hin hi
          rw [hl] at a2
          have a3 := of_decide_eq_true a2.symm
          rw [k0, kj]; exact a3
end Go.LM
