import Derived.Test.YtgbhkmgmpodnkaaLmTrcRc
import Derived.Test.YtgbhkmgmpodnkaaLmcPile3
namespace Go.LM
open Go.Proofs
set_option maxRecDepth 8000
set_option maxHeartbeats 4000000
set_option linter.unusedSimpArgs false
set_option linter.unusedVariables false
def okHPush (h0 h : H) (r : Nat) (o : Option Nat) (l : List PairR) (x : PairR) (h' : H) : Prop :=
  (∃ m' l', Row2 h0 r (some m') l' h' ∧ h.len ≤ m' ∧ l'.Perm (l ++ [x]) ∧ ((InR l → HeapN l l.length) → InR l' → HeapN l' l'.length)) ∧ Fr2 r o h h'
theorem cHpPush {h0 : H} {r : Nat} {o : Option Nat} {l : List PairR} {h : H} (R : Row2 h0 r o l h) (x : PairR) (hb : l.length ≤ 100000) :
    ∃ h', runI Try.prog TA 59 [.iface 75 (.ptr r 0), .iface 53 x.e] h = some (.tup [], h') ∧ okHPush h0 h r o l x h' := by
  refine calls_ex rfl res59 rfl ?_
  simp (maxSteps := 10000000) (maxDischargeDepth := 30) only [q59, r59, mPush, go_sem, Nat.reduceEqDiff, ↓reduceIte, Nat.reduceAdd, Nat.reduceMul, Nat.reduceLeDiff, Nat.reduceLT, reduceCtorEq, Int.reduceToNat, Int.reduceLE, Int.reduceLT, Int.reduceEq, Int.reduceNeg, Int.reduceNe, Int.reducePow, Nat.reducePow, Nat.reduceSub, IntKind.bits]
  refine ro_wcall (cRowPush R x hb) (fun h1 J => ?_)
  obtain ⟨⟨m', R1, hm⟩, F1⟩ := J
  simp (maxSteps := 10000000) (maxDischargeDepth := 30) only [mLen, go_sem, Nat.reduceEqDiff, ↓reduceIte, Nat.reduceAdd, Nat.reduceMul, Nat.reduceLeDiff, Nat.reduceLT, reduceCtorEq, Int.reduceToNat, Int.reduceLE, Int.reduceLT, Int.reduceEq, Int.reduceNeg, Int.reduceNe, Int.reducePow, Nat.reducePow, Nat.reduceSub, IntKind.bits]
  refine ro_kcall (pRowLen R1) R1.wf (fun h2 k2 w2 => ?_)
  have R2 := R1.next k2
  have hl1 : (l ++ [x]).length = l.length + 1 := by simp
  have ew : IntKind.i64.wrap (((l.length + 1 : Nat) : Int) - 1) = (l.length : Int) := by rw [wrap64 (by omega) (by omega)]; omega
  rw [hl1]
  simp (maxSteps := 10000000) (maxDischargeDepth := 30) only [ew, go_sem, Nat.reduceEqDiff, ↓reduceIte, Nat.reduceAdd, Nat.reduceMul, Nat.reduceLeDiff, Nat.reduceLT, reduceCtorEq, Int.reduceToNat, Int.reduceLE, Int.reduceLT, Int.reduceEq, Int.reduceNeg, Int.reduceNe, Int.reducePow, Nat.reducePow, Nat.reduceSub, IntKind.bits]
  refine ro_wcall (cHpUp R2 (j := l.length) (by omega) (by omega) (C := InR (l ++ [x]) ∧ (InR l → HeapN l l.length)) (fun c => c.1) (fun c => up_start (c.2 fun y hy => c.1 y (List.mem_append_left _ hy)))) (fun h3 J => ?_)
  obtain ⟨⟨l', R3, p3, hp3⟩, F3⟩ := J
  simp (maxSteps := 10000000) (maxDischargeDepth := 30) only [go_sem, Nat.reduceEqDiff, ↓reduceIte, Nat.reduceAdd, Nat.reduceMul, Nat.reduceLeDiff, Nat.reduceLT, reduceCtorEq, Int.reduceToNat, Int.reduceLE, Int.reduceLT, Int.reduceEq, Int.reduceNeg, Int.reduceNe, Int.reducePow, Nat.reducePow, Nat.reduceSub, IntKind.bits]
  exact ⟨⟨m', l', R3, hm, p3, fun hl hi => hp3 ⟨hi.perm p3.symm, hl⟩⟩, F1.trans ((k2.fr2 r (some m')).trans F3 (.inl rfl)) (.inr fun m e => by cases e; exact hm)⟩
def okHPop (h0 h : H) (r m : Nat) (l : List PairR) (x : PairR) (h' : H) : Prop :=
  (∃ l', Row2 h0 r (some m) l' h' ∧ (x :: l').Perm l ∧ ((InR l → HeapN l l.length) → InR l' → InR l → HeapN l' l'.length)) ∧ Fr2 r (some m) h h'
theorem cHpPop {h0 : H} {r m n : Nat} {l : List PairR} {x : PairR} {h : H} (R : Row2 h0 r (some m) l h) (hl : l.length = n + 1) (hx : l[0]? = some x) (hb : n ≤ 100000) :
    ∃ h', runI Try.prog TA 60 [.iface 75 (.ptr r 0)] h = some (.iface 53 x.e, h') ∧ okHPop h0 h r m l x h' := by
  refine calls_ex rfl res60 rfl ?_
  simp (maxSteps := 10000000) (maxDischargeDepth := 30) only [q60, r60, mLen, go_sem, Nat.reduceEqDiff, ↓reduceIte, Nat.reduceAdd, Nat.reduceMul, Nat.reduceLeDiff, Nat.reduceLT, reduceCtorEq, Int.reduceToNat, Int.reduceLE, Int.reduceLT, Int.reduceEq, Int.reduceNeg, Int.reduceNe, Int.reducePow, Nat.reducePow, Nat.reduceSub, IntKind.bits]
  refine ro_kcall (pRowLen R) R.wf (fun h2 k2 w2 => ?_)
  have R2 := R.next k2
  have ew : IntKind.i64.wrap (((n + 1 : Nat) : Int) - 1) = (n : Int) := by rw [wrap64 (by omega) (by omega)]; omega
  rw [hl]
  simp (maxSteps := 10000000) (maxDischargeDepth := 30) only [ew, mSwap, go_sem, Nat.reduceEqDiff, ↓reduceIte, Nat.reduceAdd, Nat.reduceMul, Nat.reduceLeDiff, Nat.reduceLT, reduceCtorEq, Int.reduceToNat, Int.reduceLE, Int.reduceLT, Int.reduceEq, Int.reduceNeg, Int.reduceNe, Int.reducePow, Nat.reducePow, Nat.reduceSub, IntKind.bits]
  have cSw := cRowSwap R2 (i := 0) (j := n) (by omega) (by omega)
  refine ro_wcall cSw (fun h3 J => ?_)
  obtain ⟨R3, F3⟩ := J
  simp (maxSteps := 10000000) (maxDischargeDepth := 30) only [go_sem, Nat.reduceEqDiff, ↓reduceIte, Nat.reduceAdd, Nat.reduceMul, Nat.reduceLeDiff, Nat.reduceLT, reduceCtorEq, Int.reduceToNat, Int.reduceLE, Int.reduceLT, Int.reduceEq, Int.reduceNeg, Int.reduceNe, Int.reducePow, Nat.reducePow, Nat.reduceSub, IntKind.bits]
  refine ro_vcall (cHpDown R3 (n := n) (i0 := 0) (by rw [swap_len]; omega) (by omega) (by rw [swap_len]; omega) (C := InR l ∧ (InR l → HeapN l l.length)) (fun c => c.1.perm (swap_perm (by omega) (by omega))) (fun c => down_start hl (c.2 c.1))) (fun v h4 J => ?_)
  obtain ⟨⟨b, rfl⟩, ⟨l', R4, p4, s4, hp4⟩, F4⟩ := J
  have hl4 : l'.length = n + 1 := by rw [p4.length_eq, swap_len]; exact hl
  have hn4 : l'[n]? = some x := by rw [s4 n (Nat.le_refl _), swap_get (by omega) (by omega), if_pos rfl]; exact hx
  have e4 : l' = l'.dropLast ++ [x] := by
    have hne : l' ≠ [] := by intro e; rw [e] at hl4; simp at hl4
    have := List.dropLast_concat_getLast hne
    rw [List.getLast_eq_getElem] at this
    have e5 : l'[l'.length - 1]'(by omega) = x := by
      have := List.getElem?_eq_getElem (l := l') (i := n) (by omega)
      rw [hn4] at this
      have h6 : l'.length - 1 = n := by omega
      simp only [h6]
      exact (Option.some.inj this).symm
    rw [e5] at this
    exact this.symm
  have hd4 : l'.dropLast.length = n := by simp [hl4]
  rw [e4] at R4
  simp (maxSteps := 10000000) (maxDischargeDepth := 30) only [mPop, go_sem, Nat.reduceEqDiff, ↓reduceIte, Nat.reduceAdd, Nat.reduceMul, Nat.reduceLeDiff, Nat.reduceLT, reduceCtorEq, Int.reduceToNat, Int.reduceLE, Int.reduceLT, Int.reduceEq, Int.reduceNeg, Int.reduceNe, Int.reducePow, Nat.reducePow, Nat.reduceSub, IntKind.bits]
  refine ro_wcall (cRowPop R4 (by omega)) (fun h5 J => ?_)
  obtain ⟨R5, F5⟩ := J
  simp (maxSteps := 10000000) (maxDischargeDepth := 30) only [go_sem, Nat.reduceEqDiff, ↓reduceIte, Nat.reduceAdd, Nat.reduceMul, Nat.reduceLeDiff, Nat.reduceLT, reduceCtorEq, Int.reduceToNat, Int.reduceLE, Int.reduceLT, Int.reduceEq, Int.reduceNeg, Int.reduceNe, Int.reducePow, Nat.reducePow, Nat.reduceSub, IntKind.bits]
  refine ⟨⟨l'.dropLast, R5, ?_, fun hh _ hi => heap_cut hl4 (hp4 ⟨hi, hh⟩)⟩, ((k2.fr2 r (some m)).trans F3 (.inl rfl)).trans (F4.trans F5 (.inl rfl)) (.inl rfl)⟩
  have p5 := p4.trans (swap_perm (l := l) (i := 0) (j := n) (by omega) (by omega))
  rw [e4] at p5
  exact (List.perm_append_singleton x l'.dropLast).symm.trans p5
end Go.LM
