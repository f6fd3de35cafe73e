import Derived.Test.YtpmpdidgbbgeeaaLmTrbR1
import Derived.Test.YtpmpdidgbbgeeaaLmTrbR2
import Derived.Test.YtpmpdidgbbgeeaaLmbPress
import Derived.Test.YtpmpdidgbbgeeaaLmB8
namespace Go.LM
open Go.Proofs
set_option maxRecDepth 4000
set_option maxHeartbeats 4000000
set_option linter.unusedSimpArgs false

/-! ### the plain answers' bytes -/
def IChains (o : Option (Nat × Nat)) (l : List Int) (h0 : H) (i : Nat) (s : S) (hh : H) : Prop :=
  s 0 = ints o l ∧ s 4 = .int .i64 i ∧ i ≤ l.length ∧ ∃ o2, s 3 = byts o2 (chns (l.take i)) ∧ Acc h0 o2 (chns (l.take i)) hh
theorem cChains (o : Option (Nat × Nat)) (l : List Int) (h : H) (w : WF h) (hi : ∀ n ∈ l, I64 n) (hl : l.length ≤ 1000) :
    runI Try.prog TA 73 [ints o l] h = some (byts (tk Try.prog TA 73 [ints o l] h) (chns l), hp Try.prog TA 73 [ints o l] h) := by
  refine pureS_of rfl res73 rfl ?_
  simp (maxSteps := 10000000) (maxDischargeDepth := 30) only [q73, r73, go_sem, Nat.reduceEqDiff, ↓reduceIte, Nat.reduceAdd, Nat.reduceMul, Nat.reduceLeDiff, Nat.reduceLT, reduceCtorEq, Int.reduceToNat, Int.reduceLE, Int.reduceLT, Int.reduceEq, Int.reduceNeg, Int.reduceNe, Int.reducePow, Nat.reducePow, Nat.reduceSub, IntKind.bits]
  refine ru_loop (fun i => l.length - i) (IChains o l h) 0 ?_ ?_
  · unfold IChains
    simp (maxSteps := 10000000) (maxDischargeDepth := 30) only [Int.natCast_zero, go_sem, Nat.reduceEqDiff, ↓reduceIte, Nat.reduceAdd, Nat.reduceMul, Nat.reduceLeDiff, Nat.reduceLT, reduceCtorEq, Int.reduceToNat, Int.reduceLE, Int.reduceLT, Int.reduceEq, Int.reduceNeg, Int.reduceNe, Int.reducePow, Nat.reducePow, Nat.reduceSub, IntKind.bits]
    exact ⟨none, rfl, .start (.refl _) w⟩
  · rintro i s hh ⟨e0, e4, hil, o2, e3, A⟩
    by_cases hlt : i < l.length
    · obtain ⟨x, hx⟩ : ∃ x, l[i]? = some x := ⟨l[i], List.getElem?_eq_getElem hlt⟩
      have ia := int_at hx
      have c1 : (i : Int) < l.length := by omega
      have ew : IntKind.i64.wrap ((i : Int) + 1) = ((i + 1 : Nat) : Int) := by rw [wrap64 (by omega) (by omega)]; omega
      have hx64 := hi x (List.mem_of_getElem? hx)
      have ht : (l.take i).length ≤ 1000 := by rw [List.length_take]; omega
      have hcl := chns_len (l := l.take i) (fun n hn => hi n (List.mem_of_mem_take hn))
      have hk := cChain x hx64.1 hx64.2 hh A.wf
      simp (maxSteps := 10000000) (maxDischargeDepth := 30) only [e0, e3, e4, c1, ia, go_sem, Nat.reduceEqDiff, ↓reduceIte, Nat.reduceAdd, Nat.reduceMul, Nat.reduceLeDiff, Nat.reduceLT, reduceCtorEq, Int.reduceToNat, Int.reduceLE, Int.reduceLT, Int.reduceEq, Int.reduceNeg, Int.reduceNe, Int.reducePow, Nat.reducePow, Nat.reduceSub, IntKind.bits]
      refine ro_kcall hk A.wf (fun h1 k1 w1 => ?_)
      obtain ⟨o3, h3, ap, A3, _⟩ := (A.next k1).app (chn x) (by have := chn_len hx64; omega)
      unfold chn at ap
      simp (maxSteps := 10000000) (maxDischargeDepth := 30) only [e0, e3, e4, ap, ew, go_sem, Nat.reduceEqDiff, ↓reduceIte, Nat.reduceAdd, Nat.reduceMul, Nat.reduceLeDiff, Nat.reduceLT, reduceCtorEq, Int.reduceToNat, Int.reduceLE, Int.reduceLT, Int.reduceEq, Int.reduceNeg, Int.reduceNe, Int.reducePow, Nat.reducePow, Nat.reduceSub, IntKind.bits]
      refine ⟨i + 1, by omega, ?_⟩
      unfold IChains
      simp (maxSteps := 10000000) (maxDischargeDepth := 30) only [e0, e4, go_sem, Nat.reduceEqDiff, ↓reduceIte, Nat.reduceAdd, Nat.reduceMul, Nat.reduceLeDiff, Nat.reduceLT, reduceCtorEq, Int.reduceToNat, Int.reduceLE, Int.reduceLT, Int.reduceEq, Int.reduceNeg, Int.reduceNe, Int.reducePow, Nat.reducePow, Nat.reduceSub, IntKind.bits]
      have hf : chns (l.take (i + 1)) = chns (l.take i) ++ chn x := flat_take chn hx
      rw [hf]
      exact ⟨by omega, o3, rfl, A3⟩
    · have c1 : ¬ (i : Int) < l.length := by omega
      obtain rfl : i = l.length := by omega
      rw [List.take_length] at e3 A
      simp (maxSteps := 10000000) (maxDischargeDepth := 30) only [e0, e3, e4, c1, go_sem, Nat.reduceEqDiff, ↓reduceIte, Nat.reduceAdd, Nat.reduceMul, Nat.reduceLeDiff, Nat.reduceLT, reduceCtorEq, Int.reduceToNat, Int.reduceLE, Int.reduceLT, Int.reduceEq, Int.reduceNeg, Int.reduceNe, Int.reducePow, Nat.reducePow, Nat.reduceSub, IntKind.bits]
      exact ⟨⟨o2, rfl⟩, A.keep⟩
theorem cRPPut (x : PutR) (h : H) (w : WF h) (hx : x.ok) : runI Try.prog TA 25 [x.e] h = some (byts (tk Try.prog TA 25 [x.e] h) (putB x), hp Try.prog TA 25 [x.e] h) := by
  refine pureS_of rfl res25 rfl ?_
  have hlo := w.1
  simp (maxSteps := 10000000) (maxDischargeDepth := 30) only [q25, r25, PutR.e, hlo, go_sem, Nat.reduceEqDiff, ↓reduceIte, Nat.reduceAdd, Nat.reduceMul, Nat.reduceLeDiff, Nat.reduceLT, reduceCtorEq, Int.reduceToNat, Int.reduceLE, Int.reduceLT, Int.reduceEq, Int.reduceNeg, Int.reduceNe, Int.reducePow, Nat.reducePow, Nat.reduceSub, IntKind.bits]
  generalize hg : H.nrow _ _ = g
  have kg : Keep h g := by rw [← hg]; exact ((Keep.refl h).alloc _).nrow _
  refine ro_kcall (cChains _ x.nums g (w.keep kg) hx (by simp [PutR.nums])) (w.keep kg) (fun h2 k2 w2 => ?_)
  simp (maxSteps := 10000000) (maxDischargeDepth := 30) only [go_sem, Nat.reduceEqDiff, ↓reduceIte, Nat.reduceAdd, Nat.reduceMul, Nat.reduceLeDiff, Nat.reduceLT, reduceCtorEq, Int.reduceToNat, Int.reduceLE, Int.reduceLT, Int.reduceEq, Int.reduceNeg, Int.reduceNe, Int.reducePow, Nat.reducePow, Nat.reduceSub, IntKind.bits]
  exact ⟨⟨_, rfl⟩, kg.trans k2⟩

/-! ### are bytes the same? -/
def ISameG (o o2 : Option (Nat × Nat)) (a b : List Int) (h0 : H) (i : Nat) (s : S) (h : H) : Prop :=
  s 0 = byts o a ∧ s 1 = byts o2 b ∧ s 5 = .int .i64 i ∧ i ≤ a.length ∧ a.take i = b.take i ∧ Keep h0 h ∧ WF h
theorem cSameG (o o2 : Option (Nat × Nat)) (a b : List Int) (hl : a.length ≤ 1000000000000) (h : H) (w : WF h) :
    runI Try.prog TA 21 [byts o a, byts o2 b] h = some (.bool (decide (a = b)), hp Try.prog TA 21 [byts o a, byts o2 b] h) := by
  refine pure_of rfl res21 rfl ?_
  by_cases hab : a.length = b.length
  rotate_left
  · have c0 : ¬ (a.length : Int) = b.length := by omega
    have d0 : decide (a = b) = false := by simp; intro e; exact hab (by rw [e])
    simp (maxSteps := 10000000) (maxDischargeDepth := 30) only [q21, r21, c0, d0, go_sem, Nat.reduceEqDiff, ↓reduceIte, Nat.reduceAdd, Nat.reduceMul, Nat.reduceLeDiff, Nat.reduceLT, reduceCtorEq, Int.reduceToNat, Int.reduceLE, Int.reduceLT, Int.reduceEq, Int.reduceNeg, Int.reduceNe, Int.reducePow, Nat.reducePow, Nat.reduceSub, IntKind.bits]
  have c0 : (a.length : Int) = b.length := by omega
  simp (maxSteps := 10000000) (maxDischargeDepth := 30) only [q21, r21, c0, go_sem, Nat.reduceEqDiff, ↓reduceIte, Nat.reduceAdd, Nat.reduceMul, Nat.reduceLeDiff, Nat.reduceLT, reduceCtorEq, Int.reduceToNat, Int.reduceLE, Int.reduceLT, Int.reduceEq, Int.reduceNeg, Int.reduceNe, Int.reducePow, Nat.reducePow, Nat.reduceSub, IntKind.bits]
  refine ru_loop (fun i => a.length - i) (ISameG o o2 a b h) 0 ?_ ?_
  · unfold ISameG
    simp (maxSteps := 10000000) (maxDischargeDepth := 30) only [w, Int.natCast_zero, List.take_zero, go_sem, Nat.reduceEqDiff, ↓reduceIte, Nat.reduceAdd, Nat.reduceMul, Nat.reduceLeDiff, Nat.reduceLT, reduceCtorEq, Int.reduceToNat, Int.reduceLE, Int.reduceLT, Int.reduceEq, Int.reduceNeg, Int.reduceNe, Int.reducePow, Nat.reducePow, Nat.reduceSub, IntKind.bits]
  · rintro i s h1 ⟨e0, e1, e5, hi, ht, k1, w1⟩
    by_cases hlt : i < a.length
    · obtain ⟨n, hn⟩ : ∃ n, a[i]? = some n := ⟨a[i], List.getElem?_eq_getElem hlt⟩
      obtain ⟨m, hm⟩ : ∃ m, b[i]? = some m := ⟨b[i]'(by omega), List.getElem?_eq_getElem (by omega)⟩
      have ea := byt_at hn
      have eb := byt_at hm
      have c1 : (i : Int) < a.length := by omega
      rw [c0] at c1
      have ew : IntKind.i64.wrap ((i : Int) + 1) = ((i + 1 : Nat) : Int) := by rw [wrap64 (by omega) (by omega)]; omega
      by_cases hnm : n = m
      · subst hnm
        simp (maxSteps := 10000000) (maxDischargeDepth := 30) only [e0, e1, e5, ea, eb, c0, c1, ew, go_sem, Nat.reduceEqDiff, ↓reduceIte, Nat.reduceAdd, Nat.reduceMul, Nat.reduceLeDiff, Nat.reduceLT, reduceCtorEq, Int.reduceToNat, Int.reduceLE, Int.reduceLT, Int.reduceEq, Int.reduceNeg, Int.reduceNe, Int.reducePow, Nat.reducePow, Nat.reduceSub, IntKind.bits]
        refine ⟨i + 1, by omega, ?_⟩
        unfold ISameG
        simp (maxSteps := 10000000) (maxDischargeDepth := 30) only [e0, e1, e5, k1, w1, ew, go_sem, Nat.reduceEqDiff, ↓reduceIte, Nat.reduceAdd, Nat.reduceMul, Nat.reduceLeDiff, Nat.reduceLT, reduceCtorEq, Int.reduceToNat, Int.reduceLE, Int.reduceLT, Int.reduceEq, Int.reduceNeg, Int.reduceNe, Int.reducePow, Nat.reducePow, Nat.reduceSub, IntKind.bits]
        refine ⟨by omega, ?_⟩
        have := take_map_succ (f := fun x : Int => x) hn hm (by simpa using ht) rfl
        simpa using this
      · have d0 : decide (a = b) = false := by
          simp; intro e; rw [e, hm] at hn; exact hnm (by simpa using hn.symm)
        simp (maxSteps := 10000000) (maxDischargeDepth := 30) only [e0, e1, e5, ea, eb, c0, c1, hnm, k1, d0, go_sem, Nat.reduceEqDiff, ↓reduceIte, Nat.reduceAdd, Nat.reduceMul, Nat.reduceLeDiff, Nat.reduceLT, reduceCtorEq, Int.reduceToNat, Int.reduceLE, Int.reduceLT, Int.reduceEq, Int.reduceNeg, Int.reduceNe, Int.reducePow, Nat.reducePow, Nat.reduceSub, IntKind.bits]
    · have c1 : ¬ (b.length : Int) < b.length := by omega
      obtain rfl : i = a.length := by omega
      have d0 : decide (a = b) = true := by
        rw [List.take_length, hab, List.take_length] at ht
        simpa using ht
      simp (maxSteps := 10000000) (maxDischargeDepth := 30) only [e0, e1, e5, c0, c1, k1, d0, go_sem, Nat.reduceEqDiff, ↓reduceIte, Nat.reduceAdd, Nat.reduceMul, Nat.reduceLeDiff, Nat.reduceLT, reduceCtorEq, Int.reduceToNat, Int.reduceLE, Int.reduceLT, Int.reduceEq, Int.reduceNeg, Int.reduceNe, Int.reducePow, Nat.reducePow, Nat.reduceSub, IntKind.bits]
end Go.LM
