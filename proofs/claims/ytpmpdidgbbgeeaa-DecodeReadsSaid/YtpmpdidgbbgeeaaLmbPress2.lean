import Derived.Test.YtpmpdidgbbgeeaaLmTrbR1
import Derived.Test.YtpmpdidgbbgeeaaLmTrbR2
import Derived.Test.YtpmpdidgbbgeeaaLmbPress
import Derived.Test.YtpmpdidgbbgeeaaLmB8
namespace Go.LM
open Go.Proofs
set_option maxRecDepth 4000
set_option maxHeartbeats 4000000
set_option linter.unusedSimpArgs false

/-! ### the plain answers' bytes -/
def ISameG (o o2 : Option (Nat × Nat)) (a b : List Int) (h0 : H) (i : Nat) (s : S) (h : H) : Prop :=
  s 0 = byts o a ∧ s 1 = byts o2 b ∧ s 5 = .int .i64 i ∧ i ≤ a.length ∧ a.take i = b.take i ∧ Keep h0 h ∧ WF h
theorem cSameG (o o2 : Option (Nat × Nat)) (a b : List Int) (hl : a.length ≤ 1000000000000) (h : H) (w : WF h) :
    runI Try.prog TA 21 [byts o a, byts o2 b] h = some (.bool (decide (a = b)), hp Try.prog TA 21 [byts o a, byts o2 b] h) := by
  refine pure_of rfl res21 rfl ?_
  by_cases hab : a.length = b.length
  rotate_left
  · have c0 : ¬ (a.length : Int) = b.length := by omega
    have d0 : decide (a = b) = false := by simp; intro e; exact hab (by rw [e])
    simp (maxSteps := 10000000) (maxDischargeDepth := 30) only [q21, r21, c0, d0, go_sem, Nat.reduceEqDiff, ↓reduceIte, Nat.reduceAdd, Nat.reduceMul, Nat.reduceLeDiff, Nat.reduceLT, reduceCtorEq, Int.reduceToNat, Int.reduceLE, Int.reduceLT, Int.reduceEq, Int.reduceNeg, Int.reduceNe, Nat.reduceSub, IntKind.bits]
  have c0 : (a.length : Int) = b.length := by omega
  simp (maxSteps := 10000000) (maxDischargeDepth := 30) only [q21, r21, c0, go_sem, Nat.reduceEqDiff, ↓reduceIte, Nat.reduceAdd, Nat.reduceMul, Nat.reduceLeDiff, Nat.reduceLT, reduceCtorEq, Int.reduceToNat, Int.reduceLE, Int.reduceLT, Int.reduceEq, Int.reduceNeg, Int.reduceNe, Nat.reduceSub, IntKind.bits]
  refine ru_loop (fun i => a.length - i) (ISameG o o2 a b h) 0 ?_ ?_
  · unfold ISameG
    simp (maxSteps := 10000000) (maxDischargeDepth := 30) only [w, Int.natCast_zero, List.take_zero, go_sem, Nat.reduceEqDiff, ↓reduceIte, Nat.reduceAdd, Nat.reduceMul, Nat.reduceLeDiff, Nat.reduceLT, reduceCtorEq, Int.reduceToNat, Int.reduceLE, Int.reduceLT, Int.reduceEq, Int.reduceNeg, Int.reduceNe, Nat.reduceSub, IntKind.bits]
  · rintro i s h1 ⟨e0, e1, e5, hi, ht, k1, w1⟩
    by_cases hlt : i < a.length
    · obtain ⟨n, hn⟩ : ∃ n, a[i]? = some n := ⟨a[i], List.getElem?_eq_getElem hlt⟩
      obtain ⟨m, hm⟩ : ∃ m, b[i]? = some m := ⟨b[i]'(by omega), List.getElem?_eq_getElem (by omega)⟩
      have ea := byt_at hn
      have eb := byt_at hm
      have c1 : (i : Int) < a.length := by omega
      rw [c0] at c1
      have ew : IntKind.i64.wrap ((i : Int) + 1) = ((i + 1 : Nat) : Int) := by rw [wrap64 (by omega) (by omega)]; omega
      by_cases hnm : n = m
      · subst hnm
        simp (maxSteps := 10000000) (maxDischargeDepth := 30) only [e0, e1, e5, ea, eb, c0, c1, ew, go_sem, Nat.reduceEqDiff, ↓reduceIte, Nat.reduceAdd, Nat.reduceMul, Nat.reduceLeDiff, Nat.reduceLT, reduceCtorEq, Int.reduceToNat, Int.reduceLE, Int.reduceLT, Int.reduceEq, Int.reduceNeg, Int.reduceNe, Nat.reduceSub, IntKind.bits]
        refine ⟨i + 1, by omega, ?_⟩
        unfold ISameG
        simp (maxSteps := 10000000) (maxDischargeDepth := 30) only [e0, e1, e5, k1, w1, ew, go_sem, Nat.reduceEqDiff, ↓reduceIte, Nat.reduceAdd, Nat.reduceMul, Nat.reduceLeDiff, Nat.reduceLT, reduceCtorEq, Int.reduceToNat, Int.reduceLE, Int.reduceLT, Int.reduceEq, Int.reduceNeg, Int.reduceNe, Nat.reduceSub, IntKind.bits]
        refine ⟨by omega, ?_⟩
        have := take_map_succ (f := fun x : Int => x) hn hm (by simpa using ht) rfl
        simpa using this
      · have d0 : decide (a = b) = false := by
          simp; intro e; rw [e, hm] at hn; exact hnm (by simpa using hn.symm)
        simp (maxSteps := 10000000) (maxDischargeDepth := 30) only [e0, e1, e5, ea, eb, c0, c1, hnm, k1, d0, go_sem, Nat.reduceEqDiff, ↓reduceIte, Nat.reduceAdd, Nat.reduceMul, Nat.reduceLeDiff, Nat.reduceLT, reduceCtorEq, Int.reduceToNat, Int.reduceLE, Int.reduceLT, Int.reduceEq, Int.reduceNeg, Int.reduceNe, Nat.reduceSub, IntKind.bits]
    · have c1 : ¬ (b.length : Int) < b.length := by omega
      obtain rfl : i = a.length := by omega
      have d0 : decide (a = b) = true := by
        rw [List.take_length, hab, List.take_length] at ht
        simpa using ht
      simp (maxSteps := 10000000) (maxDischargeDepth := 30) only [e0, e1, e5, c0, c1, k1, d0, go_sem, Nat.reduceEqDiff, ↓reduceIte, Nat.reduceAdd, Nat.reduceMul, Nat.reduceLeDiff, Nat.reduceLT, reduceCtorEq, Int.reduceToNat, Int.reduceLE, Int.reduceLT, Int.reduceEq, Int.reduceNeg, Int.reduceNe, Nat.reduceSub, IntKind.bits]
end Go.LM
