import Derived.Test.YtpmpdidgbbgeeaaLmTrbR1
import Derived.Test.YtpmpdidgbbgeeaaLmTrbR2
import Derived.Test.YtpmpdidgbbgeeaaLmbPress2
import Derived.Test.YtpmpdidgbbgeeaaLmB10
namespace Go.LM
open Go.Proofs
set_option maxRecDepth 8000
set_option maxHeartbeats 2000000
set_option linter.unusedSimpArgs false

def IWInts (o : Option (Nat × Nat)) (l : List Int) (h0 : H) (b : Nat) (bs : List Int) (h : H) (i : Nat) (s : S) (hh : H) : Prop :=
  s 4 = .fn 55 [.ptr b 0] [] ∧ s 13 = ints o l ∧ s 14 = .int .i64 l.length ∧ s 15 = .int .i64 i ∧ i ≤ l.length ∧ Wr h0 b (bs ++ chn l.length ++ (l.take i).flatMap chn) hh ∧ Oth b h hh
theorem cWInts (h0 : H) (b : Nat) (bs : List Int) (o : Option (Nat × Nat)) (l : List Int) (h : H) (W : Wr h0 b bs h) (hi : ∀ n ∈ l, I64 n) (hl : l.length ≤ 1000000) (hb : bs.length ≤ 10000000000) :
    ∃ h', runI Try.prog TA 57 [.ptr b 0, ints o l] h = some (.tup [], h') ∧ Wr h0 b (bs ++ many chn l) h' ∧ Oth b h h' := by
  refine calls_ex rfl res57 rfl ?_
  have hl64 : I64 l.length := ⟨by omega, by omega⟩
  simp (maxSteps := 10000000) (maxDischargeDepth := 30) only [q57, r57, go_sem, Nat.reduceEqDiff, ↓reduceIte, Nat.reduceAdd, Nat.reduceMul, Nat.reduceLeDiff, Nat.reduceLT, reduceCtorEq, Int.reduceToNat, Int.reduceLE, Int.reduceLT, Int.reduceEq, Int.reduceNeg, Int.reduceNe, Int.reducePow, Nat.reducePow, Nat.reduceSub, IntKind.bits]
  refine ro_wcall (cWInt h0 b bs l.length h W hl64 (by omega)) (fun h1 J1 => ?_)
  simp (maxSteps := 10000000) (maxDischargeDepth := 30) only [go_sem, Nat.reduceEqDiff, ↓reduceIte, Nat.reduceAdd, Nat.reduceMul, Nat.reduceLeDiff, Nat.reduceLT, reduceCtorEq, Int.reduceToNat, Int.reduceLE, Int.reduceLT, Int.reduceEq, Int.reduceNeg, Int.reduceNe, Int.reducePow, Nat.reducePow, Nat.reduceSub, IntKind.bits]
  refine ru_loop (fun i => l.length - i) (IWInts o l h0 b bs h) 0 ?_ ?_
  · unfold IWInts
    simp (maxSteps := 10000000) (maxDischargeDepth := 30) only [Int.natCast_zero, go_sem, Nat.reduceEqDiff, ↓reduceIte, Nat.reduceAdd, Nat.reduceMul, Nat.reduceLeDiff, Nat.reduceLT, reduceCtorEq, Int.reduceToNat, Int.reduceLE, Int.reduceLT, Int.reduceEq, Int.reduceNeg, Int.reduceNe, Int.reducePow, Nat.reducePow, Nat.reduceSub, IntKind.bits]
    exact ⟨by simpa using J1.1, J1.2⟩
  · rintro i s hh ⟨e4, e13, e14, e15, hil, W1, O1⟩
    by_cases hlt : i < l.length
    · obtain ⟨x, hx⟩ : ∃ x, l[i]? = some x := ⟨l[i], List.getElem?_eq_getElem hlt⟩
      have ia := int_at hx
      have c1 : (i : Int) < l.length := by omega
      have ew : IntKind.i64.wrap ((i : Int) + 1) = ((i + 1 : Nat) : Int) := by rw [wrap64 (by omega) (by omega)]; omega
      have hx64 := hi x (List.mem_of_getElem? hx)
      have ht : (l.take i).length ≤ 1000000 := by rw [List.length_take]; omega
      have hcl := chns_len (l := l.take i) (fun n hn => hi n (List.mem_of_mem_take hn))
      have hct := chn_len hl64
      unfold chns at hcl
      simp (maxSteps := 10000000) (maxDischargeDepth := 30) only [e4, e13, e14, e15, c1, ia, W1.lob, go_sem, Nat.reduceEqDiff, ↓reduceIte, Nat.reduceAdd, Nat.reduceMul, Nat.reduceLeDiff, Nat.reduceLT, reduceCtorEq, Int.reduceToNat, Int.reduceLE, Int.reduceLT, Int.reduceEq, Int.reduceNeg, Int.reduceNe, Int.reducePow, Nat.reducePow, Nat.reduceSub, IntKind.bits]
      refine ro_wcall (cWInt h0 b (bs ++ chn l.length ++ (l.take i).flatMap chn) x hh W1 hx64 (by rw [List.length_append, List.length_append]; omega)) (fun h2 J => ?_)
      simp (maxSteps := 10000000) (maxDischargeDepth := 30) only [e4, e13, e14, e15, ew, go_sem, Nat.reduceEqDiff, ↓reduceIte, Nat.reduceAdd, Nat.reduceMul, Nat.reduceLeDiff, Nat.reduceLT, reduceCtorEq, Int.reduceToNat, Int.reduceLE, Int.reduceLT, Int.reduceEq, Int.reduceNeg, Int.reduceNe, Int.reducePow, Nat.reducePow, Nat.reduceSub, IntKind.bits]
      refine ⟨i + 1, by omega, ?_⟩
      unfold IWInts
      simp (maxSteps := 10000000) (maxDischargeDepth := 30) only [e4, e13, e14, e15, go_sem, Nat.reduceEqDiff, ↓reduceIte, Nat.reduceAdd, Nat.reduceMul, Nat.reduceLeDiff, Nat.reduceLT, reduceCtorEq, Int.reduceToNat, Int.reduceLE, Int.reduceLT, Int.reduceEq, Int.reduceNeg, Int.reduceNe, Int.reducePow, Nat.reducePow, Nat.reduceSub, IntKind.bits]
      refine ⟨by omega, ?_, O1.trans J.2⟩
      rw [flat_take chn hx, ← List.append_assoc]
      exact J.1
    · have c1 : ¬ (i : Int) < l.length := by omega
      obtain rfl : i = l.length := by omega
      rw [List.take_length] at W1
      simp (maxSteps := 10000000) (maxDischargeDepth := 30) only [e4, e13, e14, e15, c1, go_sem, Nat.reduceEqDiff, ↓reduceIte, Nat.reduceAdd, Nat.reduceMul, Nat.reduceLeDiff, Nat.reduceLT, reduceCtorEq, Int.reduceToNat, Int.reduceLE, Int.reduceLT, Int.reduceEq, Int.reduceNeg, Int.reduceNe, Int.reducePow, Nat.reducePow, Nat.reduceSub, IntKind.bits]
      refine ⟨?_, O1⟩
      unfold many
      rw [← List.append_assoc]
      exact W1
end Go.LM
