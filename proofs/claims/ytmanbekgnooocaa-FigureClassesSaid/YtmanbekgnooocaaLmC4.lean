import Derived.Test.YtmanbekgnooocaaLmC3
namespace Go.LM
open Go.Proofs
set_option maxRecDepth 4000
set_option linter.unusedSimpArgs false

def hiStep (l : List Flo) (sep s n : Int) : Int :=
  match figAt l n with
  | some f => heldF (IntKind.i64.wrap (IntKind.i64.wrap (s + heldF f.H) + heldF sep))
  | none => s
def high (l : List Flo) (ids : List Int) (sep : Int) : Int := ids.foldl (hiStep l sep) 0
theorem foldl_at {α β : Type} (f : β → α → β) (b : β) (l : List α) (i : Nat) (x : α) (h : l[i]? = some x) : (l.take (i + 1)).foldl f b = f ((l.take i).foldl f b) x := by
  rw [List.take_add_one, h]; simp

def I21 (o o2 : Option (Nat × Nat)) (l : List Flo) (ids : List Int) (sep : Int) (h0 : H) (i : Nat) (s : S) (h : H) : Prop :=
  s 0 = flos o l ∧ s 2 = .int .i64 sep ∧ s 7 = .fn 63 [] [] ∧ s 8 = .int .i64 ((ids.take i).foldl (hiStep l sep) 0) ∧ s 13 = ints o2 ids ∧ s 14 = .int .i64 ids.length ∧ s 15 = .int .i64 i ∧ i ≤ ids.length ∧ Keep h0 h ∧ WF h

theorem c21 (o o2 : Option (Nat × Nat)) (l : List Flo) (ids : List Int) (sep : Int) (hl : ids.length ≤ 1000) (h : H) (w : WF h) :
    runI Try.prog TA 21 [flos o l, ints o2 ids, .int .i64 sep] h = some (.int .i64 (high l ids sep), hp Try.prog TA 21 [flos o l, ints o2 ids, .int .i64 sep] h) := by
  refine pure_of rfl res21 rfl ?_
  simp (maxSteps := 10000000) (maxDischargeDepth := 30) only [q21, r21, List.length_map, go_sem, Nat.reduceEqDiff, ↓reduceIte, Nat.reduceAdd, Nat.reduceMul, Nat.reduceLeDiff, Nat.reduceLT, reduceCtorEq, Int.reduceToNat, Int.reduceLE, Int.reduceLT, Int.reduceEq, Int.reduceNeg, Int.reduceNe, Int.reducePow, Nat.reducePow, Nat.reduceSub, IntKind.bits]
  refine ru_loop (fun i => ids.length - i) (I21 o o2 l ids sep h) 0 ?_ ?_
  · unfold I21
    simp (maxSteps := 10000000) (maxDischargeDepth := 30) only [w, List.foldl_nil, Int.natCast_zero, go_sem, Nat.reduceEqDiff, ↓reduceIte, Nat.reduceAdd, Nat.reduceMul, Nat.reduceLeDiff, Nat.reduceLT, reduceCtorEq, Int.reduceToNat, Int.reduceLE, Int.reduceLT, Int.reduceEq, Int.reduceNeg, Int.reduceNe, Int.reducePow, Nat.reducePow, Nat.reduceSub, IntKind.bits]
  · rintro i s h1 ⟨e0, e2, e7, e8, e13, e14, e15, hi, k1, w1⟩
    by_cases hlt : i < ids.length
    · obtain ⟨n, hn⟩ : ∃ n, ids[i]? = some n := ⟨ids[i], List.getElem?_eq_getElem hlt⟩
      have ea := int_at hn
      have c1 : (i : Int) < ids.length := by omega
      have ew : IntKind.i64.wrap ((i : Int) + 1) = ((i + 1 : Nat) : Int) := by rw [wrap64 (by omega) (by omega)]; omega
      have hlo := le_hp0 w1
      have ef := foldl_at (hiStep l sep) 0 ids i n hn
      cases hf : figAt l n with
      | none =>
        have e20 := c20 o l n
        rw [hf] at e20
        have ef : (ids.take (i + 1)).foldl (hiStep l sep) 0 = (ids.take i).foldl (hiStep l sep) 0 := by rw [ef]; simp [hiStep, hf]
        simp (maxSteps := 10000000) (maxDischargeDepth := 30) only [e0, e2, e7, e8, e13, e14, e15, ea, c1, ew, e20, w1, flo0, Flo.e, Option.getD_none, Option.isSome_none, hlo, go_sem, Nat.reduceEqDiff, ↓reduceIte, Nat.reduceAdd, Nat.reduceMul, Nat.reduceLeDiff, Nat.reduceLT, reduceCtorEq, Int.reduceToNat, Int.reduceLE, Int.reduceLT, Int.reduceEq, Int.reduceNeg, Int.reduceNe, Int.reducePow, Nat.reducePow, Nat.reduceSub, IntKind.bits]
        refine ⟨i + 1, by omega, ?_⟩
        unfold I21
        simp (maxSteps := 10000000) (maxDischargeDepth := 30) only [e0, e2, e7, e8, e13, e14, e15, ef, k1, k1.len, k1.rlen, w1, ew, go_sem, Nat.reduceEqDiff, ↓reduceIte, Nat.reduceAdd, Nat.reduceMul, Nat.reduceLeDiff, Nat.reduceLT, reduceCtorEq, Int.reduceToNat, Int.reduceLE, Int.reduceLT, Int.reduceEq, Int.reduceNeg, Int.reduceNe, Int.reducePow, Nat.reducePow, Nat.reduceSub, IntKind.bits]
        omega
      | some f =>
        have e20 := c20 o l n
        rw [hf] at e20
        have ef : (ids.take (i + 1)).foldl (hiStep l sep) 0 = heldF (IntKind.i64.wrap (IntKind.i64.wrap ((ids.take i).foldl (hiStep l sep) 0 + heldF f.H) + heldF sep)) := by rw [ef]; simp [hiStep, hf]
        simp (maxSteps := 10000000) (maxDischargeDepth := 30) only [e0, e2, e7, e8, e13, e14, e15, ea, c1, ew, e20, w1, c63, Flo.e, Option.getD_some, Option.isSome_some, hlo, go_sem, Nat.reduceEqDiff, ↓reduceIte, Nat.reduceAdd, Nat.reduceMul, Nat.reduceLeDiff, Nat.reduceLT, reduceCtorEq, Int.reduceToNat, Int.reduceLE, Int.reduceLT, Int.reduceEq, Int.reduceNeg, Int.reduceNe, Int.reducePow, Nat.reducePow, Nat.reduceSub, IntKind.bits]
        refine ⟨i + 1, by omega, ?_⟩
        unfold I21
        simp (maxSteps := 10000000) (maxDischargeDepth := 30) only [e0, e2, e7, e8, e13, e14, e15, ef, k1, k1.len, k1.rlen, w1, ew, go_sem, Nat.reduceEqDiff, ↓reduceIte, Nat.reduceAdd, Nat.reduceMul, Nat.reduceLeDiff, Nat.reduceLT, reduceCtorEq, Int.reduceToNat, Int.reduceLE, Int.reduceLT, Int.reduceEq, Int.reduceNeg, Int.reduceNe, Int.reducePow, Nat.reducePow, Nat.reduceSub, IntKind.bits]
        omega
    · have c1 : ¬ (i : Int) < ids.length := by omega
      obtain rfl : i = ids.length := by omega
      simp (maxSteps := 10000000) (maxDischargeDepth := 30) only [e0, e2, e7, e8, e13, e14, e15, c1, k1, List.take_length, high, go_sem, Nat.reduceEqDiff, ↓reduceIte, Nat.reduceAdd, Nat.reduceMul, Nat.reduceLeDiff, Nat.reduceLT, reduceCtorEq, Int.reduceToNat, Int.reduceLE, Int.reduceLT, Int.reduceEq, Int.reduceNeg, Int.reduceNe, Int.reducePow, Nat.reducePow, Nat.reduceSub, IntKind.bits]
end Go.LM
