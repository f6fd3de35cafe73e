import Derived.Test.YtpmpdidgbbgeeaaLmTrbR1
import Derived.Test.YtpmpdidgbbgeeaaLmTrbR2
import Derived.Test.YtpmpdidgbbgeeaaLmbEncode8
import Derived.Test.YtpmpdidgbbgeeaaLmbPress2
namespace Go.LM
open Go.Proofs
set_option maxRecDepth 8000
set_option maxHeartbeats 4000000
set_option linter.unusedSimpArgs false

structure J2 (j k : JobR) (h0 h : H) : Prop where
  a : h.get h0.len = some ⟨false, [.int .i64 j.g.c0, .int .i64 j.g.c1, .int .i64 j.g.c2, .int .i64 j.g.c3, .int .i64 j.g.c4, .int .i64 j.g.c5, .int .i64 j.g.c6, .int .i64 j.g.c7, .int .i64 j.g.c8, .int .i64 j.g.c9, .int .i64 j.g.c10, .int .i64 j.g.c11, .int .i64 j.g.c12, .int .i64 j.g.c13, .int .i64 j.g.c14, .int .i64 j.g.c15, .int .i64 j.g.c16, .int .i64 j.g.c17, .bool j.g.bal, mkS j.oi 7 (j.items.map ItemR.e), mkS j.on 2 (j.notes.map NoteR.e), mkS j.of 3 (j.floats.map FloatR.e)]⟩
  b : h.get (h0.len + 1) = some ⟨false, [.int .i64 k.g.c0, .int .i64 k.g.c1, .int .i64 k.g.c2, .int .i64 k.g.c3, .int .i64 k.g.c4, .int .i64 k.g.c5, .int .i64 k.g.c6, .int .i64 k.g.c7, .int .i64 k.g.c8, .int .i64 k.g.c9, .int .i64 k.g.c10, .int .i64 k.g.c11, .int .i64 k.g.c12, .int .i64 k.g.c13, .int .i64 k.g.c14, .int .i64 k.g.c15, .int .i64 k.g.c16, .int .i64 k.g.c17, .bool k.g.bal, mkS k.oi 7 (k.items.map ItemR.e), mkS k.on 2 (k.notes.map NoteR.e), mkS k.of 3 (k.floats.map FloatR.e)]⟩
  keep : Keep h0 h
  wf : WF h
def FewJ (j : JobR) : Prop := j.items.length ≤ 100 ∧ j.notes.length ≤ 100 ∧ j.floats.length ≤ 100 ∧ ∀ x ∈ j.notes, x.lines.length ≤ 100 ∧ x.pens.length ≤ 100
def FewN (l : List NoteR) : Prop := ∀ x ∈ l, x.lines.length ≤ 100 ∧ x.pens.length ≤ 100
def LrgJ (j : JobR) (u : LV) : Prop := ∃ v, u = .bool v ∧ (v = false → FewJ j)
def Le100 (i : Nat) : Prop := i ≤ 100
theorem all_take14 {α : Type} {R : α → Prop} {l : List α} {i : Nat} {x : α} (hx : l[i]? = some x) (h : ∀ y ∈ l.take i, R y) (h2 : R x) : ∀ y ∈ l.take (i + 1), R y := by
  intro y hy
  rw [take_succ hx] at hy
  rcases List.mem_append.1 hy with hy | hy
  · exact h y hy
  · rw [List.mem_singleton.1 hy]; exact h2
def ILg14 (j : JobR) (h0 : H) (i : Nat) (s : S) (h : H) : Prop :=
  s 1 = .ptr h0.len 0 ∧ s 3 = .int .i64 i ∧ i ≤ j.notes.length ∧ Le100 i ∧ FewN (j.notes.take i) ∧ h.get h0.len = some ⟨false, [.int .i64 j.g.c0, .int .i64 j.g.c1, .int .i64 j.g.c2, .int .i64 j.g.c3, .int .i64 j.g.c4, .int .i64 j.g.c5, .int .i64 j.g.c6, .int .i64 j.g.c7, .int .i64 j.g.c8, .int .i64 j.g.c9, .int .i64 j.g.c10, .int .i64 j.g.c11, .int .i64 j.g.c12, .int .i64 j.g.c13, .int .i64 j.g.c14, .int .i64 j.g.c15, .int .i64 j.g.c16, .int .i64 j.g.c17, .bool j.g.bal, mkS j.oi 7 (j.items.map ItemR.e), mkS j.on 2 (j.notes.map NoteR.e), mkS j.of 3 (j.floats.map FloatR.e)]⟩ ∧ Keep h0 h
theorem cLarge14 (j : JobR) (h : H) : ∃ v, runI Try.prog TA 36 [j.e] h = some (.bool v, hp Try.prog TA 36 [j.e] h) ∧ (v = false → FewJ j) := by
  have key : ∃ u h', runI Try.prog TA 36 [j.e] h = some (u, h') ∧ LrgJ j u ∧ Keep h h' := by
    refine calls_of rfl res36 rfl ?_
    have g0 : (h.alloc [.int .i64 j.g.c0, .int .i64 j.g.c1, .int .i64 j.g.c2, .int .i64 j.g.c3, .int .i64 j.g.c4, .int .i64 j.g.c5, .int .i64 j.g.c6, .int .i64 j.g.c7, .int .i64 j.g.c8, .int .i64 j.g.c9, .int .i64 j.g.c10, .int .i64 j.g.c11, .int .i64 j.g.c12, .int .i64 j.g.c13, .int .i64 j.g.c14, .int .i64 j.g.c15, .int .i64 j.g.c16, .int .i64 j.g.c17, .bool j.g.bal, mkS j.oi 7 (j.items.map ItemR.e), mkS j.on 2 (j.notes.map NoteR.e), mkS j.of 3 (j.floats.map FloatR.e)]).get h.len = some ⟨false, [.int .i64 j.g.c0, .int .i64 j.g.c1, .int .i64 j.g.c2, .int .i64 j.g.c3, .int .i64 j.g.c4, .int .i64 j.g.c5, .int .i64 j.g.c6, .int .i64 j.g.c7, .int .i64 j.g.c8, .int .i64 j.g.c9, .int .i64 j.g.c10, .int .i64 j.g.c11, .int .i64 j.g.c12, .int .i64 j.g.c13, .int .i64 j.g.c14, .int .i64 j.g.c15, .int .i64 j.g.c16, .int .i64 j.g.c17, .bool j.g.bal, mkS j.oi 7 (j.items.map ItemR.e), mkS j.on 2 (j.notes.map NoteR.e), mkS j.of 3 (j.floats.map FloatR.e)]⟩ := get_alloc_eq _ _
    have k0 := (Keep.refl h).alloc [.int .i64 j.g.c0, .int .i64 j.g.c1, .int .i64 j.g.c2, .int .i64 j.g.c3, .int .i64 j.g.c4, .int .i64 j.g.c5, .int .i64 j.g.c6, .int .i64 j.g.c7, .int .i64 j.g.c8, .int .i64 j.g.c9, .int .i64 j.g.c10, .int .i64 j.g.c11, .int .i64 j.g.c12, .int .i64 j.g.c13, .int .i64 j.g.c14, .int .i64 j.g.c15, .int .i64 j.g.c16, .int .i64 j.g.c17, .bool j.g.bal, mkS j.oi 7 (j.items.map ItemR.e), mkS j.on 2 (j.notes.map NoteR.e), mkS j.of 3 (j.floats.map FloatR.e)]
    simp (maxSteps := 10000000) (maxDischargeDepth := 30) only [q36, r36, JobR.e, JobR.cells, go_sem, Nat.reduceEqDiff, ↓reduceIte, Nat.reduceAdd, Nat.reduceMul, Nat.reduceLeDiff, Nat.reduceLT, reduceCtorEq, Int.reduceToNat, Int.reduceLE, Int.reduceLT, Int.reduceEq, Int.reduceNeg, Int.reduceNe, Int.reducePow, Nat.reducePow, Nat.reduceSub, IntKind.bits]
    refine ru_loop (fun i => j.notes.length - i) (ILg14 j h) 0 ?_ ?_
    · unfold ILg14
      simp (maxSteps := 10000000) (maxDischargeDepth := 30) only [Int.natCast_zero, List.take_zero, go_sem, Nat.reduceEqDiff, ↓reduceIte, Nat.reduceAdd, Nat.reduceMul, Nat.reduceLeDiff, Nat.reduceLT, reduceCtorEq, Int.reduceToNat, Int.reduceLE, Int.reduceLT, Int.reduceEq, Int.reduceNeg, Int.reduceNe, Int.reducePow, Nat.reducePow, Nat.reduceSub, IntKind.bits]
      exact ⟨Nat.zero_le _, fun p hp => by cases hp⟩
    · rintro i s hh ⟨e1, e3, hi, hi6, hf, gj, hK⟩
      unfold Le100 at hi6
      have hT : LrgJ j (.bool true) := ⟨true, rfl, fun h => by cases h⟩
      by_cases cc : i < j.notes.length ∧ i < 100
      · have c1 : (i : Int) < j.notes.length := by omega
        have c2 : (i : Int) < 100 := by omega
        obtain ⟨x, hx⟩ : ∃ n, j.notes[i]? = some n := ⟨j.notes[i]'(by omega), List.getElem?_eq_getElem (by omega)⟩
        have ia : iaS (j.notes.map NoteR.e) (i : Int) = some (.cptr x.e) := iaS_map (Int.natCast_nonneg i) (by simpa using hx)
        have ew : IntKind.i64.wrap ((i : Int) + 1) = ((i + 1 : Nat) : Int) := by rw [wrap64 (by omega) (by omega)]; omega
        by_cases c3 : (100 : Int) < x.lines.length
        · simp (maxSteps := 10000000) (maxDischargeDepth := 30) only [e1, e3, gj, List.length_map, c1, c2, ia, NoteR.e, c3, hT, hK, go_sem, Nat.reduceEqDiff, ↓reduceIte, Nat.reduceAdd, Nat.reduceMul, Nat.reduceLeDiff, Nat.reduceLT, reduceCtorEq, Int.reduceToNat, Int.reduceLE, Int.reduceLT, Int.reduceEq, Int.reduceNeg, Int.reduceNe, Int.reducePow, Nat.reducePow, Nat.reduceSub, IntKind.bits]
        by_cases c4 : (100 : Int) < x.pens.length
        · simp (maxSteps := 10000000) (maxDischargeDepth := 30) only [e1, e3, gj, List.length_map, c1, c2, ia, NoteR.e, c3, c4, hT, hK, go_sem, Nat.reduceEqDiff, ↓reduceIte, Nat.reduceAdd, Nat.reduceMul, Nat.reduceLeDiff, Nat.reduceLT, reduceCtorEq, Int.reduceToNat, Int.reduceLE, Int.reduceLT, Int.reduceEq, Int.reduceNeg, Int.reduceNe, Int.reducePow, Nat.reducePow, Nat.reduceSub, IntKind.bits]
        simp (maxSteps := 10000000) (maxDischargeDepth := 30) only [e1, e3, gj, List.length_map, c1, c2, ia, NoteR.e, c3, c4, ew, go_sem, Nat.reduceEqDiff, ↓reduceIte, Nat.reduceAdd, Nat.reduceMul, Nat.reduceLeDiff, Nat.reduceLT, reduceCtorEq, Int.reduceToNat, Int.reduceLE, Int.reduceLT, Int.reduceEq, Int.reduceNeg, Int.reduceNe, Int.reducePow, Nat.reducePow, Nat.reduceSub, IntKind.bits]
        refine ⟨i + 1, by omega, ?_⟩
        unfold ILg14
        simp (maxSteps := 10000000) (maxDischargeDepth := 30) only [e1, e3, gj, hK, go_sem, Nat.reduceEqDiff, ↓reduceIte, Nat.reduceAdd, Nat.reduceMul, Nat.reduceLeDiff, Nat.reduceLT, reduceCtorEq, Int.reduceToNat, Int.reduceLE, Int.reduceLT, Int.reduceEq, Int.reduceNeg, Int.reduceNe, Int.reducePow, Nat.reducePow, Nat.reduceSub, IntKind.bits]
        refine ⟨by omega, show i + 1 ≤ 100 by omega, ?_⟩
        unfold FewN at hf ⊢
        exact all_take14 (R := fun x : NoteR => x.lines.length ≤ 100 ∧ x.pens.length ≤ 100) hx hf ⟨by omega, by omega⟩
      · have hend : ∀ v : Bool, (v = false → j.items.length ≤ 100 ∧ j.notes.length ≤ 100 ∧ j.floats.length ≤ 100) → LrgJ j (.bool v) := by
          intro v hv
          refine ⟨v, rfl, fun e => ?_⟩
          obtain ⟨a, b, c⟩ := hv e
          obtain rfl : i = j.notes.length := by omega
          rw [List.take_length] at hf
          exact ⟨a, b, c, hf⟩
        have hnot : ¬ ((i : Int) < j.notes.length ∧ (i : Int) < 100) := by omega
        by_cases n1 : (100 : Int) < j.items.length
        · have hx := hend true (fun e => by cases e)
          by_cases c1 : (i : Int) < j.notes.length
          · have c2 : ¬ (i : Int) < 100 := by omega
            simp (maxSteps := 10000000) (maxDischargeDepth := 30) only [e1, e3, gj, List.length_map, c1, c2, n1, hx, hK, go_sem, Nat.reduceEqDiff, ↓reduceIte, Nat.reduceAdd, Nat.reduceMul, Nat.reduceLeDiff, Nat.reduceLT, reduceCtorEq, Int.reduceToNat, Int.reduceLE, Int.reduceLT, Int.reduceEq, Int.reduceNeg, Int.reduceNe, Int.reducePow, Nat.reducePow, Nat.reduceSub, IntKind.bits]
          · simp (maxSteps := 10000000) (maxDischargeDepth := 30) only [e1, e3, gj, List.length_map, c1, n1, hx, hK, go_sem, Nat.reduceEqDiff, ↓reduceIte, Nat.reduceAdd, Nat.reduceMul, Nat.reduceLeDiff, Nat.reduceLT, reduceCtorEq, Int.reduceToNat, Int.reduceLE, Int.reduceLT, Int.reduceEq, Int.reduceNeg, Int.reduceNe, Int.reducePow, Nat.reducePow, Nat.reduceSub, IntKind.bits]
        by_cases n2 : (100 : Int) < j.notes.length
        · have hx := hend true (fun e => by cases e)
          by_cases c1 : (i : Int) < j.notes.length
          · have c2 : ¬ (i : Int) < 100 := by omega
            simp (maxSteps := 10000000) (maxDischargeDepth := 30) only [e1, e3, gj, List.length_map, c1, c2, n1, n2, hx, hK, go_sem, Nat.reduceEqDiff, ↓reduceIte, Nat.reduceAdd, Nat.reduceMul, Nat.reduceLeDiff, Nat.reduceLT, reduceCtorEq, Int.reduceToNat, Int.reduceLE, Int.reduceLT, Int.reduceEq, Int.reduceNeg, Int.reduceNe, Int.reducePow, Nat.reducePow, Nat.reduceSub, IntKind.bits]
          · simp (maxSteps := 10000000) (maxDischargeDepth := 30) only [e1, e3, gj, List.length_map, c1, n1, n2, hx, hK, go_sem, Nat.reduceEqDiff, ↓reduceIte, Nat.reduceAdd, Nat.reduceMul, Nat.reduceLeDiff, Nat.reduceLT, reduceCtorEq, Int.reduceToNat, Int.reduceLE, Int.reduceLT, Int.reduceEq, Int.reduceNeg, Int.reduceNe, Int.reducePow, Nat.reducePow, Nat.reduceSub, IntKind.bits]
        have hx := hend (decide ((100 : Int) < j.floats.length)) (fun e => by have := of_decide_eq_false e; omega)
        by_cases c1 : (i : Int) < j.notes.length
        · have c2 : ¬ (i : Int) < 100 := by omega
          simp (maxSteps := 10000000) (maxDischargeDepth := 30) only [e1, e3, gj, List.length_map, c1, c2, n1, n2, hx, hK, go_sem, Nat.reduceEqDiff, ↓reduceIte, Nat.reduceAdd, Nat.reduceMul, Nat.reduceLeDiff, Nat.reduceLT, reduceCtorEq, Int.reduceToNat, Int.reduceLE, Int.reduceLT, Int.reduceEq, Int.reduceNeg, Int.reduceNe, Int.reducePow, Nat.reducePow, Nat.reduceSub, IntKind.bits]
        · simp (maxSteps := 10000000) (maxDischargeDepth := 30) only [e1, e3, gj, List.length_map, c1, n1, n2, hx, hK, go_sem, Nat.reduceEqDiff, ↓reduceIte, Nat.reduceAdd, Nat.reduceMul, Nat.reduceLeDiff, Nat.reduceLT, reduceCtorEq, Int.reduceToNat, Int.reduceLE, Int.reduceLT, Int.reduceEq, Int.reduceNeg, Int.reduceNe, Int.reducePow, Nat.reducePow, Nat.reduceSub, IntKind.bits]
  obtain ⟨u, h', h1, ⟨v, rfl, hv⟩, k⟩ := key
  exact ⟨v, hp_eq h1 k, hv⟩
/-- Numbers of a job. -/
abbrev JobR.num (j : JobR) : Prop := j.g.ok ∧ (∀ x ∈ j.items, x.ok) ∧ (∀ x ∈ j.notes, x.num) ∧ ∀ x ∈ j.floats, x.ok
theorem okJ_of {j : JobR} (n : j.num) (f : FewJ j) : okJR j := by
  obtain ⟨a, b, c, d⟩ := f
  obtain ⟨n1, n2, n3, n4⟩ := n
  unfold okJR JobR.plain
  refine ⟨n1, by simp only; omega, n2, by simp only [List.length_map]; omega, ?_, by simp only; omega, n4⟩
  intro x hx
  obtain ⟨y, hy, rfl⟩ := List.mem_map.1 hx
  have := d y hy
  exact ⟨by show y.lines.length ≤ _; omega, by show y.pens.length ≤ _; omega, (n3 y hy).1, (n3 y hy).2⟩

/-! ### the laws -/
end Go.LM
