import Derived.Test.YtpmpdidgbbgeeaaLmTrbR2
import Derived.Test.YtpmpdidgbbgeeaaLmbEncode2
namespace Go.LM
open Go.Proofs
set_option maxRecDepth 8000
set_option maxHeartbeats 4000000
set_option linter.unusedSimpArgs false

theorem oth_get {b c : Nat} {h h' : H} {B : Box} (o : Oth b h h') (hg : h.get c = some B) (hn : c ≠ b) : h'.get c = some B := (o.get c (lt_of_get hg) hn).trans hg
theorem ix169 {l : List Int} {i : Nat} {x : Int} (hi : i < 11) (hx : l[i]? = some x) : indexL Try.prog 169 (.agg (l.map (LV.int .i64))) (.int .i64 (i : Int)) = some (.int .i64 x) := by
  rw [ty_x169, if_pos ⟨by omega, by omega⟩, ty_p28, Int.toNat_natCast, Nat.mul_one]
  simp [hx]
theorem ix170 {l : List Int} {i : Nat} {x : Int} (hi : i < 7) (hx : l[i]? = some x) : indexL Try.prog 170 (.agg (l.map (LV.int .i64))) (.int .i64 (i : Int)) = some (.int .i64 x) := by
  rw [ty_x170, if_pos ⟨by omega, by omega⟩, ty_p3, Int.toNat_natCast, Nat.mul_one]
  simp [hx]
theorem ix132 {l : List Int} {i : Nat} {x : Int} (hi : i < 3) (hx : l[i]? = some x) : indexL Try.prog 132 (.agg (l.map (LV.int .i64))) (.int .i64 (i : Int)) = some (.int .i64 x) := by
  rw [ty_x132, if_pos ⟨by omega, by omega⟩, ty_p2, Int.toNat_natCast, Nat.mul_one]
  simp [hx]
def IGeom1 (g : GeomR) (h0 : H) (b c : Nat) (bs : List Int) (h : H) (i : Nat) (s : S) (hh : H) : Prop :=
  s 0 = .ptr b 0 ∧ s 3 = .ptr c 0 ∧ s 4 = .fn 55 [.ptr b 0] [] ∧ s 33 = .agg (g.numsA.map (LV.int .i64)) ∧ s 34 = .int .i64 i ∧ i ≤ 11 ∧ hh.get c = some ⟨false, g.cells⟩ ∧ Wr h0 b (bs ++ chns (g.numsA.take i)) hh ∧ Oth b h hh
def IGeom2 (g : GeomR) (h0 : H) (b c : Nat) (bs : List Int) (h : H) (i : Nat) (s : S) (hh : H) : Prop :=
  s 0 = .ptr b 0 ∧ s 3 = .ptr c 0 ∧ s 4 = .fn 55 [.ptr b 0] [] ∧ s 55 = .agg (g.numsB.map (LV.int .i64)) ∧ s 56 = .int .i64 i ∧ i ≤ 7 ∧ hh.get c = some ⟨false, g.cells⟩ ∧ Wr h0 b (bs ++ chns (g.numsB.take i)) hh ∧ Oth b h hh
theorem cEnGeomW (h0 : H) (b : Nat) (bs : List Int) (g : GeomR) (h : H) (W : Wr h0 b bs h) (hg : g.ok) (hb : bs.length ≤ 10000000000) :
    ∃ h', runI Try.prog TA 84 [.ptr b 0, g.e] h = some (.tup [], h') ∧ Wr h0 b (bs ++ geomB g) h' ∧ Oth b h h' := by
  refine calls_ex rfl res84 rfl ?_
  have lt := W.lt
  have k1 := (Keep.refl h).alloc g.cells
  have gc : (h.alloc g.cells).get h.len = some ⟨false, g.cells⟩ := get_alloc_eq _ _
  have W1 := W.next k1
  have O1 := k1.oth b
  have hA : ∀ n ∈ g.numsA, I64 n := fun n hn => hg n (List.mem_append_left _ hn)
  have hB : ∀ n ∈ g.numsB, I64 n := fun n hn => hg n (List.mem_append_right _ hn)
  simp (maxSteps := 10000000) (maxDischargeDepth := 30) only [q84, r84, GeomR.e, GeomR.cells, go_sem, Nat.reduceEqDiff, ↓reduceIte, Nat.reduceAdd, Nat.reduceMul, Nat.reduceLeDiff, Nat.reduceLT, reduceCtorEq, Int.reduceToNat, Int.reduceLE, Int.reduceLT, Int.reduceEq, Int.reduceNeg, Int.reduceNe, Int.reducePow, Nat.reducePow, Nat.reduceSub, IntKind.bits]
  refine ru_loop (fun i => 11 - i) (IGeom1 g h0 b h.len bs h) 0 ?_ ?_
  · unfold IGeom1
    simp (maxSteps := 10000000) (maxDischargeDepth := 30) only [Int.natCast_zero, go_sem, Nat.reduceEqDiff, ↓reduceIte, Nat.reduceAdd, Nat.reduceMul, Nat.reduceLeDiff, Nat.reduceLT, reduceCtorEq, Int.reduceToNat, Int.reduceLE, Int.reduceLT, Int.reduceEq, Int.reduceNeg, Int.reduceNe, Int.reducePow, Nat.reducePow, Nat.reduceSub, IntKind.bits]
    exact ⟨rfl, rfl, by simp only [List.take_zero, chns_nil, List.append_nil]; exact W1, O1⟩
  · rintro i s hh ⟨e0, e3, e4, e33, e34, hi, gh, W2, O2⟩
    have hcl := chns_len (l := g.numsA.take i) (fun n hn => hA n (List.mem_of_mem_take hn))
    rw [List.length_take] at hcl
    have gh' : hh.get h.len = some ⟨false, [.int .i64 g.c0, .int .i64 g.c1, .int .i64 g.c2, .int .i64 g.c3, .int .i64 g.c4, .int .i64 g.c5, .int .i64 g.c6, .int .i64 g.c7, .int .i64 g.c8, .int .i64 g.c9, .int .i64 g.c10, .int .i64 g.c11, .int .i64 g.c12, .int .i64 g.c13, .int .i64 g.c14, .int .i64 g.c15, .int .i64 g.c16, .int .i64 g.c17, .bool g.bal]⟩ := gh
    by_cases hlt : i < 11
    · refine ru_step ?_
      obtain ⟨x, hx⟩ : ∃ x, g.numsA[i]? = some x := ⟨g.numsA[i]'(by simpa [GeomR.numsA] using hlt), List.getElem?_eq_getElem _⟩
      have ia := ix169 hlt hx
      have c1 : (i : Int) < 11 := by omega
      have ew : IntKind.i64.wrap ((i : Int) + 1) = ((i + 1 : Nat) : Int) := by rw [wrap64 (by omega) (by omega)]; omega
      have hx64 := hA x (List.mem_of_getElem? hx)
      simp (maxSteps := 10000000) (maxDischargeDepth := 30) only [e0, e3, e4, e33, e34, c1, ia, go_sem, Nat.reduceEqDiff, ↓reduceIte, Nat.reduceAdd, Nat.reduceMul, Nat.reduceLeDiff, Nat.reduceLT, reduceCtorEq, Int.reduceToNat, Int.reduceLE, Int.reduceLT, Int.reduceEq, Int.reduceNeg, Int.reduceNe, Int.reducePow, Nat.reducePow, Nat.reduceSub, IntKind.bits]
      refine ro_wcall (cWInt h0 b _ x hh W2 hx64 (by rw [List.length_append]; omega)) (fun h2 J => ?_)
      have gh2 := oth_get J.2 gh (by omega)
      simp (maxSteps := 10000000) (maxDischargeDepth := 30) only [e0, e3, e4, e33, e34, ew, go_sem, Nat.reduceEqDiff, ↓reduceIte, Nat.reduceAdd, Nat.reduceMul, Nat.reduceLeDiff, Nat.reduceLT, reduceCtorEq, Int.reduceToNat, Int.reduceLE, Int.reduceLT, Int.reduceEq, Int.reduceNeg, Int.reduceNe, Int.reducePow, Nat.reducePow, Nat.reduceSub, IntKind.bits]
      refine ⟨i + 1, by omega, ?_⟩
      unfold IGeom1
      simp (maxSteps := 10000000) (maxDischargeDepth := 30) only [e0, e3, e4, e33, go_sem, Nat.reduceEqDiff, ↓reduceIte, Nat.reduceAdd, Nat.reduceMul, Nat.reduceLeDiff, Nat.reduceLT, reduceCtorEq, Int.reduceToNat, Int.reduceLE, Int.reduceLT, Int.reduceEq, Int.reduceNeg, Int.reduceNe, Int.reducePow, Nat.reducePow, Nat.reduceSub, IntKind.bits]
      refine ⟨by omega, gh2, ?_, O2.trans J.2⟩
      rw [take_succ hx, chns_append, ← List.append_assoc, show chns [x] = chn x by simp [chns]]
      exact J.1
    · have c1 : ¬ (i : Int) < 11 := by omega
      obtain rfl : i = 11 := by omega
      have W2' : Wr h0 b (bs ++ chns g.numsA) hh := W2
      have e34' : s 34 = .int .i64 11 := e34
      have hcA := chns_len hA
      have hlA : g.numsA.length = 11 := rfl
      rw [hlA] at hcA
      simp (maxSteps := 10000000) (maxDischargeDepth := 30) only [e0, e3, e4, e33, e34', gh', go_sem, Nat.reduceEqDiff, ↓reduceIte, Nat.reduceAdd, Nat.reduceMul, Nat.reduceLeDiff, Nat.reduceLT, reduceCtorEq, Int.reduceToNat, Int.reduceLE, Int.reduceLT, Int.reduceEq, Int.reduceNeg, Int.reduceNe, Int.reducePow, Nat.reducePow, Nat.reduceSub, IntKind.bits]
      refine ru_loop (fun i => 7 - i) (IGeom2 g h0 b h.len (bs ++ chns g.numsA) h) 0 ?_ ?_
      · unfold IGeom2
        simp (maxSteps := 10000000) (maxDischargeDepth := 30) only [Int.natCast_zero, e0, e3, e4, go_sem, Nat.reduceEqDiff, ↓reduceIte, Nat.reduceAdd, Nat.reduceMul, Nat.reduceLeDiff, Nat.reduceLT, reduceCtorEq, Int.reduceToNat, Int.reduceLE, Int.reduceLT, Int.reduceEq, Int.reduceNeg, Int.reduceNe, Int.reducePow, Nat.reducePow, Nat.reduceSub, IntKind.bits]
        exact ⟨rfl, gh, by simp only [List.take_zero, chns_nil, List.append_nil]; exact W2', O2⟩
      · rintro i s hh ⟨e0, e3, e4, e55, e56, hi, gh, W3, O3⟩
        have hcl := chns_len (l := g.numsB.take i) (fun n hn => hB n (List.mem_of_mem_take hn))
        rw [List.length_take] at hcl
        have gh' : hh.get h.len = some ⟨false, [.int .i64 g.c0, .int .i64 g.c1, .int .i64 g.c2, .int .i64 g.c3, .int .i64 g.c4, .int .i64 g.c5, .int .i64 g.c6, .int .i64 g.c7, .int .i64 g.c8, .int .i64 g.c9, .int .i64 g.c10, .int .i64 g.c11, .int .i64 g.c12, .int .i64 g.c13, .int .i64 g.c14, .int .i64 g.c15, .int .i64 g.c16, .int .i64 g.c17, .bool g.bal]⟩ := gh
        by_cases hlt : i < 7
        · refine ru_step ?_
          obtain ⟨x, hx⟩ : ∃ x, g.numsB[i]? = some x := ⟨g.numsB[i]'(by simpa [GeomR.numsB] using hlt), List.getElem?_eq_getElem _⟩
          have ia := ix170 hlt hx
          have c1 : (i : Int) < 7 := by omega
          have ew : IntKind.i64.wrap ((i : Int) + 1) = ((i + 1 : Nat) : Int) := by rw [wrap64 (by omega) (by omega)]; omega
          have hx64 := hB x (List.mem_of_getElem? hx)
          simp (maxSteps := 10000000) (maxDischargeDepth := 30) only [e0, e3, e4, e55, e56, c1, ia, go_sem, Nat.reduceEqDiff, ↓reduceIte, Nat.reduceAdd, Nat.reduceMul, Nat.reduceLeDiff, Nat.reduceLT, reduceCtorEq, Int.reduceToNat, Int.reduceLE, Int.reduceLT, Int.reduceEq, Int.reduceNeg, Int.reduceNe, Int.reducePow, Nat.reducePow, Nat.reduceSub, IntKind.bits]
          refine ro_wcall (cWInt h0 b _ x hh W3 hx64 (by rw [List.length_append, List.length_append]; omega)) (fun h2 J => ?_)
          have gh2 := oth_get J.2 gh (by omega)
          simp (maxSteps := 10000000) (maxDischargeDepth := 30) only [e0, e3, e4, e55, e56, ew, go_sem, Nat.reduceEqDiff, ↓reduceIte, Nat.reduceAdd, Nat.reduceMul, Nat.reduceLeDiff, Nat.reduceLT, reduceCtorEq, Int.reduceToNat, Int.reduceLE, Int.reduceLT, Int.reduceEq, Int.reduceNeg, Int.reduceNe, Int.reducePow, Nat.reducePow, Nat.reduceSub, IntKind.bits]
          refine ⟨i + 1, by omega, ?_⟩
          unfold IGeom2
          simp (maxSteps := 10000000) (maxDischargeDepth := 30) only [e0, e3, e4, e55, go_sem, Nat.reduceEqDiff, ↓reduceIte, Nat.reduceAdd, Nat.reduceMul, Nat.reduceLeDiff, Nat.reduceLT, reduceCtorEq, Int.reduceToNat, Int.reduceLE, Int.reduceLT, Int.reduceEq, Int.reduceNeg, Int.reduceNe, Int.reducePow, Nat.reducePow, Nat.reduceSub, IntKind.bits]
          refine ⟨by omega, gh2, ?_, O3.trans J.2⟩
          rw [take_succ hx, chns_append, ← List.append_assoc, show chns [x] = chn x by simp [chns]]
          exact J.1
        · obtain rfl : i = 7 := by omega
          have W3' : Wr h0 b (bs ++ chns g.numsA ++ chns g.numsB) hh := W3
          have e56' : s 56 = .int .i64 7 := e56
          have hcB := chns_len hB
          have hlB : g.numsB.length = 7 := rfl
          rw [hlB] at hcB
          simp (maxSteps := 10000000) (maxDischargeDepth := 30) only [e0, e3, e4, e55, e56', gh', go_sem, Nat.reduceEqDiff, ↓reduceIte, Nat.reduceAdd, Nat.reduceMul, Nat.reduceLeDiff, Nat.reduceLT, reduceCtorEq, Int.reduceToNat, Int.reduceLE, Int.reduceLT, Int.reduceEq, Int.reduceNeg, Int.reduceNe, Int.reducePow, Nat.reducePow, Nat.reduceSub, IntKind.bits]
          refine ro_wcall (cWBool h0 b _ g.bal hh W3' (by rw [List.length_append, List.length_append]; omega)) (fun h2 J => ?_)
          simp (maxSteps := 10000000) (maxDischargeDepth := 30) only [go_sem, Nat.reduceEqDiff, ↓reduceIte, Nat.reduceAdd, Nat.reduceMul, Nat.reduceLeDiff, Nat.reduceLT, reduceCtorEq, Int.reduceToNat, Int.reduceLE, Int.reduceLT, Int.reduceEq, Int.reduceNeg, Int.reduceNe, Int.reducePow, Nat.reducePow, Nat.reduceSub, IntKind.bits]
          refine ⟨?_, O3.trans J.2⟩
          have e : bs ++ geomB g = bs ++ chns g.numsA ++ chns g.numsB ++ [if g.bal = true then 1 else 0] := by
            unfold geomB GeomR.nums
            rw [chns_append]; simp only [List.append_assoc]
          rw [e]
          exact J.1
end Go.LM
