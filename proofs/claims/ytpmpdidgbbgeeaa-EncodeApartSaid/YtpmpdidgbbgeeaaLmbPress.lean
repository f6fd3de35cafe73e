import Derived.Test.YtpmpdidgbbgeeaaLmTrbR1
import Derived.Test.YtpmpdidgbbgeeaaLmTrbR2
import Derived.Test.YtpmpdidgbbgeeaaLmTrbR3
import Derived.Test.YtpmpdidgbbgeeaaLmbWriter
import Derived.Test.YtpmpdidgbbgeeaaLmB8
namespace Go.LM
open Go.Proofs
set_option maxRecDepth 4000
set_option maxHeartbeats 4000000
set_option linter.unusedSimpArgs false

def IPI (o : Option (Nat × Nat)) (l : List Int) (h0 : H) (b : Nat) (bs : List Int) (h : H) (i : Nat) (s : S) (hh : H) : Prop :=
  s 0 = .ptr b 0 ∧ s 6 = ints o l ∧ s 7 = .int .i64 l.length ∧ s 8 = .int .i64 i ∧ i ≤ l.length ∧ Wr h0 b (bs ++ chns (l.take i)) hh ∧ Oth b h hh
theorem cPlInts (h0 : H) (b : Nat) (bs : List Int) (o : Option (Nat × Nat)) (l : List Int) (h : H) (W : Wr h0 b bs h) (hi : ∀ n ∈ l, I64 n) (hl : l.length ≤ 2000) (hb : bs.length ≤ 10000000000000) :
    ∃ h', runI Try.prog TA 105 [.ptr b 0, ints o l] h = some (.tup [], h') ∧ Wr h0 b (bs ++ chns l) h' ∧ Oth b h h' := by
  refine calls_ex rfl res105 rfl ?_
  simp (maxSteps := 10000000) (maxDischargeDepth := 30) only [q105, r105, go_sem, Nat.reduceEqDiff, ↓reduceIte, Nat.reduceAdd, Nat.reduceMul, Nat.reduceLeDiff, Nat.reduceLT, reduceCtorEq, Int.reduceToNat, Int.reduceLE, Int.reduceLT, Int.reduceEq, Int.reduceNeg, Int.reduceNe, Int.reducePow, Nat.reducePow, Nat.reduceSub, IntKind.bits]
  refine ru_loop (fun i => l.length - i) (IPI o l h0 b bs h) 0 ?_ ?_
  · unfold IPI
    simp (maxSteps := 10000000) (maxDischargeDepth := 30) only [Int.natCast_zero, go_sem, Nat.reduceEqDiff, ↓reduceIte, Nat.reduceAdd, Nat.reduceMul, Nat.reduceLeDiff, Nat.reduceLT, reduceCtorEq, Int.reduceToNat, Int.reduceLE, Int.reduceLT, Int.reduceEq, Int.reduceNeg, Int.reduceNe, Int.reducePow, Nat.reducePow, Nat.reduceSub, IntKind.bits]
    exact ⟨by simpa [chns] using W, .refl _ _⟩
  · rintro i s hh ⟨e0, e6, e7, e8, hil, W1, O1⟩
    by_cases hlt : i < l.length
    · obtain ⟨x, hx⟩ : ∃ x, l[i]? = some x := ⟨l[i], List.getElem?_eq_getElem hlt⟩
      have ia := int_at hx
      have c1 : (i : Int) < l.length := by omega
      have ew : IntKind.i64.wrap ((i : Int) + 1) = ((i + 1 : Nat) : Int) := by rw [wrap64 (by omega) (by omega)]; omega
      have hx64 := hi x (List.mem_of_getElem? hx)
      have ht : (l.take i).length ≤ 2000 := by rw [List.length_take]; omega
      have hcl := chns_len (l := l.take i) (fun n hn => hi n (List.mem_of_mem_take hn))
      simp (maxSteps := 10000000) (maxDischargeDepth := 30) only [e0, e6, e7, e8, c1, ia, W1.lob, go_sem, Nat.reduceEqDiff, ↓reduceIte, Nat.reduceAdd, Nat.reduceMul, Nat.reduceLeDiff, Nat.reduceLT, reduceCtorEq, Int.reduceToNat, Int.reduceLE, Int.reduceLT, Int.reduceEq, Int.reduceNeg, Int.reduceNe, Int.reducePow, Nat.reducePow, Nat.reduceSub, IntKind.bits]
      refine ro_wcall (cWInt h0 b (bs ++ chns (l.take i)) x hh W1 hx64 (by rw [List.length_append]; omega)) (fun h2 J => ?_)
      simp (maxSteps := 10000000) (maxDischargeDepth := 30) only [e0, e6, e7, e8, ew, go_sem, Nat.reduceEqDiff, ↓reduceIte, Nat.reduceAdd, Nat.reduceMul, Nat.reduceLeDiff, Nat.reduceLT, reduceCtorEq, Int.reduceToNat, Int.reduceLE, Int.reduceLT, Int.reduceEq, Int.reduceNeg, Int.reduceNe, Int.reducePow, Nat.reducePow, Nat.reduceSub, IntKind.bits]
      refine ⟨i + 1, by omega, ?_⟩
      unfold IPI
      simp (maxSteps := 10000000) (maxDischargeDepth := 30) only [e0, e6, e7, e8, go_sem, Nat.reduceEqDiff, ↓reduceIte, Nat.reduceAdd, Nat.reduceMul, Nat.reduceLeDiff, Nat.reduceLT, reduceCtorEq, Int.reduceToNat, Int.reduceLE, Int.reduceLT, Int.reduceEq, Int.reduceNeg, Int.reduceNe, Int.reducePow, Nat.reducePow, Nat.reduceSub, IntKind.bits]
      refine ⟨by omega, ?_, O1.trans J.2⟩
      have hf : chns (l.take (i + 1)) = chns (l.take i) ++ chn x := flat_take chn hx
      rw [hf, ← List.append_assoc]
      exact J.1
    · have c1 : ¬ (i : Int) < l.length := by omega
      obtain rfl : i = l.length := by omega
      rw [List.take_length] at W1
      simp (maxSteps := 10000000) (maxDischargeDepth := 30) only [e0, e6, e7, e8, c1, go_sem, Nat.reduceEqDiff, ↓reduceIte, Nat.reduceAdd, Nat.reduceMul, Nat.reduceLeDiff, Nat.reduceLT, reduceCtorEq, Int.reduceToNat, Int.reduceLE, Int.reduceLT, Int.reduceEq, Int.reduceNeg, Int.reduceNe, Int.reducePow, Nat.reducePow, Nat.reduceSub, IntKind.bits]
      exact ⟨W1, O1⟩

theorem cPlPut (h0 : H) (b : Nat) (bs : List Int) (x : PutR) (h : H) (W : Wr h0 b bs h) (hx : x.ok) (hb : bs.length + 50 ≤ 10000000000000) :
    ∃ h', runI Try.prog TA 74 [.ptr b 0, x.e] h = some (.tup [], h') ∧ Wr h0 b (bs ++ putB x) h' ∧ Oth b h h' := by
  refine calls_ex rfl res74 rfl ?_
  simp (maxSteps := 10000000) (maxDischargeDepth := 30) only [q74, r74, PutR.e, W.wf.1, go_sem, Nat.reduceEqDiff, ↓reduceIte, Nat.reduceAdd, Nat.reduceMul, Nat.reduceLeDiff, Nat.reduceLT, reduceCtorEq, Int.reduceToNat, Int.reduceLE, Int.reduceLT, Int.reduceEq, Int.reduceNeg, Int.reduceNe, Int.reducePow, Nat.reducePow, Nat.reduceSub, IntKind.bits]
  generalize hg : H.nrow _ _ = g
  have kg : Keep h g := by rw [← hg]; exact ((Keep.refl h).alloc _).nrow _
  refine ro_wcall (cPlInts h0 b bs _ x.nums g (W.next kg) hx (by simp [PutR.nums]) (by omega)) (fun h2 J => ?_)
  simp (maxSteps := 10000000) (maxDischargeDepth := 30) only [go_sem, Nat.reduceEqDiff, ↓reduceIte, Nat.reduceAdd, Nat.reduceMul, Nat.reduceLeDiff, Nat.reduceLT, reduceCtorEq, Int.reduceToNat, Int.reduceLE, Int.reduceLT, Int.reduceEq, Int.reduceNeg, Int.reduceNe, Int.reducePow, Nat.reducePow, Nat.reduceSub, IntKind.bits]
  exact ⟨J.1, (kg.oth b).trans J.2⟩

def IEachPut (o : Option (Nat × Nat)) (l : List PutR) (h0 : H) (b : Nat) (bs : List Int) (h : H) (i : Nat) (s : S) (hh : H) : Prop :=
  s 0 = .ptr b 0 ∧ s 2 = .fn 74 [] [] ∧ s 14 = mkS o 5 (l.map PutR.e) ∧ s 15 = .int .i64 l.length ∧ s 16 = .int .i64 i ∧ i ≤ l.length ∧ Wr h0 b (bs ++ chn l.length ++ (l.take i).flatMap putB) hh ∧ Oth b h hh
theorem cEachPut (h0 : H) (b : Nat) (bs : List Int) (o : Option (Nat × Nat)) (l : List PutR) (h : H) (W : Wr h0 b bs h) (hi : ∀ n ∈ l, n.ok) (hl : l.length ≤ 2000) (hb : bs.length + 50 * l.length + 10 ≤ 10000000000000) :
    ∃ h', runI Try.prog TA 127 [.ptr b 0, mkS o 5 (l.map PutR.e), .fn 74 [] []] h = some (.tup [], h') ∧ Wr h0 b (bs ++ many putB l) h' ∧ Oth b h h' := by
  refine calls_ex rfl res127 rfl ?_
  have hl64 : I64 l.length := ⟨by omega, by omega⟩
  simp (maxSteps := 10000000) (maxDischargeDepth := 30) only [q127, r127, go_sem, Nat.reduceEqDiff, ↓reduceIte, Nat.reduceAdd, Nat.reduceMul, Nat.reduceLeDiff, Nat.reduceLT, reduceCtorEq, Int.reduceToNat, Int.reduceLE, Int.reduceLT, Int.reduceEq, Int.reduceNeg, Int.reduceNe, Int.reducePow, Nat.reducePow, Nat.reduceSub, IntKind.bits]
  refine ro_wcall (cWInt h0 b bs l.length h W hl64 (by omega)) (fun h1 J1 => ?_)
  simp (maxSteps := 10000000) (maxDischargeDepth := 30) only [go_sem, Nat.reduceEqDiff, ↓reduceIte, Nat.reduceAdd, Nat.reduceMul, Nat.reduceLeDiff, Nat.reduceLT, reduceCtorEq, Int.reduceToNat, Int.reduceLE, Int.reduceLT, Int.reduceEq, Int.reduceNeg, Int.reduceNe, Int.reducePow, Nat.reducePow, Nat.reduceSub, IntKind.bits]
  refine ru_loop (fun i => l.length - i) (IEachPut o l h0 b bs h) 0 ?_ ?_
  · unfold IEachPut
    simp (maxSteps := 10000000) (maxDischargeDepth := 30) only [Int.natCast_zero, go_sem, Nat.reduceEqDiff, ↓reduceIte, Nat.reduceAdd, Nat.reduceMul, Nat.reduceLeDiff, Nat.reduceLT, reduceCtorEq, Int.reduceToNat, Int.reduceLE, Int.reduceLT, Int.reduceEq, Int.reduceNeg, Int.reduceNe, Int.reducePow, Nat.reducePow, Nat.reduceSub, IntKind.bits]
    exact ⟨by simpa using J1.1, J1.2⟩
  · rintro i s hh ⟨e0, e2, e14, e15, e16, hil, W1, O1⟩
    by_cases hlt : i < l.length
    · obtain ⟨x, hx⟩ : ∃ x, l[i]? = some x := ⟨l[i], List.getElem?_eq_getElem hlt⟩
      have ia : iaS (l.map PutR.e) (i : Int) = some (.cptr x.e) := iaS_map (Int.natCast_nonneg i) (by simpa using hx)
      have c1 : (i : Int) < l.length := by omega
      have ew : IntKind.i64.wrap ((i : Int) + 1) = ((i + 1 : Nat) : Int) := by rw [wrap64 (by omega) (by omega)]; omega
      have hxok := hi x (List.mem_of_getElem? hx)
      have hlo := W1.wf.1
      have hcl := flat_len (f := putB) (k := 50) (l := l.take i) (fun n hn => putB_len (hi n (List.mem_of_mem_take hn)))
      have hct := chn_len hl64
      have ht : (l.take i).length + 1 ≤ l.length := by rw [List.length_take]; omega
      have hlen : (bs ++ chn l.length ++ (l.take i).flatMap putB).length + 50 ≤ 10000000000000 := by
        rw [List.length_append, List.length_append]
        have := Nat.mul_le_mul_left 50 ht
        omega
      simp (maxSteps := 10000000) (maxDischargeDepth := 30) only [e0, e2, e14, e15, e16, c1, ia, hlo, PutR.e, go_sem, Nat.reduceEqDiff, ↓reduceIte, Nat.reduceAdd, Nat.reduceMul, Nat.reduceLeDiff, Nat.reduceLT, reduceCtorEq, Int.reduceToNat, Int.reduceLE, Int.reduceLT, Int.reduceEq, Int.reduceNeg, Int.reduceNe, Int.reducePow, Nat.reducePow, Nat.reduceSub, IntKind.bits]
      generalize hg : H.put _ _ _ = g
      have kg : Keep hh g := by rw [← hg]; exact ((Keep.refl hh).alloc _).put (Nat.le_refl _) _
      refine ro_wcall (cPlPut h0 b (bs ++ chn l.length ++ (l.take i).flatMap putB) x g (W1.next kg) hxok (by omega)) (fun h2 J => ?_)
      simp (maxSteps := 10000000) (maxDischargeDepth := 30) only [e0, e2, e14, e15, e16, ew, go_sem, Nat.reduceEqDiff, ↓reduceIte, Nat.reduceAdd, Nat.reduceMul, Nat.reduceLeDiff, Nat.reduceLT, reduceCtorEq, Int.reduceToNat, Int.reduceLE, Int.reduceLT, Int.reduceEq, Int.reduceNeg, Int.reduceNe, Int.reducePow, Nat.reducePow, Nat.reduceSub, IntKind.bits]
      refine ⟨i + 1, by omega, ?_⟩
      unfold IEachPut
      simp (maxSteps := 10000000) (maxDischargeDepth := 30) only [e0, e2, e14, e15, e16, go_sem, Nat.reduceEqDiff, ↓reduceIte, Nat.reduceAdd, Nat.reduceMul, Nat.reduceLeDiff, Nat.reduceLT, reduceCtorEq, Int.reduceToNat, Int.reduceLE, Int.reduceLT, Int.reduceEq, Int.reduceNeg, Int.reduceNe, Int.reducePow, Nat.reducePow, Nat.reduceSub, IntKind.bits]
      refine ⟨by omega, ?_, (O1.trans (kg.oth b)).trans J.2⟩
      rw [flat_take putB hx, ← List.append_assoc]
      exact J.1
    · have c1 : ¬ (i : Int) < l.length := by omega
      obtain rfl : i = l.length := by omega
      rw [List.take_length] at W1
      simp (maxSteps := 10000000) (maxDischargeDepth := 30) only [e0, e2, e14, e15, e16, c1, go_sem, Nat.reduceEqDiff, ↓reduceIte, Nat.reduceAdd, Nat.reduceMul, Nat.reduceLeDiff, Nat.reduceLT, reduceCtorEq, Int.reduceToNat, Int.reduceLE, Int.reduceLT, Int.reduceEq, Int.reduceNeg, Int.reduceNe, Int.reducePow, Nat.reducePow, Nat.reduceSub, IntKind.bits]
      refine ⟨?_, O1⟩
      unfold many
      rw [← List.append_assoc]
      exact W1

theorem cPlLane (h0 : H) (b : Nat) (bs : List Int) (x : LaneR) (h : H) (W : Wr h0 b bs h) (hx : x.ok) (hb : bs.length + 100020 ≤ 10000000000000) :
    ∃ h', runI Try.prog TA 107 [.ptr b 0, x.e] h = some (.tup [], h') ∧ Wr h0 b (bs ++ laneB x) h' ∧ Oth b h h' := by
  refine calls_ex rfl res107 rfl ?_
  simp (maxSteps := 10000000) (maxDischargeDepth := 30) only [q107, r107, LaneR.e, W.wf.1, go_sem, Nat.reduceEqDiff, ↓reduceIte, Nat.reduceAdd, Nat.reduceMul, Nat.reduceLeDiff, Nat.reduceLT, reduceCtorEq, Int.reduceToNat, Int.reduceLE, Int.reduceLT, Int.reduceEq, Int.reduceNeg, Int.reduceNe, Int.reducePow, Nat.reducePow, Nat.reduceSub, IntKind.bits]
  generalize hg : H.nrow _ _ = g
  have kg : Keep h g := by rw [← hg]; exact ((Keep.refl h).alloc _).nrow _
  have gg : g.get h.len = some ⟨false, [.int .i64 x.x, mkS x.o 5 (x.puts.map PutR.e)]⟩ := by rw [← hg]; simp (maxSteps := 10000000) (maxDischargeDepth := 30) only [go_sem, Nat.reduceEqDiff, ↓reduceIte, Nat.reduceAdd, Nat.reduceMul, Nat.reduceLeDiff, Nat.reduceLT, reduceCtorEq, Int.reduceToNat, Int.reduceLE, Int.reduceLT, Int.reduceEq, Int.reduceNeg, Int.reduceNe, Int.reducePow, Nat.reducePow, Nat.reduceSub, IntKind.bits]
  have lg : h.len < g.len := lt_of_get gg
  have hne : h.len ≠ b := by have := W.lt; omega
  refine ro_wcall (cPlInts h0 b bs _ [x.x] g (W.next kg) (by simpa using hx.1) (by simp) (by omega)) (fun h2 J => ?_)
  have g2 := (J.2.get h.len lg hne).trans gg
  simp (maxSteps := 10000000) (maxDischargeDepth := 30) only [g2, go_sem, Nat.reduceEqDiff, ↓reduceIte, Nat.reduceAdd, Nat.reduceMul, Nat.reduceLeDiff, Nat.reduceLT, reduceCtorEq, Int.reduceToNat, Int.reduceLE, Int.reduceLT, Int.reduceEq, Int.reduceNeg, Int.reduceNe, Int.reducePow, Nat.reducePow, Nat.reduceSub, IntKind.bits]
  have hcl := chns_len (l := [x.x]) (by simpa using hx.1)
  simp only [List.length_cons, List.length_nil] at hcl
  refine ro_wcall (cEachPut h0 b (bs ++ chns [x.x]) x.o x.puts h2 J.1 hx.2.2 (by have := hx.2.1; omega) (by have := hx.2.1; rw [List.length_append]; omega)) (fun h3 J3 => ?_)
  simp (maxSteps := 10000000) (maxDischargeDepth := 30) only [go_sem, Nat.reduceEqDiff, ↓reduceIte, Nat.reduceAdd, Nat.reduceMul, Nat.reduceLeDiff, Nat.reduceLT, reduceCtorEq, Int.reduceToNat, Int.reduceLE, Int.reduceLT, Int.reduceEq, Int.reduceNeg, Int.reduceNe, Int.reducePow, Nat.reducePow, Nat.reduceSub, IntKind.bits]
  refine ⟨?_, ((kg.oth b).trans J.2).trans J3.2⟩
  unfold laneB
  rw [← List.append_assoc]
  exact J3.1

def IEachLane (o : Option (Nat × Nat)) (l : List LaneR) (h0 : H) (b : Nat) (bs : List Int) (h : H) (i : Nat) (s : S) (hh : H) : Prop :=
  s 0 = .ptr b 0 ∧ s 2 = .fn 107 [] [] ∧ s 14 = mkS o 2 (l.map LaneR.e) ∧ s 15 = .int .i64 l.length ∧ s 16 = .int .i64 i ∧ i ≤ l.length ∧ Wr h0 b (bs ++ chn l.length ++ (l.take i).flatMap laneB) hh ∧ Oth b h hh
theorem cEachLane (h0 : H) (b : Nat) (bs : List Int) (o : Option (Nat × Nat)) (l : List LaneR) (h : H) (W : Wr h0 b bs h) (hi : ∀ n ∈ l, n.ok) (hl : l.length ≤ 2000) (hb : bs.length + 100020 * l.length + 10 ≤ 10000000000000) :
    ∃ h', runI Try.prog TA 106 [.ptr b 0, mkS o 2 (l.map LaneR.e), .fn 107 [] []] h = some (.tup [], h') ∧ Wr h0 b (bs ++ many laneB l) h' ∧ Oth b h h' := by
  refine calls_ex rfl res106 rfl ?_
  have hl64 : I64 l.length := ⟨by omega, by omega⟩
  simp (maxSteps := 10000000) (maxDischargeDepth := 30) only [q106, r106, go_sem, Nat.reduceEqDiff, ↓reduceIte, Nat.reduceAdd, Nat.reduceMul, Nat.reduceLeDiff, Nat.reduceLT, reduceCtorEq, Int.reduceToNat, Int.reduceLE, Int.reduceLT, Int.reduceEq, Int.reduceNeg, Int.reduceNe, Int.reducePow, Nat.reducePow, Nat.reduceSub, IntKind.bits]
  refine ro_wcall (cWInt h0 b bs l.length h W hl64 (by omega)) (fun h1 J1 => ?_)
  simp (maxSteps := 10000000) (maxDischargeDepth := 30) only [go_sem, Nat.reduceEqDiff, ↓reduceIte, Nat.reduceAdd, Nat.reduceMul, Nat.reduceLeDiff, Nat.reduceLT, reduceCtorEq, Int.reduceToNat, Int.reduceLE, Int.reduceLT, Int.reduceEq, Int.reduceNeg, Int.reduceNe, Int.reducePow, Nat.reducePow, Nat.reduceSub, IntKind.bits]
  refine ru_loop (fun i => l.length - i) (IEachLane o l h0 b bs h) 0 ?_ ?_
  · unfold IEachLane
    simp (maxSteps := 10000000) (maxDischargeDepth := 30) only [Int.natCast_zero, go_sem, Nat.reduceEqDiff, ↓reduceIte, Nat.reduceAdd, Nat.reduceMul, Nat.reduceLeDiff, Nat.reduceLT, reduceCtorEq, Int.reduceToNat, Int.reduceLE, Int.reduceLT, Int.reduceEq, Int.reduceNeg, Int.reduceNe, Int.reducePow, Nat.reducePow, Nat.reduceSub, IntKind.bits]
    exact ⟨by simpa using J1.1, J1.2⟩
  · rintro i s hh ⟨e0, e2, e14, e15, e16, hil, W1, O1⟩
    by_cases hlt : i < l.length
    · obtain ⟨x, hx⟩ : ∃ x, l[i]? = some x := ⟨l[i], List.getElem?_eq_getElem hlt⟩
      have ia : iaS (l.map LaneR.e) (i : Int) = some (.cptr x.e) := iaS_map (Int.natCast_nonneg i) (by simpa using hx)
      have c1 : (i : Int) < l.length := by omega
      have ew : IntKind.i64.wrap ((i : Int) + 1) = ((i + 1 : Nat) : Int) := by rw [wrap64 (by omega) (by omega)]; omega
      have hxok := hi x (List.mem_of_getElem? hx)
      have hlo := W1.wf.1
      have hcl := flat_len (f := laneB) (k := 100020) (l := l.take i) (fun n hn => laneB_len (hi n (List.mem_of_mem_take hn)))
      have hct := chn_len hl64
      have ht : (l.take i).length + 1 ≤ l.length := by rw [List.length_take]; omega
      have hlen : (bs ++ chn l.length ++ (l.take i).flatMap laneB).length + 100020 ≤ 10000000000000 := by
        rw [List.length_append, List.length_append]
        have := Nat.mul_le_mul_left 100020 ht
        omega
      simp (maxSteps := 10000000) (maxDischargeDepth := 30) only [e0, e2, e14, e15, e16, c1, ia, hlo, LaneR.e, go_sem, Nat.reduceEqDiff, ↓reduceIte, Nat.reduceAdd, Nat.reduceMul, Nat.reduceLeDiff, Nat.reduceLT, reduceCtorEq, Int.reduceToNat, Int.reduceLE, Int.reduceLT, Int.reduceEq, Int.reduceNeg, Int.reduceNe, Int.reducePow, Nat.reducePow, Nat.reduceSub, IntKind.bits]
      generalize hg : H.put _ _ _ = g
      have kg : Keep hh g := by rw [← hg]; exact ((Keep.refl hh).alloc _).put (Nat.le_refl _) _
      refine ro_wcall (cPlLane h0 b (bs ++ chn l.length ++ (l.take i).flatMap laneB) x g (W1.next kg) hxok (by omega)) (fun h2 J => ?_)
      simp (maxSteps := 10000000) (maxDischargeDepth := 30) only [e0, e2, e14, e15, e16, ew, go_sem, Nat.reduceEqDiff, ↓reduceIte, Nat.reduceAdd, Nat.reduceMul, Nat.reduceLeDiff, Nat.reduceLT, reduceCtorEq, Int.reduceToNat, Int.reduceLE, Int.reduceLT, Int.reduceEq, Int.reduceNeg, Int.reduceNe, Int.reducePow, Nat.reducePow, Nat.reduceSub, IntKind.bits]
      refine ⟨i + 1, by omega, ?_⟩
      unfold IEachLane
      simp (maxSteps := 10000000) (maxDischargeDepth := 30) only [e0, e2, e14, e15, e16, go_sem, Nat.reduceEqDiff, ↓reduceIte, Nat.reduceAdd, Nat.reduceMul, Nat.reduceLeDiff, Nat.reduceLT, reduceCtorEq, Int.reduceToNat, Int.reduceLE, Int.reduceLT, Int.reduceEq, Int.reduceNeg, Int.reduceNe, Int.reducePow, Nat.reducePow, Nat.reduceSub, IntKind.bits]
      refine ⟨by omega, ?_, (O1.trans (kg.oth b)).trans J.2⟩
      rw [flat_take laneB hx, ← List.append_assoc]
      exact J.1
    · have c1 : ¬ (i : Int) < l.length := by omega
      obtain rfl : i = l.length := by omega
      rw [List.take_length] at W1
      simp (maxSteps := 10000000) (maxDischargeDepth := 30) only [e0, e2, e14, e15, e16, c1, go_sem, Nat.reduceEqDiff, ↓reduceIte, Nat.reduceAdd, Nat.reduceMul, Nat.reduceLeDiff, Nat.reduceLT, reduceCtorEq, Int.reduceToNat, Int.reduceLE, Int.reduceLT, Int.reduceEq, Int.reduceNeg, Int.reduceNe, Int.reducePow, Nat.reducePow, Nat.reduceSub, IntKind.bits]
      refine ⟨?_, O1⟩
      unfold many
      rw [← List.append_assoc]
      exact W1

theorem cPlPage (h0 : H) (b : Nat) (bs : List Int) (x : PageR) (h : H) (W : Wr h0 b bs h) (hx : x.ok) (hb : bs.length + 200040040 ≤ 10000000000000) :
    ∃ h', runI Try.prog TA 72 [.ptr b 0, x.e] h = some (.tup [], h') ∧ Wr h0 b (bs ++ pageB x) h' ∧ Oth b h h' := by
  refine calls_ex rfl res72 rfl ?_
  simp (maxSteps := 10000000) (maxDischargeDepth := 30) only [q72, r72, PageR.e, W.wf.1, go_sem, Nat.reduceEqDiff, ↓reduceIte, Nat.reduceAdd, Nat.reduceMul, Nat.reduceLeDiff, Nat.reduceLT, reduceCtorEq, Int.reduceToNat, Int.reduceLE, Int.reduceLT, Int.reduceEq, Int.reduceNeg, Int.reduceNe, Int.reducePow, Nat.reducePow, Nat.reduceSub, IntKind.bits]
  generalize hg : H.nrow _ _ = g
  have kg : Keep h g := by rw [← hg]; exact ((Keep.refl h).alloc _).nrow _
  have gg : g.get h.len = some ⟨false, [mkS x.o 2 (x.lanes.map LaneR.e), .int .i64 x.top, .int .i64 x.first, .int .i64 x.last]⟩ := by rw [← hg]; simp (maxSteps := 10000000) (maxDischargeDepth := 30) only [go_sem, Nat.reduceEqDiff, ↓reduceIte, Nat.reduceAdd, Nat.reduceMul, Nat.reduceLeDiff, Nat.reduceLT, reduceCtorEq, Int.reduceToNat, Int.reduceLE, Int.reduceLT, Int.reduceEq, Int.reduceNeg, Int.reduceNe, Int.reducePow, Nat.reducePow, Nat.reduceSub, IntKind.bits]
  have lg : h.len < g.len := lt_of_get gg
  have hne : h.len ≠ b := by have := W.lt; omega
  refine ro_wcall (cPlInts h0 b bs _ [x.top, x.first, x.last] g (W.next kg) hx.1 (by simp) (by omega)) (fun h2 J => ?_)
  have g2 := (J.2.get h.len lg hne).trans gg
  simp (maxSteps := 10000000) (maxDischargeDepth := 30) only [g2, go_sem, Nat.reduceEqDiff, ↓reduceIte, Nat.reduceAdd, Nat.reduceMul, Nat.reduceLeDiff, Nat.reduceLT, reduceCtorEq, Int.reduceToNat, Int.reduceLE, Int.reduceLT, Int.reduceEq, Int.reduceNeg, Int.reduceNe, Int.reducePow, Nat.reducePow, Nat.reduceSub, IntKind.bits]
  have hcl := chns_len (l := [x.top, x.first, x.last]) hx.1
  simp only [List.length_cons, List.length_nil] at hcl
  refine ro_wcall (cEachLane h0 b (bs ++ chns [x.top, x.first, x.last]) x.o x.lanes h2 J.1 hx.2.2 (by have := hx.2.1; omega) (by have := hx.2.1; rw [List.length_append]; omega)) (fun h3 J3 => ?_)
  simp (maxSteps := 10000000) (maxDischargeDepth := 30) only [go_sem, Nat.reduceEqDiff, ↓reduceIte, Nat.reduceAdd, Nat.reduceMul, Nat.reduceLeDiff, Nat.reduceLT, reduceCtorEq, Int.reduceToNat, Int.reduceLE, Int.reduceLT, Int.reduceEq, Int.reduceNeg, Int.reduceNe, Int.reducePow, Nat.reducePow, Nat.reduceSub, IntKind.bits]
  refine ⟨?_, ((kg.oth b).trans J.2).trans J3.2⟩
  unfold pageB
  rw [← List.append_assoc]
  exact J3.1

def IEachPage (o : Option (Nat × Nat)) (l : List PageR) (h0 : H) (b : Nat) (bs : List Int) (h : H) (i : Nat) (s : S) (hh : H) : Prop :=
  s 0 = .ptr b 0 ∧ s 2 = .fn 72 [] [] ∧ s 14 = mkS o 4 (l.map PageR.e) ∧ s 15 = .int .i64 l.length ∧ s 16 = .int .i64 i ∧ i ≤ l.length ∧ Wr h0 b (bs ++ chn l.length ++ (l.take i).flatMap pageB) hh ∧ Oth b h hh
theorem cEachPage (h0 : H) (b : Nat) (bs : List Int) (o : Option (Nat × Nat)) (l : List PageR) (h : H) (W : Wr h0 b bs h) (hi : ∀ n ∈ l, n.ok) (hl : l.length ≤ 2000) (hb : bs.length + 200040040 * l.length + 10 ≤ 10000000000000) :
    ∃ h', runI Try.prog TA 71 [.ptr b 0, mkS o 4 (l.map PageR.e), .fn 72 [] []] h = some (.tup [], h') ∧ Wr h0 b (bs ++ many pageB l) h' ∧ Oth b h h' := by
  refine calls_ex rfl res71 rfl ?_
  have hl64 : I64 l.length := ⟨by omega, by omega⟩
  simp (maxSteps := 10000000) (maxDischargeDepth := 30) only [q71, r71, go_sem, Nat.reduceEqDiff, ↓reduceIte, Nat.reduceAdd, Nat.reduceMul, Nat.reduceLeDiff, Nat.reduceLT, reduceCtorEq, Int.reduceToNat, Int.reduceLE, Int.reduceLT, Int.reduceEq, Int.reduceNeg, Int.reduceNe, Int.reducePow, Nat.reducePow, Nat.reduceSub, IntKind.bits]
  refine ro_wcall (cWInt h0 b bs l.length h W hl64 (by omega)) (fun h1 J1 => ?_)
  simp (maxSteps := 10000000) (maxDischargeDepth := 30) only [go_sem, Nat.reduceEqDiff, ↓reduceIte, Nat.reduceAdd, Nat.reduceMul, Nat.reduceLeDiff, Nat.reduceLT, reduceCtorEq, Int.reduceToNat, Int.reduceLE, Int.reduceLT, Int.reduceEq, Int.reduceNeg, Int.reduceNe, Int.reducePow, Nat.reducePow, Nat.reduceSub, IntKind.bits]
  refine ru_loop (fun i => l.length - i) (IEachPage o l h0 b bs h) 0 ?_ ?_
  · unfold IEachPage
    simp (maxSteps := 10000000) (maxDischargeDepth := 30) only [Int.natCast_zero, go_sem, Nat.reduceEqDiff, ↓reduceIte, Nat.reduceAdd, Nat.reduceMul, Nat.reduceLeDiff, Nat.reduceLT, reduceCtorEq, Int.reduceToNat, Int.reduceLE, Int.reduceLT, Int.reduceEq, Int.reduceNeg, Int.reduceNe, Int.reducePow, Nat.reducePow, Nat.reduceSub, IntKind.bits]
    exact ⟨by simpa using J1.1, J1.2⟩
  · rintro i s hh ⟨e0, e2, e14, e15, e16, hil, W1, O1⟩
    by_cases hlt : i < l.length
    · obtain ⟨x, hx⟩ : ∃ x, l[i]? = some x := ⟨l[i], List.getElem?_eq_getElem hlt⟩
      have ia : iaS (l.map PageR.e) (i : Int) = some (.cptr x.e) := iaS_map (Int.natCast_nonneg i) (by simpa using hx)
      have c1 : (i : Int) < l.length := by omega
      have ew : IntKind.i64.wrap ((i : Int) + 1) = ((i + 1 : Nat) : Int) := by rw [wrap64 (by omega) (by omega)]; omega
      have hxok := hi x (List.mem_of_getElem? hx)
      have hlo := W1.wf.1
      have hcl := flat_len (f := pageB) (k := 200040040) (l := l.take i) (fun n hn => pageB_len (hi n (List.mem_of_mem_take hn)))
      have hct := chn_len hl64
      have ht : (l.take i).length + 1 ≤ l.length := by rw [List.length_take]; omega
      have hlen : (bs ++ chn l.length ++ (l.take i).flatMap pageB).length + 200040040 ≤ 10000000000000 := by
        rw [List.length_append, List.length_append]
        have := Nat.mul_le_mul_left 200040040 ht
        omega
      simp (maxSteps := 10000000) (maxDischargeDepth := 30) only [e0, e2, e14, e15, e16, c1, ia, hlo, PageR.e, go_sem, Nat.reduceEqDiff, ↓reduceIte, Nat.reduceAdd, Nat.reduceMul, Nat.reduceLeDiff, Nat.reduceLT, reduceCtorEq, Int.reduceToNat, Int.reduceLE, Int.reduceLT, Int.reduceEq, Int.reduceNeg, Int.reduceNe, Int.reducePow, Nat.reducePow, Nat.reduceSub, IntKind.bits]
      generalize hg : H.put _ _ _ = g
      have kg : Keep hh g := by rw [← hg]; exact ((Keep.refl hh).alloc _).put (Nat.le_refl _) _
      refine ro_wcall (cPlPage h0 b (bs ++ chn l.length ++ (l.take i).flatMap pageB) x g (W1.next kg) hxok (by omega)) (fun h2 J => ?_)
      simp (maxSteps := 10000000) (maxDischargeDepth := 30) only [e0, e2, e14, e15, e16, ew, go_sem, Nat.reduceEqDiff, ↓reduceIte, Nat.reduceAdd, Nat.reduceMul, Nat.reduceLeDiff, Nat.reduceLT, reduceCtorEq, Int.reduceToNat, Int.reduceLE, Int.reduceLT, Int.reduceEq, Int.reduceNeg, Int.reduceNe, Int.reducePow, Nat.reducePow, Nat.reduceSub, IntKind.bits]
      refine ⟨i + 1, by omega, ?_⟩
      unfold IEachPage
      simp (maxSteps := 10000000) (maxDischargeDepth := 30) only [e0, e2, e14, e15, e16, go_sem, Nat.reduceEqDiff, ↓reduceIte, Nat.reduceAdd, Nat.reduceMul, Nat.reduceLeDiff, Nat.reduceLT, reduceCtorEq, Int.reduceToNat, Int.reduceLE, Int.reduceLT, Int.reduceEq, Int.reduceNeg, Int.reduceNe, Int.reducePow, Nat.reducePow, Nat.reduceSub, IntKind.bits]
      refine ⟨by omega, ?_, (O1.trans (kg.oth b)).trans J.2⟩
      rw [flat_take pageB hx, ← List.append_assoc]
      exact J.1
    · have c1 : ¬ (i : Int) < l.length := by omega
      obtain rfl : i = l.length := by omega
      rw [List.take_length] at W1
      simp (maxSteps := 10000000) (maxDischargeDepth := 30) only [e0, e2, e14, e15, e16, c1, go_sem, Nat.reduceEqDiff, ↓reduceIte, Nat.reduceAdd, Nat.reduceMul, Nat.reduceLeDiff, Nat.reduceLT, reduceCtorEq, Int.reduceToNat, Int.reduceLE, Int.reduceLT, Int.reduceEq, Int.reduceNeg, Int.reduceNe, Int.reducePow, Nat.reducePow, Nat.reduceSub, IntKind.bits]
      refine ⟨?_, O1⟩
      unfold many
      rw [← List.append_assoc]
      exact W1

theorem cPPut (x : PutR) (h : H) (w : WF h) (hx : x.ok) : runI Try.prog TA 24 [x.e] h = some (byts (tk Try.prog TA 24 [x.e] h) (putB x), hp Try.prog TA 24 [x.e] h) := by
  refine pureS_of rfl res24 rfl ?_
  have k1 := (Keep.refl h).alloc x.e.cells
  have W0 := Wr.start (wf_alloc (c := x.e.cells) w) k1
  simp only [PutR.e, cells_agg] at W0
  have hlo := w.1
  simp (maxSteps := 10000000) (maxDischargeDepth := 30) only [q24, r24, PutR.e, hlo, go_sem, Nat.reduceEqDiff, ↓reduceIte, Nat.reduceAdd, Nat.reduceMul, Nat.reduceLeDiff, Nat.reduceLT, reduceCtorEq, Int.reduceToNat, Int.reduceLE, Int.reduceLT, Int.reduceEq, Int.reduceNeg, Int.reduceNe, Int.reducePow, Nat.reducePow, Nat.reduceSub, IntKind.bits]
  refine ro_wcall (cPlPut h (h.len + 1) [] x _ (by simpa using W0) hx (by simp)) (fun h2 J => ?_)
  simp (maxSteps := 10000000) (maxDischargeDepth := 30) only [go_sem, Nat.reduceEqDiff, ↓reduceIte, Nat.reduceAdd, Nat.reduceMul, Nat.reduceLeDiff, Nat.reduceLT, reduceCtorEq, Int.reduceToNat, Int.reduceLE, Int.reduceLT, Int.reduceEq, Int.reduceNeg, Int.reduceNe, Int.reducePow, Nat.reducePow, Nat.reduceSub, IntKind.bits]
  refine ro_kcall (cWBytes h (h.len + 1) _ h2 J.1 (by have := putB_len hx; simp; omega)) J.1.wf (fun h3 k3 w3 => ?_)
  simp (maxSteps := 10000000) (maxDischargeDepth := 30) only [List.nil_append, go_sem, Nat.reduceEqDiff, ↓reduceIte, Nat.reduceAdd, Nat.reduceMul, Nat.reduceLeDiff, Nat.reduceLT, reduceCtorEq, Int.reduceToNat, Int.reduceLE, Int.reduceLT, Int.reduceEq, Int.reduceNeg, Int.reduceNe, Int.reducePow, Nat.reducePow, Nat.reduceSub, IntKind.bits]
  exact ⟨⟨_, rfl⟩, J.1.keep.trans k3⟩
theorem cPPages (o : Option (Nat × Nat)) (l : List PageR) (h : H) (w : WF h) (hl : l.length ≤ 2000) (hx : ∀ x ∈ l, x.ok) : runI Try.prog TA 22 [mkS o 4 (l.map PageR.e)] h = some (byts (tk Try.prog TA 22 [mkS o 4 (l.map PageR.e)] h) (pagesB l), hp Try.prog TA 22 [mkS o 4 (l.map PageR.e)] h) := by
  refine pureS_of rfl res22 rfl ?_
  have W0 := Wr.start w (Keep.refl h)
  have hlo := w.1
  have em : ∀ h, runI Try.prog TA 70 [] h = some (.str ⟨#[84, 89, 80, 49]⟩, hp Try.prog TA 70 [] h) := fun h => pure_of rfl res70 rfl (by simp (maxSteps := 10000000) (maxDischargeDepth := 30) only [q70, r70, go_sem, Nat.reduceEqDiff, ↓reduceIte, Nat.reduceAdd, Nat.reduceMul, Nat.reduceLeDiff, Nat.reduceLT, reduceCtorEq, Int.reduceToNat, Int.reduceLE, Int.reduceLT, Int.reduceEq, Int.reduceNeg, Int.reduceNe, Int.reducePow, Nat.reducePow, Nat.reduceSub, IntKind.bits])
  simp (maxSteps := 10000000) (maxDischargeDepth := 30) only [q22, r22, hlo, go_sem, Nat.reduceEqDiff, ↓reduceIte, Nat.reduceAdd, Nat.reduceMul, Nat.reduceLeDiff, Nat.reduceLT, reduceCtorEq, Int.reduceToNat, Int.reduceLE, Int.reduceLT, Int.reduceEq, Int.reduceNeg, Int.reduceNe, Int.reducePow, Nat.reducePow, Nat.reduceSub, IntKind.bits]
  refine ro_kcall (em _) W0.wf (fun h1 k1 w1 => ?_)
  simp (maxSteps := 10000000) (maxDischargeDepth := 30) only [go_sem, Nat.reduceEqDiff, ↓reduceIte, Nat.reduceAdd, Nat.reduceMul, Nat.reduceLeDiff, Nat.reduceLT, reduceCtorEq, Int.reduceToNat, Int.reduceLE, Int.reduceLT, Int.reduceEq, Int.reduceNeg, Int.reduceNe, Int.reducePow, Nat.reducePow, Nat.reduceSub, IntKind.bits]
  refine ro_wcall (cWMark h h.len [] _ h1 (W0.next k1) (by decide)) (fun h2 J => ?_)
  simp (maxSteps := 10000000) (maxDischargeDepth := 30) only [go_sem, Nat.reduceEqDiff, ↓reduceIte, Nat.reduceAdd, Nat.reduceMul, Nat.reduceLeDiff, Nat.reduceLT, reduceCtorEq, Int.reduceToNat, Int.reduceLE, Int.reduceLT, Int.reduceEq, Int.reduceNeg, Int.reduceNe, Int.reducePow, Nat.reducePow, Nat.reduceSub, IntKind.bits]
  have hs : strB ⟨#[84, 89, 80, 49]⟩ = [84, 89, 80, 49] := by decide
  rw [hs] at J
  refine ro_wcall (cEachPage h h.len ([] ++ [84, 89, 80, 49]) o l h2 J.1 hx (by omega) (by simp; omega)) (fun h3 J3 => ?_)
  simp (maxSteps := 10000000) (maxDischargeDepth := 30) only [go_sem, Nat.reduceEqDiff, ↓reduceIte, Nat.reduceAdd, Nat.reduceMul, Nat.reduceLeDiff, Nat.reduceLT, reduceCtorEq, Int.reduceToNat, Int.reduceLE, Int.reduceLT, Int.reduceEq, Int.reduceNeg, Int.reduceNe, Int.reducePow, Nat.reducePow, Nat.reduceSub, IntKind.bits]
  refine ro_kcall (cWBytes h h.len _ h3 J3.1 (by have := pagesB_len hl hx; unfold pagesB at this; rw [List.length_append] at this ⊢; simp at this ⊢; omega)) J3.1.wf (fun h4 k4 w4 => ?_)
  simp (maxSteps := 10000000) (maxDischargeDepth := 30) only [List.nil_append, go_sem, Nat.reduceEqDiff, ↓reduceIte, Nat.reduceAdd, Nat.reduceMul, Nat.reduceLeDiff, Nat.reduceLT, reduceCtorEq, Int.reduceToNat, Int.reduceLE, Int.reduceLT, Int.reduceEq, Int.reduceNeg, Int.reduceNe, Int.reducePow, Nat.reducePow, Nat.reduceSub, IntKind.bits]
  exact ⟨⟨_, rfl⟩, J3.1.keep.trans k4⟩
end Go.LM
