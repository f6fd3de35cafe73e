import Derived.Test.YtgbhkmgmpodnkaaLmTrcRc
import Derived.Test.YtgbhkmgmpodnkaaLmcPile7
namespace Go.LM
open Go.Proofs
set_option maxRecDepth 8000
set_option maxHeartbeats 4000000
set_option linter.unusedSimpArgs false
set_option linter.unusedVariables false
/-! ### putting into a sorted list, and taking out of one -/
def PutAt (l : List PairR) (x : PairR) (k n : Nat) : Prop := n ≤ l.length ∧ k ≤ n ∧ (∀ j, k ≤ j → j < n → ∀ y, l[j]? = some y → y.a ≤ x.a) ∧ (n = l.length ∨ ∃ y, l[n]? = some y ∧ x.a < y.a)
theorem putAt_start (l : List PairR) (x : PairR) : PutAt l x l.length l.length := ⟨Nat.le_refl _, Nat.le_refl _, fun j h1 h2 => by omega, .inl rfl⟩
theorem putAt_hit {l : List PairR} {x y : PairR} {k n : Nat} (h : PutAt l x (k + 1) n) (hy : l[k]? = some y) (c : x.a < y.a) : PutAt l x k k := by
  obtain ⟨h1, h2, h3, h4⟩ := h
  exact ⟨by omega, Nat.le_refl _, fun j a b => by omega, .inr ⟨y, hy, c⟩⟩
theorem putAt_miss {l : List PairR} {x y : PairR} {k n : Nat} (h : PutAt l x (k + 1) n) (hy : l[k]? = some y) (c : ¬ x.a < y.a) : PutAt l x k n := by
  obtain ⟨h1, h2, h3, h4⟩ := h
  refine ⟨h1, by omega, fun j a b z hz => ?_, h4⟩
  by_cases e : j = k
  · subst e; rw [hy] at hz; cases hz; omega
  · exact h3 j (by omega) b z hz
theorem putAt_perm {l : List PairR} {x : PairR} {n : Nat} (_ : PutAt l x 0 n) : (l.take n ++ [x] ++ l.drop n).Perm (l ++ [x]) := by
  have p1 : (l.take n ++ [x] ++ l.drop n).Perm (l.take n ++ (l.drop n ++ [x])) := by
    rw [List.append_assoc]
    exact (List.perm_append_comm).append_left _
  rw [← List.append_assoc, List.take_append_drop] at p1
  exact p1
theorem putAt_done {l : List PairR} {x : PairR} {n : Nat} (h : PutAt l x 0 n) (s : SortedP l) : SortedP (l.take n ++ [x] ++ l.drop n) ∧ (l.take n ++ [x] ++ l.drop n).Perm (l ++ [x]) := by
  obtain ⟨h1, -, h3, h4⟩ := h
  constructor
  · have s1 : SortedP (l.take n) := List.Pairwise.sublist (List.take_sublist n l) s
    have s2 : SortedP (l.drop n) := List.Pairwise.sublist (List.drop_sublist n l) s
    have b1 : ∀ y ∈ l.take n, y.a ≤ x.a := fun y hy => by
      obtain ⟨j, hj⟩ := List.getElem?_of_mem hy
      rw [List.getElem?_take] at hj
      split at hj
      · exact h3 j (Nat.zero_le _) (by assumption) y hj
      · cases hj
    have b2 : ∀ y ∈ l.drop n, x.a ≤ y.a := fun y hy => by
      rcases h4 with rfl | ⟨z, hz, hxz⟩
      · rw [List.drop_length] at hy; cases hy
      · obtain ⟨hn, rfl⟩ := List.getElem?_eq_some_iff.1 hz
        rw [List.drop_eq_getElem_cons hn] at hy s2
        rcases List.mem_cons.1 hy with rfl | hy
        · omega
        · have := (List.pairwise_cons.1 s2).1 y hy
          omega
    have s3 := sorted_snoc s1 b1
    unfold SortedP
    rw [List.pairwise_append]
    refine ⟨s3, s2, fun y hy z hz => ?_⟩
    have h2 := b2 z hz
    rcases List.mem_append.1 hy with hy | hy
    · have := b1 y hy; omega
    · rw [List.mem_singleton.1 hy]; exact h2
  · have p1 : (l.take n ++ [x] ++ l.drop n).Perm (l.take n ++ (l.drop n ++ [x])) := by
      rw [List.append_assoc]
      exact (List.perm_append_comm).append_left _
    rw [← List.append_assoc, List.take_append_drop] at p1
    exact p1
def okPut32 (l : List PairR) (x : PairR) (h : H) (v : LV) (h' : H) : Prop := Keep h h' ∧ ∃ q zs, v = mkS q 2 (zs.map PairR.e) ∧ zs.Perm (l ++ [x]) ∧ (SortedP l → SortedP zs)
def IPut (o : Option (Nat × Nat)) (l : List PairR) (x : PairR) (h : H) (k : Nat) (s : S) (hh : H) : Prop :=
  s 0 = mkS o 2 (l.map PairR.e) ∧ s 3 = .ptr h.len 0 ∧ s 5 = .nils ∧ s 7 = .int .i64 ((k : Int) - 1) ∧ (∃ n : Nat, s 6 = .int .i64 n ∧ PutAt l x k n) ∧ k ≤ l.length ∧ hh = h.alloc [.int .i64 x.a, .int .i64 x.b]
theorem cRPut32 (o : Option (Nat × Nat)) (l : List PairR) (x : PairR) (h : H) (w : WF h) (hl : l.length ≤ 100000) :
    ∃ v h', runI Try.prog TA 38 [mkS o 2 (l.map PairR.e), x.e] h = some (v, h') ∧ okPut32 l x h v h' := by
  refine calls_of rfl res38 rfl ?_
  have ew : IntKind.i64.wrap ((l.length : Int) - 1) = (l.length : Int) - 1 := by rw [wrap64 (by omega) (by omega)]
  simp (maxSteps := 10000000) (maxDischargeDepth := 30) only [q38, r38, PairR.e, List.length_map, ew, go_sem, Nat.reduceEqDiff, ↓reduceIte, Nat.reduceAdd, Nat.reduceMul, Nat.reduceLeDiff, Nat.reduceLT, reduceCtorEq, Int.reduceToNat, Int.reduceLE, Int.reduceLT, Int.reduceEq, Int.reduceNeg, Int.reduceNe, Int.reducePow, Nat.reducePow, Nat.reduceSub, IntKind.bits]
  refine ru_loop (fun k => k) (IPut o l x h) l.length ?_ ?_
  · unfold IPut
    simp (maxSteps := 10000000) (maxDischargeDepth := 30) only [PairR.e, go_sem, Nat.reduceEqDiff, ↓reduceIte, Nat.reduceAdd, Nat.reduceMul, Nat.reduceLeDiff, Nat.reduceLT, reduceCtorEq, Int.reduceToNat, Int.reduceLE, Int.reduceLT, Int.reduceEq, Int.reduceNeg, Int.reduceNe, Int.reducePow, Nat.reducePow, Nat.reduceSub, IntKind.bits]
    exact ⟨l.length, rfl, putAt_start l x⟩
  · rintro k s hh ⟨e0, e3, e5, e7, ⟨n, e6, pa⟩, hk, rfl⟩
    have g : (h.alloc [.int .i64 x.a, .int .i64 x.b]).get h.len = some ⟨false, [.int .i64 x.a, .int .i64 x.b]⟩ := get_alloc_eq _ _
    cases k with
    | zero =>
      have e7' : s 7 = .int .i64 (-1) := e7
      have hm : ((0 : Int) ≤ -1) = False := eq_false (by omega)
      have hn := pa.1
      have hb1 : boundL (some (.int .i64 (n : Int))) l.length l.length = some n := by rw [bound_some, if_pos ⟨by omega, by omega⟩]; simp
      have hb2 : boundL (some (.int .i64 (n : Int))) 0 l.length = some n := by rw [bound_some, if_pos ⟨by omega, by omega⟩]; simp
      have ed : ((l.map PairR.e).take n).drop 0 = (l.take n).map PairR.e := by rw [List.drop_zero, List.map_take]
      have ed2 : ((l.map PairR.e).take l.length).drop n = (l.drop n).map PairR.e := by rw [← List.length_map (f := PairR.e), List.take_length, List.map_drop]
      have k0 := (Keep.refl h).alloc [.int .i64 x.a, .int .i64 x.b]
      have a0 : AccN h none 0 (h.alloc [.int .i64 x.a, .int .i64 x.b]) := AccN.start k0 (w.keep k0)
      obtain ⟨q1, m1, ap1, a1, gm1, lm1, -⟩ := a0.app (sz := 2) (by_ := 16) (xs := []) ((l.take n).map PairR.e) (by simp; omega)
      have ap1' : appS 2 16 .nils (h.alloc [.int .i64 x.a, .int .i64 x.b]) (some ((l.take n).map PairR.e)) = some (mkS q1 2 ((l.take n).map PairR.e), m1) := ap1
      have g1 := (gm1 h.len).trans g
      have a1' := a1.next ((Keep.refl m1).nrow 1)
      obtain ⟨q2, m2, ap2, a2, gm2, lm2, -⟩ := a1'.app (sz := 2) (by_ := 16) [x.e] (by simp; omega)
      obtain ⟨q3, m3, ap3, a3, gm3, lm3, -⟩ := a2.app (sz := 2) (by_ := 16) ((l.drop n).map PairR.e) (by simp; omega)
      rw [List.nil_append] at ap2 ap3
      have ap2' : appS 2 16 (mkS q1 2 ((l.take n).map PairR.e)) (m1.nrow 1) (some [.agg [.int .i64 x.a, .int .i64 x.b]]) = _ := ap2
      simp (maxSteps := 10000000) (maxDischargeDepth := 30) only [e0, e3, e5, e7', e6, g, hm, List.length_map, hb1, hb2, ed, ed2, slM_some (bound_none 0 n), slM_some hb2, bound_none, ap1', g1, ap2', ap3, go_sem, Nat.reduceEqDiff, ↓reduceIte, Nat.reduceAdd, Nat.reduceMul, Nat.reduceLeDiff, Nat.reduceLT, reduceCtorEq, Int.reduceToNat, Int.reduceLE, Int.reduceLT, Int.reduceEq, Int.reduceNeg, Int.reduceNe, Int.reducePow, Nat.reducePow, Nat.reduceSub, IntKind.bits]
      have ez : (l.take n).map PairR.e ++ [x.e] ++ (l.drop n).map PairR.e = (l.take n ++ [x] ++ l.drop n).map PairR.e := by rw [List.map_append, List.map_append]; rfl
      exact ⟨a3.keep, q3, _, by rw [ez], (putAt_perm pa), fun s => (putAt_done pa s).1⟩
    | succ k =>
      obtain ⟨y, hy⟩ := get_some (l := l) (i := k) (by omega)
      have ia := pair_at hy
      have e7' : s 7 = .int .i64 (k : Int) := by rw [e7]; congr 1; omega
      have hk0 : (0 : Int) ≤ k := by omega
      have ew : IntKind.i64.wrap ((k : Int) - 1) = (k : Int) - 1 := by rw [wrap64 (by omega) (by omega)]
      refine ru_step ?_
      by_cases c : x.a < y.a
      · simp (maxSteps := 10000000) (maxDischargeDepth := 30) only [e0, e3, e5, e7', e6, g, hk0, ia, PairR.e, c, ew, go_sem, Nat.reduceEqDiff, ↓reduceIte, Nat.reduceAdd, Nat.reduceMul, Nat.reduceLeDiff, Nat.reduceLT, reduceCtorEq, Int.reduceToNat, Int.reduceLE, Int.reduceLT, Int.reduceEq, Int.reduceNeg, Int.reduceNe, Int.reducePow, Nat.reducePow, Nat.reduceSub, IntKind.bits]
        refine ⟨k, by omega, ?_⟩
        unfold IPut
        simp (maxSteps := 10000000) (maxDischargeDepth := 30) only [e0, e3, e5, go_sem, Nat.reduceEqDiff, ↓reduceIte, Nat.reduceAdd, Nat.reduceMul, Nat.reduceLeDiff, Nat.reduceLT, reduceCtorEq, Int.reduceToNat, Int.reduceLE, Int.reduceLT, Int.reduceEq, Int.reduceNeg, Int.reduceNe, Int.reducePow, Nat.reducePow, Nat.reduceSub, IntKind.bits]
        exact ⟨⟨k, rfl, putAt_hit pa hy c⟩, by omega⟩
      · simp (maxSteps := 10000000) (maxDischargeDepth := 30) only [e0, e3, e5, e7', e6, g, hk0, ia, PairR.e, c, ew, go_sem, Nat.reduceEqDiff, ↓reduceIte, Nat.reduceAdd, Nat.reduceMul, Nat.reduceLeDiff, Nat.reduceLT, reduceCtorEq, Int.reduceToNat, Int.reduceLE, Int.reduceLT, Int.reduceEq, Int.reduceNeg, Int.reduceNe, Int.reducePow, Nat.reducePow, Nat.reduceSub, IntKind.bits]
        refine ⟨k, by omega, ?_⟩
        unfold IPut
        simp (maxSteps := 10000000) (maxDischargeDepth := 30) only [e0, e3, e5, e6, go_sem, Nat.reduceEqDiff, ↓reduceIte, Nat.reduceAdd, Nat.reduceMul, Nat.reduceLeDiff, Nat.reduceLT, reduceCtorEq, Int.reduceToNat, Int.reduceLE, Int.reduceLT, Int.reduceEq, Int.reduceNeg, Int.reduceNe, Int.reducePow, Nat.reducePow, Nat.reduceSub, IntKind.bits]
        exact ⟨⟨n, rfl, putAt_miss pa hy c⟩, by omega⟩
end Go.LM
