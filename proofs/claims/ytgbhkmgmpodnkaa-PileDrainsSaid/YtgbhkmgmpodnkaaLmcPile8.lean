import Derived.Test.YtgbhkmgmpodnkaaLmTrcRc
import Derived.Test.YtgbhkmgmpodnkaaLmcPile7
namespace Go.LM
open Go.Proofs
set_option maxRecDepth 8000
set_option maxHeartbeats 4000000
set_option linter.unusedSimpArgs false
set_option linter.unusedVariables false
/-! ### the law PileDrains -/
def DrC (zs : List PairR) (p r : Nat) (q : Option (Nat × Nat)) (ys l' : List PairR) (hh : H) : Prop :=
  (∃ ro, Pl (InR zs) H0 p r ro l' hh) ∧ l'.Perm ys ∧ okTok q ys.length hh ∧ newTok q H0
def ID1 (o o2 : Option (Nat × Nat)) (l more : List PairR) (p r : Nat) (i : Nat) (s : S) (hh : H) : Prop :=
  s 1 = mkS o2 2 (more.map PairR.e) ∧ s 5 = .ptr p 0 ∧ s 7 = .int .i64 i ∧ i ≤ more.length ∧ ∃ q l', s 6 = mkS q 2 ((l ++ more.take i).map PairR.e) ∧ DrC (l ++ more) p r q (l ++ more.take i) l' hh
def ID2 (zs : List PairR) (p r : Nat) (q : Option (Nat × Nat)) (l' : List PairR) (i : Nat) (s : S) (hh : H) : Prop :=
  s 5 = .ptr p 0 ∧ s 6 = mkS q 2 (zs.map PairR.e) ∧ s 8 = .int .i64 i ∧ i ≤ zs.length ∧ InR (zs.take i) ∧ ∃ ro, Pl (InR zs) H0 p r ro l' hh
def ID3 (zs out : List PairR) (p r : Nat) (q q2 : Option (Nat × Nat)) (i : Nat) (s : S) (hh : H) : Prop :=
  s 5 = .ptr p 0 ∧ s 6 = mkS q 2 (zs.map PairR.e) ∧ s 9 = mkS q2 2 (out.map PairR.e) ∧ s 10 = .int .i64 i ∧ i ≤ out.length ∧ ∃ ro, Pl (InR zs) H0 p r ro [] hh
theorem inR_snoc {l : List PairR} {x : PairR} (h : InR l) (h1 : -1099511627776 ≤ x.a) (h2 : x.a ≤ 1099511627776) : InR (l ++ [x]) := by
  intro y hy
  rcases List.mem_append.1 hy with hy | hy
  · exact h y hy
  · rw [List.mem_singleton.1 hy]; exact ⟨h1, h2⟩
theorem sorted_at {l : List PairR} {i j : Nat} {y x : PairR} (h : SortedP l) (hy : l[j]? = some y) (hx : l[i]? = some x) (hj : j < i) : ¬ x.a < y.a := by
  obtain ⟨h1, rfl⟩ := List.getElem?_eq_some_iff.1 hx
  obtain ⟨h2, rfl⟩ := List.getElem?_eq_some_iff.1 hy
  have := List.pairwise_iff_getElem.1 h j i h2 h1 hj
  omega
theorem lPileDrains (o o2 : Option (Nat × Nat)) (l more : List PairR) (n0 : ∀ z ∈ l, z.ok) (n1 : ∀ z ∈ more, z.ok) :
    ∃ h', runI Try.prog TA 9 [mkS o 2 (l.map PairR.e), mkS o2 2 (more.map PairR.e)] H0 = some (.bool true, h') := by
  refine true_of rfl res9 rfl ?_
  by_cases c0 : (100 : Int) < l.length
  · simp (maxSteps := 10000000) (maxDischargeDepth := 30) only [q9, r9, c0, List.length_map, awAwake32, go_sem, Nat.reduceEqDiff, ↓reduceIte, Nat.reduceAdd, Nat.reduceMul, Nat.reduceLeDiff, Nat.reduceLT, reduceCtorEq, Int.reduceToNat, Int.reduceLE, Int.reduceLT, Int.reduceEq, Int.reduceNeg, Int.reduceNe, Int.reducePow, Nat.reducePow, Nat.reduceSub, IntKind.bits]
  by_cases c1 : (100 : Int) < more.length
  · simp (maxSteps := 10000000) (maxDischargeDepth := 30) only [q9, r9, c0, c1, List.length_map, awAwake32, go_sem, Nat.reduceEqDiff, ↓reduceIte, Nat.reduceAdd, Nat.reduceMul, Nat.reduceLeDiff, Nat.reduceLT, reduceCtorEq, Int.reduceToNat, Int.reduceLE, Int.reduceLT, Int.reduceEq, Int.reduceNeg, Int.reduceNe, Int.reducePow, Nat.reducePow, Nat.reduceSub, IntKind.bits]
  have hl : l.length ≤ 100 := by omega
  have hm : more.length ≤ 100 := by omega
  clear n0 n1
  simp (maxSteps := 10000000) (maxDischargeDepth := 30) only [q9, r9, c0, c1, List.length_map, go_sem, Nat.reduceEqDiff, ↓reduceIte, Nat.reduceAdd, Nat.reduceMul, Nat.reduceLeDiff, Nat.reduceLT, reduceCtorEq, Int.reduceToNat, Int.reduceLE, Int.reduceLT, Int.reduceEq, Int.reduceNeg, Int.reduceNe, Int.reducePow, Nat.reducePow, Nat.reduceSub, IntKind.bits]
  have hin : InR (l ++ more) → InR l := fun h x hx => h x (List.mem_append_left _ hx)
  refine ro_vcall (cPlNew (InR (l ++ more)) o l H0 wf0 hin (by omega)) (fun v1 h1 J1 => ?_)
  obtain ⟨p, r, ro, l1, rfl, W1, pm1⟩ := J1
  have a0 : AccN H0 (some (h1.rlen, 0)) 0 (h1.nrow 0) := AccN.fresh W1.row.keep W1.row.wf 0
  obtain ⟨q0, m1, ap, a1, gm1, lm1, -⟩ := a0.app (sz := 2) (by_ := 16) (xs := []) (l.map PairR.e) (by simp; omega)
  rw [List.nil_append] at ap a1
  rw [List.length_map] at a1
  simp (maxSteps := 10000000) (maxDischargeDepth := 30) only [ap, go_sem, Nat.reduceEqDiff, ↓reduceIte, Nat.reduceAdd, Nat.reduceMul, Nat.reduceLeDiff, Nat.reduceLT, reduceCtorEq, Int.reduceToNat, Int.reduceLE, Int.reduceLT, Int.reduceEq, Int.reduceNeg, Int.reduceNe, Int.reducePow, Nat.reducePow, Nat.reduceSub, IntKind.bits]
  have W2 := W1.same a1.keep a1.wf gm1
  have tk1 := a1.tok
  have nt1 := a1.new
  clear ap a0 a1 gm1 lm1
  refine ru_loop (fun i => more.length - i) (ID1 o o2 l more p r) 0 ?_ ?_
  · unfold ID1
    simp (maxSteps := 10000000) (maxDischargeDepth := 30) only [Int.natCast_zero, go_sem, Nat.reduceEqDiff, ↓reduceIte, Nat.reduceAdd, Nat.reduceMul, Nat.reduceLeDiff, Nat.reduceLT, reduceCtorEq, Int.reduceToNat, Int.reduceLE, Int.reduceLT, Int.reduceEq, Int.reduceNeg, Int.reduceNe, Int.reducePow, Nat.reducePow, Nat.reduceSub, IntKind.bits]
    exact ⟨q0, l1, rfl, ⟨_, W2⟩, pm1, tk1, nt1⟩
  · rintro i s hh ⟨e1, e5, e7, hi, q, l', e6, ⟨ro', W⟩, pm, tk, nt⟩
    by_cases c2 : (i : Int) < more.length
    · refine ru_step ?_
      obtain ⟨x, hx⟩ := get_some (l := more) (i := i) (by omega)
      have ia := pair_at hx
      have hlen := pm.length_eq
      rw [List.length_append, List.length_take] at hlen
      have lo1 := W.row.wf.1
      have ew : IntKind.i64.wrap ((i : Int) + 1) = ((i + 1 : Nat) : Int) := by rw [wrap64 (by omega) (by omega)]; omega
      have et : more.take (i + 1) = more.take i ++ [x] := take_succ hx
      simp (maxSteps := 10000000) (maxDischargeDepth := 30) only [e1, e5, e7, List.length_map, c2, ia, PairR.e, go_sem, Nat.reduceEqDiff, ↓reduceIte, Nat.reduceAdd, Nat.reduceMul, Nat.reduceLeDiff, Nat.reduceLT, reduceCtorEq, Int.reduceToNat, Int.reduceLE, Int.reduceLT, Int.reduceEq, Int.reduceNeg, Int.reduceNe, Int.reducePow, Nat.reducePow, Nat.reduceSub, IntKind.bits]
      refine ro_wcall (cPlPush W x (fun c => c x (List.mem_append_right _ (List.mem_of_getElem? hx))) (by omega)) (fun h2 J => ?_)
      obtain ⟨⟨m', l2, V, hm', p2⟩, F2⟩ := J
      have tk2 := okTok_fr2 F2 tk
      have k3 : Keep h2 (h2.nrow 1) := (Keep.refl h2).nrow 1
      have V3 := V.next k3
      have a3 : AccN H0 q (((l ++ more.take i).map PairR.e).length) (h2.nrow 1) := ⟨by rw [List.length_map]; exact okTok_keep k3 tk2, nt, V3.row.keep, V3.row.wf⟩
      obtain ⟨q4, m4, ap, a4, gm4, lm4, -⟩ := a3.app (sz := 2) (by_ := 16) [x.e] (by simp; omega)
      have ez : (l ++ more.take i).map PairR.e ++ [x.e] = (l ++ more.take (i + 1)).map PairR.e := by rw [et, ← List.append_assoc]; simp
      rw [ez] at ap a4
      rw [List.length_map] at a4
      have V4 := V3.same a4.keep a4.wf gm4
      have ap' : appS 2 16 (mkS q 2 ((l ++ more.take i).map PairR.e)) (h2.nrow 1) (some [.agg [.int .i64 x.a, .int .i64 x.b]]) = _ := ap
      simp (maxSteps := 10000000) (maxDischargeDepth := 30) only [e1, e6, e7, ia, ap', ew, PairR.e, go_sem, Nat.reduceEqDiff, ↓reduceIte, Nat.reduceAdd, Nat.reduceMul, Nat.reduceLeDiff, Nat.reduceLT, reduceCtorEq, Int.reduceToNat, Int.reduceLE, Int.reduceLT, Int.reduceEq, Int.reduceNeg, Int.reduceNe, Int.reducePow, Nat.reducePow, Nat.reduceSub, IntKind.bits]
      refine ⟨i + 1, by omega, ?_⟩
      unfold ID1
      simp (maxSteps := 10000000) (maxDischargeDepth := 30) only [e1, e5, go_sem, Nat.reduceEqDiff, ↓reduceIte, Nat.reduceAdd, Nat.reduceMul, Nat.reduceLeDiff, Nat.reduceLT, reduceCtorEq, Int.reduceToNat, Int.reduceLE, Int.reduceLT, Int.reduceEq, Int.reduceNeg, Int.reduceNe, Int.reducePow, Nat.reducePow, Nat.reduceSub, IntKind.bits]
      refine ⟨by omega, q4, l2, rfl, ⟨_, V4⟩, ?_, a4.tok, a4.new⟩
      refine p2.trans ?_
      rw [et, ← List.append_assoc]
      exact pm.append_right [x]
    · obtain rfl : i = more.length := by omega
      rw [List.take_length] at e6 pm tk
      simp (maxSteps := 10000000) (maxDischargeDepth := 30) only [e1, e5, e7, List.length_map, c2, go_sem, Nat.reduceEqDiff, ↓reduceIte, Nat.reduceAdd, Nat.reduceMul, Nat.reduceLeDiff, Nat.reduceLT, reduceCtorEq, Int.reduceToNat, Int.reduceLE, Int.reduceLT, Int.reduceEq, Int.reduceNeg, Int.reduceNe, Int.reducePow, Nat.reducePow, Nat.reduceSub, IntKind.bits]
      have hz : (l ++ more).length ≤ 200 := by rw [List.length_append]; omega
      generalize l ++ more = zs at *
      refine ru_loop (fun i => zs.length - i) (ID2 zs p r q l') 0 ?_ ?_
      · unfold ID2
        simp (maxSteps := 10000000) (maxDischargeDepth := 30) only [Int.natCast_zero, e5, e6, go_sem, Nat.reduceEqDiff, ↓reduceIte, Nat.reduceAdd, Nat.reduceMul, Nat.reduceLeDiff, Nat.reduceLT, reduceCtorEq, Int.reduceToNat, Int.reduceLE, Int.reduceLT, Int.reduceEq, Int.reduceNeg, Int.reduceNe, Int.reducePow, Nat.reducePow, Nat.reduceSub, IntKind.bits]
        exact ⟨fun x hx => (by simp at hx), ro', W⟩
      clear W e1 e5 e6 e7 nt tk
      rintro i s hh ⟨e5, e6, e8, hi, hin, ro', W⟩
      by_cases c2 : (i : Int) < zs.length
      · obtain ⟨x, hx⟩ := get_some (l := zs) (i := i) (by omega)
        have ia := pair_at hx
        have ew : IntKind.i64.wrap ((i : Int) + 1) = ((i + 1 : Nat) : Int) := by rw [wrap64 (by omega) (by omega)]; omega
        have et : zs.take (i + 1) = zs.take i ++ [x] := take_succ hx
        by_cases ca : x.a < -1099511627776
        · simp (maxSteps := 10000000) (maxDischargeDepth := 30) only [e5, e6, e8, List.length_map, c2, ia, PairR.e, ca, awAwake32, go_sem, Nat.reduceEqDiff, ↓reduceIte, Nat.reduceAdd, Nat.reduceMul, Nat.reduceLeDiff, Nat.reduceLT, reduceCtorEq, Int.reduceToNat, Int.reduceLE, Int.reduceLT, Int.reduceEq, Int.reduceNeg, Int.reduceNe, Int.reducePow, Nat.reducePow, Nat.reduceSub, IntKind.bits]
        by_cases cb : 1099511627776 < x.a
        · simp (maxSteps := 10000000) (maxDischargeDepth := 30) only [e5, e6, e8, List.length_map, c2, ia, PairR.e, ca, cb, awAwake32, go_sem, Nat.reduceEqDiff, ↓reduceIte, Nat.reduceAdd, Nat.reduceMul, Nat.reduceLeDiff, Nat.reduceLT, reduceCtorEq, Int.reduceToNat, Int.reduceLE, Int.reduceLT, Int.reduceEq, Int.reduceNeg, Int.reduceNe, Int.reducePow, Nat.reducePow, Nat.reduceSub, IntKind.bits]
        refine ru_step ?_
        simp (maxSteps := 10000000) (maxDischargeDepth := 30) only [e5, e6, e8, List.length_map, c2, ia, PairR.e, ca, cb, ew, go_sem, Nat.reduceEqDiff, ↓reduceIte, Nat.reduceAdd, Nat.reduceMul, Nat.reduceLeDiff, Nat.reduceLT, reduceCtorEq, Int.reduceToNat, Int.reduceLE, Int.reduceLT, Int.reduceEq, Int.reduceNeg, Int.reduceNe, Int.reducePow, Nat.reducePow, Nat.reduceSub, IntKind.bits]
        refine ⟨i + 1, by omega, ?_⟩
        unfold ID2
        simp (maxSteps := 10000000) (maxDischargeDepth := 30) only [e5, e6, go_sem, Nat.reduceEqDiff, ↓reduceIte, Nat.reduceAdd, Nat.reduceMul, Nat.reduceLeDiff, Nat.reduceLT, reduceCtorEq, Int.reduceToNat, Int.reduceLE, Int.reduceLT, Int.reduceEq, Int.reduceNeg, Int.reduceNe, Int.reducePow, Nat.reducePow, Nat.reduceSub, IntKind.bits]
        exact ⟨by omega, by rw [et]; exact inR_snoc hin (by omega) (by omega), _, W⟩
      · obtain rfl : i = zs.length := by omega
        rw [List.take_length] at hin
        have hlen := pm.length_eq
        simp (maxSteps := 10000000) (maxDischargeDepth := 30) only [e5, e6, e8, List.length_map, c2, go_sem, Nat.reduceEqDiff, ↓reduceIte, Nat.reduceAdd, Nat.reduceMul, Nat.reduceLeDiff, Nat.reduceLT, reduceCtorEq, Int.reduceToNat, Int.reduceLE, Int.reduceLT, Int.reduceEq, Int.reduceNeg, Int.reduceNe, Int.reducePow, Nat.reducePow, Nat.reduceSub, IntKind.bits]
        refine ro_vcall (cPlDrain W (by omega)) (fun v2 h2 J2 => ?_)
        obtain ⟨q2, out, rfl, pm2, W2, so⟩ := J2
        have so := so hin
        have pm3 := pm2.trans pm
        have hlo := pm3.length_eq
        simp (maxSteps := 10000000) (maxDischargeDepth := 30) only [go_sem, Nat.reduceEqDiff, ↓reduceIte, Nat.reduceAdd, Nat.reduceMul, Nat.reduceLeDiff, Nat.reduceLT, reduceCtorEq, Int.reduceToNat, Int.reduceLE, Int.reduceLT, Int.reduceEq, Int.reduceNeg, Int.reduceNe, Int.reducePow, Nat.reducePow, Nat.reduceSub, IntKind.bits]
        refine ru_loop (fun i => out.length - i) (ID3 zs out p r q q2) 0 ?_ ?_
        · unfold ID3
          simp (maxSteps := 10000000) (maxDischargeDepth := 30) only [Int.natCast_zero, e5, e6, go_sem, Nat.reduceEqDiff, ↓reduceIte, Nat.reduceAdd, Nat.reduceMul, Nat.reduceLeDiff, Nat.reduceLT, reduceCtorEq, Int.reduceToNat, Int.reduceLE, Int.reduceLT, Int.reduceEq, Int.reduceNeg, Int.reduceNe, Int.reducePow, Nat.reducePow, Nat.reduceSub, IntKind.bits]
          exact ⟨_, W2⟩
        clear W W2 e5 e6 e8
        rintro i s hh ⟨e5, e6, e9, e10, hi, ro2, W⟩
        by_cases c2 : (i : Int) < out.length
        · obtain ⟨x, hx⟩ := get_some (l := out) (i := i) (by omega)
          have ia := pair_at hx
          have ew : IntKind.i64.wrap ((i : Int) + 1) = ((i + 1 : Nat) : Int) := by rw [wrap64 (by omega) (by omega)]; omega
          have hc : out.count x = zs.count x := pm3.count_eq x
          by_cases c3 : (0 : Int) < i
          · obtain ⟨y, hy⟩ := get_some (l := out) (i := i - 1) (by omega)
            have ia2 := pair_at hy
            have ew2 : IntKind.i64.wrap ((i : Int) - 1) = ((i - 1 : Nat) : Int) := by rw [wrap64 (by omega) (by omega)]; omega
            have hs : ¬ x.a < y.a := sorted_at so hy hx (by omega)
            refine ru_step ?_
            simp (maxSteps := 10000000) (maxDischargeDepth := 30) only [e5, e6, e9, e10, List.length_map, c2, c3, ia, ia2, ew2, PairR.e, hs, go_sem, Nat.reduceEqDiff, ↓reduceIte, Nat.reduceAdd, Nat.reduceMul, Nat.reduceLeDiff, Nat.reduceLT, reduceCtorEq, Int.reduceToNat, Int.reduceLE, Int.reduceLT, Int.reduceEq, Int.reduceNeg, Int.reduceNe, Int.reducePow, Nat.reducePow, Nat.reduceSub, IntKind.bits]
            first
            | refine rw_kcall (pHas q2 out x hh (by omega)) W.row.wf (fun h1 k1 w1 => ?_)
            | refine rw_kcallD (pHas q2 out x hh.up (by omega)) W.row.wf (fun h1 k1 w1 => ?_)
            have W1 := W.next k1
            simp (maxSteps := 10000000) (maxDischargeDepth := 30) only [e5, e6, e9, e10, ia, PairR.e, go_sem, Nat.reduceEqDiff, ↓reduceIte, Nat.reduceAdd, Nat.reduceMul, Nat.reduceLeDiff, Nat.reduceLT, reduceCtorEq, Int.reduceToNat, Int.reduceLE, Int.reduceLT, Int.reduceEq, Int.reduceNeg, Int.reduceNe, Int.reducePow, Nat.reducePow, Nat.reduceSub, IntKind.bits]
            first
            | refine rw_kcall (pHas q zs x h1 (by omega)) w1 (fun h2 k2 w2 => ?_)
            | refine rw_kcallD (pHas q zs x h1.up (by omega)) w1 (fun h2 k2 w2 => ?_)
            have W2 := W1.next k2
            simp (maxSteps := 10000000) (maxDischargeDepth := 30) only [e5, e6, e9, e10, hc, ew, go_sem, Nat.reduceEqDiff, ↓reduceIte, Nat.reduceAdd, Nat.reduceMul, Nat.reduceLeDiff, Nat.reduceLT, reduceCtorEq, Int.reduceToNat, Int.reduceLE, Int.reduceLT, Int.reduceEq, Int.reduceNeg, Int.reduceNe, Int.reducePow, Nat.reducePow, Nat.reduceSub, IntKind.bits]
            refine ⟨i + 1, by omega, ?_⟩
            unfold ID3
            simp (maxSteps := 10000000) (maxDischargeDepth := 30) only [e5, e6, e9, go_sem, Nat.reduceEqDiff, ↓reduceIte, Nat.reduceAdd, Nat.reduceMul, Nat.reduceLeDiff, Nat.reduceLT, reduceCtorEq, Int.reduceToNat, Int.reduceLE, Int.reduceLT, Int.reduceEq, Int.reduceNeg, Int.reduceNe, Int.reducePow, Nat.reducePow, Nat.reduceSub, IntKind.bits]
            exact ⟨by omega, _, W2⟩
          · refine ru_step ?_
            simp (maxSteps := 10000000) (maxDischargeDepth := 30) only [e5, e6, e9, e10, List.length_map, c2, c3, ia, PairR.e, go_sem, Nat.reduceEqDiff, ↓reduceIte, Nat.reduceAdd, Nat.reduceMul, Nat.reduceLeDiff, Nat.reduceLT, reduceCtorEq, Int.reduceToNat, Int.reduceLE, Int.reduceLT, Int.reduceEq, Int.reduceNeg, Int.reduceNe, Int.reducePow, Nat.reducePow, Nat.reduceSub, IntKind.bits]
            first
            | refine rw_kcall (pHas q2 out x hh (by omega)) W.row.wf (fun h1 k1 w1 => ?_)
            | refine rw_kcallD (pHas q2 out x hh.up (by omega)) W.row.wf (fun h1 k1 w1 => ?_)
            have W1 := W.next k1
            simp (maxSteps := 10000000) (maxDischargeDepth := 30) only [e5, e6, e9, e10, ia, PairR.e, go_sem, Nat.reduceEqDiff, ↓reduceIte, Nat.reduceAdd, Nat.reduceMul, Nat.reduceLeDiff, Nat.reduceLT, reduceCtorEq, Int.reduceToNat, Int.reduceLE, Int.reduceLT, Int.reduceEq, Int.reduceNeg, Int.reduceNe, Int.reducePow, Nat.reducePow, Nat.reduceSub, IntKind.bits]
            first
            | refine rw_kcall (pHas q zs x h1 (by omega)) w1 (fun h2 k2 w2 => ?_)
            | refine rw_kcallD (pHas q zs x h1.up (by omega)) w1 (fun h2 k2 w2 => ?_)
            have W2 := W1.next k2
            simp (maxSteps := 10000000) (maxDischargeDepth := 30) only [e5, e6, e9, e10, hc, ew, go_sem, Nat.reduceEqDiff, ↓reduceIte, Nat.reduceAdd, Nat.reduceMul, Nat.reduceLeDiff, Nat.reduceLT, reduceCtorEq, Int.reduceToNat, Int.reduceLE, Int.reduceLT, Int.reduceEq, Int.reduceNeg, Int.reduceNe, Int.reducePow, Nat.reducePow, Nat.reduceSub, IntKind.bits]
            refine ⟨i + 1, by omega, ?_⟩
            unfold ID3
            simp (maxSteps := 10000000) (maxDischargeDepth := 30) only [e5, e6, e9, go_sem, Nat.reduceEqDiff, ↓reduceIte, Nat.reduceAdd, Nat.reduceMul, Nat.reduceLeDiff, Nat.reduceLT, reduceCtorEq, Int.reduceToNat, Int.reduceLE, Int.reduceLT, Int.reduceEq, Int.reduceNeg, Int.reduceNe, Int.reducePow, Nat.reducePow, Nat.reduceSub, IntKind.bits]
            exact ⟨by omega, _, W2⟩
        · obtain rfl : i = out.length := by omega
          have hc3 : ((out.length : Int) = zs.length) = True := eq_true (by omega)
          simp (maxSteps := 10000000) (maxDischargeDepth := 30) only [e5, e6, e9, e10, List.length_map, c2, hc3, go_sem, Nat.reduceEqDiff, ↓reduceIte, Nat.reduceAdd, Nat.reduceMul, Nat.reduceLeDiff, Nat.reduceLT, reduceCtorEq, Int.reduceToNat, Int.reduceLE, Int.reduceLT, Int.reduceEq, Int.reduceNeg, Int.reduceNe, Int.reducePow, Nat.reducePow, Nat.reduceSub, IntKind.bits]
          refine ro_kcall (pPlLen W) W.row.wf (fun h1 k1 w1 => ?_)
          have W1 := W.next k1
          simp (maxSteps := 10000000) (maxDischargeDepth := 30) only [e5, List.length_nil, Int.natCast_zero, go_sem, Nat.reduceEqDiff, ↓reduceIte, Nat.reduceAdd, Nat.reduceMul, Nat.reduceLeDiff, Nat.reduceLT, reduceCtorEq, Int.reduceToNat, Int.reduceLE, Int.reduceLT, Int.reduceEq, Int.reduceNeg, Int.reduceNe, Int.reducePow, Nat.reducePow, Nat.reduceSub, IntKind.bits]
          refine ro_vcall (cPlDrain W1 (by simp)) (fun v2 h2 J2 => ?_)
          obtain ⟨q3, out3, rfl, pm4, -, -⟩ := J2
          obtain rfl : out3 = [] := List.length_eq_zero_iff.1 pm4.length_eq
          simp (maxSteps := 10000000) (maxDischargeDepth := 30) only [List.map_nil, List.length_nil, Int.natCast_zero, awAwake32, go_sem, Nat.reduceEqDiff, ↓reduceIte, Nat.reduceAdd, Nat.reduceMul, Nat.reduceLeDiff, Nat.reduceLT, reduceCtorEq, Int.reduceToNat, Int.reduceLE, Int.reduceLT, Int.reduceEq, Int.reduceNeg, Int.reduceNe, Int.reducePow, Nat.reducePow, Nat.reduceSub, IntKind.bits]
end Go.LM
