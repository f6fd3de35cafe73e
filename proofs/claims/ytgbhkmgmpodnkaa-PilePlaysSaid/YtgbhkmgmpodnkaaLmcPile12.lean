import Derived.Test.YtgbhkmgmpodnkaaLmTrcRc
import Derived.Test.YtgbhkmgmpodnkaaLmcPile11
namespace Go.LM
open Go.Proofs
set_option maxRecDepth 8000
set_option maxHeartbeats 4000000
set_option linter.unusedSimpArgs false
set_option linter.unusedVariables false
/-! ### the law PilePlays -/
def PyC (h0 : H) (p r : Nat) (zs l' : List PairR) (hh : H) : Prop :=
  (∃ ro, Pl True h0 p r ro l' hh) ∧ zs.Perm l' ∧ SortedP zs
def IPy (h0 : H) (o : Option (Nat × Nat)) (l : List PopR) (p r : Nat) (i : Nat) (s : S) (hh : H) : Prop :=
  s 0 = mkS o 3 (l.map PopR.e) ∧ s 3 = .ptr p 0 ∧ s 5 = .int .i64 i ∧ i ≤ l.length ∧ ∃ q zs l', s 4 = mkS q 2 (zs.map PairR.e) ∧ PyC h0 p r zs l' hh ∧ zs.length ≤ i
theorem zs_head {zs l' : List PairR} {x : PairR} (pm : zs.Perm (x :: l')) (so : SortedP zs) (hp : HeapN (x :: l') (x :: l').length) : ∃ z, zs[0]? = some z ∧ x.a = z.a ∧ x ∈ zs := by
  have hx : x ∈ zs := pm.mem_iff.2 (List.mem_cons_self ..)
  cases zs with
  | nil => cases hx
  | cons z t =>
    refine ⟨z, rfl, ?_, hx⟩
    have h1 : x.a ≤ z.a := root_min hp rfl z (pm.mem_iff.1 (List.mem_cons_self ..))
    rcases List.mem_cons.1 hx with e | e
    · rw [e]
    · have := (List.pairwise_cons.1 so).1 x e
      omega
theorem lPilePlays (o : Option (Nat × Nat)) (l : List PopR) (n0 : ∀ z ∈ l, z.ok) :
    ∃ h', runI Try.prog TA 8 [mkS o 3 (l.map PopR.e)] H0 = some (.bool true, h') := by
  clear n0
  refine true_of rfl res8 rfl ?_
  simp (maxSteps := 10000000) (maxDischargeDepth := 30) only [q8, r8, go_sem, Nat.reduceEqDiff, ↓reduceIte, Nat.reduceAdd, Nat.reduceMul, Nat.reduceLeDiff, Nat.reduceLT, reduceCtorEq, Int.reduceToNat, Int.reduceLE, Int.reduceLT, Int.reduceEq, Int.reduceNeg, Int.reduceNe, Int.reducePow, Nat.reducePow, Nat.reduceSub, IntKind.bits]
  refine ro_vcall (cSmall32 o l H0 wf0) (fun v1 h1 J1 => ?_)
  obtain ⟨k1, b, rfl, hb⟩ := J1
  have w1 := wf0.keep k1
  cases b with
  | false => simp (maxSteps := 10000000) (maxDischargeDepth := 30) only [awAwake32, go_sem, Nat.reduceEqDiff, ↓reduceIte, Nat.reduceAdd, Nat.reduceMul, Nat.reduceLeDiff, Nat.reduceLT, reduceCtorEq, Int.reduceToNat, Int.reduceLE, Int.reduceLT, Int.reduceEq, Int.reduceNeg, Int.reduceNe, Int.reducePow, Nat.reducePow, Nat.reduceSub, IntKind.bits]
  | true =>
    obtain ⟨hl, hin⟩ := hb rfl
    simp (maxSteps := 10000000) (maxDischargeDepth := 30) only [go_sem, Nat.reduceEqDiff, ↓reduceIte, Nat.reduceAdd, Nat.reduceMul, Nat.reduceLeDiff, Nat.reduceLT, reduceCtorEq, Int.reduceToNat, Int.reduceLE, Int.reduceLT, Int.reduceEq, Int.reduceNeg, Int.reduceNe, Int.reducePow, Nat.reducePow, Nat.reduceSub, IntKind.bits]
    refine ro_vcall (cPlNew True none [] h1 w1 (fun _ => fun x hx => (by cases hx)) (Nat.zero_le _)) (fun v2 h2 J2 => ?_)
    obtain ⟨p, r, ro, l1, rfl, W2, pm2⟩ := J2
    obtain rfl : l1 = [] := List.length_eq_zero_iff.1 pm2.length_eq
    simp (maxSteps := 10000000) (maxDischargeDepth := 30) only [go_sem, Nat.reduceEqDiff, ↓reduceIte, Nat.reduceAdd, Nat.reduceMul, Nat.reduceLeDiff, Nat.reduceLT, reduceCtorEq, Int.reduceToNat, Int.reduceLE, Int.reduceLT, Int.reduceEq, Int.reduceNeg, Int.reduceNe, Int.reducePow, Nat.reducePow, Nat.reduceSub, IntKind.bits]
    refine ru_loop (fun i => l.length - i) (IPy h1 o l p r) 0 ?_ ?_
    · unfold IPy
      simp (maxSteps := 10000000) (maxDischargeDepth := 30) only [Int.natCast_zero, go_sem, Nat.reduceEqDiff, ↓reduceIte, Nat.reduceAdd, Nat.reduceMul, Nat.reduceLeDiff, Nat.reduceLT, reduceCtorEq, Int.reduceToNat, Int.reduceLE, Int.reduceLT, Int.reduceEq, Int.reduceNeg, Int.reduceNe, Int.reducePow, Nat.reducePow, Nat.reduceSub, IntKind.bits]
      exact ⟨none, [], [], rfl, ⟨⟨_, W2⟩, .refl _, .nil⟩, Nat.le_refl _⟩
    · rintro i s hh ⟨e0, e3, e5, hi, q, zs, l', e4, ⟨⟨ro', W⟩, pm, so⟩, hzl⟩
      have hlen := pm.length_eq
      by_cases c1 : (i : Int) < l.length
      rotate_left
      · simp (maxSteps := 10000000) (maxDischargeDepth := 30) only [e0, e3, e5, List.length_map, c1, awAwake32, go_sem, Nat.reduceEqDiff, ↓reduceIte, Nat.reduceAdd, Nat.reduceMul, Nat.reduceLeDiff, Nat.reduceLT, reduceCtorEq, Int.reduceToNat, Int.reduceLE, Int.reduceLT, Int.reduceEq, Int.reduceNeg, Int.reduceNe, Int.reducePow, Nat.reducePow, Nat.reduceSub, IntKind.bits]
      obtain ⟨y, hy⟩ : ∃ y, l[i]? = some y := ⟨_, List.getElem?_eq_getElem (by omega)⟩
      have ia := pop_at hy
      have hyr := hin y.x (List.mem_map_of_mem (List.mem_of_getElem? hy))
      have ew : IntKind.i64.wrap ((i : Int) + 1) = ((i + 1 : Nat) : Int) := by rw [wrap64 (by omega) (by omega)]; omega
      refine ru_step ?_
      by_cases ck : y.k = 0
      · simp (maxSteps := 10000000) (maxDischargeDepth := 30) only [e0, e3, e4, e5, List.length_map, c1, ia, PopR.e, ck, go_sem, Nat.reduceEqDiff, ↓reduceIte, Nat.reduceAdd, Nat.reduceMul, Nat.reduceLeDiff, Nat.reduceLT, reduceCtorEq, Int.reduceToNat, Int.reduceLE, Int.reduceLT, Int.reduceEq, Int.reduceNeg, Int.reduceNe, Int.reducePow, Nat.reducePow, Nat.reduceSub, IntKind.bits]
        refine ro_wcall (cPlPush W y.x (fun _ => hyr) (by omega)) (fun h3 J3 => ?_)
        obtain ⟨⟨m', l2, V, hm', p2⟩, F2⟩ := J3
        simp (maxSteps := 10000000) (maxDischargeDepth := 30) only [e0, e3, e4, e5, ia, PopR.e, ck, go_sem, Nat.reduceEqDiff, ↓reduceIte, Nat.reduceAdd, Nat.reduceMul, Nat.reduceLeDiff, Nat.reduceLT, reduceCtorEq, Int.reduceToNat, Int.reduceLE, Int.reduceLT, Int.reduceEq, Int.reduceNeg, Int.reduceNe, Int.reducePow, Nat.reducePow, Nat.reduceSub, IntKind.bits]
        refine ro_vcall (cRPut32 q zs y.x h3 V.row.wf (by omega)) (fun v4 h4 J4 => ?_)
        obtain ⟨k4, q2, zs2, rfl, pz, sz⟩ := J4
        have V2 := V.next k4
        have pm2 := pz.trans ((pm.append_right _).trans p2.symm)
        have hzz := pz.length_eq
        rw [List.length_append, List.length_singleton] at hzz
        simp (maxSteps := 10000000) (maxDischargeDepth := 30) only [e3, e4, go_sem, Nat.reduceEqDiff, ↓reduceIte, Nat.reduceAdd, Nat.reduceMul, Nat.reduceLeDiff, Nat.reduceLT, reduceCtorEq, Int.reduceToNat, Int.reduceLE, Int.reduceLT, Int.reduceEq, Int.reduceNeg, Int.reduceNe, Int.reducePow, Nat.reducePow, Nat.reduceSub, IntKind.bits]
        have hle := (pm2).length_eq
        have hlq : ((l2.length : Int) = zs2.length) = True := eq_true (by omega)
        refine ro_kcall (pPlLen V2) V2.row.wf (fun hz kz wz => ?_)
        have WZ := V2.next kz
        simp (maxSteps := 10000000) (maxDischargeDepth := 30) only [e0, e3, e5, List.length_map, hlq, ew, go_sem, Nat.reduceEqDiff, ↓reduceIte, Nat.reduceAdd, Nat.reduceMul, Nat.reduceLeDiff, Nat.reduceLT, reduceCtorEq, Int.reduceToNat, Int.reduceLE, Int.reduceLT, Int.reduceEq, Int.reduceNeg, Int.reduceNe, Int.reducePow, Nat.reducePow, Nat.reduceSub, IntKind.bits]
        refine ⟨i + 1, by omega, ?_⟩
        unfold IPy
        simp (maxSteps := 10000000) (maxDischargeDepth := 30) only [e0, e3, go_sem, Nat.reduceEqDiff, ↓reduceIte, Nat.reduceAdd, Nat.reduceMul, Nat.reduceLeDiff, Nat.reduceLT, reduceCtorEq, Int.reduceToNat, Int.reduceLE, Int.reduceLT, Int.reduceEq, Int.reduceNeg, Int.reduceNe, Int.reducePow, Nat.reducePow, Nat.reduceSub, IntKind.bits]
        exact ⟨by omega, q2, zs2, l2, rfl, ⟨⟨_, WZ⟩, pm2, sz so⟩, by omega⟩
      have at_ := W.row.at_
      by_cases ck1 : y.k = 1
      · cases l' with
        | nil =>
          obtain rfl : zs = [] := List.length_eq_zero_iff.1 hlen
          simp (maxSteps := 10000000) (maxDischargeDepth := 30) only [e0, e3, e4, e5, List.length_map, c1, ia, PopR.e, ck, ck1, go_sem, Nat.reduceEqDiff, ↓reduceIte, Nat.reduceAdd, Nat.reduceMul, Nat.reduceLeDiff, Nat.reduceLT, reduceCtorEq, Int.reduceToNat, Int.reduceLE, Int.reduceLT, Int.reduceEq, Int.reduceNeg, Int.reduceNe, Int.reducePow, Nat.reducePow, Nat.reduceSub, IntKind.bits]
          refine ro_kcall (pPeek0 W) W.row.wf (fun h3 k3 w3 => ?_)
          have lo3 := w3.1
          have W3 := W.next k3
          simp (maxSteps := 10000000) (maxDischargeDepth := 30) only [e3, lo3, go_sem, Nat.reduceEqDiff, ↓reduceIte, Nat.reduceAdd, Nat.reduceMul, Nat.reduceLeDiff, Nat.reduceLT, reduceCtorEq, Int.reduceToNat, Int.reduceLE, Int.reduceLT, Int.reduceEq, Int.reduceNeg, Int.reduceNe, Int.reducePow, Nat.reducePow, Nat.reduceSub, IntKind.bits]
          generalize hgg : H.put _ _ _ = h4
          have kh4 : Keep h3 h4 := by rw [← hgg]; exact ((Keep.refl h3).alloc _).put (Nat.le_refl _) _
          have gh4 : h4.get h3.len = some ⟨false, [.int .i64 0, .int .i64 0]⟩ := by rw [← hgg]; exact get_put_eq (by rw [len_alloc]; omega)
          clear hgg
          have Wh4 := W3.next kh4
          have wh4 := Wh4.row.wf
          try (simp (maxSteps := 10000000) (maxDischargeDepth := 30) only [go_sem, Nat.reduceEqDiff, ↓reduceIte, Nat.reduceAdd, Nat.reduceMul, Nat.reduceLeDiff, Nat.reduceLT, reduceCtorEq, Int.reduceToNat, Int.reduceLE, Int.reduceLT, Int.reduceEq, Int.reduceNeg, Int.reduceNe, Int.reducePow, Nat.reducePow, Nat.reduceSub, IntKind.bits])
          refine ro_kcall (cPlPop0 Wh4) wh4 (fun h5 k5 w5 => ?_)
          have lo5 := w5.1
          have W5 := Wh4.next k5
          have g5 := (k5.get (lt_of_get gh4)).trans gh4
          simp (maxSteps := 10000000) (maxDischargeDepth := 30) only [e3, e4, lo5, g5, go_sem, Nat.reduceEqDiff, ↓reduceIte, Nat.reduceAdd, Nat.reduceMul, Nat.reduceLeDiff, Nat.reduceLT, reduceCtorEq, Int.reduceToNat, Int.reduceLE, Int.reduceLT, Int.reduceEq, Int.reduceNeg, Int.reduceNe, Int.reducePow, Nat.reducePow, Nat.reduceSub, IntKind.bits]
          generalize hgg : H.put _ _ _ = h6
          have kh6 : Keep h5 h6 := by rw [← hgg]; exact ((Keep.refl h5).alloc _).put (Nat.le_refl _) _
          have gh6 : h6.get h5.len = some ⟨false, [.int .i64 0, .int .i64 0]⟩ := by rw [← hgg]; exact get_put_eq (by rw [len_alloc]; omega)
          clear hgg
          have Wh6 := W5.next kh6
          have wh6 := Wh6.row.wf
          have g6 := (kh6.get (lt_of_get g5)).trans g5
          try (simp (maxSteps := 10000000) (maxDischargeDepth := 30) only [gh6, g6, e4, go_sem, Nat.reduceEqDiff, ↓reduceIte, Nat.reduceAdd, Nat.reduceMul, Nat.reduceLeDiff, Nat.reduceLT, reduceCtorEq, Int.reduceToNat, Int.reduceLE, Int.reduceLT, Int.reduceEq, Int.reduceNeg, Int.reduceNe, Int.reducePow, Nat.reducePow, Nat.reduceSub, IntKind.bits])
          refine ro_kcall (pSame0 h6 wh6 q) wh6 (fun h7 k7 w7 => ?_)
          have W7 := Wh6.next k7
          have g7 := (k7.get (lt_of_get gh6)).trans gh6
          have g7' := (k7.get (lt_of_get g6)).trans g6
          simp (maxSteps := 10000000) (maxDischargeDepth := 30) only [g7, g7', e4, eqSeq_2, go_sem, Nat.reduceEqDiff, ↓reduceIte, Nat.reduceAdd, Nat.reduceMul, Nat.reduceLeDiff, Nat.reduceLT, reduceCtorEq, Int.reduceToNat, Int.reduceLE, Int.reduceLT, Int.reduceEq, Int.reduceNeg, Int.reduceNe, Int.reducePow, Nat.reducePow, Nat.reduceSub, IntKind.bits]
          refine ro_vcall (cRTake32 q [] ⟨0, 0⟩ h7 w7 (Nat.zero_le _)) (fun v8 h8 J8 => ?_)
          obtain ⟨k8, q8, rfl⟩ := J8
          have W8 := W7.next k8
          have pm0 : ([] : List PairR).Perm [] := .refl _
          simp (maxSteps := 10000000) (maxDischargeDepth := 30) only [e3, go_sem, Nat.reduceEqDiff, ↓reduceIte, Nat.reduceAdd, Nat.reduceMul, Nat.reduceLeDiff, Nat.reduceLT, reduceCtorEq, Int.reduceToNat, Int.reduceLE, Int.reduceLT, Int.reduceEq, Int.reduceNeg, Int.reduceNe, Int.reducePow, Nat.reducePow, Nat.reduceSub, IntKind.bits]
          refine ro_kcall (pPlLen W8) W8.row.wf (fun hz kz wz => ?_)
          have WZ := W8.next kz
          simp (maxSteps := 10000000) (maxDischargeDepth := 30) only [e0, e3, e5, List.length_nil, Int.natCast_zero, List.erase_nil, List.map_nil, ew, go_sem, Nat.reduceEqDiff, ↓reduceIte, Nat.reduceAdd, Nat.reduceMul, Nat.reduceLeDiff, Nat.reduceLT, reduceCtorEq, Int.reduceToNat, Int.reduceLE, Int.reduceLT, Int.reduceEq, Int.reduceNeg, Int.reduceNe, Int.reducePow, Nat.reducePow, Nat.reduceSub, IntKind.bits]
          refine ⟨i + 1, by omega, ?_⟩
          unfold IPy
          simp (maxSteps := 10000000) (maxDischargeDepth := 30) only [e0, e3, go_sem, Nat.reduceEqDiff, ↓reduceIte, Nat.reduceAdd, Nat.reduceMul, Nat.reduceLeDiff, Nat.reduceLT, reduceCtorEq, Int.reduceToNat, Int.reduceLE, Int.reduceLT, Int.reduceEq, Int.reduceNeg, Int.reduceNe, Int.reducePow, Nat.reducePow, Nat.reduceSub, IntKind.bits]
          exact ⟨by omega, q8, [], [], rfl, ⟨⟨_, WZ⟩, pm0, .nil⟩, Nat.zero_le _⟩
        | cons x l' =>
          have hz := zs_head pm so (W.heap trivial).2
          obtain ⟨z, hz0, hza, hzx⟩ := hz
          cases ro' with
          | none => obtain ⟨e, _⟩ := at_; cases e
          | some m =>
            simp (maxSteps := 10000000) (maxDischargeDepth := 30) only [e0, e3, e4, e5, List.length_map, c1, ia, PopR.e, ck, ck1, go_sem, Nat.reduceEqDiff, ↓reduceIte, Nat.reduceAdd, Nat.reduceMul, Nat.reduceLeDiff, Nat.reduceLT, reduceCtorEq, Int.reduceToNat, Int.reduceLE, Int.reduceLT, Int.reduceEq, Int.reduceNeg, Int.reduceNe, Int.reducePow, Nat.reducePow, Nat.reduceSub, IntKind.bits]
            refine ro_kcall (pPeek1 (x := x) W rfl) W.row.wf (fun h3 k3 w3 => ?_)
            have lo3 := w3.1
            have W3 := W.next k3
            simp (maxSteps := 10000000) (maxDischargeDepth := 30) only [e3, lo3, PairR.e, go_sem, Nat.reduceEqDiff, ↓reduceIte, Nat.reduceAdd, Nat.reduceMul, Nat.reduceLeDiff, Nat.reduceLT, reduceCtorEq, Int.reduceToNat, Int.reduceLE, Int.reduceLT, Int.reduceEq, Int.reduceNeg, Int.reduceNe, Int.reducePow, Nat.reducePow, Nat.reduceSub, IntKind.bits]
            generalize hgg : H.put _ _ _ = h4
            have kh4 : Keep h3 h4 := by rw [← hgg]; exact ((Keep.refl h3).alloc _).put (Nat.le_refl _) _
            have gh4 : h4.get h3.len = some ⟨false, [.int .i64 x.a, .int .i64 x.b]⟩ := by rw [← hgg]; exact get_put_eq (by rw [len_alloc]; omega)
            clear hgg
            have Wh4 := W3.next kh4
            have wh4 := Wh4.row.wf
            try (simp (maxSteps := 10000000) (maxDischargeDepth := 30) only [go_sem, Nat.reduceEqDiff, ↓reduceIte, Nat.reduceAdd, Nat.reduceMul, Nat.reduceLeDiff, Nat.reduceLT, reduceCtorEq, Int.reduceToNat, Int.reduceLE, Int.reduceLT, Int.reduceEq, Int.reduceNeg, Int.reduceNe, Int.reducePow, Nat.reducePow, Nat.reduceSub, IntKind.bits])
            refine ro_wcall (cPlPop (x := x) Wh4 rfl (by omega)) (fun h5 J5 => ?_)
            obtain ⟨⟨l2, W5, p2⟩, F5⟩ := J5
            have w5 := W5.row.wf
            have lo5 := w5.1
            have g5 := (F5.box h3.len (lt_of_get gh4) (by have := W3.row.lt; omega) (fun e => by cases e; have := (W3.row.lo0 _ rfl).2.1; omega)).trans gh4
            simp (maxSteps := 10000000) (maxDischargeDepth := 30) only [e3, e4, lo5, g5, PairR.e, go_sem, Nat.reduceEqDiff, ↓reduceIte, Nat.reduceAdd, Nat.reduceMul, Nat.reduceLeDiff, Nat.reduceLT, reduceCtorEq, Int.reduceToNat, Int.reduceLE, Int.reduceLT, Int.reduceEq, Int.reduceNeg, Int.reduceNe, Int.reducePow, Nat.reducePow, Nat.reduceSub, IntKind.bits]
            generalize hgg : H.put _ _ _ = h6
            have kh6 : Keep h5 h6 := by rw [← hgg]; exact ((Keep.refl h5).alloc _).put (Nat.le_refl _) _
            have gh6 : h6.get h5.len = some ⟨false, [.int .i64 x.a, .int .i64 x.b]⟩ := by rw [← hgg]; exact get_put_eq (by rw [len_alloc]; omega)
            clear hgg
            have Wh6 := W5.next kh6
            have wh6 := Wh6.row.wf
            have g6 := (kh6.get (lt_of_get g5)).trans g5
            try (simp (maxSteps := 10000000) (maxDischargeDepth := 30) only [gh6, g6, e4, PairR.e, go_sem, Nat.reduceEqDiff, ↓reduceIte, Nat.reduceAdd, Nat.reduceMul, Nat.reduceLeDiff, Nat.reduceLT, reduceCtorEq, Int.reduceToNat, Int.reduceLE, Int.reduceLT, Int.reduceEq, Int.reduceNeg, Int.reduceNe, Int.reducePow, Nat.reducePow, Nat.reduceSub, IntKind.bits])
            refine ro_kcall (pSame1 h6 wh6 q zs x z hz0 hza hzx (by omega)) wh6 (fun h7 k7 w7 => ?_)
            have W7 := Wh6.next k7
            have g7 := (k7.get (lt_of_get gh6)).trans gh6
            have g7' := (k7.get (lt_of_get g6)).trans g6
            simp (maxSteps := 10000000) (maxDischargeDepth := 30) only [g7, g7', e4, eqSeq_2, PairR.e, go_sem, Nat.reduceEqDiff, ↓reduceIte, Nat.reduceAdd, Nat.reduceMul, Nat.reduceLeDiff, Nat.reduceLT, reduceCtorEq, Int.reduceToNat, Int.reduceLE, Int.reduceLT, Int.reduceEq, Int.reduceNeg, Int.reduceNe, Int.reducePow, Nat.reducePow, Nat.reduceSub, IntKind.bits]
            refine ro_vcall (cRTake32 q zs x h7 w7 (by omega)) (fun v8 h8 J8 => ?_)
            obtain ⟨k8, q8, rfl⟩ := J8
            have W8 := W7.next k8
            have pm2 : (zs.erase x).Perm l2 := by
              have := (pm.trans p2.symm).erase x
              rwa [List.erase_cons_head] at this
            have so2 : SortedP (zs.erase x) := List.Pairwise.sublist List.erase_sublist so
            have hee : (zs.erase x).length ≤ zs.length := List.erase_sublist.length_le
            generalize zs.erase x = zs2 at *
            simp (maxSteps := 10000000) (maxDischargeDepth := 30) only [e3, go_sem, Nat.reduceEqDiff, ↓reduceIte, Nat.reduceAdd, Nat.reduceMul, Nat.reduceLeDiff, Nat.reduceLT, reduceCtorEq, Int.reduceToNat, Int.reduceLE, Int.reduceLT, Int.reduceEq, Int.reduceNeg, Int.reduceNe, Int.reducePow, Nat.reducePow, Nat.reduceSub, IntKind.bits]
            have hle := (pm2).length_eq
            have hlq : ((l2.length : Int) = zs2.length) = True := eq_true (by omega)
            refine ro_kcall (pPlLen W8) W8.row.wf (fun hz kz wz => ?_)
            have WZ := W8.next kz
            simp (maxSteps := 10000000) (maxDischargeDepth := 30) only [e0, e3, e5, List.length_map, hlq, ew, go_sem, Nat.reduceEqDiff, ↓reduceIte, Nat.reduceAdd, Nat.reduceMul, Nat.reduceLeDiff, Nat.reduceLT, reduceCtorEq, Int.reduceToNat, Int.reduceLE, Int.reduceLT, Int.reduceEq, Int.reduceNeg, Int.reduceNe, Int.reducePow, Nat.reducePow, Nat.reduceSub, IntKind.bits]
            refine ⟨i + 1, by omega, ?_⟩
            unfold IPy
            simp (maxSteps := 10000000) (maxDischargeDepth := 30) only [e0, e3, go_sem, Nat.reduceEqDiff, ↓reduceIte, Nat.reduceAdd, Nat.reduceMul, Nat.reduceLeDiff, Nat.reduceLT, reduceCtorEq, Int.reduceToNat, Int.reduceLE, Int.reduceLT, Int.reduceEq, Int.reduceNeg, Int.reduceNe, Int.reducePow, Nat.reducePow, Nat.reduceSub, IntKind.bits]
            exact ⟨by omega, q8, zs2, l2, rfl, ⟨⟨_, WZ⟩, pm2, so2⟩, by omega⟩
      · cases l' with
        | nil =>
          obtain rfl : zs = [] := List.length_eq_zero_iff.1 hlen
          simp (maxSteps := 10000000) (maxDischargeDepth := 30) only [e0, e3, e4, e5, List.length_map, c1, ia, PopR.e, ck, ck1, go_sem, Nat.reduceEqDiff, ↓reduceIte, Nat.reduceAdd, Nat.reduceMul, Nat.reduceLeDiff, Nat.reduceLT, reduceCtorEq, Int.reduceToNat, Int.reduceLE, Int.reduceLT, Int.reduceEq, Int.reduceNeg, Int.reduceNe, Int.reducePow, Nat.reducePow, Nat.reduceSub, IntKind.bits]
          refine ro_kcall (pPeek0 W) W.row.wf (fun h3 k3 w3 => ?_)
          have lo3 := w3.1
          have W3 := W.next k3
          simp (maxSteps := 10000000) (maxDischargeDepth := 30) only [e3, e4, lo3, go_sem, Nat.reduceEqDiff, ↓reduceIte, Nat.reduceAdd, Nat.reduceMul, Nat.reduceLeDiff, Nat.reduceLT, reduceCtorEq, Int.reduceToNat, Int.reduceLE, Int.reduceLT, Int.reduceEq, Int.reduceNeg, Int.reduceNe, Int.reducePow, Nat.reducePow, Nat.reduceSub, IntKind.bits]
          generalize hgg : H.put _ _ _ = h4
          have kh4 : Keep h3 h4 := by rw [← hgg]; exact ((Keep.refl h3).alloc _).put (Nat.le_refl _) _
          have gh4 : h4.get h3.len = some ⟨false, [.int .i64 0, .int .i64 0]⟩ := by rw [← hgg]; exact get_put_eq (by rw [len_alloc]; omega)
          clear hgg
          have Wh4 := W3.next kh4
          have wh4 := Wh4.row.wf
          try (simp (maxSteps := 10000000) (maxDischargeDepth := 30) only [gh4, e4, go_sem, Nat.reduceEqDiff, ↓reduceIte, Nat.reduceAdd, Nat.reduceMul, Nat.reduceLeDiff, Nat.reduceLT, reduceCtorEq, Int.reduceToNat, Int.reduceLE, Int.reduceLT, Int.reduceEq, Int.reduceNeg, Int.reduceNe, Int.reducePow, Nat.reducePow, Nat.reduceSub, IntKind.bits])
          refine ro_kcall (pSame0 h4 wh4 q) wh4 (fun h7 k7 w7 => ?_)
          have W7 := Wh4.next k7
          simp (maxSteps := 10000000) (maxDischargeDepth := 30) only [e3, e4, go_sem, Nat.reduceEqDiff, ↓reduceIte, Nat.reduceAdd, Nat.reduceMul, Nat.reduceLeDiff, Nat.reduceLT, reduceCtorEq, Int.reduceToNat, Int.reduceLE, Int.reduceLT, Int.reduceEq, Int.reduceNeg, Int.reduceNe, Int.reducePow, Nat.reducePow, Nat.reduceSub, IntKind.bits]
          refine ro_kcall (pPlLen W7) W7.row.wf (fun hz kz wz => ?_)
          have WZ := W7.next kz
          simp (maxSteps := 10000000) (maxDischargeDepth := 30) only [e0, e3, e4, e5, List.length_nil, Int.natCast_zero, List.map_nil, ew, go_sem, Nat.reduceEqDiff, ↓reduceIte, Nat.reduceAdd, Nat.reduceMul, Nat.reduceLeDiff, Nat.reduceLT, reduceCtorEq, Int.reduceToNat, Int.reduceLE, Int.reduceLT, Int.reduceEq, Int.reduceNeg, Int.reduceNe, Int.reducePow, Nat.reducePow, Nat.reduceSub, IntKind.bits]
          refine ⟨i + 1, by omega, ?_⟩
          unfold IPy
          simp (maxSteps := 10000000) (maxDischargeDepth := 30) only [e0, e3, e4, go_sem, Nat.reduceEqDiff, ↓reduceIte, Nat.reduceAdd, Nat.reduceMul, Nat.reduceLeDiff, Nat.reduceLT, reduceCtorEq, Int.reduceToNat, Int.reduceLE, Int.reduceLT, Int.reduceEq, Int.reduceNeg, Int.reduceNe, Int.reducePow, Nat.reducePow, Nat.reduceSub, IntKind.bits]
          exact ⟨by omega, q, [], [], rfl, ⟨⟨_, WZ⟩, pm, so⟩, Nat.zero_le _⟩
        | cons x l' =>
          have hz := zs_head pm so (W.heap trivial).2
          obtain ⟨z, hz0, hza, hzx⟩ := hz
          cases ro' with
          | none => obtain ⟨e, _⟩ := at_; cases e
          | some m =>
            simp (maxSteps := 10000000) (maxDischargeDepth := 30) only [e0, e3, e4, e5, List.length_map, c1, ia, PopR.e, ck, ck1, go_sem, Nat.reduceEqDiff, ↓reduceIte, Nat.reduceAdd, Nat.reduceMul, Nat.reduceLeDiff, Nat.reduceLT, reduceCtorEq, Int.reduceToNat, Int.reduceLE, Int.reduceLT, Int.reduceEq, Int.reduceNeg, Int.reduceNe, Int.reducePow, Nat.reducePow, Nat.reduceSub, IntKind.bits]
            refine ro_kcall (pPeek1 (x := x) W rfl) W.row.wf (fun h3 k3 w3 => ?_)
            have lo3 := w3.1
            have W3 := W.next k3
            simp (maxSteps := 10000000) (maxDischargeDepth := 30) only [e3, e4, lo3, PairR.e, go_sem, Nat.reduceEqDiff, ↓reduceIte, Nat.reduceAdd, Nat.reduceMul, Nat.reduceLeDiff, Nat.reduceLT, reduceCtorEq, Int.reduceToNat, Int.reduceLE, Int.reduceLT, Int.reduceEq, Int.reduceNeg, Int.reduceNe, Int.reducePow, Nat.reducePow, Nat.reduceSub, IntKind.bits]
            generalize hgg : H.put _ _ _ = h4
            have kh4 : Keep h3 h4 := by rw [← hgg]; exact ((Keep.refl h3).alloc _).put (Nat.le_refl _) _
            have gh4 : h4.get h3.len = some ⟨false, [.int .i64 x.a, .int .i64 x.b]⟩ := by rw [← hgg]; exact get_put_eq (by rw [len_alloc]; omega)
            clear hgg
            have Wh4 := W3.next kh4
            have wh4 := Wh4.row.wf
            try (simp (maxSteps := 10000000) (maxDischargeDepth := 30) only [gh4, e4, PairR.e, go_sem, Nat.reduceEqDiff, ↓reduceIte, Nat.reduceAdd, Nat.reduceMul, Nat.reduceLeDiff, Nat.reduceLT, reduceCtorEq, Int.reduceToNat, Int.reduceLE, Int.reduceLT, Int.reduceEq, Int.reduceNeg, Int.reduceNe, Int.reducePow, Nat.reducePow, Nat.reduceSub, IntKind.bits])
            refine ro_kcall (pSame1 h4 wh4 q zs x z hz0 hza hzx (by omega)) wh4 (fun h7 k7 w7 => ?_)
            have W7 := Wh4.next k7
            simp (maxSteps := 10000000) (maxDischargeDepth := 30) only [e3, e4, go_sem, Nat.reduceEqDiff, ↓reduceIte, Nat.reduceAdd, Nat.reduceMul, Nat.reduceLeDiff, Nat.reduceLT, reduceCtorEq, Int.reduceToNat, Int.reduceLE, Int.reduceLT, Int.reduceEq, Int.reduceNeg, Int.reduceNe, Int.reducePow, Nat.reducePow, Nat.reduceSub, IntKind.bits]
            generalize x :: l' = lx at *
            have hle := (pm).length_eq
            have hlq : ((lx.length : Int) = zs.length) = True := eq_true (by omega)
            refine ro_kcall (pPlLen W7) W7.row.wf (fun hz kz wz => ?_)
            have WZ := W7.next kz
            simp (maxSteps := 10000000) (maxDischargeDepth := 30) only [e0, e3, e4, e5, List.length_map, hlq, ew, go_sem, Nat.reduceEqDiff, ↓reduceIte, Nat.reduceAdd, Nat.reduceMul, Nat.reduceLeDiff, Nat.reduceLT, reduceCtorEq, Int.reduceToNat, Int.reduceLE, Int.reduceLT, Int.reduceEq, Int.reduceNeg, Int.reduceNe, Int.reducePow, Nat.reducePow, Nat.reduceSub, IntKind.bits]
            refine ⟨i + 1, by omega, ?_⟩
            unfold IPy
            simp (maxSteps := 10000000) (maxDischargeDepth := 30) only [e0, e3, e4, go_sem, Nat.reduceEqDiff, ↓reduceIte, Nat.reduceAdd, Nat.reduceMul, Nat.reduceLeDiff, Nat.reduceLT, reduceCtorEq, Int.reduceToNat, Int.reduceLE, Int.reduceLT, Int.reduceEq, Int.reduceNeg, Int.reduceNe, Int.reducePow, Nat.reducePow, Nat.reduceSub, IntKind.bits]
            exact ⟨by omega, q, zs, lx, rfl, ⟨⟨_, WZ⟩, pm, so⟩, by omega⟩
end Go.LM
