import Derived.Test.YtpmpdidgbbgeeaaLmTrbR3
import Derived.Test.YtpmpdidgbbgeeaaLmbDecode1
namespace Go.LM
open Go.Proofs
set_option maxRecDepth 8000
set_option maxHeartbeats 4000000
set_option linter.unusedSimpArgs false
def IDNumSp (o : Option (Nat × Nat)) (l : List Int) (h0 : H) (i : Nat) (s : S) (hh : H) : Prop :=
  s 6 = ints o l ∧ s 7 = .int .i64 l.length ∧ s 8 = .int .i64 i ∧ i ≤ l.length ∧ ∃ o2, s 3 = ints o2 (l.take i) ∧ AccN h0 o2 (l.take i).length hh
theorem cDNumSp (o : Option (Nat × Nat)) (l : List Int) (h : H) (w : WF h) (hl : l.length ≤ 1000000000000) :
    runI Try.prog TA 145 [ints o l] h = some (ints (tk Try.prog TA 145 [ints o l] h) l, hp Try.prog TA 145 [ints o l] h) := by
  refine pureS_of rfl res145 rfl ?_
  simp (maxSteps := 10000000) (maxDischargeDepth := 30) only [q145, r145, go_sem, Nat.reduceEqDiff, ↓reduceIte, Nat.reduceAdd, Nat.reduceMul, Nat.reduceLeDiff, Nat.reduceLT, reduceCtorEq, Int.reduceToNat, Int.reduceLE, Int.reduceLT, Int.reduceEq, Int.reduceNeg, Int.reduceNe, Nat.reduceSub, IntKind.bits]
  refine ru_loop (fun i => l.length - i) (IDNumSp o l h) 0 ?_ ?_
  · unfold IDNumSp
    simp (maxSteps := 10000000) (maxDischargeDepth := 30) only [Int.natCast_zero, go_sem, Nat.reduceEqDiff, ↓reduceIte, Nat.reduceAdd, Nat.reduceMul, Nat.reduceLeDiff, Nat.reduceLT, reduceCtorEq, Int.reduceToNat, Int.reduceLE, Int.reduceLT, Int.reduceEq, Int.reduceNeg, Int.reduceNe, Nat.reduceSub, IntKind.bits]
    exact ⟨none, rfl, .start (.refl _) w⟩
  · rintro i s hh ⟨e6, e7, e8, hi, o2, e3, A⟩
    by_cases c1 : (i : Int) < l.length
    rotate_left
    · obtain rfl : i = l.length := by omega
      rw [List.take_length] at e3
      have kA := A.keep
      simp (maxSteps := 10000000) (maxDischargeDepth := 30) only [e3, e6, e7, e8, c1, kA, go_sem, Nat.reduceEqDiff, ↓reduceIte, Nat.reduceAdd, Nat.reduceMul, Nat.reduceLeDiff, Nat.reduceLT, reduceCtorEq, Int.reduceToNat, Int.reduceLE, Int.reduceLT, Int.reduceEq, Int.reduceNeg, Int.reduceNe, Nat.reduceSub, IntKind.bits]
      exact ⟨o2, rfl⟩
    refine ru_step ?_
    obtain ⟨x, hx⟩ : ∃ x, l[i]? = some x := ⟨l[i], List.getElem?_eq_getElem (by omega)⟩
    have ia := int_at hx
    have ew : IntKind.i64.wrap ((i : Int) + 1) = ((i + 1 : Nat) : Int) := by rw [wrap64 (by omega) (by omega)]; omega
    have k1 := (Keep.refl hh).nrow 1
    obtain ⟨o3, h3, ap, A3, -⟩ := (A.next k1).appI (by_ := 8) [x] (by rw [List.length_take, List.length_singleton]; omega)
    rw [← take_succ hx] at ap A3
    have ap' : appS 1 8 (ints o2 (l.take i)) (hh.nrow 1) (some [.int .i64 x]) = some (ints o3 (l.take (i + 1)), h3) := ap
    simp (maxSteps := 10000000) (maxDischargeDepth := 30) only [e3, e6, e7, e8, c1, ia, ap', ew, go_sem, Nat.reduceEqDiff, ↓reduceIte, Nat.reduceAdd, Nat.reduceMul, Nat.reduceLeDiff, Nat.reduceLT, reduceCtorEq, Int.reduceToNat, Int.reduceLE, Int.reduceLT, Int.reduceEq, Int.reduceNeg, Int.reduceNe, Nat.reduceSub, IntKind.bits]
    refine ⟨i + 1, by omega, ?_⟩
    unfold IDNumSp
    simp (maxSteps := 10000000) (maxDischargeDepth := 30) only [e6, e7, e8, go_sem, Nat.reduceEqDiff, ↓reduceIte, Nat.reduceAdd, Nat.reduceMul, Nat.reduceLeDiff, Nat.reduceLT, reduceCtorEq, Int.reduceToNat, Int.reduceLE, Int.reduceLT, Int.reduceEq, Int.reduceNeg, Int.reduceNe, Nat.reduceSub, IntKind.bits]
    exact ⟨by omega, o3, rfl, A3⟩
def IDNumI (o : Option (Nat × Nat)) (l : List Int) (h0 : H) (i : Nat) (s : S) (hh : H) : Prop :=
  s 6 = ints o l ∧ s 7 = .int .i64 l.length ∧ s 8 = .int .i64 i ∧ i ≤ l.length ∧ ∃ o2, s 3 = ints o2 (l.take i) ∧ AccN h0 o2 (l.take i).length hh
theorem cDNumI (o : Option (Nat × Nat)) (l : List Int) (h : H) (w : WF h) (hl : l.length ≤ 1000000000000) :
    runI Try.prog TA 146 [ints o l] h = some (ints (tk Try.prog TA 146 [ints o l] h) l, hp Try.prog TA 146 [ints o l] h) := by
  refine pureS_of rfl res146 rfl ?_
  simp (maxSteps := 10000000) (maxDischargeDepth := 30) only [q146, r146, go_sem, Nat.reduceEqDiff, ↓reduceIte, Nat.reduceAdd, Nat.reduceMul, Nat.reduceLeDiff, Nat.reduceLT, reduceCtorEq, Int.reduceToNat, Int.reduceLE, Int.reduceLT, Int.reduceEq, Int.reduceNeg, Int.reduceNe, Nat.reduceSub, IntKind.bits]
  refine ru_loop (fun i => l.length - i) (IDNumI o l h) 0 ?_ ?_
  · unfold IDNumI
    simp (maxSteps := 10000000) (maxDischargeDepth := 30) only [Int.natCast_zero, go_sem, Nat.reduceEqDiff, ↓reduceIte, Nat.reduceAdd, Nat.reduceMul, Nat.reduceLeDiff, Nat.reduceLT, reduceCtorEq, Int.reduceToNat, Int.reduceLE, Int.reduceLT, Int.reduceEq, Int.reduceNeg, Int.reduceNe, Nat.reduceSub, IntKind.bits]
    exact ⟨none, rfl, .start (.refl _) w⟩
  · rintro i s hh ⟨e6, e7, e8, hi, o2, e3, A⟩
    by_cases c1 : (i : Int) < l.length
    rotate_left
    · obtain rfl : i = l.length := by omega
      rw [List.take_length] at e3
      have kA := A.keep
      simp (maxSteps := 10000000) (maxDischargeDepth := 30) only [e3, e6, e7, e8, c1, kA, go_sem, Nat.reduceEqDiff, ↓reduceIte, Nat.reduceAdd, Nat.reduceMul, Nat.reduceLeDiff, Nat.reduceLT, reduceCtorEq, Int.reduceToNat, Int.reduceLE, Int.reduceLT, Int.reduceEq, Int.reduceNeg, Int.reduceNe, Nat.reduceSub, IntKind.bits]
      exact ⟨o2, rfl⟩
    refine ru_step ?_
    obtain ⟨x, hx⟩ : ∃ x, l[i]? = some x := ⟨l[i], List.getElem?_eq_getElem (by omega)⟩
    have ia := int_at hx
    have ew : IntKind.i64.wrap ((i : Int) + 1) = ((i + 1 : Nat) : Int) := by rw [wrap64 (by omega) (by omega)]; omega
    have k1 := (Keep.refl hh).nrow 1
    obtain ⟨o3, h3, ap, A3, -⟩ := (A.next k1).appI (by_ := 8) [x] (by rw [List.length_take, List.length_singleton]; omega)
    rw [← take_succ hx] at ap A3
    have ap' : appS 1 8 (ints o2 (l.take i)) (hh.nrow 1) (some [.int .i64 x]) = some (ints o3 (l.take (i + 1)), h3) := ap
    simp (maxSteps := 10000000) (maxDischargeDepth := 30) only [e3, e6, e7, e8, c1, ia, ap', ew, go_sem, Nat.reduceEqDiff, ↓reduceIte, Nat.reduceAdd, Nat.reduceMul, Nat.reduceLeDiff, Nat.reduceLT, reduceCtorEq, Int.reduceToNat, Int.reduceLE, Int.reduceLT, Int.reduceEq, Int.reduceNeg, Int.reduceNe, Nat.reduceSub, IntKind.bits]
    refine ⟨i + 1, by omega, ?_⟩
    unfold IDNumI
    simp (maxSteps := 10000000) (maxDischargeDepth := 30) only [e6, e7, e8, go_sem, Nat.reduceEqDiff, ↓reduceIte, Nat.reduceAdd, Nat.reduceMul, Nat.reduceLeDiff, Nat.reduceLT, reduceCtorEq, Int.reduceToNat, Int.reduceLE, Int.reduceLT, Int.reduceEq, Int.reduceNeg, Int.reduceNe, Nat.reduceSub, IntKind.bits]
    exact ⟨by omega, o3, rfl, A3⟩
theorem cDeNote (h0 : H) (q d : Nat) (D : List LV) (r : RS) (h : H) (R : Rdr h0 q r h) (gd : h.get d = some ⟨false, .ptr q 0 :: D⟩) (dq : d ≠ q) (ok : r.ok) (hl : r.b.length ≤ 1000000000000) :
    ∃ v h', runI Try.prog TA 142 [.ptr d 0] h = some (v, h') ∧ (∃ x : NoteR, v = x.e ∧ x.plain = (noteRd r).1) ∧ Rdr h0 q (noteRd r).2 h' ∧ Otr q h h' := by
  refine calls_of rfl res142 rfl ?_
  have lt := R.lt
  have lo := R.wf.1
  have hk := R.keep.len
  have ld := lt_of_get gd
  have k1 := (Keep.refl h).alloc [.nils, .nils]
  have gd1 : (h.alloc [.nils, .nils]).get d = _ := (get_alloc_lt ld).trans gd
  have ga1 : (h.alloc [.nils, .nils]).get h.len = _ := get_alloc_eq _ _
  have ok2 := (each_one RS.int_one).ok r ok
  have hb2 := (each_one RS.int_one).b r
  simp (maxSteps := 10000000) (maxDischargeDepth := 30) only [q142, r142, gd1, go_sem, Nat.reduceEqDiff, ↓reduceIte, Nat.reduceAdd, Nat.reduceMul, Nat.reduceLeDiff, Nat.reduceLT, reduceCtorEq, Int.reduceToNat, Int.reduceLE, Int.reduceLT, Int.reduceEq, Int.reduceNeg, Int.reduceNe, Nat.reduceSub, IntKind.bits]
  refine ro_vcall (cRdInts h0 q r _ (R.next k1) ok hl) (fun v h2 J => ?_)
  obtain ⟨⟨o2, rfl⟩, R2, O2⟩ := J
  have gd2 := (O2.get (lt_of_get gd1) dq).trans gd1
  have ga2 := (O2.get (lt_of_get ga1) (show h.len ≠ q by omega)).trans ga1
  have l1 := each_len RS.int_one ok
  simp (maxSteps := 10000000) (maxDischargeDepth := 30) only [go_sem, Nat.reduceEqDiff, ↓reduceIte, Nat.reduceAdd, Nat.reduceMul, Nat.reduceLeDiff, Nat.reduceLT, reduceCtorEq, Int.reduceToNat, Int.reduceLE, Int.reduceLT, Int.reduceEq, Int.reduceNeg, Int.reduceNe, Nat.reduceSub, IntKind.bits]
  refine ro_kcall (cDNumSp o2 _ h2 R2.wf (by omega)) R2.wf (fun h3 k3 w3 => ?_)
  generalize tk Try.prog TA 145 [ints o2 (eachL RS.int r).1] h2 = o3
  have gd3 := (k3.get (lt_of_get gd2)).trans gd2
  have ga3 := (k3.get (lt_of_get ga2)).trans ga2
  simp (maxSteps := 10000000) (maxDischargeDepth := 30) only [gd3, go_sem, Nat.reduceEqDiff, ↓reduceIte, Nat.reduceAdd, Nat.reduceMul, Nat.reduceLeDiff, Nat.reduceLT, reduceCtorEq, Int.reduceToNat, Int.reduceLE, Int.reduceLT, Int.reduceEq, Int.reduceNeg, Int.reduceNe, Nat.reduceSub, IntKind.bits]
  refine ro_vcall (cRdInts h0 q _ h3 (R2.next k3) ok2 (by rw [hb2]; exact hl)) (fun v h4 J => ?_)
  obtain ⟨⟨o4, rfl⟩, R4, O4⟩ := J
  have ga4 := (O4.get (lt_of_get ga3) (show h.len ≠ q by omega)).trans ga3
  have l2 := each_len RS.int_one ok2
  rw [hb2] at l2
  simp (maxSteps := 10000000) (maxDischargeDepth := 30) only [go_sem, Nat.reduceEqDiff, ↓reduceIte, Nat.reduceAdd, Nat.reduceMul, Nat.reduceLeDiff, Nat.reduceLT, reduceCtorEq, Int.reduceToNat, Int.reduceLE, Int.reduceLT, Int.reduceEq, Int.reduceNeg, Int.reduceNe, Nat.reduceSub, IntKind.bits]
  refine ro_kcall (cDNumI o4 _ h4 R4.wf (by omega)) R4.wf (fun h5 k5 w5 => ?_)
  generalize tk Try.prog TA 146 [ints o4 (eachL RS.int (eachL RS.int r).2).1] h4 = o5
  have ga5 := (k5.get (lt_of_get ga4)).trans ga4
  have O5 := (((k1.otr q).trans O2).trans (k3.otr q)).trans (O4.trans (k5.otr q))
  have loba : h5.lob ≤ h.len := by rw [O5.lob]; exact lo
  have lta := lt_of_get ga5
  simp (maxSteps := 10000000) (maxDischargeDepth := 30) only [ga5, loba, lta, go_sem, Nat.reduceEqDiff, ↓reduceIte, Nat.reduceAdd, Nat.reduceMul, Nat.reduceLeDiff, Nat.reduceLT, reduceCtorEq, Int.reduceToNat, Int.reduceLE, Int.reduceLT, Int.reduceEq, Int.reduceNeg, Int.reduceNe, Nat.reduceSub, IntKind.bits]
  exact ⟨⟨⟨o3, (eachL RS.int r).1, o5, (eachL RS.int (eachL RS.int r).2).1⟩, rfl, rfl⟩, (R4.next k5).put2 (by omega) (by omega) _, O5.new (Nat.le_refl _) _⟩
theorem cDeFloat (h0 : H) (q d : Nat) (D : List LV) (r : RS) (h : H) (R : Rdr h0 q r h) (gd : h.get d = some ⟨false, .ptr q 0 :: D⟩) (dq : d ≠ q) (ok : r.ok) (hl : r.b.length ≤ 1000000000000) :
    ∃ v h', runI Try.prog TA 144 [.ptr d 0] h = some (v, h') ∧ v = (floatRd r).1.e ∧ Rdr h0 q (floatRd r).2 h' ∧ Otr q h h' := by
  refine calls_of rfl res144 rfl ?_
  have lt := R.lt
  have lo := R.wf.1
  have hk := R.keep.len
  have ld := lt_of_get gd
  simp (maxSteps := 10000000) (maxDischargeDepth := 30) only [q144, r144, go_sem, Nat.reduceEqDiff, ↓reduceIte, Nat.reduceAdd, Nat.reduceMul, Nat.reduceLeDiff, Nat.reduceLT, reduceCtorEq, Int.reduceToNat, Int.reduceLE, Int.reduceLT, Int.reduceEq, Int.reduceNeg, Int.reduceNe, Nat.reduceSub, IntKind.bits]
  refine ro_wcall (cDeNum h0 q d D r _ (R.next ((Keep.refl h).alloc _)) (by rw [get_alloc_lt ld]; exact gd) ok hl) (fun h2 J => ?_)
  obtain ⟨R2, O2⟩ := J
  have o1 := (RS.int_ok ok).1
  have l2 := O2.len
  rw [len_alloc] at l2
  have lo2 := R2.wf.1
  have lq2 := R2.lt
  have gd2 := (O2.get (by rw [len_alloc]; omega) dq).trans ((get_alloc_lt ld).trans gd)
  have ga2 := (O2.get (by rw [len_alloc]; omega) (show h.len ≠ q by omega)).trans (get_alloc_eq _ _)
  have ld2 := lt_of_get gd2
  simp (maxSteps := 10000000) (maxDischargeDepth := 30) only [lo2, go_sem, Nat.reduceEqDiff, ↓reduceIte, Nat.reduceAdd, Nat.reduceMul, Nat.reduceLeDiff, Nat.reduceLT, reduceCtorEq, Int.reduceToNat, Int.reduceLE, Int.reduceLT, Int.reduceEq, Int.reduceNeg, Int.reduceNe, Nat.reduceSub, IntKind.bits]
  generalize hgg : (h2.alloc _).put _ _ = g
  have kg : Keep h2 g := by rw [← hgg]; exact ((Keep.refl h2).alloc _).put (Nat.le_refl _) _
  have gcg : g.get h2.len = some ⟨false, [.int .i64 r.int.1, .int .i64 0, .int .i64 0]⟩ := by rw [← hgg]; simp (maxSteps := 10000000) (maxDischargeDepth := 30) only [go_sem, Nat.reduceEqDiff, ↓reduceIte, Nat.reduceAdd, Nat.reduceMul, Nat.reduceLeDiff, Nat.reduceLT, reduceCtorEq, Int.reduceToNat, Int.reduceLE, Int.reduceLT, Int.reduceEq, Int.reduceNeg, Int.reduceNe, Nat.reduceSub, IntKind.bits]
  clear hgg
  have W : W3 h0 h q d h.len h2.len (.ptr q 0 :: D) [.int .i64 0, .int .i64 0, .int .i64 0] [.int .i64 r.int.1, .int .i64 0, .int .i64 0] r.int.2 g :=
    ⟨R2.next kg, ((((Keep.refl h).alloc _).otr q).trans O2).trans (kg.otr q), (kg.get ld2).trans gd2, (kg.get (by omega)).trans ga2, gcg, dq, by omega, by omega, by omega, by omega, by omega, by omega, lo, Nat.le_refl _⟩
  clear gcg
  try (simp (maxSteps := 10000000) (maxDischargeDepth := 30) only [go_sem, Nat.reduceEqDiff, ↓reduceIte, Nat.reduceAdd, Nat.reduceMul, Nat.reduceLeDiff, Nat.reduceLT, reduceCtorEq, Int.reduceToNat, Int.reduceLE, Int.reduceLT, Int.reduceEq, Int.reduceNeg, Int.reduceNe, Nat.reduceSub, IntKind.bits])
  refine ro_wcall (cDeSp h0 q d D r.int.2 g W.rdr W.gd o1 (by first | exact hl | (simp only [RS.int_b]; exact hl))) (fun h3 J => ?_)
  replace W := W.call J.1 J.2
  have o2 := (RS.int_ok o1).1
  have gc := W.gc
  have lobc := W.lobc
  have ltc := W.ltc
  replace W := W.put [.int .i64 r.int.1, .int .i64 r.int.2.int.1, .int .i64 0]
  simp (maxSteps := 10000000) (maxDischargeDepth := 30) only [gc, lobc, ltc, go_sem, Nat.reduceEqDiff, ↓reduceIte, Nat.reduceAdd, Nat.reduceMul, Nat.reduceLeDiff, Nat.reduceLT, reduceCtorEq, Int.reduceToNat, Int.reduceLE, Int.reduceLT, Int.reduceEq, Int.reduceNeg, Int.reduceNe, Nat.reduceSub, IntKind.bits]
  generalize h3.put h2.len ⟨false, [.int .i64 r.int.1, .int .i64 r.int.2.int.1, .int .i64 0]⟩ = f4 at *
  clear gc lobc ltc
  try (simp (maxSteps := 10000000) (maxDischargeDepth := 30) only [go_sem, Nat.reduceEqDiff, ↓reduceIte, Nat.reduceAdd, Nat.reduceMul, Nat.reduceLeDiff, Nat.reduceLT, reduceCtorEq, Int.reduceToNat, Int.reduceLE, Int.reduceLT, Int.reduceEq, Int.reduceNeg, Int.reduceNe, Nat.reduceSub, IntKind.bits])
  refine ro_wcall (cDeNum h0 q d D r.int.2.int.2 f4 W.rdr W.gd o2 (by first | exact hl | (simp only [RS.int_b]; exact hl))) (fun h5 J => ?_)
  replace W := W.call J.1 J.2
  have o3 := (RS.int_ok o2).1
  have gc := W.gc
  have lobc := W.lobc
  have ltc := W.ltc
  replace W := W.put [.int .i64 r.int.1, .int .i64 r.int.2.int.1, .int .i64 r.int.2.int.2.int.1]
  simp (maxSteps := 10000000) (maxDischargeDepth := 30) only [gc, lobc, ltc, go_sem, Nat.reduceEqDiff, ↓reduceIte, Nat.reduceAdd, Nat.reduceMul, Nat.reduceLeDiff, Nat.reduceLT, reduceCtorEq, Int.reduceToNat, Int.reduceLE, Int.reduceLT, Int.reduceEq, Int.reduceNeg, Int.reduceNe, Nat.reduceSub, IntKind.bits]
  generalize h5.put h2.len ⟨false, [.int .i64 r.int.1, .int .i64 r.int.2.int.1, .int .i64 r.int.2.int.2.int.1]⟩ = f6 at *
  clear gc lobc ltc
  have gc := W.gc
  have ga := W.ga
  have loba := W.loba
  have lta := W.lta
  simp (maxSteps := 10000000) (maxDischargeDepth := 30) only [gc, ga, loba, lta, go_sem, Nat.reduceEqDiff, ↓reduceIte, Nat.reduceAdd, Nat.reduceMul, Nat.reduceLeDiff, Nat.reduceLT, reduceCtorEq, Int.reduceToNat, Int.reduceLE, Int.reduceLT, Int.reduceEq, Int.reduceNeg, Int.reduceNe, Nat.reduceSub, IntKind.bits]
  exact ⟨rfl, (W.fin (by omega) _).1, (W.fin (by omega) _).2⟩
end Go.LM
