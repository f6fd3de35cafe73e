import Derived.Test.YtpmpdidgbbgeeaaLmTrbR3
import Derived.Test.YtpmpdidgbbgeeaaLmbDecode6
import Derived.Test.YtpmpdidgbbgeeaaLmbCodec6
namespace Go.LM
open Go.Proofs
set_option maxRecDepth 8000
set_option maxHeartbeats 8000000
set_option linter.unusedSimpArgs false
def IRN1 (h0 h : H) (q : Nat) (r : RS) (oa ob : Option (Nat × Nat)) (A B : List Int) (i : Nat) (s : S) (hh : H) : Prop :=
  s 2 = .ptr h.len 0 ∧ s 3 = .ptr (h.len + 1) 0 ∧ s 4 = ints oa A ∧ s 5 = ints ob B ∧ s 6 = .int .i64 i ∧ i ≤ A.length ∧ hh.get h.len = some ⟨false, [.nils, .nils]⟩ ∧ ∃ o, hh.get (h.len + 1) = some ⟨false, [ints o (A.take i), .nils]⟩ ∧ Gth h0 h q r o i hh
def IRN2 (h0 h : H) (q : Nat) (r : RS) (o : Option (Nat × Nat)) (ob : Option (Nat × Nat)) (A B : List Int) (i : Nat) (s : S) (hh : H) : Prop :=
  s 2 = .ptr h.len 0 ∧ s 3 = .ptr (h.len + 1) 0 ∧ s 5 = ints ob B ∧ s 7 = .int .i64 i ∧ i ≤ B.length ∧ hh.get h.len = some ⟨false, [.nils, .nils]⟩ ∧ ∃ o2, hh.get (h.len + 1) = some ⟨false, [ints o A, ints o2 (B.take i)]⟩ ∧ Gth h0 h q r o2 i hh
theorem Gth.appI {h0 h hh : H} {p : Nat} {r : RS} {o : Option (Nat × Nat)} {l : List Int} {i : Nat} {x : Int} (g : Gth h0 h p r o i hh) (hh0 : h0.rlen ≤ h.rlen) (hx : l[i]? = some x) (hb : i ≤ 1000000000000) :
    ∃ o' h', appS 1 8 (ints o (l.take i)) hh (some [.int .i64 x]) = some (ints o' (l.take (i + 1)), h') ∧ Gth h0 h p r o' (i + 1) h' ∧ (∀ c, h'.get c = hh.get c) ∧ h'.len = hh.len ∧ h'.lob = hh.lob := by
  have hlt : i < l.length := (List.getElem?_eq_some_iff.1 hx).1
  have e1 : ((l.take i).map (LV.int .i64)).length = i := by rw [List.length_map, List.length_take]; omega
  obtain ⟨o', h', ap, G', a, b, c, d⟩ := Gth.app (sz := 1) (by_ := 8) (xs := (l.take i).map (LV.int .i64)) (g := by rw [e1]; exact g) hh0 [.int .i64 x] (by rw [e1, List.length_singleton]; omega)
  have e2 : (l.take i).map (LV.int .i64) ++ [.int .i64 x] = (l.take (i + 1)).map (LV.int .i64) := by rw [take_succ hx, List.map_append]; rfl
  rw [e2] at ap G'
  rw [List.length_map, List.length_take, show min (i + 1) l.length = i + 1 by omega] at G'
  exact ⟨o', h', ap, G', a, b, c⟩
theorem cRNote17 (h0 : H) (q d : Nat) (D : List LV) (r : RS) (h : H) (R : Rdr h0 q r h) (gd : h.get d = some ⟨false, .ptr q 0 :: D⟩) (dq : d ≠ q) (ok : r.ok) (hl : r.b.length ≤ 1000000000000) :
    ∃ v h', runI Try.prog TA 123 [.ptr d 0] h = some (v, h') ∧ (∃ x : NoteR, v = x.e ∧ x.plain = (noteRd r).1) ∧ Rdr h0 q (noteRd r).2 h' ∧ Otr q h h' := by
  refine calls_of rfl res123 rfl ?_
  have lt := R.lt
  have lo := R.wf.1
  have hk := R.keep.len
  have ld := lt_of_get gd
  have hh0 : h0.rlen ≤ h.rlen := R.keep.rlen
  have ok2 := (each_one RS.int_one).ok r ok
  have hb2 := (each_one RS.int_one).b r
  simp (maxSteps := 10000000) (maxDischargeDepth := 30) only [q123, r123, gd, ld, go_sem, Nat.reduceEqDiff, ↓reduceIte, Nat.reduceAdd, Nat.reduceMul, Nat.reduceLeDiff, Nat.reduceLT, reduceCtorEq, Int.reduceToNat, Int.reduceLE, Int.reduceLT, Int.reduceEq, Int.reduceNeg, Int.reduceNe, Nat.reduceSub, IntKind.bits]
  generalize hgg : (h.alloc _).alloc _ = g
  have kg : Keep h g := by rw [← hgg]; exact ((Keep.refl h).alloc _).alloc _
  have ga : g.get h.len = some ⟨false, [.nils, .nils]⟩ := by rw [← hgg]; simp (maxSteps := 10000000) (maxDischargeDepth := 30) only [go_sem, Nat.reduceEqDiff, ↓reduceIte, Nat.reduceAdd, Nat.reduceMul, Nat.reduceLeDiff, Nat.reduceLT, reduceCtorEq, Int.reduceToNat, Int.reduceLE, Int.reduceLT, Int.reduceEq, Int.reduceNeg, Int.reduceNe, Nat.reduceSub, IntKind.bits]
  have gc : g.get (h.len + 1) = some ⟨false, [.nils, .nils]⟩ := by rw [← hgg]; simp (maxSteps := 10000000) (maxDischargeDepth := 30) only [go_sem, Nat.reduceEqDiff, ↓reduceIte, Nat.reduceAdd, Nat.reduceMul, Nat.reduceLeDiff, Nat.reduceLT, reduceCtorEq, Int.reduceToNat, Int.reduceLE, Int.reduceLT, Int.reduceEq, Int.reduceNeg, Int.reduceNe, Nat.reduceSub, IntKind.bits]
  clear hgg
  have gdg := (kg.get ld).trans gd
  try (simp (maxSteps := 10000000) (maxDischargeDepth := 30) only [gdg, go_sem, Nat.reduceEqDiff, ↓reduceIte, Nat.reduceAdd, Nat.reduceMul, Nat.reduceLeDiff, Nat.reduceLT, reduceCtorEq, Int.reduceToNat, Int.reduceLE, Int.reduceLT, Int.reduceEq, Int.reduceNeg, Int.reduceNe, Nat.reduceSub, IntKind.bits])
  first
  | refine rw_vcall (cXInts h0 q r g (R.next kg) ok hl) (fun v h2 J => ?_)
  | refine rw_vcallW (cXInts h0 q r g (R.next kg) ok hl) (fun v hx J => by have := J.2.2.get (lt_of_get gdg) dq; simp (maxSteps := 10000000) (maxDischargeDepth := 30) only [this, gdg, go_sem, Nat.reduceEqDiff, ↓reduceIte, Nat.reduceAdd, Nat.reduceMul, Nat.reduceLeDiff, Nat.reduceLT, reduceCtorEq, Int.reduceToNat, Int.reduceLE, Int.reduceLT, Int.reduceEq, Int.reduceNeg, Int.reduceNe, Nat.reduceSub, IntKind.bits]) (fun v h2 J => ?_)
  obtain ⟨⟨o2, rfl⟩, R2, O2⟩ := J
  have gd2 := (O2.get (lt_of_get gdg) dq).trans gdg
  have ga2 := (O2.get (lt_of_get ga) (show h.len ≠ q by omega)).trans ga
  have gc2 := (O2.get (lt_of_get gc) (show h.len + 1 ≠ q by omega)).trans gc
  have l1 := each_len RS.int_one ok
  simp (maxSteps := 10000000) (maxDischargeDepth := 30) only [gd2, go_sem, Nat.reduceEqDiff, ↓reduceIte, Nat.reduceAdd, Nat.reduceMul, Nat.reduceLeDiff, Nat.reduceLT, reduceCtorEq, Int.reduceToNat, Int.reduceLE, Int.reduceLT, Int.reduceEq, Int.reduceNeg, Int.reduceNe, Nat.reduceSub, IntKind.bits]
  first
  | refine rw_vcall (cXInts h0 q _ h2 R2 ok2 (by rw [hb2]; exact hl)) (fun v h4 J => ?_)
  | refine rw_vcallW (cXInts h0 q _ h2 R2 ok2 (by rw [hb2]; exact hl)) (fun v hx J => by have := J.2.2.get (lt_of_get gd2) dq; simp (maxSteps := 10000000) (maxDischargeDepth := 30) only [this, gd2, go_sem, Nat.reduceEqDiff, ↓reduceIte, Nat.reduceAdd, Nat.reduceMul, Nat.reduceLeDiff, Nat.reduceLT, reduceCtorEq, Int.reduceToNat, Int.reduceLE, Int.reduceLT, Int.reduceEq, Int.reduceNeg, Int.reduceNe, Nat.reduceSub, IntKind.bits]) (fun v h4 J => ?_)
  obtain ⟨⟨o4, rfl⟩, R4, O4⟩ := J
  have ga4 := (O4.get (lt_of_get ga2) (show h.len ≠ q by omega)).trans ga2
  have gc4 := (O4.get (lt_of_get gc2) (show h.len + 1 ≠ q by omega)).trans gc2
  have l2 := each_len RS.int_one ok2
  rw [hb2] at l2
  have O5 := ((kg.otr q).trans O2).trans O4
  simp (maxSteps := 10000000) (maxDischargeDepth := 30) only [go_sem, Nat.reduceEqDiff, ↓reduceIte, Nat.reduceAdd, Nat.reduceMul, Nat.reduceLeDiff, Nat.reduceLT, reduceCtorEq, Int.reduceToNat, Int.reduceLE, Int.reduceLT, Int.reduceEq, Int.reduceNeg, Int.reduceNe, Nat.reduceSub, IntKind.bits]
  have hA : ∃ A, A = (eachL RS.int r).1 := ⟨_, rfl⟩
  obtain ⟨A, hA⟩ := hA
  have hB : ∃ B, B = (eachL RS.int (eachL RS.int r).2).1 := ⟨_, rfl⟩
  obtain ⟨B, hB⟩ := hB
  have hR : (noteRd r).2 = (eachL RS.int (eachL RS.int r).2).2 := rfl
  have hN : (noteRd r).1 = (A, B) := by rw [hA, hB]; rfl
  rw [hR, hN]
  rw [← hA, ← hB]
  rw [← hA] at l1
  rw [← hB] at l2
  refine ru_loop (fun i => A.length - i) (IRN1 h0 h q (eachL RS.int (eachL RS.int r).2).2 o2 o4 A B) 0 ?_ ?_
  · unfold IRN1
    simp (maxSteps := 10000000) (maxDischargeDepth := 30) only [Int.natCast_zero, go_sem, Nat.reduceEqDiff, ↓reduceIte, Nat.reduceAdd, Nat.reduceMul, Nat.reduceLeDiff, Nat.reduceLT, reduceCtorEq, Int.reduceToNat, Int.reduceLE, Int.reduceLT, Int.reduceEq, Int.reduceNeg, Int.reduceNe, Nat.reduceSub, IntKind.bits]
    exact ⟨ga4, none, gc4, .start R4 O5⟩
  · rintro i s hh ⟨e2, e3, e4, e5, e6, hi, ga, o, gc, G⟩
    have lobc : hh.lob ≤ h.len + 1 := by rw [G.otr.lob]; omega
    by_cases c1 : (i : Int) < A.length
    · refine ru_step ?_
      obtain ⟨x, hx⟩ : ∃ x, A[i]? = some x := ⟨A[i], List.getElem?_eq_getElem (by omega)⟩
      have ia := int_at hx
      have ew : IntKind.i64.wrap ((i : Int) + 1) = ((i + 1 : Nat) : Int) := by rw [wrap64 (by omega) (by omega)]; omega
      have k1 := (Keep.refl hh).nrow 1
      obtain ⟨o3, h3, ap, G3, gg, -, lb⟩ := (G.next k1).appI hh0 hx (by omega)
      have gc3 : h3.get (h.len + 1) = some ⟨false, [ints o (A.take i), .nils]⟩ := by rw [gg, get_nrow]; exact gc
      have ga3 : h3.get h.len = some ⟨false, [.nils, .nils]⟩ := by rw [gg, get_nrow]; exact ga
      have lob3 : h3.lob ≤ h.len + 1 := by rw [lb, lob_nrow]; exact lobc
      have lt3 := lt_of_get gc3
      have ga3' : (h3.put (h.len + 1) ⟨false, [ints o3 (A.take (i + 1)), .nils]⟩).get h.len = _ := (get_put_ne (by omega)).trans ga3
      simp (maxSteps := 10000000) (maxDischargeDepth := 30) only [e2, e3, e4, e5, e6, List.length_map, c1, gc, ia, ap, gc3, lob3, lt3, ew, go_sem, Nat.reduceEqDiff, ↓reduceIte, Nat.reduceAdd, Nat.reduceMul, Nat.reduceLeDiff, Nat.reduceLT, reduceCtorEq, Int.reduceToNat, Int.reduceLE, Int.reduceLT, Int.reduceEq, Int.reduceNeg, Int.reduceNe, Nat.reduceSub, IntKind.bits]
      refine ⟨i + 1, by omega, ?_⟩
      unfold IRN1
      simp (maxSteps := 10000000) (maxDischargeDepth := 30) only [e2, e3, e4, e5, ga3', go_sem, Nat.reduceEqDiff, ↓reduceIte, Nat.reduceAdd, Nat.reduceMul, Nat.reduceLeDiff, Nat.reduceLT, reduceCtorEq, Int.reduceToNat, Int.reduceLE, Int.reduceLT, Int.reduceEq, Int.reduceNeg, Int.reduceNe, Nat.reduceSub, IntKind.bits]
      exact ⟨by omega, o3, get_put_eq lt3, G3.put2 (by omega) (by omega) (by omega) _⟩
    · obtain rfl : i = A.length := by omega
      rw [List.take_length] at gc
      simp (maxSteps := 10000000) (maxDischargeDepth := 30) only [e2, e3, e4, e5, e6, List.length_map, c1, go_sem, Nat.reduceEqDiff, ↓reduceIte, Nat.reduceAdd, Nat.reduceMul, Nat.reduceLeDiff, Nat.reduceLT, reduceCtorEq, Int.reduceToNat, Int.reduceLE, Int.reduceLT, Int.reduceEq, Int.reduceNeg, Int.reduceNe, Nat.reduceSub, IntKind.bits]
      refine ru_loop (fun i => B.length - i) (IRN2 h0 h q (eachL RS.int (eachL RS.int r).2).2 o o4 A B) 0 ?_ ?_
      · unfold IRN2
        simp (maxSteps := 10000000) (maxDischargeDepth := 30) only [Int.natCast_zero, e2, e3, e5, go_sem, Nat.reduceEqDiff, ↓reduceIte, Nat.reduceAdd, Nat.reduceMul, Nat.reduceLeDiff, Nat.reduceLT, reduceCtorEq, Int.reduceToNat, Int.reduceLE, Int.reduceLT, Int.reduceEq, Int.reduceNeg, Int.reduceNe, Nat.reduceSub, IntKind.bits]
        exact ⟨ga, none, gc, .start G.rdr G.otr⟩
      · clear e2 e3 e4 e5 e6 G lobc ga gc
        rintro i s hh ⟨e2, e3, e5, e7, hi, ga, o5, gc, G⟩
        have lobc : hh.lob ≤ h.len + 1 := by rw [G.otr.lob]; omega
        have loba : hh.lob ≤ h.len := by rw [G.otr.lob]; omega
        by_cases c1 : (i : Int) < B.length
        · refine ru_step ?_
          obtain ⟨x, hx⟩ : ∃ x, B[i]? = some x := ⟨B[i], List.getElem?_eq_getElem (by omega)⟩
          have ia := int_at hx
          have ew : IntKind.i64.wrap ((i : Int) + 1) = ((i + 1 : Nat) : Int) := by rw [wrap64 (by omega) (by omega)]; omega
          have k1 := (Keep.refl hh).nrow 1
          obtain ⟨o3, h3, ap, G3, gg, -, lb⟩ := (G.next k1).appI hh0 hx (by omega)
          have gc3 : h3.get (h.len + 1) = some ⟨false, [ints o A, ints o5 (B.take i)]⟩ := by rw [gg, get_nrow]; exact gc
          have ga3 : h3.get h.len = some ⟨false, [.nils, .nils]⟩ := by rw [gg, get_nrow]; exact ga
          have lob3 : h3.lob ≤ h.len + 1 := by rw [lb, lob_nrow]; exact lobc
          have lt3 := lt_of_get gc3
          have ga3' : (h3.put (h.len + 1) ⟨false, [ints o A, ints o3 (B.take (i + 1))]⟩).get h.len = _ := (get_put_ne (by omega)).trans ga3
          simp (maxSteps := 10000000) (maxDischargeDepth := 30) only [e2, e3, e5, e7, List.length_map, c1, gc, ia, ap, gc3, lob3, lt3, ew, go_sem, Nat.reduceEqDiff, ↓reduceIte, Nat.reduceAdd, Nat.reduceMul, Nat.reduceLeDiff, Nat.reduceLT, reduceCtorEq, Int.reduceToNat, Int.reduceLE, Int.reduceLT, Int.reduceEq, Int.reduceNeg, Int.reduceNe, Nat.reduceSub, IntKind.bits]
          refine ⟨i + 1, by omega, ?_⟩
          unfold IRN2
          simp (maxSteps := 10000000) (maxDischargeDepth := 30) only [e2, e3, e5, ga3', go_sem, Nat.reduceEqDiff, ↓reduceIte, Nat.reduceAdd, Nat.reduceMul, Nat.reduceLeDiff, Nat.reduceLT, reduceCtorEq, Int.reduceToNat, Int.reduceLE, Int.reduceLT, Int.reduceEq, Int.reduceNeg, Int.reduceNe, Nat.reduceSub, IntKind.bits]
          exact ⟨by omega, o3, get_put_eq lt3, G3.put2 (by omega) (by omega) (by omega) _⟩
        · obtain rfl : i = B.length := by omega
          rw [List.take_length] at gc
          have lta := lt_of_get ga
          simp (maxSteps := 10000000) (maxDischargeDepth := 30) only [e2, e3, e5, e7, List.length_map, c1, gc, ga, loba, lta, go_sem, Nat.reduceEqDiff, ↓reduceIte, Nat.reduceAdd, Nat.reduceMul, Nat.reduceLeDiff, Nat.reduceLT, reduceCtorEq, Int.reduceToNat, Int.reduceLE, Int.reduceLT, Int.reduceEq, Int.reduceNeg, Int.reduceNe, Nat.reduceSub, IntKind.bits]
          exact ⟨⟨⟨o, A, o5, B⟩, rfl, rfl⟩, G.rdr.put2 (by omega) (by omega) _, G.otr.new (Nat.le_refl _) _⟩
theorem cRFlag17 (h0 : H) (q d : Nat) (D : List LV) (r : RS) (h : H) (R : Rdr h0 q r h) (gd : h.get d = some ⟨false, .ptr q 0 :: D⟩) (ok : r.ok) (hl : r.b.length ≤ 1000000000000) :
    ∃ h', runI Try.prog TA 136 [.ptr d 0] h = some (.bool r.bool.1, h') ∧ Rdr h0 q r.bool.2 h' ∧ Otr q h h' := by
  refine calls_ex rfl res136 rfl ?_
  simp (maxSteps := 10000000) (maxDischargeDepth := 30) only [q136, r136, gd, go_sem, Nat.reduceEqDiff, ↓reduceIte, Nat.reduceAdd, Nat.reduceMul, Nat.reduceLeDiff, Nat.reduceLT, reduceCtorEq, Int.reduceToNat, Int.reduceLE, Int.reduceLT, Int.reduceEq, Int.reduceNeg, Int.reduceNe, Nat.reduceSub, IntKind.bits]
  refine ro_vcall (cRRead2 h0 q r ⟨2, ⟨#[]⟩, 0, false, none, []⟩ h R ok hl rfl) (fun v h1 J => ?_)
  obtain ⟨⟨o, rfl⟩, R1, O1⟩ := J
  have ia : iaS [.int .i64 (boolN r.bool.1)] 0 = some (.cptr (.int .i64 (boolN r.bool.1))) := rfl
  have eb : decide (boolN r.bool.1 = 1) = r.bool.1 := by cases r.bool.1 <;> rfl
  simp (maxSteps := 10000000) (maxDischargeDepth := 30) only [ia, eb, go_sem, Nat.reduceEqDiff, ↓reduceIte, Nat.reduceAdd, Nat.reduceMul, Nat.reduceLeDiff, Nat.reduceLT, reduceCtorEq, Int.reduceToNat, Int.reduceLE, Int.reduceLT, Int.reduceEq, Int.reduceNeg, Int.reduceNe, Nat.reduceSub, IntKind.bits]
  exact ⟨R1, O1⟩
theorem cRGeom17 (h0 : H) (q d : Nat) (D : List LV) (r : RS) (h : H) (R : Rdr h0 q r h) (gd : h.get d = some ⟨false, .ptr q 0 :: D⟩) (dq : d ≠ q) (o0 : r.ok) (hl : r.b.length ≤ 1000000000000) :
    ∃ v h', runI Try.prog TA 121 [.ptr d 0] h = some (v, h') ∧ v = (geomRd r).1.e ∧ Rdr h0 q (geomRd r).2 h' ∧ Otr q h h' := by
  refine calls_of rfl res121 rfl ?_
  have lt := R.lt
  have lo := R.wf.1
  have hk := R.keep.len
  have ld := lt_of_get gd
  simp (maxSteps := 10000000) (maxDischargeDepth := 30) only [q121, r121, go_sem, Nat.reduceEqDiff, ↓reduceIte, Nat.reduceAdd, Nat.reduceMul, Nat.reduceLeDiff, Nat.reduceLT, reduceCtorEq, Int.reduceToNat, Int.reduceLE, Int.reduceLT, Int.reduceEq, Int.reduceNeg, Int.reduceNe, Nat.reduceSub, IntKind.bits]
  generalize hgg : (h.alloc _).alloc _ = g
  have kg : Keep h g := by rw [← hgg]; exact ((Keep.refl h).alloc _).alloc _
  have gag : g.get h.len = some ⟨false, [.int .i64 0, .int .i64 0, .int .i64 0, .int .i64 0, .int .i64 0, .int .i64 0, .int .i64 0, .int .i64 0, .int .i64 0, .int .i64 0, .int .i64 0, .int .i64 0, .int .i64 0, .int .i64 0, .int .i64 0, .int .i64 0, .int .i64 0, .int .i64 0, .bool false]⟩ := by rw [← hgg]; simp (maxSteps := 10000000) (maxDischargeDepth := 30) only [go_sem, Nat.reduceEqDiff, ↓reduceIte, Nat.reduceAdd, Nat.reduceMul, Nat.reduceLeDiff, Nat.reduceLT, reduceCtorEq, Int.reduceToNat, Int.reduceLE, Int.reduceLT, Int.reduceEq, Int.reduceNeg, Int.reduceNe, Nat.reduceSub, IntKind.bits]
  have gcg : g.get (h.len + 1) = some ⟨false, [.int .i64 0, .int .i64 0, .int .i64 0, .int .i64 0, .int .i64 0, .int .i64 0, .int .i64 0, .int .i64 0, .int .i64 0, .int .i64 0, .int .i64 0, .int .i64 0, .int .i64 0, .int .i64 0, .int .i64 0, .int .i64 0, .int .i64 0, .int .i64 0, .bool false]⟩ := by rw [← hgg]; simp (maxSteps := 10000000) (maxDischargeDepth := 30) only [go_sem, Nat.reduceEqDiff, ↓reduceIte, Nat.reduceAdd, Nat.reduceMul, Nat.reduceLeDiff, Nat.reduceLT, reduceCtorEq, Int.reduceToNat, Int.reduceLE, Int.reduceLT, Int.reduceEq, Int.reduceNeg, Int.reduceNe, Nat.reduceSub, IntKind.bits]
  clear hgg
  have W : W3 h0 h q d h.len (h.len + 1) (.ptr q 0 :: D) [.int .i64 0, .int .i64 0, .int .i64 0, .int .i64 0, .int .i64 0, .int .i64 0, .int .i64 0, .int .i64 0, .int .i64 0, .int .i64 0, .int .i64 0, .int .i64 0, .int .i64 0, .int .i64 0, .int .i64 0, .int .i64 0, .int .i64 0, .int .i64 0, .bool false] [.int .i64 0, .int .i64 0, .int .i64 0, .int .i64 0, .int .i64 0, .int .i64 0, .int .i64 0, .int .i64 0, .int .i64 0, .int .i64 0, .int .i64 0, .int .i64 0, .int .i64 0, .int .i64 0, .int .i64 0, .int .i64 0, .int .i64 0, .int .i64 0, .bool false] r g :=
    ⟨R.next kg, kg.otr q, (kg.get ld).trans gd, gag, gcg, dq, by omega, by omega, by omega, by omega, by omega, by omega, lo, Nat.le_refl _⟩
  clear gag gcg
  try (simp (maxSteps := 10000000) (maxDischargeDepth := 30) only [go_sem, Nat.reduceEqDiff, ↓reduceIte, Nat.reduceAdd, Nat.reduceMul, Nat.reduceLeDiff, Nat.reduceLT, reduceCtorEq, Int.reduceToNat, Int.reduceLE, Int.reduceLT, Int.reduceEq, Int.reduceNeg, Int.reduceNe, Nat.reduceSub, IntKind.bits])
  refine ro_wcall (cRNum17 h0 q d D r g W.rdr W.gd o0 (by first | exact hl | (simp only [RS.int_b]; exact hl))) (fun h3 J => ?_)
  replace W := W.call J.1 J.2
  have o1 := (RS.int_ok o0).1
  have gc := W.gc
  have lobc := W.lobc
  have ltc := W.ltc
  replace W := W.put [.int .i64 r.int.1, .int .i64 0, .int .i64 0, .int .i64 0, .int .i64 0, .int .i64 0, .int .i64 0, .int .i64 0, .int .i64 0, .int .i64 0, .int .i64 0, .int .i64 0, .int .i64 0, .int .i64 0, .int .i64 0, .int .i64 0, .int .i64 0, .int .i64 0, .bool false]
  simp (maxSteps := 10000000) (maxDischargeDepth := 30) only [gc, lobc, ltc, go_sem, Nat.reduceEqDiff, ↓reduceIte, Nat.reduceAdd, Nat.reduceMul, Nat.reduceLeDiff, Nat.reduceLT, reduceCtorEq, Int.reduceToNat, Int.reduceLE, Int.reduceLT, Int.reduceEq, Int.reduceNeg, Int.reduceNe, Nat.reduceSub, IntKind.bits]
  generalize h3.put (h.len + 1) ⟨false, [.int .i64 r.int.1, .int .i64 0, .int .i64 0, .int .i64 0, .int .i64 0, .int .i64 0, .int .i64 0, .int .i64 0, .int .i64 0, .int .i64 0, .int .i64 0, .int .i64 0, .int .i64 0, .int .i64 0, .int .i64 0, .int .i64 0, .int .i64 0, .int .i64 0, .bool false]⟩ = f4 at *
  clear gc lobc ltc
  try (simp (maxSteps := 10000000) (maxDischargeDepth := 30) only [go_sem, Nat.reduceEqDiff, ↓reduceIte, Nat.reduceAdd, Nat.reduceMul, Nat.reduceLeDiff, Nat.reduceLT, reduceCtorEq, Int.reduceToNat, Int.reduceLE, Int.reduceLT, Int.reduceEq, Int.reduceNeg, Int.reduceNe, Nat.reduceSub, IntKind.bits])
  refine ro_wcall (cRSp17 h0 q d D r.int.2 f4 W.rdr W.gd o1 (by first | exact hl | (simp only [RS.int_b]; exact hl))) (fun h5 J => ?_)
  replace W := W.call J.1 J.2
  have o2 := (RS.int_ok o1).1
  have gc := W.gc
  have lobc := W.lobc
  have ltc := W.ltc
  replace W := W.put [.int .i64 r.int.1, .int .i64 r.int.2.int.1, .int .i64 0, .int .i64 0, .int .i64 0, .int .i64 0, .int .i64 0, .int .i64 0, .int .i64 0, .int .i64 0, .int .i64 0, .int .i64 0, .int .i64 0, .int .i64 0, .int .i64 0, .int .i64 0, .int .i64 0, .int .i64 0, .bool false]
  simp (maxSteps := 10000000) (maxDischargeDepth := 30) only [gc, lobc, ltc, go_sem, Nat.reduceEqDiff, ↓reduceIte, Nat.reduceAdd, Nat.reduceMul, Nat.reduceLeDiff, Nat.reduceLT, reduceCtorEq, Int.reduceToNat, Int.reduceLE, Int.reduceLT, Int.reduceEq, Int.reduceNeg, Int.reduceNe, Nat.reduceSub, IntKind.bits]
  generalize h5.put (h.len + 1) ⟨false, [.int .i64 r.int.1, .int .i64 r.int.2.int.1, .int .i64 0, .int .i64 0, .int .i64 0, .int .i64 0, .int .i64 0, .int .i64 0, .int .i64 0, .int .i64 0, .int .i64 0, .int .i64 0, .int .i64 0, .int .i64 0, .int .i64 0, .int .i64 0, .int .i64 0, .int .i64 0, .bool false]⟩ = f6 at *
  clear gc lobc ltc
  try (simp (maxSteps := 10000000) (maxDischargeDepth := 30) only [go_sem, Nat.reduceEqDiff, ↓reduceIte, Nat.reduceAdd, Nat.reduceMul, Nat.reduceLeDiff, Nat.reduceLT, reduceCtorEq, Int.reduceToNat, Int.reduceLE, Int.reduceLT, Int.reduceEq, Int.reduceNeg, Int.reduceNe, Nat.reduceSub, IntKind.bits])
  refine ro_wcall (cRSp17 h0 q d D r.int.2.int.2 f6 W.rdr W.gd o2 (by first | exact hl | (simp only [RS.int_b]; exact hl))) (fun h7 J => ?_)
  replace W := W.call J.1 J.2
  have o3 := (RS.int_ok o2).1
  have gc := W.gc
  have lobc := W.lobc
  have ltc := W.ltc
  replace W := W.put [.int .i64 r.int.1, .int .i64 r.int.2.int.1, .int .i64 r.int.2.int.2.int.1, .int .i64 0, .int .i64 0, .int .i64 0, .int .i64 0, .int .i64 0, .int .i64 0, .int .i64 0, .int .i64 0, .int .i64 0, .int .i64 0, .int .i64 0, .int .i64 0, .int .i64 0, .int .i64 0, .int .i64 0, .bool false]
  simp (maxSteps := 10000000) (maxDischargeDepth := 30) only [gc, lobc, ltc, go_sem, Nat.reduceEqDiff, ↓reduceIte, Nat.reduceAdd, Nat.reduceMul, Nat.reduceLeDiff, Nat.reduceLT, reduceCtorEq, Int.reduceToNat, Int.reduceLE, Int.reduceLT, Int.reduceEq, Int.reduceNeg, Int.reduceNe, Nat.reduceSub, IntKind.bits]
  generalize h7.put (h.len + 1) ⟨false, [.int .i64 r.int.1, .int .i64 r.int.2.int.1, .int .i64 r.int.2.int.2.int.1, .int .i64 0, .int .i64 0, .int .i64 0, .int .i64 0, .int .i64 0, .int .i64 0, .int .i64 0, .int .i64 0, .int .i64 0, .int .i64 0, .int .i64 0, .int .i64 0, .int .i64 0, .int .i64 0, .int .i64 0, .bool false]⟩ = f8 at *
  clear gc lobc ltc
  try (simp (maxSteps := 10000000) (maxDischargeDepth := 30) only [go_sem, Nat.reduceEqDiff, ↓reduceIte, Nat.reduceAdd, Nat.reduceMul, Nat.reduceLeDiff, Nat.reduceLT, reduceCtorEq, Int.reduceToNat, Int.reduceLE, Int.reduceLT, Int.reduceEq, Int.reduceNeg, Int.reduceNe, Nat.reduceSub, IntKind.bits])
  refine ro_wcall (cRSp17 h0 q d D r.int.2.int.2.int.2 f8 W.rdr W.gd o3 (by first | exact hl | (simp only [RS.int_b]; exact hl))) (fun h9 J => ?_)
  replace W := W.call J.1 J.2
  have o4 := (RS.int_ok o3).1
  have gc := W.gc
  have lobc := W.lobc
  have ltc := W.ltc
  replace W := W.put [.int .i64 r.int.1, .int .i64 r.int.2.int.1, .int .i64 r.int.2.int.2.int.1, .int .i64 r.int.2.int.2.int.2.int.1, .int .i64 0, .int .i64 0, .int .i64 0, .int .i64 0, .int .i64 0, .int .i64 0, .int .i64 0, .int .i64 0, .int .i64 0, .int .i64 0, .int .i64 0, .int .i64 0, .int .i64 0, .int .i64 0, .bool false]
  simp (maxSteps := 10000000) (maxDischargeDepth := 30) only [gc, lobc, ltc, go_sem, Nat.reduceEqDiff, ↓reduceIte, Nat.reduceAdd, Nat.reduceMul, Nat.reduceLeDiff, Nat.reduceLT, reduceCtorEq, Int.reduceToNat, Int.reduceLE, Int.reduceLT, Int.reduceEq, Int.reduceNeg, Int.reduceNe, Nat.reduceSub, IntKind.bits]
  generalize h9.put (h.len + 1) ⟨false, [.int .i64 r.int.1, .int .i64 r.int.2.int.1, .int .i64 r.int.2.int.2.int.1, .int .i64 r.int.2.int.2.int.2.int.1, .int .i64 0, .int .i64 0, .int .i64 0, .int .i64 0, .int .i64 0, .int .i64 0, .int .i64 0, .int .i64 0, .int .i64 0, .int .i64 0, .int .i64 0, .int .i64 0, .int .i64 0, .int .i64 0, .bool false]⟩ = f10 at *
  clear gc lobc ltc
  try (simp (maxSteps := 10000000) (maxDischargeDepth := 30) only [go_sem, Nat.reduceEqDiff, ↓reduceIte, Nat.reduceAdd, Nat.reduceMul, Nat.reduceLeDiff, Nat.reduceLT, reduceCtorEq, Int.reduceToNat, Int.reduceLE, Int.reduceLT, Int.reduceEq, Int.reduceNeg, Int.reduceNe, Nat.reduceSub, IntKind.bits])
  refine ro_wcall (cRSp17 h0 q d D r.int.2.int.2.int.2.int.2 f10 W.rdr W.gd o4 (by first | exact hl | (simp only [RS.int_b]; exact hl))) (fun h11 J => ?_)
  replace W := W.call J.1 J.2
  have o5 := (RS.int_ok o4).1
  have gc := W.gc
  have lobc := W.lobc
  have ltc := W.ltc
  replace W := W.put [.int .i64 r.int.1, .int .i64 r.int.2.int.1, .int .i64 r.int.2.int.2.int.1, .int .i64 r.int.2.int.2.int.2.int.1, .int .i64 r.int.2.int.2.int.2.int.2.int.1, .int .i64 0, .int .i64 0, .int .i64 0, .int .i64 0, .int .i64 0, .int .i64 0, .int .i64 0, .int .i64 0, .int .i64 0, .int .i64 0, .int .i64 0, .int .i64 0, .int .i64 0, .bool false]
  simp (maxSteps := 10000000) (maxDischargeDepth := 30) only [gc, lobc, ltc, go_sem, Nat.reduceEqDiff, ↓reduceIte, Nat.reduceAdd, Nat.reduceMul, Nat.reduceLeDiff, Nat.reduceLT, reduceCtorEq, Int.reduceToNat, Int.reduceLE, Int.reduceLT, Int.reduceEq, Int.reduceNeg, Int.reduceNe, Nat.reduceSub, IntKind.bits]
  generalize h11.put (h.len + 1) ⟨false, [.int .i64 r.int.1, .int .i64 r.int.2.int.1, .int .i64 r.int.2.int.2.int.1, .int .i64 r.int.2.int.2.int.2.int.1, .int .i64 r.int.2.int.2.int.2.int.2.int.1, .int .i64 0, .int .i64 0, .int .i64 0, .int .i64 0, .int .i64 0, .int .i64 0, .int .i64 0, .int .i64 0, .int .i64 0, .int .i64 0, .int .i64 0, .int .i64 0, .int .i64 0, .bool false]⟩ = f12 at *
  clear gc lobc ltc
  try (simp (maxSteps := 10000000) (maxDischargeDepth := 30) only [go_sem, Nat.reduceEqDiff, ↓reduceIte, Nat.reduceAdd, Nat.reduceMul, Nat.reduceLeDiff, Nat.reduceLT, reduceCtorEq, Int.reduceToNat, Int.reduceLE, Int.reduceLT, Int.reduceEq, Int.reduceNeg, Int.reduceNe, Nat.reduceSub, IntKind.bits])
  refine ro_wcall (cRSp17 h0 q d D r.int.2.int.2.int.2.int.2.int.2 f12 W.rdr W.gd o5 (by first | exact hl | (simp only [RS.int_b]; exact hl))) (fun h13 J => ?_)
  replace W := W.call J.1 J.2
  have o6 := (RS.int_ok o5).1
  have gc := W.gc
  have lobc := W.lobc
  have ltc := W.ltc
  replace W := W.put [.int .i64 r.int.1, .int .i64 r.int.2.int.1, .int .i64 r.int.2.int.2.int.1, .int .i64 r.int.2.int.2.int.2.int.1, .int .i64 r.int.2.int.2.int.2.int.2.int.1, .int .i64 r.int.2.int.2.int.2.int.2.int.2.int.1, .int .i64 0, .int .i64 0, .int .i64 0, .int .i64 0, .int .i64 0, .int .i64 0, .int .i64 0, .int .i64 0, .int .i64 0, .int .i64 0, .int .i64 0, .int .i64 0, .bool false]
  simp (maxSteps := 10000000) (maxDischargeDepth := 30) only [gc, lobc, ltc, go_sem, Nat.reduceEqDiff, ↓reduceIte, Nat.reduceAdd, Nat.reduceMul, Nat.reduceLeDiff, Nat.reduceLT, reduceCtorEq, Int.reduceToNat, Int.reduceLE, Int.reduceLT, Int.reduceEq, Int.reduceNeg, Int.reduceNe, Nat.reduceSub, IntKind.bits]
  generalize h13.put (h.len + 1) ⟨false, [.int .i64 r.int.1, .int .i64 r.int.2.int.1, .int .i64 r.int.2.int.2.int.1, .int .i64 r.int.2.int.2.int.2.int.1, .int .i64 r.int.2.int.2.int.2.int.2.int.1, .int .i64 r.int.2.int.2.int.2.int.2.int.2.int.1, .int .i64 0, .int .i64 0, .int .i64 0, .int .i64 0, .int .i64 0, .int .i64 0, .int .i64 0, .int .i64 0, .int .i64 0, .int .i64 0, .int .i64 0, .int .i64 0, .bool false]⟩ = f14 at *
  clear gc lobc ltc
  try (simp (maxSteps := 10000000) (maxDischargeDepth := 30) only [go_sem, Nat.reduceEqDiff, ↓reduceIte, Nat.reduceAdd, Nat.reduceMul, Nat.reduceLeDiff, Nat.reduceLT, reduceCtorEq, Int.reduceToNat, Int.reduceLE, Int.reduceLT, Int.reduceEq, Int.reduceNeg, Int.reduceNe, Nat.reduceSub, IntKind.bits])
  refine ro_wcall (cRSp17 h0 q d D r.int.2.int.2.int.2.int.2.int.2.int.2 f14 W.rdr W.gd o6 (by first | exact hl | (simp only [RS.int_b]; exact hl))) (fun h15 J => ?_)
  replace W := W.call J.1 J.2
  have o7 := (RS.int_ok o6).1
  have gc := W.gc
  have lobc := W.lobc
  have ltc := W.ltc
  replace W := W.put [.int .i64 r.int.1, .int .i64 r.int.2.int.1, .int .i64 r.int.2.int.2.int.1, .int .i64 r.int.2.int.2.int.2.int.1, .int .i64 r.int.2.int.2.int.2.int.2.int.1, .int .i64 r.int.2.int.2.int.2.int.2.int.2.int.1, .int .i64 r.int.2.int.2.int.2.int.2.int.2.int.2.int.1, .int .i64 0, .int .i64 0, .int .i64 0, .int .i64 0, .int .i64 0, .int .i64 0, .int .i64 0, .int .i64 0, .int .i64 0, .int .i64 0, .int .i64 0, .bool false]
  simp (maxSteps := 10000000) (maxDischargeDepth := 30) only [gc, lobc, ltc, go_sem, Nat.reduceEqDiff, ↓reduceIte, Nat.reduceAdd, Nat.reduceMul, Nat.reduceLeDiff, Nat.reduceLT, reduceCtorEq, Int.reduceToNat, Int.reduceLE, Int.reduceLT, Int.reduceEq, Int.reduceNeg, Int.reduceNe, Nat.reduceSub, IntKind.bits]
  generalize h15.put (h.len + 1) ⟨false, [.int .i64 r.int.1, .int .i64 r.int.2.int.1, .int .i64 r.int.2.int.2.int.1, .int .i64 r.int.2.int.2.int.2.int.1, .int .i64 r.int.2.int.2.int.2.int.2.int.1, .int .i64 r.int.2.int.2.int.2.int.2.int.2.int.1, .int .i64 r.int.2.int.2.int.2.int.2.int.2.int.2.int.1, .int .i64 0, .int .i64 0, .int .i64 0, .int .i64 0, .int .i64 0, .int .i64 0, .int .i64 0, .int .i64 0, .int .i64 0, .int .i64 0, .int .i64 0, .bool false]⟩ = f16 at *
  clear gc lobc ltc
  try (simp (maxSteps := 10000000) (maxDischargeDepth := 30) only [go_sem, Nat.reduceEqDiff, ↓reduceIte, Nat.reduceAdd, Nat.reduceMul, Nat.reduceLeDiff, Nat.reduceLT, reduceCtorEq, Int.reduceToNat, Int.reduceLE, Int.reduceLT, Int.reduceEq, Int.reduceNeg, Int.reduceNe, Nat.reduceSub, IntKind.bits])
  refine ro_wcall (cRSp17 h0 q d D r.int.2.int.2.int.2.int.2.int.2.int.2.int.2 f16 W.rdr W.gd o7 (by first | exact hl | (simp only [RS.int_b]; exact hl))) (fun h17 J => ?_)
  replace W := W.call J.1 J.2
  have o8 := (RS.int_ok o7).1
  have gc := W.gc
  have lobc := W.lobc
  have ltc := W.ltc
  replace W := W.put [.int .i64 r.int.1, .int .i64 r.int.2.int.1, .int .i64 r.int.2.int.2.int.1, .int .i64 r.int.2.int.2.int.2.int.1, .int .i64 r.int.2.int.2.int.2.int.2.int.1, .int .i64 r.int.2.int.2.int.2.int.2.int.2.int.1, .int .i64 r.int.2.int.2.int.2.int.2.int.2.int.2.int.1, .int .i64 r.int.2.int.2.int.2.int.2.int.2.int.2.int.2.int.1, .int .i64 0, .int .i64 0, .int .i64 0, .int .i64 0, .int .i64 0, .int .i64 0, .int .i64 0, .int .i64 0, .int .i64 0, .int .i64 0, .bool false]
  simp (maxSteps := 10000000) (maxDischargeDepth := 30) only [gc, lobc, ltc, go_sem, Nat.reduceEqDiff, ↓reduceIte, Nat.reduceAdd, Nat.reduceMul, Nat.reduceLeDiff, Nat.reduceLT, reduceCtorEq, Int.reduceToNat, Int.reduceLE, Int.reduceLT, Int.reduceEq, Int.reduceNeg, Int.reduceNe, Nat.reduceSub, IntKind.bits]
  generalize h17.put (h.len + 1) ⟨false, [.int .i64 r.int.1, .int .i64 r.int.2.int.1, .int .i64 r.int.2.int.2.int.1, .int .i64 r.int.2.int.2.int.2.int.1, .int .i64 r.int.2.int.2.int.2.int.2.int.1, .int .i64 r.int.2.int.2.int.2.int.2.int.2.int.1, .int .i64 r.int.2.int.2.int.2.int.2.int.2.int.2.int.1, .int .i64 r.int.2.int.2.int.2.int.2.int.2.int.2.int.2.int.1, .int .i64 0, .int .i64 0, .int .i64 0, .int .i64 0, .int .i64 0, .int .i64 0, .int .i64 0, .int .i64 0, .int .i64 0, .int .i64 0, .bool false]⟩ = f18 at *
  clear gc lobc ltc
  try (simp (maxSteps := 10000000) (maxDischargeDepth := 30) only [go_sem, Nat.reduceEqDiff, ↓reduceIte, Nat.reduceAdd, Nat.reduceMul, Nat.reduceLeDiff, Nat.reduceLT, reduceCtorEq, Int.reduceToNat, Int.reduceLE, Int.reduceLT, Int.reduceEq, Int.reduceNeg, Int.reduceNe, Nat.reduceSub, IntKind.bits])
  refine ro_wcall (cRSp17 h0 q d D r.int.2.int.2.int.2.int.2.int.2.int.2.int.2.int.2 f18 W.rdr W.gd o8 (by first | exact hl | (simp only [RS.int_b]; exact hl))) (fun h19 J => ?_)
  replace W := W.call J.1 J.2
  have o9 := (RS.int_ok o8).1
  have gc := W.gc
  have lobc := W.lobc
  have ltc := W.ltc
  replace W := W.put [.int .i64 r.int.1, .int .i64 r.int.2.int.1, .int .i64 r.int.2.int.2.int.1, .int .i64 r.int.2.int.2.int.2.int.1, .int .i64 r.int.2.int.2.int.2.int.2.int.1, .int .i64 r.int.2.int.2.int.2.int.2.int.2.int.1, .int .i64 r.int.2.int.2.int.2.int.2.int.2.int.2.int.1, .int .i64 r.int.2.int.2.int.2.int.2.int.2.int.2.int.2.int.1, .int .i64 r.int.2.int.2.int.2.int.2.int.2.int.2.int.2.int.2.int.1, .int .i64 0, .int .i64 0, .int .i64 0, .int .i64 0, .int .i64 0, .int .i64 0, .int .i64 0, .int .i64 0, .int .i64 0, .bool false]
  simp (maxSteps := 10000000) (maxDischargeDepth := 30) only [gc, lobc, ltc, go_sem, Nat.reduceEqDiff, ↓reduceIte, Nat.reduceAdd, Nat.reduceMul, Nat.reduceLeDiff, Nat.reduceLT, reduceCtorEq, Int.reduceToNat, Int.reduceLE, Int.reduceLT, Int.reduceEq, Int.reduceNeg, Int.reduceNe, Nat.reduceSub, IntKind.bits]
  generalize h19.put (h.len + 1) ⟨false, [.int .i64 r.int.1, .int .i64 r.int.2.int.1, .int .i64 r.int.2.int.2.int.1, .int .i64 r.int.2.int.2.int.2.int.1, .int .i64 r.int.2.int.2.int.2.int.2.int.1, .int .i64 r.int.2.int.2.int.2.int.2.int.2.int.1, .int .i64 r.int.2.int.2.int.2.int.2.int.2.int.2.int.1, .int .i64 r.int.2.int.2.int.2.int.2.int.2.int.2.int.2.int.1, .int .i64 r.int.2.int.2.int.2.int.2.int.2.int.2.int.2.int.2.int.1, .int .i64 0, .int .i64 0, .int .i64 0, .int .i64 0, .int .i64 0, .int .i64 0, .int .i64 0, .int .i64 0, .int .i64 0, .bool false]⟩ = f20 at *
  clear gc lobc ltc
  try (simp (maxSteps := 10000000) (maxDischargeDepth := 30) only [go_sem, Nat.reduceEqDiff, ↓reduceIte, Nat.reduceAdd, Nat.reduceMul, Nat.reduceLeDiff, Nat.reduceLT, reduceCtorEq, Int.reduceToNat, Int.reduceLE, Int.reduceLT, Int.reduceEq, Int.reduceNeg, Int.reduceNe, Nat.reduceSub, IntKind.bits])
  refine ro_wcall (cRSp17 h0 q d D r.int.2.int.2.int.2.int.2.int.2.int.2.int.2.int.2.int.2 f20 W.rdr W.gd o9 (by first | exact hl | (simp only [RS.int_b]; exact hl))) (fun h21 J => ?_)
  replace W := W.call J.1 J.2
  have o10 := (RS.int_ok o9).1
  have gc := W.gc
  have lobc := W.lobc
  have ltc := W.ltc
  replace W := W.put [.int .i64 r.int.1, .int .i64 r.int.2.int.1, .int .i64 r.int.2.int.2.int.1, .int .i64 r.int.2.int.2.int.2.int.1, .int .i64 r.int.2.int.2.int.2.int.2.int.1, .int .i64 r.int.2.int.2.int.2.int.2.int.2.int.1, .int .i64 r.int.2.int.2.int.2.int.2.int.2.int.2.int.1, .int .i64 r.int.2.int.2.int.2.int.2.int.2.int.2.int.2.int.1, .int .i64 r.int.2.int.2.int.2.int.2.int.2.int.2.int.2.int.2.int.1, .int .i64 r.int.2.int.2.int.2.int.2.int.2.int.2.int.2.int.2.int.2.int.1, .int .i64 0, .int .i64 0, .int .i64 0, .int .i64 0, .int .i64 0, .int .i64 0, .int .i64 0, .int .i64 0, .bool false]
  simp (maxSteps := 10000000) (maxDischargeDepth := 30) only [gc, lobc, ltc, go_sem, Nat.reduceEqDiff, ↓reduceIte, Nat.reduceAdd, Nat.reduceMul, Nat.reduceLeDiff, Nat.reduceLT, reduceCtorEq, Int.reduceToNat, Int.reduceLE, Int.reduceLT, Int.reduceEq, Int.reduceNeg, Int.reduceNe, Nat.reduceSub, IntKind.bits]
  generalize h21.put (h.len + 1) ⟨false, [.int .i64 r.int.1, .int .i64 r.int.2.int.1, .int .i64 r.int.2.int.2.int.1, .int .i64 r.int.2.int.2.int.2.int.1, .int .i64 r.int.2.int.2.int.2.int.2.int.1, .int .i64 r.int.2.int.2.int.2.int.2.int.2.int.1, .int .i64 r.int.2.int.2.int.2.int.2.int.2.int.2.int.1, .int .i64 r.int.2.int.2.int.2.int.2.int.2.int.2.int.2.int.1, .int .i64 r.int.2.int.2.int.2.int.2.int.2.int.2.int.2.int.2.int.1, .int .i64 r.int.2.int.2.int.2.int.2.int.2.int.2.int.2.int.2.int.2.int.1, .int .i64 0, .int .i64 0, .int .i64 0, .int .i64 0, .int .i64 0, .int .i64 0, .int .i64 0, .int .i64 0, .bool false]⟩ = f22 at *
  clear gc lobc ltc
  try (simp (maxSteps := 10000000) (maxDischargeDepth := 30) only [go_sem, Nat.reduceEqDiff, ↓reduceIte, Nat.reduceAdd, Nat.reduceMul, Nat.reduceLeDiff, Nat.reduceLT, reduceCtorEq, Int.reduceToNat, Int.reduceLE, Int.reduceLT, Int.reduceEq, Int.reduceNeg, Int.reduceNe, Nat.reduceSub, IntKind.bits])
  refine ro_wcall (cRSp17 h0 q d D r.int.2.int.2.int.2.int.2.int.2.int.2.int.2.int.2.int.2.int.2 f22 W.rdr W.gd o10 (by first | exact hl | (simp only [RS.int_b]; exact hl))) (fun h23 J => ?_)
  replace W := W.call J.1 J.2
  have o11 := (RS.int_ok o10).1
  have gc := W.gc
  have lobc := W.lobc
  have ltc := W.ltc
  replace W := W.put [.int .i64 r.int.1, .int .i64 r.int.2.int.1, .int .i64 r.int.2.int.2.int.1, .int .i64 r.int.2.int.2.int.2.int.1, .int .i64 r.int.2.int.2.int.2.int.2.int.1, .int .i64 r.int.2.int.2.int.2.int.2.int.2.int.1, .int .i64 r.int.2.int.2.int.2.int.2.int.2.int.2.int.1, .int .i64 r.int.2.int.2.int.2.int.2.int.2.int.2.int.2.int.1, .int .i64 r.int.2.int.2.int.2.int.2.int.2.int.2.int.2.int.2.int.1, .int .i64 r.int.2.int.2.int.2.int.2.int.2.int.2.int.2.int.2.int.2.int.1, .int .i64 r.int.2.int.2.int.2.int.2.int.2.int.2.int.2.int.2.int.2.int.2.int.1, .int .i64 0, .int .i64 0, .int .i64 0, .int .i64 0, .int .i64 0, .int .i64 0, .int .i64 0, .bool false]
  simp (maxSteps := 10000000) (maxDischargeDepth := 30) only [gc, lobc, ltc, go_sem, Nat.reduceEqDiff, ↓reduceIte, Nat.reduceAdd, Nat.reduceMul, Nat.reduceLeDiff, Nat.reduceLT, reduceCtorEq, Int.reduceToNat, Int.reduceLE, Int.reduceLT, Int.reduceEq, Int.reduceNeg, Int.reduceNe, Nat.reduceSub, IntKind.bits]
  generalize h23.put (h.len + 1) ⟨false, [.int .i64 r.int.1, .int .i64 r.int.2.int.1, .int .i64 r.int.2.int.2.int.1, .int .i64 r.int.2.int.2.int.2.int.1, .int .i64 r.int.2.int.2.int.2.int.2.int.1, .int .i64 r.int.2.int.2.int.2.int.2.int.2.int.1, .int .i64 r.int.2.int.2.int.2.int.2.int.2.int.2.int.1, .int .i64 r.int.2.int.2.int.2.int.2.int.2.int.2.int.2.int.1, .int .i64 r.int.2.int.2.int.2.int.2.int.2.int.2.int.2.int.2.int.1, .int .i64 r.int.2.int.2.int.2.int.2.int.2.int.2.int.2.int.2.int.2.int.1, .int .i64 r.int.2.int.2.int.2.int.2.int.2.int.2.int.2.int.2.int.2.int.2.int.1, .int .i64 0, .int .i64 0, .int .i64 0, .int .i64 0, .int .i64 0, .int .i64 0, .int .i64 0, .bool false]⟩ = f24 at *
  clear gc lobc ltc
  try (simp (maxSteps := 10000000) (maxDischargeDepth := 30) only [go_sem, Nat.reduceEqDiff, ↓reduceIte, Nat.reduceAdd, Nat.reduceMul, Nat.reduceLeDiff, Nat.reduceLT, reduceCtorEq, Int.reduceToNat, Int.reduceLE, Int.reduceLT, Int.reduceEq, Int.reduceNeg, Int.reduceNe, Nat.reduceSub, IntKind.bits])
  refine ro_wcall (cRNum17 h0 q d D r.int.2.int.2.int.2.int.2.int.2.int.2.int.2.int.2.int.2.int.2.int.2 f24 W.rdr W.gd o11 (by first | exact hl | (simp only [RS.int_b]; exact hl))) (fun h25 J => ?_)
  replace W := W.call J.1 J.2
  have o12 := (RS.int_ok o11).1
  have gc := W.gc
  have lobc := W.lobc
  have ltc := W.ltc
  replace W := W.put [.int .i64 r.int.1, .int .i64 r.int.2.int.1, .int .i64 r.int.2.int.2.int.1, .int .i64 r.int.2.int.2.int.2.int.1, .int .i64 r.int.2.int.2.int.2.int.2.int.1, .int .i64 r.int.2.int.2.int.2.int.2.int.2.int.1, .int .i64 r.int.2.int.2.int.2.int.2.int.2.int.2.int.1, .int .i64 r.int.2.int.2.int.2.int.2.int.2.int.2.int.2.int.1, .int .i64 r.int.2.int.2.int.2.int.2.int.2.int.2.int.2.int.2.int.1, .int .i64 r.int.2.int.2.int.2.int.2.int.2.int.2.int.2.int.2.int.2.int.1, .int .i64 r.int.2.int.2.int.2.int.2.int.2.int.2.int.2.int.2.int.2.int.2.int.1, .int .i64 r.int.2.int.2.int.2.int.2.int.2.int.2.int.2.int.2.int.2.int.2.int.2.int.1, .int .i64 0, .int .i64 0, .int .i64 0, .int .i64 0, .int .i64 0, .int .i64 0, .bool false]
  simp (maxSteps := 10000000) (maxDischargeDepth := 30) only [gc, lobc, ltc, go_sem, Nat.reduceEqDiff, ↓reduceIte, Nat.reduceAdd, Nat.reduceMul, Nat.reduceLeDiff, Nat.reduceLT, reduceCtorEq, Int.reduceToNat, Int.reduceLE, Int.reduceLT, Int.reduceEq, Int.reduceNeg, Int.reduceNe, Nat.reduceSub, IntKind.bits]
  generalize h25.put (h.len + 1) ⟨false, [.int .i64 r.int.1, .int .i64 r.int.2.int.1, .int .i64 r.int.2.int.2.int.1, .int .i64 r.int.2.int.2.int.2.int.1, .int .i64 r.int.2.int.2.int.2.int.2.int.1, .int .i64 r.int.2.int.2.int.2.int.2.int.2.int.1, .int .i64 r.int.2.int.2.int.2.int.2.int.2.int.2.int.1, .int .i64 r.int.2.int.2.int.2.int.2.int.2.int.2.int.2.int.1, .int .i64 r.int.2.int.2.int.2.int.2.int.2.int.2.int.2.int.2.int.1, .int .i64 r.int.2.int.2.int.2.int.2.int.2.int.2.int.2.int.2.int.2.int.1, .int .i64 r.int.2.int.2.int.2.int.2.int.2.int.2.int.2.int.2.int.2.int.2.int.1, .int .i64 r.int.2.int.2.int.2.int.2.int.2.int.2.int.2.int.2.int.2.int.2.int.2.int.1, .int .i64 0, .int .i64 0, .int .i64 0, .int .i64 0, .int .i64 0, .int .i64 0, .bool false]⟩ = f26 at *
  clear gc lobc ltc
  try (simp (maxSteps := 10000000) (maxDischargeDepth := 30) only [go_sem, Nat.reduceEqDiff, ↓reduceIte, Nat.reduceAdd, Nat.reduceMul, Nat.reduceLeDiff, Nat.reduceLT, reduceCtorEq, Int.reduceToNat, Int.reduceLE, Int.reduceLT, Int.reduceEq, Int.reduceNeg, Int.reduceNe, Nat.reduceSub, IntKind.bits])
  refine ro_wcall (cRNum17 h0 q d D r.int.2.int.2.int.2.int.2.int.2.int.2.int.2.int.2.int.2.int.2.int.2.int.2 f26 W.rdr W.gd o12 (by first | exact hl | (simp only [RS.int_b]; exact hl))) (fun h27 J => ?_)
  replace W := W.call J.1 J.2
  have o13 := (RS.int_ok o12).1
  have gc := W.gc
  have lobc := W.lobc
  have ltc := W.ltc
  replace W := W.put [.int .i64 r.int.1, .int .i64 r.int.2.int.1, .int .i64 r.int.2.int.2.int.1, .int .i64 r.int.2.int.2.int.2.int.1, .int .i64 r.int.2.int.2.int.2.int.2.int.1, .int .i64 r.int.2.int.2.int.2.int.2.int.2.int.1, .int .i64 r.int.2.int.2.int.2.int.2.int.2.int.2.int.1, .int .i64 r.int.2.int.2.int.2.int.2.int.2.int.2.int.2.int.1, .int .i64 r.int.2.int.2.int.2.int.2.int.2.int.2.int.2.int.2.int.1, .int .i64 r.int.2.int.2.int.2.int.2.int.2.int.2.int.2.int.2.int.2.int.1, .int .i64 r.int.2.int.2.int.2.int.2.int.2.int.2.int.2.int.2.int.2.int.2.int.1, .int .i64 r.int.2.int.2.int.2.int.2.int.2.int.2.int.2.int.2.int.2.int.2.int.2.int.1, .int .i64 r.int.2.int.2.int.2.int.2.int.2.int.2.int.2.int.2.int.2.int.2.int.2.int.2.int.1, .int .i64 0, .int .i64 0, .int .i64 0, .int .i64 0, .int .i64 0, .bool false]
  simp (maxSteps := 10000000) (maxDischargeDepth := 30) only [gc, lobc, ltc, go_sem, Nat.reduceEqDiff, ↓reduceIte, Nat.reduceAdd, Nat.reduceMul, Nat.reduceLeDiff, Nat.reduceLT, reduceCtorEq, Int.reduceToNat, Int.reduceLE, Int.reduceLT, Int.reduceEq, Int.reduceNeg, Int.reduceNe, Nat.reduceSub, IntKind.bits]
  generalize h27.put (h.len + 1) ⟨false, [.int .i64 r.int.1, .int .i64 r.int.2.int.1, .int .i64 r.int.2.int.2.int.1, .int .i64 r.int.2.int.2.int.2.int.1, .int .i64 r.int.2.int.2.int.2.int.2.int.1, .int .i64 r.int.2.int.2.int.2.int.2.int.2.int.1, .int .i64 r.int.2.int.2.int.2.int.2.int.2.int.2.int.1, .int .i64 r.int.2.int.2.int.2.int.2.int.2.int.2.int.2.int.1, .int .i64 r.int.2.int.2.int.2.int.2.int.2.int.2.int.2.int.2.int.1, .int .i64 r.int.2.int.2.int.2.int.2.int.2.int.2.int.2.int.2.int.2.int.1, .int .i64 r.int.2.int.2.int.2.int.2.int.2.int.2.int.2.int.2.int.2.int.2.int.1, .int .i64 r.int.2.int.2.int.2.int.2.int.2.int.2.int.2.int.2.int.2.int.2.int.2.int.1, .int .i64 r.int.2.int.2.int.2.int.2.int.2.int.2.int.2.int.2.int.2.int.2.int.2.int.2.int.1, .int .i64 0, .int .i64 0, .int .i64 0, .int .i64 0, .int .i64 0, .bool false]⟩ = f28 at *
  clear gc lobc ltc
  try (simp (maxSteps := 10000000) (maxDischargeDepth := 30) only [go_sem, Nat.reduceEqDiff, ↓reduceIte, Nat.reduceAdd, Nat.reduceMul, Nat.reduceLeDiff, Nat.reduceLT, reduceCtorEq, Int.reduceToNat, Int.reduceLE, Int.reduceLT, Int.reduceEq, Int.reduceNeg, Int.reduceNe, Nat.reduceSub, IntKind.bits])
  refine ro_wcall (cRNum17 h0 q d D r.int.2.int.2.int.2.int.2.int.2.int.2.int.2.int.2.int.2.int.2.int.2.int.2.int.2 f28 W.rdr W.gd o13 (by first | exact hl | (simp only [RS.int_b]; exact hl))) (fun h29 J => ?_)
  replace W := W.call J.1 J.2
  have o14 := (RS.int_ok o13).1
  have gc := W.gc
  have lobc := W.lobc
  have ltc := W.ltc
  replace W := W.put [.int .i64 r.int.1, .int .i64 r.int.2.int.1, .int .i64 r.int.2.int.2.int.1, .int .i64 r.int.2.int.2.int.2.int.1, .int .i64 r.int.2.int.2.int.2.int.2.int.1, .int .i64 r.int.2.int.2.int.2.int.2.int.2.int.1, .int .i64 r.int.2.int.2.int.2.int.2.int.2.int.2.int.1, .int .i64 r.int.2.int.2.int.2.int.2.int.2.int.2.int.2.int.1, .int .i64 r.int.2.int.2.int.2.int.2.int.2.int.2.int.2.int.2.int.1, .int .i64 r.int.2.int.2.int.2.int.2.int.2.int.2.int.2.int.2.int.2.int.1, .int .i64 r.int.2.int.2.int.2.int.2.int.2.int.2.int.2.int.2.int.2.int.2.int.1, .int .i64 r.int.2.int.2.int.2.int.2.int.2.int.2.int.2.int.2.int.2.int.2.int.2.int.1, .int .i64 r.int.2.int.2.int.2.int.2.int.2.int.2.int.2.int.2.int.2.int.2.int.2.int.2.int.1, .int .i64 r.int.2.int.2.int.2.int.2.int.2.int.2.int.2.int.2.int.2.int.2.int.2.int.2.int.2.int.1, .int .i64 0, .int .i64 0, .int .i64 0, .int .i64 0, .bool false]
  simp (maxSteps := 10000000) (maxDischargeDepth := 30) only [gc, lobc, ltc, go_sem, Nat.reduceEqDiff, ↓reduceIte, Nat.reduceAdd, Nat.reduceMul, Nat.reduceLeDiff, Nat.reduceLT, reduceCtorEq, Int.reduceToNat, Int.reduceLE, Int.reduceLT, Int.reduceEq, Int.reduceNeg, Int.reduceNe, Nat.reduceSub, IntKind.bits]
  generalize h29.put (h.len + 1) ⟨false, [.int .i64 r.int.1, .int .i64 r.int.2.int.1, .int .i64 r.int.2.int.2.int.1, .int .i64 r.int.2.int.2.int.2.int.1, .int .i64 r.int.2.int.2.int.2.int.2.int.1, .int .i64 r.int.2.int.2.int.2.int.2.int.2.int.1, .int .i64 r.int.2.int.2.int.2.int.2.int.2.int.2.int.1, .int .i64 r.int.2.int.2.int.2.int.2.int.2.int.2.int.2.int.1, .int .i64 r.int.2.int.2.int.2.int.2.int.2.int.2.int.2.int.2.int.1, .int .i64 r.int.2.int.2.int.2.int.2.int.2.int.2.int.2.int.2.int.2.int.1, .int .i64 r.int.2.int.2.int.2.int.2.int.2.int.2.int.2.int.2.int.2.int.2.int.1, .int .i64 r.int.2.int.2.int.2.int.2.int.2.int.2.int.2.int.2.int.2.int.2.int.2.int.1, .int .i64 r.int.2.int.2.int.2.int.2.int.2.int.2.int.2.int.2.int.2.int.2.int.2.int.2.int.1, .int .i64 r.int.2.int.2.int.2.int.2.int.2.int.2.int.2.int.2.int.2.int.2.int.2.int.2.int.2.int.1, .int .i64 0, .int .i64 0, .int .i64 0, .int .i64 0, .bool false]⟩ = f30 at *
  clear gc lobc ltc
  try (simp (maxSteps := 10000000) (maxDischargeDepth := 30) only [go_sem, Nat.reduceEqDiff, ↓reduceIte, Nat.reduceAdd, Nat.reduceMul, Nat.reduceLeDiff, Nat.reduceLT, reduceCtorEq, Int.reduceToNat, Int.reduceLE, Int.reduceLT, Int.reduceEq, Int.reduceNeg, Int.reduceNe, Nat.reduceSub, IntKind.bits])
  refine ro_wcall (cRNum17 h0 q d D r.int.2.int.2.int.2.int.2.int.2.int.2.int.2.int.2.int.2.int.2.int.2.int.2.int.2.int.2 f30 W.rdr W.gd o14 (by first | exact hl | (simp only [RS.int_b]; exact hl))) (fun h31 J => ?_)
  replace W := W.call J.1 J.2
  have o15 := (RS.int_ok o14).1
  have gc := W.gc
  have lobc := W.lobc
  have ltc := W.ltc
  replace W := W.put [.int .i64 r.int.1, .int .i64 r.int.2.int.1, .int .i64 r.int.2.int.2.int.1, .int .i64 r.int.2.int.2.int.2.int.1, .int .i64 r.int.2.int.2.int.2.int.2.int.1, .int .i64 r.int.2.int.2.int.2.int.2.int.2.int.1, .int .i64 r.int.2.int.2.int.2.int.2.int.2.int.2.int.1, .int .i64 r.int.2.int.2.int.2.int.2.int.2.int.2.int.2.int.1, .int .i64 r.int.2.int.2.int.2.int.2.int.2.int.2.int.2.int.2.int.1, .int .i64 r.int.2.int.2.int.2.int.2.int.2.int.2.int.2.int.2.int.2.int.1, .int .i64 r.int.2.int.2.int.2.int.2.int.2.int.2.int.2.int.2.int.2.int.2.int.1, .int .i64 r.int.2.int.2.int.2.int.2.int.2.int.2.int.2.int.2.int.2.int.2.int.2.int.1, .int .i64 r.int.2.int.2.int.2.int.2.int.2.int.2.int.2.int.2.int.2.int.2.int.2.int.2.int.1, .int .i64 r.int.2.int.2.int.2.int.2.int.2.int.2.int.2.int.2.int.2.int.2.int.2.int.2.int.2.int.1, .int .i64 r.int.2.int.2.int.2.int.2.int.2.int.2.int.2.int.2.int.2.int.2.int.2.int.2.int.2.int.2.int.1, .int .i64 0, .int .i64 0, .int .i64 0, .bool false]
  simp (maxSteps := 10000000) (maxDischargeDepth := 30) only [gc, lobc, ltc, go_sem, Nat.reduceEqDiff, ↓reduceIte, Nat.reduceAdd, Nat.reduceMul, Nat.reduceLeDiff, Nat.reduceLT, reduceCtorEq, Int.reduceToNat, Int.reduceLE, Int.reduceLT, Int.reduceEq, Int.reduceNeg, Int.reduceNe, Nat.reduceSub, IntKind.bits]
  generalize h31.put (h.len + 1) ⟨false, [.int .i64 r.int.1, .int .i64 r.int.2.int.1, .int .i64 r.int.2.int.2.int.1, .int .i64 r.int.2.int.2.int.2.int.1, .int .i64 r.int.2.int.2.int.2.int.2.int.1, .int .i64 r.int.2.int.2.int.2.int.2.int.2.int.1, .int .i64 r.int.2.int.2.int.2.int.2.int.2.int.2.int.1, .int .i64 r.int.2.int.2.int.2.int.2.int.2.int.2.int.2.int.1, .int .i64 r.int.2.int.2.int.2.int.2.int.2.int.2.int.2.int.2.int.1, .int .i64 r.int.2.int.2.int.2.int.2.int.2.int.2.int.2.int.2.int.2.int.1, .int .i64 r.int.2.int.2.int.2.int.2.int.2.int.2.int.2.int.2.int.2.int.2.int.1, .int .i64 r.int.2.int.2.int.2.int.2.int.2.int.2.int.2.int.2.int.2.int.2.int.2.int.1, .int .i64 r.int.2.int.2.int.2.int.2.int.2.int.2.int.2.int.2.int.2.int.2.int.2.int.2.int.1, .int .i64 r.int.2.int.2.int.2.int.2.int.2.int.2.int.2.int.2.int.2.int.2.int.2.int.2.int.2.int.1, .int .i64 r.int.2.int.2.int.2.int.2.int.2.int.2.int.2.int.2.int.2.int.2.int.2.int.2.int.2.int.2.int.1, .int .i64 0, .int .i64 0, .int .i64 0, .bool false]⟩ = f32 at *
  clear gc lobc ltc
  try (simp (maxSteps := 10000000) (maxDischargeDepth := 30) only [go_sem, Nat.reduceEqDiff, ↓reduceIte, Nat.reduceAdd, Nat.reduceMul, Nat.reduceLeDiff, Nat.reduceLT, reduceCtorEq, Int.reduceToNat, Int.reduceLE, Int.reduceLT, Int.reduceEq, Int.reduceNeg, Int.reduceNe, Nat.reduceSub, IntKind.bits])
  refine ro_wcall (cRNum17 h0 q d D r.int.2.int.2.int.2.int.2.int.2.int.2.int.2.int.2.int.2.int.2.int.2.int.2.int.2.int.2.int.2 f32 W.rdr W.gd o15 (by first | exact hl | (simp only [RS.int_b]; exact hl))) (fun h33 J => ?_)
  replace W := W.call J.1 J.2
  have o16 := (RS.int_ok o15).1
  have gc := W.gc
  have lobc := W.lobc
  have ltc := W.ltc
  replace W := W.put [.int .i64 r.int.1, .int .i64 r.int.2.int.1, .int .i64 r.int.2.int.2.int.1, .int .i64 r.int.2.int.2.int.2.int.1, .int .i64 r.int.2.int.2.int.2.int.2.int.1, .int .i64 r.int.2.int.2.int.2.int.2.int.2.int.1, .int .i64 r.int.2.int.2.int.2.int.2.int.2.int.2.int.1, .int .i64 r.int.2.int.2.int.2.int.2.int.2.int.2.int.2.int.1, .int .i64 r.int.2.int.2.int.2.int.2.int.2.int.2.int.2.int.2.int.1, .int .i64 r.int.2.int.2.int.2.int.2.int.2.int.2.int.2.int.2.int.2.int.1, .int .i64 r.int.2.int.2.int.2.int.2.int.2.int.2.int.2.int.2.int.2.int.2.int.1, .int .i64 r.int.2.int.2.int.2.int.2.int.2.int.2.int.2.int.2.int.2.int.2.int.2.int.1, .int .i64 r.int.2.int.2.int.2.int.2.int.2.int.2.int.2.int.2.int.2.int.2.int.2.int.2.int.1, .int .i64 r.int.2.int.2.int.2.int.2.int.2.int.2.int.2.int.2.int.2.int.2.int.2.int.2.int.2.int.1, .int .i64 r.int.2.int.2.int.2.int.2.int.2.int.2.int.2.int.2.int.2.int.2.int.2.int.2.int.2.int.2.int.1, .int .i64 r.int.2.int.2.int.2.int.2.int.2.int.2.int.2.int.2.int.2.int.2.int.2.int.2.int.2.int.2.int.2.int.1, .int .i64 0, .int .i64 0, .bool false]
  simp (maxSteps := 10000000) (maxDischargeDepth := 30) only [gc, lobc, ltc, go_sem, Nat.reduceEqDiff, ↓reduceIte, Nat.reduceAdd, Nat.reduceMul, Nat.reduceLeDiff, Nat.reduceLT, reduceCtorEq, Int.reduceToNat, Int.reduceLE, Int.reduceLT, Int.reduceEq, Int.reduceNeg, Int.reduceNe, Nat.reduceSub, IntKind.bits]
  generalize h33.put (h.len + 1) ⟨false, [.int .i64 r.int.1, .int .i64 r.int.2.int.1, .int .i64 r.int.2.int.2.int.1, .int .i64 r.int.2.int.2.int.2.int.1, .int .i64 r.int.2.int.2.int.2.int.2.int.1, .int .i64 r.int.2.int.2.int.2.int.2.int.2.int.1, .int .i64 r.int.2.int.2.int.2.int.2.int.2.int.2.int.1, .int .i64 r.int.2.int.2.int.2.int.2.int.2.int.2.int.2.int.1, .int .i64 r.int.2.int.2.int.2.int.2.int.2.int.2.int.2.int.2.int.1, .int .i64 r.int.2.int.2.int.2.int.2.int.2.int.2.int.2.int.2.int.2.int.1, .int .i64 r.int.2.int.2.int.2.int.2.int.2.int.2.int.2.int.2.int.2.int.2.int.1, .int .i64 r.int.2.int.2.int.2.int.2.int.2.int.2.int.2.int.2.int.2.int.2.int.2.int.1, .int .i64 r.int.2.int.2.int.2.int.2.int.2.int.2.int.2.int.2.int.2.int.2.int.2.int.2.int.1, .int .i64 r.int.2.int.2.int.2.int.2.int.2.int.2.int.2.int.2.int.2.int.2.int.2.int.2.int.2.int.1, .int .i64 r.int.2.int.2.int.2.int.2.int.2.int.2.int.2.int.2.int.2.int.2.int.2.int.2.int.2.int.2.int.1, .int .i64 r.int.2.int.2.int.2.int.2.int.2.int.2.int.2.int.2.int.2.int.2.int.2.int.2.int.2.int.2.int.2.int.1, .int .i64 0, .int .i64 0, .bool false]⟩ = f34 at *
  clear gc lobc ltc
  try (simp (maxSteps := 10000000) (maxDischargeDepth := 30) only [go_sem, Nat.reduceEqDiff, ↓reduceIte, Nat.reduceAdd, Nat.reduceMul, Nat.reduceLeDiff, Nat.reduceLT, reduceCtorEq, Int.reduceToNat, Int.reduceLE, Int.reduceLT, Int.reduceEq, Int.reduceNeg, Int.reduceNe, Nat.reduceSub, IntKind.bits])
  refine ro_wcall (cRNum17 h0 q d D r.int.2.int.2.int.2.int.2.int.2.int.2.int.2.int.2.int.2.int.2.int.2.int.2.int.2.int.2.int.2.int.2 f34 W.rdr W.gd o16 (by first | exact hl | (simp only [RS.int_b]; exact hl))) (fun h35 J => ?_)
  replace W := W.call J.1 J.2
  have o17 := (RS.int_ok o16).1
  have gc := W.gc
  have lobc := W.lobc
  have ltc := W.ltc
  replace W := W.put [.int .i64 r.int.1, .int .i64 r.int.2.int.1, .int .i64 r.int.2.int.2.int.1, .int .i64 r.int.2.int.2.int.2.int.1, .int .i64 r.int.2.int.2.int.2.int.2.int.1, .int .i64 r.int.2.int.2.int.2.int.2.int.2.int.1, .int .i64 r.int.2.int.2.int.2.int.2.int.2.int.2.int.1, .int .i64 r.int.2.int.2.int.2.int.2.int.2.int.2.int.2.int.1, .int .i64 r.int.2.int.2.int.2.int.2.int.2.int.2.int.2.int.2.int.1, .int .i64 r.int.2.int.2.int.2.int.2.int.2.int.2.int.2.int.2.int.2.int.1, .int .i64 r.int.2.int.2.int.2.int.2.int.2.int.2.int.2.int.2.int.2.int.2.int.1, .int .i64 r.int.2.int.2.int.2.int.2.int.2.int.2.int.2.int.2.int.2.int.2.int.2.int.1, .int .i64 r.int.2.int.2.int.2.int.2.int.2.int.2.int.2.int.2.int.2.int.2.int.2.int.2.int.1, .int .i64 r.int.2.int.2.int.2.int.2.int.2.int.2.int.2.int.2.int.2.int.2.int.2.int.2.int.2.int.1, .int .i64 r.int.2.int.2.int.2.int.2.int.2.int.2.int.2.int.2.int.2.int.2.int.2.int.2.int.2.int.2.int.1, .int .i64 r.int.2.int.2.int.2.int.2.int.2.int.2.int.2.int.2.int.2.int.2.int.2.int.2.int.2.int.2.int.2.int.1, .int .i64 r.int.2.int.2.int.2.int.2.int.2.int.2.int.2.int.2.int.2.int.2.int.2.int.2.int.2.int.2.int.2.int.2.int.1, .int .i64 0, .bool false]
  simp (maxSteps := 10000000) (maxDischargeDepth := 30) only [gc, lobc, ltc, go_sem, Nat.reduceEqDiff, ↓reduceIte, Nat.reduceAdd, Nat.reduceMul, Nat.reduceLeDiff, Nat.reduceLT, reduceCtorEq, Int.reduceToNat, Int.reduceLE, Int.reduceLT, Int.reduceEq, Int.reduceNeg, Int.reduceNe, Nat.reduceSub, IntKind.bits]
  generalize h35.put (h.len + 1) ⟨false, [.int .i64 r.int.1, .int .i64 r.int.2.int.1, .int .i64 r.int.2.int.2.int.1, .int .i64 r.int.2.int.2.int.2.int.1, .int .i64 r.int.2.int.2.int.2.int.2.int.1, .int .i64 r.int.2.int.2.int.2.int.2.int.2.int.1, .int .i64 r.int.2.int.2.int.2.int.2.int.2.int.2.int.1, .int .i64 r.int.2.int.2.int.2.int.2.int.2.int.2.int.2.int.1, .int .i64 r.int.2.int.2.int.2.int.2.int.2.int.2.int.2.int.2.int.1, .int .i64 r.int.2.int.2.int.2.int.2.int.2.int.2.int.2.int.2.int.2.int.1, .int .i64 r.int.2.int.2.int.2.int.2.int.2.int.2.int.2.int.2.int.2.int.2.int.1, .int .i64 r.int.2.int.2.int.2.int.2.int.2.int.2.int.2.int.2.int.2.int.2.int.2.int.1, .int .i64 r.int.2.int.2.int.2.int.2.int.2.int.2.int.2.int.2.int.2.int.2.int.2.int.2.int.1, .int .i64 r.int.2.int.2.int.2.int.2.int.2.int.2.int.2.int.2.int.2.int.2.int.2.int.2.int.2.int.1, .int .i64 r.int.2.int.2.int.2.int.2.int.2.int.2.int.2.int.2.int.2.int.2.int.2.int.2.int.2.int.2.int.1, .int .i64 r.int.2.int.2.int.2.int.2.int.2.int.2.int.2.int.2.int.2.int.2.int.2.int.2.int.2.int.2.int.2.int.1, .int .i64 r.int.2.int.2.int.2.int.2.int.2.int.2.int.2.int.2.int.2.int.2.int.2.int.2.int.2.int.2.int.2.int.2.int.1, .int .i64 0, .bool false]⟩ = f36 at *
  clear gc lobc ltc
  try (simp (maxSteps := 10000000) (maxDischargeDepth := 30) only [go_sem, Nat.reduceEqDiff, ↓reduceIte, Nat.reduceAdd, Nat.reduceMul, Nat.reduceLeDiff, Nat.reduceLT, reduceCtorEq, Int.reduceToNat, Int.reduceLE, Int.reduceLT, Int.reduceEq, Int.reduceNeg, Int.reduceNe, Nat.reduceSub, IntKind.bits])
  refine ro_wcall (cRNum17 h0 q d D r.int.2.int.2.int.2.int.2.int.2.int.2.int.2.int.2.int.2.int.2.int.2.int.2.int.2.int.2.int.2.int.2.int.2 f36 W.rdr W.gd o17 (by first | exact hl | (simp only [RS.int_b]; exact hl))) (fun h37 J => ?_)
  replace W := W.call J.1 J.2
  have o18 := (RS.int_ok o17).1
  have gc := W.gc
  have lobc := W.lobc
  have ltc := W.ltc
  replace W := W.put [.int .i64 r.int.1, .int .i64 r.int.2.int.1, .int .i64 r.int.2.int.2.int.1, .int .i64 r.int.2.int.2.int.2.int.1, .int .i64 r.int.2.int.2.int.2.int.2.int.1, .int .i64 r.int.2.int.2.int.2.int.2.int.2.int.1, .int .i64 r.int.2.int.2.int.2.int.2.int.2.int.2.int.1, .int .i64 r.int.2.int.2.int.2.int.2.int.2.int.2.int.2.int.1, .int .i64 r.int.2.int.2.int.2.int.2.int.2.int.2.int.2.int.2.int.1, .int .i64 r.int.2.int.2.int.2.int.2.int.2.int.2.int.2.int.2.int.2.int.1, .int .i64 r.int.2.int.2.int.2.int.2.int.2.int.2.int.2.int.2.int.2.int.2.int.1, .int .i64 r.int.2.int.2.int.2.int.2.int.2.int.2.int.2.int.2.int.2.int.2.int.2.int.1, .int .i64 r.int.2.int.2.int.2.int.2.int.2.int.2.int.2.int.2.int.2.int.2.int.2.int.2.int.1, .int .i64 r.int.2.int.2.int.2.int.2.int.2.int.2.int.2.int.2.int.2.int.2.int.2.int.2.int.2.int.1, .int .i64 r.int.2.int.2.int.2.int.2.int.2.int.2.int.2.int.2.int.2.int.2.int.2.int.2.int.2.int.2.int.1, .int .i64 r.int.2.int.2.int.2.int.2.int.2.int.2.int.2.int.2.int.2.int.2.int.2.int.2.int.2.int.2.int.2.int.1, .int .i64 r.int.2.int.2.int.2.int.2.int.2.int.2.int.2.int.2.int.2.int.2.int.2.int.2.int.2.int.2.int.2.int.2.int.1, .int .i64 r.int.2.int.2.int.2.int.2.int.2.int.2.int.2.int.2.int.2.int.2.int.2.int.2.int.2.int.2.int.2.int.2.int.2.int.1, .bool false]
  simp (maxSteps := 10000000) (maxDischargeDepth := 30) only [gc, lobc, ltc, go_sem, Nat.reduceEqDiff, ↓reduceIte, Nat.reduceAdd, Nat.reduceMul, Nat.reduceLeDiff, Nat.reduceLT, reduceCtorEq, Int.reduceToNat, Int.reduceLE, Int.reduceLT, Int.reduceEq, Int.reduceNeg, Int.reduceNe, Nat.reduceSub, IntKind.bits]
  generalize h37.put (h.len + 1) ⟨false, [.int .i64 r.int.1, .int .i64 r.int.2.int.1, .int .i64 r.int.2.int.2.int.1, .int .i64 r.int.2.int.2.int.2.int.1, .int .i64 r.int.2.int.2.int.2.int.2.int.1, .int .i64 r.int.2.int.2.int.2.int.2.int.2.int.1, .int .i64 r.int.2.int.2.int.2.int.2.int.2.int.2.int.1, .int .i64 r.int.2.int.2.int.2.int.2.int.2.int.2.int.2.int.1, .int .i64 r.int.2.int.2.int.2.int.2.int.2.int.2.int.2.int.2.int.1, .int .i64 r.int.2.int.2.int.2.int.2.int.2.int.2.int.2.int.2.int.2.int.1, .int .i64 r.int.2.int.2.int.2.int.2.int.2.int.2.int.2.int.2.int.2.int.2.int.1, .int .i64 r.int.2.int.2.int.2.int.2.int.2.int.2.int.2.int.2.int.2.int.2.int.2.int.1, .int .i64 r.int.2.int.2.int.2.int.2.int.2.int.2.int.2.int.2.int.2.int.2.int.2.int.2.int.1, .int .i64 r.int.2.int.2.int.2.int.2.int.2.int.2.int.2.int.2.int.2.int.2.int.2.int.2.int.2.int.1, .int .i64 r.int.2.int.2.int.2.int.2.int.2.int.2.int.2.int.2.int.2.int.2.int.2.int.2.int.2.int.2.int.1, .int .i64 r.int.2.int.2.int.2.int.2.int.2.int.2.int.2.int.2.int.2.int.2.int.2.int.2.int.2.int.2.int.2.int.1, .int .i64 r.int.2.int.2.int.2.int.2.int.2.int.2.int.2.int.2.int.2.int.2.int.2.int.2.int.2.int.2.int.2.int.2.int.1, .int .i64 r.int.2.int.2.int.2.int.2.int.2.int.2.int.2.int.2.int.2.int.2.int.2.int.2.int.2.int.2.int.2.int.2.int.2.int.1, .bool false]⟩ = f38 at *
  clear gc lobc ltc
  try (simp (maxSteps := 10000000) (maxDischargeDepth := 30) only [go_sem, Nat.reduceEqDiff, ↓reduceIte, Nat.reduceAdd, Nat.reduceMul, Nat.reduceLeDiff, Nat.reduceLT, reduceCtorEq, Int.reduceToNat, Int.reduceLE, Int.reduceLT, Int.reduceEq, Int.reduceNeg, Int.reduceNe, Nat.reduceSub, IntKind.bits])
  refine ro_wcall (cRFlag17 h0 q d D r.int.2.int.2.int.2.int.2.int.2.int.2.int.2.int.2.int.2.int.2.int.2.int.2.int.2.int.2.int.2.int.2.int.2.int.2 f38 W.rdr W.gd o18 (by first | exact hl | (simp only [RS.int_b]; exact hl))) (fun h39 J => ?_)
  replace W := W.call J.1 J.2
  have gc := W.gc
  have lobc := W.lobc
  have ltc := W.ltc
  have ga := W.ga
  have loba := W.loba
  have lta := W.lta
  replace W := W.put [.int .i64 r.int.1, .int .i64 r.int.2.int.1, .int .i64 r.int.2.int.2.int.1, .int .i64 r.int.2.int.2.int.2.int.1, .int .i64 r.int.2.int.2.int.2.int.2.int.1, .int .i64 r.int.2.int.2.int.2.int.2.int.2.int.1, .int .i64 r.int.2.int.2.int.2.int.2.int.2.int.2.int.1, .int .i64 r.int.2.int.2.int.2.int.2.int.2.int.2.int.2.int.1, .int .i64 r.int.2.int.2.int.2.int.2.int.2.int.2.int.2.int.2.int.1, .int .i64 r.int.2.int.2.int.2.int.2.int.2.int.2.int.2.int.2.int.2.int.1, .int .i64 r.int.2.int.2.int.2.int.2.int.2.int.2.int.2.int.2.int.2.int.2.int.1, .int .i64 r.int.2.int.2.int.2.int.2.int.2.int.2.int.2.int.2.int.2.int.2.int.2.int.1, .int .i64 r.int.2.int.2.int.2.int.2.int.2.int.2.int.2.int.2.int.2.int.2.int.2.int.2.int.1, .int .i64 r.int.2.int.2.int.2.int.2.int.2.int.2.int.2.int.2.int.2.int.2.int.2.int.2.int.2.int.1, .int .i64 r.int.2.int.2.int.2.int.2.int.2.int.2.int.2.int.2.int.2.int.2.int.2.int.2.int.2.int.2.int.1, .int .i64 r.int.2.int.2.int.2.int.2.int.2.int.2.int.2.int.2.int.2.int.2.int.2.int.2.int.2.int.2.int.2.int.1, .int .i64 r.int.2.int.2.int.2.int.2.int.2.int.2.int.2.int.2.int.2.int.2.int.2.int.2.int.2.int.2.int.2.int.2.int.1, .int .i64 r.int.2.int.2.int.2.int.2.int.2.int.2.int.2.int.2.int.2.int.2.int.2.int.2.int.2.int.2.int.2.int.2.int.2.int.1, .bool r.int.2.int.2.int.2.int.2.int.2.int.2.int.2.int.2.int.2.int.2.int.2.int.2.int.2.int.2.int.2.int.2.int.2.int.2.bool.1]
  simp (maxSteps := 10000000) (maxDischargeDepth := 30) only [gc, lobc, ltc, ga, loba, lta, go_sem, Nat.reduceEqDiff, ↓reduceIte, Nat.reduceAdd, Nat.reduceMul, Nat.reduceLeDiff, Nat.reduceLT, reduceCtorEq, Int.reduceToNat, Int.reduceLE, Int.reduceLT, Int.reduceEq, Int.reduceNeg, Int.reduceNe, Nat.reduceSub, IntKind.bits]
  exact ⟨rfl, (W.fin (by omega) _).1, (W.fin (by omega) _).2⟩
end Go.LM
