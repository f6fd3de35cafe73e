import Derived.Test.YtpmpdidgbbgeeaaLmTrbR3
import Derived.Test.YtpmpdidgbbgeeaaLmbCodec7
import Derived.Test.YtpmpdidgbbgeeaaLmB18
namespace Go.LM
open Go.Proofs
set_option maxRecDepth 8000
set_option maxHeartbeats 4000000
set_option linter.unusedSimpArgs false

/-! ### numbers into places -/
def IPrInts (o : Option (Nat × Nat)) (js : List Nat) (h0 h : H) (p a c : Nat) (cs : List LV) (r : RS) (i : Nat) (s : S) (hh : H) : Prop :=
  s 2 = .ptr c 0 ∧ s 6 = mkS o 1 (js.map fun j => LV.ptr a j) ∧ s 7 = .int .i64 js.length ∧ s 8 = .int .i64 i ∧ i ≤ js.length ∧ hh.get c = some ⟨false, [.ptr p 0]⟩ ∧
    ∃ r' C, Rdr h0 p r' hh ∧ hh.get a = some ⟨false, C⟩ ∧ C.length = cs.length ∧ Ot2 p a h hh ∧ r'.ok ∧ r'.b = r.b ∧
      setN C (js.drop i) (numsR (js.length - i) r').1 = setN cs js (numsR js.length r).1 ∧ (numsR (js.length - i) r').2 = (numsR js.length r).2
theorem cPrInts (h0 : H) (p a : Nat) (o : Option (Nat × Nat)) (js : List Nat) (cs : List LV) (r : RS) (h : H) (R : Rdr h0 p r h) (ok : r.ok) (hl : r.b.length ≤ 1000000000000)
    (hg : h.get a = some ⟨false, cs⟩) (hap : a ≠ p) (ha0 : h0.len ≤ a) (hal : h.lob ≤ a) (hjs : ∀ j ∈ js, j < cs.length) (hjl : js.length ≤ 1000) :
    ∃ h', runI Try.prog TA 112 [.agg [.ptr p 0], mkS o 1 (js.map fun j => LV.ptr a j)] h = some (.tup [], h') ∧
      Rdr h0 p (numsR js.length r).2 h' ∧ h'.get a = some ⟨false, setN cs js (numsR js.length r).1⟩ ∧ Ot2 p a h h' := by
  refine calls_ex rfl res112 rfl ?_
  have la := lt_of_get hg
  have lt := R.lt
  have k1 := (Keep.refl h).alloc [.ptr p 0]
  simp (maxSteps := 10000000) (maxDischargeDepth := 30) only [q112, r112, go_sem, Nat.reduceEqDiff, ↓reduceIte, Nat.reduceAdd, Nat.reduceMul, Nat.reduceLeDiff, Nat.reduceLT, reduceCtorEq, Int.reduceToNat, Int.reduceLE, Int.reduceLT, Int.reduceEq, Int.reduceNeg, Int.reduceNe, Int.reducePow, Nat.reducePow, Nat.reduceSub, IntKind.bits]
  refine ru_loop (fun i => js.length - i) (IPrInts o js h0 h p a h.len cs r) 0 ?_ ?_
  · unfold IPrInts
    simp (maxSteps := 10000000) (maxDischargeDepth := 30) only [Int.natCast_zero, List.length_map, go_sem, Nat.reduceEqDiff, ↓reduceIte, Nat.reduceAdd, Nat.reduceMul, Nat.reduceLeDiff, Nat.reduceLT, reduceCtorEq, Int.reduceToNat, Int.reduceLE, Int.reduceLT, Int.reduceEq, Int.reduceNeg, Int.reduceNe, Int.reducePow, Nat.reducePow, Nat.reduceSub, IntKind.bits]
    exact ⟨r, cs, R.next k1, by rw [get_alloc_lt la]; exact hg, rfl, k1.two p a, ok, rfl, rfl, rfl⟩
  · rintro i s hh ⟨e2, e6, e7, e8, hi, gc, r', C, R', ga, hC, O, ok', hb', hn1, hn2⟩
    by_cases c1 : (i : Int) < js.length
    rotate_left
    · obtain rfl : i = js.length := by omega
      rw [Nat.sub_self, List.drop_length] at hn1
      rw [Nat.sub_self] at hn2
      have e1 : C = setN cs js (numsR js.length r).1 := by rw [← hn1]; cases C <;> rfl
      have e2' : r' = (numsR js.length r).2 := hn2
      simp (maxSteps := 10000000) (maxDischargeDepth := 30) only [e2, e6, e7, e8, c1, go_sem, Nat.reduceEqDiff, ↓reduceIte, Nat.reduceAdd, Nat.reduceMul, Nat.reduceLeDiff, Nat.reduceLT, reduceCtorEq, Int.reduceToNat, Int.reduceLE, Int.reduceLT, Int.reduceEq, Int.reduceNeg, Int.reduceNe, Int.reducePow, Nat.reducePow, Nat.reduceSub, IntKind.bits]
      rw [← e1, ← e2']
      exact ⟨R', ga, O⟩
    refine ru_step ?_
    obtain ⟨j, hj⟩ : ∃ j, js[i]? = some j := ⟨js[i], List.getElem?_eq_getElem (by omega)⟩
    have ia : iaS (js.map fun j => LV.ptr a j) (i : Int) = some (.cptr (.ptr a j)) := iaS_map (Int.natCast_nonneg i) (by simpa using hj)
    have hjC : j + 1 ≤ C.length := by have := hjs j (List.mem_of_getElem? hj); omega
    have hdj : js.drop i = j :: js.drop (i + 1) := by
      obtain ⟨hlt, rfl⟩ := List.getElem?_eq_some_iff.1 hj
      exact List.drop_eq_getElem_cons hlt
    rw [hdj, show js.length - i = (js.length - (i + 1)) + 1 by omega] at hn1
    rw [show js.length - i = (js.length - (i + 1)) + 1 by omega] at hn2
    simp only [numsR, setN] at hn1 hn2
    have ew : IntKind.i64.wrap ((i : Int) + 1) = ((i + 1 : Nat) : Int) := by rw [wrap64 (by omega) (by omega)]; omega
    simp (maxSteps := 10000000) (maxDischargeDepth := 30) only [e2, e6, e7, e8, c1, ia, gc, go_sem, Nat.reduceEqDiff, ↓reduceIte, Nat.reduceAdd, Nat.reduceMul, Nat.reduceLeDiff, Nat.reduceLT, reduceCtorEq, Int.reduceToNat, Int.reduceLE, Int.reduceLT, Int.reduceEq, Int.reduceNeg, Int.reduceNe, Int.reducePow, Nat.reducePow, Nat.reduceSub, IntKind.bits]
    refine ro_wcall (cRdInt h0 p r' hh R' ok' (by rw [hb']; exact hl)) (fun h3 J => ?_)
    obtain ⟨R3, O3⟩ := J
    have ga3 := (O3.get (lt_of_get ga) hap).trans ga
    have lo3 : h3.lob ≤ a := by rw [O3.lob, O.lob]; exact hal
    have R4 := R3.put2 hap ha0 ⟨false, C.set j (.int .i64 r'.int.1)⟩
    have hcp : h.len ≠ p := by omega
    have hca : h.len ≠ a := by omega
    have gc4 : (h3.put a ⟨false, C.set j (.int .i64 r'.int.1)⟩).get h.len = some ⟨false, [.ptr p 0]⟩ := by
      rw [get_put_ne (by omega)]
      exact (O3.get (lt_of_get gc) hcp).trans gc
    simp (maxSteps := 10000000) (maxDischargeDepth := 30) only [e2, e6, e7, e8, ga3, lo3, hjC, ew, go_sem, Nat.reduceEqDiff, ↓reduceIte, Nat.reduceAdd, Nat.reduceMul, Nat.reduceLeDiff, Nat.reduceLT, reduceCtorEq, Int.reduceToNat, Int.reduceLE, Int.reduceLT, Int.reduceEq, Int.reduceNeg, Int.reduceNe, Int.reducePow, Nat.reducePow, Nat.reduceSub, IntKind.bits]
    refine ⟨i + 1, by omega, ?_⟩
    unfold IPrInts
    simp (maxSteps := 10000000) (maxDischargeDepth := 30) only [e2, e6, e7, gc4, go_sem, Nat.reduceEqDiff, ↓reduceIte, Nat.reduceAdd, Nat.reduceMul, Nat.reduceLeDiff, Nat.reduceLT, reduceCtorEq, Int.reduceToNat, Int.reduceLE, Int.reduceLT, Int.reduceEq, Int.reduceNeg, Int.reduceNe, Int.reducePow, Nat.reducePow, Nat.reduceSub, IntKind.bits]
    exact ⟨by omega, r'.int.2, _, R4, by rw [get_put_eq (lt_of_get ga3)], by simpa using hC, (O.trans (O3.two a)).trans (.put p a _ h3), (RS.int_ok ok').1, r'.int_b.trans hb', hn1, hn2⟩

abbrev zI (n : Int) : LV := .int .i64 n
def IPrPut (h0 h g : H) (p : Nat) (r : RS) (i : Nat) (s : S) (hh : H) : Prop :=
  s 1 = .ptr h.len 0 ∧ s 2 = .ptr (h.len + 1) 0 ∧ s 3 = .ptr (h.len + 1 + 1) 0 ∧ s 14 = .agg [.ptr (h.len + 1 + 1) 3, .ptr (h.len + 1 + 1) 4] ∧ s 15 = .int .i64 i ∧
    hh.get h.len = some ⟨false, [.ptr p 0]⟩ ∧ hh.get (h.len + 1) = some ⟨false, [zI 0, zI 0, zI 0, zI 0, zI 0]⟩ ∧ Ot2 p (h.len + 1 + 1) g hh ∧
    ∃ r' C, Rdr h0 p r' hh ∧ hh.get (h.len + 1 + 1) = some ⟨false, C⟩ ∧ r'.ok ∧ r'.b = r.b ∧
    ((i = 0 ∧ r' = r.int.2.int.2.int.2 ∧ C = [zI r.int.1, zI r.int.2.int.1, zI r.int.2.int.2.int.1, zI 0, zI 0]) ∨
     (i = 1 ∧ r' = r.int.2.int.2.int.2.int.2 ∧ C = [zI r.int.1, zI r.int.2.int.1, zI r.int.2.int.2.int.1, zI r.int.2.int.2.int.2.int.1, zI 0]) ∨
     (i = 2 ∧ r' = (putRd r).2 ∧ C = [zI (putRd r).1.k, zI (putRd r).1.n, zI (putRd r).1.l, zI (putRd r).1.y, zI (putRd r).1.h]))
theorem cPrPut (h0 : H) (p : Nat) (r : RS) (h : H) (R : Rdr h0 p r h) (ok : r.ok) (hl : r.b.length ≤ 1000000000000) :
    ∃ v h', runI Try.prog TA 130 [.agg [.ptr p 0]] h = some (v, h') ∧ v = (putRd r).1.e ∧ Rdr h0 p (putRd r).2 h' ∧ Otr p h h' := by
  refine calls_of rfl res130 rfl ?_
  have lt := R.lt
  have lo := R.wf.1
  simp (maxSteps := 10000000) (maxDischargeDepth := 30) only [q130, r130, go_sem, Nat.reduceEqDiff, ↓reduceIte, Nat.reduceAdd, Nat.reduceMul, Nat.reduceLeDiff, Nat.reduceLT, reduceCtorEq, Int.reduceToNat, Int.reduceLE, Int.reduceLT, Int.reduceEq, Int.reduceNeg, Int.reduceNe, Int.reducePow, Nat.reducePow, Nat.reduceSub, IntKind.bits]
  generalize hgg : H.nrow _ _ = g
  have kg : Keep h g := by rw [← hgg]; exact ((((Keep.refl h).alloc _).alloc _).alloc _).nrow _
  have ga1 : g.get h.len = some ⟨false, [.ptr p 0]⟩ := by rw [← hgg]; simp (maxSteps := 10000000) (maxDischargeDepth := 30) only [go_sem, Nat.reduceEqDiff, ↓reduceIte, Nat.reduceAdd, Nat.reduceMul, Nat.reduceLeDiff, Nat.reduceLT, reduceCtorEq, Int.reduceToNat, Int.reduceLE, Int.reduceLT, Int.reduceEq, Int.reduceNeg, Int.reduceNe, Int.reducePow, Nat.reducePow, Nat.reduceSub, IntKind.bits]
  have ga2 : g.get (h.len + 1) = some ⟨false, [zI 0, zI 0, zI 0, zI 0, zI 0]⟩ := by rw [← hgg]; simp (maxSteps := 10000000) (maxDischargeDepth := 30) only [go_sem, Nat.reduceEqDiff, ↓reduceIte, Nat.reduceAdd, Nat.reduceMul, Nat.reduceLeDiff, Nat.reduceLT, reduceCtorEq, Int.reduceToNat, Int.reduceLE, Int.reduceLT, Int.reduceEq, Int.reduceNeg, Int.reduceNe, Int.reducePow, Nat.reducePow, Nat.reduceSub, IntKind.bits]
  have ga3 : g.get (h.len + 1 + 1) = some ⟨false, [zI 0, zI 0, zI 0, zI 0, zI 0]⟩ := by rw [← hgg]; simp (maxSteps := 10000000) (maxDischargeDepth := 30) only [go_sem, Nat.reduceEqDiff, ↓reduceIte, Nat.reduceAdd, Nat.reduceMul, Nat.reduceLeDiff, Nat.reduceLT, reduceCtorEq, Int.reduceToNat, Int.reduceLE, Int.reduceLT, Int.reduceEq, Int.reduceNeg, Int.reduceNe, Int.reducePow, Nat.reducePow, Nat.reduceSub, IntKind.bits]
  have gl : g.len = h.len + 1 + 1 + 1 := by rw [← hgg]; simp (maxSteps := 10000000) (maxDischargeDepth := 30) only [go_sem, Nat.reduceEqDiff, ↓reduceIte, Nat.reduceAdd, Nat.reduceMul, Nat.reduceLeDiff, Nat.reduceLT, reduceCtorEq, Int.reduceToNat, Int.reduceLE, Int.reduceLT, Int.reduceEq, Int.reduceNeg, Int.reduceNe, Int.reducePow, Nat.reducePow, Nat.reduceSub, IntKind.bits]
  have gb := kg.lob
  have hk := R.keep.len
  refine ro_wcall (cPrInts h0 p (h.len + 1 + 1) (some (h.rlen, 3)) [0, 1, 2] [zI 0, zI 0, zI 0, zI 0, zI 0] r g (R.next kg) ok hl ga3 (by omega) (by omega) (by omega) (by simp) (by simp)) (fun h3 J => ?_)
  obtain ⟨R3, g3, O3⟩ := J
  have ga13 := (O3.get h.len (by omega) (by omega) (by omega)).trans ga1
  have ga23 := (O3.get (h.len + 1) (by omega) (by omega) (by omega)).trans ga2
  simp (maxSteps := 10000000) (maxDischargeDepth := 30) only [go_sem, Nat.reduceEqDiff, ↓reduceIte, Nat.reduceAdd, Nat.reduceMul, Nat.reduceLeDiff, Nat.reduceLT, reduceCtorEq, Int.reduceToNat, Int.reduceLE, Int.reduceLT, Int.reduceEq, Int.reduceNeg, Int.reduceNe, Int.reducePow, Nat.reducePow, Nat.reduceSub, IntKind.bits]
  refine ru_loop (fun i => 2 - i) (IPrPut h0 h g p r) 0 ?_ ?_
  · unfold IPrPut
    simp (maxSteps := 10000000) (maxDischargeDepth := 30) only [Int.natCast_zero, go_sem, Nat.reduceEqDiff, ↓reduceIte, Nat.reduceAdd, Nat.reduceMul, Nat.reduceLeDiff, Nat.reduceLT, reduceCtorEq, Int.reduceToNat, Int.reduceLE, Int.reduceLT, Int.reduceEq, Int.reduceNeg, Int.reduceNe, Int.reducePow, Nat.reducePow, Nat.reduceSub, IntKind.bits]
    exact ⟨ga13, ga23, O3, r.int.2.int.2.int.2, _, R3, g3, (nums_one 3).ok r ok, (nums_one 3).b r, rfl, rfl⟩
  · rintro i s hh ⟨e1, e2, e3, e14, e15, g1, g2, O, r', C, R', gC, ok', hb', hcase⟩
    have hhl := O.len
    have lob' : hh.lob ≤ h.len + 1 + 1 := by rw [O.lob, gb]; omega
    have lob1 : hh.lob ≤ h.len + 1 := by rw [O.lob, gb]; omega
    have l1 : h.len + 1 < hh.len := lt_of_get g2
    rcases hcase with ⟨rfl, rfl, rfl⟩ | ⟨rfl, rfl, rfl⟩ | ⟨rfl, rfl, rfl⟩
    · refine ru_step ?_
      have e15' : s 15 = .int .i64 0 := e15
      have ew : IntKind.i64.wrap 1 = 1 := rfl
      have en : ((1 : Nat) : Int) = 1 := rfl
      simp (maxSteps := 10000000) (maxDischargeDepth := 30) only [e1, e2, e3, e14, e15', g1, go_sem, Nat.reduceEqDiff, ↓reduceIte, Nat.reduceAdd, Nat.reduceMul, Nat.reduceLeDiff, Nat.reduceLT, reduceCtorEq, Int.reduceToNat, Int.reduceLE, Int.reduceLT, Int.reduceEq, Int.reduceNeg, Int.reduceNe, Int.reducePow, Nat.reducePow, Nat.reduceSub, IntKind.bits]
      refine ro_wcall (cRdInt h0 p _ hh R' ok' (by rw [hb']; exact hl)) (fun h4 J => ?_)
      obtain ⟨R4, O4⟩ := J
      have gC4 := (O4.get (lt_of_get gC) (by omega)).trans gC
      have g14 := (O4.get (lt_of_get g1) (by omega)).trans g1
      have g24 := (O4.get (lt_of_get g2) (by omega)).trans g2
      have lob4 : h4.lob ≤ h.len + 1 + 1 := by rw [O4.lob]; exact lob'
      simp (maxSteps := 10000000) (maxDischargeDepth := 30) only [e1, e2, e3, e14, e15', gC4, lob4, ew, Int.reduceAdd, go_sem, Nat.reduceEqDiff, ↓reduceIte, Nat.reduceAdd, Nat.reduceMul, Nat.reduceLeDiff, Nat.reduceLT, reduceCtorEq, Int.reduceToNat, Int.reduceLE, Int.reduceLT, Int.reduceEq, Int.reduceNeg, Int.reduceNe, Int.reducePow, Nat.reducePow, Nat.reduceSub, IntKind.bits]
      refine ⟨1, by omega, ?_⟩
      unfold IPrPut
      simp (maxSteps := 10000000) (maxDischargeDepth := 30) only [e1, e2, e3, e14, e15', ew, en, Int.reduceAdd, go_sem, Nat.reduceEqDiff, ↓reduceIte, Nat.reduceAdd, Nat.reduceMul, Nat.reduceLeDiff, Nat.reduceLT, reduceCtorEq, Int.reduceToNat, Int.reduceLE, Int.reduceLT, Int.reduceEq, Int.reduceNeg, Int.reduceNe, Int.reducePow, Nat.reducePow, Nat.reduceSub, IntKind.bits]
      refine ⟨g14, g24, (O.trans (O4.two _)).trans (.put p _ _ h4), _, _, R4.put2 (by omega) (by omega) _, get_put_eq (lt_of_get gC4), (RS.int_ok ok').1, (RS.int_b _).trans hb', rfl, rfl⟩
    · refine ru_step ?_
      have e15' : s 15 = .int .i64 1 := e15
      have ew : IntKind.i64.wrap 2 = 2 := rfl
      have en : ((2 : Nat) : Int) = 2 := rfl
      simp (maxSteps := 10000000) (maxDischargeDepth := 30) only [e1, e2, e3, e14, e15', g1, go_sem, Nat.reduceEqDiff, ↓reduceIte, Nat.reduceAdd, Nat.reduceMul, Nat.reduceLeDiff, Nat.reduceLT, reduceCtorEq, Int.reduceToNat, Int.reduceLE, Int.reduceLT, Int.reduceEq, Int.reduceNeg, Int.reduceNe, Int.reducePow, Nat.reducePow, Nat.reduceSub, IntKind.bits]
      refine ro_wcall (cRdInt h0 p _ hh R' ok' (by rw [hb']; exact hl)) (fun h4 J => ?_)
      obtain ⟨R4, O4⟩ := J
      have gC4 := (O4.get (lt_of_get gC) (by omega)).trans gC
      have g14 := (O4.get (lt_of_get g1) (by omega)).trans g1
      have g24 := (O4.get (lt_of_get g2) (by omega)).trans g2
      have lob4 : h4.lob ≤ h.len + 1 + 1 := by rw [O4.lob]; exact lob'
      simp (maxSteps := 10000000) (maxDischargeDepth := 30) only [e1, e2, e3, e14, e15', gC4, lob4, ew, Int.reduceAdd, go_sem, Nat.reduceEqDiff, ↓reduceIte, Nat.reduceAdd, Nat.reduceMul, Nat.reduceLeDiff, Nat.reduceLT, reduceCtorEq, Int.reduceToNat, Int.reduceLE, Int.reduceLT, Int.reduceEq, Int.reduceNeg, Int.reduceNe, Int.reducePow, Nat.reducePow, Nat.reduceSub, IntKind.bits]
      refine ⟨2, by omega, ?_⟩
      unfold IPrPut
      simp (maxSteps := 10000000) (maxDischargeDepth := 30) only [e1, e2, e3, e14, e15', ew, en, Int.reduceAdd, go_sem, Nat.reduceEqDiff, ↓reduceIte, Nat.reduceAdd, Nat.reduceMul, Nat.reduceLeDiff, Nat.reduceLT, reduceCtorEq, Int.reduceToNat, Int.reduceLE, Int.reduceLT, Int.reduceEq, Int.reduceNeg, Int.reduceNe, Int.reducePow, Nat.reducePow, Nat.reduceSub, IntKind.bits]
      refine ⟨g14, g24, (O.trans (O4.two _)).trans (.put p _ _ h4), _, _, R4.put2 (by omega) (by omega) _, get_put_eq (lt_of_get gC4), (RS.int_ok ok').1, (RS.int_b _).trans hb', rfl, rfl⟩
    · have e15' : s 15 = .int .i64 2 := e15
      simp (maxSteps := 10000000) (maxDischargeDepth := 30) only [e1, e2, e3, e14, e15', g1, g2, gC, lob1, l1, go_sem, Nat.reduceEqDiff, ↓reduceIte, Nat.reduceAdd, Nat.reduceMul, Nat.reduceLeDiff, Nat.reduceLT, reduceCtorEq, Int.reduceToNat, Int.reduceLE, Int.reduceLT, Int.reduceEq, Int.reduceNeg, Int.reduceNe, Int.reducePow, Nat.reducePow, Nat.reduceSub, IntKind.bits]
      exact ⟨rfl, R'.put2 (by omega) (by omega) _, (Ot2.otr (kg.otr p) (by omega) O).new (by omega) _⟩
end Go.LM
