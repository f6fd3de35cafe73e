import Derived.Test.YtpmpdidgbbgeeaaLmTrbR3
import Derived.Test.YtpmpdidgbbgeeaaLmbProof2
namespace Go.LM
open Go.Proofs
set_option maxRecDepth 8000
set_option maxHeartbeats 4000000
set_option linter.unusedSimpArgs false

/-! ### the document's reader of pages -/
theorem cRNum40 (h0 : H) (q d : Nat) (r : RS) (h : H) (R : Rdr h0 q r h) (gd : h.get d = some ⟨false, [.ptr q 0]⟩) (ok : r.ok) (hl : r.b.length ≤ 1000000000000) :
    ∃ h', runI Try.prog TA 115 [.ptr d 0] h = some (.int .i64 r.int.1, h') ∧ Rdr h0 q r.int.2 h' ∧ Otr q h h' := by
  refine calls_ex rfl res115 rfl ?_
  simp (maxSteps := 10000000) (maxDischargeDepth := 30) only [q115, r115, gd, go_sem, Nat.reduceEqDiff, ↓reduceIte, Nat.reduceAdd, Nat.reduceMul, Nat.reduceLeDiff, Nat.reduceLT, reduceCtorEq, Int.reduceToNat, Int.reduceLE, Int.reduceLT, Int.reduceEq, Int.reduceNeg, Int.reduceNe, Int.reducePow, Nat.reducePow, Nat.reduceSub, IntKind.bits]
  refine ro_wcall (cXInt h0 q r h R ok hl) (fun h1 J => ?_)
  have e64 : IntKind.i64.wrap r.int.1 = r.int.1 := wrap64 (RS.int_ok ok).2.1.1 (RS.int_ok ok).2.1.2
  simp (maxSteps := 10000000) (maxDischargeDepth := 30) only [e64, go_sem, Nat.reduceEqDiff, ↓reduceIte, Nat.reduceAdd, Nat.reduceMul, Nat.reduceLeDiff, Nat.reduceLT, reduceCtorEq, Int.reduceToNat, Int.reduceLE, Int.reduceLT, Int.reduceEq, Int.reduceNeg, Int.reduceNe, Int.reducePow, Nat.reducePow, Nat.reduceSub, IntKind.bits]
  exact J
def ILane40 (h0 h : H) (q d c : Nat) (r : RS) (n i : Nat) (s : S) (hh : H) : Prop :=
  s 0 = .ptr d 0 ∧ s 2 = .ptr h.len 0 ∧ s 3 = .ptr c 0 ∧ s 4 = .int .i64 n ∧ s 5 = .int .i64 i ∧ hh.get d = some ⟨false, [.ptr q 0]⟩ ∧ hh.get h.len = some ⟨false, [.int .i64 0, .nils]⟩ ∧
  ∃ (o : Option (Nat × Nat)) (zs : List PutR) (r' : RS), hh.get c = some ⟨false, [.int .i64 r.int.1, mkS o 5 (zs.map PutR.e)]⟩ ∧ zs.length = i ∧ i ≤ n ∧ Gth h0 h q r' o zs.length hh ∧ r'.ok ∧ r'.b = r.b ∧
    gather putRd n r.int.2.count.2 = (zs ++ (gather putRd (n - i) r').1, (gather putRd (n - i) r').2)
theorem cRLane40 (h0 : H) (q d : Nat) (r : RS) (h : H) (R : Rdr h0 q r h) (gd : h.get d = some ⟨false, [.ptr q 0]⟩) (hdq : d ≠ q) (ok : r.ok) (hl : r.b.length ≤ 1000000000000) :
    ∃ v h', runI Try.prog TA 116 [.ptr d 0] h = some (v, h') ∧ (∃ x : LaneR, v = x.e ∧ x.plain = (laneX r).1) ∧ Rdr h0 q (laneX r).2 h' ∧ Otr q h h' := by
  refine calls_of rfl res116 rfl ?_
  have lt := R.lt
  have lo := R.wf.1
  have hk := R.keep.len
  have ld := lt_of_get gd
  have hh0 : h0.rlen ≤ h.rlen := R.keep.rlen
  have e64 : ∀ r : RS, r.ok → IntKind.i64.wrap r.int.1 = r.int.1 := fun r ok => wrap64 (RS.int_ok ok).2.1.1 (RS.int_ok ok).2.1.2
  simp (maxSteps := 10000000) (maxDischargeDepth := 30) only [q116, r116, gd, ld, go_sem, Nat.reduceEqDiff, ↓reduceIte, Nat.reduceAdd, Nat.reduceMul, Nat.reduceLeDiff, Nat.reduceLT, reduceCtorEq, Int.reduceToNat, Int.reduceLE, Int.reduceLT, Int.reduceEq, Int.reduceNeg, Int.reduceNe, Int.reducePow, Nat.reducePow, Nat.reduceSub, IntKind.bits]
  have k1 := (Keep.refl h).alloc [.int .i64 0, .nils]
  have g1 : (h.alloc [.int .i64 0, .nils]).get h.len = some ⟨false, [.int .i64 0, .nils]⟩ := get_alloc_eq _ _
  refine ro_wcall (cXInt h0 q r _ (R.next k1) ok hl) (fun h2 J => ?_)
  obtain ⟨R2, O2⟩ := J
  have ok2 := (RS.int_ok ok).1
  have O2' := (k1.otr q).trans O2
  have gd2 := (O2'.get ld hdq).trans gd
  have g12 := (O2.get (by simp) (by omega)).trans g1
  have l2 := O2.len
  rw [len_alloc] at l2
  have lo2 := R2.wf.1
  have e1 := e64 r ok
  have lob2 : h2.lob ≤ h.len := by rw [O2'.lob]; exact lo
  simp (maxSteps := 10000000) (maxDischargeDepth := 30) only [e1, lo2, go_sem, Nat.reduceEqDiff, ↓reduceIte, Nat.reduceAdd, Nat.reduceMul, Nat.reduceLeDiff, Nat.reduceLT, reduceCtorEq, Int.reduceToNat, Int.reduceLE, Int.reduceLT, Int.reduceEq, Int.reduceNeg, Int.reduceNe, Int.reducePow, Nat.reducePow, Nat.reduceSub, IntKind.bits]
  generalize hgg : (h2.alloc _).put _ _ = g
  have kg : Keep h2 g := by rw [← hgg]; exact ((Keep.refl h2).alloc _).put (Nat.le_refl _) _
  have gc : g.get h2.len = some ⟨false, [.int .i64 r.int.1, .nils]⟩ := by rw [← hgg]; simp (maxSteps := 10000000) (maxDischargeDepth := 30) only [go_sem, Nat.reduceEqDiff, ↓reduceIte, Nat.reduceAdd, Nat.reduceMul, Nat.reduceLeDiff, Nat.reduceLT, reduceCtorEq, Int.reduceToNat, Int.reduceLE, Int.reduceLT, Int.reduceEq, Int.reduceNeg, Int.reduceNe, Int.reducePow, Nat.reducePow, Nat.reduceSub, IntKind.bits]
  have Rg := R2.next kg
  have Og := O2'.trans (kg.otr q)
  have gdg := (kg.get (lt_of_get gd2)).trans gd2
  have g1g := (kg.get (lt_of_get g12)).trans g12
  simp (maxSteps := 10000000) (maxDischargeDepth := 30) only [gdg, go_sem, Nat.reduceEqDiff, ↓reduceIte, Nat.reduceAdd, Nat.reduceMul, Nat.reduceLeDiff, Nat.reduceLT, reduceCtorEq, Int.reduceToNat, Int.reduceLE, Int.reduceLT, Int.reduceEq, Int.reduceNeg, Int.reduceNe, Int.reducePow, Nat.reducePow, Nat.reduceSub, IntKind.bits]
  refine ro_wcall (cXCount h0 q r.int.2 g Rg ok2 (by rw [r.int_b]; exact hl)) (fun h3 J => ?_)
  obtain ⟨R3, O3⟩ := J
  have hc := RS.count_ok ok2
  have hcb := r.int.2.count_b
  obtain ⟨n, hn⟩ : ∃ n : Nat, r.int.2.count.1 = (n : Int) := ⟨r.int.2.count.1.toNat, by omega⟩
  have hnt : r.int.2.count.1.toNat = n := by omega
  have hnb : n ≤ 1000000000000 := by have := hc.2.2; rw [r.int_b] at this; omega
  have hqc : q ≠ h2.len := by have := R2.lt; omega
  have gd3 := (O3.get (lt_of_get gdg) hdq).trans gdg
  have g13 := (O3.get (lt_of_get g1g) (by omega)).trans g1g
  have gc3 := (O3.get (lt_of_get gc) (Ne.symm hqc)).trans gc
  rw [hn]
  simp (maxSteps := 10000000) (maxDischargeDepth := 30) only [go_sem, Nat.reduceEqDiff, ↓reduceIte, Nat.reduceAdd, Nat.reduceMul, Nat.reduceLeDiff, Nat.reduceLT, reduceCtorEq, Int.reduceToNat, Int.reduceLE, Int.reduceLT, Int.reduceEq, Int.reduceNeg, Int.reduceNe, Int.reducePow, Nat.reducePow, Nat.reduceSub, IntKind.bits]
  refine ru_loop (fun i => n - i) (ILane40 h0 h q d h2.len r n) 0 ?_ ?_
  · unfold ILane40
    simp (maxSteps := 10000000) (maxDischargeDepth := 30) only [Int.natCast_zero, go_sem, Nat.reduceEqDiff, ↓reduceIte, Nat.reduceAdd, Nat.reduceMul, Nat.reduceLeDiff, Nat.reduceLT, reduceCtorEq, Int.reduceToNat, Int.reduceLE, Int.reduceLT, Int.reduceEq, Int.reduceNeg, Int.reduceNe, Int.reducePow, Nat.reducePow, Nat.reduceSub, IntKind.bits]
    exact ⟨gd3, g13, none, [], r.int.2.count.2, gc3, rfl, .start R3 (Og.trans O3), hc.1, hcb.trans r.int_b, by simp⟩
  · rintro i s hh ⟨e0, e2, e3, e4, e5, gd, g1, o, zs, r', gz, hz, hi, G, ok', hb', hg⟩
    obtain ⟨t, hq⟩ := G.rdr.get
    have l1 := lt_of_get g1
    have lob1 : hh.lob ≤ h.len := by rw [G.otr.lob]; exact lo
    have fin : gather putRd n r.int.2.count.2 = (zs, r') → laneX r = ((r.int.1, zs), r') := by
      intro e
      unfold laneX gatherX
      rw [hnt, e]
    by_cases c1 : (i : Int) < n
    rotate_left
    · have hx := fin (fin_gather hg (.inl (by omega)))
      simp (maxSteps := 10000000) (maxDischargeDepth := 30) only [e0, e2, e3, e4, e5, c1, gd, gz, g1, l1, lob1, go_sem, Nat.reduceEqDiff, ↓reduceIte, Nat.reduceAdd, Nat.reduceMul, Nat.reduceLeDiff, Nat.reduceLT, reduceCtorEq, Int.reduceToNat, Int.reduceLE, Int.reduceLT, Int.reduceEq, Int.reduceNeg, Int.reduceNe, Int.reducePow, Nat.reducePow, Nat.reduceSub, IntKind.bits]
      rw [hx]
      exact ⟨⟨⟨r.int.1, o, zs⟩, rfl, rfl⟩, G.rdr.put2 (by omega) (by omega) _, G.otr.new (Nat.le_refl _) _⟩
    by_cases hs : r'.stop = true
    · have hx := fin (fin_gather hg (.inr hs))
      simp (maxSteps := 10000000) (maxDischargeDepth := 30) only [e0, e2, e3, e4, e5, c1, gd, hq, hs, gz, g1, l1, lob1, go_sem, Nat.reduceEqDiff, ↓reduceIte, Nat.reduceAdd, Nat.reduceMul, Nat.reduceLeDiff, Nat.reduceLT, reduceCtorEq, Int.reduceToNat, Int.reduceLE, Int.reduceLT, Int.reduceEq, Int.reduceNeg, Int.reduceNe, Int.reducePow, Nat.reducePow, Nat.reduceSub, IntKind.bits]
      rw [hx]
      exact ⟨⟨⟨r.int.1, o, zs⟩, rfl, rfl⟩, G.rdr.put2 (by omega) (by omega) _, G.otr.new (Nat.le_refl _) _⟩
    refine ru_step ?_
    have hs' : r'.stop = false := by simpa using hs
    have hlr : r'.b.length ≤ 1000000000000 := by rw [hb']; exact hl
    simp (maxSteps := 10000000) (maxDischargeDepth := 30) only [e0, e2, e3, e4, e5, c1, gd, hq, hs', go_sem, Nat.reduceEqDiff, ↓reduceIte, Nat.reduceAdd, Nat.reduceMul, Nat.reduceLeDiff, Nat.reduceLT, reduceCtorEq, Int.reduceToNat, Int.reduceLE, Int.reduceLT, Int.reduceEq, Int.reduceNeg, Int.reduceNe, Int.reducePow, Nat.reducePow, Nat.reduceSub, IntKind.bits]
    refine ro_wcall (cRNum40 h0 q d r' hh G.rdr gd ok' hlr) (fun h4 J => ?_)
    obtain ⟨R4, O4⟩ := J
    have gd4 := (O4.get (lt_of_get gd) hdq).trans gd
    have g14 := (O4.get l1 (by omega)).trans g1
    have gz4 := (O4.get (lt_of_get gz) (Ne.symm hqc)).trans gz
    have lo4 := R4.wf.1
    have G4 := G.step R4 O4
    have lq4 := R4.lt
    have ld4 := lt_of_get gd4
    have l14 := lt_of_get g14
    have lz4 := lt_of_get gz4
    have hk4 := R4.keep.len
    have o1 := (RS.int_ok ok').1
    have ew1 := e64 r' ok'
    simp (maxSteps := 10000000) (maxDischargeDepth := 30) only [e0, e2, e3, e4, e5, lo4, ew1, go_sem, Nat.reduceEqDiff, ↓reduceIte, Nat.reduceAdd, Nat.reduceMul, Nat.reduceLeDiff, Nat.reduceLT, reduceCtorEq, Int.reduceToNat, Int.reduceLE, Int.reduceLT, Int.reduceEq, Int.reduceNeg, Int.reduceNe, Int.reducePow, Nat.reducePow, Nat.reduceSub, IntKind.bits]
    generalize hgg4 : (h4.alloc _).put _ _ = f4
    have kf : Keep h4 f4 := by rw [← hgg4]; exact ((Keep.refl h4).alloc _).put (Nat.le_refl _) _
    have gx4 : f4.get h4.len = some ⟨false, [.int .i64 r'.int.1, .int .i64 0, .int .i64 0, .int .i64 0, .int .i64 0]⟩ := by rw [← hgg4]; simp (maxSteps := 10000000) (maxDischargeDepth := 30) only [go_sem, Nat.reduceEqDiff, ↓reduceIte, Nat.reduceAdd, Nat.reduceMul, Nat.reduceLeDiff, Nat.reduceLT, reduceCtorEq, Int.reduceToNat, Int.reduceLE, Int.reduceLT, Int.reduceEq, Int.reduceNeg, Int.reduceNe, Int.reducePow, Nat.reducePow, Nat.reduceSub, IntKind.bits]
    have G4f := G4.next kf
    have gd4f := (kf.get ld4).trans gd4
    have g14f := (kf.get l14).trans g14
    have gz4f := (kf.get lz4).trans gz4
    have Gp4 := G4f
    try (simp (maxSteps := 10000000) (maxDischargeDepth := 30) only [e0, e2, e3, e4, e5, gd4f, go_sem, Nat.reduceEqDiff, ↓reduceIte, Nat.reduceAdd, Nat.reduceMul, Nat.reduceLeDiff, Nat.reduceLT, reduceCtorEq, Int.reduceToNat, Int.reduceLE, Int.reduceLT, Int.reduceEq, Int.reduceNeg, Int.reduceNe, Int.reducePow, Nat.reducePow, Nat.reduceSub, IntKind.bits])
    refine ro_wcall (cRNum40 h0 q d r'.int.2 f4 G4f.rdr gd4f o1 (by simp only [RS.int_b]; exact hlr)) (fun h5 J => ?_)
    obtain ⟨R5, O5⟩ := J
    have gd5 := (O5.get (lt_of_get gd4f) hdq).trans gd4f
    have g15 := (O5.get (lt_of_get g14f) (by omega)).trans g14f
    have gz5 := (O5.get (lt_of_get gz4f) (Ne.symm hqc)).trans gz4f
    have gx5 := (O5.get (lt_of_get gx4) (by omega)).trans gx4
    have G5 := G4f.step R5 O5
    have o2 := (RS.int_ok o1).1
    have lob5 : h5.lob ≤ h4.len := by rw [G5.otr.lob]; have := G.otr.len; have := O4.len; omega
    have lx5 := lt_of_get gx5
    have G5f := G5.put2 (a := h4.len) (by omega) (by omega) (by have := G.otr.len; have := O4.len; omega) ⟨false, [.int .i64 r'.int.1, .int .i64 r'.int.2.int.1, .int .i64 0, .int .i64 0, .int .i64 0]⟩
    have gd5f : (h5.put h4.len ⟨false, [.int .i64 r'.int.1, .int .i64 r'.int.2.int.1, .int .i64 0, .int .i64 0, .int .i64 0]⟩).get d = _ := (get_put_ne (by omega)).trans gd5
    have g15f : (h5.put h4.len ⟨false, [.int .i64 r'.int.1, .int .i64 r'.int.2.int.1, .int .i64 0, .int .i64 0, .int .i64 0]⟩).get h.len = _ := (get_put_ne (by omega)).trans g15
    have gz5f : (h5.put h4.len ⟨false, [.int .i64 r'.int.1, .int .i64 r'.int.2.int.1, .int .i64 0, .int .i64 0, .int .i64 0]⟩).get h2.len = _ := (get_put_ne (by omega)).trans gz5
    have gy5 : (h5.put h4.len ⟨false, [.int .i64 r'.int.1, .int .i64 r'.int.2.int.1, .int .i64 0, .int .i64 0, .int .i64 0]⟩).get h4.len = _ := get_put_eq lx5
    simp (maxSteps := 10000000) (maxDischargeDepth := 30) only [e0, e2, e3, e4, e5, gx5, lob5, lx5, go_sem, Nat.reduceEqDiff, ↓reduceIte, Nat.reduceAdd, Nat.reduceMul, Nat.reduceLeDiff, Nat.reduceLT, reduceCtorEq, Int.reduceToNat, Int.reduceLE, Int.reduceLT, Int.reduceEq, Int.reduceNeg, Int.reduceNe, Int.reducePow, Nat.reducePow, Nat.reduceSub, IntKind.bits]
    generalize hgg5 : h5.put h4.len ⟨false, [.int .i64 r'.int.1, .int .i64 r'.int.2.int.1, .int .i64 0, .int .i64 0, .int .i64 0]⟩ = f5 at *
    clear gx5
    have gx5 := gy5
    try (simp (maxSteps := 10000000) (maxDischargeDepth := 30) only [e0, e2, e3, e4, e5, gd5f, go_sem, Nat.reduceEqDiff, ↓reduceIte, Nat.reduceAdd, Nat.reduceMul, Nat.reduceLeDiff, Nat.reduceLT, reduceCtorEq, Int.reduceToNat, Int.reduceLE, Int.reduceLT, Int.reduceEq, Int.reduceNeg, Int.reduceNe, Int.reducePow, Nat.reducePow, Nat.reduceSub, IntKind.bits])
    refine ro_wcall (cRNum40 h0 q d r'.int.2.int.2 f5 G5f.rdr gd5f o2 (by simp only [RS.int_b]; exact hlr)) (fun h6 J => ?_)
    obtain ⟨R6, O6⟩ := J
    have gd6 := (O6.get (lt_of_get gd5f) hdq).trans gd5f
    have g16 := (O6.get (lt_of_get g15f) (by omega)).trans g15f
    have gz6 := (O6.get (lt_of_get gz5f) (Ne.symm hqc)).trans gz5f
    have gx6 := (O6.get (lt_of_get gx5) (by omega)).trans gx5
    have G6 := G5f.step R6 O6
    have o3 := (RS.int_ok o2).1
    have lob6 : h6.lob ≤ h4.len := by rw [G6.otr.lob]; have := G.otr.len; have := O4.len; omega
    have lx6 := lt_of_get gx6
    have G6f := G6.put2 (a := h4.len) (by omega) (by omega) (by have := G.otr.len; have := O4.len; omega) ⟨false, [.int .i64 r'.int.1, .int .i64 r'.int.2.int.1, .int .i64 r'.int.2.int.2.int.1, .int .i64 0, .int .i64 0]⟩
    have gd6f : (h6.put h4.len ⟨false, [.int .i64 r'.int.1, .int .i64 r'.int.2.int.1, .int .i64 r'.int.2.int.2.int.1, .int .i64 0, .int .i64 0]⟩).get d = _ := (get_put_ne (by omega)).trans gd6
    have g16f : (h6.put h4.len ⟨false, [.int .i64 r'.int.1, .int .i64 r'.int.2.int.1, .int .i64 r'.int.2.int.2.int.1, .int .i64 0, .int .i64 0]⟩).get h.len = _ := (get_put_ne (by omega)).trans g16
    have gz6f : (h6.put h4.len ⟨false, [.int .i64 r'.int.1, .int .i64 r'.int.2.int.1, .int .i64 r'.int.2.int.2.int.1, .int .i64 0, .int .i64 0]⟩).get h2.len = _ := (get_put_ne (by omega)).trans gz6
    have gy6 : (h6.put h4.len ⟨false, [.int .i64 r'.int.1, .int .i64 r'.int.2.int.1, .int .i64 r'.int.2.int.2.int.1, .int .i64 0, .int .i64 0]⟩).get h4.len = _ := get_put_eq lx6
    simp (maxSteps := 10000000) (maxDischargeDepth := 30) only [e0, e2, e3, e4, e5, gx6, lob6, lx6, go_sem, Nat.reduceEqDiff, ↓reduceIte, Nat.reduceAdd, Nat.reduceMul, Nat.reduceLeDiff, Nat.reduceLT, reduceCtorEq, Int.reduceToNat, Int.reduceLE, Int.reduceLT, Int.reduceEq, Int.reduceNeg, Int.reduceNe, Int.reducePow, Nat.reducePow, Nat.reduceSub, IntKind.bits]
    generalize hgg6 : h6.put h4.len ⟨false, [.int .i64 r'.int.1, .int .i64 r'.int.2.int.1, .int .i64 r'.int.2.int.2.int.1, .int .i64 0, .int .i64 0]⟩ = f6 at *
    clear gx6
    have gx6 := gy6
    try (simp (maxSteps := 10000000) (maxDischargeDepth := 30) only [e0, e2, e3, e4, e5, gd6f, go_sem, Nat.reduceEqDiff, ↓reduceIte, Nat.reduceAdd, Nat.reduceMul, Nat.reduceLeDiff, Nat.reduceLT, reduceCtorEq, Int.reduceToNat, Int.reduceLE, Int.reduceLT, Int.reduceEq, Int.reduceNeg, Int.reduceNe, Int.reducePow, Nat.reducePow, Nat.reduceSub, IntKind.bits])
    refine ro_wcall (cXInt h0 q r'.int.2.int.2.int.2 f6 G6f.rdr o3 (by simp only [RS.int_b]; exact hlr)) (fun h7 J => ?_)
    obtain ⟨R7, O7⟩ := J
    have gd7 := (O7.get (lt_of_get gd6f) hdq).trans gd6f
    have g17 := (O7.get (lt_of_get g16f) (by omega)).trans g16f
    have gz7 := (O7.get (lt_of_get gz6f) (Ne.symm hqc)).trans gz6f
    have gx7 := (O7.get (lt_of_get gx6) (by omega)).trans gx6
    have G7 := G6f.step R7 O7
    have o4 := (RS.int_ok o3).1
    have lob7 : h7.lob ≤ h4.len := by rw [G7.otr.lob]; have := G.otr.len; have := O4.len; omega
    have lx7 := lt_of_get gx7
    have G7f := G7.put2 (a := h4.len) (by omega) (by omega) (by have := G.otr.len; have := O4.len; omega) ⟨false, [.int .i64 r'.int.1, .int .i64 r'.int.2.int.1, .int .i64 r'.int.2.int.2.int.1, .int .i64 r'.int.2.int.2.int.2.int.1, .int .i64 0]⟩
    have gd7f : (h7.put h4.len ⟨false, [.int .i64 r'.int.1, .int .i64 r'.int.2.int.1, .int .i64 r'.int.2.int.2.int.1, .int .i64 r'.int.2.int.2.int.2.int.1, .int .i64 0]⟩).get d = _ := (get_put_ne (by omega)).trans gd7
    have g17f : (h7.put h4.len ⟨false, [.int .i64 r'.int.1, .int .i64 r'.int.2.int.1, .int .i64 r'.int.2.int.2.int.1, .int .i64 r'.int.2.int.2.int.2.int.1, .int .i64 0]⟩).get h.len = _ := (get_put_ne (by omega)).trans g17
    have gz7f : (h7.put h4.len ⟨false, [.int .i64 r'.int.1, .int .i64 r'.int.2.int.1, .int .i64 r'.int.2.int.2.int.1, .int .i64 r'.int.2.int.2.int.2.int.1, .int .i64 0]⟩).get h2.len = _ := (get_put_ne (by omega)).trans gz7
    have gy7 : (h7.put h4.len ⟨false, [.int .i64 r'.int.1, .int .i64 r'.int.2.int.1, .int .i64 r'.int.2.int.2.int.1, .int .i64 r'.int.2.int.2.int.2.int.1, .int .i64 0]⟩).get h4.len = _ := get_put_eq lx7
    simp (maxSteps := 10000000) (maxDischargeDepth := 30) only [e0, e2, e3, e4, e5, gx7, lob7, lx7, go_sem, Nat.reduceEqDiff, ↓reduceIte, Nat.reduceAdd, Nat.reduceMul, Nat.reduceLeDiff, Nat.reduceLT, reduceCtorEq, Int.reduceToNat, Int.reduceLE, Int.reduceLT, Int.reduceEq, Int.reduceNeg, Int.reduceNe, Int.reducePow, Nat.reducePow, Nat.reduceSub, IntKind.bits]
    generalize hgg7 : h7.put h4.len ⟨false, [.int .i64 r'.int.1, .int .i64 r'.int.2.int.1, .int .i64 r'.int.2.int.2.int.1, .int .i64 r'.int.2.int.2.int.2.int.1, .int .i64 0]⟩ = f7 at *
    clear gx7
    have gx7 := gy7
    try (simp (maxSteps := 10000000) (maxDischargeDepth := 30) only [e0, e2, e3, e4, e5, gd7f, go_sem, Nat.reduceEqDiff, ↓reduceIte, Nat.reduceAdd, Nat.reduceMul, Nat.reduceLeDiff, Nat.reduceLT, reduceCtorEq, Int.reduceToNat, Int.reduceLE, Int.reduceLT, Int.reduceEq, Int.reduceNeg, Int.reduceNe, Int.reducePow, Nat.reducePow, Nat.reduceSub, IntKind.bits])
    refine ro_wcall (cXInt h0 q r'.int.2.int.2.int.2.int.2 f7 G7f.rdr o4 (by simp only [RS.int_b]; exact hlr)) (fun h8 J => ?_)
    obtain ⟨R8, O8⟩ := J
    have gd8 := (O8.get (lt_of_get gd7f) hdq).trans gd7f
    have g18 := (O8.get (lt_of_get g17f) (by omega)).trans g17f
    have gz8 := (O8.get (lt_of_get gz7f) (Ne.symm hqc)).trans gz7f
    have gx8 := (O8.get (lt_of_get gx7) (by omega)).trans gx7
    have G8 := G7f.step R8 O8
    have o5 := (RS.int_ok o4).1
    have lob8 : h8.lob ≤ h4.len := by rw [G8.otr.lob]; have := G.otr.len; have := O4.len; omega
    have lx8 := lt_of_get gx8
    have G8f := G8.put2 (a := h4.len) (by omega) (by omega) (by have := G.otr.len; have := O4.len; omega) ⟨false, [.int .i64 r'.int.1, .int .i64 r'.int.2.int.1, .int .i64 r'.int.2.int.2.int.1, .int .i64 r'.int.2.int.2.int.2.int.1, .int .i64 r'.int.2.int.2.int.2.int.2.int.1]⟩
    have gd8f : (h8.put h4.len ⟨false, [.int .i64 r'.int.1, .int .i64 r'.int.2.int.1, .int .i64 r'.int.2.int.2.int.1, .int .i64 r'.int.2.int.2.int.2.int.1, .int .i64 r'.int.2.int.2.int.2.int.2.int.1]⟩).get d = _ := (get_put_ne (by omega)).trans gd8
    have g18f : (h8.put h4.len ⟨false, [.int .i64 r'.int.1, .int .i64 r'.int.2.int.1, .int .i64 r'.int.2.int.2.int.1, .int .i64 r'.int.2.int.2.int.2.int.1, .int .i64 r'.int.2.int.2.int.2.int.2.int.1]⟩).get h.len = _ := (get_put_ne (by omega)).trans g18
    have gz8f : (h8.put h4.len ⟨false, [.int .i64 r'.int.1, .int .i64 r'.int.2.int.1, .int .i64 r'.int.2.int.2.int.1, .int .i64 r'.int.2.int.2.int.2.int.1, .int .i64 r'.int.2.int.2.int.2.int.2.int.1]⟩).get h2.len = _ := (get_put_ne (by omega)).trans gz8
    have gy8 : (h8.put h4.len ⟨false, [.int .i64 r'.int.1, .int .i64 r'.int.2.int.1, .int .i64 r'.int.2.int.2.int.1, .int .i64 r'.int.2.int.2.int.2.int.1, .int .i64 r'.int.2.int.2.int.2.int.2.int.1]⟩).get h4.len = _ := get_put_eq lx8
    simp (maxSteps := 10000000) (maxDischargeDepth := 30) only [e0, e2, e3, e4, e5, gx8, lob8, lx8, go_sem, Nat.reduceEqDiff, ↓reduceIte, Nat.reduceAdd, Nat.reduceMul, Nat.reduceLeDiff, Nat.reduceLT, reduceCtorEq, Int.reduceToNat, Int.reduceLE, Int.reduceLT, Int.reduceEq, Int.reduceNeg, Int.reduceNe, Int.reducePow, Nat.reducePow, Nat.reduceSub, IntKind.bits]
    generalize hgg8 : h8.put h4.len ⟨false, [.int .i64 r'.int.1, .int .i64 r'.int.2.int.1, .int .i64 r'.int.2.int.2.int.1, .int .i64 r'.int.2.int.2.int.2.int.1, .int .i64 r'.int.2.int.2.int.2.int.2.int.1]⟩ = f8 at *
    clear gx8
    have gx8 := gy8
    have k9 : Keep f8 (f8.nrow 1) := (Keep.refl f8).nrow 1
    have G9 := G8f.next k9
    rw [show zs.length = (zs.map PutR.e).length by rw [List.length_map]] at G9
    obtain ⟨o4, ha, ap, Ga, ga, la, lba, -⟩ := G9.app (sz := 5) (by_ := 40) (xs := zs.map PutR.e) hh0 [PutR.e (putRd r').1] (by
      rw [List.length_map, hz, List.length_singleton]; omega)
    have ezs : zs.map PutR.e ++ [PutR.e (putRd r').1] = (zs ++ [(putRd r').1]).map PutR.e := by simp
    rw [ezs] at ap Ga
    rw [List.length_map] at Ga
    have apx : appS 5 40 (mkS o 5 (zs.map PutR.e)) (f8.nrow 1) (some [.agg [.int .i64 r'.int.1, .int .i64 r'.int.2.int.1, .int .i64 r'.int.2.int.2.int.1, .int .i64 r'.int.2.int.2.int.2.int.1, .int .i64 r'.int.2.int.2.int.2.int.2.int.1]]) = some (mkS o4 5 ((zs ++ [(putRd r').1]).map PutR.e), ha) := ap
    have gza : ha.get h2.len = some ⟨false, [.int .i64 r.int.1, mkS o 5 (zs.map PutR.e)]⟩ := by rw [ga, get_nrow]; exact gz8f
    have gda : ha.get d = some ⟨false, [.ptr q 0]⟩ := by rw [ga, get_nrow]; exact gd8f
    have g1a : ha.get h.len = some ⟨false, [.int .i64 0, .nils]⟩ := by rw [ga, get_nrow]; exact g18f
    have loba : ha.lob ≤ h2.len := by rw [Ga.otr.lob]; have := O2'.len; omega
    have lza := lt_of_get gza
    have gda' : (ha.put h2.len ⟨false, [.int .i64 r.int.1, mkS o4 5 ((zs ++ [(putRd r').1]).map PutR.e)]⟩).get d = _ := (get_put_ne (by omega)).trans gda
    have g1a' : (ha.put h2.len ⟨false, [.int .i64 r.int.1, mkS o4 5 ((zs ++ [(putRd r').1]).map PutR.e)]⟩).get h.len = _ := (get_put_ne (by omega)).trans g1a
    have ew : IntKind.i64.wrap ((i : Int) + 1) = ((i + 1 : Nat) : Int) := by rw [wrap64 (by omega) (by omega)]; omega
    simp (maxSteps := 10000000) (maxDischargeDepth := 30) only [e0, e2, e3, e4, e5, gz8f, gx8, apx, gza, loba, lza, ew, go_sem, Nat.reduceEqDiff, ↓reduceIte, Nat.reduceAdd, Nat.reduceMul, Nat.reduceLeDiff, Nat.reduceLT, reduceCtorEq, Int.reduceToNat, Int.reduceLE, Int.reduceLT, Int.reduceEq, Int.reduceNeg, Int.reduceNe, Int.reducePow, Nat.reducePow, Nat.reduceSub, IntKind.bits]
    refine ⟨i + 1, by omega, ?_⟩
    unfold ILane40
    simp (maxSteps := 10000000) (maxDischargeDepth := 30) only [e0, e2, e3, e4, gda', g1a', go_sem, Nat.reduceEqDiff, ↓reduceIte, Nat.reduceAdd, Nat.reduceMul, Nat.reduceLeDiff, Nat.reduceLT, reduceCtorEq, Int.reduceToNat, Int.reduceLE, Int.reduceLT, Int.reduceEq, Int.reduceNeg, Int.reduceNe, Int.reducePow, Nat.reducePow, Nat.reduceSub, IntKind.bits]
    exact ⟨o4, zs ++ [(putRd r').1], (putRd r').2, get_put_eq lza, by simp [hz], by omega, Ga.put2 (Ne.symm hqc) (by omega) (by have := O2'.len; omega) _, put_one.ok r' ok', (put_one.b r').trans hb', step_gather (by omega) hs' hg⟩
end Go.LM
