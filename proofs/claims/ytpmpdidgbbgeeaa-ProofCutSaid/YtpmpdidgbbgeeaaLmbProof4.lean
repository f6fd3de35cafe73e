import Derived.Test.YtpmpdidgbbgeeaaLmTrbR3
import Derived.Test.YtpmpdidgbbgeeaaLmbProof3
namespace Go.LM
open Go.Proofs
set_option maxRecDepth 8000
set_option maxHeartbeats 4000000
set_option linter.unusedSimpArgs false

def IPage40 (h0 h : H) (q d c : Nat) (r : RS) (n i : Nat) (s : S) (hh : H) : Prop :=
  s 0 = .ptr d 0 ∧ s 2 = .ptr h.len 0 ∧ s 3 = .ptr c 0 ∧ s 4 = .int .i64 n ∧ s 5 = .int .i64 i ∧ hh.get d = some ⟨false, [.ptr q 0]⟩ ∧ hh.get h.len = some ⟨false, [.nils, .int .i64 0, .int .i64 0, .int .i64 0]⟩ ∧
  ∃ (o : Option (Nat × Nat)) (zs : List LaneR) (r' : RS), hh.get c = some ⟨false, [mkS o 2 (zs.map LaneR.e), .int .i64 r.int.1, .int .i64 r.int.2.int.1, .int .i64 r.int.2.int.2.int.1]⟩ ∧ zs.length = i ∧ i ≤ n ∧ Gth h0 h q r' o zs.length hh ∧ r'.ok ∧ r'.b = r.b ∧
    gather laneX n r.int.2.int.2.int.2.count.2 = (zs.map LaneR.plain ++ (gather laneX (n - i) r').1, (gather laneX (n - i) r').2)
theorem laneX_one : OneOk laneX := ⟨fun r => by have := (agree_lane r).1; rw [this]; exact lane_one.b r, fun r h => by have := (agree_lane r).1; rw [this]; exact lane_one.ok r h⟩
theorem pageX_one : OneOk pageX := ⟨fun r => by have := (agree_page r).1; rw [this]; exact page_one.b r, fun r h => by have := (agree_page r).1; rw [this]; exact page_one.ok r h⟩
theorem cRPage40 (h0 : H) (q d : Nat) (r : RS) (h : H) (R : Rdr h0 q r h) (gd : h.get d = some ⟨false, [.ptr q 0]⟩) (hdq : d ≠ q) (ok : r.ok) (hl : r.b.length ≤ 1000000000000) :
    ∃ v h', runI Try.prog TA 96 [.ptr d 0] h = some (v, h') ∧ (∃ x : PageR, v = x.e ∧ x.plain = (pageX r).1) ∧ Rdr h0 q (pageX r).2 h' ∧ Otr q h h' := by
  refine calls_of rfl res96 rfl ?_
  have lt := R.lt
  have lo := R.wf.1
  have hk := R.keep.len
  have ld := lt_of_get gd
  have hh0 : h0.rlen ≤ h.rlen := R.keep.rlen
  simp (maxSteps := 10000000) (maxDischargeDepth := 30) only [q96, r96, go_sem, Nat.reduceEqDiff, ↓reduceIte, Nat.reduceAdd, Nat.reduceMul, Nat.reduceLeDiff, Nat.reduceLT, reduceCtorEq, Int.reduceToNat, Int.reduceLE, Int.reduceLT, Int.reduceEq, Int.reduceNeg, Int.reduceNe, Int.reducePow, Nat.reducePow, Nat.reduceSub, IntKind.bits]
  have k1 := (Keep.refl h).alloc [.nils, .int .i64 0, .int .i64 0, .int .i64 0]
  have g1 : (h.alloc [.nils, .int .i64 0, .int .i64 0, .int .i64 0]).get h.len = some ⟨false, [.nils, .int .i64 0, .int .i64 0, .int .i64 0]⟩ := get_alloc_eq _ _
  refine ro_wcall (cRNum40 h0 q d r _ (R.next k1) (by rw [get_alloc_lt ld]; exact gd) ok hl) (fun h2 J => ?_)
  obtain ⟨R2, O2⟩ := J
  have ok2 := (RS.int_ok ok).1
  have O2' := (k1.otr q).trans O2
  have gd2 := (O2'.get ld hdq).trans gd
  have g12 := (O2.get (by simp) (by omega)).trans g1
  have l2 := O2.len
  rw [len_alloc] at l2
  have lo2 := R2.wf.1
  have lq2 := R2.lt
  have ld2 := lt_of_get gd2
  simp (maxSteps := 10000000) (maxDischargeDepth := 30) only [lo2, go_sem, Nat.reduceEqDiff, ↓reduceIte, Nat.reduceAdd, Nat.reduceMul, Nat.reduceLeDiff, Nat.reduceLT, reduceCtorEq, Int.reduceToNat, Int.reduceLE, Int.reduceLT, Int.reduceEq, Int.reduceNeg, Int.reduceNe, Int.reducePow, Nat.reducePow, Nat.reduceSub, IntKind.bits]
  generalize hgg : (h2.alloc _).put _ _ = g
  have kg : Keep h2 g := by rw [← hgg]; exact ((Keep.refl h2).alloc _).put (Nat.le_refl _) _
  have gc : g.get h2.len = some ⟨false, [.nils, .int .i64 r.int.1, .int .i64 0, .int .i64 0]⟩ := by rw [← hgg]; simp (maxSteps := 10000000) (maxDischargeDepth := 30) only [go_sem, Nat.reduceEqDiff, ↓reduceIte, Nat.reduceAdd, Nat.reduceMul, Nat.reduceLeDiff, Nat.reduceLT, reduceCtorEq, Int.reduceToNat, Int.reduceLE, Int.reduceLT, Int.reduceEq, Int.reduceNeg, Int.reduceNe, Int.reducePow, Nat.reducePow, Nat.reduceSub, IntKind.bits]
  clear hgg
  have Rg := R2.next kg
  have Og := O2'.trans (kg.otr q)
  have gdg := (kg.get (lt_of_get gd2)).trans gd2
  have g1g := (kg.get (lt_of_get g12)).trans g12
  have hqc : q ≠ h2.len := by omega
  have ok3 := (RS.int_ok ok2).1
  have ok4 := (RS.int_ok ok3).1
  try (simp (maxSteps := 10000000) (maxDischargeDepth := 30) only [go_sem, Nat.reduceEqDiff, ↓reduceIte, Nat.reduceAdd, Nat.reduceMul, Nat.reduceLeDiff, Nat.reduceLT, reduceCtorEq, Int.reduceToNat, Int.reduceLE, Int.reduceLT, Int.reduceEq, Int.reduceNeg, Int.reduceNe, Int.reducePow, Nat.reducePow, Nat.reduceSub, IntKind.bits])
  refine ro_wcall (cRNum40 h0 q d r.int.2 g Rg gdg ok2 (by rw [r.int_b]; exact hl)) (fun h3 J => ?_)
  obtain ⟨R3, O3⟩ := J
  have O3' := Og.trans O3
  have gd3 := (O3.get (lt_of_get gdg) hdq).trans gdg
  have g13 := (O3.get (lt_of_get g1g) (by omega)).trans g1g
  have gc3 := (O3.get (lt_of_get gc) (Ne.symm hqc)).trans gc
  have lx3 := lt_of_get gc3
  have lob3 : h3.lob ≤ h2.len := by rw [O3'.lob]; omega
  have R3f := R3.put2 (a := h2.len) (by omega) (by omega) ⟨false, [.nils, .int .i64 r.int.1, .int .i64 r.int.2.int.1, .int .i64 0]⟩
  have O3f := O3'.new (a := h2.len) (by omega) ⟨false, [.nils, .int .i64 r.int.1, .int .i64 r.int.2.int.1, .int .i64 0]⟩
  have gd3f : (h3.put h2.len ⟨false, [.nils, .int .i64 r.int.1, .int .i64 r.int.2.int.1, .int .i64 0]⟩).get d = _ := (get_put_ne (by omega)).trans gd3
  have g13f : (h3.put h2.len ⟨false, [.nils, .int .i64 r.int.1, .int .i64 r.int.2.int.1, .int .i64 0]⟩).get h.len = _ := (get_put_ne (by omega)).trans g13
  have gc3f : (h3.put h2.len ⟨false, [.nils, .int .i64 r.int.1, .int .i64 r.int.2.int.1, .int .i64 0]⟩).get h2.len = _ := get_put_eq lx3
  simp (maxSteps := 10000000) (maxDischargeDepth := 30) only [gc3, lob3, lx3, go_sem, Nat.reduceEqDiff, ↓reduceIte, Nat.reduceAdd, Nat.reduceMul, Nat.reduceLeDiff, Nat.reduceLT, reduceCtorEq, Int.reduceToNat, Int.reduceLE, Int.reduceLT, Int.reduceEq, Int.reduceNeg, Int.reduceNe, Int.reducePow, Nat.reducePow, Nat.reduceSub, IntKind.bits]
  generalize hgg3 : h3.put h2.len ⟨false, [.nils, .int .i64 r.int.1, .int .i64 r.int.2.int.1, .int .i64 0]⟩ = f3 at *
  try (simp (maxSteps := 10000000) (maxDischargeDepth := 30) only [go_sem, Nat.reduceEqDiff, ↓reduceIte, Nat.reduceAdd, Nat.reduceMul, Nat.reduceLeDiff, Nat.reduceLT, reduceCtorEq, Int.reduceToNat, Int.reduceLE, Int.reduceLT, Int.reduceEq, Int.reduceNeg, Int.reduceNe, Int.reducePow, Nat.reducePow, Nat.reduceSub, IntKind.bits])
  refine ro_wcall (cRNum40 h0 q d r.int.2.int.2 f3 R3f gd3f ok3 (by simp only [RS.int_b]; exact hl)) (fun h4 J => ?_)
  obtain ⟨R4, O4⟩ := J
  have O4' := O3f.trans O4
  have gd4 := (O4.get (lt_of_get gd3f) hdq).trans gd3f
  have g14 := (O4.get (lt_of_get g13f) (by omega)).trans g13f
  have gc4 := (O4.get (lt_of_get gc3f) (Ne.symm hqc)).trans gc3f
  have lx4 := lt_of_get gc4
  have lob4 : h4.lob ≤ h2.len := by rw [O4'.lob]; omega
  have R4f := R4.put2 (a := h2.len) (by omega) (by omega) ⟨false, [.nils, .int .i64 r.int.1, .int .i64 r.int.2.int.1, .int .i64 r.int.2.int.2.int.1]⟩
  have O4f := O4'.new (a := h2.len) (by omega) ⟨false, [.nils, .int .i64 r.int.1, .int .i64 r.int.2.int.1, .int .i64 r.int.2.int.2.int.1]⟩
  have gd4f : (h4.put h2.len ⟨false, [.nils, .int .i64 r.int.1, .int .i64 r.int.2.int.1, .int .i64 r.int.2.int.2.int.1]⟩).get d = _ := (get_put_ne (by omega)).trans gd4
  have g14f : (h4.put h2.len ⟨false, [.nils, .int .i64 r.int.1, .int .i64 r.int.2.int.1, .int .i64 r.int.2.int.2.int.1]⟩).get h.len = _ := (get_put_ne (by omega)).trans g14
  have gc4f : (h4.put h2.len ⟨false, [.nils, .int .i64 r.int.1, .int .i64 r.int.2.int.1, .int .i64 r.int.2.int.2.int.1]⟩).get h2.len = _ := get_put_eq lx4
  simp (maxSteps := 10000000) (maxDischargeDepth := 30) only [gc4, lob4, lx4, go_sem, Nat.reduceEqDiff, ↓reduceIte, Nat.reduceAdd, Nat.reduceMul, Nat.reduceLeDiff, Nat.reduceLT, reduceCtorEq, Int.reduceToNat, Int.reduceLE, Int.reduceLT, Int.reduceEq, Int.reduceNeg, Int.reduceNe, Int.reducePow, Nat.reducePow, Nat.reduceSub, IntKind.bits]
  generalize hgg4 : h4.put h2.len ⟨false, [.nils, .int .i64 r.int.1, .int .i64 r.int.2.int.1, .int .i64 r.int.2.int.2.int.1]⟩ = f4 at *
  simp (maxSteps := 10000000) (maxDischargeDepth := 30) only [gd4f, go_sem, Nat.reduceEqDiff, ↓reduceIte, Nat.reduceAdd, Nat.reduceMul, Nat.reduceLeDiff, Nat.reduceLT, reduceCtorEq, Int.reduceToNat, Int.reduceLE, Int.reduceLT, Int.reduceEq, Int.reduceNeg, Int.reduceNe, Int.reducePow, Nat.reducePow, Nat.reduceSub, IntKind.bits]
  refine ro_wcall (cXCount h0 q r.int.2.int.2.int.2 f4 R4f ok4 (by simp only [RS.int_b]; exact hl)) (fun h5 J => ?_)
  obtain ⟨R5, O5⟩ := J
  have O5' := O4f.trans O5
  have hc := RS.count_ok ok4
  have hcb := r.int.2.int.2.int.2.count_b
  have hbb : r.int.2.int.2.int.2.b = r.b := (nums_one 3).b r
  obtain ⟨n, hn⟩ : ∃ n : Nat, r.int.2.int.2.int.2.count.1 = (n : Int) := ⟨r.int.2.int.2.int.2.count.1.toNat, by omega⟩
  have hnt : r.int.2.int.2.int.2.count.1.toNat = n := by omega
  have hnb : n ≤ 1000000000000 := by have := hc.2.2; rw [hbb] at this; omega
  have gd5 := (O5.get (lt_of_get gd4f) hdq).trans gd4f
  have g15 := (O5.get (lt_of_get g14f) (by omega)).trans g14f
  have gc5 := (O5.get (lt_of_get gc4f) (Ne.symm hqc)).trans gc4f
  rw [hn]
  simp (maxSteps := 10000000) (maxDischargeDepth := 30) only [go_sem, Nat.reduceEqDiff, ↓reduceIte, Nat.reduceAdd, Nat.reduceMul, Nat.reduceLeDiff, Nat.reduceLT, reduceCtorEq, Int.reduceToNat, Int.reduceLE, Int.reduceLT, Int.reduceEq, Int.reduceNeg, Int.reduceNe, Int.reducePow, Nat.reducePow, Nat.reduceSub, IntKind.bits]
  refine ru_loop (fun i => n - i) (IPage40 h0 h q d h2.len r n) 0 ?_ ?_
  · unfold IPage40
    simp (maxSteps := 10000000) (maxDischargeDepth := 30) only [Int.natCast_zero, go_sem, Nat.reduceEqDiff, ↓reduceIte, Nat.reduceAdd, Nat.reduceMul, Nat.reduceLeDiff, Nat.reduceLT, reduceCtorEq, Int.reduceToNat, Int.reduceLE, Int.reduceLT, Int.reduceEq, Int.reduceNeg, Int.reduceNe, Int.reducePow, Nat.reducePow, Nat.reduceSub, IntKind.bits]
    exact ⟨gd5, g15, none, [], r.int.2.int.2.int.2.count.2, gc5, rfl, .start R5 O5', hc.1, hcb.trans hbb, by simp⟩
  · rintro i s hh ⟨e0, e2, e3, e4, e5, gd, g1, o, zs, r', gz, hz, hi, G, ok', hb', hg⟩
    obtain ⟨t, hq⟩ := G.rdr.get
    have l1 := lt_of_get g1
    have lob1 : hh.lob ≤ h.len := by rw [G.otr.lob]; exact lo
    have hg' : gather laneX n r.int.2.int.2.int.2.count.2 = (zs.map LaneR.plain, r') → pageX r = ((r.int.1, r.int.2.int.1, r.int.2.int.2.int.1, zs.map LaneR.plain), r') := by
      intro e
      unfold pageX gatherX
      rw [hnt, e]
    by_cases c1 : (i : Int) < n
    rotate_left
    · have hx := hg' (fin_gather hg (.inl (by omega)))
      simp (maxSteps := 10000000) (maxDischargeDepth := 30) only [e0, e2, e3, e4, e5, c1, gd, gz, g1, l1, lob1, go_sem, Nat.reduceEqDiff, ↓reduceIte, Nat.reduceAdd, Nat.reduceMul, Nat.reduceLeDiff, Nat.reduceLT, reduceCtorEq, Int.reduceToNat, Int.reduceLE, Int.reduceLT, Int.reduceEq, Int.reduceNeg, Int.reduceNe, Int.reducePow, Nat.reducePow, Nat.reduceSub, IntKind.bits]
      rw [hx]
      exact ⟨⟨⟨r.int.1, r.int.2.int.1, r.int.2.int.2.int.1, o, zs⟩, rfl, rfl⟩, G.rdr.put2 (by omega) (by omega) _, G.otr.new (Nat.le_refl _) _⟩
    by_cases hs : r'.stop = true
    · have hx := hg' (fin_gather hg (.inr hs))
      simp (maxSteps := 10000000) (maxDischargeDepth := 30) only [e0, e2, e3, e4, e5, c1, gd, hq, hs, gz, g1, l1, lob1, go_sem, Nat.reduceEqDiff, ↓reduceIte, Nat.reduceAdd, Nat.reduceMul, Nat.reduceLeDiff, Nat.reduceLT, reduceCtorEq, Int.reduceToNat, Int.reduceLE, Int.reduceLT, Int.reduceEq, Int.reduceNeg, Int.reduceNe, Int.reducePow, Nat.reducePow, Nat.reduceSub, IntKind.bits]
      rw [hx]
      exact ⟨⟨⟨r.int.1, r.int.2.int.1, r.int.2.int.2.int.1, o, zs⟩, rfl, rfl⟩, G.rdr.put2 (by omega) (by omega) _, G.otr.new (Nat.le_refl _) _⟩
    refine ru_step ?_
    have hs' : r'.stop = false := by simpa using hs
    have hlr : r'.b.length ≤ 1000000000000 := by rw [hb']; exact hl
    have lz := lt_of_get gz
    simp (maxSteps := 10000000) (maxDischargeDepth := 30) only [e0, e2, e3, e4, e5, c1, gd, hq, hs', gz, go_sem, Nat.reduceEqDiff, ↓reduceIte, Nat.reduceAdd, Nat.reduceMul, Nat.reduceLeDiff, Nat.reduceLT, reduceCtorEq, Int.reduceToNat, Int.reduceLE, Int.reduceLT, Int.reduceEq, Int.reduceNeg, Int.reduceNe, Int.reducePow, Nat.reducePow, Nat.reduceSub, IntKind.bits]
    refine rw_vcallW (cRLane40 h0 q d r' hh G.rdr gd hdq ok' hlr) (fun v hx J => by have := J.2.2.get lz (Ne.symm hqc); simp (maxSteps := 10000000) (maxDischargeDepth := 30) only [this, go_sem, Nat.reduceEqDiff, ↓reduceIte, Nat.reduceAdd, Nat.reduceMul, Nat.reduceLeDiff, Nat.reduceLT, reduceCtorEq, Int.reduceToNat, Int.reduceLE, Int.reduceLT, Int.reduceEq, Int.reduceNeg, Int.reduceNe, Int.reducePow, Nat.reducePow, Nat.reduceSub, IntKind.bits]) (fun v h6 J => ?_)
    obtain ⟨⟨x, rfl, hx⟩, R6, O6⟩ := J
    have gd6 := (O6.get (lt_of_get gd) hdq).trans gd
    have g16 := (O6.get l1 (by omega)).trans g1
    have gz6 := (O6.get lz (Ne.symm hqc)).trans gz
    have k7 : Keep h6 (h6.nrow 1) := (Keep.refl h6).nrow 1
    have G7 := (G.step R6 O6).next k7
    rw [show zs.length = (zs.map LaneR.e).length by rw [List.length_map]] at G7
    obtain ⟨o4, ha, ap, Ga, ga, la, lba, -⟩ := G7.app (sz := 2) (by_ := 32) (xs := zs.map LaneR.e) hh0 [LaneR.e x] (by
      rw [List.length_map, hz, List.length_singleton]; omega)
    have ezs : zs.map LaneR.e ++ [LaneR.e x] = (zs ++ [x]).map LaneR.e := by simp
    rw [ezs] at ap Ga
    rw [List.length_map] at Ga
    have apx : appS 2 32 (mkS o 2 (zs.map LaneR.e)) (h6.nrow 1) (some [.agg [.int .i64 x.x, mkS x.o 5 (x.puts.map PutR.e)]]) = some (mkS o4 2 ((zs ++ [x]).map LaneR.e), ha) := ap
    have gza : ha.get h2.len = some ⟨false, [mkS o 2 (zs.map LaneR.e), .int .i64 r.int.1, .int .i64 r.int.2.int.1, .int .i64 r.int.2.int.2.int.1]⟩ := by rw [ga, get_nrow]; exact gz6
    have gda : ha.get d = some ⟨false, [.ptr q 0]⟩ := by rw [ga, get_nrow]; exact gd6
    have g1a : ha.get h.len = some ⟨false, [.nils, .int .i64 0, .int .i64 0, .int .i64 0]⟩ := by rw [ga, get_nrow]; exact g16
    have loba : ha.lob ≤ h2.len := by rw [Ga.otr.lob]; omega
    have lza := lt_of_get gza
    have gda' : (ha.put h2.len ⟨false, [mkS o4 2 ((zs ++ [x]).map LaneR.e), .int .i64 r.int.1, .int .i64 r.int.2.int.1, .int .i64 r.int.2.int.2.int.1]⟩).get d = _ := (get_put_ne (by omega)).trans gda
    have g1a' : (ha.put h2.len ⟨false, [mkS o4 2 ((zs ++ [x]).map LaneR.e), .int .i64 r.int.1, .int .i64 r.int.2.int.1, .int .i64 r.int.2.int.2.int.1]⟩).get h.len = _ := (get_put_ne (by omega)).trans g1a
    have ew : IntKind.i64.wrap ((i : Int) + 1) = ((i + 1 : Nat) : Int) := by rw [wrap64 (by omega) (by omega)]; omega
    simp (maxSteps := 10000000) (maxDischargeDepth := 30) only [e0, e2, e3, e4, e5, LaneR.e, apx, gza, loba, lza, ew, go_sem, Nat.reduceEqDiff, ↓reduceIte, Nat.reduceAdd, Nat.reduceMul, Nat.reduceLeDiff, Nat.reduceLT, reduceCtorEq, Int.reduceToNat, Int.reduceLE, Int.reduceLT, Int.reduceEq, Int.reduceNeg, Int.reduceNe, Int.reducePow, Nat.reducePow, Nat.reduceSub, IntKind.bits]
    refine ⟨i + 1, by omega, ?_⟩
    unfold IPage40
    simp (maxSteps := 10000000) (maxDischargeDepth := 30) only [e0, e2, e3, e4, gda', g1a', go_sem, Nat.reduceEqDiff, ↓reduceIte, Nat.reduceAdd, Nat.reduceMul, Nat.reduceLeDiff, Nat.reduceLT, reduceCtorEq, Int.reduceToNat, Int.reduceLE, Int.reduceLT, Int.reduceEq, Int.reduceNeg, Int.reduceNe, Int.reducePow, Nat.reducePow, Nat.reduceSub, IntKind.bits]
    refine ⟨o4, zs ++ [x], (laneX r').2, get_put_eq lza, by simp [hz], by omega, Ga.put2 (Ne.symm hqc) (by omega) (by omega) _, laneX_one.ok r' ok', (laneX_one.b r').trans hb', ?_⟩
    rw [List.map_append, List.map_cons, List.map_nil, hx]
    exact step_gather (by omega) hs' hg
end Go.LM
