import Derived.Test.YtpmpdidgbbgeeaaLmTrbR2
import Derived.Test.YtpmpdidgbbgeeaaLmTrbR3
import Derived.Test.YtpmpdidgbbgeeaaLmbProof1
namespace Go.LM
open Go.Proofs
set_option maxRecDepth 8000
set_option maxHeartbeats 4000000
set_option linter.unusedSimpArgs false

def IEachPutR {α : Type} (pl : PutR → α) (one : RS → α × RS) (h0 h : H) (p f : Nat) (first caps : List LV) (r : RS) (n i : Nat) (s : S) (hh : H) : Prop :=
  s 0 = .ptr p 0 ∧ s 1 = .fn f first caps ∧ s 5 = .int .i64 n ∧ s 7 = .int .i64 i ∧ ∃ (o : Option (Nat × Nat)) (zs : List (PutR)) (r' : RS), s 6 = mkS o 5 (zs.map PutR.e) ∧ zs.length = i ∧ i ≤ n ∧ Gth h0 h p r' o zs.length hh ∧ r'.ok ∧ r'.b = r.b ∧
    gather one n r.count.2 = (zs.map pl ++ (gather one (n - i) r').1, (gather one (n - i) r').2)
theorem cEachPutR {α : Type} (pl : PutR → α) (one : RS → α × RS) (ho : OneOk one) (h0 : H) (p f : Nat) (first caps : List LV) (r : RS) (h : H) (R : Rdr h0 p r h) (ok : r.ok) (hl : r.b.length ≤ 1000000000000)
    (hone : ∀ r' hh, Rdr h0 p r' hh → Otr p h hh → r'.ok → r'.b = r.b → r'.stop = false → ∃ v h', runI Try.prog TA f (first ++ caps) hh = some (v, h') ∧ (∃ x, v = PutR.e x ∧ pl x = (one r').1) ∧ Rdr h0 p (one r').2 h' ∧ Otr p hh h') :
    ∃ v h', runI Try.prog TA 129 [.ptr p 0, .fn f first caps] h = some (v, h') ∧ (∃ (o : Option (Nat × Nat)) (zs : List (PutR)), v = mkS o 5 (zs.map PutR.e) ∧ zs.map pl = (eachL one r).1) ∧ Rdr h0 p (eachL one r).2 h' ∧ Otr p h h' := by
  refine calls_of rfl res129 rfl ?_
  simp (maxSteps := 10000000) (maxDischargeDepth := 30) only [q129, r129, go_sem, Nat.reduceEqDiff, ↓reduceIte, Nat.reduceAdd, Nat.reduceMul, Nat.reduceLeDiff, Nat.reduceLT, reduceCtorEq, Int.reduceToNat, Int.reduceLE, Int.reduceLT, Int.reduceEq, Int.reduceNeg, Int.reduceNe, Int.reducePow, Nat.reducePow, Nat.reduceSub, IntKind.bits]
  refine ro_wcall (cRdCount h0 p r h R ok hl) (fun h1 J => ?_)
  obtain ⟨R1, O1⟩ := J
  have hc := RS.count_ok ok
  have hcb := r.count_b
  obtain ⟨n, hn⟩ : ∃ n : Nat, r.count.1 = (n : Int) := ⟨r.count.1.toNat, by omega⟩
  have hnt : r.count.1.toNat = n := by omega
  have hh0 : h0.rlen ≤ h.rlen := R.keep.rlen
  rw [hn]
  simp (maxSteps := 10000000) (maxDischargeDepth := 30) only [go_sem, Nat.reduceEqDiff, ↓reduceIte, Nat.reduceAdd, Nat.reduceMul, Nat.reduceLeDiff, Nat.reduceLT, reduceCtorEq, Int.reduceToNat, Int.reduceLE, Int.reduceLT, Int.reduceEq, Int.reduceNeg, Int.reduceNe, Int.reducePow, Nat.reducePow, Nat.reduceSub, IntKind.bits]
  refine ru_loop (fun i => n - i) (IEachPutR pl one h0 h p f first caps r n) 0 ?_ ?_
  · unfold IEachPutR
    simp (maxSteps := 10000000) (maxDischargeDepth := 30) only [Int.natCast_zero, go_sem, Nat.reduceEqDiff, ↓reduceIte, Nat.reduceAdd, Nat.reduceMul, Nat.reduceLeDiff, Nat.reduceLT, reduceCtorEq, Int.reduceToNat, Int.reduceLE, Int.reduceLT, Int.reduceEq, Int.reduceNeg, Int.reduceNe, Int.reducePow, Nat.reducePow, Nat.reduceSub, IntKind.bits]
    exact ⟨none, [], r.count.2, rfl, rfl, .start R1 O1, hc.1, hcb, by simp⟩
  · rintro i s hh ⟨e0, e1, e5, e7, o, zs, r', e6, hz, hi, G, ok', hb', hg⟩
    have fin : gather one n r.count.2 = (zs.map pl, r') → ∀ hq, Keep hh hq → Ru Try.prog TA [] (ex Try.prog TA (.skip) s hq) (fun _ => (r'.stop = true → eachL one r = ([], r')) ∧ (r'.stop = false → eachL one r = (zs.map pl, r'))) := by
      intro e hq kq
      rw [ru_skip, ru_nil]
      unfold eachL
      rw [hnt, e]
      dsimp only
      exact ⟨fun q => by rw [if_pos q], fun q => by rw [if_neg (by simp [q])]⟩
    by_cases c1 : (i : Int) < n
    rotate_left
    · have e : gather one n r.count.2 = (zs.map pl, r') := by rw [hg, show n - i = 0 by omega]; simp [gather]
      have hx := fin e hh (.refl _)
      rw [ru_skip, ru_nil] at hx
      simp (maxSteps := 10000000) (maxDischargeDepth := 30) only [e0, e1, e5, e6, e7, c1, go_sem, Nat.reduceEqDiff, ↓reduceIte, Nat.reduceAdd, Nat.reduceMul, Nat.reduceLeDiff, Nat.reduceLT, reduceCtorEq, Int.reduceToNat, Int.reduceLE, Int.reduceLT, Int.reduceEq, Int.reduceNeg, Int.reduceNe, Int.reducePow, Nat.reducePow, Nat.reduceSub, IntKind.bits]
      refine ro_kcall (cRdRight h0 p r' hh G.rdr) G.rdr.wf (fun h2 k2 w2 => ?_)
      have G2 := G.next k2
      by_cases hs : r'.stop = true
      · simp (maxSteps := 10000000) (maxDischargeDepth := 30) only [e6, hs, go_sem, Nat.reduceEqDiff, ↓reduceIte, Nat.reduceAdd, Nat.reduceMul, Nat.reduceLeDiff, Nat.reduceLT, reduceCtorEq, Int.reduceToNat, Int.reduceLE, Int.reduceLT, Int.reduceEq, Int.reduceNeg, Int.reduceNe, Int.reducePow, Nat.reducePow, Nat.reduceSub, IntKind.bits]
        rw [hx.1 hs]
        exact ⟨⟨none, [], rfl, rfl⟩, G2.rdr, G2.otr⟩
      · have hs' : r'.stop = false := by simpa using hs
        simp (maxSteps := 10000000) (maxDischargeDepth := 30) only [e6, hs', go_sem, Nat.reduceEqDiff, ↓reduceIte, Nat.reduceAdd, Nat.reduceMul, Nat.reduceLeDiff, Nat.reduceLT, reduceCtorEq, Int.reduceToNat, Int.reduceLE, Int.reduceLT, Int.reduceEq, Int.reduceNeg, Int.reduceNe, Int.reducePow, Nat.reducePow, Nat.reduceSub, IntKind.bits]
        rw [hx.2 hs']
        exact ⟨⟨o, zs, rfl, rfl⟩, G2.rdr, G2.otr⟩
    by_cases hs : r'.stop = true
    · have e : gather one n r.count.2 = (zs.map pl, r') := by rw [hg, gather_stop hs]; simp
      have hx := fin e hh (.refl _)
      rw [ru_skip, ru_nil] at hx
      simp (maxSteps := 10000000) (maxDischargeDepth := 30) only [e0, e1, e5, e6, e7, c1, go_sem, Nat.reduceEqDiff, ↓reduceIte, Nat.reduceAdd, Nat.reduceMul, Nat.reduceLeDiff, Nat.reduceLT, reduceCtorEq, Int.reduceToNat, Int.reduceLE, Int.reduceLT, Int.reduceEq, Int.reduceNeg, Int.reduceNe, Int.reducePow, Nat.reducePow, Nat.reduceSub, IntKind.bits]
      refine ro_kcall (cRdRight h0 p r' hh G.rdr) G.rdr.wf (fun h2 k2 w2 => ?_)
      have G2 := G.next k2
      simp (maxSteps := 10000000) (maxDischargeDepth := 30) only [e0, e1, e5, e6, e7, hs, go_sem, Nat.reduceEqDiff, ↓reduceIte, Nat.reduceAdd, Nat.reduceMul, Nat.reduceLeDiff, Nat.reduceLT, reduceCtorEq, Int.reduceToNat, Int.reduceLE, Int.reduceLT, Int.reduceEq, Int.reduceNeg, Int.reduceNe, Int.reducePow, Nat.reducePow, Nat.reduceSub, IntKind.bits]
      refine ro_kcall (cRdRight h0 p r' h2 G2.rdr) w2 (fun h3 k3 w3 => ?_)
      have G3 := G2.next k3
      simp (maxSteps := 10000000) (maxDischargeDepth := 30) only [e6, hs, go_sem, Nat.reduceEqDiff, ↓reduceIte, Nat.reduceAdd, Nat.reduceMul, Nat.reduceLeDiff, Nat.reduceLT, reduceCtorEq, Int.reduceToNat, Int.reduceLE, Int.reduceLT, Int.reduceEq, Int.reduceNeg, Int.reduceNe, Int.reducePow, Nat.reducePow, Nat.reduceSub, IntKind.bits]
      rw [hx.1 hs]
      exact ⟨⟨none, [], rfl, rfl⟩, G3.rdr, G3.otr⟩
    refine ru_step ?_
    have hs' : r'.stop = false := by simpa using hs
    simp (maxSteps := 10000000) (maxDischargeDepth := 30) only [e0, e1, e5, e6, e7, c1, go_sem, Nat.reduceEqDiff, ↓reduceIte, Nat.reduceAdd, Nat.reduceMul, Nat.reduceLeDiff, Nat.reduceLT, reduceCtorEq, Int.reduceToNat, Int.reduceLE, Int.reduceLT, Int.reduceEq, Int.reduceNeg, Int.reduceNe, Int.reducePow, Nat.reducePow, Nat.reduceSub, IntKind.bits]
    refine ro_kcall (cRdRight h0 p r' hh G.rdr) G.rdr.wf (fun h2 k2 w2 => ?_)
    have G2 := G.next k2
    simp (maxSteps := 10000000) (maxDischargeDepth := 30) only [e0, e1, e5, e6, e7, hs', go_sem, Nat.reduceEqDiff, ↓reduceIte, Nat.reduceAdd, Nat.reduceMul, Nat.reduceLeDiff, Nat.reduceLT, reduceCtorEq, Int.reduceToNat, Int.reduceLE, Int.reduceLT, Int.reduceEq, Int.reduceNeg, Int.reduceNe, Int.reducePow, Nat.reducePow, Nat.reduceSub, IntKind.bits]
    refine ro_vcall (hone r' h2 G2.rdr G2.otr ok' hb' hs') (fun v h3 J => ?_)
    obtain ⟨⟨x, rfl, hpx⟩, R3, O3⟩ := J
    have k3 : Keep h3 (h3.nrow 1) := (Keep.refl h3).nrow 1
    have G3 := (G2.step R3 O3).next k3
    rw [show zs.length = (zs.map PutR.e).length by rw [List.length_map]] at G3
    obtain ⟨o4, h4, ap, G4, -, -, -, -⟩ := G3.app (sz := 5) (by_ := 40) (xs := zs.map PutR.e) hh0 [PutR.e x] (by
      rw [List.length_map, hz, List.length_singleton]; omega)
    have ezs : zs.map PutR.e ++ [PutR.e x] = (zs ++ [x]).map PutR.e := by simp
    rw [ezs] at ap G4
    rw [List.length_map] at G4
    simp only [PutR.e] at ap
    have ew : IntKind.i64.wrap ((i : Int) + 1) = ((i + 1 : Nat) : Int) := by rw [wrap64 (by omega) (by omega)]; omega
    simp (maxSteps := 10000000) (maxDischargeDepth := 30) only [e0, e1, e5, e6, e7, PutR.e, ap, ew, go_sem, Nat.reduceEqDiff, ↓reduceIte, Nat.reduceAdd, Nat.reduceMul, Nat.reduceLeDiff, Nat.reduceLT, reduceCtorEq, Int.reduceToNat, Int.reduceLE, Int.reduceLT, Int.reduceEq, Int.reduceNeg, Int.reduceNe, Int.reducePow, Nat.reducePow, Nat.reduceSub, IntKind.bits]
    refine ⟨i + 1, by omega, ?_⟩
    unfold IEachPutR
    simp (maxSteps := 10000000) (maxDischargeDepth := 30) only [e0, e1, e5, go_sem, Nat.reduceEqDiff, ↓reduceIte, Nat.reduceAdd, Nat.reduceMul, Nat.reduceLeDiff, Nat.reduceLT, reduceCtorEq, Int.reduceToNat, Int.reduceLE, Int.reduceLT, Int.reduceEq, Int.reduceNeg, Int.reduceNe, Int.reducePow, Nat.reducePow, Nat.reduceSub, IntKind.bits]
    refine ⟨o4, zs ++ [x], (one r').2, rfl, by simp [hz], by omega, G4, ho.ok r' ok', (ho.b r').trans hb', ?_⟩
    rw [hg, show n - i = (n - (i + 1)) + 1 by omega, gather_go hs']
    simp [hpx]

theorem cPrLane (h0 : H) (p : Nat) (r : RS) (h : H) (R : Rdr h0 p r h) (ok : r.ok) (hl : r.b.length ≤ 1000000000000) :
    ∃ v h', runI Try.prog TA 114 [.agg [.ptr p 0]] h = some (v, h') ∧ (∃ x : LaneR, v = x.e ∧ x.plain = (laneRd r).1) ∧ Rdr h0 p (laneRd r).2 h' ∧ Otr p h h' := by
  refine calls_of rfl res114 rfl ?_
  have lt := R.lt
  have lo := R.wf.1
  have hk := R.keep.len
  simp (maxSteps := 10000000) (maxDischargeDepth := 30) only [q114, r114, go_sem, Nat.reduceEqDiff, ↓reduceIte, Nat.reduceAdd, Nat.reduceMul, Nat.reduceLeDiff, Nat.reduceLT, reduceCtorEq, Int.reduceToNat, Int.reduceLE, Int.reduceLT, Int.reduceEq, Int.reduceNeg, Int.reduceNe, Int.reducePow, Nat.reducePow, Nat.reduceSub, IntKind.bits]
  generalize hgg : (h.alloc _).alloc _ = g
  have kg : Keep h g := by rw [← hgg]; exact ((Keep.refl h).alloc _).alloc _
  have ga1 : g.get h.len = some ⟨false, [.ptr p 0]⟩ := by rw [← hgg]; simp (maxSteps := 10000000) (maxDischargeDepth := 30) only [go_sem, Nat.reduceEqDiff, ↓reduceIte, Nat.reduceAdd, Nat.reduceMul, Nat.reduceLeDiff, Nat.reduceLT, reduceCtorEq, Int.reduceToNat, Int.reduceLE, Int.reduceLT, Int.reduceEq, Int.reduceNeg, Int.reduceNe, Int.reducePow, Nat.reducePow, Nat.reduceSub, IntKind.bits]
  have ga2 : g.get (h.len + 1) = some ⟨false, [.int .i64 0, .nils]⟩ := by rw [← hgg]; simp (maxSteps := 10000000) (maxDischargeDepth := 30) only [go_sem, Nat.reduceEqDiff, ↓reduceIte, Nat.reduceAdd, Nat.reduceMul, Nat.reduceLeDiff, Nat.reduceLT, reduceCtorEq, Int.reduceToNat, Int.reduceLE, Int.reduceLT, Int.reduceEq, Int.reduceNeg, Int.reduceNe, Int.reducePow, Nat.reducePow, Nat.reduceSub, IntKind.bits]
  have gl : g.len = h.len + 1 + 1 := by rw [← hgg]; simp (maxSteps := 10000000) (maxDischargeDepth := 30) only [go_sem, Nat.reduceEqDiff, ↓reduceIte, Nat.reduceAdd, Nat.reduceMul, Nat.reduceLeDiff, Nat.reduceLT, reduceCtorEq, Int.reduceToNat, Int.reduceLE, Int.reduceLT, Int.reduceEq, Int.reduceNeg, Int.reduceNe, Int.reducePow, Nat.reducePow, Nat.reduceSub, IntKind.bits]
  have gb := kg.lob
  refine ro_wcall (cRdInt h0 p r g (R.next kg) ok hl) (fun h3 J => ?_)
  obtain ⟨R3, O3⟩ := J
  have ga13 := (O3.get (by omega) (by omega)).trans ga1
  have ga23 := (O3.get (by omega) (by omega)).trans ga2
  have l3 := O3.len
  simp (maxSteps := 10000000) (maxDischargeDepth := 30) only [ga13, go_sem, Nat.reduceEqDiff, ↓reduceIte, Nat.reduceAdd, Nat.reduceMul, Nat.reduceLeDiff, Nat.reduceLT, reduceCtorEq, Int.reduceToNat, Int.reduceLE, Int.reduceLT, Int.reduceEq, Int.reduceNeg, Int.reduceNe, Int.reducePow, Nat.reducePow, Nat.reduceSub, IntKind.bits]
  refine ro_vcall (cEachPutR id putRd put_one h0 p 130 [.agg [.ptr p 0]] [] r.int.2 h3 R3 (RS.int_ok ok).1 (by rw [r.int_b]; exact hl) (fun r' hh R' _ ok' hb' _ => ?_)) (fun v h4 J => ?_)
  · obtain ⟨v, h', e, ev, R2, O2⟩ := cPrPut h0 p r' hh R' ok' (by rw [hb', r.int_b]; exact hl)
    exact ⟨_, h', e, ⟨_, ev, rfl⟩, R2, O2⟩
  obtain ⟨⟨o, zs, rfl, hz⟩, R4, O4⟩ := J
  have ga24 := (O4.get (by omega) (by omega)).trans ga23
  have l4 := O4.len
  have lob4 : h4.lob ≤ h.len + 1 := by rw [O4.lob, O3.lob, gb]; omega
  have l44 : h.len + 1 < h4.len := by omega
  rw [List.map_id] at hz
  simp (maxSteps := 10000000) (maxDischargeDepth := 30) only [ga24, lob4, l44, go_sem, Nat.reduceEqDiff, ↓reduceIte, Nat.reduceAdd, Nat.reduceMul, Nat.reduceLeDiff, Nat.reduceLT, reduceCtorEq, Int.reduceToNat, Int.reduceLE, Int.reduceLT, Int.reduceEq, Int.reduceNeg, Int.reduceNe, Int.reducePow, Nat.reducePow, Nat.reduceSub, IntKind.bits]
  refine ⟨⟨⟨r.int.1, o, zs⟩, rfl, ?_⟩, R4.put2 (by omega) (by omega) _, (((kg.otr p).trans O3).trans O4).new (by omega) _⟩
  unfold LaneR.plain laneRd
  rw [hz]

def IEachLaneR {α : Type} (pl : LaneR → α) (one : RS → α × RS) (h0 h : H) (p f : Nat) (first caps : List LV) (r : RS) (n i : Nat) (s : S) (hh : H) : Prop :=
  s 0 = .ptr p 0 ∧ s 1 = .fn f first caps ∧ s 5 = .int .i64 n ∧ s 7 = .int .i64 i ∧ ∃ (o : Option (Nat × Nat)) (zs : List (LaneR)) (r' : RS), s 6 = mkS o 2 (zs.map LaneR.e) ∧ zs.length = i ∧ i ≤ n ∧ Gth h0 h p r' o zs.length hh ∧ r'.ok ∧ r'.b = r.b ∧
    gather one n r.count.2 = (zs.map pl ++ (gather one (n - i) r').1, (gather one (n - i) r').2)
theorem cEachLaneR {α : Type} (pl : LaneR → α) (one : RS → α × RS) (ho : OneOk one) (h0 : H) (p f : Nat) (first caps : List LV) (r : RS) (h : H) (R : Rdr h0 p r h) (ok : r.ok) (hl : r.b.length ≤ 1000000000000)
    (hone : ∀ r' hh, Rdr h0 p r' hh → Otr p h hh → r'.ok → r'.b = r.b → r'.stop = false → ∃ v h', runI Try.prog TA f (first ++ caps) hh = some (v, h') ∧ (∃ x, v = LaneR.e x ∧ pl x = (one r').1) ∧ Rdr h0 p (one r').2 h' ∧ Otr p hh h') :
    ∃ v h', runI Try.prog TA 113 [.ptr p 0, .fn f first caps] h = some (v, h') ∧ (∃ (o : Option (Nat × Nat)) (zs : List (LaneR)), v = mkS o 2 (zs.map LaneR.e) ∧ zs.map pl = (eachL one r).1) ∧ Rdr h0 p (eachL one r).2 h' ∧ Otr p h h' := by
  refine calls_of rfl res113 rfl ?_
  simp (maxSteps := 10000000) (maxDischargeDepth := 30) only [q113, r113, go_sem, Nat.reduceEqDiff, ↓reduceIte, Nat.reduceAdd, Nat.reduceMul, Nat.reduceLeDiff, Nat.reduceLT, reduceCtorEq, Int.reduceToNat, Int.reduceLE, Int.reduceLT, Int.reduceEq, Int.reduceNeg, Int.reduceNe, Int.reducePow, Nat.reducePow, Nat.reduceSub, IntKind.bits]
  refine ro_wcall (cRdCount h0 p r h R ok hl) (fun h1 J => ?_)
  obtain ⟨R1, O1⟩ := J
  have hc := RS.count_ok ok
  have hcb := r.count_b
  obtain ⟨n, hn⟩ : ∃ n : Nat, r.count.1 = (n : Int) := ⟨r.count.1.toNat, by omega⟩
  have hnt : r.count.1.toNat = n := by omega
  have hh0 : h0.rlen ≤ h.rlen := R.keep.rlen
  rw [hn]
  simp (maxSteps := 10000000) (maxDischargeDepth := 30) only [go_sem, Nat.reduceEqDiff, ↓reduceIte, Nat.reduceAdd, Nat.reduceMul, Nat.reduceLeDiff, Nat.reduceLT, reduceCtorEq, Int.reduceToNat, Int.reduceLE, Int.reduceLT, Int.reduceEq, Int.reduceNeg, Int.reduceNe, Int.reducePow, Nat.reducePow, Nat.reduceSub, IntKind.bits]
  refine ru_loop (fun i => n - i) (IEachLaneR pl one h0 h p f first caps r n) 0 ?_ ?_
  · unfold IEachLaneR
    simp (maxSteps := 10000000) (maxDischargeDepth := 30) only [Int.natCast_zero, go_sem, Nat.reduceEqDiff, ↓reduceIte, Nat.reduceAdd, Nat.reduceMul, Nat.reduceLeDiff, Nat.reduceLT, reduceCtorEq, Int.reduceToNat, Int.reduceLE, Int.reduceLT, Int.reduceEq, Int.reduceNeg, Int.reduceNe, Int.reducePow, Nat.reducePow, Nat.reduceSub, IntKind.bits]
    exact ⟨none, [], r.count.2, rfl, rfl, .start R1 O1, hc.1, hcb, by simp⟩
  · rintro i s hh ⟨e0, e1, e5, e7, o, zs, r', e6, hz, hi, G, ok', hb', hg⟩
    have fin : gather one n r.count.2 = (zs.map pl, r') → ∀ hq, Keep hh hq → Ru Try.prog TA [] (ex Try.prog TA (.skip) s hq) (fun _ => (r'.stop = true → eachL one r = ([], r')) ∧ (r'.stop = false → eachL one r = (zs.map pl, r'))) := by
      intro e hq kq
      rw [ru_skip, ru_nil]
      unfold eachL
      rw [hnt, e]
      dsimp only
      exact ⟨fun q => by rw [if_pos q], fun q => by rw [if_neg (by simp [q])]⟩
    by_cases c1 : (i : Int) < n
    rotate_left
    · have e : gather one n r.count.2 = (zs.map pl, r') := by rw [hg, show n - i = 0 by omega]; simp [gather]
      have hx := fin e hh (.refl _)
      rw [ru_skip, ru_nil] at hx
      simp (maxSteps := 10000000) (maxDischargeDepth := 30) only [e0, e1, e5, e6, e7, c1, go_sem, Nat.reduceEqDiff, ↓reduceIte, Nat.reduceAdd, Nat.reduceMul, Nat.reduceLeDiff, Nat.reduceLT, reduceCtorEq, Int.reduceToNat, Int.reduceLE, Int.reduceLT, Int.reduceEq, Int.reduceNeg, Int.reduceNe, Int.reducePow, Nat.reducePow, Nat.reduceSub, IntKind.bits]
      refine ro_kcall (cRdRight h0 p r' hh G.rdr) G.rdr.wf (fun h2 k2 w2 => ?_)
      have G2 := G.next k2
      by_cases hs : r'.stop = true
      · simp (maxSteps := 10000000) (maxDischargeDepth := 30) only [e6, hs, go_sem, Nat.reduceEqDiff, ↓reduceIte, Nat.reduceAdd, Nat.reduceMul, Nat.reduceLeDiff, Nat.reduceLT, reduceCtorEq, Int.reduceToNat, Int.reduceLE, Int.reduceLT, Int.reduceEq, Int.reduceNeg, Int.reduceNe, Int.reducePow, Nat.reducePow, Nat.reduceSub, IntKind.bits]
        rw [hx.1 hs]
        exact ⟨⟨none, [], rfl, rfl⟩, G2.rdr, G2.otr⟩
      · have hs' : r'.stop = false := by simpa using hs
        simp (maxSteps := 10000000) (maxDischargeDepth := 30) only [e6, hs', go_sem, Nat.reduceEqDiff, ↓reduceIte, Nat.reduceAdd, Nat.reduceMul, Nat.reduceLeDiff, Nat.reduceLT, reduceCtorEq, Int.reduceToNat, Int.reduceLE, Int.reduceLT, Int.reduceEq, Int.reduceNeg, Int.reduceNe, Int.reducePow, Nat.reducePow, Nat.reduceSub, IntKind.bits]
        rw [hx.2 hs']
        exact ⟨⟨o, zs, rfl, rfl⟩, G2.rdr, G2.otr⟩
    by_cases hs : r'.stop = true
    · have e : gather one n r.count.2 = (zs.map pl, r') := by rw [hg, gather_stop hs]; simp
      have hx := fin e hh (.refl _)
      rw [ru_skip, ru_nil] at hx
      simp (maxSteps := 10000000) (maxDischargeDepth := 30) only [e0, e1, e5, e6, e7, c1, go_sem, Nat.reduceEqDiff, ↓reduceIte, Nat.reduceAdd, Nat.reduceMul, Nat.reduceLeDiff, Nat.reduceLT, reduceCtorEq, Int.reduceToNat, Int.reduceLE, Int.reduceLT, Int.reduceEq, Int.reduceNeg, Int.reduceNe, Int.reducePow, Nat.reducePow, Nat.reduceSub, IntKind.bits]
      refine ro_kcall (cRdRight h0 p r' hh G.rdr) G.rdr.wf (fun h2 k2 w2 => ?_)
      have G2 := G.next k2
      simp (maxSteps := 10000000) (maxDischargeDepth := 30) only [e0, e1, e5, e6, e7, hs, go_sem, Nat.reduceEqDiff, ↓reduceIte, Nat.reduceAdd, Nat.reduceMul, Nat.reduceLeDiff, Nat.reduceLT, reduceCtorEq, Int.reduceToNat, Int.reduceLE, Int.reduceLT, Int.reduceEq, Int.reduceNeg, Int.reduceNe, Int.reducePow, Nat.reducePow, Nat.reduceSub, IntKind.bits]
      refine ro_kcall (cRdRight h0 p r' h2 G2.rdr) w2 (fun h3 k3 w3 => ?_)
      have G3 := G2.next k3
      simp (maxSteps := 10000000) (maxDischargeDepth := 30) only [e6, hs, go_sem, Nat.reduceEqDiff, ↓reduceIte, Nat.reduceAdd, Nat.reduceMul, Nat.reduceLeDiff, Nat.reduceLT, reduceCtorEq, Int.reduceToNat, Int.reduceLE, Int.reduceLT, Int.reduceEq, Int.reduceNeg, Int.reduceNe, Int.reducePow, Nat.reducePow, Nat.reduceSub, IntKind.bits]
      rw [hx.1 hs]
      exact ⟨⟨none, [], rfl, rfl⟩, G3.rdr, G3.otr⟩
    refine ru_step ?_
    have hs' : r'.stop = false := by simpa using hs
    simp (maxSteps := 10000000) (maxDischargeDepth := 30) only [e0, e1, e5, e6, e7, c1, go_sem, Nat.reduceEqDiff, ↓reduceIte, Nat.reduceAdd, Nat.reduceMul, Nat.reduceLeDiff, Nat.reduceLT, reduceCtorEq, Int.reduceToNat, Int.reduceLE, Int.reduceLT, Int.reduceEq, Int.reduceNeg, Int.reduceNe, Int.reducePow, Nat.reducePow, Nat.reduceSub, IntKind.bits]
    refine ro_kcall (cRdRight h0 p r' hh G.rdr) G.rdr.wf (fun h2 k2 w2 => ?_)
    have G2 := G.next k2
    simp (maxSteps := 10000000) (maxDischargeDepth := 30) only [e0, e1, e5, e6, e7, hs', go_sem, Nat.reduceEqDiff, ↓reduceIte, Nat.reduceAdd, Nat.reduceMul, Nat.reduceLeDiff, Nat.reduceLT, reduceCtorEq, Int.reduceToNat, Int.reduceLE, Int.reduceLT, Int.reduceEq, Int.reduceNeg, Int.reduceNe, Int.reducePow, Nat.reducePow, Nat.reduceSub, IntKind.bits]
    refine ro_vcall (hone r' h2 G2.rdr G2.otr ok' hb' hs') (fun v h3 J => ?_)
    obtain ⟨⟨x, rfl, hpx⟩, R3, O3⟩ := J
    have k3 : Keep h3 (h3.nrow 1) := (Keep.refl h3).nrow 1
    have G3 := (G2.step R3 O3).next k3
    rw [show zs.length = (zs.map LaneR.e).length by rw [List.length_map]] at G3
    obtain ⟨o4, h4, ap, G4, -, -, -, -⟩ := G3.app (sz := 2) (by_ := 32) (xs := zs.map LaneR.e) hh0 [LaneR.e x] (by
      rw [List.length_map, hz, List.length_singleton]; omega)
    have ezs : zs.map LaneR.e ++ [LaneR.e x] = (zs ++ [x]).map LaneR.e := by simp
    rw [ezs] at ap G4
    rw [List.length_map] at G4
    simp only [LaneR.e] at ap
    have ew : IntKind.i64.wrap ((i : Int) + 1) = ((i + 1 : Nat) : Int) := by rw [wrap64 (by omega) (by omega)]; omega
    simp (maxSteps := 10000000) (maxDischargeDepth := 30) only [e0, e1, e5, e6, e7, LaneR.e, ap, ew, go_sem, Nat.reduceEqDiff, ↓reduceIte, Nat.reduceAdd, Nat.reduceMul, Nat.reduceLeDiff, Nat.reduceLT, reduceCtorEq, Int.reduceToNat, Int.reduceLE, Int.reduceLT, Int.reduceEq, Int.reduceNeg, Int.reduceNe, Int.reducePow, Nat.reducePow, Nat.reduceSub, IntKind.bits]
    refine ⟨i + 1, by omega, ?_⟩
    unfold IEachLaneR
    simp (maxSteps := 10000000) (maxDischargeDepth := 30) only [e0, e1, e5, go_sem, Nat.reduceEqDiff, ↓reduceIte, Nat.reduceAdd, Nat.reduceMul, Nat.reduceLeDiff, Nat.reduceLT, reduceCtorEq, Int.reduceToNat, Int.reduceLE, Int.reduceLT, Int.reduceEq, Int.reduceNeg, Int.reduceNe, Int.reducePow, Nat.reducePow, Nat.reduceSub, IntKind.bits]
    refine ⟨o4, zs ++ [x], (one r').2, rfl, by simp [hz], by omega, G4, ho.ok r' ok', (ho.b r').trans hb', ?_⟩
    rw [hg, show n - i = (n - (i + 1)) + 1 by omega, gather_go hs']
    simp [hpx]

theorem cPrPage (h0 : H) (p : Nat) (r : RS) (h : H) (R : Rdr h0 p r h) (ok : r.ok) (hl : r.b.length ≤ 1000000000000) :
    ∃ v h', runI Try.prog TA 95 [.agg [.ptr p 0]] h = some (v, h') ∧ (∃ x : PageR, v = x.e ∧ x.plain = (pageRd r).1) ∧ Rdr h0 p (pageRd r).2 h' ∧ Otr p h h' := by
  refine calls_of rfl res95 rfl ?_
  have lt := R.lt
  have lo := R.wf.1
  have hk := R.keep.len
  simp (maxSteps := 10000000) (maxDischargeDepth := 30) only [q95, r95, go_sem, Nat.reduceEqDiff, ↓reduceIte, Nat.reduceAdd, Nat.reduceMul, Nat.reduceLeDiff, Nat.reduceLT, reduceCtorEq, Int.reduceToNat, Int.reduceLE, Int.reduceLT, Int.reduceEq, Int.reduceNeg, Int.reduceNe, Int.reducePow, Nat.reducePow, Nat.reduceSub, IntKind.bits]
  generalize hgg : H.nrow _ _ = g
  have kg : Keep h g := by rw [← hgg]; exact ((((Keep.refl h).alloc _).alloc _).alloc _).nrow _
  have ga1 : g.get h.len = some ⟨false, [.ptr p 0]⟩ := by rw [← hgg]; simp (maxSteps := 10000000) (maxDischargeDepth := 30) only [go_sem, Nat.reduceEqDiff, ↓reduceIte, Nat.reduceAdd, Nat.reduceMul, Nat.reduceLeDiff, Nat.reduceLT, reduceCtorEq, Int.reduceToNat, Int.reduceLE, Int.reduceLT, Int.reduceEq, Int.reduceNeg, Int.reduceNe, Int.reducePow, Nat.reducePow, Nat.reduceSub, IntKind.bits]
  have ga2 : g.get (h.len + 1) = some ⟨false, [.nils, .int .i64 0, .int .i64 0, .int .i64 0]⟩ := by rw [← hgg]; simp (maxSteps := 10000000) (maxDischargeDepth := 30) only [go_sem, Nat.reduceEqDiff, ↓reduceIte, Nat.reduceAdd, Nat.reduceMul, Nat.reduceLeDiff, Nat.reduceLT, reduceCtorEq, Int.reduceToNat, Int.reduceLE, Int.reduceLT, Int.reduceEq, Int.reduceNeg, Int.reduceNe, Int.reducePow, Nat.reducePow, Nat.reduceSub, IntKind.bits]
  have ga3 : g.get (h.len + 1 + 1) = some ⟨false, [.nils, .int .i64 0, .int .i64 0, .int .i64 0]⟩ := by rw [← hgg]; simp (maxSteps := 10000000) (maxDischargeDepth := 30) only [go_sem, Nat.reduceEqDiff, ↓reduceIte, Nat.reduceAdd, Nat.reduceMul, Nat.reduceLeDiff, Nat.reduceLT, reduceCtorEq, Int.reduceToNat, Int.reduceLE, Int.reduceLT, Int.reduceEq, Int.reduceNeg, Int.reduceNe, Int.reducePow, Nat.reducePow, Nat.reduceSub, IntKind.bits]
  have gl : g.len = h.len + 1 + 1 + 1 := by rw [← hgg]; simp (maxSteps := 10000000) (maxDischargeDepth := 30) only [go_sem, Nat.reduceEqDiff, ↓reduceIte, Nat.reduceAdd, Nat.reduceMul, Nat.reduceLeDiff, Nat.reduceLT, reduceCtorEq, Int.reduceToNat, Int.reduceLE, Int.reduceLT, Int.reduceEq, Int.reduceNeg, Int.reduceNe, Int.reducePow, Nat.reducePow, Nat.reduceSub, IntKind.bits]
  have gb := kg.lob
  refine ro_wcall (cPrInts h0 p (h.len + 1 + 1) (some (h.rlen, 3)) [1, 2, 3] [.nils, .int .i64 0, .int .i64 0, .int .i64 0] r g (R.next kg) ok hl ga3 (by omega) (by omega) (by omega) (by simp) (by simp)) (fun h3 J => ?_)
  obtain ⟨R3, g3, O3⟩ := J
  have ga13 := (O3.get h.len (by omega) (by omega) (by omega)).trans ga1
  have ga23 := (O3.get (h.len + 1) (by omega) (by omega) (by omega)).trans ga2
  have g3' : h3.get (h.len + 1 + 1) = some ⟨false, [.nils, .int .i64 r.int.1, .int .i64 r.int.2.int.1, .int .i64 r.int.2.int.2.int.1]⟩ := g3
  have l3 := O3.len
  simp (maxSteps := 10000000) (maxDischargeDepth := 30) only [ga13, go_sem, Nat.reduceEqDiff, ↓reduceIte, Nat.reduceAdd, Nat.reduceMul, Nat.reduceLeDiff, Nat.reduceLT, reduceCtorEq, Int.reduceToNat, Int.reduceLE, Int.reduceLT, Int.reduceEq, Int.reduceNeg, Int.reduceNe, Int.reducePow, Nat.reducePow, Nat.reduceSub, IntKind.bits]
  refine ro_vcall (cEachLaneR LaneR.plain laneRd lane_one h0 p 114 [.agg [.ptr p 0]] [] (numsR 3 r).2 h3 R3 ((nums_one 3).ok r ok) (by rw [(nums_one 3).b r]; exact hl) (fun r' hh R' _ ok' hb' _ => ?_)) (fun v h4 J => ?_)
  · obtain ⟨v, h', e, ⟨x, ev, ex⟩, R2, O2⟩ := cPrLane h0 p r' hh R' ok' (by rw [hb', (nums_one 3).b r]; exact hl)
    exact ⟨_, h', e, ⟨x, ev, ex⟩, R2, O2⟩
  obtain ⟨⟨o, zs, rfl, hz⟩, R4, O4⟩ := J
  have ga24 := (O4.get (by omega) (by omega)).trans ga23
  have g4 := (O4.get (by omega) (by omega)).trans g3'
  have l4 := O4.len
  have lob4 : h4.lob ≤ h.len + 1 := by rw [O4.lob, O3.lob, gb]; omega
  have lob5 : h4.lob ≤ h.len + 1 + 1 := by omega
  have l44 : h.len + 1 < h4.len := by omega
  have l45 : h.len + 1 + 1 < h4.len := by omega
  simp (maxSteps := 10000000) (maxDischargeDepth := 30) only [ga24, g4, lob4, lob5, l44, l45, go_sem, Nat.reduceEqDiff, ↓reduceIte, Nat.reduceAdd, Nat.reduceMul, Nat.reduceLeDiff, Nat.reduceLT, reduceCtorEq, Int.reduceToNat, Int.reduceLE, Int.reduceLT, Int.reduceEq, Int.reduceNeg, Int.reduceNe, Int.reducePow, Nat.reducePow, Nat.reduceSub, IntKind.bits]
  refine ⟨⟨⟨r.int.1, r.int.2.int.1, r.int.2.int.2.int.1, o, zs⟩, rfl, ?_⟩, (R4.put2 (by omega) (by omega) _).put2 (by omega) (by omega) _, (((Ot2.otr (kg.otr p) (by omega) O3).trans O4).new (by omega) _).new (by omega) _⟩
  unfold PageR.plain pageRd
  rw [hz]
  rfl

def IEachPageR {α : Type} (pl : PageR → α) (one : RS → α × RS) (h0 h : H) (p f : Nat) (first caps : List LV) (r : RS) (n i : Nat) (s : S) (hh : H) : Prop :=
  s 0 = .ptr p 0 ∧ s 1 = .fn f first caps ∧ s 5 = .int .i64 n ∧ s 7 = .int .i64 i ∧ ∃ (o : Option (Nat × Nat)) (zs : List (PageR)) (r' : RS), s 6 = mkS o 4 (zs.map PageR.e) ∧ zs.length = i ∧ i ≤ n ∧ Gth h0 h p r' o zs.length hh ∧ r'.ok ∧ r'.b = r.b ∧
    gather one n r.count.2 = (zs.map pl ++ (gather one (n - i) r').1, (gather one (n - i) r').2)
theorem cEachPageR {α : Type} (pl : PageR → α) (one : RS → α × RS) (ho : OneOk one) (h0 : H) (p f : Nat) (first caps : List LV) (r : RS) (h : H) (R : Rdr h0 p r h) (ok : r.ok) (hl : r.b.length ≤ 1000000000000)
    (hone : ∀ r' hh, Rdr h0 p r' hh → Otr p h hh → r'.ok → r'.b = r.b → r'.stop = false → ∃ v h', runI Try.prog TA f (first ++ caps) hh = some (v, h') ∧ (∃ x, v = PageR.e x ∧ pl x = (one r').1) ∧ Rdr h0 p (one r').2 h' ∧ Otr p hh h') :
    ∃ v h', runI Try.prog TA 94 [.ptr p 0, .fn f first caps] h = some (v, h') ∧ (∃ (o : Option (Nat × Nat)) (zs : List (PageR)), v = mkS o 4 (zs.map PageR.e) ∧ zs.map pl = (eachL one r).1) ∧ Rdr h0 p (eachL one r).2 h' ∧ Otr p h h' := by
  refine calls_of rfl res94 rfl ?_
  simp (maxSteps := 10000000) (maxDischargeDepth := 30) only [q94, r94, go_sem, Nat.reduceEqDiff, ↓reduceIte, Nat.reduceAdd, Nat.reduceMul, Nat.reduceLeDiff, Nat.reduceLT, reduceCtorEq, Int.reduceToNat, Int.reduceLE, Int.reduceLT, Int.reduceEq, Int.reduceNeg, Int.reduceNe, Int.reducePow, Nat.reducePow, Nat.reduceSub, IntKind.bits]
  refine ro_wcall (cRdCount h0 p r h R ok hl) (fun h1 J => ?_)
  obtain ⟨R1, O1⟩ := J
  have hc := RS.count_ok ok
  have hcb := r.count_b
  obtain ⟨n, hn⟩ : ∃ n : Nat, r.count.1 = (n : Int) := ⟨r.count.1.toNat, by omega⟩
  have hnt : r.count.1.toNat = n := by omega
  have hh0 : h0.rlen ≤ h.rlen := R.keep.rlen
  rw [hn]
  simp (maxSteps := 10000000) (maxDischargeDepth := 30) only [go_sem, Nat.reduceEqDiff, ↓reduceIte, Nat.reduceAdd, Nat.reduceMul, Nat.reduceLeDiff, Nat.reduceLT, reduceCtorEq, Int.reduceToNat, Int.reduceLE, Int.reduceLT, Int.reduceEq, Int.reduceNeg, Int.reduceNe, Int.reducePow, Nat.reducePow, Nat.reduceSub, IntKind.bits]
  refine ru_loop (fun i => n - i) (IEachPageR pl one h0 h p f first caps r n) 0 ?_ ?_
  · unfold IEachPageR
    simp (maxSteps := 10000000) (maxDischargeDepth := 30) only [Int.natCast_zero, go_sem, Nat.reduceEqDiff, ↓reduceIte, Nat.reduceAdd, Nat.reduceMul, Nat.reduceLeDiff, Nat.reduceLT, reduceCtorEq, Int.reduceToNat, Int.reduceLE, Int.reduceLT, Int.reduceEq, Int.reduceNeg, Int.reduceNe, Int.reducePow, Nat.reducePow, Nat.reduceSub, IntKind.bits]
    exact ⟨none, [], r.count.2, rfl, rfl, .start R1 O1, hc.1, hcb, by simp⟩
  · rintro i s hh ⟨e0, e1, e5, e7, o, zs, r', e6, hz, hi, G, ok', hb', hg⟩
    have fin : gather one n r.count.2 = (zs.map pl, r') → ∀ hq, Keep hh hq → Ru Try.prog TA [] (ex Try.prog TA (.skip) s hq) (fun _ => (r'.stop = true → eachL one r = ([], r')) ∧ (r'.stop = false → eachL one r = (zs.map pl, r'))) := by
      intro e hq kq
      rw [ru_skip, ru_nil]
      unfold eachL
      rw [hnt, e]
      dsimp only
      exact ⟨fun q => by rw [if_pos q], fun q => by rw [if_neg (by simp [q])]⟩
    by_cases c1 : (i : Int) < n
    rotate_left
    · have e : gather one n r.count.2 = (zs.map pl, r') := by rw [hg, show n - i = 0 by omega]; simp [gather]
      have hx := fin e hh (.refl _)
      rw [ru_skip, ru_nil] at hx
      simp (maxSteps := 10000000) (maxDischargeDepth := 30) only [e0, e1, e5, e6, e7, c1, go_sem, Nat.reduceEqDiff, ↓reduceIte, Nat.reduceAdd, Nat.reduceMul, Nat.reduceLeDiff, Nat.reduceLT, reduceCtorEq, Int.reduceToNat, Int.reduceLE, Int.reduceLT, Int.reduceEq, Int.reduceNeg, Int.reduceNe, Int.reducePow, Nat.reducePow, Nat.reduceSub, IntKind.bits]
      refine ro_kcall (cRdRight h0 p r' hh G.rdr) G.rdr.wf (fun h2 k2 w2 => ?_)
      have G2 := G.next k2
      by_cases hs : r'.stop = true
      · simp (maxSteps := 10000000) (maxDischargeDepth := 30) only [e6, hs, go_sem, Nat.reduceEqDiff, ↓reduceIte, Nat.reduceAdd, Nat.reduceMul, Nat.reduceLeDiff, Nat.reduceLT, reduceCtorEq, Int.reduceToNat, Int.reduceLE, Int.reduceLT, Int.reduceEq, Int.reduceNeg, Int.reduceNe, Int.reducePow, Nat.reducePow, Nat.reduceSub, IntKind.bits]
        rw [hx.1 hs]
        exact ⟨⟨none, [], rfl, rfl⟩, G2.rdr, G2.otr⟩
      · have hs' : r'.stop = false := by simpa using hs
        simp (maxSteps := 10000000) (maxDischargeDepth := 30) only [e6, hs', go_sem, Nat.reduceEqDiff, ↓reduceIte, Nat.reduceAdd, Nat.reduceMul, Nat.reduceLeDiff, Nat.reduceLT, reduceCtorEq, Int.reduceToNat, Int.reduceLE, Int.reduceLT, Int.reduceEq, Int.reduceNeg, Int.reduceNe, Int.reducePow, Nat.reducePow, Nat.reduceSub, IntKind.bits]
        rw [hx.2 hs']
        exact ⟨⟨o, zs, rfl, rfl⟩, G2.rdr, G2.otr⟩
    by_cases hs : r'.stop = true
    · have e : gather one n r.count.2 = (zs.map pl, r') := by rw [hg, gather_stop hs]; simp
      have hx := fin e hh (.refl _)
      rw [ru_skip, ru_nil] at hx
      simp (maxSteps := 10000000) (maxDischargeDepth := 30) only [e0, e1, e5, e6, e7, c1, go_sem, Nat.reduceEqDiff, ↓reduceIte, Nat.reduceAdd, Nat.reduceMul, Nat.reduceLeDiff, Nat.reduceLT, reduceCtorEq, Int.reduceToNat, Int.reduceLE, Int.reduceLT, Int.reduceEq, Int.reduceNeg, Int.reduceNe, Int.reducePow, Nat.reducePow, Nat.reduceSub, IntKind.bits]
      refine ro_kcall (cRdRight h0 p r' hh G.rdr) G.rdr.wf (fun h2 k2 w2 => ?_)
      have G2 := G.next k2
      simp (maxSteps := 10000000) (maxDischargeDepth := 30) only [e0, e1, e5, e6, e7, hs, go_sem, Nat.reduceEqDiff, ↓reduceIte, Nat.reduceAdd, Nat.reduceMul, Nat.reduceLeDiff, Nat.reduceLT, reduceCtorEq, Int.reduceToNat, Int.reduceLE, Int.reduceLT, Int.reduceEq, Int.reduceNeg, Int.reduceNe, Int.reducePow, Nat.reducePow, Nat.reduceSub, IntKind.bits]
      refine ro_kcall (cRdRight h0 p r' h2 G2.rdr) w2 (fun h3 k3 w3 => ?_)
      have G3 := G2.next k3
      simp (maxSteps := 10000000) (maxDischargeDepth := 30) only [e6, hs, go_sem, Nat.reduceEqDiff, ↓reduceIte, Nat.reduceAdd, Nat.reduceMul, Nat.reduceLeDiff, Nat.reduceLT, reduceCtorEq, Int.reduceToNat, Int.reduceLE, Int.reduceLT, Int.reduceEq, Int.reduceNeg, Int.reduceNe, Int.reducePow, Nat.reducePow, Nat.reduceSub, IntKind.bits]
      rw [hx.1 hs]
      exact ⟨⟨none, [], rfl, rfl⟩, G3.rdr, G3.otr⟩
    refine ru_step ?_
    have hs' : r'.stop = false := by simpa using hs
    simp (maxSteps := 10000000) (maxDischargeDepth := 30) only [e0, e1, e5, e6, e7, c1, go_sem, Nat.reduceEqDiff, ↓reduceIte, Nat.reduceAdd, Nat.reduceMul, Nat.reduceLeDiff, Nat.reduceLT, reduceCtorEq, Int.reduceToNat, Int.reduceLE, Int.reduceLT, Int.reduceEq, Int.reduceNeg, Int.reduceNe, Int.reducePow, Nat.reducePow, Nat.reduceSub, IntKind.bits]
    refine ro_kcall (cRdRight h0 p r' hh G.rdr) G.rdr.wf (fun h2 k2 w2 => ?_)
    have G2 := G.next k2
    simp (maxSteps := 10000000) (maxDischargeDepth := 30) only [e0, e1, e5, e6, e7, hs', go_sem, Nat.reduceEqDiff, ↓reduceIte, Nat.reduceAdd, Nat.reduceMul, Nat.reduceLeDiff, Nat.reduceLT, reduceCtorEq, Int.reduceToNat, Int.reduceLE, Int.reduceLT, Int.reduceEq, Int.reduceNeg, Int.reduceNe, Int.reducePow, Nat.reducePow, Nat.reduceSub, IntKind.bits]
    refine ro_vcall (hone r' h2 G2.rdr G2.otr ok' hb' hs') (fun v h3 J => ?_)
    obtain ⟨⟨x, rfl, hpx⟩, R3, O3⟩ := J
    have k3 : Keep h3 (h3.nrow 1) := (Keep.refl h3).nrow 1
    have G3 := (G2.step R3 O3).next k3
    rw [show zs.length = (zs.map PageR.e).length by rw [List.length_map]] at G3
    obtain ⟨o4, h4, ap, G4, -, -, -, -⟩ := G3.app (sz := 4) (by_ := 48) (xs := zs.map PageR.e) hh0 [PageR.e x] (by
      rw [List.length_map, hz, List.length_singleton]; omega)
    have ezs : zs.map PageR.e ++ [PageR.e x] = (zs ++ [x]).map PageR.e := by simp
    rw [ezs] at ap G4
    rw [List.length_map] at G4
    simp only [PageR.e] at ap
    have ew : IntKind.i64.wrap ((i : Int) + 1) = ((i + 1 : Nat) : Int) := by rw [wrap64 (by omega) (by omega)]; omega
    simp (maxSteps := 10000000) (maxDischargeDepth := 30) only [e0, e1, e5, e6, e7, PageR.e, ap, ew, go_sem, Nat.reduceEqDiff, ↓reduceIte, Nat.reduceAdd, Nat.reduceMul, Nat.reduceLeDiff, Nat.reduceLT, reduceCtorEq, Int.reduceToNat, Int.reduceLE, Int.reduceLT, Int.reduceEq, Int.reduceNeg, Int.reduceNe, Int.reducePow, Nat.reducePow, Nat.reduceSub, IntKind.bits]
    refine ⟨i + 1, by omega, ?_⟩
    unfold IEachPageR
    simp (maxSteps := 10000000) (maxDischargeDepth := 30) only [e0, e1, e5, go_sem, Nat.reduceEqDiff, ↓reduceIte, Nat.reduceAdd, Nat.reduceMul, Nat.reduceLeDiff, Nat.reduceLT, reduceCtorEq, Int.reduceToNat, Int.reduceLE, Int.reduceLT, Int.reduceEq, Int.reduceNeg, Int.reduceNe, Int.reducePow, Nat.reducePow, Nat.reduceSub, IntKind.bits]
    refine ⟨o4, zs ++ [x], (one r').2, rfl, by simp [hz], by omega, G4, ho.ok r' ok', (ho.b r').trans hb', ?_⟩
    rw [hg, show n - i = (n - (i + 1)) + 1 by omega, gather_go hs']
    simp [hpx]

theorem cPMagic (h : H) : runI Try.prog TA 70 [] h = some (.str ⟨#[84, 89, 80, 49]⟩, hp Try.prog TA 70 [] h) := by
  refine pure_of rfl res70 rfl ?_
  simp (maxSteps := 10000000) (maxDischargeDepth := 30) only [q70, r70, go_sem, Nat.reduceEqDiff, ↓reduceIte, Nat.reduceAdd, Nat.reduceMul, Nat.reduceLeDiff, Nat.reduceLT, reduceCtorEq, Int.reduceToNat, Int.reduceLE, Int.reduceLT, Int.reduceEq, Int.reduceNeg, Int.reduceNe, Int.reducePow, Nat.reducePow, Nat.reduceSub, IntKind.bits]
/-- What Pages tells. -/
def okPages (b : List Int) (v : LV) : Prop :=
  match pagesRd b with
  | some l => ∃ (o : Option (Nat × Nat)) (zs : List PageR), v = .tup [mkS o 4 (zs.map PageR.e), .int .i64 0] ∧ zs.map PageR.plain = l
  | none => v = .tup [.nils, .int .i64 2]
theorem cPrPages (o : Option (Nat × Nat)) (b : List Int) (hb : ∀ c ∈ b, 0 ≤ c ∧ c < 256) (hl : b.length ≤ 1000000000000) (h : H) (w : WF h) :
    ∃ v h', runI Try.prog TA 50 [byts o b] h = some (v, h') ∧ okPages b v ∧ Keep h h' := by
  refine calls_of rfl res50 rfl ?_
  simp (maxSteps := 10000000) (maxDischargeDepth := 30) only [q50, r50, go_sem, Nat.reduceEqDiff, ↓reduceIte, Nat.reduceAdd, Nat.reduceMul, Nat.reduceLeDiff, Nat.reduceLT, reduceCtorEq, Int.reduceToNat, Int.reduceLE, Int.reduceLT, Int.reduceEq, Int.reduceNeg, Int.reduceNe, Int.reducePow, Nat.reducePow, Nat.reduceSub, IntKind.bits]
  refine ro_vcall (cROpen h o b hl h w (.refl h)) (fun v h1 J => ?_)
  obtain ⟨p, rfl, R, k1, hp1⟩ := J
  have ok0 := rs0_ok hb
  have w1 := R.wf
  have w1l := w1.1
  have lt := R.lt
  simp (maxSteps := 10000000) (maxDischargeDepth := 30) only [w1l, go_sem, Nat.reduceEqDiff, ↓reduceIte, Nat.reduceAdd, Nat.reduceMul, Nat.reduceLeDiff, Nat.reduceLT, reduceCtorEq, Int.reduceToNat, Int.reduceLE, Int.reduceLT, Int.reduceEq, Int.reduceNeg, Int.reduceNe, Int.reducePow, Nat.reducePow, Nat.reduceSub, IntKind.bits]
  generalize hgg : (h1.alloc _).put _ _ = g
  have k2 : Keep h1 g := by rw [← hgg]; exact ((Keep.refl h1).alloc _).put (Nat.le_refl _) _
  have gq : g.get h1.len = some ⟨false, [.ptr p 0]⟩ := by rw [← hgg]; simp (maxSteps := 10000000) (maxDischargeDepth := 30) only [go_sem, Nat.reduceEqDiff, ↓reduceIte, Nat.reduceAdd, Nat.reduceMul, Nat.reduceLeDiff, Nat.reduceLT, reduceCtorEq, Int.reduceToNat, Int.reduceLE, Int.reduceLT, Int.reduceEq, Int.reduceNeg, Int.reduceNe, Int.reducePow, Nat.reducePow, Nat.reduceSub, IntKind.bits]
  have lq : h1.len < g.len := lt_of_get gq
  have Rg := R.next k2
  refine rw_kcallW (cPMagic g) Rg.wf (fun hh kk => by simp (maxSteps := 10000000) (maxDischargeDepth := 30) only [kk.get lq, go_sem, Nat.reduceEqDiff, ↓reduceIte, Nat.reduceAdd, Nat.reduceMul, Nat.reduceLeDiff, Nat.reduceLT, reduceCtorEq, Int.reduceToNat, Int.reduceLE, Int.reduceLT, Int.reduceEq, Int.reduceNeg, Int.reduceNe, Int.reducePow, Nat.reducePow, Nat.reduceSub, IntKind.bits]) (fun h2 k3 w2 => ?_)
  have R2 := Rg.next k3
  have gq2 := (k3.get lq).trans gq
  simp (maxSteps := 10000000) (maxDischargeDepth := 30) only [go_sem, Nat.reduceEqDiff, ↓reduceIte, Nat.reduceAdd, Nat.reduceMul, Nat.reduceLeDiff, Nat.reduceLT, reduceCtorEq, Int.reduceToNat, Int.reduceLE, Int.reduceLT, Int.reduceEq, Int.reduceNeg, Int.reduceNe, Int.reducePow, Nat.reducePow, Nat.reduceSub, IntKind.bits]
  refine rw_wcall (cRdMark h p _ ⟨#[84, 89, 80, 49]⟩ h2 R2 ok0 hl (by decide)) (fun h3 J => ?_)
  obtain ⟨R3, O3⟩ := J
  have hm : strB ⟨#[84, 89, 80, 49]⟩ = magicP := by rfl
  rw [hm] at R3
  have ok3 := RS.mark_ok ok0 magicP
  have lq2 := lt_of_get gq2
  have gq3 := (O3.get lq2 (by omega)).trans gq2
  simp (maxSteps := 10000000) (maxDischargeDepth := 30) only [gq3, go_sem, Nat.reduceEqDiff, ↓reduceIte, Nat.reduceAdd, Nat.reduceMul, Nat.reduceLeDiff, Nat.reduceLT, reduceCtorEq, Int.reduceToNat, Int.reduceLE, Int.reduceLT, Int.reduceEq, Int.reduceNeg, Int.reduceNe, Int.reducePow, Nat.reducePow, Nat.reduceSub, IntKind.bits]
  refine ro_vcall (cEachPageR PageR.plain pageRd page_one h p 95 [.agg [.ptr p 0]] [] _ h3 R3 ok3 (by rw [RS.mark_b]; exact hl) (fun r' hh R' _ ok' hb' _ => ?_)) (fun v h4 J => ?_)
  · obtain ⟨v, h', e, ⟨x, ev, ex⟩, R2, O2⟩ := cPrPage h p r' hh R' ok' (by rw [hb', RS.mark_b]; exact hl)
    exact ⟨_, h', e, ⟨x, ev, ex⟩, R2, O2⟩
  obtain ⟨⟨o, zs, rfl, hz⟩, R4, O4⟩ := J
  have lq3 := lt_of_get gq3
  have gq4 := (O4.get lq3 (by omega)).trans gq3
  have hbb := ((each_one page_one).b (RS.mark ⟨b, 0, false⟩ magicP)).trans (RS.mark_b _ _)
  simp (maxSteps := 10000000) (maxDischargeDepth := 30) only [gq4, go_sem, Nat.reduceEqDiff, ↓reduceIte, Nat.reduceAdd, Nat.reduceMul, Nat.reduceLeDiff, Nat.reduceLT, reduceCtorEq, Int.reduceToNat, Int.reduceLE, Int.reduceLT, Int.reduceEq, Int.reduceNeg, Int.reduceNe, Int.reducePow, Nat.reducePow, Nat.reduceSub, IntKind.bits]
  refine ro_kcall (vRdEnd p _ h4 R4.v R4.wf) R4.wf (fun h5 k5 w5 => ?_)
  have K5 := R4.keep.trans k5
  unfold okPages pagesRd
  dsimp only
  rw [hbb]
  by_cases hc : (eachL pageRd (RS.mark ⟨b, 0, false⟩ magicP)).2.stop = false ∧ (b.length : Int) ≤ (eachL pageRd (RS.mark ⟨b, 0, false⟩ magicP)).2.at_
  · rw [if_pos hc, if_pos hc]
    simp (maxSteps := 10000000) (maxDischargeDepth := 30) only [K5, go_sem, Nat.reduceEqDiff, ↓reduceIte, Nat.reduceAdd, Nat.reduceMul, Nat.reduceLeDiff, Nat.reduceLT, reduceCtorEq, Int.reduceToNat, Int.reduceLE, Int.reduceLT, Int.reduceEq, Int.reduceNeg, Int.reduceNe, Int.reducePow, Nat.reducePow, Nat.reduceSub, IntKind.bits]
    exact ⟨o, zs, rfl, hz⟩
  · rw [if_neg hc, if_neg hc]
    simp (maxSteps := 10000000) (maxDischargeDepth := 30) only [K5, go_sem, Nat.reduceEqDiff, ↓reduceIte, Nat.reduceAdd, Nat.reduceMul, Nat.reduceLeDiff, Nat.reduceLT, reduceCtorEq, Int.reduceToNat, Int.reduceLE, Int.reduceLT, Int.reduceEq, Int.reduceNeg, Int.reduceNe, Int.reducePow, Nat.reducePow, Nat.reduceSub, IntKind.bits]
theorem cPrIs (o : Option (Nat × Nat)) (b : List Int) (hb : ∀ c ∈ b, 0 ≤ c ∧ c < 256) (hl : b.length ≤ 1000000000000) (h : H) (w : WF h) :
    runI Try.prog TA 52 [byts o b] h = some (.bool (pagesRd b).isSome, hp Try.prog TA 52 [byts o b] h) := by
  refine pure_of rfl res52 rfl ?_
  simp (maxSteps := 10000000) (maxDischargeDepth := 30) only [q52, r52, go_sem, Nat.reduceEqDiff, ↓reduceIte, Nat.reduceAdd, Nat.reduceMul, Nat.reduceLeDiff, Nat.reduceLT, reduceCtorEq, Int.reduceToNat, Int.reduceLE, Int.reduceLT, Int.reduceEq, Int.reduceNeg, Int.reduceNe, Int.reducePow, Nat.reducePow, Nat.reduceSub, IntKind.bits]
  refine ro_vcall (cPrPages o b hb hl h w) (fun v h1 J => ?_)
  obtain ⟨J, k1⟩ := J
  unfold okPages at J
  cases hp : pagesRd b with
  | none =>
    rw [hp] at J
    dsimp only at J
    subst J
    simp (maxSteps := 10000000) (maxDischargeDepth := 30) only [k1, Option.isSome, go_sem, Nat.reduceEqDiff, ↓reduceIte, Nat.reduceAdd, Nat.reduceMul, Nat.reduceLeDiff, Nat.reduceLT, reduceCtorEq, Int.reduceToNat, Int.reduceLE, Int.reduceLT, Int.reduceEq, Int.reduceNeg, Int.reduceNe, Int.reducePow, Nat.reducePow, Nat.reduceSub, IntKind.bits]
  | some l =>
    rw [hp] at J
    obtain ⟨o2, zs, rfl, hz⟩ := J
    simp (maxSteps := 10000000) (maxDischargeDepth := 30) only [k1, Option.isSome, go_sem, Nat.reduceEqDiff, ↓reduceIte, Nat.reduceAdd, Nat.reduceMul, Nat.reduceLeDiff, Nat.reduceLT, reduceCtorEq, Int.reduceToNat, Int.reduceLE, Int.reduceLT, Int.reduceEq, Int.reduceNeg, Int.reduceNe, Int.reducePow, Nat.reducePow, Nat.reduceSub, IntKind.bits]
def pagesN (b : List Int) : Int :=
  match pagesRd b with
  | some l => l.length
  | none => -1
theorem cPrCount (o : Option (Nat × Nat)) (b : List Int) (hb : ∀ c ∈ b, 0 ≤ c ∧ c < 256) (hl : b.length ≤ 1000000000000) (h : H) (w : WF h) :
    runI Try.prog TA 53 [byts o b] h = some (.int .i64 (pagesN b), hp Try.prog TA 53 [byts o b] h) := by
  refine pure_of rfl res53 rfl ?_
  simp (maxSteps := 10000000) (maxDischargeDepth := 30) only [q53, r53, go_sem, Nat.reduceEqDiff, ↓reduceIte, Nat.reduceAdd, Nat.reduceMul, Nat.reduceLeDiff, Nat.reduceLT, reduceCtorEq, Int.reduceToNat, Int.reduceLE, Int.reduceLT, Int.reduceEq, Int.reduceNeg, Int.reduceNe, Int.reducePow, Nat.reducePow, Nat.reduceSub, IntKind.bits]
  refine ro_vcall (cPrPages o b hb hl h w) (fun v h1 J => ?_)
  obtain ⟨J, k1⟩ := J
  unfold okPages at J
  unfold pagesN
  cases hp : pagesRd b with
  | none =>
    rw [hp] at J
    dsimp only at J
    subst J
    simp (maxSteps := 10000000) (maxDischargeDepth := 30) only [k1, go_sem, Nat.reduceEqDiff, ↓reduceIte, Nat.reduceAdd, Nat.reduceMul, Nat.reduceLeDiff, Nat.reduceLT, reduceCtorEq, Int.reduceToNat, Int.reduceLE, Int.reduceLT, Int.reduceEq, Int.reduceNeg, Int.reduceNe, Int.reducePow, Nat.reducePow, Nat.reduceSub, IntKind.bits]
  | some l =>
    rw [hp] at J
    obtain ⟨o2, zs, rfl, hz⟩ := J
    have hll : zs.length = l.length := by rw [← hz, List.length_map]
    simp (maxSteps := 10000000) (maxDischargeDepth := 30) only [k1, List.length_map, hll, go_sem, Nat.reduceEqDiff, ↓reduceIte, Nat.reduceAdd, Nat.reduceMul, Nat.reduceLeDiff, Nat.reduceLT, reduceCtorEq, Int.reduceToNat, Int.reduceLE, Int.reduceLT, Int.reduceEq, Int.reduceNeg, Int.reduceNe, Int.reducePow, Nat.reducePow, Nat.reduceSub, IntKind.bits]
end Go.LM
