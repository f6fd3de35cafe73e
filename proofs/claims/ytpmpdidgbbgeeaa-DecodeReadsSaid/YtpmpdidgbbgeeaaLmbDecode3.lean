import Derived.Test.YtpmpdidgbbgeeaaLmTrbR3
import Derived.Test.YtpmpdidgbbgeeaaLmbDecode2
namespace Go.LM
open Go.Proofs
set_option maxRecDepth 8000
set_option maxHeartbeats 8000000
set_option linter.unusedSimpArgs false

def IEachItemD {α : Type} (pl : ItemR → α) (one : RS → α × RS) (h0 h : H) (p f : Nat) (first caps : List LV) (r : RS) (n i : Nat) (s : S) (hh : H) : Prop :=
  s 0 = .ptr p 0 ∧ s 1 = .fn f first caps ∧ s 5 = .int .i64 n ∧ s 7 = .int .i64 i ∧ ∃ (o : Option (Nat × Nat)) (zs : List (ItemR)) (r' : RS), s 6 = mkS o 7 (zs.map ItemR.e) ∧ zs.length = i ∧ i ≤ n ∧ Gth h0 h p r' o zs.length hh ∧ r'.ok ∧ r'.b = r.b ∧
    gather one n r.count.2 = (zs.map pl ++ (gather one (n - i) r').1, (gather one (n - i) r').2)
theorem cEachItemD {α : Type} (pl : ItemR → α) (one : RS → α × RS) (ho : OneOk one) (h0 : H) (p f : Nat) (first caps : List LV) (r : RS) (h : H) (R : Rdr h0 p r h) (ok : r.ok) (hl : r.b.length ≤ 1000000000000)
    (hone : ∀ r' hh, Rdr h0 p r' hh → Otr p h hh → r'.ok → r'.b = r.b → r'.stop = false → ∃ v h', runI Try.prog TA f (first ++ caps) hh = some (v, h') ∧ (∃ x, v = ItemR.e x ∧ pl x = (one r').1) ∧ Rdr h0 p (one r').2 h' ∧ Otr p hh h') :
    ∃ v h', runI Try.prog TA 139 [.ptr p 0, .fn f first caps] h = some (v, h') ∧ (∃ (o : Option (Nat × Nat)) (zs : List (ItemR)), v = mkS o 7 (zs.map ItemR.e) ∧ zs.map pl = (eachL one r).1) ∧ Rdr h0 p (eachL one r).2 h' ∧ Otr p h h' := by
  refine calls_of rfl res139 rfl ?_
  simp (maxSteps := 10000000) (maxDischargeDepth := 30) only [q139, r139, go_sem, Nat.reduceEqDiff, ↓reduceIte, Nat.reduceAdd, Nat.reduceMul, Nat.reduceLeDiff, Nat.reduceLT, reduceCtorEq, Int.reduceToNat, Int.reduceLE, Int.reduceLT, Int.reduceEq, Int.reduceNeg, Int.reduceNe, Nat.reduceSub, IntKind.bits]
  refine ro_wcall (cRdCount h0 p r h R ok hl) (fun h1 J => ?_)
  obtain ⟨R1, O1⟩ := J
  have hc := RS.count_ok ok
  have hcb := r.count_b
  obtain ⟨n, hn⟩ : ∃ n : Nat, r.count.1 = (n : Int) := ⟨r.count.1.toNat, by omega⟩
  have hnt : r.count.1.toNat = n := by omega
  have hh0 : h0.rlen ≤ h.rlen := R.keep.rlen
  rw [hn]
  simp (maxSteps := 10000000) (maxDischargeDepth := 30) only [go_sem, Nat.reduceEqDiff, ↓reduceIte, Nat.reduceAdd, Nat.reduceMul, Nat.reduceLeDiff, Nat.reduceLT, reduceCtorEq, Int.reduceToNat, Int.reduceLE, Int.reduceLT, Int.reduceEq, Int.reduceNeg, Int.reduceNe, Nat.reduceSub, IntKind.bits]
  refine ru_loop (fun i => n - i) (IEachItemD pl one h0 h p f first caps r n) 0 ?_ ?_
  · unfold IEachItemD
    simp (maxSteps := 10000000) (maxDischargeDepth := 30) only [Int.natCast_zero, go_sem, Nat.reduceEqDiff, ↓reduceIte, Nat.reduceAdd, Nat.reduceMul, Nat.reduceLeDiff, Nat.reduceLT, reduceCtorEq, Int.reduceToNat, Int.reduceLE, Int.reduceLT, Int.reduceEq, Int.reduceNeg, Int.reduceNe, Nat.reduceSub, IntKind.bits]
    exact ⟨none, [], r.count.2, rfl, rfl, .start R1 O1, hc.1, hcb, by simp⟩
  · rintro i s hh ⟨e0, e1, e5, e7, o, zs, r', e6, hz, hi, G, ok', hb', hg⟩
    have fin : gather one n r.count.2 = (zs.map pl, r') → ∀ hq, Keep hh hq → Ru Try.prog TA [] (ex Try.prog TA (.skip) s hq) (fun _ => (r'.stop = true → eachL one r = ([], r')) ∧ (r'.stop = false → eachL one r = (zs.map pl, r'))) := by
      intro e hq kq
      rw [ru_skip, ru_nil]
      unfold eachL
      rw [hnt, e]
      dsimp only
      exact ⟨fun q => by rw [if_pos q], fun q => by rw [if_neg (by simp [q])]⟩
    by_cases c1 : (i : Int) < n
    rotate_left
    · have e : gather one n r.count.2 = (zs.map pl, r') := by rw [hg, show n - i = 0 by omega]; simp [gather]
      have hx := fin e hh (.refl _)
      rw [ru_skip, ru_nil] at hx
      simp (maxSteps := 10000000) (maxDischargeDepth := 30) only [e0, e1, e5, e6, e7, c1, go_sem, Nat.reduceEqDiff, ↓reduceIte, Nat.reduceAdd, Nat.reduceMul, Nat.reduceLeDiff, Nat.reduceLT, reduceCtorEq, Int.reduceToNat, Int.reduceLE, Int.reduceLT, Int.reduceEq, Int.reduceNeg, Int.reduceNe, Nat.reduceSub, IntKind.bits]
      refine ro_kcall (cRdRight h0 p r' hh G.rdr) G.rdr.wf (fun h2 k2 w2 => ?_)
      have G2 := G.next k2
      by_cases hs : r'.stop = true
      · simp (maxSteps := 10000000) (maxDischargeDepth := 30) only [e6, hs, go_sem, Nat.reduceEqDiff, ↓reduceIte, Nat.reduceAdd, Nat.reduceMul, Nat.reduceLeDiff, Nat.reduceLT, reduceCtorEq, Int.reduceToNat, Int.reduceLE, Int.reduceLT, Int.reduceEq, Int.reduceNeg, Int.reduceNe, Nat.reduceSub, IntKind.bits]
        rw [hx.1 hs]
        exact ⟨⟨none, [], rfl, rfl⟩, G2.rdr, G2.otr⟩
      · have hs' : r'.stop = false := by simpa using hs
        simp (maxSteps := 10000000) (maxDischargeDepth := 30) only [e6, hs', go_sem, Nat.reduceEqDiff, ↓reduceIte, Nat.reduceAdd, Nat.reduceMul, Nat.reduceLeDiff, Nat.reduceLT, reduceCtorEq, Int.reduceToNat, Int.reduceLE, Int.reduceLT, Int.reduceEq, Int.reduceNeg, Int.reduceNe, Nat.reduceSub, IntKind.bits]
        rw [hx.2 hs']
        exact ⟨⟨o, zs, rfl, rfl⟩, G2.rdr, G2.otr⟩
    by_cases hs : r'.stop = true
    · have e : gather one n r.count.2 = (zs.map pl, r') := by rw [hg, gather_stop hs]; simp
      have hx := fin e hh (.refl _)
      rw [ru_skip, ru_nil] at hx
      simp (maxSteps := 10000000) (maxDischargeDepth := 30) only [e0, e1, e5, e6, e7, c1, go_sem, Nat.reduceEqDiff, ↓reduceIte, Nat.reduceAdd, Nat.reduceMul, Nat.reduceLeDiff, Nat.reduceLT, reduceCtorEq, Int.reduceToNat, Int.reduceLE, Int.reduceLT, Int.reduceEq, Int.reduceNeg, Int.reduceNe, Nat.reduceSub, IntKind.bits]
      refine ro_kcall (cRdRight h0 p r' hh G.rdr) G.rdr.wf (fun h2 k2 w2 => ?_)
      have G2 := G.next k2
      simp (maxSteps := 10000000) (maxDischargeDepth := 30) only [e0, e1, e5, e6, e7, hs, go_sem, Nat.reduceEqDiff, ↓reduceIte, Nat.reduceAdd, Nat.reduceMul, Nat.reduceLeDiff, Nat.reduceLT, reduceCtorEq, Int.reduceToNat, Int.reduceLE, Int.reduceLT, Int.reduceEq, Int.reduceNeg, Int.reduceNe, Nat.reduceSub, IntKind.bits]
      refine ro_kcall (cRdRight h0 p r' h2 G2.rdr) w2 (fun h3 k3 w3 => ?_)
      have G3 := G2.next k3
      simp (maxSteps := 10000000) (maxDischargeDepth := 30) only [e6, hs, go_sem, Nat.reduceEqDiff, ↓reduceIte, Nat.reduceAdd, Nat.reduceMul, Nat.reduceLeDiff, Nat.reduceLT, reduceCtorEq, Int.reduceToNat, Int.reduceLE, Int.reduceLT, Int.reduceEq, Int.reduceNeg, Int.reduceNe, Nat.reduceSub, IntKind.bits]
      rw [hx.1 hs]
      exact ⟨⟨none, [], rfl, rfl⟩, G3.rdr, G3.otr⟩
    refine ru_step ?_
    have hs' : r'.stop = false := by simpa using hs
    simp (maxSteps := 10000000) (maxDischargeDepth := 30) only [e0, e1, e5, e6, e7, c1, go_sem, Nat.reduceEqDiff, ↓reduceIte, Nat.reduceAdd, Nat.reduceMul, Nat.reduceLeDiff, Nat.reduceLT, reduceCtorEq, Int.reduceToNat, Int.reduceLE, Int.reduceLT, Int.reduceEq, Int.reduceNeg, Int.reduceNe, Nat.reduceSub, IntKind.bits]
    refine ro_kcall (cRdRight h0 p r' hh G.rdr) G.rdr.wf (fun h2 k2 w2 => ?_)
    have G2 := G.next k2
    simp (maxSteps := 10000000) (maxDischargeDepth := 30) only [e0, e1, e5, e6, e7, hs', go_sem, Nat.reduceEqDiff, ↓reduceIte, Nat.reduceAdd, Nat.reduceMul, Nat.reduceLeDiff, Nat.reduceLT, reduceCtorEq, Int.reduceToNat, Int.reduceLE, Int.reduceLT, Int.reduceEq, Int.reduceNeg, Int.reduceNe, Nat.reduceSub, IntKind.bits]
    refine ro_vcall (hone r' h2 G2.rdr G2.otr ok' hb' hs') (fun v h3 J => ?_)
    obtain ⟨⟨x, rfl, hpx⟩, R3, O3⟩ := J
    have k3 : Keep h3 (h3.nrow 1) := (Keep.refl h3).nrow 1
    have G3 := (G2.step R3 O3).next k3
    rw [show zs.length = (zs.map ItemR.e).length by rw [List.length_map]] at G3
    obtain ⟨o4, h4, ap, G4, -, -, -, -⟩ := G3.app (sz := 7) (by_ := 56) (xs := zs.map ItemR.e) hh0 [ItemR.e x] (by
      rw [List.length_map, hz, List.length_singleton]; omega)
    have ezs : zs.map ItemR.e ++ [ItemR.e x] = (zs ++ [x]).map ItemR.e := by simp
    rw [ezs] at ap G4
    rw [List.length_map] at G4
    simp only [ItemR.e] at ap
    have ew : IntKind.i64.wrap ((i : Int) + 1) = ((i + 1 : Nat) : Int) := by rw [wrap64 (by omega) (by omega)]; omega
    simp (maxSteps := 10000000) (maxDischargeDepth := 30) only [e0, e1, e5, e6, e7, ItemR.e, ap, ew, go_sem, Nat.reduceEqDiff, ↓reduceIte, Nat.reduceAdd, Nat.reduceMul, Nat.reduceLeDiff, Nat.reduceLT, reduceCtorEq, Int.reduceToNat, Int.reduceLE, Int.reduceLT, Int.reduceEq, Int.reduceNeg, Int.reduceNe, Nat.reduceSub, IntKind.bits]
    refine ⟨i + 1, by omega, ?_⟩
    unfold IEachItemD
    simp (maxSteps := 10000000) (maxDischargeDepth := 30) only [e0, e1, e5, go_sem, Nat.reduceEqDiff, ↓reduceIte, Nat.reduceAdd, Nat.reduceMul, Nat.reduceLeDiff, Nat.reduceLT, reduceCtorEq, Int.reduceToNat, Int.reduceLE, Int.reduceLT, Int.reduceEq, Int.reduceNeg, Int.reduceNe, Nat.reduceSub, IntKind.bits]
    refine ⟨o4, zs ++ [x], (one r').2, rfl, by simp [hz], by omega, G4, ho.ok r' ok', (ho.b r').trans hb', ?_⟩
    rw [hg, show n - i = (n - (i + 1)) + 1 by omega, gather_go hs']
    simp [hpx]

def IEachNoteD {α : Type} (pl : NoteR → α) (one : RS → α × RS) (h0 h : H) (p f : Nat) (first caps : List LV) (r : RS) (n i : Nat) (s : S) (hh : H) : Prop :=
  s 0 = .ptr p 0 ∧ s 1 = .fn f first caps ∧ s 5 = .int .i64 n ∧ s 7 = .int .i64 i ∧ ∃ (o : Option (Nat × Nat)) (zs : List (NoteR)) (r' : RS), s 6 = mkS o 2 (zs.map NoteR.e) ∧ zs.length = i ∧ i ≤ n ∧ Gth h0 h p r' o zs.length hh ∧ r'.ok ∧ r'.b = r.b ∧
    gather one n r.count.2 = (zs.map pl ++ (gather one (n - i) r').1, (gather one (n - i) r').2)
theorem cEachNoteD {α : Type} (pl : NoteR → α) (one : RS → α × RS) (ho : OneOk one) (h0 : H) (p f : Nat) (first caps : List LV) (r : RS) (h : H) (R : Rdr h0 p r h) (ok : r.ok) (hl : r.b.length ≤ 1000000000000)
    (hone : ∀ r' hh, Rdr h0 p r' hh → Otr p h hh → r'.ok → r'.b = r.b → r'.stop = false → ∃ v h', runI Try.prog TA f (first ++ caps) hh = some (v, h') ∧ (∃ x, v = NoteR.e x ∧ pl x = (one r').1) ∧ Rdr h0 p (one r').2 h' ∧ Otr p hh h') :
    ∃ v h', runI Try.prog TA 141 [.ptr p 0, .fn f first caps] h = some (v, h') ∧ (∃ (o : Option (Nat × Nat)) (zs : List (NoteR)), v = mkS o 2 (zs.map NoteR.e) ∧ zs.map pl = (eachL one r).1) ∧ Rdr h0 p (eachL one r).2 h' ∧ Otr p h h' := by
  refine calls_of rfl res141 rfl ?_
  simp (maxSteps := 10000000) (maxDischargeDepth := 30) only [q141, r141, go_sem, Nat.reduceEqDiff, ↓reduceIte, Nat.reduceAdd, Nat.reduceMul, Nat.reduceLeDiff, Nat.reduceLT, reduceCtorEq, Int.reduceToNat, Int.reduceLE, Int.reduceLT, Int.reduceEq, Int.reduceNeg, Int.reduceNe, Nat.reduceSub, IntKind.bits]
  refine ro_wcall (cRdCount h0 p r h R ok hl) (fun h1 J => ?_)
  obtain ⟨R1, O1⟩ := J
  have hc := RS.count_ok ok
  have hcb := r.count_b
  obtain ⟨n, hn⟩ : ∃ n : Nat, r.count.1 = (n : Int) := ⟨r.count.1.toNat, by omega⟩
  have hnt : r.count.1.toNat = n := by omega
  have hh0 : h0.rlen ≤ h.rlen := R.keep.rlen
  rw [hn]
  simp (maxSteps := 10000000) (maxDischargeDepth := 30) only [go_sem, Nat.reduceEqDiff, ↓reduceIte, Nat.reduceAdd, Nat.reduceMul, Nat.reduceLeDiff, Nat.reduceLT, reduceCtorEq, Int.reduceToNat, Int.reduceLE, Int.reduceLT, Int.reduceEq, Int.reduceNeg, Int.reduceNe, Nat.reduceSub, IntKind.bits]
  refine ru_loop (fun i => n - i) (IEachNoteD pl one h0 h p f first caps r n) 0 ?_ ?_
  · unfold IEachNoteD
    simp (maxSteps := 10000000) (maxDischargeDepth := 30) only [Int.natCast_zero, go_sem, Nat.reduceEqDiff, ↓reduceIte, Nat.reduceAdd, Nat.reduceMul, Nat.reduceLeDiff, Nat.reduceLT, reduceCtorEq, Int.reduceToNat, Int.reduceLE, Int.reduceLT, Int.reduceEq, Int.reduceNeg, Int.reduceNe, Nat.reduceSub, IntKind.bits]
    exact ⟨none, [], r.count.2, rfl, rfl, .start R1 O1, hc.1, hcb, by simp⟩
  · rintro i s hh ⟨e0, e1, e5, e7, o, zs, r', e6, hz, hi, G, ok', hb', hg⟩
    have fin : gather one n r.count.2 = (zs.map pl, r') → ∀ hq, Keep hh hq → Ru Try.prog TA [] (ex Try.prog TA (.skip) s hq) (fun _ => (r'.stop = true → eachL one r = ([], r')) ∧ (r'.stop = false → eachL one r = (zs.map pl, r'))) := by
      intro e hq kq
      rw [ru_skip, ru_nil]
      unfold eachL
      rw [hnt, e]
      dsimp only
      exact ⟨fun q => by rw [if_pos q], fun q => by rw [if_neg (by simp [q])]⟩
    by_cases c1 : (i : Int) < n
    rotate_left
    · have e : gather one n r.count.2 = (zs.map pl, r') := by rw [hg, show n - i = 0 by omega]; simp [gather]
      have hx := fin e hh (.refl _)
      rw [ru_skip, ru_nil] at hx
      simp (maxSteps := 10000000) (maxDischargeDepth := 30) only [e0, e1, e5, e6, e7, c1, go_sem, Nat.reduceEqDiff, ↓reduceIte, Nat.reduceAdd, Nat.reduceMul, Nat.reduceLeDiff, Nat.reduceLT, reduceCtorEq, Int.reduceToNat, Int.reduceLE, Int.reduceLT, Int.reduceEq, Int.reduceNeg, Int.reduceNe, Nat.reduceSub, IntKind.bits]
      refine ro_kcall (cRdRight h0 p r' hh G.rdr) G.rdr.wf (fun h2 k2 w2 => ?_)
      have G2 := G.next k2
      by_cases hs : r'.stop = true
      · simp (maxSteps := 10000000) (maxDischargeDepth := 30) only [e6, hs, go_sem, Nat.reduceEqDiff, ↓reduceIte, Nat.reduceAdd, Nat.reduceMul, Nat.reduceLeDiff, Nat.reduceLT, reduceCtorEq, Int.reduceToNat, Int.reduceLE, Int.reduceLT, Int.reduceEq, Int.reduceNeg, Int.reduceNe, Nat.reduceSub, IntKind.bits]
        rw [hx.1 hs]
        exact ⟨⟨none, [], rfl, rfl⟩, G2.rdr, G2.otr⟩
      · have hs' : r'.stop = false := by simpa using hs
        simp (maxSteps := 10000000) (maxDischargeDepth := 30) only [e6, hs', go_sem, Nat.reduceEqDiff, ↓reduceIte, Nat.reduceAdd, Nat.reduceMul, Nat.reduceLeDiff, Nat.reduceLT, reduceCtorEq, Int.reduceToNat, Int.reduceLE, Int.reduceLT, Int.reduceEq, Int.reduceNeg, Int.reduceNe, Nat.reduceSub, IntKind.bits]
        rw [hx.2 hs']
        exact ⟨⟨o, zs, rfl, rfl⟩, G2.rdr, G2.otr⟩
    by_cases hs : r'.stop = true
    · have e : gather one n r.count.2 = (zs.map pl, r') := by rw [hg, gather_stop hs]; simp
      have hx := fin e hh (.refl _)
      rw [ru_skip, ru_nil] at hx
      simp (maxSteps := 10000000) (maxDischargeDepth := 30) only [e0, e1, e5, e6, e7, c1, go_sem, Nat.reduceEqDiff, ↓reduceIte, Nat.reduceAdd, Nat.reduceMul, Nat.reduceLeDiff, Nat.reduceLT, reduceCtorEq, Int.reduceToNat, Int.reduceLE, Int.reduceLT, Int.reduceEq, Int.reduceNeg, Int.reduceNe, Nat.reduceSub, IntKind.bits]
      refine ro_kcall (cRdRight h0 p r' hh G.rdr) G.rdr.wf (fun h2 k2 w2 => ?_)
      have G2 := G.next k2
      simp (maxSteps := 10000000) (maxDischargeDepth := 30) only [e0, e1, e5, e6, e7, hs, go_sem, Nat.reduceEqDiff, ↓reduceIte, Nat.reduceAdd, Nat.reduceMul, Nat.reduceLeDiff, Nat.reduceLT, reduceCtorEq, Int.reduceToNat, Int.reduceLE, Int.reduceLT, Int.reduceEq, Int.reduceNeg, Int.reduceNe, Nat.reduceSub, IntKind.bits]
      refine ro_kcall (cRdRight h0 p r' h2 G2.rdr) w2 (fun h3 k3 w3 => ?_)
      have G3 := G2.next k3
      simp (maxSteps := 10000000) (maxDischargeDepth := 30) only [e6, hs, go_sem, Nat.reduceEqDiff, ↓reduceIte, Nat.reduceAdd, Nat.reduceMul, Nat.reduceLeDiff, Nat.reduceLT, reduceCtorEq, Int.reduceToNat, Int.reduceLE, Int.reduceLT, Int.reduceEq, Int.reduceNeg, Int.reduceNe, Nat.reduceSub, IntKind.bits]
      rw [hx.1 hs]
      exact ⟨⟨none, [], rfl, rfl⟩, G3.rdr, G3.otr⟩
    refine ru_step ?_
    have hs' : r'.stop = false := by simpa using hs
    simp (maxSteps := 10000000) (maxDischargeDepth := 30) only [e0, e1, e5, e6, e7, c1, go_sem, Nat.reduceEqDiff, ↓reduceIte, Nat.reduceAdd, Nat.reduceMul, Nat.reduceLeDiff, Nat.reduceLT, reduceCtorEq, Int.reduceToNat, Int.reduceLE, Int.reduceLT, Int.reduceEq, Int.reduceNeg, Int.reduceNe, Nat.reduceSub, IntKind.bits]
    refine ro_kcall (cRdRight h0 p r' hh G.rdr) G.rdr.wf (fun h2 k2 w2 => ?_)
    have G2 := G.next k2
    simp (maxSteps := 10000000) (maxDischargeDepth := 30) only [e0, e1, e5, e6, e7, hs', go_sem, Nat.reduceEqDiff, ↓reduceIte, Nat.reduceAdd, Nat.reduceMul, Nat.reduceLeDiff, Nat.reduceLT, reduceCtorEq, Int.reduceToNat, Int.reduceLE, Int.reduceLT, Int.reduceEq, Int.reduceNeg, Int.reduceNe, Nat.reduceSub, IntKind.bits]
    refine ro_vcall (hone r' h2 G2.rdr G2.otr ok' hb' hs') (fun v h3 J => ?_)
    obtain ⟨⟨x, rfl, hpx⟩, R3, O3⟩ := J
    have k3 : Keep h3 (h3.nrow 1) := (Keep.refl h3).nrow 1
    have G3 := (G2.step R3 O3).next k3
    rw [show zs.length = (zs.map NoteR.e).length by rw [List.length_map]] at G3
    obtain ⟨o4, h4, ap, G4, -, -, -, -⟩ := G3.app (sz := 2) (by_ := 48) (xs := zs.map NoteR.e) hh0 [NoteR.e x] (by
      rw [List.length_map, hz, List.length_singleton]; omega)
    have ezs : zs.map NoteR.e ++ [NoteR.e x] = (zs ++ [x]).map NoteR.e := by simp
    rw [ezs] at ap G4
    rw [List.length_map] at G4
    simp only [NoteR.e] at ap
    have ew : IntKind.i64.wrap ((i : Int) + 1) = ((i + 1 : Nat) : Int) := by rw [wrap64 (by omega) (by omega)]; omega
    simp (maxSteps := 10000000) (maxDischargeDepth := 30) only [e0, e1, e5, e6, e7, NoteR.e, ap, ew, go_sem, Nat.reduceEqDiff, ↓reduceIte, Nat.reduceAdd, Nat.reduceMul, Nat.reduceLeDiff, Nat.reduceLT, reduceCtorEq, Int.reduceToNat, Int.reduceLE, Int.reduceLT, Int.reduceEq, Int.reduceNeg, Int.reduceNe, Nat.reduceSub, IntKind.bits]
    refine ⟨i + 1, by omega, ?_⟩
    unfold IEachNoteD
    simp (maxSteps := 10000000) (maxDischargeDepth := 30) only [e0, e1, e5, go_sem, Nat.reduceEqDiff, ↓reduceIte, Nat.reduceAdd, Nat.reduceMul, Nat.reduceLeDiff, Nat.reduceLT, reduceCtorEq, Int.reduceToNat, Int.reduceLE, Int.reduceLT, Int.reduceEq, Int.reduceNeg, Int.reduceNe, Nat.reduceSub, IntKind.bits]
    refine ⟨o4, zs ++ [x], (one r').2, rfl, by simp [hz], by omega, G4, ho.ok r' ok', (ho.b r').trans hb', ?_⟩
    rw [hg, show n - i = (n - (i + 1)) + 1 by omega, gather_go hs']
    simp [hpx]

def IEachFloatD {α : Type} (pl : FloatR → α) (one : RS → α × RS) (h0 h : H) (p f : Nat) (first caps : List LV) (r : RS) (n i : Nat) (s : S) (hh : H) : Prop :=
  s 0 = .ptr p 0 ∧ s 1 = .fn f first caps ∧ s 5 = .int .i64 n ∧ s 7 = .int .i64 i ∧ ∃ (o : Option (Nat × Nat)) (zs : List (FloatR)) (r' : RS), s 6 = mkS o 3 (zs.map FloatR.e) ∧ zs.length = i ∧ i ≤ n ∧ Gth h0 h p r' o zs.length hh ∧ r'.ok ∧ r'.b = r.b ∧
    gather one n r.count.2 = (zs.map pl ++ (gather one (n - i) r').1, (gather one (n - i) r').2)
theorem cEachFloatD {α : Type} (pl : FloatR → α) (one : RS → α × RS) (ho : OneOk one) (h0 : H) (p f : Nat) (first caps : List LV) (r : RS) (h : H) (R : Rdr h0 p r h) (ok : r.ok) (hl : r.b.length ≤ 1000000000000)
    (hone : ∀ r' hh, Rdr h0 p r' hh → Otr p h hh → r'.ok → r'.b = r.b → r'.stop = false → ∃ v h', runI Try.prog TA f (first ++ caps) hh = some (v, h') ∧ (∃ x, v = FloatR.e x ∧ pl x = (one r').1) ∧ Rdr h0 p (one r').2 h' ∧ Otr p hh h') :
    ∃ v h', runI Try.prog TA 143 [.ptr p 0, .fn f first caps] h = some (v, h') ∧ (∃ (o : Option (Nat × Nat)) (zs : List (FloatR)), v = mkS o 3 (zs.map FloatR.e) ∧ zs.map pl = (eachL one r).1) ∧ Rdr h0 p (eachL one r).2 h' ∧ Otr p h h' := by
  refine calls_of rfl res143 rfl ?_
  simp (maxSteps := 10000000) (maxDischargeDepth := 30) only [q143, r143, go_sem, Nat.reduceEqDiff, ↓reduceIte, Nat.reduceAdd, Nat.reduceMul, Nat.reduceLeDiff, Nat.reduceLT, reduceCtorEq, Int.reduceToNat, Int.reduceLE, Int.reduceLT, Int.reduceEq, Int.reduceNeg, Int.reduceNe, Nat.reduceSub, IntKind.bits]
  refine ro_wcall (cRdCount h0 p r h R ok hl) (fun h1 J => ?_)
  obtain ⟨R1, O1⟩ := J
  have hc := RS.count_ok ok
  have hcb := r.count_b
  obtain ⟨n, hn⟩ : ∃ n : Nat, r.count.1 = (n : Int) := ⟨r.count.1.toNat, by omega⟩
  have hnt : r.count.1.toNat = n := by omega
  have hh0 : h0.rlen ≤ h.rlen := R.keep.rlen
  rw [hn]
  simp (maxSteps := 10000000) (maxDischargeDepth := 30) only [go_sem, Nat.reduceEqDiff, ↓reduceIte, Nat.reduceAdd, Nat.reduceMul, Nat.reduceLeDiff, Nat.reduceLT, reduceCtorEq, Int.reduceToNat, Int.reduceLE, Int.reduceLT, Int.reduceEq, Int.reduceNeg, Int.reduceNe, Nat.reduceSub, IntKind.bits]
  refine ru_loop (fun i => n - i) (IEachFloatD pl one h0 h p f first caps r n) 0 ?_ ?_
  · unfold IEachFloatD
    simp (maxSteps := 10000000) (maxDischargeDepth := 30) only [Int.natCast_zero, go_sem, Nat.reduceEqDiff, ↓reduceIte, Nat.reduceAdd, Nat.reduceMul, Nat.reduceLeDiff, Nat.reduceLT, reduceCtorEq, Int.reduceToNat, Int.reduceLE, Int.reduceLT, Int.reduceEq, Int.reduceNeg, Int.reduceNe, Nat.reduceSub, IntKind.bits]
    exact ⟨none, [], r.count.2, rfl, rfl, .start R1 O1, hc.1, hcb, by simp⟩
  · rintro i s hh ⟨e0, e1, e5, e7, o, zs, r', e6, hz, hi, G, ok', hb', hg⟩
    have fin : gather one n r.count.2 = (zs.map pl, r') → ∀ hq, Keep hh hq → Ru Try.prog TA [] (ex Try.prog TA (.skip) s hq) (fun _ => (r'.stop = true → eachL one r = ([], r')) ∧ (r'.stop = false → eachL one r = (zs.map pl, r'))) := by
      intro e hq kq
      rw [ru_skip, ru_nil]
      unfold eachL
      rw [hnt, e]
      dsimp only
      exact ⟨fun q => by rw [if_pos q], fun q => by rw [if_neg (by simp [q])]⟩
    by_cases c1 : (i : Int) < n
    rotate_left
    · have e : gather one n r.count.2 = (zs.map pl, r') := by rw [hg, show n - i = 0 by omega]; simp [gather]
      have hx := fin e hh (.refl _)
      rw [ru_skip, ru_nil] at hx
      simp (maxSteps := 10000000) (maxDischargeDepth := 30) only [e0, e1, e5, e6, e7, c1, go_sem, Nat.reduceEqDiff, ↓reduceIte, Nat.reduceAdd, Nat.reduceMul, Nat.reduceLeDiff, Nat.reduceLT, reduceCtorEq, Int.reduceToNat, Int.reduceLE, Int.reduceLT, Int.reduceEq, Int.reduceNeg, Int.reduceNe, Nat.reduceSub, IntKind.bits]
      refine ro_kcall (cRdRight h0 p r' hh G.rdr) G.rdr.wf (fun h2 k2 w2 => ?_)
      have G2 := G.next k2
      by_cases hs : r'.stop = true
      · simp (maxSteps := 10000000) (maxDischargeDepth := 30) only [e6, hs, go_sem, Nat.reduceEqDiff, ↓reduceIte, Nat.reduceAdd, Nat.reduceMul, Nat.reduceLeDiff, Nat.reduceLT, reduceCtorEq, Int.reduceToNat, Int.reduceLE, Int.reduceLT, Int.reduceEq, Int.reduceNeg, Int.reduceNe, Nat.reduceSub, IntKind.bits]
        rw [hx.1 hs]
        exact ⟨⟨none, [], rfl, rfl⟩, G2.rdr, G2.otr⟩
      · have hs' : r'.stop = false := by simpa using hs
        simp (maxSteps := 10000000) (maxDischargeDepth := 30) only [e6, hs', go_sem, Nat.reduceEqDiff, ↓reduceIte, Nat.reduceAdd, Nat.reduceMul, Nat.reduceLeDiff, Nat.reduceLT, reduceCtorEq, Int.reduceToNat, Int.reduceLE, Int.reduceLT, Int.reduceEq, Int.reduceNeg, Int.reduceNe, Nat.reduceSub, IntKind.bits]
        rw [hx.2 hs']
        exact ⟨⟨o, zs, rfl, rfl⟩, G2.rdr, G2.otr⟩
    by_cases hs : r'.stop = true
    · have e : gather one n r.count.2 = (zs.map pl, r') := by rw [hg, gather_stop hs]; simp
      have hx := fin e hh (.refl _)
      rw [ru_skip, ru_nil] at hx
      simp (maxSteps := 10000000) (maxDischargeDepth := 30) only [e0, e1, e5, e6, e7, c1, go_sem, Nat.reduceEqDiff, ↓reduceIte, Nat.reduceAdd, Nat.reduceMul, Nat.reduceLeDiff, Nat.reduceLT, reduceCtorEq, Int.reduceToNat, Int.reduceLE, Int.reduceLT, Int.reduceEq, Int.reduceNeg, Int.reduceNe, Nat.reduceSub, IntKind.bits]
      refine ro_kcall (cRdRight h0 p r' hh G.rdr) G.rdr.wf (fun h2 k2 w2 => ?_)
      have G2 := G.next k2
      simp (maxSteps := 10000000) (maxDischargeDepth := 30) only [e0, e1, e5, e6, e7, hs, go_sem, Nat.reduceEqDiff, ↓reduceIte, Nat.reduceAdd, Nat.reduceMul, Nat.reduceLeDiff, Nat.reduceLT, reduceCtorEq, Int.reduceToNat, Int.reduceLE, Int.reduceLT, Int.reduceEq, Int.reduceNeg, Int.reduceNe, Nat.reduceSub, IntKind.bits]
      refine ro_kcall (cRdRight h0 p r' h2 G2.rdr) w2 (fun h3 k3 w3 => ?_)
      have G3 := G2.next k3
      simp (maxSteps := 10000000) (maxDischargeDepth := 30) only [e6, hs, go_sem, Nat.reduceEqDiff, ↓reduceIte, Nat.reduceAdd, Nat.reduceMul, Nat.reduceLeDiff, Nat.reduceLT, reduceCtorEq, Int.reduceToNat, Int.reduceLE, Int.reduceLT, Int.reduceEq, Int.reduceNeg, Int.reduceNe, Nat.reduceSub, IntKind.bits]
      rw [hx.1 hs]
      exact ⟨⟨none, [], rfl, rfl⟩, G3.rdr, G3.otr⟩
    refine ru_step ?_
    have hs' : r'.stop = false := by simpa using hs
    simp (maxSteps := 10000000) (maxDischargeDepth := 30) only [e0, e1, e5, e6, e7, c1, go_sem, Nat.reduceEqDiff, ↓reduceIte, Nat.reduceAdd, Nat.reduceMul, Nat.reduceLeDiff, Nat.reduceLT, reduceCtorEq, Int.reduceToNat, Int.reduceLE, Int.reduceLT, Int.reduceEq, Int.reduceNeg, Int.reduceNe, Nat.reduceSub, IntKind.bits]
    refine ro_kcall (cRdRight h0 p r' hh G.rdr) G.rdr.wf (fun h2 k2 w2 => ?_)
    have G2 := G.next k2
    simp (maxSteps := 10000000) (maxDischargeDepth := 30) only [e0, e1, e5, e6, e7, hs', go_sem, Nat.reduceEqDiff, ↓reduceIte, Nat.reduceAdd, Nat.reduceMul, Nat.reduceLeDiff, Nat.reduceLT, reduceCtorEq, Int.reduceToNat, Int.reduceLE, Int.reduceLT, Int.reduceEq, Int.reduceNeg, Int.reduceNe, Nat.reduceSub, IntKind.bits]
    refine ro_vcall (hone r' h2 G2.rdr G2.otr ok' hb' hs') (fun v h3 J => ?_)
    obtain ⟨⟨x, rfl, hpx⟩, R3, O3⟩ := J
    have k3 : Keep h3 (h3.nrow 1) := (Keep.refl h3).nrow 1
    have G3 := (G2.step R3 O3).next k3
    rw [show zs.length = (zs.map FloatR.e).length by rw [List.length_map]] at G3
    obtain ⟨o4, h4, ap, G4, -, -, -, -⟩ := G3.app (sz := 3) (by_ := 24) (xs := zs.map FloatR.e) hh0 [FloatR.e x] (by
      rw [List.length_map, hz, List.length_singleton]; omega)
    have ezs : zs.map FloatR.e ++ [FloatR.e x] = (zs ++ [x]).map FloatR.e := by simp
    rw [ezs] at ap G4
    rw [List.length_map] at G4
    simp only [FloatR.e] at ap
    have ew : IntKind.i64.wrap ((i : Int) + 1) = ((i + 1 : Nat) : Int) := by rw [wrap64 (by omega) (by omega)]; omega
    simp (maxSteps := 10000000) (maxDischargeDepth := 30) only [e0, e1, e5, e6, e7, FloatR.e, ap, ew, go_sem, Nat.reduceEqDiff, ↓reduceIte, Nat.reduceAdd, Nat.reduceMul, Nat.reduceLeDiff, Nat.reduceLT, reduceCtorEq, Int.reduceToNat, Int.reduceLE, Int.reduceLT, Int.reduceEq, Int.reduceNeg, Int.reduceNe, Nat.reduceSub, IntKind.bits]
    refine ⟨i + 1, by omega, ?_⟩
    unfold IEachFloatD
    simp (maxSteps := 10000000) (maxDischargeDepth := 30) only [e0, e1, e5, go_sem, Nat.reduceEqDiff, ↓reduceIte, Nat.reduceAdd, Nat.reduceMul, Nat.reduceLeDiff, Nat.reduceLT, reduceCtorEq, Int.reduceToNat, Int.reduceLE, Int.reduceLT, Int.reduceEq, Int.reduceNeg, Int.reduceNe, Nat.reduceSub, IntKind.bits]
    refine ⟨o4, zs ++ [x], (one r').2, rfl, by simp [hz], by omega, G4, ho.ok r' ok', (ho.b r').trans hb', ?_⟩
    rw [hg, show n - i = (n - (i + 1)) + 1 by omega, gather_go hs']
    simp [hpx]

/-! ### the geometry, into its places -/
theorem ix197 {d : Nat} {js : List Nat} {i j : Nat} (hi : i < 10) (hx : js[i]? = some j) : indexL Try.prog 197 (.agg (js.map fun j => LV.ptr d (j + 1))) (.int .i64 (i : Int)) = some (.ptr d (j + 1)) := by
  rw [ty_x197, if_pos ⟨by omega, by omega⟩, ty_p194, Int.toNat_natCast, Nat.mul_one]
  simp [hx]
theorem ix198 {d : Nat} {js : List Nat} {i j : Nat} (hi : i < 7) (hx : js[i]? = some j) : indexL Try.prog 198 (.agg (js.map fun j => LV.ptr d (j + 1))) (.int .i64 (i : Int)) = some (.ptr d (j + 1)) := by
  rw [ty_x198, if_pos ⟨by omega, by omega⟩, ty_p176, Int.toNat_natCast, Nat.mul_one]
  simp [hx]
/-- Numbers going into places of a reader's struct. -/
structure GI (h0 h : H) (p d : Nat) (js : List Nat) (D0 : List LV) (r : RS) (i : Nat) (r' : RS) (D : List LV) (hh : H) : Prop where
  rdr : Rdr h0 p r' hh
  gd : hh.get d = some ⟨false, .ptr p 0 :: D⟩
  len : D.length = 22
  two : Ot2 p d h hh
  ok : r'.ok
  b : r'.b = r.b
  c : setN D (js.drop i) (numsR (js.length - i) r').1 = setN D0 js (numsR js.length r).1
  r : (numsR (js.length - i) r').2 = (numsR js.length r).2
theorem GI.step {h0 h hh h3 : H} {p d : Nat} {js : List Nat} {D0 D : List LV} {r r' : RS} {i j : Nat} (g : GI h0 h p d js D0 r i r' D hh) (hj : js[i]? = some j) (R : Rdr h0 p r'.int.2 h3) (O : Otr p hh h3) (dp : d ≠ p) (h0d : h0.len ≤ d) :
    h3.get d = some ⟨false, .ptr p 0 :: D⟩ ∧ GI h0 h p d js D0 r (i + 1) r'.int.2 (D.set j (.int .i64 r'.int.1)) (h3.put d ⟨false, .ptr p 0 :: D.set j (.int .i64 r'.int.1)⟩) := by
  have gd := (O.get (lt_of_get g.gd) dp).trans g.gd
  obtain ⟨hlt, rfl⟩ := List.getElem?_eq_some_iff.1 hj
  have hc := g.c
  have hr := g.r
  rw [List.drop_eq_getElem_cons hlt, show js.length - i = (js.length - (i + 1)) + 1 by omega] at hc
  rw [show js.length - i = (js.length - (i + 1)) + 1 by omega] at hr
  simp only [numsR, setN] at hc hr
  exact ⟨gd, R.put2 dp h0d _, get_put_eq (lt_of_get gd), by rw [List.length_set]; exact g.len, (g.two.trans (O.two d)).trans (.put p d _ h3), (RS.int_ok g.ok).1, r'.int_b.trans g.b, hc, hr⟩
def jsA : List Nat := [1, 2, 3, 4, 5, 6, 7, 8, 9, 10]
def jsB : List Nat := [11, 12, 13, 14, 15, 16, 17]
def IGA (h0 h : H) (p d : Nat) (D0 : List LV) (r : RS) (i : Nat) (s : S) (hh : H) : Prop :=
  s 0 = .ptr d 0 ∧ s 2 = .ptr d 1 ∧ s 46 = .agg (jsA.map fun j => LV.ptr d (j + 1)) ∧ s 47 = .int .i64 i ∧ i ≤ 10 ∧ ∃ r' D, GI h0 h p d jsA D0 r i r' D hh
def IGB (h0 h : H) (p d : Nat) (D0 : List LV) (r : RS) (i : Nat) (s : S) (hh : H) : Prop :=
  s 0 = .ptr d 0 ∧ s 2 = .ptr d 1 ∧ s 76 = .agg (jsB.map fun j => LV.ptr d (j + 1)) ∧ s 77 = .int .i64 i ∧ i ≤ 7 ∧ ∃ r' D, GI h0 h p d jsB D0 r i r' D hh
theorem js_lt {js : List Nat} (h : ∀ j ∈ js, j < 22) {i j : Nat} (hj : js[i]? = some j) : j < 22 := h j (List.mem_of_getElem? hj)
theorem cDeGeometry (h0 : H) (p d : Nat) (r : RS) (h : H) (R : Rdr h0 p r h) (gd : h.get d = some ⟨false, [.ptr p 0, .int .i64 0, .int .i64 0, .int .i64 0, .int .i64 0, .int .i64 0, .int .i64 0, .int .i64 0, .int .i64 0, .int .i64 0, .int .i64 0, .int .i64 0, .int .i64 0, .int .i64 0, .int .i64 0, .int .i64 0, .int .i64 0, .int .i64 0, .int .i64 0, .bool false, .nils, .nils, .nils]⟩) (dp : d ≠ p) (h0d : h0.len ≤ d) (lod : h.lob ≤ d) (ok : r.ok) (hl : r.b.length ≤ 1000000000000) :
    ∃ h', runI Try.prog TA 132 [.ptr d 0] h = some (.tup [], h') ∧ Rdr h0 p (geomRd r).2 h' ∧ h'.get d = some ⟨false, .ptr p 0 :: ((geomRd r).1.cells ++ [.nils, .nils, .nils])⟩ ∧ Ot2 p d h h' := by
  refine calls_ex rfl res132 rfl ?_
  simp (maxSteps := 10000000) (maxDischargeDepth := 30) only [q132, r132, go_sem, Nat.reduceEqDiff, ↓reduceIte, Nat.reduceAdd, Nat.reduceMul, Nat.reduceLeDiff, Nat.reduceLT, reduceCtorEq, Int.reduceToNat, Int.reduceLE, Int.reduceLT, Int.reduceEq, Int.reduceNeg, Int.reduceNe, Nat.reduceSub, IntKind.bits]
  refine ro_wcall (cDeNum h0 p d [.int .i64 0, .int .i64 0, .int .i64 0, .int .i64 0, .int .i64 0, .int .i64 0, .int .i64 0, .int .i64 0, .int .i64 0, .int .i64 0, .int .i64 0, .int .i64 0, .int .i64 0, .int .i64 0, .int .i64 0, .int .i64 0, .int .i64 0, .int .i64 0, .bool false, .nils, .nils, .nils] r h R gd ok hl) (fun h2 J => ?_)
  obtain ⟨R2, O2⟩ := J
  have gd2 := (O2.get (lt_of_get gd) dp).trans gd
  have l2 := lt_of_get gd2
  have lo2 : h2.lob ≤ d := by rw [O2.lob]; exact lod
  have o1 := (RS.int_ok ok).1
  simp (maxSteps := 10000000) (maxDischargeDepth := 30) only [gd2, l2, lo2, go_sem, Nat.reduceEqDiff, ↓reduceIte, Nat.reduceAdd, Nat.reduceMul, Nat.reduceLeDiff, Nat.reduceLT, reduceCtorEq, Int.reduceToNat, Int.reduceLE, Int.reduceLT, Int.reduceEq, Int.reduceNeg, Int.reduceNe, Nat.reduceSub, IntKind.bits]
  generalize hgg : h2.put d _ = g
  have gdg : g.get d = some ⟨false, .ptr p 0 :: ([.int .i64 0, .int .i64 0, .int .i64 0, .int .i64 0, .int .i64 0, .int .i64 0, .int .i64 0, .int .i64 0, .int .i64 0, .int .i64 0, .int .i64 0, .int .i64 0, .int .i64 0, .int .i64 0, .int .i64 0, .int .i64 0, .int .i64 0, .int .i64 0, .bool false, .nils, .nils, .nils] : List LV).set 0 (.int .i64 r.int.1)⟩ := by rw [← hgg]; exact get_put_eq l2
  have Rg : Rdr h0 p r.int.2 g := by rw [← hgg]; exact R2.put2 dp h0d _
  have Tg : Ot2 p d h g := by rw [← hgg]; exact (O2.two d).trans (.put p d _ h2)
  clear hgg
  try (simp (maxSteps := 10000000) (maxDischargeDepth := 30) only [go_sem, Nat.reduceEqDiff, ↓reduceIte, Nat.reduceAdd, Nat.reduceMul, Nat.reduceLeDiff, Nat.reduceLT, reduceCtorEq, Int.reduceToNat, Int.reduceLE, Int.reduceLT, Int.reduceEq, Int.reduceNeg, Int.reduceNe, Nat.reduceSub, IntKind.bits])
  refine ru_loop (fun i => 10 - i) (IGA h0 h p d (([.int .i64 0, .int .i64 0, .int .i64 0, .int .i64 0, .int .i64 0, .int .i64 0, .int .i64 0, .int .i64 0, .int .i64 0, .int .i64 0, .int .i64 0, .int .i64 0, .int .i64 0, .int .i64 0, .int .i64 0, .int .i64 0, .int .i64 0, .int .i64 0, .bool false, .nils, .nils, .nils] : List LV).set 0 (.int .i64 r.int.1)) r.int.2) 0 ?_ ?_
  · unfold IGA
    simp (maxSteps := 10000000) (maxDischargeDepth := 30) only [Int.natCast_zero, go_sem, Nat.reduceEqDiff, ↓reduceIte, Nat.reduceAdd, Nat.reduceMul, Nat.reduceLeDiff, Nat.reduceLT, reduceCtorEq, Int.reduceToNat, Int.reduceLE, Int.reduceLT, Int.reduceEq, Int.reduceNeg, Int.reduceNe, Nat.reduceSub, IntKind.bits]
    exact ⟨rfl, r.int.2, _, Rg, gdg, rfl, Tg, o1, rfl, rfl, rfl⟩
  · rintro i s hh ⟨e0, e2, e46, e47, hi, r', D, GG⟩
    by_cases hlt : i < 10
    · refine ru_step ?_
      obtain ⟨j, hj⟩ : ∃ j, jsA[i]? = some j := ⟨jsA[i]'(by simpa [jsA] using hlt), List.getElem?_eq_getElem _⟩
      have hjl : j < 22 := js_lt (by decide) hj
      have ia := ix197 (d := d) hlt hj
      have c1 : (i : Int) < 10 := by omega
      have ew : IntKind.i64.wrap ((i : Int) + 1) = ((i + 1 : Nat) : Int) := by rw [wrap64 (by omega) (by omega)]; omega
      simp (maxSteps := 10000000) (maxDischargeDepth := 30) only [e0, e2, e46, e47, c1, ia, go_sem, Nat.reduceEqDiff, ↓reduceIte, Nat.reduceAdd, Nat.reduceMul, Nat.reduceLeDiff, Nat.reduceLT, reduceCtorEq, Int.reduceToNat, Int.reduceLE, Int.reduceLT, Int.reduceEq, Int.reduceNeg, Int.reduceNe, Nat.reduceSub, IntKind.bits]
      refine ro_wcall (cDeSp h0 p d D r' hh GG.rdr GG.gd GG.ok (by rw [GG.b, r.int_b]; exact hl)) (fun h4 J => ?_)
      obtain ⟨gd4, G4⟩ := GG.step hj J.1 J.2 dp h0d
      have lo4 : h4.lob ≤ d := by rw [J.2.lob, GG.two.lob]; exact lod
      have hjD : j + 1 + 1 ≤ D.length + 1 := by have := GG.len; omega
      simp (maxSteps := 10000000) (maxDischargeDepth := 30) only [e0, e2, e46, e47, gd4, lo4, hjD, ew, go_sem, Nat.reduceEqDiff, ↓reduceIte, Nat.reduceAdd, Nat.reduceMul, Nat.reduceLeDiff, Nat.reduceLT, reduceCtorEq, Int.reduceToNat, Int.reduceLE, Int.reduceLT, Int.reduceEq, Int.reduceNeg, Int.reduceNe, Nat.reduceSub, IntKind.bits]
      refine ⟨i + 1, by omega, ?_⟩
      unfold IGA
      simp (maxSteps := 10000000) (maxDischargeDepth := 30) only [e0, e2, e46, e47, go_sem, Nat.reduceEqDiff, ↓reduceIte, Nat.reduceAdd, Nat.reduceMul, Nat.reduceLeDiff, Nat.reduceLT, reduceCtorEq, Int.reduceToNat, Int.reduceLE, Int.reduceLT, Int.reduceEq, Int.reduceNeg, Int.reduceNe, Nat.reduceSub, IntKind.bits]
      exact ⟨by omega, _, _, G4⟩
    · obtain rfl : i = 10 := by omega
      have hc := GG.c
      have hr := GG.r
      have hD : D = setN (([.int .i64 0, .int .i64 0, .int .i64 0, .int .i64 0, .int .i64 0, .int .i64 0, .int .i64 0, .int .i64 0, .int .i64 0, .int .i64 0, .int .i64 0, .int .i64 0, .int .i64 0, .int .i64 0, .int .i64 0, .int .i64 0, .int .i64 0, .int .i64 0, .bool false, .nils, .nils, .nils] : List LV).set 0 (.int .i64 r.int.1)) jsA (numsR 10 r.int.2).1 := by
        rw [show jsA.length = 10 from rfl] at hc
        rw [← hc]; cases D <;> rfl
      have hr' : r' = (numsR 10 r.int.2).2 := hr
      subst hD hr'
      have e47' : s 47 = .int .i64 10 := e47
      simp (maxSteps := 10000000) (maxDischargeDepth := 30) only [e0, e2, e46, e47', go_sem, Nat.reduceEqDiff, ↓reduceIte, Nat.reduceAdd, Nat.reduceMul, Nat.reduceLeDiff, Nat.reduceLT, reduceCtorEq, Int.reduceToNat, Int.reduceLE, Int.reduceLT, Int.reduceEq, Int.reduceNeg, Int.reduceNe, Nat.reduceSub, IntKind.bits]
      refine ru_loop (fun i => 7 - i) (IGB h0 h p d (setN (([.int .i64 0, .int .i64 0, .int .i64 0, .int .i64 0, .int .i64 0, .int .i64 0, .int .i64 0, .int .i64 0, .int .i64 0, .int .i64 0, .int .i64 0, .int .i64 0, .int .i64 0, .int .i64 0, .int .i64 0, .int .i64 0, .int .i64 0, .int .i64 0, .bool false, .nils, .nils, .nils] : List LV).set 0 (.int .i64 r.int.1)) jsA (numsR 10 r.int.2).1) (numsR 10 r.int.2).2) 0 ?_ ?_
      · unfold IGB
        simp (maxSteps := 10000000) (maxDischargeDepth := 30) only [Int.natCast_zero, e0, e2, go_sem, Nat.reduceEqDiff, ↓reduceIte, Nat.reduceAdd, Nat.reduceMul, Nat.reduceLeDiff, Nat.reduceLT, reduceCtorEq, Int.reduceToNat, Int.reduceLE, Int.reduceLT, Int.reduceEq, Int.reduceNeg, Int.reduceNe, Nat.reduceSub, IntKind.bits]
        exact ⟨rfl, _, _, GG.rdr, GG.gd, GG.len, GG.two, GG.ok, rfl, rfl, rfl⟩
      · have hbN := GG.b
        clear GG e0 e2 e46 e47 e47' hc hr
        rintro i s hh ⟨e0, e2, e76, e77, hi, r', D, GG⟩
        by_cases hlt : i < 7
        · refine ru_step ?_
          obtain ⟨j, hj⟩ : ∃ j, jsB[i]? = some j := ⟨jsB[i]'(by simpa [jsB] using hlt), List.getElem?_eq_getElem _⟩
          have hjl : j < 22 := js_lt (by decide) hj
          have ia := ix198 (d := d) hlt hj
          have c1 : (i : Int) < 7 := by omega
          have ew : IntKind.i64.wrap ((i : Int) + 1) = ((i + 1 : Nat) : Int) := by rw [wrap64 (by omega) (by omega)]; omega
          simp (maxSteps := 10000000) (maxDischargeDepth := 30) only [e0, e2, e76, e77, c1, ia, go_sem, Nat.reduceEqDiff, ↓reduceIte, Nat.reduceAdd, Nat.reduceMul, Nat.reduceLeDiff, Nat.reduceLT, reduceCtorEq, Int.reduceToNat, Int.reduceLE, Int.reduceLT, Int.reduceEq, Int.reduceNeg, Int.reduceNe, Nat.reduceSub, IntKind.bits]
          refine ro_wcall (cDeNum h0 p d D r' hh GG.rdr GG.gd GG.ok (by rw [GG.b, hbN, r.int_b]; exact hl)) (fun h4 J => ?_)
          obtain ⟨gd4, G4⟩ := GG.step hj J.1 J.2 dp h0d
          have lo4 : h4.lob ≤ d := by rw [J.2.lob, GG.two.lob]; exact lod
          have hjD : j + 1 + 1 ≤ D.length + 1 := by have := GG.len; omega
          simp (maxSteps := 10000000) (maxDischargeDepth := 30) only [e0, e2, e76, e77, gd4, lo4, hjD, ew, go_sem, Nat.reduceEqDiff, ↓reduceIte, Nat.reduceAdd, Nat.reduceMul, Nat.reduceLeDiff, Nat.reduceLT, reduceCtorEq, Int.reduceToNat, Int.reduceLE, Int.reduceLT, Int.reduceEq, Int.reduceNeg, Int.reduceNe, Nat.reduceSub, IntKind.bits]
          refine ⟨i + 1, by omega, ?_⟩
          unfold IGB
          simp (maxSteps := 10000000) (maxDischargeDepth := 30) only [e0, e2, e76, e77, go_sem, Nat.reduceEqDiff, ↓reduceIte, Nat.reduceAdd, Nat.reduceMul, Nat.reduceLeDiff, Nat.reduceLT, reduceCtorEq, Int.reduceToNat, Int.reduceLE, Int.reduceLT, Int.reduceEq, Int.reduceNeg, Int.reduceNe, Nat.reduceSub, IntKind.bits]
          exact ⟨by omega, _, _, G4⟩
        · obtain rfl : i = 7 := by omega
          have hc := GG.c
          have hr := GG.r
          have hD : D = setN (setN (([.int .i64 0, .int .i64 0, .int .i64 0, .int .i64 0, .int .i64 0, .int .i64 0, .int .i64 0, .int .i64 0, .int .i64 0, .int .i64 0, .int .i64 0, .int .i64 0, .int .i64 0, .int .i64 0, .int .i64 0, .int .i64 0, .int .i64 0, .int .i64 0, .bool false, .nils, .nils, .nils] : List LV).set 0 (.int .i64 r.int.1)) jsA (numsR 10 r.int.2).1) jsB (numsR 7 (numsR 10 r.int.2).2).1 := by
            rw [show jsB.length = 7 from rfl] at hc
            rw [← hc]; cases D <;> rfl
          have hr' : r' = (numsR 7 (numsR 10 r.int.2).2).2 := hr
          subst hD hr'
          have e77' : s 77 = .int .i64 7 := e77
          have gdh := GG.gd
          have hbb := GG.b
          simp (maxSteps := 10000000) (maxDischargeDepth := 30) only [e0, e2, e76, e77', gdh, go_sem, Nat.reduceEqDiff, ↓reduceIte, Nat.reduceAdd, Nat.reduceMul, Nat.reduceLeDiff, Nat.reduceLT, reduceCtorEq, Int.reduceToNat, Int.reduceLE, Int.reduceLT, Int.reduceEq, Int.reduceNeg, Int.reduceNe, Nat.reduceSub, IntKind.bits]
          refine ro_wcall (cRdBool h0 p _ hh GG.rdr GG.ok (by rw [hbb, hbN, r.int_b]; exact hl)) (fun h4 J => ?_)
          obtain ⟨R4, O4⟩ := J
          have gd4 := (O4.get (lt_of_get gdh) dp).trans gdh
          have l4 := lt_of_get gd4
          have lo4 : h4.lob ≤ d := by rw [O4.lob, GG.two.lob]; exact lod
          have hDl := GG.len
          have hjD : 19 + 1 ≤ (setN (setN (([.int .i64 0, .int .i64 0, .int .i64 0, .int .i64 0, .int .i64 0, .int .i64 0, .int .i64 0, .int .i64 0, .int .i64 0, .int .i64 0, .int .i64 0, .int .i64 0, .int .i64 0, .int .i64 0, .int .i64 0, .int .i64 0, .int .i64 0, .int .i64 0, .bool false, .nils, .nils, .nils] : List LV).set 0 (.int .i64 r.int.1)) jsA (numsR 10 r.int.2).1) jsB (numsR 7 (numsR 10 r.int.2).2).1).length + 1 := by omega
          generalize hDe : setN (setN (([.int .i64 0, .int .i64 0, .int .i64 0, .int .i64 0, .int .i64 0, .int .i64 0, .int .i64 0, .int .i64 0, .int .i64 0, .int .i64 0, .int .i64 0, .int .i64 0, .int .i64 0, .int .i64 0, .int .i64 0, .int .i64 0, .int .i64 0, .int .i64 0, .bool false, .nils, .nils, .nils] : List LV).set 0 (.int .i64 r.int.1)) jsA (numsR 10 r.int.2).1) jsB (numsR 7 (numsR 10 r.int.2).2).1 = DD at *
          have hjD' : 20 ≤ DD.length + 1 := by omega
          simp (maxSteps := 10000000) (maxDischargeDepth := 30) only [e0, e2, gd4, lo4, l4, hjD', hDl, go_sem, Nat.reduceEqDiff, ↓reduceIte, Nat.reduceAdd, Nat.reduceMul, Nat.reduceLeDiff, Nat.reduceLT, reduceCtorEq, Int.reduceToNat, Int.reduceLE, Int.reduceLT, Int.reduceEq, Int.reduceNeg, Int.reduceNe, Nat.reduceSub, IntKind.bits]
          have eF : LV.ptr p 0 :: DD.set 18 (.bool (numsR 7 (numsR 10 r.int.2).2).2.bool.1) = .ptr p 0 :: ((geomRd r).1.cells ++ [.nils, .nils, .nils]) := by
            rw [← hDe]; rfl
          refine ⟨R4.put2 dp h0d _, ?_, (GG.two.trans (O4.two d)).trans (.put p d _ h4)⟩
          rw [← eF]

theorem cDeItems (h0 : H) (p d : Nat) (g : GeomR) (a b c : LV) (r : RS) (h : H) (R : Rdr h0 p r h) (gd : h.get d = some ⟨false, .ptr p 0 :: (g.cells ++ [a, b, c])⟩) (dp : d ≠ p) (h0d : h0.len ≤ d) (lod : h.lob ≤ d) (ok : r.ok) (hl : r.b.length ≤ 1000000000000) :
    ∃ h', runI Try.prog TA 133 [.ptr d 0] h = some (.tup [], h') ∧ Rdr h0 p (eachL itemRd r).2 h' ∧ (∃ (o : Option (Nat × Nat)) (zs : List ItemR), zs.map id = (eachL itemRd r).1 ∧ h'.get d = some ⟨false, .ptr p 0 :: (g.cells ++ [mkS o 7 (zs.map ItemR.e), b, c])⟩) ∧ Ot2 p d h h' := by
  refine calls_ex rfl res133 rfl ?_
  have gd' : h.get d = some ⟨false, [.ptr p 0, .int .i64 g.c0, .int .i64 g.c1, .int .i64 g.c2, .int .i64 g.c3, .int .i64 g.c4, .int .i64 g.c5, .int .i64 g.c6, .int .i64 g.c7, .int .i64 g.c8, .int .i64 g.c9, .int .i64 g.c10, .int .i64 g.c11, .int .i64 g.c12, .int .i64 g.c13, .int .i64 g.c14, .int .i64 g.c15, .int .i64 g.c16, .int .i64 g.c17, .bool g.bal, a, b, c]⟩ := gd
  simp (maxSteps := 10000000) (maxDischargeDepth := 30) only [q133, r133, gd', go_sem, Nat.reduceEqDiff, ↓reduceIte, Nat.reduceAdd, Nat.reduceMul, Nat.reduceLeDiff, Nat.reduceLT, reduceCtorEq, Int.reduceToNat, Int.reduceLE, Int.reduceLT, Int.reduceEq, Int.reduceNeg, Int.reduceNe, Nat.reduceSub, IntKind.bits]
  refine ro_vcall (cEachItemD id itemRd item_one h0 p 140 [.ptr d 0] [] r h R ok hl (fun r' hh R' O' ok' hb' _ => ?_)) (fun v h4 J => ?_)
  · have gdh := (O'.get (lt_of_get gd) dp).trans gd
    obtain ⟨v, h', e, ev, R2, O2⟩ := cDeItem h0 p d _ r' hh R' gdh dp ok' (by rw [hb']; exact hl)
    exact ⟨_, h', e, ⟨_, ev, rfl⟩, R2, O2⟩
  obtain ⟨⟨o, zs, rfl, hz⟩, R4, O4⟩ := J
  have gd4 := (O4.get (lt_of_get gd') dp).trans gd'
  have l4 := lt_of_get gd4
  have lo4 : h4.lob ≤ d := by rw [O4.lob]; exact lod
  simp (maxSteps := 10000000) (maxDischargeDepth := 30) only [gd4, l4, lo4, go_sem, Nat.reduceEqDiff, ↓reduceIte, Nat.reduceAdd, Nat.reduceMul, Nat.reduceLeDiff, Nat.reduceLT, reduceCtorEq, Int.reduceToNat, Int.reduceLE, Int.reduceLT, Int.reduceEq, Int.reduceNeg, Int.reduceNe, Nat.reduceSub, IntKind.bits]
  exact ⟨R4.put2 dp h0d _, ⟨o, zs, hz, rfl⟩, (O4.two d).trans (.put p d _ h4)⟩

theorem cDeNotes (h0 : H) (p d : Nat) (g : GeomR) (a b c : LV) (r : RS) (h : H) (R : Rdr h0 p r h) (gd : h.get d = some ⟨false, .ptr p 0 :: (g.cells ++ [a, b, c])⟩) (dp : d ≠ p) (h0d : h0.len ≤ d) (lod : h.lob ≤ d) (ok : r.ok) (hl : r.b.length ≤ 1000000000000) :
    ∃ h', runI Try.prog TA 134 [.ptr d 0] h = some (.tup [], h') ∧ Rdr h0 p (eachL noteRd r).2 h' ∧ (∃ (o : Option (Nat × Nat)) (zs : List NoteR), zs.map NoteR.plain = (eachL noteRd r).1 ∧ h'.get d = some ⟨false, .ptr p 0 :: (g.cells ++ [a, mkS o 2 (zs.map NoteR.e), c])⟩) ∧ Ot2 p d h h' := by
  refine calls_ex rfl res134 rfl ?_
  have gd' : h.get d = some ⟨false, [.ptr p 0, .int .i64 g.c0, .int .i64 g.c1, .int .i64 g.c2, .int .i64 g.c3, .int .i64 g.c4, .int .i64 g.c5, .int .i64 g.c6, .int .i64 g.c7, .int .i64 g.c8, .int .i64 g.c9, .int .i64 g.c10, .int .i64 g.c11, .int .i64 g.c12, .int .i64 g.c13, .int .i64 g.c14, .int .i64 g.c15, .int .i64 g.c16, .int .i64 g.c17, .bool g.bal, a, b, c]⟩ := gd
  simp (maxSteps := 10000000) (maxDischargeDepth := 30) only [q134, r134, gd', go_sem, Nat.reduceEqDiff, ↓reduceIte, Nat.reduceAdd, Nat.reduceMul, Nat.reduceLeDiff, Nat.reduceLT, reduceCtorEq, Int.reduceToNat, Int.reduceLE, Int.reduceLT, Int.reduceEq, Int.reduceNeg, Int.reduceNe, Nat.reduceSub, IntKind.bits]
  refine ro_vcall (cEachNoteD NoteR.plain noteRd note_one h0 p 142 [.ptr d 0] [] r h R ok hl (fun r' hh R' O' ok' hb' _ => ?_)) (fun v h4 J => ?_)
  · have gdh := (O'.get (lt_of_get gd) dp).trans gd
    obtain ⟨v, h', e, ⟨x, ev, ex⟩, R2, O2⟩ := cDeNote h0 p d _ r' hh R' gdh dp ok' (by rw [hb']; exact hl)
    exact ⟨_, h', e, ⟨x, ev, ex⟩, R2, O2⟩
  obtain ⟨⟨o, zs, rfl, hz⟩, R4, O4⟩ := J
  have gd4 := (O4.get (lt_of_get gd') dp).trans gd'
  have l4 := lt_of_get gd4
  have lo4 : h4.lob ≤ d := by rw [O4.lob]; exact lod
  simp (maxSteps := 10000000) (maxDischargeDepth := 30) only [gd4, l4, lo4, go_sem, Nat.reduceEqDiff, ↓reduceIte, Nat.reduceAdd, Nat.reduceMul, Nat.reduceLeDiff, Nat.reduceLT, reduceCtorEq, Int.reduceToNat, Int.reduceLE, Int.reduceLT, Int.reduceEq, Int.reduceNeg, Int.reduceNe, Nat.reduceSub, IntKind.bits]
  exact ⟨R4.put2 dp h0d _, ⟨o, zs, hz, rfl⟩, (O4.two d).trans (.put p d _ h4)⟩

theorem cDeFloats (h0 : H) (p d : Nat) (g : GeomR) (a b c : LV) (r : RS) (h : H) (R : Rdr h0 p r h) (gd : h.get d = some ⟨false, .ptr p 0 :: (g.cells ++ [a, b, c])⟩) (dp : d ≠ p) (h0d : h0.len ≤ d) (lod : h.lob ≤ d) (ok : r.ok) (hl : r.b.length ≤ 1000000000000) :
    ∃ h', runI Try.prog TA 135 [.ptr d 0] h = some (.tup [], h') ∧ Rdr h0 p (eachL floatRd r).2 h' ∧ (∃ (o : Option (Nat × Nat)) (zs : List FloatR), zs.map id = (eachL floatRd r).1 ∧ h'.get d = some ⟨false, .ptr p 0 :: (g.cells ++ [a, b, mkS o 3 (zs.map FloatR.e)])⟩) ∧ Ot2 p d h h' := by
  refine calls_ex rfl res135 rfl ?_
  have gd' : h.get d = some ⟨false, [.ptr p 0, .int .i64 g.c0, .int .i64 g.c1, .int .i64 g.c2, .int .i64 g.c3, .int .i64 g.c4, .int .i64 g.c5, .int .i64 g.c6, .int .i64 g.c7, .int .i64 g.c8, .int .i64 g.c9, .int .i64 g.c10, .int .i64 g.c11, .int .i64 g.c12, .int .i64 g.c13, .int .i64 g.c14, .int .i64 g.c15, .int .i64 g.c16, .int .i64 g.c17, .bool g.bal, a, b, c]⟩ := gd
  simp (maxSteps := 10000000) (maxDischargeDepth := 30) only [q135, r135, gd', go_sem, Nat.reduceEqDiff, ↓reduceIte, Nat.reduceAdd, Nat.reduceMul, Nat.reduceLeDiff, Nat.reduceLT, reduceCtorEq, Int.reduceToNat, Int.reduceLE, Int.reduceLT, Int.reduceEq, Int.reduceNeg, Int.reduceNe, Nat.reduceSub, IntKind.bits]
  refine ro_vcall (cEachFloatD id floatRd float_one h0 p 144 [.ptr d 0] [] r h R ok hl (fun r' hh R' O' ok' hb' _ => ?_)) (fun v h4 J => ?_)
  · have gdh := (O'.get (lt_of_get gd) dp).trans gd
    obtain ⟨v, h', e, ev, R2, O2⟩ := cDeFloat h0 p d _ r' hh R' gdh dp ok' (by rw [hb']; exact hl)
    exact ⟨_, h', e, ⟨_, ev, rfl⟩, R2, O2⟩
  obtain ⟨⟨o, zs, rfl, hz⟩, R4, O4⟩ := J
  have gd4 := (O4.get (lt_of_get gd') dp).trans gd'
  have l4 := lt_of_get gd4
  have lo4 : h4.lob ≤ d := by rw [O4.lob]; exact lod
  simp (maxSteps := 10000000) (maxDischargeDepth := 30) only [gd4, l4, lo4, go_sem, Nat.reduceEqDiff, ↓reduceIte, Nat.reduceAdd, Nat.reduceMul, Nat.reduceLeDiff, Nat.reduceLT, reduceCtorEq, Int.reduceToNat, Int.reduceLE, Int.reduceLT, Int.reduceEq, Int.reduceNeg, Int.reduceNe, Nat.reduceSub, IntKind.bits]
  exact ⟨R4.put2 dp h0d _, ⟨o, zs, hz, rfl⟩, (O4.two d).trans (.put p d _ h4)⟩
end Go.LM
