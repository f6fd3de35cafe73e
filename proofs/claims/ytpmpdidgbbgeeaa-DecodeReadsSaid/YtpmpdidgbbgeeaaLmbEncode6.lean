import Derived.Test.YtpmpdidgbbgeeaaLmTrbR1
import Derived.Test.YtpmpdidgbbgeeaaLmTrbR2
import Derived.Test.YtpmpdidgbbgeeaaLmbEncode5
namespace Go.LM
open Go.Proofs
set_option maxRecDepth 8000
set_option maxHeartbeats 4000000
set_option linter.unusedSimpArgs false

/-! ### the document's bytes of jobs -/
def IRInts16 (o : Option (Nat × Nat)) (l : List Int) (h0 : H) (i : Nat) (s : S) (hh : H) : Prop :=
  s 0 = ints o l ∧ s 4 = .int .i64 i ∧ i ≤ l.length ∧ ∃ o2, s 3 = byts o2 (chns (l.take i)) ∧ Acc h0 o2 (chns (l.take i)) hh
theorem cRInts16 (o : Option (Nat × Nat)) (l : List Int) (h : H) (w : WF h) (hi : ∀ n ∈ l, I64 n) (hl : l.length ≤ 1000000) :
    ∃ v h', runI Try.prog TA 78 [ints o l] h = some (v, h') ∧ ∃ o2, v = byts o2 (chns l) ∧ Acc h o2 (chns l) h' := by
  refine calls_of rfl res78 rfl ?_
  simp (maxSteps := 10000000) (maxDischargeDepth := 30) only [q78, r78, go_sem, Nat.reduceEqDiff, ↓reduceIte, Nat.reduceAdd, Nat.reduceMul, Nat.reduceLeDiff, Nat.reduceLT, reduceCtorEq, Int.reduceToNat, Int.reduceLE, Int.reduceLT, Int.reduceEq, Int.reduceNeg, Int.reduceNe, Nat.reduceSub, IntKind.bits]
  refine ru_loop (fun i => l.length - i) (IRInts16 o l h) 0 ?_ ?_
  · unfold IRInts16
    simp (maxSteps := 10000000) (maxDischargeDepth := 30) only [Int.natCast_zero, go_sem, Nat.reduceEqDiff, ↓reduceIte, Nat.reduceAdd, Nat.reduceMul, Nat.reduceLeDiff, Nat.reduceLT, reduceCtorEq, Int.reduceToNat, Int.reduceLE, Int.reduceLT, Int.reduceEq, Int.reduceNeg, Int.reduceNe, Nat.reduceSub, IntKind.bits]
    exact ⟨none, rfl, .start (.refl _) w⟩
  · rintro i s hh ⟨e0, e4, hil, o2, e3, A⟩
    by_cases hlt : i < l.length
    · refine ru_step ?_
      obtain ⟨x, hx⟩ : ∃ x, l[i]? = some x := ⟨l[i], List.getElem?_eq_getElem hlt⟩
      have ia := int_at hx
      have c1 : (i : Int) < l.length := by omega
      have ew : IntKind.i64.wrap ((i : Int) + 1) = ((i + 1 : Nat) : Int) := by rw [wrap64 (by omega) (by omega)]; omega
      have hx64 := hi x (List.mem_of_getElem? hx)
      have ht : (l.take i).length ≤ 1000000 := by rw [List.length_take]; omega
      have hcl := chns_len (l := l.take i) (fun n hn => hi n (List.mem_of_mem_take hn))
      have hk := cChain x hx64.1 hx64.2 hh A.wf
      simp (maxSteps := 10000000) (maxDischargeDepth := 30) only [e0, e3, e4, c1, ia, go_sem, Nat.reduceEqDiff, ↓reduceIte, Nat.reduceAdd, Nat.reduceMul, Nat.reduceLeDiff, Nat.reduceLT, reduceCtorEq, Int.reduceToNat, Int.reduceLE, Int.reduceLT, Int.reduceEq, Int.reduceNeg, Int.reduceNe, Nat.reduceSub, IntKind.bits]
      refine ro_kcall hk A.wf (fun h1 k1 w1 => ?_)
      obtain ⟨o3, h3, ap, A3, _⟩ := (A.next k1).app (chn x) (by have := chn_len hx64; omega)
      unfold chn at ap
      simp (maxSteps := 10000000) (maxDischargeDepth := 30) only [e0, e3, e4, ap, ew, go_sem, Nat.reduceEqDiff, ↓reduceIte, Nat.reduceAdd, Nat.reduceMul, Nat.reduceLeDiff, Nat.reduceLT, reduceCtorEq, Int.reduceToNat, Int.reduceLE, Int.reduceLT, Int.reduceEq, Int.reduceNeg, Int.reduceNe, Nat.reduceSub, IntKind.bits]
      refine ⟨i + 1, by omega, ?_⟩
      unfold IRInts16
      simp (maxSteps := 10000000) (maxDischargeDepth := 30) only [e0, e4, go_sem, Nat.reduceEqDiff, ↓reduceIte, Nat.reduceAdd, Nat.reduceMul, Nat.reduceLeDiff, Nat.reduceLT, reduceCtorEq, Int.reduceToNat, Int.reduceLE, Int.reduceLT, Int.reduceEq, Int.reduceNeg, Int.reduceNe, Nat.reduceSub, IntKind.bits]
      have hf : chns (l.take (i + 1)) = chns (l.take i) ++ chn x := flat_take chn hx
      rw [hf]
      exact ⟨by omega, o3, rfl, A3⟩
    · have c1 : ¬ (i : Int) < l.length := by omega
      obtain rfl : i = l.length := by omega
      rw [List.take_length] at e3 A
      simp (maxSteps := 10000000) (maxDischargeDepth := 30) only [e0, e3, e4, c1, go_sem, Nat.reduceEqDiff, ↓reduceIte, Nat.reduceAdd, Nat.reduceMul, Nat.reduceLeDiff, Nat.reduceLT, reduceCtorEq, Int.reduceToNat, Int.reduceLE, Int.reduceLT, Int.reduceEq, Int.reduceNeg, Int.reduceNe, Nat.reduceSub, IntKind.bits]
      exact ⟨o2, rfl, A⟩
theorem cRGeom16 (g : GeomR) (h : H) (w : WF h) (hg : g.ok) : ∃ v h', runI Try.prog TA 41 [g.e] h = some (v, h') ∧ (∃ o2, v = byts o2 (geomB g)) ∧ Keep h h' := by
  refine calls_of rfl res41 rfl ?_
  have k1 := (Keep.refl h).alloc g.cells
  have g1 : (h.alloc g.cells).get h.len = some ⟨false, [.int .i64 g.c0, .int .i64 g.c1, .int .i64 g.c2, .int .i64 g.c3, .int .i64 g.c4, .int .i64 g.c5, .int .i64 g.c6, .int .i64 g.c7, .int .i64 g.c8, .int .i64 g.c9, .int .i64 g.c10, .int .i64 g.c11, .int .i64 g.c12, .int .i64 g.c13, .int .i64 g.c14, .int .i64 g.c15, .int .i64 g.c16, .int .i64 g.c17, .bool g.bal]⟩ := get_alloc_eq _ _
  simp (maxSteps := 10000000) (maxDischargeDepth := 30) only [q41, r41, GeomR.e, GeomR.cells, go_sem, Nat.reduceEqDiff, ↓reduceIte, Nat.reduceAdd, Nat.reduceMul, Nat.reduceLeDiff, Nat.reduceLT, reduceCtorEq, Int.reduceToNat, Int.reduceLE, Int.reduceLT, Int.reduceEq, Int.reduceNeg, Int.reduceNe, Nat.reduceSub, IntKind.bits]
  have k2 := k1.nrow 18
  have w2 := w.keep k2
  have g2 : ((h.alloc g.cells).nrow 18).get h.len = _ := (get_nrow _ _ _).trans g1
  refine ro_vcall (cRInts16 _ g.nums ((h.alloc g.cells).nrow 18) w2 hg (show 18 ≤ 1000000 by decide)) (fun v h3 J => ?_)
  obtain ⟨o3, rfl, A⟩ := J
  have g3 := (A.keep.get (lt_of_get g2)).trans g2
  have kn := (Keep.refl h3).nrow 1
  have hcl := chns_len (l := g.nums) hg
  have hl18 : g.nums.length = 18 := rfl
  rw [hl18] at hcl
  obtain ⟨o4, h4, ap, A4, _⟩ := (A.next kn).app [if g.bal = true then 1 else 0] (by simp only [List.length_cons, List.length_nil]; omega)
  cases hb : g.bal
  · rw [hb] at ap A4
    have ap' : appS 1 1 (byts o3 (chns g.nums)) (h3.nrow 1) (some [.int .u8 0]) = some (byts o4 (chns g.nums ++ [0]), h4) := ap
    simp (maxSteps := 10000000) (maxDischargeDepth := 30) only [g3, hb, ap', go_sem, Nat.reduceEqDiff, ↓reduceIte, Nat.reduceAdd, Nat.reduceMul, Nat.reduceLeDiff, Nat.reduceLT, reduceCtorEq, Int.reduceToNat, Int.reduceLE, Int.reduceLT, Int.reduceEq, Int.reduceNeg, Int.reduceNe, Nat.reduceSub, IntKind.bits]
    refine ⟨⟨o4, ?_⟩, k2.trans A4.keep⟩
    unfold geomB; rw [hb]; rfl
  · rw [hb] at ap A4
    have ap' : appS 1 1 (byts o3 (chns g.nums)) (h3.nrow 1) (some [.int .u8 1]) = some (byts o4 (chns g.nums ++ [1]), h4) := ap
    simp (maxSteps := 10000000) (maxDischargeDepth := 30) only [g3, hb, ap', go_sem, Nat.reduceEqDiff, ↓reduceIte, Nat.reduceAdd, Nat.reduceMul, Nat.reduceLeDiff, Nat.reduceLT, reduceCtorEq, Int.reduceToNat, Int.reduceLE, Int.reduceLT, Int.reduceEq, Int.reduceNeg, Int.reduceNe, Nat.reduceSub, IntKind.bits]
    refine ⟨⟨o4, ?_⟩, k2.trans A4.keep⟩
    unfold geomB; rw [hb]; rfl

/-! ### items -/
def IRItems (o : Option (Nat × Nat)) (l : List ItemR) (h0 : H) (i : Nat) (s : S) (hh : H) : Prop :=
  s 0 = mkS o 7 (l.map ItemR.e) ∧ s 2 = .ptr h0.len 0 ∧ s 4 = .int .i64 i ∧ i ≤ l.length ∧ bareL (l.take i) = true ∧ hh.get h0.len = some ⟨false, [.nils, .bool false]⟩ ∧
    ∃ o2, s 3 = byts o2 (chn l.length ++ (l.take i).flatMap itemB) ∧ Acc h0 o2 (chn l.length ++ (l.take i).flatMap itemB) hh
theorem cRItems16 (o : Option (Nat × Nat)) (l : List ItemR) (h : H) (w : WF h) (hi : ∀ x ∈ l, x.ok) (hl : l.length ≤ 1000000) :
    ∃ v h', runI Try.prog TA 29 [mkS o 7 (l.map ItemR.e)] h = some (v, h') ∧ (∃ o2, v = if bareL l = true then .agg [byts o2 (many itemB l), .bool true] else .agg [.nils, .bool false]) ∧ Keep h h' := by
  refine calls_of rfl res29 rfl ?_
  have hl64 : I64 l.length := ⟨by omega, by omega⟩
  have k1 := ((Keep.refl h).alloc [.nils, .bool false]).nrow 1
  have w1 := w.keep k1
  have g1 : ((h.alloc [.nils, .bool false]).nrow 1).get h.len = some ⟨false, [.nils, .bool false]⟩ := by rw [get_nrow, get_alloc_eq]
  have lo := w.1
  simp (maxSteps := 10000000) (maxDischargeDepth := 30) only [q29, r29, go_sem, Nat.reduceEqDiff, ↓reduceIte, Nat.reduceAdd, Nat.reduceMul, Nat.reduceLeDiff, Nat.reduceLT, reduceCtorEq, Int.reduceToNat, Int.reduceLE, Int.reduceLT, Int.reduceEq, Int.reduceNeg, Int.reduceNe, Nat.reduceSub, IntKind.bits]
  refine ro_vcall (cRInts16 _ [(l.length : Int)] ((h.alloc [.nils, .bool false]).nrow 1) w1 (by simpa using hl64) (by simp)) (fun v h2 J => ?_)
  obtain ⟨o2, rfl, A2⟩ := J
  have g2 := (A2.keep.get (lt_of_get g1)).trans g1
  have A2' : Acc h o2 (chn l.length) h2 := by
    rw [show chn (l.length : Int) = chns [(l.length : Int)] by simp [chns]]
    exact ⟨A2.tok, newTok_le k1.rlen A2.new, k1.trans A2.keep, A2.wf⟩
  simp (maxSteps := 10000000) (maxDischargeDepth := 30) only [go_sem, Nat.reduceEqDiff, ↓reduceIte, Nat.reduceAdd, Nat.reduceMul, Nat.reduceLeDiff, Nat.reduceLT, reduceCtorEq, Int.reduceToNat, Int.reduceLE, Int.reduceLT, Int.reduceEq, Int.reduceNeg, Int.reduceNe, Nat.reduceSub, IntKind.bits]
  refine ru_loop (fun i => l.length - i) (IRItems o l h) 0 ?_ ?_
  · unfold IRItems
    simp (maxSteps := 10000000) (maxDischargeDepth := 30) only [Int.natCast_zero, go_sem, Nat.reduceEqDiff, ↓reduceIte, Nat.reduceAdd, Nat.reduceMul, Nat.reduceLeDiff, Nat.reduceLT, reduceCtorEq, Int.reduceToNat, Int.reduceLE, Int.reduceLT, Int.reduceEq, Int.reduceNeg, Int.reduceNe, Nat.reduceSub, IntKind.bits]
    exact ⟨rfl, g2, o2, by simp [chns], by simpa using A2'⟩
  · rintro i s hh ⟨e0, e2, e4, hil, hbt, gh, o3, e3, A⟩
    have lgh := lt_of_get gh
    have lob1 : hh.lob ≤ h.len := by rw [A.keep.lob]; exact lo
    have hK := A.keep
    by_cases c1 : (i : Int) < l.length
    rotate_left
    · obtain rfl : i = l.length := by omega
      rw [List.take_length] at e3 A hbt
      simp (maxSteps := 10000000) (maxDischargeDepth := 30) only [e0, e2, e3, e4, c1, gh, lgh, lob1, hbt, go_sem, Nat.reduceEqDiff, ↓reduceIte, Nat.reduceAdd, Nat.reduceMul, Nat.reduceLeDiff, Nat.reduceLT, reduceCtorEq, Int.reduceToNat, Int.reduceLE, Int.reduceLT, Int.reduceEq, Int.reduceNeg, Int.reduceNe, Nat.reduceSub, IntKind.bits]
      exact ⟨⟨o3, rfl⟩, hK.put (Nat.le_refl _) _⟩
    obtain ⟨x, hx⟩ : ∃ x, l[i]? = some x := ⟨l[i], List.getElem?_eq_getElem (by omega)⟩
    have ia : iaS (l.map ItemR.e) (i : Int) = some (.cptr x.e) := iaS_map (Int.natCast_nonneg i) (by simpa using hx)
    have hxi := hi x (List.mem_of_getElem? hx)
    have lo1 := A.wf.1
    have hit := items_len hi i
    have hcn := chn_len hl64
    by_cases hbx : bareR x = true
    rotate_left
    · have hbx' : bareR x = false := by simpa using hbx
      have hbl := bareL_not hx hbx'
      simp (maxSteps := 10000000) (maxDischargeDepth := 30) only [e0, e2, e3, e4, c1, ia, ItemR.e, lo1, go_sem, Nat.reduceEqDiff, ↓reduceIte, Nat.reduceAdd, Nat.reduceMul, Nat.reduceLeDiff, Nat.reduceLT, reduceCtorEq, Int.reduceToNat, Int.reduceLE, Int.reduceLT, Int.reduceEq, Int.reduceNeg, Int.reduceNe, Nat.reduceSub, IntKind.bits]
      generalize hgg : (hh.alloc _).put _ _ = g
      have kg : Keep hh g := by rw [← hgg]; exact ((Keep.refl hh).alloc _).put (Nat.le_refl _) _
      have gx : g.get hh.len = some ⟨false, [.int .i64 x.k, .int .i64 x.h, .int .i64 x.f, .int .i64 x.str, .int .i64 x.ord, .int .i64 x.shr, .int .i64 x.n]⟩ := by rw [← hgg]; simp (maxSteps := 10000000) (maxDischargeDepth := 30) only [go_sem, Nat.reduceEqDiff, ↓reduceIte, Nat.reduceAdd, Nat.reduceMul, Nat.reduceLeDiff, Nat.reduceLT, reduceCtorEq, Int.reduceToNat, Int.reduceLE, Int.reduceLT, Int.reduceEq, Int.reduceNeg, Int.reduceNe, Nat.reduceSub, IntKind.bits]
      clear hgg
      try (simp (maxSteps := 10000000) (maxDischargeDepth := 30) only [gx, go_sem, Nat.reduceEqDiff, ↓reduceIte, Nat.reduceAdd, Nat.reduceMul, Nat.reduceLeDiff, Nat.reduceLT, reduceCtorEq, Int.reduceToNat, Int.reduceLE, Int.reduceLT, Int.reduceEq, Int.reduceNeg, Int.reduceNe, Nat.reduceSub, IntKind.bits])
      refine ro_kcall (cRBare16 x g (A.wf.keep kg)) (A.wf.keep kg) (fun h3 k3 w3 => ?_)
      have kk := kg.trans k3
      have gh3 := (kk.get lgh).trans gh
      have lgh3 := lt_of_get gh3
      have lob3 : h3.lob ≤ h.len := by rw [kk.lob]; exact lob1
      rw [hbx', hbl]
      simp (maxSteps := 10000000) (maxDischargeDepth := 30) only [e2, gh3, lgh3, lob3, go_sem, Nat.reduceEqDiff, ↓reduceIte, Nat.reduceAdd, Nat.reduceMul, Nat.reduceLeDiff, Nat.reduceLT, reduceCtorEq, Int.reduceToNat, Int.reduceLE, Int.reduceLT, Int.reduceEq, Int.reduceNeg, Int.reduceNe, Nat.reduceSub, IntKind.bits]
      exact ⟨⟨none, trivial⟩, (hK.trans kk).put (Nat.le_refl _) _⟩
    refine ru_step ?_
    simp (maxSteps := 10000000) (maxDischargeDepth := 30) only [e0, e2, e3, e4, c1, ia, ItemR.e, lo1, go_sem, Nat.reduceEqDiff, ↓reduceIte, Nat.reduceAdd, Nat.reduceMul, Nat.reduceLeDiff, Nat.reduceLT, reduceCtorEq, Int.reduceToNat, Int.reduceLE, Int.reduceLT, Int.reduceEq, Int.reduceNeg, Int.reduceNe, Nat.reduceSub, IntKind.bits]
    generalize hgg : (hh.alloc _).put _ _ = g
    have kg : Keep hh g := by rw [← hgg]; exact ((Keep.refl hh).alloc _).put (Nat.le_refl _) _
    have gx : g.get hh.len = some ⟨false, [.int .i64 x.k, .int .i64 x.h, .int .i64 x.f, .int .i64 x.str, .int .i64 x.ord, .int .i64 x.shr, .int .i64 x.n]⟩ := by rw [← hgg]; simp (maxSteps := 10000000) (maxDischargeDepth := 30) only [go_sem, Nat.reduceEqDiff, ↓reduceIte, Nat.reduceAdd, Nat.reduceMul, Nat.reduceLeDiff, Nat.reduceLT, reduceCtorEq, Int.reduceToNat, Int.reduceLE, Int.reduceLT, Int.reduceEq, Int.reduceNeg, Int.reduceNe, Nat.reduceSub, IntKind.bits]
    clear hgg
    try (simp (maxSteps := 10000000) (maxDischargeDepth := 30) only [gx, go_sem, Nat.reduceEqDiff, ↓reduceIte, Nat.reduceAdd, Nat.reduceMul, Nat.reduceLeDiff, Nat.reduceLT, reduceCtorEq, Int.reduceToNat, Int.reduceLE, Int.reduceLT, Int.reduceEq, Int.reduceNeg, Int.reduceNe, Nat.reduceSub, IntKind.bits])
    refine ro_kcall (cRBare16 x g (A.wf.keep kg)) (A.wf.keep kg) (fun h3 k3 w3 => ?_)
    have gx3 := (k3.get (lt_of_get gx)).trans gx
    have kk := kg.trans k3
    rw [hbx]
    have ew : IntKind.i64.wrap ((i : Int) + 1) = ((i + 1 : Nat) : Int) := by rw [wrap64 (by omega) (by omega)]; omega
    have B1 : AccN h3 (some (h3.rlen, 1)) [x.k].length (h3.nrow 1) := AccN.fresh (.refl _) w3 1
    have fin : ∀ (of : Option (Nat × Nat)) (g4 : H), Keep h3 g4 → (∃ v g5, runI Try.prog TA 78 [ints of (x.k :: fieldsR x)] g4 = some (v, g5) ∧ ∃ o6, v = byts o6 (itemB x) ∧ Keep g4 g5) ∧
        (∀ g5, Keep g4 g5 → ∃ o7 g7, appS 1 1 (byts o3 (chn l.length ++ (l.take i).flatMap itemB)) g5 (some ((itemB x).map (LV.int .u8))) = some (byts o7 (chn l.length ++ (l.take (i + 1)).flatMap itemB), g7) ∧ Acc h o7 (chn l.length ++ (l.take (i + 1)).flatMap itemB) g7 ∧ g7.get h.len = some ⟨false, [.nils, .bool false]⟩) := by
      intro of g4 k4
      refine ⟨?_, fun g5 k5 => ?_⟩
      · obtain ⟨v, g5, e, o6, ev, A6⟩ := cRInts16 of (x.k :: fieldsR x) g4 (w3.keep k4) (by
          intro n hn
          rcases List.mem_cons.1 hn with rfl | hn
          · exact item_k64 hxi
          · exact fieldsR_64 hxi n hn) (by have := fieldsR_len x; simp only [List.length_cons]; omega)
        exact ⟨v, g5, e, o6, by rw [ev, chns_cons]; rfl, A6.keep⟩
      · have k35 := k4.trans k5
        have hib := itemB_len hxi
        obtain ⟨o7, g7, ap, A7, gg, -⟩ := ((A.next kk).next k35).app (itemB x) (by rw [List.length_append]; omega)
        rw [List.append_assoc, ← flat_take itemB hx] at ap A7
        exact ⟨o7, g7, ap, A7, by rw [gg]; exact (k35.get (Nat.lt_of_lt_of_le lgh kk.len)).trans ((kk.get lgh).trans gh)⟩
    have hstep : ∀ (o7 : Option (Nat × Nat)) (g7 : H), Acc h o7 (chn l.length ++ (l.take (i + 1)).flatMap itemB) g7 → g7.get h.len = some ⟨false, [.nils, .bool false]⟩ →
        ∀ s' : S, s' 0 = mkS o 7 (l.map ItemR.e) → s' 2 = .ptr h.len 0 → s' 3 = byts o7 (chn l.length ++ (l.take (i + 1)).flatMap itemB) → s' 4 = .int .i64 ((i + 1 : Nat) : Int) → IRItems o l h (i + 1) s' g7 :=
      fun o7 g7 A7 gg s' a0 a2 a3 a4 => ⟨a0, a2, a4, by omega, bareL_take hx hbt hbx, gg, o7, a3, A7⟩
    by_cases d1 : x.k = 1
    · have dk : (x.k = 1) = True := eq_true d1
      have ef : fieldsR x = [x.h, x.f] := by unfold fieldsR; rw [if_pos d1]
      rw [ef] at fin
      have kn : Keep (h3.nrow 1) ((h3.nrow 1).nrow 2) := (Keep.refl _).nrow 2
      obtain ⟨of, g4, apf, B2, gf, -⟩ := (B1.next kn).appI (by_ := 8) [x.h, x.f] (by simp)
      have apf' : appS 1 8 (mkS (some (h3.rlen, 1)) 1 [.int .i64 x.k]) ((h3.nrow 1).nrow 2) (some [.int .i64 x.h, .int .i64 x.f]) = some (ints of (x.k :: [x.h, x.f]), g4) := apf
      have k4 : Keep h3 g4 := B2.keep
      obtain ⟨f1, f2⟩ := fin of g4 k4
      simp (maxSteps := 10000000) (maxDischargeDepth := 30) only [gx3, dk, apf', go_sem, Nat.reduceEqDiff, ↓reduceIte, Nat.reduceAdd, Nat.reduceMul, Nat.reduceLeDiff, Nat.reduceLT, reduceCtorEq, Int.reduceToNat, Int.reduceLE, Int.reduceLT, Int.reduceEq, Int.reduceNeg, Int.reduceNe, Nat.reduceSub, IntKind.bits]
      refine ro_vcall f1 (fun v g5 J => ?_)
      obtain ⟨o6, rfl, k5⟩ := J
      obtain ⟨o7, g7, ap7, A7, gg⟩ := f2 g5 k5
      simp (maxSteps := 10000000) (maxDischargeDepth := 30) only [e0, e2, e3, e4, ap7, ew, go_sem, Nat.reduceEqDiff, ↓reduceIte, Nat.reduceAdd, Nat.reduceMul, Nat.reduceLeDiff, Nat.reduceLT, reduceCtorEq, Int.reduceToNat, Int.reduceLE, Int.reduceLT, Int.reduceEq, Int.reduceNeg, Int.reduceNe, Nat.reduceSub, IntKind.bits]
      refine ⟨i + 1, by omega, ?_⟩
      apply hstep o7 g7 A7 gg <;> simp (maxSteps := 10000000) (maxDischargeDepth := 30) only [e0, e2, e3, e4, go_sem, Nat.reduceEqDiff, ↓reduceIte, Nat.reduceAdd, Nat.reduceMul, Nat.reduceLeDiff, Nat.reduceLT, reduceCtorEq, Int.reduceToNat, Int.reduceLE, Int.reduceLT, Int.reduceEq, Int.reduceNeg, Int.reduceNe, Nat.reduceSub, IntKind.bits]
    by_cases d2 : x.k = 2
    · have dk : (x.k = 1) = False := eq_false d1
      have dk2 : (x.k = 2) = True := eq_true d2
      have ef : fieldsR x = [x.h, x.str, x.ord, x.shr] := by unfold fieldsR; rw [if_neg d1, if_pos d2]
      rw [ef] at fin
      have kn : Keep (h3.nrow 1) ((h3.nrow 1).nrow 4) := (Keep.refl _).nrow 4
      obtain ⟨of, g4, apf, B2, gf, -⟩ := (B1.next kn).appI (by_ := 8) [x.h, x.str, x.ord, x.shr] (by simp)
      have apf' : appS 1 8 (mkS (some (h3.rlen, 1)) 1 [.int .i64 x.k]) ((h3.nrow 1).nrow 4) (some [.int .i64 x.h, .int .i64 x.str, .int .i64 x.ord, .int .i64 x.shr]) = some (ints of (x.k :: [x.h, x.str, x.ord, x.shr]), g4) := apf
      have k4 : Keep h3 g4 := B2.keep
      obtain ⟨f1, f2⟩ := fin of g4 k4
      simp (maxSteps := 10000000) (maxDischargeDepth := 30) only [gx3, dk, dk2, apf', go_sem, Nat.reduceEqDiff, ↓reduceIte, Nat.reduceAdd, Nat.reduceMul, Nat.reduceLeDiff, Nat.reduceLT, reduceCtorEq, Int.reduceToNat, Int.reduceLE, Int.reduceLT, Int.reduceEq, Int.reduceNeg, Int.reduceNe, Nat.reduceSub, IntKind.bits]
      refine ro_vcall f1 (fun v g5 J => ?_)
      obtain ⟨o6, rfl, k5⟩ := J
      obtain ⟨o7, g7, ap7, A7, gg⟩ := f2 g5 k5
      simp (maxSteps := 10000000) (maxDischargeDepth := 30) only [e0, e2, e3, e4, ap7, ew, go_sem, Nat.reduceEqDiff, ↓reduceIte, Nat.reduceAdd, Nat.reduceMul, Nat.reduceLeDiff, Nat.reduceLT, reduceCtorEq, Int.reduceToNat, Int.reduceLE, Int.reduceLT, Int.reduceEq, Int.reduceNeg, Int.reduceNe, Nat.reduceSub, IntKind.bits]
      refine ⟨i + 1, by omega, ?_⟩
      apply hstep o7 g7 A7 gg <;> simp (maxSteps := 10000000) (maxDischargeDepth := 30) only [e0, e2, e3, e4, go_sem, Nat.reduceEqDiff, ↓reduceIte, Nat.reduceAdd, Nat.reduceMul, Nat.reduceLeDiff, Nat.reduceLT, reduceCtorEq, Int.reduceToNat, Int.reduceLE, Int.reduceLT, Int.reduceEq, Int.reduceNeg, Int.reduceNe, Nat.reduceSub, IntKind.bits]
    by_cases d7 : x.k = 7
    · have dk : (x.k = 1) = False := eq_false d1
      have dk2 : (x.k = 2) = False := eq_false d2
      have dk7 : (x.k < 7) = False := eq_false (by omega)
      have ef : fieldsR x = [] := by unfold fieldsR; rw [if_neg d1, if_neg d2, if_pos d7]
      rw [ef] at fin
      obtain ⟨f1, f2⟩ := fin (some (h3.rlen, 1)) (h3.nrow 1) ((Keep.refl h3).nrow 1)
      simp (maxSteps := 10000000) (maxDischargeDepth := 30) only [gx3, dk, dk2, dk7, go_sem, Nat.reduceEqDiff, ↓reduceIte, Nat.reduceAdd, Nat.reduceMul, Nat.reduceLeDiff, Nat.reduceLT, reduceCtorEq, Int.reduceToNat, Int.reduceLE, Int.reduceLT, Int.reduceEq, Int.reduceNeg, Int.reduceNe, Nat.reduceSub, IntKind.bits]
      refine ro_vcall f1 (fun v g5 J => ?_)
      obtain ⟨o6, rfl, k5⟩ := J
      obtain ⟨o7, g7, ap7, A7, gg⟩ := f2 g5 k5
      simp (maxSteps := 10000000) (maxDischargeDepth := 30) only [e0, e2, e3, e4, ap7, ew, go_sem, Nat.reduceEqDiff, ↓reduceIte, Nat.reduceAdd, Nat.reduceMul, Nat.reduceLeDiff, Nat.reduceLT, reduceCtorEq, Int.reduceToNat, Int.reduceLE, Int.reduceLT, Int.reduceEq, Int.reduceNeg, Int.reduceNe, Nat.reduceSub, IntKind.bits]
      refine ⟨i + 1, by omega, ?_⟩
      apply hstep o7 g7 A7 gg <;> simp (maxSteps := 10000000) (maxDischargeDepth := 30) only [e0, e2, e3, e4, go_sem, Nat.reduceEqDiff, ↓reduceIte, Nat.reduceAdd, Nat.reduceMul, Nat.reduceLeDiff, Nat.reduceLT, reduceCtorEq, Int.reduceToNat, Int.reduceLE, Int.reduceLT, Int.reduceEq, Int.reduceNeg, Int.reduceNe, Nat.reduceSub, IntKind.bits]
    have d3 : x.k < 7 := by
      unfold bareR at hbx
      rw [if_neg d1, if_neg d2] at hbx
      split at hbx
      · omega
      · first | cases hbx | (rw [if_neg d7] at hbx; cases hbx)
    have dk : (x.k = 1) = False := eq_false d1
    have dk2 : (x.k = 2) = False := eq_false d2
    have dk7 : (x.k < 7) = True := eq_true d3
    have ef : fieldsR x = [x.n] := by unfold fieldsR; rw [if_neg d1, if_neg d2, if_neg d7]
    rw [ef] at fin
    have kn : Keep (h3.nrow 1) ((h3.nrow 1).nrow 1) := (Keep.refl _).nrow 1
    obtain ⟨of, g4, apf, B2, gf, -⟩ := (B1.next kn).appI (by_ := 8) [x.n] (by simp)
    have apf' : appS 1 8 (mkS (some (h3.rlen, 1)) 1 [.int .i64 x.k]) ((h3.nrow 1).nrow 1) (some [.int .i64 x.n]) = some (ints of (x.k :: [x.n]), g4) := apf
    have k4 : Keep h3 g4 := B2.keep
    obtain ⟨f1, f2⟩ := fin of g4 k4
    simp (maxSteps := 10000000) (maxDischargeDepth := 30) only [gx3, dk, dk2, dk7, apf', go_sem, Nat.reduceEqDiff, ↓reduceIte, Nat.reduceAdd, Nat.reduceMul, Nat.reduceLeDiff, Nat.reduceLT, reduceCtorEq, Int.reduceToNat, Int.reduceLE, Int.reduceLT, Int.reduceEq, Int.reduceNeg, Int.reduceNe, Nat.reduceSub, IntKind.bits]
    refine ro_vcall f1 (fun v g5 J => ?_)
    obtain ⟨o6, rfl, k5⟩ := J
    obtain ⟨o7, g7, ap7, A7, gg⟩ := f2 g5 k5
    simp (maxSteps := 10000000) (maxDischargeDepth := 30) only [e0, e2, e3, e4, ap7, ew, go_sem, Nat.reduceEqDiff, ↓reduceIte, Nat.reduceAdd, Nat.reduceMul, Nat.reduceLeDiff, Nat.reduceLT, reduceCtorEq, Int.reduceToNat, Int.reduceLE, Int.reduceLT, Int.reduceEq, Int.reduceNeg, Int.reduceNe, Nat.reduceSub, IntKind.bits]
    refine ⟨i + 1, by omega, ?_⟩
    apply hstep o7 g7 A7 gg <;> simp (maxSteps := 10000000) (maxDischargeDepth := 30) only [e0, e2, e3, e4, go_sem, Nat.reduceEqDiff, ↓reduceIte, Nat.reduceAdd, Nat.reduceMul, Nat.reduceLeDiff, Nat.reduceLT, reduceCtorEq, Int.reduceToNat, Int.reduceLE, Int.reduceLT, Int.reduceEq, Int.reduceNeg, Int.reduceNe, Nat.reduceSub, IntKind.bits]
end Go.LM
