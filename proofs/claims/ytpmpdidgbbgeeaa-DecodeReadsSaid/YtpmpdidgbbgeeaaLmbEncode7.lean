import Derived.Test.YtpmpdidgbbgeeaaLmTrbR2
import Derived.Test.YtpmpdidgbbgeeaaLmbEncode6
namespace Go.LM
open Go.Proofs
set_option maxRecDepth 8000
set_option maxHeartbeats 8000000
set_option linter.unusedSimpArgs false

theorem note_chns (x : NoteR) : chns ((x.lines.length : Int) :: (x.lines ++ ((x.pens.length : Int) :: x.pens))) = noteBR x := by
  unfold noteBR noteBP NoteR.plain many
  rw [chns_cons, chns_append, chns_cons]
  simp only [chns, List.append_assoc]
/-- The boxes of a job, and of what is told of it. -/
structure JBox (j : JobR) (h0 : H) (h : H) : Prop where
  job : h.get h0.len = some ⟨false, [.int .i64 j.g.c0, .int .i64 j.g.c1, .int .i64 j.g.c2, .int .i64 j.g.c3, .int .i64 j.g.c4, .int .i64 j.g.c5, .int .i64 j.g.c6, .int .i64 j.g.c7, .int .i64 j.g.c8, .int .i64 j.g.c9, .int .i64 j.g.c10, .int .i64 j.g.c11, .int .i64 j.g.c12, .int .i64 j.g.c13, .int .i64 j.g.c14, .int .i64 j.g.c15, .int .i64 j.g.c16, .int .i64 j.g.c17, .bool j.g.bal, mkS j.oi 7 (j.items.map ItemR.e), mkS j.on 2 (j.notes.map NoteR.e), mkS j.of 3 (j.floats.map FloatR.e)]⟩
  res : h.get (h0.len + 1) = some ⟨false, [.nils, .bool false]⟩
  keep : Keep h0 h
theorem JBox.next {j : JobR} {h0 h h' : H} (b : JBox j h0 h) (k : Keep h h') : JBox j h0 h' := ⟨(k.get (lt_of_get b.job)).trans b.job, (k.get (lt_of_get b.res)).trans b.res, b.keep.trans k⟩
theorem JBox.same {j : JobR} {h0 h h' : H} (b : JBox j h0 h) (hg : ∀ c, h'.get c = h.get c) (k : Keep h0 h') : JBox j h0 h' := ⟨(hg _).trans b.job, (hg _).trans b.res, k⟩
def IRJN (j : JobR) (h0 : H) (pre : List Int) (i : Nat) (s : S) (hh : H) : Prop :=
  s 1 = .ptr h0.len 0 ∧ s 2 = .ptr (h0.len + 1) 0 ∧ s 5 = .int .i64 i ∧ i ≤ j.notes.length ∧ JBox j h0 hh ∧ ∃ o, s 4 = byts o (pre ++ (j.notes.take i).flatMap noteBR) ∧ Acc h0 o (pre ++ (j.notes.take i).flatMap noteBR) hh
def IRJL (j : JobR) (x : NoteR) (h0 hb : H) (v4 : LV) (i k : Nat) (s : S) (hh : H) : Prop :=
  s 1 = .ptr h0.len 0 ∧ s 2 = .ptr (h0.len + 1) 0 ∧ s 4 = v4 ∧ s 5 = .int .i64 i ∧ s 7 = .int .i64 k ∧ k ≤ x.lines.length ∧ JBox j h0 hh ∧ ∃ o, s 6 = ints o ((x.lines.length : Int) :: x.lines.take k) ∧ AccN hb o ((x.lines.length : Int) :: x.lines.take k).length hh
def IRJP (j : JobR) (x : NoteR) (h0 hb : H) (v4 : LV) (i k : Nat) (s : S) (hh : H) : Prop :=
  s 1 = .ptr h0.len 0 ∧ s 2 = .ptr (h0.len + 1) 0 ∧ s 4 = v4 ∧ s 5 = .int .i64 i ∧ s 8 = .int .i64 k ∧ k ≤ x.pens.length ∧ JBox j h0 hh ∧ ∃ o, s 6 = ints o ((x.lines.length : Int) :: (x.lines ++ ((x.pens.length : Int) :: x.pens.take k))) ∧ AccN hb o ((x.lines.length : Int) :: (x.lines ++ ((x.pens.length : Int) :: x.pens.take k))).length hh
def IRJF (j : JobR) (h0 : H) (pre : List Int) (i : Nat) (s : S) (hh : H) : Prop :=
  s 1 = .ptr h0.len 0 ∧ s 2 = .ptr (h0.len + 1) 0 ∧ s 9 = .int .i64 i ∧ i ≤ j.floats.length ∧ JBox j h0 hh ∧ ∃ o, s 4 = byts o (pre ++ (j.floats.take i).flatMap floatB) ∧ Acc h0 o (pre ++ (j.floats.take i).flatMap floatB) hh
theorem cRJob16 (j : JobR) (h : H) (w : WF h) (ok : okJR j) :
    ∃ v h', runI Try.prog TA 39 [j.e] h = some (v, h') ∧ (∃ o2, v = if bareL j.items = true then .agg [byts o2 (jobBP j.plain), .bool true] else .agg [.nils, .bool false]) ∧ Keep h h' := by
  refine calls_of rfl res39 rfl ?_
  obtain ⟨hil, hi⟩ := ok.items
  obtain ⟨hnl, hn⟩ := ok.notes
  obtain ⟨hfl, hf⟩ := ok.floats
  have lo := w.1
  have lo1 : h.lob ≤ h.len + 1 := by omega
  have B0 : JBox j h ((h.alloc [.int .i64 j.g.c0, .int .i64 j.g.c1, .int .i64 j.g.c2, .int .i64 j.g.c3, .int .i64 j.g.c4, .int .i64 j.g.c5, .int .i64 j.g.c6, .int .i64 j.g.c7, .int .i64 j.g.c8, .int .i64 j.g.c9, .int .i64 j.g.c10, .int .i64 j.g.c11, .int .i64 j.g.c12, .int .i64 j.g.c13, .int .i64 j.g.c14, .int .i64 j.g.c15, .int .i64 j.g.c16, .int .i64 j.g.c17, .bool j.g.bal, mkS j.oi 7 (j.items.map ItemR.e), mkS j.on 2 (j.notes.map NoteR.e), mkS j.of 3 (j.floats.map FloatR.e)]).alloc [.nils, .bool false]) := ⟨by rw [get_alloc_lt (by rw [len_alloc]; omega), get_alloc_eq], by rw [show h.len + 1 = (h.alloc [.int .i64 j.g.c0, .int .i64 j.g.c1, .int .i64 j.g.c2, .int .i64 j.g.c3, .int .i64 j.g.c4, .int .i64 j.g.c5, .int .i64 j.g.c6, .int .i64 j.g.c7, .int .i64 j.g.c8, .int .i64 j.g.c9, .int .i64 j.g.c10, .int .i64 j.g.c11, .int .i64 j.g.c12, .int .i64 j.g.c13, .int .i64 j.g.c14, .int .i64 j.g.c15, .int .i64 j.g.c16, .int .i64 j.g.c17, .bool j.g.bal, mkS j.oi 7 (j.items.map ItemR.e), mkS j.on 2 (j.notes.map NoteR.e), mkS j.of 3 (j.floats.map FloatR.e)]).len by rw [len_alloc], get_alloc_eq], ((Keep.refl h).alloc _).alloc _⟩
  simp (maxSteps := 10000000) (maxDischargeDepth := 30) only [q39, r39, JobR.e, JobR.cells, go_sem, Nat.reduceEqDiff, ↓reduceIte, Nat.reduceAdd, Nat.reduceMul, Nat.reduceLeDiff, Nat.reduceLT, reduceCtorEq, Int.reduceToNat, Int.reduceLE, Int.reduceLT, Int.reduceEq, Int.reduceNeg, Int.reduceNe, Nat.reduceSub, IntKind.bits]
  refine ro_vcall (cRItems16 j.oi j.items _ (w.keep B0.keep) hi (by omega)) (fun v h2 J => ?_)
  obtain ⟨⟨o2, rfl⟩, k2⟩ := J
  have B2 := B0.next k2
  have w2 := w.keep B2.keep
  have lo2 := w2.1
  have lb2 : h2.lob ≤ h.len + 1 := by rw [B2.keep.lob]; exact lo1
  have l2 := lt_of_get B2.res
  have g2r := B2.res
  cases hb : bareL j.items
  · simp (maxSteps := 10000000) (maxDischargeDepth := 30) only [lo2, go_sem, Nat.reduceEqDiff, ↓reduceIte, Nat.reduceAdd, Nat.reduceMul, Nat.reduceLeDiff, Nat.reduceLT, reduceCtorEq, Int.reduceToNat, Int.reduceLE, Int.reduceLT, Int.reduceEq, Int.reduceNeg, Int.reduceNe, Nat.reduceSub, IntKind.bits]
    generalize hgg : (h2.alloc _).put _ _ = g
    have kg : Keep h2 g := by rw [← hgg]; exact ((Keep.refl h2).alloc _).put (Nat.le_refl _) _
    have g3 : g.get h2.len = some ⟨false, [.nils, .bool false]⟩ := by rw [← hgg]; simp (maxSteps := 10000000) (maxDischargeDepth := 30) only [go_sem, Nat.reduceEqDiff, ↓reduceIte, Nat.reduceAdd, Nat.reduceMul, Nat.reduceLeDiff, Nat.reduceLT, reduceCtorEq, Int.reduceToNat, Int.reduceLE, Int.reduceLT, Int.reduceEq, Int.reduceNeg, Int.reduceNe, Nat.reduceSub, IntKind.bits]
    clear hgg
    have Bg := B2.next kg
    have gr := Bg.res
    have lr := lt_of_get gr
    have lbg : g.lob ≤ h.len + 1 := by rw [Bg.keep.lob]; exact lo1
    simp (maxSteps := 10000000) (maxDischargeDepth := 30) only [g3, gr, lr, lbg, go_sem, Nat.reduceEqDiff, ↓reduceIte, Nat.reduceAdd, Nat.reduceMul, Nat.reduceLeDiff, Nat.reduceLT, reduceCtorEq, Int.reduceToNat, Int.reduceLE, Int.reduceLT, Int.reduceEq, Int.reduceNeg, Int.reduceNe, Nat.reduceSub, IntKind.bits]
    exact ⟨⟨none, trivial⟩, Bg.keep.put (by omega) _⟩
  have hml : (many itemB j.items).length ≤ 100010 := by
    have := many_len (f := itemB) (l := j.items) (k := 50) ⟨by omega, by omega⟩ (fun x hx => itemB_len (hi x hx))
    omega
  have hn64 : I64 j.notes.length := ⟨by omega, by omega⟩
  have hf64 : I64 j.floats.length := ⟨by omega, by omega⟩
  have hcn := chn_len hn64
  have hcf := chn_len hf64
  have lg := geomB_len ok.g
  have lm : magicJ.length = 4 := rfl
  simp (maxSteps := 10000000) (maxDischargeDepth := 30) only [lo2, go_sem, Nat.reduceEqDiff, ↓reduceIte, Nat.reduceAdd, Nat.reduceMul, Nat.reduceLeDiff, Nat.reduceLT, reduceCtorEq, Int.reduceToNat, Int.reduceLE, Int.reduceLT, Int.reduceEq, Int.reduceNeg, Int.reduceNe, Nat.reduceSub, IntKind.bits]
  generalize hgg : (h2.alloc _).put _ _ = g
  have kg : Keep h2 g := by rw [← hgg]; exact ((Keep.refl h2).alloc _).put (Nat.le_refl _) _
  have g3 : g.get h2.len = some ⟨false, [byts o2 (many itemB j.items), .bool true]⟩ := by rw [← hgg]; simp (maxSteps := 10000000) (maxDischargeDepth := 30) only [go_sem, Nat.reduceEqDiff, ↓reduceIte, Nat.reduceAdd, Nat.reduceMul, Nat.reduceLeDiff, Nat.reduceLT, reduceCtorEq, Int.reduceToNat, Int.reduceLE, Int.reduceLT, Int.reduceEq, Int.reduceNeg, Int.reduceNe, Nat.reduceSub, IntKind.bits]
  have hgr : g.rlen = h2.rlen := by rw [← hgg]; simp (maxSteps := 10000000) (maxDischargeDepth := 30) only [go_sem, Nat.reduceEqDiff, ↓reduceIte, Nat.reduceAdd, Nat.reduceMul, Nat.reduceLeDiff, Nat.reduceLT, reduceCtorEq, Int.reduceToNat, Int.reduceLE, Int.reduceLT, Int.reduceEq, Int.reduceNeg, Int.reduceNe, Nat.reduceSub, IntKind.bits]
  clear hgg
  have Bg := B2.next kg
  have wg := w2.keep kg
  have hlr := w2.2.1
  have h1r := w2.2.2
  have hrg : (g.nrow 4).rget h2.rlen = some 4 := by rw [← hgr, rget_nrow_eq]
  have gj := Bg.job
  simp (maxSteps := 10000000) (maxDischargeDepth := 30) only [g3, gj, hlr, h1r, hrg, go_sem, Nat.reduceEqDiff, ↓reduceIte, Nat.reduceAdd, Nat.reduceMul, Nat.reduceLeDiff, Nat.reduceLT, reduceCtorEq, Int.reduceToNat, Int.reduceLE, Int.reduceLT, Int.reduceEq, Int.reduceNeg, Int.reduceNe, Nat.reduceSub, IntKind.bits]
  have kn : Keep g (g.nrow 4) := (Keep.refl g).nrow 4
  have A0 : Acc h (some (h2.rlen, 4)) magicJ (g.nrow 4) := by rw [← hgr]; exact of_acc (AccN.fresh Bg.keep wg 4)
  refine ro_vcall (cRGeom16 j.g (g.nrow 4) (wg.keep kn) ok.g) (fun v h4 J => ?_)
  obtain ⟨⟨o4, rfl⟩, k4⟩ := J
  have B4 := (Bg.next kn).next k4
  obtain ⟨o5, h5, ap5, A5, gg5, -⟩ := (A0.next k4).app (geomB j.g) (by omega)
  have B5 := B4.same gg5 A5.keep
  have g35 : h5.get h2.len = some ⟨false, [byts o2 (many itemB j.items), .bool true]⟩ := (gg5 _).trans ((k4.get (by rw [len_nrow]; exact lt_of_get g3)).trans ((get_nrow _ _ _).trans g3))
  obtain ⟨o6, h6, ap6, A6, gg6, -⟩ := A5.app (many itemB j.items) (by rw [List.length_append]; omega)
  have B6 := B5.same gg6 A6.keep
  have ap5' : appS 1 1 (mkS (some (h2.rlen, 4)) 1 [.int .u8 84, .int .u8 89, .int .u8 77, .int .u8 49]) h4 (some ((geomB j.g).map (LV.int .u8))) = some (byts o5 (magicJ ++ geomB j.g), h5) := ap5
  have gj6 := B6.job
  have hpre : (magicJ ++ geomB j.g ++ many itemB j.items).length ≤ 200000 := by simp only [List.length_append]; omega
  simp (maxSteps := 10000000) (maxDischargeDepth := 30) only [ap5', g35, ap6, gj6, go_sem, Nat.reduceEqDiff, ↓reduceIte, Nat.reduceAdd, Nat.reduceMul, Nat.reduceLeDiff, Nat.reduceLT, reduceCtorEq, Int.reduceToNat, Int.reduceLE, Int.reduceLT, Int.reduceEq, Int.reduceNeg, Int.reduceNe, Nat.reduceSub, IntKind.bits]
  have kn6 : Keep h6 (h6.nrow 1) := (Keep.refl h6).nrow 1
  refine ro_vcall (cRInts16 _ [(j.notes.length : Int)] (h6.nrow 1) (A6.wf.keep kn6) (by simpa using hn64) (by simp)) (fun v h7 J => ?_)
  obtain ⟨o7, rfl, A7⟩ := J
  have k67 := kn6.trans A7.keep
  have B7 := B6.next k67
  rw [show chns [(j.notes.length : Int)] = chn j.notes.length by simp [chns]] at A7 ⊢
  obtain ⟨o8, h8, ap8, A8, gg8, -⟩ := (A6.next k67).app (chn j.notes.length) (by omega)
  have B8 := B7.same gg8 A8.keep
  simp (maxSteps := 10000000) (maxDischargeDepth := 30) only [ap8, go_sem, Nat.reduceEqDiff, ↓reduceIte, Nat.reduceAdd, Nat.reduceMul, Nat.reduceLeDiff, Nat.reduceLT, reduceCtorEq, Int.reduceToNat, Int.reduceLE, Int.reduceLT, Int.reduceEq, Int.reduceNeg, Int.reduceNe, Nat.reduceSub, IntKind.bits]
  refine ru_loop (fun i => j.notes.length - i) (IRJN j h (magicJ ++ geomB j.g ++ many itemB j.items ++ chn j.notes.length)) 0 ?_ ?_
  · unfold IRJN
    simp (maxSteps := 10000000) (maxDischargeDepth := 30) only [Int.natCast_zero, go_sem, Nat.reduceEqDiff, ↓reduceIte, Nat.reduceAdd, Nat.reduceMul, Nat.reduceLeDiff, Nat.reduceLT, reduceCtorEq, Int.reduceToNat, Int.reduceLE, Int.reduceLT, Int.reduceEq, Int.reduceNeg, Int.reduceNe, Nat.reduceSub, IntKind.bits]
    exact ⟨B8, o8, by simp only [List.take_zero, List.flatMap_nil, List.append_nil], by simpa using A8⟩
  · rintro i s hh ⟨e1, e2, e5, hil, B, o, e4, A⟩
    have gjh := B.job
    have hnt := notes_len hnl hn i
    have hprn : (magicJ ++ geomB j.g ++ many itemB j.items ++ chn j.notes.length ++ (j.notes.take i).flatMap noteBR).length ≤ 200000000 := by rw [List.length_append, List.length_append]; omega
    by_cases c1 : (i : Int) < j.notes.length
    · refine ru_step ?_
      obtain ⟨x, hx⟩ : ∃ x, j.notes[i]? = some x := ⟨j.notes[i], List.getElem?_eq_getElem (by omega)⟩
      have ia : iaS (j.notes.map NoteR.e) (i : Int) = some (.cptr x.e) := iaS_map (Int.natCast_nonneg i) (by simpa using hx)
      obtain ⟨x1, x2, x3, x4⟩ := hn x (List.mem_of_getElem? hx)
      have ew : IntKind.i64.wrap ((i : Int) + 1) = ((i + 1 : Nat) : Int) := by rw [wrap64 (by omega) (by omega)]; omega
      simp (maxSteps := 10000000) (maxDischargeDepth := 30) only [e1, e2, e4, e5, c1, gjh, ia, NoteR.e, List.length_map, go_sem, Nat.reduceEqDiff, ↓reduceIte, Nat.reduceAdd, Nat.reduceMul, Nat.reduceLeDiff, Nat.reduceLT, reduceCtorEq, Int.reduceToNat, Int.reduceLE, Int.reduceLT, Int.reduceEq, Int.reduceNeg, Int.reduceNe, Nat.reduceSub, IntKind.bits]
      generalize hv4 : byts o (magicJ ++ geomB j.g ++ many itemB j.items ++ chn j.notes.length ++ (j.notes.take i).flatMap noteBR) = v4 at *
      have C0 : AccN hh (some (hh.rlen, 1)) 1 (hh.nrow 1) := AccN.fresh (.refl hh) A.wf 1
      have Bn := B.next ((Keep.refl hh).nrow 1)
      refine ru_loop (fun k => x.lines.length - k) (IRJL j x h hh v4 i) 0 ?_ ?_
      · unfold IRJL
        simp (maxSteps := 10000000) (maxDischargeDepth := 30) only [Int.natCast_zero, e1, e2, e4, e5, go_sem, Nat.reduceEqDiff, ↓reduceIte, Nat.reduceAdd, Nat.reduceMul, Nat.reduceLeDiff, Nat.reduceLT, reduceCtorEq, Int.reduceToNat, Int.reduceLE, Int.reduceLT, Int.reduceEq, Int.reduceNeg, Int.reduceNe, Nat.reduceSub, IntKind.bits]
        exact ⟨Bn, some (hh.rlen, 1), rfl, by simpa using C0⟩
      · clear e1 e2 e4 e5
        rintro k s hk ⟨e1, e2, e4, e5, e7, hkl, Bk, ok, e6, C⟩
        have gjk := Bk.job
        by_cases c2 : (k : Int) < x.lines.length
        · refine ru_step ?_
          obtain ⟨y, hy⟩ : ∃ y, x.lines[k]? = some y := ⟨x.lines[k], List.getElem?_eq_getElem (by omega)⟩
          have iy := int_at hy
          have ew2 : IntKind.i64.wrap ((k : Int) + 1) = ((k + 1 : Nat) : Int) := by rw [wrap64 (by omega) (by omega)]; omega
          obtain ⟨oz, hz, apz, Cz, ggz, -⟩ := (C.next ((Keep.refl hk).nrow 1)).appI (by_ := 8) [y] (by simp only [List.length_cons, List.length_take, List.length_nil]; omega)
          rw [List.cons_append, ← take_succ hy] at apz Cz
          have apz' : appS 1 8 (ints ok ((x.lines.length : Int) :: x.lines.take k)) (hk.nrow 1) (some [.int .i64 y]) = some (ints oz ((x.lines.length : Int) :: x.lines.take (k + 1)), hz) := apz
          simp (maxSteps := 10000000) (maxDischargeDepth := 30) only [e1, e2, e4, e5, e6, e7, gjk, ia, NoteR.e, List.length_map, c2, iy, apz', ew2, go_sem, Nat.reduceEqDiff, ↓reduceIte, Nat.reduceAdd, Nat.reduceMul, Nat.reduceLeDiff, Nat.reduceLT, reduceCtorEq, Int.reduceToNat, Int.reduceLE, Int.reduceLT, Int.reduceEq, Int.reduceNeg, Int.reduceNe, Nat.reduceSub, IntKind.bits]
          refine ⟨k + 1, by omega, ?_⟩
          unfold IRJL
          simp (maxSteps := 10000000) (maxDischargeDepth := 30) only [e1, e2, e4, e5, go_sem, Nat.reduceEqDiff, ↓reduceIte, Nat.reduceAdd, Nat.reduceMul, Nat.reduceLeDiff, Nat.reduceLT, reduceCtorEq, Int.reduceToNat, Int.reduceLE, Int.reduceLT, Int.reduceEq, Int.reduceNeg, Int.reduceNe, Nat.reduceSub, IntKind.bits]
          exact ⟨by omega, (Bk.next ((Keep.refl hk).nrow 1)).same ggz (B.keep.trans Cz.keep), oz, rfl, Cz⟩
        · obtain rfl : k = x.lines.length := by omega
          rw [List.take_length] at e6 C
          obtain ⟨oz, hz, apz, Cz, ggz, -⟩ := (C.next ((Keep.refl hk).nrow 1)).appI (by_ := 8) [(x.pens.length : Int)] (by simp only [List.length_cons, List.length_nil]; omega)
          have apz' : appS 1 8 (ints ok ((x.lines.length : Int) :: x.lines)) (hk.nrow 1) (some [.int .i64 (x.pens.length : Int)]) = some (ints oz ((x.lines.length : Int) :: (x.lines ++ [(x.pens.length : Int)])), hz) := apz
          have Bz := (Bk.next ((Keep.refl hk).nrow 1)).same ggz (B.keep.trans Cz.keep)
          simp (maxSteps := 10000000) (maxDischargeDepth := 30) only [e1, e2, e4, e5, e6, e7, gjk, ia, NoteR.e, List.length_map, c2, apz', go_sem, Nat.reduceEqDiff, ↓reduceIte, Nat.reduceAdd, Nat.reduceMul, Nat.reduceLeDiff, Nat.reduceLT, reduceCtorEq, Int.reduceToNat, Int.reduceLE, Int.reduceLT, Int.reduceEq, Int.reduceNeg, Int.reduceNe, Nat.reduceSub, IntKind.bits]
          refine ru_loop (fun k => x.pens.length - k) (IRJP j x h hh v4 i) 0 ?_ ?_
          · unfold IRJP
            simp (maxSteps := 10000000) (maxDischargeDepth := 30) only [Int.natCast_zero, e1, e2, e4, e5, go_sem, Nat.reduceEqDiff, ↓reduceIte, Nat.reduceAdd, Nat.reduceMul, Nat.reduceLeDiff, Nat.reduceLT, reduceCtorEq, Int.reduceToNat, Int.reduceLE, Int.reduceLT, Int.reduceEq, Int.reduceNeg, Int.reduceNe, Nat.reduceSub, IntKind.bits]
            exact ⟨Bz, oz, by simp, by simpa using Cz⟩
          · clear e1 e2 e4 e5 e6 e7 Bk C Cz Bz apz apz' ggz gjk
            rintro k s hk ⟨e1, e2, e4, e5, e8, hkp, Bk, ok, e6, C⟩
            have gjk := Bk.job
            by_cases c3 : (k : Int) < x.pens.length
            · refine ru_step ?_
              obtain ⟨y, hy⟩ : ∃ y, x.pens[k]? = some y := ⟨x.pens[k], List.getElem?_eq_getElem (by omega)⟩
              have iy := int_at hy
              have ew2 : IntKind.i64.wrap ((k : Int) + 1) = ((k + 1 : Nat) : Int) := by rw [wrap64 (by omega) (by omega)]; omega
              obtain ⟨oz, hz, apz, Cz, ggz, -⟩ := (C.next ((Keep.refl hk).nrow 1)).appI (by_ := 8) [y] (by simp only [List.length_cons, List.length_append, List.length_take, List.length_nil]; omega)
              have el : (x.lines.length : Int) :: (x.lines ++ ((x.pens.length : Int) :: x.pens.take k)) ++ [y] = (x.lines.length : Int) :: (x.lines ++ ((x.pens.length : Int) :: x.pens.take (k + 1))) := by rw [take_succ hy]; simp
              rw [el] at apz Cz
              have apz' : appS 1 8 (ints ok ((x.lines.length : Int) :: (x.lines ++ ((x.pens.length : Int) :: x.pens.take k)))) (hk.nrow 1) (some [.int .i64 y]) = some (ints oz ((x.lines.length : Int) :: (x.lines ++ ((x.pens.length : Int) :: x.pens.take (k + 1)))), hz) := apz
              simp (maxSteps := 10000000) (maxDischargeDepth := 30) only [e1, e2, e4, e5, e6, e8, gjk, ia, NoteR.e, List.length_map, c3, iy, apz', ew2, go_sem, Nat.reduceEqDiff, ↓reduceIte, Nat.reduceAdd, Nat.reduceMul, Nat.reduceLeDiff, Nat.reduceLT, reduceCtorEq, Int.reduceToNat, Int.reduceLE, Int.reduceLT, Int.reduceEq, Int.reduceNeg, Int.reduceNe, Nat.reduceSub, IntKind.bits]
              refine ⟨k + 1, by omega, ?_⟩
              unfold IRJP
              simp (maxSteps := 10000000) (maxDischargeDepth := 30) only [e1, e2, e4, e5, go_sem, Nat.reduceEqDiff, ↓reduceIte, Nat.reduceAdd, Nat.reduceMul, Nat.reduceLeDiff, Nat.reduceLT, reduceCtorEq, Int.reduceToNat, Int.reduceLE, Int.reduceLT, Int.reduceEq, Int.reduceNeg, Int.reduceNe, Nat.reduceSub, IntKind.bits]
              exact ⟨by omega, (Bk.next ((Keep.refl hk).nrow 1)).same ggz (B.keep.trans Cz.keep), oz, rfl, Cz⟩
            · obtain rfl : k = x.pens.length := by omega
              rw [List.take_length] at e6 C
              simp (maxSteps := 10000000) (maxDischargeDepth := 30) only [e1, e2, e4, e5, e6, e8, gjk, ia, NoteR.e, List.length_map, c3, go_sem, Nat.reduceEqDiff, ↓reduceIte, Nat.reduceAdd, Nat.reduceMul, Nat.reduceLeDiff, Nat.reduceLT, reduceCtorEq, Int.reduceToNat, Int.reduceLE, Int.reduceLT, Int.reduceEq, Int.reduceNeg, Int.reduceNe, Nat.reduceSub, IntKind.bits]
              refine ro_vcall (cRInts16 ok ((x.lines.length : Int) :: (x.lines ++ ((x.pens.length : Int) :: x.pens))) hk C.wf (by
                intro n hq
                simp only [List.mem_cons, List.mem_append] at hq
                rcases hq with rfl | hq | rfl | hq
                · exact ⟨by omega, by omega⟩
                · exact x3 n hq
                · exact ⟨by omega, by omega⟩
                · exact x4 n hq) (by simp only [List.length_append, List.length_cons]; omega)) (fun v h9 J => ?_)
              obtain ⟨o9, rfl, A9⟩ := J
              rw [note_chns] at A9 ⊢
              have kk := C.keep.trans A9.keep
              have hnb : (noteBR x).length ≤ 40020 := by
                have := noteBP_len (x := x.plain) (m := 2000) x1 x2 (by decide) x3 x4
                exact this
              obtain ⟨oa, ha, apa, Aa, gga, -⟩ := (A.next kk).app (noteBR x) (by omega)
              subst hv4
              simp (maxSteps := 10000000) (maxDischargeDepth := 30) only [e1, e2, e4, e5, apa, ew, go_sem, Nat.reduceEqDiff, ↓reduceIte, Nat.reduceAdd, Nat.reduceMul, Nat.reduceLeDiff, Nat.reduceLT, reduceCtorEq, Int.reduceToNat, Int.reduceLE, Int.reduceLT, Int.reduceEq, Int.reduceNeg, Int.reduceNe, Nat.reduceSub, IntKind.bits]
              refine ⟨i + 1, by omega, ?_⟩
              unfold IRJN
              simp (maxSteps := 10000000) (maxDischargeDepth := 30) only [e1, e2, go_sem, Nat.reduceEqDiff, ↓reduceIte, Nat.reduceAdd, Nat.reduceMul, Nat.reduceLeDiff, Nat.reduceLT, reduceCtorEq, Int.reduceToNat, Int.reduceLE, Int.reduceLT, Int.reduceEq, Int.reduceNeg, Int.reduceNe, Nat.reduceSub, IntKind.bits]
              rw [List.append_assoc, ← flat_take noteBR hx] at Aa ⊢
              exact ⟨by omega, (B.next kk).same gga Aa.keep, oa, rfl, Aa⟩
    · obtain rfl : i = j.notes.length := by omega
      rw [List.take_length] at e4 A hprn
      simp (maxSteps := 10000000) (maxDischargeDepth := 30) only [e1, e2, e4, e5, c1, gjh, List.length_map, go_sem, Nat.reduceEqDiff, ↓reduceIte, Nat.reduceAdd, Nat.reduceMul, Nat.reduceLeDiff, Nat.reduceLT, reduceCtorEq, Int.reduceToNat, Int.reduceLE, Int.reduceLT, Int.reduceEq, Int.reduceNeg, Int.reduceNe, Nat.reduceSub, IntKind.bits]
      have knh : Keep hh (hh.nrow 1) := (Keep.refl hh).nrow 1
      refine ro_vcall (cRInts16 _ [(j.floats.length : Int)] (hh.nrow 1) (A.wf.keep knh) (by simpa using hf64) (by simp)) (fun v h9 J => ?_)
      obtain ⟨o9, rfl, A9⟩ := J
      have k9 := knh.trans A9.keep
      rw [show chns [(j.floats.length : Int)] = chn j.floats.length by simp [chns]] at A9 ⊢
      obtain ⟨oa, ha, apa, Aa, gga, -⟩ := (A.next k9).app (chn j.floats.length) (by omega)
      have Ba := (B.next k9).same gga Aa.keep
      simp (maxSteps := 10000000) (maxDischargeDepth := 30) only [apa, go_sem, Nat.reduceEqDiff, ↓reduceIte, Nat.reduceAdd, Nat.reduceMul, Nat.reduceLeDiff, Nat.reduceLT, reduceCtorEq, Int.reduceToNat, Int.reduceLE, Int.reduceLT, Int.reduceEq, Int.reduceNeg, Int.reduceNe, Nat.reduceSub, IntKind.bits]
      have hpf : (magicJ ++ geomB j.g ++ many itemB j.items ++ chn j.notes.length ++ j.notes.flatMap noteBR ++ chn j.floats.length).length ≤ 200000010 := by rw [List.length_append]; omega
      refine ru_loop (fun i => j.floats.length - i) (IRJF j h (magicJ ++ geomB j.g ++ many itemB j.items ++ chn j.notes.length ++ j.notes.flatMap noteBR ++ chn j.floats.length)) 0 ?_ ?_
      · unfold IRJF
        simp (maxSteps := 10000000) (maxDischargeDepth := 30) only [Int.natCast_zero, e1, e2, go_sem, Nat.reduceEqDiff, ↓reduceIte, Nat.reduceAdd, Nat.reduceMul, Nat.reduceLeDiff, Nat.reduceLT, reduceCtorEq, Int.reduceToNat, Int.reduceLE, Int.reduceLT, Int.reduceEq, Int.reduceNeg, Int.reduceNe, Nat.reduceSub, IntKind.bits]
        exact ⟨Ba, oa, by simp only [List.take_zero, List.flatMap_nil, List.append_nil], by simpa using Aa⟩
      · clear e1 e2 e4 e5 A B gjh Aa Ba apa gga
        rintro i s hh ⟨e1, e2, e9, hil, B, o, e4, A⟩
        have gjh := B.job
        have hft := floats_len hfl hf i
        by_cases c2 : (i : Int) < j.floats.length
        rotate_left
        · obtain rfl : i = j.floats.length := by omega
          rw [List.take_length] at e4 A
          have grh := B.res
          have lrh := lt_of_get grh
          have lbh : hh.lob ≤ h.len + 1 := by rw [B.keep.lob]; exact lo1
          simp (maxSteps := 10000000) (maxDischargeDepth := 30) only [e1, e2, e4, e9, c2, gjh, List.length_map, grh, lrh, lbh, go_sem, Nat.reduceEqDiff, ↓reduceIte, Nat.reduceAdd, Nat.reduceMul, Nat.reduceLeDiff, Nat.reduceLT, reduceCtorEq, Int.reduceToNat, Int.reduceLE, Int.reduceLT, Int.reduceEq, Int.reduceNeg, Int.reduceNe, Nat.reduceSub, IntKind.bits]
          have e : magicJ ++ geomB j.g ++ many itemB j.items ++ chn j.notes.length ++ j.notes.flatMap noteBR ++ chn j.floats.length ++ j.floats.flatMap floatB = jobBP j.plain := by
            unfold jobBP JobR.plain
            simp only
            rw [many_map]
            unfold many
            simp only [List.append_assoc]
          rw [e]
          exact ⟨⟨o, rfl⟩, B.keep.put (by omega) _⟩
        refine ru_step ?_
        obtain ⟨x, hx⟩ : ∃ x, j.floats[i]? = some x := ⟨j.floats[i], List.getElem?_eq_getElem (by omega)⟩
        have ia : iaS (j.floats.map FloatR.e) (i : Int) = some (.cptr x.e) := iaS_map (Int.natCast_nonneg i) (by simpa using hx)
        have hxf := hf x (List.mem_of_getElem? hx)
        have ew : IntKind.i64.wrap ((i : Int) + 1) = ((i + 1 : Nat) : Int) := by rw [wrap64 (by omega) (by omega)]; omega
        have hfb := floatB_len hxf
        simp (maxSteps := 10000000) (maxDischargeDepth := 30) only [e1, e2, e4, e9, c2, gjh, List.length_map, ia, FloatR.e, go_sem, Nat.reduceEqDiff, ↓reduceIte, Nat.reduceAdd, Nat.reduceMul, Nat.reduceLeDiff, Nat.reduceLT, reduceCtorEq, Int.reduceToNat, Int.reduceLE, Int.reduceLT, Int.reduceEq, Int.reduceNeg, Int.reduceNe, Nat.reduceSub, IntKind.bits]
        have kn3 : Keep hh (hh.nrow 3) := (Keep.refl hh).nrow 3
        first
        | refine rw_vcall (cRInts16 _ x.nums (hh.nrow 3) (A.wf.keep kn3) hxf (show 3 ≤ 1000000 by decide)) (fun v h9 J => ?_)
        | refine rw_vcallW (cRInts16 _ x.nums (hh.nrow 3) (A.wf.keep kn3) hxf (show 3 ≤ 1000000 by decide)) (fun v g9 J => by
            obtain ⟨o9, rfl, A9⟩ := J
            have := A9.keep.get (show h.len < (hh.nrow 3).len from lt_of_get gjh)
            simp (maxSteps := 10000000) (maxDischargeDepth := 30) only [this, gjh, go_sem, Nat.reduceEqDiff, ↓reduceIte, Nat.reduceAdd, Nat.reduceMul, Nat.reduceLeDiff, Nat.reduceLT, reduceCtorEq, Int.reduceToNat, Int.reduceLE, Int.reduceLT, Int.reduceEq, Int.reduceNeg, Int.reduceNe, Nat.reduceSub, IntKind.bits]) (fun v h9 J => ?_)
        obtain ⟨o9, rfl, A9⟩ := J
        have k9 := kn3.trans A9.keep
        obtain ⟨oz, hz, apz, Az, ggz, -⟩ := (A.next k9).app (floatB x) (by rw [List.length_append]; omega)
        have el : magicJ ++ geomB j.g ++ many itemB j.items ++ chn j.notes.length ++ j.notes.flatMap noteBR ++ chn j.floats.length ++ (j.floats.take i).flatMap floatB ++ floatB x = magicJ ++ geomB j.g ++ many itemB j.items ++ chn j.notes.length ++ j.notes.flatMap noteBR ++ chn j.floats.length ++ (j.floats.take (i + 1)).flatMap floatB := by rw [List.append_assoc, ← flat_take floatB hx]
        rw [el] at apz Az
        simp (maxSteps := 10000000) (maxDischargeDepth := 30) only [e1, e2, e4, e9, show chns x.nums = floatB x from rfl, apz, ew, go_sem, Nat.reduceEqDiff, ↓reduceIte, Nat.reduceAdd, Nat.reduceMul, Nat.reduceLeDiff, Nat.reduceLT, reduceCtorEq, Int.reduceToNat, Int.reduceLE, Int.reduceLT, Int.reduceEq, Int.reduceNeg, Int.reduceNe, Nat.reduceSub, IntKind.bits]
        refine ⟨i + 1, by omega, ?_⟩
        unfold IRJF
        simp (maxSteps := 10000000) (maxDischargeDepth := 30) only [e1, e2, go_sem, Nat.reduceEqDiff, ↓reduceIte, Nat.reduceAdd, Nat.reduceMul, Nat.reduceLeDiff, Nat.reduceLT, reduceCtorEq, Int.reduceToNat, Int.reduceLE, Int.reduceLT, Int.reduceEq, Int.reduceNeg, Int.reduceNe, Nat.reduceSub, IntKind.bits]
        exact ⟨by omega, (B.next k9).same ggz Az.keep, oz, rfl, Az⟩
end Go.LM
