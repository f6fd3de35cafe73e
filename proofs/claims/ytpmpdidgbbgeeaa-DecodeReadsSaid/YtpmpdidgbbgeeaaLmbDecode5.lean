import Derived.Test.YtpmpdidgbbgeeaaLmTrbR3
import Derived.Test.YtpmpdidgbbgeeaaLmbDecode4
namespace Go.LM
open Go.Proofs
set_option maxRecDepth 8000
set_option maxHeartbeats 8000000
set_option linter.unusedSimpArgs false
abbrev jZ : List LV := [.int .i64 0, .int .i64 0, .int .i64 0, .int .i64 0, .int .i64 0, .int .i64 0, .int .i64 0, .int .i64 0, .int .i64 0, .int .i64 0, .int .i64 0, .int .i64 0, .int .i64 0, .int .i64 0, .int .i64 0, .int .i64 0, .int .i64 0, .int .i64 0, .bool false, .nils, .nils, .nils]
/-- What has been read of the job. -/
def DC (b : List Int) : Nat → List LV → Prop
  | 0, C => C = jZ
  | 1, C => C = jZ
  | 2, C => C = (jS2 b).1.cells ++ [.nils, .nils, .nils]
  | 3, C => ∃ (o : Option (Nat × Nat)) (zs : List ItemR), zs.map id = (jS3 b).1 ∧ C = (jS2 b).1.cells ++ [mkS o 7 (zs.map ItemR.e), .nils, .nils]
  | 4, C => ∃ (o o2 : Option (Nat × Nat)) (zs : List ItemR) (ns : List NoteR), zs.map id = (jS3 b).1 ∧ ns.map NoteR.plain = (jS4 b).1 ∧ C = (jS2 b).1.cells ++ [mkS o 7 (zs.map ItemR.e), mkS o2 2 (ns.map NoteR.e), .nils]
  | _, C => ∃ x : JobR, x.plain = jobOf b ∧ C = x.cells
def okRead (h : H) (b : List Int) (v : LV) (h' : H) : Prop :=
  ∃ p d, v = .tup [.ptr d 0, .str (partS (partN b))] ∧ Rdr h p (jS5 b).2 h' ∧ ∃ C, h'.get d = some ⟨false, .ptr p 0 :: C⟩ ∧ (partN b = 5 → ∃ x : JobR, x.plain = jobOf b ∧ C = x.cells)
def IDeRead (h : H) (b : List Int) (p d n i : Nat) (s : S) (hh : H) : Prop :=
  s 4 = .ptr d 0 ∧ s 11 = mkS (some (n, 5)) 2 dParts ∧ s 12 = .int .i64 5 ∧ s 13 = .int .i64 (i : Int) ∧ i ≤ 5 ∧ (∀ k, k ≤ i → (jSt b k).stop = false) ∧ Rdr h p (jSt b i) hh ∧ ∃ C, DC b i C ∧ hh.get d = some ⟨false, .ptr p 0 :: C⟩
theorem dcJob {b : List Int} {o o2 o3 : Option (Nat × Nat)} {zs : List ItemR} {ns : List NoteR} {fs : List FloatR} (h1 : zs.map id = (jS3 b).1) (h2 : ns.map NoteR.plain = (jS4 b).1) (h3 : fs.map id = (jS5 b).1) :
    ∃ x : JobR, x.plain = jobOf b ∧ (jS2 b).1.cells ++ [mkS o 7 (zs.map ItemR.e), mkS o2 2 (ns.map NoteR.e), mkS o3 3 (fs.map FloatR.e)] = x.cells := by
  refine ⟨⟨(jS2 b).1, o, zs, o2, ns, o3, fs⟩, ?_, rfl⟩
  unfold JobR.plain jobOf
  rw [List.map_id] at h1 h3
  simp only [h1, h2, h3]

theorem sDeRead0 (h : H) (b : List Int) (hb : ∀ c ∈ b, 0 ≤ c ∧ c < 256) (hl : b.length ≤ 1000000000000) (p d : Nat) (hh : H) (dp : d ≠ p) (h0d : h.len ≤ d) (lo : h.lob ≤ h.len) (R : Rdr h p (jSt b 0) hh) (C : List LV) (hC : DC b 0 C) (gd : hh.get d = some ⟨false, .ptr p 0 :: C⟩) :
    ∃ h', runI Try.prog TA 131 [.ptr d 0] hh = some (.tup [], h') ∧ Rdr h p (jSt b 1) h' ∧ (∃ C', DC b 1 C' ∧ h'.get d = some ⟨false, .ptr p 0 :: C'⟩) ∧ Ot2 p d hh h' := by
  have J := jok hb
  have lod : hh.lob ≤ d := by rw [R.keep.lob]; omega
  subst hC
  obtain ⟨h', e, R', O⟩ := cDeMagic h p d _ _ hh R gd (rs0_ok hb) hl
  exact ⟨h', e, R', ⟨_, rfl, (O.get (lt_of_get gd) dp).trans gd⟩, O.two d⟩

theorem sDeRead1 (h : H) (b : List Int) (hb : ∀ c ∈ b, 0 ≤ c ∧ c < 256) (hl : b.length ≤ 1000000000000) (p d : Nat) (hh : H) (dp : d ≠ p) (h0d : h.len ≤ d) (lo : h.lob ≤ h.len) (R : Rdr h p (jSt b 1) hh) (C : List LV) (hC : DC b 1 C) (gd : hh.get d = some ⟨false, .ptr p 0 :: C⟩) :
    ∃ h', runI Try.prog TA 132 [.ptr d 0] hh = some (.tup [], h') ∧ Rdr h p (jSt b 2) h' ∧ (∃ C', DC b 2 C' ∧ h'.get d = some ⟨false, .ptr p 0 :: C'⟩) ∧ Ot2 p d hh h' := by
  have J := jok hb
  have lod : hh.lob ≤ d := by rw [R.keep.lob]; omega
  subst hC
  obtain ⟨h', e, R', g', O⟩ := cDeGeometry h p d _ hh R gd dp h0d lod J.o1 (by have := J.b1; show (jS1 b).b.length ≤ _; rw [this]; exact hl)
  exact ⟨h', e, R', ⟨_, rfl, g'⟩, O⟩

theorem sDeRead2 (h : H) (b : List Int) (hb : ∀ c ∈ b, 0 ≤ c ∧ c < 256) (hl : b.length ≤ 1000000000000) (p d : Nat) (hh : H) (dp : d ≠ p) (h0d : h.len ≤ d) (lo : h.lob ≤ h.len) (R : Rdr h p (jSt b 2) hh) (C : List LV) (hC : DC b 2 C) (gd : hh.get d = some ⟨false, .ptr p 0 :: C⟩) :
    ∃ h', runI Try.prog TA 133 [.ptr d 0] hh = some (.tup [], h') ∧ Rdr h p (jSt b 3) h' ∧ (∃ C', DC b 3 C' ∧ h'.get d = some ⟨false, .ptr p 0 :: C'⟩) ∧ Ot2 p d hh h' := by
  have J := jok hb
  have lod : hh.lob ≤ d := by rw [R.keep.lob]; omega
  subst hC
  obtain ⟨h', e, R', ⟨o, zs, hz, g'⟩, O⟩ := cDeItems h p d _ _ _ _ _ hh R gd dp h0d lod J.o2 (by have := J.b2; show (jS2 b).2.b.length ≤ _; rw [this]; exact hl)
  exact ⟨h', e, R', ⟨_, ⟨o, zs, hz, rfl⟩, g'⟩, O⟩

theorem sDeRead3 (h : H) (b : List Int) (hb : ∀ c ∈ b, 0 ≤ c ∧ c < 256) (hl : b.length ≤ 1000000000000) (p d : Nat) (hh : H) (dp : d ≠ p) (h0d : h.len ≤ d) (lo : h.lob ≤ h.len) (R : Rdr h p (jSt b 3) hh) (C : List LV) (hC : DC b 3 C) (gd : hh.get d = some ⟨false, .ptr p 0 :: C⟩) :
    ∃ h', runI Try.prog TA 134 [.ptr d 0] hh = some (.tup [], h') ∧ Rdr h p (jSt b 4) h' ∧ (∃ C', DC b 4 C' ∧ h'.get d = some ⟨false, .ptr p 0 :: C'⟩) ∧ Ot2 p d hh h' := by
  have J := jok hb
  have lod : hh.lob ≤ d := by rw [R.keep.lob]; omega
  obtain ⟨o, zs, hz, rfl⟩ := hC
  obtain ⟨h', e, R', ⟨o2, ns, hn, g'⟩, O⟩ := cDeNotes h p d _ _ _ _ _ hh R gd dp h0d lod J.o3 (by have := J.b3; show (jS3 b).2.b.length ≤ _; rw [this]; exact hl)
  exact ⟨h', e, R', ⟨_, ⟨o, o2, zs, ns, hz, hn, rfl⟩, g'⟩, O⟩

theorem sDeRead4 (h : H) (b : List Int) (hb : ∀ c ∈ b, 0 ≤ c ∧ c < 256) (hl : b.length ≤ 1000000000000) (p d : Nat) (hh : H) (dp : d ≠ p) (h0d : h.len ≤ d) (lo : h.lob ≤ h.len) (R : Rdr h p (jSt b 4) hh) (C : List LV) (hC : DC b 4 C) (gd : hh.get d = some ⟨false, .ptr p 0 :: C⟩) :
    ∃ h', runI Try.prog TA 135 [.ptr d 0] hh = some (.tup [], h') ∧ Rdr h p (jSt b 5) h' ∧ (∃ C', DC b 5 C' ∧ h'.get d = some ⟨false, .ptr p 0 :: C'⟩) ∧ Ot2 p d hh h' := by
  have J := jok hb
  have lod : hh.lob ≤ d := by rw [R.keep.lob]; omega
  obtain ⟨o, o2, zs, ns, hz, hn, rfl⟩ := hC
  obtain ⟨h', e, R', ⟨o3, fs, hf, g'⟩, O⟩ := cDeFloats h p d _ _ _ _ _ hh R gd dp h0d lod J.o4 (by have := J.b4; show (jS4 b).2.b.length ≤ _; rw [this]; exact hl)
  exact ⟨h', e, R', ⟨_, dcJob hz hn hf, g'⟩, O⟩

theorem cDeRead (o : Option (Nat × Nat)) (b : List Int) (hb : ∀ c ∈ b, 0 ≤ c ∧ c < 256) (hl : b.length ≤ 1000000000000) (h : H) (w : WF h) :
    ∃ v h', runI Try.prog TA 102 [byts o b] h = some (v, h') ∧ okRead h b v h' := by
  refine calls_of rfl res102 rfl ?_
  simp (maxSteps := 10000000) (maxDischargeDepth := 30) only [q102, r102, go_sem, Nat.reduceEqDiff, ↓reduceIte, Nat.reduceAdd, Nat.reduceMul, Nat.reduceLeDiff, Nat.reduceLT, reduceCtorEq, Int.reduceToNat, Int.reduceLE, Int.reduceLT, Int.reduceEq, Int.reduceNeg, Int.reduceNe, Nat.reduceSub, IntKind.bits]
  refine ro_vcall (cROpen h o b hl h w (.refl h)) (fun v h1 J => ?_)
  obtain ⟨p, rfl, R, k1, hp1⟩ := J
  have lo := w.1
  have lt := R.lt
  have k1l := k1.len
  simp (maxSteps := 10000000) (maxDischargeDepth := 30) only [go_sem, Nat.reduceEqDiff, ↓reduceIte, Nat.reduceAdd, Nat.reduceMul, Nat.reduceLeDiff, Nat.reduceLT, reduceCtorEq, Int.reduceToNat, Int.reduceLE, Int.reduceLT, Int.reduceEq, Int.reduceNeg, Int.reduceNe, Nat.reduceSub, IntKind.bits]
  generalize hgg : h1.alloc _ = g
  have kg : Keep h1 g := by rw [← hgg]; exact (Keep.refl h1).alloc _
  have gd : g.get h1.len = some ⟨false, .ptr p 0 :: jZ⟩ := by rw [← hgg]; exact get_alloc_eq _ _
  clear hgg
  have Rg := R.next kg
  have dp : h1.len ≠ p := by omega
  have h0d : h.len ≤ h1.len := k1l
  generalize h1.len = d at *
  refine ro_vcall (cDeParts g) (fun v h2 J => ?_)
  obtain ⟨⟨n, rfl⟩, k2⟩ := J
  have R2 := Rg.next k2
  have gd2 := (k2.get (lt_of_get gd)).trans gd
  simp (maxSteps := 10000000) (maxDischargeDepth := 30) only [go_sem, Nat.reduceEqDiff, ↓reduceIte, Nat.reduceAdd, Nat.reduceMul, Nat.reduceLeDiff, Nat.reduceLT, reduceCtorEq, Int.reduceToNat, Int.reduceLE, Int.reduceLT, Int.reduceEq, Int.reduceNeg, Int.reduceNe, Nat.reduceSub, IntKind.bits]
  refine ru_loop (fun i => 5 - i) (IDeRead h b p d n) 0 ?_ ?_
  · unfold IDeRead
    simp (maxSteps := 10000000) (maxDischargeDepth := 30) only [Int.natCast_zero, go_sem, Nat.reduceEqDiff, ↓reduceIte, Nat.reduceAdd, Nat.reduceMul, Nat.reduceLeDiff, Nat.reduceLT, reduceCtorEq, Int.reduceToNat, Int.reduceLE, Int.reduceLT, Int.reduceEq, Int.reduceNeg, Int.reduceNe, Nat.reduceSub, IntKind.bits]
    refine ⟨rfl, fun k hk => ?_, R2, _, rfl, gd2⟩
    obtain rfl : k = 0 := by omega
    rfl
  · rintro i s hh ⟨e4, e11, e12, e13, hi, hst, R, C, hC, gd⟩
    have lD := lt_of_get gd
    obtain rfl | rfl | rfl | rfl | rfl | rfl : i = 0 ∨ i = 1 ∨ i = 2 ∨ i = 3 ∨ i = 4 ∨ i = 5 := by omega
    · have e13' : s 13 = .int .i64 0 := e13
      have ia : iaS dParts (0 : Int) = some (.cptr (.agg [.str ⟨#[109, 97, 103, 105, 99]⟩, .fn 131 [] []])) := rfl
      have loh := R.wf.1
      simp (maxSteps := 10000000) (maxDischargeDepth := 30) only [e4, e11, e12, e13', ia, loh, go_sem, Nat.reduceEqDiff, ↓reduceIte, Nat.reduceAdd, Nat.reduceMul, Nat.reduceLeDiff, Nat.reduceLT, reduceCtorEq, Int.reduceToNat, Int.reduceLE, Int.reduceLT, Int.reduceEq, Int.reduceNeg, Int.reduceNe, Nat.reduceSub, IntKind.bits]
      generalize hgg : (hh.alloc _).put _ _ = g
      have kg : Keep hh g := by rw [← hgg]; exact ((Keep.refl hh).alloc _).put (Nat.le_refl _) _
      have gp : g.get hh.len = some ⟨false, [.str ⟨#[109, 97, 103, 105, 99]⟩, .fn 131 [] []]⟩ := by rw [← hgg]; exact get_put_eq (by rw [len_alloc]; omega)
      clear hgg
      have gdg := (kg.get lD).trans gd
      have Rg := R.next kg
      have lp := Rg.lt
      have ldp := R.lt
      try (simp (maxSteps := 10000000) (maxDischargeDepth := 30) only [e4, gp, go_sem, Nat.reduceEqDiff, ↓reduceIte, Nat.reduceAdd, Nat.reduceMul, Nat.reduceLeDiff, Nat.reduceLT, reduceCtorEq, Int.reduceToNat, Int.reduceLE, Int.reduceLT, Int.reduceEq, Int.reduceNeg, Int.reduceNe, Nat.reduceSub, IntKind.bits])
      refine ro_wcall (sDeRead0 h b hb hl p d g dp h0d lo Rg C hC gdg) (fun h3 J => ?_)
      obtain ⟨R3, ⟨C3, hC3, gd3⟩, O3⟩ := J
      have gp3 := (O3.get hh.len (lt_of_get gp) (by omega) (by omega)).trans gp
      simp (maxSteps := 10000000) (maxDischargeDepth := 30) only [e4, gd3, go_sem, Nat.reduceEqDiff, ↓reduceIte, Nat.reduceAdd, Nat.reduceMul, Nat.reduceLeDiff, Nat.reduceLT, reduceCtorEq, Int.reduceToNat, Int.reduceLE, Int.reduceLT, Int.reduceEq, Int.reduceNeg, Int.reduceNe, Nat.reduceSub, IntKind.bits]
      refine ro_kcall (vRdRight p _ h3 R3.v) R3.wf (fun h4 k4 w4 => ?_)
      have R4 := R3.next k4
      have gd4 := (k4.get (lt_of_get gd3)).trans gd3
      have gp4 := (k4.get (lt_of_get gp3)).trans gp3
      by_cases hs : (jSt b 1).stop = true
      · obtain ⟨hp5, hj5⟩ := jfin (b := b) (i := 0) (by omega) hst hs
        simp (maxSteps := 10000000) (maxDischargeDepth := 30) only [e4, hs, gp4, go_sem, Nat.reduceEqDiff, ↓reduceIte, Nat.reduceAdd, Nat.reduceMul, Nat.reduceLeDiff, Nat.reduceLT, reduceCtorEq, Int.reduceToNat, Int.reduceLE, Int.reduceLT, Int.reduceEq, Int.reduceNeg, Int.reduceNe, Nat.reduceSub, IntKind.bits]
        unfold okRead
        rw [hp5, hj5]
        exact ⟨p, d, rfl, R4, C3, gd4, fun h => by omega⟩
      · have hs' : (jSt b 1).stop = false := by simpa using hs
        have ew : IntKind.i64.wrap (0 + 1) = ((1 : Nat) : Int) := by decide
        have ew2 : IntKind.i64.wrap 1 = ((1 : Nat) : Int) := by decide
        simp (maxSteps := 10000000) (maxDischargeDepth := 30) only [e4, hs', e13', ew, ew2, go_sem, Nat.reduceEqDiff, ↓reduceIte, Nat.reduceAdd, Nat.reduceMul, Nat.reduceLeDiff, Nat.reduceLT, reduceCtorEq, Int.reduceToNat, Int.reduceLE, Int.reduceLT, Int.reduceEq, Int.reduceNeg, Int.reduceNe, Nat.reduceSub, IntKind.bits]
        refine ⟨1, by omega, ?_⟩
        unfold IDeRead
        simp (maxSteps := 10000000) (maxDischargeDepth := 30) only [e4, e11, e12, go_sem, Nat.reduceEqDiff, ↓reduceIte, Nat.reduceAdd, Nat.reduceMul, Nat.reduceLeDiff, Nat.reduceLT, reduceCtorEq, Int.reduceToNat, Int.reduceLE, Int.reduceLT, Int.reduceEq, Int.reduceNeg, Int.reduceNe, Nat.reduceSub, IntKind.bits]
        refine ⟨fun k hk => ?_, R4, C3, hC3, gd4⟩
        by_cases hk5 : k = 1
        · subst hk5; exact hs'
        · exact hst k (by omega)
    · have e13' : s 13 = .int .i64 1 := e13
      have ia : iaS dParts (1 : Int) = some (.cptr (.agg [.str ⟨#[103, 101, 111, 109, 101, 116, 114, 121]⟩, .fn 132 [] []])) := rfl
      have loh := R.wf.1
      simp (maxSteps := 10000000) (maxDischargeDepth := 30) only [e4, e11, e12, e13', ia, loh, go_sem, Nat.reduceEqDiff, ↓reduceIte, Nat.reduceAdd, Nat.reduceMul, Nat.reduceLeDiff, Nat.reduceLT, reduceCtorEq, Int.reduceToNat, Int.reduceLE, Int.reduceLT, Int.reduceEq, Int.reduceNeg, Int.reduceNe, Nat.reduceSub, IntKind.bits]
      generalize hgg : (hh.alloc _).put _ _ = g
      have kg : Keep hh g := by rw [← hgg]; exact ((Keep.refl hh).alloc _).put (Nat.le_refl _) _
      have gp : g.get hh.len = some ⟨false, [.str ⟨#[103, 101, 111, 109, 101, 116, 114, 121]⟩, .fn 132 [] []]⟩ := by rw [← hgg]; exact get_put_eq (by rw [len_alloc]; omega)
      clear hgg
      have gdg := (kg.get lD).trans gd
      have Rg := R.next kg
      have lp := Rg.lt
      have ldp := R.lt
      try (simp (maxSteps := 10000000) (maxDischargeDepth := 30) only [e4, gp, go_sem, Nat.reduceEqDiff, ↓reduceIte, Nat.reduceAdd, Nat.reduceMul, Nat.reduceLeDiff, Nat.reduceLT, reduceCtorEq, Int.reduceToNat, Int.reduceLE, Int.reduceLT, Int.reduceEq, Int.reduceNeg, Int.reduceNe, Nat.reduceSub, IntKind.bits])
      refine ro_wcall (sDeRead1 h b hb hl p d g dp h0d lo Rg C hC gdg) (fun h3 J => ?_)
      obtain ⟨R3, ⟨C3, hC3, gd3⟩, O3⟩ := J
      have gp3 := (O3.get hh.len (lt_of_get gp) (by omega) (by omega)).trans gp
      simp (maxSteps := 10000000) (maxDischargeDepth := 30) only [e4, gd3, go_sem, Nat.reduceEqDiff, ↓reduceIte, Nat.reduceAdd, Nat.reduceMul, Nat.reduceLeDiff, Nat.reduceLT, reduceCtorEq, Int.reduceToNat, Int.reduceLE, Int.reduceLT, Int.reduceEq, Int.reduceNeg, Int.reduceNe, Nat.reduceSub, IntKind.bits]
      refine ro_kcall (vRdRight p _ h3 R3.v) R3.wf (fun h4 k4 w4 => ?_)
      have R4 := R3.next k4
      have gd4 := (k4.get (lt_of_get gd3)).trans gd3
      have gp4 := (k4.get (lt_of_get gp3)).trans gp3
      by_cases hs : (jSt b 2).stop = true
      · obtain ⟨hp5, hj5⟩ := jfin (b := b) (i := 1) (by omega) hst hs
        simp (maxSteps := 10000000) (maxDischargeDepth := 30) only [e4, hs, gp4, go_sem, Nat.reduceEqDiff, ↓reduceIte, Nat.reduceAdd, Nat.reduceMul, Nat.reduceLeDiff, Nat.reduceLT, reduceCtorEq, Int.reduceToNat, Int.reduceLE, Int.reduceLT, Int.reduceEq, Int.reduceNeg, Int.reduceNe, Nat.reduceSub, IntKind.bits]
        unfold okRead
        rw [hp5, hj5]
        exact ⟨p, d, rfl, R4, C3, gd4, fun h => by omega⟩
      · have hs' : (jSt b 2).stop = false := by simpa using hs
        have ew : IntKind.i64.wrap (1 + 1) = ((2 : Nat) : Int) := by decide
        have ew2 : IntKind.i64.wrap 2 = ((2 : Nat) : Int) := by decide
        simp (maxSteps := 10000000) (maxDischargeDepth := 30) only [e4, hs', e13', ew, ew2, go_sem, Nat.reduceEqDiff, ↓reduceIte, Nat.reduceAdd, Nat.reduceMul, Nat.reduceLeDiff, Nat.reduceLT, reduceCtorEq, Int.reduceToNat, Int.reduceLE, Int.reduceLT, Int.reduceEq, Int.reduceNeg, Int.reduceNe, Nat.reduceSub, IntKind.bits]
        refine ⟨2, by omega, ?_⟩
        unfold IDeRead
        simp (maxSteps := 10000000) (maxDischargeDepth := 30) only [e4, e11, e12, go_sem, Nat.reduceEqDiff, ↓reduceIte, Nat.reduceAdd, Nat.reduceMul, Nat.reduceLeDiff, Nat.reduceLT, reduceCtorEq, Int.reduceToNat, Int.reduceLE, Int.reduceLT, Int.reduceEq, Int.reduceNeg, Int.reduceNe, Nat.reduceSub, IntKind.bits]
        refine ⟨fun k hk => ?_, R4, C3, hC3, gd4⟩
        by_cases hk5 : k = 2
        · subst hk5; exact hs'
        · exact hst k (by omega)
    · have e13' : s 13 = .int .i64 2 := e13
      have ia : iaS dParts (2 : Int) = some (.cptr (.agg [.str ⟨#[105, 116, 101, 109, 115]⟩, .fn 133 [] []])) := rfl
      have loh := R.wf.1
      simp (maxSteps := 10000000) (maxDischargeDepth := 30) only [e4, e11, e12, e13', ia, loh, go_sem, Nat.reduceEqDiff, ↓reduceIte, Nat.reduceAdd, Nat.reduceMul, Nat.reduceLeDiff, Nat.reduceLT, reduceCtorEq, Int.reduceToNat, Int.reduceLE, Int.reduceLT, Int.reduceEq, Int.reduceNeg, Int.reduceNe, Nat.reduceSub, IntKind.bits]
      generalize hgg : (hh.alloc _).put _ _ = g
      have kg : Keep hh g := by rw [← hgg]; exact ((Keep.refl hh).alloc _).put (Nat.le_refl _) _
      have gp : g.get hh.len = some ⟨false, [.str ⟨#[105, 116, 101, 109, 115]⟩, .fn 133 [] []]⟩ := by rw [← hgg]; exact get_put_eq (by rw [len_alloc]; omega)
      clear hgg
      have gdg := (kg.get lD).trans gd
      have Rg := R.next kg
      have lp := Rg.lt
      have ldp := R.lt
      try (simp (maxSteps := 10000000) (maxDischargeDepth := 30) only [e4, gp, go_sem, Nat.reduceEqDiff, ↓reduceIte, Nat.reduceAdd, Nat.reduceMul, Nat.reduceLeDiff, Nat.reduceLT, reduceCtorEq, Int.reduceToNat, Int.reduceLE, Int.reduceLT, Int.reduceEq, Int.reduceNeg, Int.reduceNe, Nat.reduceSub, IntKind.bits])
      refine ro_wcall (sDeRead2 h b hb hl p d g dp h0d lo Rg C hC gdg) (fun h3 J => ?_)
      obtain ⟨R3, ⟨C3, hC3, gd3⟩, O3⟩ := J
      have gp3 := (O3.get hh.len (lt_of_get gp) (by omega) (by omega)).trans gp
      simp (maxSteps := 10000000) (maxDischargeDepth := 30) only [e4, gd3, go_sem, Nat.reduceEqDiff, ↓reduceIte, Nat.reduceAdd, Nat.reduceMul, Nat.reduceLeDiff, Nat.reduceLT, reduceCtorEq, Int.reduceToNat, Int.reduceLE, Int.reduceLT, Int.reduceEq, Int.reduceNeg, Int.reduceNe, Nat.reduceSub, IntKind.bits]
      refine ro_kcall (vRdRight p _ h3 R3.v) R3.wf (fun h4 k4 w4 => ?_)
      have R4 := R3.next k4
      have gd4 := (k4.get (lt_of_get gd3)).trans gd3
      have gp4 := (k4.get (lt_of_get gp3)).trans gp3
      by_cases hs : (jSt b 3).stop = true
      · obtain ⟨hp5, hj5⟩ := jfin (b := b) (i := 2) (by omega) hst hs
        simp (maxSteps := 10000000) (maxDischargeDepth := 30) only [e4, hs, gp4, go_sem, Nat.reduceEqDiff, ↓reduceIte, Nat.reduceAdd, Nat.reduceMul, Nat.reduceLeDiff, Nat.reduceLT, reduceCtorEq, Int.reduceToNat, Int.reduceLE, Int.reduceLT, Int.reduceEq, Int.reduceNeg, Int.reduceNe, Nat.reduceSub, IntKind.bits]
        unfold okRead
        rw [hp5, hj5]
        exact ⟨p, d, rfl, R4, C3, gd4, fun h => by omega⟩
      · have hs' : (jSt b 3).stop = false := by simpa using hs
        have ew : IntKind.i64.wrap (2 + 1) = ((3 : Nat) : Int) := by decide
        have ew2 : IntKind.i64.wrap 3 = ((3 : Nat) : Int) := by decide
        simp (maxSteps := 10000000) (maxDischargeDepth := 30) only [e4, hs', e13', ew, ew2, go_sem, Nat.reduceEqDiff, ↓reduceIte, Nat.reduceAdd, Nat.reduceMul, Nat.reduceLeDiff, Nat.reduceLT, reduceCtorEq, Int.reduceToNat, Int.reduceLE, Int.reduceLT, Int.reduceEq, Int.reduceNeg, Int.reduceNe, Nat.reduceSub, IntKind.bits]
        refine ⟨3, by omega, ?_⟩
        unfold IDeRead
        simp (maxSteps := 10000000) (maxDischargeDepth := 30) only [e4, e11, e12, go_sem, Nat.reduceEqDiff, ↓reduceIte, Nat.reduceAdd, Nat.reduceMul, Nat.reduceLeDiff, Nat.reduceLT, reduceCtorEq, Int.reduceToNat, Int.reduceLE, Int.reduceLT, Int.reduceEq, Int.reduceNeg, Int.reduceNe, Nat.reduceSub, IntKind.bits]
        refine ⟨fun k hk => ?_, R4, C3, hC3, gd4⟩
        by_cases hk5 : k = 3
        · subst hk5; exact hs'
        · exact hst k (by omega)
    · have e13' : s 13 = .int .i64 3 := e13
      have ia : iaS dParts (3 : Int) = some (.cptr (.agg [.str ⟨#[110, 111, 116, 101, 115]⟩, .fn 134 [] []])) := rfl
      have loh := R.wf.1
      simp (maxSteps := 10000000) (maxDischargeDepth := 30) only [e4, e11, e12, e13', ia, loh, go_sem, Nat.reduceEqDiff, ↓reduceIte, Nat.reduceAdd, Nat.reduceMul, Nat.reduceLeDiff, Nat.reduceLT, reduceCtorEq, Int.reduceToNat, Int.reduceLE, Int.reduceLT, Int.reduceEq, Int.reduceNeg, Int.reduceNe, Nat.reduceSub, IntKind.bits]
      generalize hgg : (hh.alloc _).put _ _ = g
      have kg : Keep hh g := by rw [← hgg]; exact ((Keep.refl hh).alloc _).put (Nat.le_refl _) _
      have gp : g.get hh.len = some ⟨false, [.str ⟨#[110, 111, 116, 101, 115]⟩, .fn 134 [] []]⟩ := by rw [← hgg]; exact get_put_eq (by rw [len_alloc]; omega)
      clear hgg
      have gdg := (kg.get lD).trans gd
      have Rg := R.next kg
      have lp := Rg.lt
      have ldp := R.lt
      try (simp (maxSteps := 10000000) (maxDischargeDepth := 30) only [e4, gp, go_sem, Nat.reduceEqDiff, ↓reduceIte, Nat.reduceAdd, Nat.reduceMul, Nat.reduceLeDiff, Nat.reduceLT, reduceCtorEq, Int.reduceToNat, Int.reduceLE, Int.reduceLT, Int.reduceEq, Int.reduceNeg, Int.reduceNe, Nat.reduceSub, IntKind.bits])
      refine ro_wcall (sDeRead3 h b hb hl p d g dp h0d lo Rg C hC gdg) (fun h3 J => ?_)
      obtain ⟨R3, ⟨C3, hC3, gd3⟩, O3⟩ := J
      have gp3 := (O3.get hh.len (lt_of_get gp) (by omega) (by omega)).trans gp
      simp (maxSteps := 10000000) (maxDischargeDepth := 30) only [e4, gd3, go_sem, Nat.reduceEqDiff, ↓reduceIte, Nat.reduceAdd, Nat.reduceMul, Nat.reduceLeDiff, Nat.reduceLT, reduceCtorEq, Int.reduceToNat, Int.reduceLE, Int.reduceLT, Int.reduceEq, Int.reduceNeg, Int.reduceNe, Nat.reduceSub, IntKind.bits]
      refine ro_kcall (vRdRight p _ h3 R3.v) R3.wf (fun h4 k4 w4 => ?_)
      have R4 := R3.next k4
      have gd4 := (k4.get (lt_of_get gd3)).trans gd3
      have gp4 := (k4.get (lt_of_get gp3)).trans gp3
      by_cases hs : (jSt b 4).stop = true
      · obtain ⟨hp5, hj5⟩ := jfin (b := b) (i := 3) (by omega) hst hs
        simp (maxSteps := 10000000) (maxDischargeDepth := 30) only [e4, hs, gp4, go_sem, Nat.reduceEqDiff, ↓reduceIte, Nat.reduceAdd, Nat.reduceMul, Nat.reduceLeDiff, Nat.reduceLT, reduceCtorEq, Int.reduceToNat, Int.reduceLE, Int.reduceLT, Int.reduceEq, Int.reduceNeg, Int.reduceNe, Nat.reduceSub, IntKind.bits]
        unfold okRead
        rw [hp5, hj5]
        exact ⟨p, d, rfl, R4, C3, gd4, fun h => by omega⟩
      · have hs' : (jSt b 4).stop = false := by simpa using hs
        have ew : IntKind.i64.wrap (3 + 1) = ((4 : Nat) : Int) := by decide
        have ew2 : IntKind.i64.wrap 4 = ((4 : Nat) : Int) := by decide
        simp (maxSteps := 10000000) (maxDischargeDepth := 30) only [e4, hs', e13', ew, ew2, go_sem, Nat.reduceEqDiff, ↓reduceIte, Nat.reduceAdd, Nat.reduceMul, Nat.reduceLeDiff, Nat.reduceLT, reduceCtorEq, Int.reduceToNat, Int.reduceLE, Int.reduceLT, Int.reduceEq, Int.reduceNeg, Int.reduceNe, Nat.reduceSub, IntKind.bits]
        refine ⟨4, by omega, ?_⟩
        unfold IDeRead
        simp (maxSteps := 10000000) (maxDischargeDepth := 30) only [e4, e11, e12, go_sem, Nat.reduceEqDiff, ↓reduceIte, Nat.reduceAdd, Nat.reduceMul, Nat.reduceLeDiff, Nat.reduceLT, reduceCtorEq, Int.reduceToNat, Int.reduceLE, Int.reduceLT, Int.reduceEq, Int.reduceNeg, Int.reduceNe, Nat.reduceSub, IntKind.bits]
        refine ⟨fun k hk => ?_, R4, C3, hC3, gd4⟩
        by_cases hk5 : k = 4
        · subst hk5; exact hs'
        · exact hst k (by omega)
    · have e13' : s 13 = .int .i64 4 := e13
      have ia : iaS dParts (4 : Int) = some (.cptr (.agg [.str ⟨#[102, 108, 111, 97, 116, 115]⟩, .fn 135 [] []])) := rfl
      have loh := R.wf.1
      simp (maxSteps := 10000000) (maxDischargeDepth := 30) only [e4, e11, e12, e13', ia, loh, go_sem, Nat.reduceEqDiff, ↓reduceIte, Nat.reduceAdd, Nat.reduceMul, Nat.reduceLeDiff, Nat.reduceLT, reduceCtorEq, Int.reduceToNat, Int.reduceLE, Int.reduceLT, Int.reduceEq, Int.reduceNeg, Int.reduceNe, Nat.reduceSub, IntKind.bits]
      generalize hgg : (hh.alloc _).put _ _ = g
      have kg : Keep hh g := by rw [← hgg]; exact ((Keep.refl hh).alloc _).put (Nat.le_refl _) _
      have gp : g.get hh.len = some ⟨false, [.str ⟨#[102, 108, 111, 97, 116, 115]⟩, .fn 135 [] []]⟩ := by rw [← hgg]; exact get_put_eq (by rw [len_alloc]; omega)
      clear hgg
      have gdg := (kg.get lD).trans gd
      have Rg := R.next kg
      have lp := Rg.lt
      have ldp := R.lt
      try (simp (maxSteps := 10000000) (maxDischargeDepth := 30) only [e4, gp, go_sem, Nat.reduceEqDiff, ↓reduceIte, Nat.reduceAdd, Nat.reduceMul, Nat.reduceLeDiff, Nat.reduceLT, reduceCtorEq, Int.reduceToNat, Int.reduceLE, Int.reduceLT, Int.reduceEq, Int.reduceNeg, Int.reduceNe, Nat.reduceSub, IntKind.bits])
      refine ro_wcall (sDeRead4 h b hb hl p d g dp h0d lo Rg C hC gdg) (fun h3 J => ?_)
      obtain ⟨R3, ⟨C3, hC3, gd3⟩, O3⟩ := J
      have gp3 := (O3.get hh.len (lt_of_get gp) (by omega) (by omega)).trans gp
      simp (maxSteps := 10000000) (maxDischargeDepth := 30) only [e4, gd3, go_sem, Nat.reduceEqDiff, ↓reduceIte, Nat.reduceAdd, Nat.reduceMul, Nat.reduceLeDiff, Nat.reduceLT, reduceCtorEq, Int.reduceToNat, Int.reduceLE, Int.reduceLT, Int.reduceEq, Int.reduceNeg, Int.reduceNe, Nat.reduceSub, IntKind.bits]
      refine ro_kcall (vRdRight p _ h3 R3.v) R3.wf (fun h4 k4 w4 => ?_)
      have R4 := R3.next k4
      have gd4 := (k4.get (lt_of_get gd3)).trans gd3
      have gp4 := (k4.get (lt_of_get gp3)).trans gp3
      by_cases hs : (jSt b 5).stop = true
      · obtain ⟨hp5, hj5⟩ := jfin (b := b) (i := 4) (by omega) hst hs
        simp (maxSteps := 10000000) (maxDischargeDepth := 30) only [e4, hs, gp4, go_sem, Nat.reduceEqDiff, ↓reduceIte, Nat.reduceAdd, Nat.reduceMul, Nat.reduceLeDiff, Nat.reduceLT, reduceCtorEq, Int.reduceToNat, Int.reduceLE, Int.reduceLT, Int.reduceEq, Int.reduceNeg, Int.reduceNe, Nat.reduceSub, IntKind.bits]
        unfold okRead
        rw [hp5, hj5]
        exact ⟨p, d, rfl, R4, C3, gd4, fun h => by omega⟩
      · have hs' : (jSt b 5).stop = false := by simpa using hs
        have ew : IntKind.i64.wrap (4 + 1) = ((5 : Nat) : Int) := by decide
        have ew2 : IntKind.i64.wrap 5 = ((5 : Nat) : Int) := by decide
        simp (maxSteps := 10000000) (maxDischargeDepth := 30) only [e4, hs', e13', ew, ew2, go_sem, Nat.reduceEqDiff, ↓reduceIte, Nat.reduceAdd, Nat.reduceMul, Nat.reduceLeDiff, Nat.reduceLT, reduceCtorEq, Int.reduceToNat, Int.reduceLE, Int.reduceLT, Int.reduceEq, Int.reduceNeg, Int.reduceNe, Nat.reduceSub, IntKind.bits]
        refine ⟨5, by omega, ?_⟩
        unfold IDeRead
        simp (maxSteps := 10000000) (maxDischargeDepth := 30) only [e4, e11, e12, go_sem, Nat.reduceEqDiff, ↓reduceIte, Nat.reduceAdd, Nat.reduceMul, Nat.reduceLeDiff, Nat.reduceLT, reduceCtorEq, Int.reduceToNat, Int.reduceLE, Int.reduceLT, Int.reduceEq, Int.reduceNeg, Int.reduceNe, Nat.reduceSub, IntKind.bits]
        refine ⟨fun k hk => ?_, R4, C3, hC3, gd4⟩
        by_cases hk5 : k = 5
        · subst hk5; exact hs'
        · exact hst k (by omega)
    · have e13' : s 13 = .int .i64 5 := e13
      obtain ⟨hp5, hs5⟩ := jend hst
      simp (maxSteps := 10000000) (maxDischargeDepth := 30) only [e4, e11, e12, e13', go_sem, Nat.reduceEqDiff, ↓reduceIte, Nat.reduceAdd, Nat.reduceMul, Nat.reduceLeDiff, Nat.reduceLT, reduceCtorEq, Int.reduceToNat, Int.reduceLE, Int.reduceLT, Int.reduceEq, Int.reduceNeg, Int.reduceNe, Nat.reduceSub, IntKind.bits]
      unfold okRead
      rw [hp5]
      exact ⟨p, d, rfl, R, C, gd, fun _ => hC⟩
end Go.LM
