import Derived.Test.YtpmpdidgbbgeeaaLmTrbR2
import Derived.Test.YtpmpdidgbbgeeaaLmTrbR3
import Derived.Test.YtpmpdidgbbgeeaaLmbDecode10
import Derived.Test.YtpmpdidgbbgeeaaLmbEncode9
namespace Go.LM
open Go.Proofs
set_option maxRecDepth 16000
set_option maxHeartbeats 8000000
set_option linter.unusedSimpArgs false
theorem strOf_eq {a b : List Int} (ha : ∀ c ∈ a, 0 ≤ c ∧ c < 256) (hb : ∀ c ∈ b, 0 ≤ c ∧ c < 256) : (strOf a = strOf b) = (a = b) :=
  propext ⟨fun h => by rw [← strB_strOf ha, h, strB_strOf hb], fun h => by rw [h]⟩
theorem cEqualB (o o2 : Option (Nat × Nat)) (a b : List Int) (ha : ∀ c ∈ a, 0 ≤ c ∧ c < 256) (hb : ∀ c ∈ b, 0 ≤ c ∧ c < 256) (h : H) :
    runI Try.prog TA 126 [byts o a, byts o2 b] h = some (.bool (decide (a = b)), hp Try.prog TA 126 [byts o a, byts o2 b] h) := by
  refine pure_of rfl res126 rfl ?_
  have e := strOf_eq ha hb
  simp (maxSteps := 10000000) (maxDischargeDepth := 30) only [q126, r126, cv_strB ty_u26 ty_u9 ty_u5, bin_eql_str, e, go_sem, Nat.reduceEqDiff, ↓reduceIte, Nat.reduceAdd, Nat.reduceMul, Nat.reduceLeDiff, Nat.reduceLT, reduceCtorEq, Int.reduceToNat, Int.reduceLE, Int.reduceLT, Int.reduceEq, Int.reduceNeg, Int.reduceNe, Nat.reduceSub, IntKind.bits]
theorem cHasPreB (o o2 : Option (Nat × Nat)) (a p : List Int) (ha : ∀ c ∈ a, 0 ≤ c ∧ c < 256) (hpp : ∀ c ∈ p, 0 ≤ c ∧ c < 256) (h : H) (w : WF h) :
    runI Try.prog TA 104 [byts o a, byts o2 p] h = some (.bool (decide (a.take p.length = p)), hp Try.prog TA 104 [byts o a, byts o2 p] h) := by
  refine pure_of rfl res104 rfl ?_
  have hbd : ∀ c ∈ a.take p.length, 0 ≤ c ∧ c < 256 := fun c hc => ha c (List.mem_of_mem_take hc)
  by_cases c0 : (p.length : Int) ≤ a.length
  · have hb1 : boundL (some (.int .i64 (p.length : Int))) a.length a.length = some p.length := by rw [bound_some, if_pos ⟨by omega, by omega⟩]; simp
    have ed : ((a.map (LV.int .u8)).take p.length).drop 0 = (a.take p.length).map (LV.int .u8) := by rw [List.drop_zero, List.map_take]
    simp (maxSteps := 10000000) (maxDischargeDepth := 30) only [q104, r104, c0, List.length_map, hb1, slM_some (bound_none 0 p.length), ed, go_sem, Nat.reduceEqDiff, ↓reduceIte, Nat.reduceAdd, Nat.reduceMul, Nat.reduceLeDiff, Nat.reduceLT, reduceCtorEq, Int.reduceToNat, Int.reduceLE, Int.reduceLT, Int.reduceEq, Int.reduceNeg, Int.reduceNe, Nat.reduceSub, IntKind.bits]
    refine ro_kcall (cEqualB _ o2 _ _ hbd hpp h) w (fun h1 k1 w1 => ?_)
    simp (maxSteps := 10000000) (maxDischargeDepth := 30) only [k1, go_sem, Nat.reduceEqDiff, ↓reduceIte, Nat.reduceAdd, Nat.reduceMul, Nat.reduceLeDiff, Nat.reduceLT, reduceCtorEq, Int.reduceToNat, Int.reduceLE, Int.reduceLT, Int.reduceEq, Int.reduceNeg, Int.reduceNe, Nat.reduceSub, IntKind.bits]
  · have e : a.take p.length = p ↔ False := ⟨fun h => by have := congrArg List.length h; rw [List.length_take] at this; omega, False.elim⟩
    simp (maxSteps := 10000000) (maxDischargeDepth := 30) only [q104, r104, c0, List.length_map, e, go_sem, Nat.reduceEqDiff, ↓reduceIte, Nat.reduceAdd, Nat.reduceMul, Nat.reduceLeDiff, Nat.reduceLT, reduceCtorEq, Int.reduceToNat, Int.reduceLE, Int.reduceLT, Int.reduceEq, Int.reduceNeg, Int.reduceNe, Nat.reduceSub, IntKind.bits]
theorem cDeBegins (o : Option (Nat × Nat)) (b : List Int) (hb : ∀ c ∈ b, 0 ≤ c ∧ c < 256) (h : H) (w : WF h) :
    runI Try.prog TA 69 [byts o b] h = some (.bool (decide (b.take 4 = magicJ)), hp Try.prog TA 69 [byts o b] h) := by
  refine pure_of rfl res69 rfl ?_
  simp (maxSteps := 10000000) (maxDischargeDepth := 30) only [q69, r69, go_sem, Nat.reduceEqDiff, ↓reduceIte, Nat.reduceAdd, Nat.reduceMul, Nat.reduceLeDiff, Nat.reduceLT, reduceCtorEq, Int.reduceToNat, Int.reduceLE, Int.reduceLT, Int.reduceEq, Int.reduceNeg, Int.reduceNe, Nat.reduceSub, IntKind.bits]
  refine ro_kcall (cEnMagic h) w (fun h1 k1 w1 => ?_)
  have ec : ∀ g : H, convL Try.prog 9 26 (.str ⟨#[84, 89, 77, 49]⟩) g = some (byts (some (g.rlen, 4)) magicJ, g.nrow 4) := fun g => cv_bytes ty_u9 ty_u26 ty_u5 _ g
  simp (maxSteps := 10000000) (maxDischargeDepth := 30) only [ec, go_sem, Nat.reduceEqDiff, ↓reduceIte, Nat.reduceAdd, Nat.reduceMul, Nat.reduceLeDiff, Nat.reduceLT, reduceCtorEq, Int.reduceToNat, Int.reduceLE, Int.reduceLT, Int.reduceEq, Int.reduceNeg, Int.reduceNe, Nat.reduceSub, IntKind.bits]
  refine ro_kcall (cHasPreB o _ b magicJ hb (by decide) _ (w1.keep ((Keep.refl h1).nrow 4))) (w1.keep ((Keep.refl h1).nrow 4)) (fun h2 k2 w2 => ?_)
  have k3 := (k1.trans ((Keep.refl h1).nrow 4)).trans k2
  simp (maxSteps := 10000000) (maxDischargeDepth := 30) only [k3, go_sem, Nat.reduceEqDiff, ↓reduceIte, Nat.reduceAdd, Nat.reduceMul, Nat.reduceLeDiff, Nat.reduceLT, reduceCtorEq, Int.reduceToNat, Int.reduceLE, Int.reduceLT, Int.reduceEq, Int.reduceNeg, Int.reduceNe, Nat.reduceSub, IntKind.bits]
  rfl
def okRead17 (b : List Int) (v : LV) : Prop :=
  match jobRd b with
  | some l => ∃ x : JobR, v = .agg (x.cells ++ [.bool true, .str (partS (partN b)), .int .i64 (jS5 b).2.at_]) ∧ x.plain = l
  | none => v = .agg (jZ ++ [.bool false, .str (partS (partN b)), .int .i64 (jS5 b).2.at_])
theorem cRJob17 (o : Option (Nat × Nat)) (b : List Int) (hb : ∀ c ∈ b, 0 ≤ c ∧ c < 256) (hl : b.length ≤ 2000) (h : H) (w : WF h) :
    ∃ v h', runI Try.prog TA 68 [byts o b] h = some (v, h') ∧ okRead17 b v ∧ Keep h h' := by
  refine calls_of rfl res68 rfl ?_
  have lo := w.1
  simp (maxSteps := 10000000) (maxDischargeDepth := 30) only [q68, r68, go_sem, Nat.reduceEqDiff, ↓reduceIte, Nat.reduceAdd, Nat.reduceMul, Nat.reduceLeDiff, Nat.reduceLT, reduceCtorEq, Int.reduceToNat, Int.reduceLE, Int.reduceLT, Int.reduceEq, Int.reduceNeg, Int.reduceNe, Nat.reduceSub, IntKind.bits]
  generalize hgg : H.alloc (H.alloc (H.alloc _ _) _) _ = g
  have kz := (Keep.refl h).alloc [.int .i64 0, .int .i64 0, .int .i64 0, .int .i64 0, .int .i64 0, .int .i64 0, .int .i64 0, .int .i64 0, .int .i64 0, .int .i64 0, .int .i64 0, .int .i64 0, .int .i64 0, .int .i64 0, .int .i64 0, .int .i64 0, .int .i64 0, .int .i64 0, .bool false, .nils, .nils, .nils, .bool false, .str ⟨#[]⟩, .int .i64 0]
  have k0 : Keep (h.alloc [.int .i64 0, .int .i64 0, .int .i64 0, .int .i64 0, .int .i64 0, .int .i64 0, .int .i64 0, .int .i64 0, .int .i64 0, .int .i64 0, .int .i64 0, .int .i64 0, .int .i64 0, .int .i64 0, .int .i64 0, .int .i64 0, .int .i64 0, .int .i64 0, .bool false, .nils, .nils, .nils, .bool false, .str ⟨#[]⟩, .int .i64 0]) g := by rw [← hgg]; exact ((Keep.refl _).alloc _).alloc _
  have ga : g.get h.len = some ⟨false, [.int .i64 0, .int .i64 0, .int .i64 0, .int .i64 0, .int .i64 0, .int .i64 0, .int .i64 0, .int .i64 0, .int .i64 0, .int .i64 0, .int .i64 0, .int .i64 0, .int .i64 0, .int .i64 0, .int .i64 0, .int .i64 0, .int .i64 0, .int .i64 0, .bool false, .nils, .nils, .nils, .bool false, .str ⟨#[]⟩, .int .i64 0]⟩ := by rw [← hgg]; simp (maxSteps := 10000000) (maxDischargeDepth := 30) only [go_sem, Nat.reduceEqDiff, ↓reduceIte, Nat.reduceAdd, Nat.reduceMul, Nat.reduceLeDiff, Nat.reduceLT, reduceCtorEq, Int.reduceToNat, Int.reduceLE, Int.reduceLT, Int.reduceEq, Int.reduceNeg, Int.reduceNe, Nat.reduceSub, IntKind.bits]
  have gq : g.get (h.len + 1) = some ⟨false, [byts o b, .int .i64 0, .bool false]⟩ := by rw [← hgg]; simp (maxSteps := 10000000) (maxDischargeDepth := 30) only [go_sem, Nat.reduceEqDiff, ↓reduceIte, Nat.reduceAdd, Nat.reduceMul, Nat.reduceLeDiff, Nat.reduceLT, reduceCtorEq, Int.reduceToNat, Int.reduceLE, Int.reduceLT, Int.reduceEq, Int.reduceNeg, Int.reduceNe, Nat.reduceSub, IntKind.bits]
  have gd : g.get (h.len + 1 + 1) = some ⟨false, [.ptr (h.len + 1) 0, .str ⟨#[]⟩]⟩ := by rw [← hgg]; simp (maxSteps := 10000000) (maxDischargeDepth := 30) only [go_sem, Nat.reduceEqDiff, ↓reduceIte, Nat.reduceAdd, Nat.reduceMul, Nat.reduceLeDiff, Nat.reduceLT, reduceCtorEq, Int.reduceToNat, Int.reduceLE, Int.reduceLT, Int.reduceEq, Int.reduceNeg, Int.reduceNe, Nat.reduceSub, IntKind.bits]
  clear hgg
  have wz := w.keep kz
  have wg := wz.keep k0
  have lz : (h.alloc [.int .i64 0, .int .i64 0, .int .i64 0, .int .i64 0, .int .i64 0, .int .i64 0, .int .i64 0, .int .i64 0, .int .i64 0, .int .i64 0, .int .i64 0, .int .i64 0, .int .i64 0, .int .i64 0, .int .i64 0, .int .i64 0, .int .i64 0, .int .i64 0, .bool false, .nils, .nils, .nils, .bool false, .str ⟨#[]⟩, .int .i64 0]).len = h.len + 1 := len_alloc _ _
  have R : Rdr (h.alloc [.int .i64 0, .int .i64 0, .int .i64 0, .int .i64 0, .int .i64 0, .int .i64 0, .int .i64 0, .int .i64 0, .int .i64 0, .int .i64 0, .int .i64 0, .int .i64 0, .int .i64 0, .int .i64 0, .int .i64 0, .int .i64 0, .int .i64 0, .int .i64 0, .bool false, .nils, .nils, .nils, .bool false, .str ⟨#[]⟩, .int .i64 0]) (h.len + 1) ⟨b, 0, false⟩ g := ⟨⟨o, gq⟩, by rw [k0.lob, kz.lob]; omega, by omega, k0, wg⟩
  try (simp (maxSteps := 10000000) (maxDischargeDepth := 30) only [go_sem, Nat.reduceEqDiff, ↓reduceIte, Nat.reduceAdd, Nat.reduceMul, Nat.reduceLeDiff, Nat.reduceLT, reduceCtorEq, Int.reduceToNat, Int.reduceLE, Int.reduceLT, Int.reduceEq, Int.reduceNeg, Int.reduceNe, Nat.reduceSub, IntKind.bits])
  refine ro_vcall (cRJobR17 _ b hb hl (h.len + 1) (h.len + 1 + 1) ⟨#[]⟩ g R gd (by omega) (by omega) (by rw [kz.lob]; omega)) (fun v h1 J => ?_)
  unfold okJobD at J
  obtain ⟨⟨x, rfl, okx, hx⟩, R1, gd1⟩ := J
  have ga1 := (R1.keep.get (by omega)).trans ((get_alloc_eq h [.int .i64 0, .int .i64 0, .int .i64 0, .int .i64 0, .int .i64 0, .int .i64 0, .int .i64 0, .int .i64 0, .int .i64 0, .int .i64 0, .int .i64 0, .int .i64 0, .int .i64 0, .int .i64 0, .int .i64 0, .int .i64 0, .int .i64 0, .int .i64 0, .bool false, .nils, .nils, .nils, .bool false, .str ⟨#[]⟩, .int .i64 0]))
  have lo1 := R1.wf.1
  have J := jok hb
  have k1 := kz.trans R1.keep
  simp (maxSteps := 10000000) (maxDischargeDepth := 30) only [lo1, JobR.e, JobR.cells, go_sem, Nat.reduceEqDiff, ↓reduceIte, Nat.reduceAdd, Nat.reduceMul, Nat.reduceLeDiff, Nat.reduceLT, reduceCtorEq, Int.reduceToNat, Int.reduceLE, Int.reduceLT, Int.reduceEq, Int.reduceNeg, Int.reduceNe, Nat.reduceSub, IntKind.bits]
  generalize hgg : H.put _ _ _ = m
  have km : Keep h1 m := by rw [← hgg]; exact ((Keep.refl h1).alloc _).put (Nat.le_refl _) _
  have gx : m.get h1.len = some ⟨false, x.cells⟩ := by rw [← hgg]; exact get_put_eq (by rw [len_alloc]; omega)
  clear hgg
  have wm := R1.wf.keep km
  try (simp (maxSteps := 10000000) (maxDischargeDepth := 30) only [go_sem, Nat.reduceEqDiff, ↓reduceIte, Nat.reduceAdd, Nat.reduceMul, Nat.reduceLeDiff, Nat.reduceLT, reduceCtorEq, Int.reduceToNat, Int.reduceLE, Int.reduceLT, Int.reduceEq, Int.reduceNeg, Int.reduceNe, Nat.reduceSub, IntKind.bits])
  refine ro_vcall (cRJob16 x m wm okx) (fun v h2 J2 => ?_)
  obtain ⟨⟨o2, hv⟩, k2⟩ := J2
  have w2 := wm.keep k2
  have lo2 := w2.1
  have Rm := (R1.next km).next k2
  obtain ⟨t, gq2⟩ := Rm.get
  have gd2 := (k2.get (lt_of_get ((km.get (lt_of_get gd1)).trans gd1))).trans ((km.get (lt_of_get gd1)).trans gd1)
  have ga2 := (k2.get (lt_of_get ((km.get (lt_of_get ga1)).trans ga1))).trans ((km.get (lt_of_get ga1)).trans ga1)
  have gx2 := (k2.get (lt_of_get gx)).trans gx
  have lq2 := lt_of_get gq2
  have ld2 := lt_of_get gd2
  have la2 := lt_of_get ga2
  have lx2 := lt_of_get gx2
  have kk := (k1.trans km).trans k2
  have lobh : h2.lob ≤ h.len := by rw [kk.lob]; exact lo
  cases hs : (jS5 b).2.stop
  rotate_left
  · have hq : ¬ partS (partN b) = ⟨#[101, 110, 100]⟩ := by rw [partS_end (partN_le b)]; exact partN_lt hs
    have hno : jobRd b = none := by unfold jobRd; rw [if_neg (by simp [hs])]
    subst hv
    have la3 : h.len < h2.len + 1 := by omega
    have kf : ∀ c B B', Keep h (((h2.alloc c).put h2.len B).put h.len B') := fun c B B' => (kk.trans (((Keep.refl h2).alloc c).put (Nat.le_refl _) B)).put (Nat.le_refl h.len) B'
    cases hbr : bareL x.items
    · simp (maxSteps := 10000000) (maxDischargeDepth := 30) only [hbr, lo2, gd2, gq2, ld2, lq2, la2, la3, ga2, lobh, bin_eql_str, hq, go_sem, Nat.reduceEqDiff, ↓reduceIte, Nat.reduceAdd, Nat.reduceMul, Nat.reduceLeDiff, Nat.reduceLT, reduceCtorEq, Int.reduceToNat, Int.reduceLE, Int.reduceLT, Int.reduceEq, Int.reduceNeg, Int.reduceNe, Nat.reduceSub, IntKind.bits]
      exact ⟨by unfold okRead17; rw [hno]; rfl, kf _ _ _⟩
    · simp (maxSteps := 10000000) (maxDischargeDepth := 30) only [hbr, lo2, gd2, gq2, ld2, lq2, la2, la3, ga2, lobh, bin_eql_str, hq, go_sem, Nat.reduceEqDiff, ↓reduceIte, Nat.reduceAdd, Nat.reduceMul, Nat.reduceLeDiff, Nat.reduceLT, reduceCtorEq, Int.reduceToNat, Int.reduceLE, Int.reduceLT, Int.reduceEq, Int.reduceNeg, Int.reduceNe, Nat.reduceSub, IntKind.bits]
      exact ⟨by unfold okRead17; rw [hno]; rfl, kf _ _ _⟩
  have hp := partN_end hs
  have hpe : partS (partN b) = ⟨#[101, 110, 100]⟩ := by rw [hp]; rfl
  have hxp := hx hs
  have hbr : bareL x.items = true := by have := jobOf_bare hb hs; rw [← hxp] at this; exact this
  rw [if_pos hbr] at hv
  subst hv
  rw [hxp]
  rw [hpe] at gd2
  simp (maxSteps := 10000000) (maxDischargeDepth := 30) only [lo2, gd2, ld2, bin_eql_str, go_sem, Nat.reduceEqDiff, ↓reduceIte, Nat.reduceAdd, Nat.reduceMul, Nat.reduceLeDiff, Nat.reduceLT, reduceCtorEq, Int.reduceToNat, Int.reduceLE, Int.reduceLT, Int.reduceEq, Int.reduceNeg, Int.reduceNe, Nat.reduceSub, IntKind.bits]
  generalize hgg : H.put _ _ _ = n
  have kn : Keep h2 n := by rw [← hgg]; exact ((Keep.refl h2).alloc _).put (Nat.le_refl _) _
  clear hgg
  have wn := w2.keep kn
  try (simp (maxSteps := 10000000) (maxDischargeDepth := 30) only [go_sem, Nat.reduceEqDiff, ↓reduceIte, Nat.reduceAdd, Nat.reduceMul, Nat.reduceLeDiff, Nat.reduceLT, reduceCtorEq, Int.reduceToNat, Int.reduceLE, Int.reduceLT, Int.reduceEq, Int.reduceNeg, Int.reduceNe, Nat.reduceSub, IntKind.bits])
  refine ro_kcall (cSameG o2 o (jobBP (jobOf b)) b (by have := jobBP_len okx; rw [hxp] at this; omega) n wn) wn (fun h3 k3 w3 => ?_)
  have kk3 := kn.trans k3
  have gd3 := (kk3.get ld2).trans gd2
  have gq3 := (kk3.get lq2).trans gq2
  have ga3 := (kk3.get la2).trans ga2
  have gx3 := (kk3.get lx2).trans gx2
  have la3 := lt_of_get ga3
  have lob3 : h3.lob ≤ h.len := by rw [kk3.lob]; exact lobh
  have kf : ∀ B, Keep h (h3.put h.len B) := fun B => (kk.trans kk3).put (Nat.le_refl h.len) B
  have hw := job_wrote hb hs
  have hat : (jS5 b).2.at_ ≤ b.length ∧ 0 ≤ (jS5 b).2.at_ := by have h1 := J.o5.2.1; have h2 := J.o5.2.2; rw [J.b5] at h2; omega
  by_cases hc : (b.length : Int) ≤ (jS5 b).2.at_
  · have e : jobBP (jobOf b) = b := by
      have hd : b.drop (jS5 b).2.at_.toNat = [] := List.drop_eq_nil_iff.2 (by omega)
      rw [hd, List.append_nil] at hw
      exact hw.symm
    have hno : jobRd b = some (jobOf b) := by unfold jobRd; rw [if_pos ⟨hs, hc⟩]
    simp (maxSteps := 10000000) (maxDischargeDepth := 30) only [e, gd3, gq3, ga3, gx3, la3, lob3, JobR.cells, go_sem, Nat.reduceEqDiff, ↓reduceIte, Nat.reduceAdd, Nat.reduceMul, Nat.reduceLeDiff, Nat.reduceLT, reduceCtorEq, Int.reduceToNat, Int.reduceLE, Int.reduceLT, Int.reduceEq, Int.reduceNeg, Int.reduceNe, Nat.reduceSub, IntKind.bits]
    exact ⟨by unfold okRead17; rw [hno, hpe]; exact ⟨x, rfl, hxp⟩, kf _⟩
  · have e : (jobBP (jobOf b) = b) = False := eq_false fun h => by
      have := congrArg List.length hw
      rw [h, List.length_append, List.length_drop] at this
      omega
    have hno : jobRd b = none := by unfold jobRd; rw [if_neg (fun h => hc h.2)]
    simp (maxSteps := 10000000) (maxDischargeDepth := 30) only [e, gd3, gq3, ga3, gx3, la3, lob3, go_sem, Nat.reduceEqDiff, ↓reduceIte, Nat.reduceAdd, Nat.reduceMul, Nat.reduceLeDiff, Nat.reduceLT, reduceCtorEq, Int.reduceToNat, Int.reduceLE, Int.reduceLT, Int.reduceEq, Int.reduceNeg, Int.reduceNe, Nat.reduceSub, IntKind.bits]
    exact ⟨by unfold okRead17; rw [hno, hpe]; rfl, kf _⟩
end Go.LM
