import Derived.Test.YtpmpdidgbbgeeaaLmTrbR2
import Derived.Test.YtpmpdidgbbgeeaaLmbDecode5
import Derived.Test.YtpmpdidgbbgeeaaLmbEncode10
namespace Go.LM
open Go.Proofs
set_option maxRecDepth 8000
set_option maxHeartbeats 8000000
set_option linter.unusedSimpArgs false
def jobZ : JobR := ⟨⟨0, 0, 0, 0, 0, 0, 0, 0, 0, 0, 0, 0, 0, 0, 0, 0, 0, 0, false⟩, none, [], none, [], none, []⟩
def okJob (b : List Int) (v : LV) : Prop :=
  match jobRd b with
  | some l => ∃ x : JobR, v = .tup [x.e, .int .i64 0] ∧ x.plain = l
  | none => v = .tup [jobZ.e, .int .i64 2]
theorem cDeJob (o : Option (Nat × Nat)) (b : List Int) (hb : ∀ c ∈ b, 0 ≤ c ∧ c < 256) (hl : b.length ≤ 1000000000000) (h : H) (w : WF h) :
    ∃ v h', runI Try.prog TA 66 [byts o b] h = some (v, h') ∧ okJob b v ∧ Keep h h' := by
  refine calls_of rfl res66 rfl ?_
  have lo := w.1
  simp (maxSteps := 10000000) (maxDischargeDepth := 30) only [q66, r66, go_sem, Nat.reduceEqDiff, ↓reduceIte, Nat.reduceAdd, Nat.reduceMul, Nat.reduceLeDiff, Nat.reduceLT, reduceCtorEq, Int.reduceToNat, Int.reduceLE, Int.reduceLT, Int.reduceEq, Int.reduceNeg, Int.reduceNe, Nat.reduceSub, IntKind.bits]
  generalize hgg : h.alloc _ = g0
  have k0 : Keep h g0 := by rw [← hgg]; exact (Keep.refl h).alloc _
  have g00 : g0.get h.len = some ⟨false, jZ⟩ := by rw [← hgg]; exact get_alloc_eq _ _
  clear hgg
  have w0 := w.keep k0
  have l0 := lt_of_get g00
  try (simp (maxSteps := 10000000) (maxDischargeDepth := 30) only [go_sem, Nat.reduceEqDiff, ↓reduceIte, Nat.reduceAdd, Nat.reduceMul, Nat.reduceLeDiff, Nat.reduceLT, reduceCtorEq, Int.reduceToNat, Int.reduceLE, Int.reduceLT, Int.reduceEq, Int.reduceNeg, Int.reduceNe, Nat.reduceSub, IntKind.bits])
  refine ro_vcall (cDeRead o b hb hl g0 w0) (fun v h1 J => ?_)
  obtain ⟨p, d, rfl, R, C, gd, hC⟩ := J
  have kk := R.keep
  have gj := (kk.get l0).trans g00
  have lj := lt_of_get gj
  have lob1 : h1.lob ≤ h.len := by rw [kk.lob, k0.lob]; exact lo
  unfold okJob jobRd
  have J := jok hb
  have hbb := J.b5
  cases hs : (jS5 b).2.stop
  rotate_left
  · have hp := partN_lt hs
    have hq : ¬ partS (partN b) = ⟨#[101, 110, 100]⟩ := by rw [partS_end (partN_le b)]; exact hp
    have kf := (k0.trans kk).put (Nat.le_refl h.len) ⟨false, jZ⟩
    rw [if_neg (by simp)]
    simp (maxSteps := 10000000) (maxDischargeDepth := 30) only [bin_neq_str, hq, lj, lob1, gj, go_sem, Nat.reduceEqDiff, ↓reduceIte, Nat.reduceAdd, Nat.reduceMul, Nat.reduceLeDiff, Nat.reduceLT, reduceCtorEq, Int.reduceToNat, Int.reduceLE, Int.reduceLT, Int.reduceEq, Int.reduceNeg, Int.reduceNe, Nat.reduceSub, IntKind.bits]
    exact ⟨rfl, kf⟩
  have hp := partN_end hs
  have hq : partS (partN b) = ⟨#[101, 110, 100]⟩ := by rw [hp]; rfl
  obtain ⟨x, hx, rfl⟩ := hC hp
  simp (maxSteps := 10000000) (maxDischargeDepth := 30) only [bin_neq_str, hq, gd, go_sem, Nat.reduceEqDiff, ↓reduceIte, Nat.reduceAdd, Nat.reduceMul, Nat.reduceLeDiff, Nat.reduceLT, reduceCtorEq, Int.reduceToNat, Int.reduceLE, Int.reduceLT, Int.reduceEq, Int.reduceNeg, Int.reduceNe, Nat.reduceSub, IntKind.bits]
  refine ro_kcall (vRdEnd p _ h1 R.v R.wf) R.wf (fun h2 k2 w2 => ?_)
  have gj2 := (k2.get lj).trans gj
  have lj2 := lt_of_get gj2
  have gd2 := (k2.get (lt_of_get gd)).trans gd
  have lob2 : h2.lob ≤ h.len := by rw [k2.lob]; exact lob1
  have kk2 := (k0.trans kk).trans k2
  rw [hbb]
  by_cases hc : (b.length : Int) ≤ (jS5 b).2.at_
  · rw [if_pos ⟨hs, hc⟩, if_pos hc]
    have kf := kk2.put (Nat.le_refl h.len) ⟨false, x.cells⟩
    simp (maxSteps := 10000000) (maxDischargeDepth := 30) only [gd2, lj2, lob2, gj2, JobR.cells, go_sem, Nat.reduceEqDiff, ↓reduceIte, Nat.reduceAdd, Nat.reduceMul, Nat.reduceLeDiff, Nat.reduceLT, reduceCtorEq, Int.reduceToNat, Int.reduceLE, Int.reduceLT, Int.reduceEq, Int.reduceNeg, Int.reduceNe, Nat.reduceSub, IntKind.bits]
    exact ⟨⟨x, rfl, hx⟩, kf⟩
  · rw [if_neg (fun h => hc h.2), if_neg hc]
    have kf := kk2.put (Nat.le_refl h.len) ⟨false, jZ⟩
    simp (maxSteps := 10000000) (maxDischargeDepth := 30) only [gd2, lj2, lob2, gj2, go_sem, Nat.reduceEqDiff, ↓reduceIte, Nat.reduceAdd, Nat.reduceMul, Nat.reduceLeDiff, Nat.reduceLT, reduceCtorEq, Int.reduceToNat, Int.reduceLE, Int.reduceLT, Int.reduceEq, Int.reduceNeg, Int.reduceNe, Nat.reduceSub, IntKind.bits]
    exact ⟨rfl, kf⟩
theorem cDeWhere (o : Option (Nat × Nat)) (b : List Int) (hb : ∀ c ∈ b, 0 ≤ c ∧ c < 256) (hl : b.length ≤ 1000000000000) (h : H) (w : WF h) :
    ∃ v h', runI Try.prog TA 67 [byts o b] h = some (v, h') ∧ v = .tup [.str (partS (partN b)), .int .i64 (jS5 b).2.at_] ∧ Keep h h' := by
  refine calls_of rfl res67 rfl ?_
  simp (maxSteps := 10000000) (maxDischargeDepth := 30) only [q67, r67, go_sem, Nat.reduceEqDiff, ↓reduceIte, Nat.reduceAdd, Nat.reduceMul, Nat.reduceLeDiff, Nat.reduceLT, reduceCtorEq, Int.reduceToNat, Int.reduceLE, Int.reduceLT, Int.reduceEq, Int.reduceNeg, Int.reduceNe, Nat.reduceSub, IntKind.bits]
  refine ro_vcall (cDeRead o b hb hl h w) (fun v h1 J => ?_)
  obtain ⟨p, d, rfl, R, C, gd, hC⟩ := J
  have kk := R.keep
  simp (maxSteps := 10000000) (maxDischargeDepth := 30) only [gd, go_sem, Nat.reduceEqDiff, ↓reduceIte, Nat.reduceAdd, Nat.reduceMul, Nat.reduceLeDiff, Nat.reduceLT, reduceCtorEq, Int.reduceToNat, Int.reduceLE, Int.reduceLT, Int.reduceEq, Int.reduceNeg, Int.reduceNe, Nat.reduceSub, IntKind.bits]
  first
  | refine ro_kcall (vRdAt p _ h1 R.v) R.wf (fun h2 k2 w2 => ?_)
  | refine rw_kcall (vRdAt p _ h1 R.v) R.wf (fun h2 k2 w2 => ?_)
  | refine rw_kcallD (vRdAt p _ h1.up R.up) R.wf (fun h2 k2 w2 => ?_)
  have kk2 := kk.trans k2
  simp (maxSteps := 10000000) (maxDischargeDepth := 30) only [kk2, go_sem, Nat.reduceEqDiff, ↓reduceIte, Nat.reduceAdd, Nat.reduceMul, Nat.reduceLeDiff, Nat.reduceLT, reduceCtorEq, Int.reduceToNat, Int.reduceLE, Int.reduceLT, Int.reduceEq, Int.reduceNeg, Int.reduceNe, Nat.reduceSub, IntKind.bits]
end Go.LM
