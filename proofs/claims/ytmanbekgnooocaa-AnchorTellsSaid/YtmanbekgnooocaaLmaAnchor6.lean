import Derived.Test.YtmanbekgnooocaaLmTraR1
import Derived.Test.YtmanbekgnooocaaLmaAnchor5
namespace Go.LM
open Go.Proofs
set_option maxRecDepth 8000
set_option maxHeartbeats 8000000
set_option linter.unusedSimpArgs false

def I24 (o o2 : Option (Nat × Nat)) (a b : List Int) (h0 : H) (i : Nat) (s : S) (h : H) : Prop :=
  s 0 = ints o a ∧ s 1 = ints o2 b ∧ s 5 = .int .i64 i ∧ i ≤ a.length ∧ Keep h0 h ∧ WF h
theorem cInts11 (o o2 : Option (Nat × Nat)) (a : List Int) (hl : a.length ≤ 1000) (h : H) (w : WF h) :
    runI Try.prog TA 24 [ints o a, ints o2 a] h = some (.bool true, hp Try.prog TA 24 [ints o a, ints o2 a] h) := by
  refine pure_of rfl res24 rfl ?_
  simp (maxSteps := 10000000) (maxDischargeDepth := 30) only [q24, r24, go_sem, Nat.reduceEqDiff, ↓reduceIte, Nat.reduceAdd, Nat.reduceMul, Nat.reduceLeDiff, Nat.reduceLT, reduceCtorEq, Int.reduceToNat, Int.reduceLE, Int.reduceLT, Int.reduceEq, Int.reduceNeg, Int.reduceNe, Int.reducePow, Nat.reducePow, Nat.reduceSub, IntKind.bits]
  refine ru_loop (fun i => a.length - i) (I24 o o2 a a h) 0 ?_ ?_
  · unfold I24
    simp (maxSteps := 10000000) (maxDischargeDepth := 30) only [w, Int.natCast_zero, go_sem, Nat.reduceEqDiff, ↓reduceIte, Nat.reduceAdd, Nat.reduceMul, Nat.reduceLeDiff, Nat.reduceLT, reduceCtorEq, Int.reduceToNat, Int.reduceLE, Int.reduceLT, Int.reduceEq, Int.reduceNeg, Int.reduceNe, Int.reducePow, Nat.reducePow, Nat.reduceSub, IntKind.bits]
  · rintro i s h1 ⟨e0, e1, e5, hi, k1, w1⟩
    by_cases hlt : i < a.length
    · obtain ⟨n, hn⟩ : ∃ n, a[i]? = some n := ⟨a[i], List.getElem?_eq_getElem hlt⟩
      have ea := int_at hn
      have c1 : (i : Int) < a.length := by omega
      have ew : IntKind.i64.wrap ((i : Int) + 1) = ((i + 1 : Nat) : Int) := by rw [wrap64 (by omega) (by omega)]; omega
      simp (maxSteps := 10000000) (maxDischargeDepth := 30) only [e0, e1, e5, ea, c1, ew, go_sem, Nat.reduceEqDiff, ↓reduceIte, Nat.reduceAdd, Nat.reduceMul, Nat.reduceLeDiff, Nat.reduceLT, reduceCtorEq, Int.reduceToNat, Int.reduceLE, Int.reduceLT, Int.reduceEq, Int.reduceNeg, Int.reduceNe, Int.reducePow, Nat.reducePow, Nat.reduceSub, IntKind.bits]
      refine ⟨i + 1, by omega, ?_⟩
      unfold I24
      simp (maxSteps := 10000000) (maxDischargeDepth := 30) only [e0, e1, e5, k1, w1, ew, go_sem, Nat.reduceEqDiff, ↓reduceIte, Nat.reduceAdd, Nat.reduceMul, Nat.reduceLeDiff, Nat.reduceLT, reduceCtorEq, Int.reduceToNat, Int.reduceLE, Int.reduceLT, Int.reduceEq, Int.reduceNeg, Int.reduceNe, Int.reducePow, Nat.reducePow, Nat.reduceSub, IntKind.bits]
      omega
    · have c1 : ¬ (i : Int) < a.length := by omega
      simp (maxSteps := 10000000) (maxDischargeDepth := 30) only [e0, e1, e5, c1, k1, go_sem, Nat.reduceEqDiff, ↓reduceIte, Nat.reduceAdd, Nat.reduceMul, Nat.reduceLeDiff, Nat.reduceLT, reduceCtorEq, Int.reduceToNat, Int.reduceLE, Int.reduceLT, Int.reduceEq, Int.reduceNeg, Int.reduceNe, Int.reducePow, Nat.reducePow, Nat.reduceSub, IntKind.bits]
theorem IsMap.up {p : Nat} {l : List ItemR} {fl : List FloatR} {h : H} (m : IsMap p l fl h) : IsMap p l fl h.up := by
  obtain ⟨o, o1, o2, o3, g⟩ := m.get
  exact ⟨o, o1, o2, o3, by rw [get_up]; exact g⟩
theorem lAnchorTells (o o2 : Option (Nat × Nat)) (l : List ItemR) (fl : List FloatR) (a b : Int) : ∃ h', runI Try.prog TA 12 [mkS o 7 (l.map ItemR.e), mkS o2 3 (fl.map FloatR.e), .agg [.int .i64 a, .int .i64 b]] H0 = some (.bool true, h') := by
  refine true_of rfl res12 rfl ?_
  by_cases c0 : (200 : Int) < l.length
  · simp (maxSteps := 10000000) (maxDischargeDepth := 30) only [q12, r12, c0, List.length_map, awAwake21, go_sem, Nat.reduceEqDiff, ↓reduceIte, Nat.reduceAdd, Nat.reduceMul, Nat.reduceLeDiff, Nat.reduceLT, reduceCtorEq, Int.reduceToNat, Int.reduceLE, Int.reduceLT, Int.reduceEq, Int.reduceNeg, Int.reduceNe, Int.reducePow, Nat.reducePow, Nat.reduceSub, IntKind.bits]
  simp (maxSteps := 10000000) (maxDischargeDepth := 30) only [q12, r12, c0, List.length_map, go_sem, Nat.reduceEqDiff, ↓reduceIte, Nat.reduceAdd, Nat.reduceMul, Nat.reduceLeDiff, Nat.reduceLT, reduceCtorEq, Int.reduceToNat, Int.reduceLE, Int.reduceLT, Int.reduceEq, Int.reduceNeg, Int.reduceNe, Int.reducePow, Nat.reducePow, Nat.reduceSub, IntKind.bits]
  have hl : l.length ≤ 1000 := by omega
  generalize hgg : H0.alloc _ = g0
  have k0 : Keep H0 g0 := by rw [← hgg]; exact (Keep.refl H0).alloc _
  have g5 : g0.get H0.len = some ⟨false, [.int .i64 a, .int .i64 b]⟩ := by rw [← hgg]; exact get_alloc_eq _ _
  have w0 := wf0.keep k0
  clear hgg
  refine ro_vcall (cANew o o2 l fl hl g0 w0) (fun v h1 J => ?_)
  obtain ⟨⟨p, rfl, m1⟩, k1⟩ := J
  have w1 := w0.keep k1
  have g51 := (k1.get (lt_of_get g5)).trans g5
  have n5 := numsD_le (l := l) (k := 5) (a := a) (b := b) l.length
  have n6 := numsD_le (l := l) (k := 6) (a := a) (b := b) l.length
  try (simp (maxSteps := 10000000) (maxDischargeDepth := 30) only [g51, go_sem, Nat.reduceEqDiff, ↓reduceIte, Nat.reduceAdd, Nat.reduceMul, Nat.reduceLeDiff, Nat.reduceLT, reduceCtorEq, Int.reduceToNat, Int.reduceLE, Int.reduceLT, Int.reduceEq, Int.reduceNeg, Int.reduceNe, Int.reducePow, Nat.reducePow, Nat.reduceSub, IntKind.bits])
  first
  | refine ro_kcall (cANotes p l fl a b hl h1 w1 m1) w1 (fun h2 k2 w2 => ?_)
  | refine rw_kcall (cANotes p l fl a b hl h1 w1 m1) w1 (fun h2 k2 w2 => ?_)
  | refine rw_kcallD (cANotes p l fl a b hl h1.up (wf_up w1) m1.up) w1 (fun h2 k2 w2 => ?_)
  have m2 := m1.next k2
  have g52 := (k2.get (lt_of_get g51)).trans g51
  simp (maxSteps := 10000000) (maxDischargeDepth := 30) only [g52, go_sem, Nat.reduceEqDiff, ↓reduceIte, Nat.reduceAdd, Nat.reduceMul, Nat.reduceLeDiff, Nat.reduceLT, reduceCtorEq, Int.reduceToNat, Int.reduceLE, Int.reduceLT, Int.reduceEq, Int.reduceNeg, Int.reduceNe, Int.reducePow, Nat.reducePow, Nat.reduceSub, IntKind.bits]
  first
  | refine ro_kcall (cRNums21 o l 5 a b hl h2 w2) w2 (fun h3 k3 w3 => ?_)
  | refine rw_kcall (cRNums21 o l 5 a b hl h2 w2) w2 (fun h3 k3 w3 => ?_)
  | refine rw_kcallD (cRNums21 o l 5 a b hl h2.up (wf_up w2)) w2 (fun h3 k3 w3 => ?_)
  have m3 := m2.next k3
  have g53 := (k3.get (lt_of_get g52)).trans g52
  simp (maxSteps := 10000000) (maxDischargeDepth := 30) only [g53, go_sem, Nat.reduceEqDiff, ↓reduceIte, Nat.reduceAdd, Nat.reduceMul, Nat.reduceLeDiff, Nat.reduceLT, reduceCtorEq, Int.reduceToNat, Int.reduceLE, Int.reduceLT, Int.reduceEq, Int.reduceNeg, Int.reduceNe, Int.reducePow, Nat.reducePow, Nat.reduceSub, IntKind.bits]
  first
  | refine ro_kcall (cInts11 _ _ (numsD l 5 a b l.length) (by omega) h3 w3) w3 (fun h4 k4 w4 => ?_)
  | refine rw_kcall (cInts11 _ _ (numsD l 5 a b l.length) (by omega) h3 w3) w3 (fun h4 k4 w4 => ?_)
  | refine rw_kcallD (cInts11 _ _ (numsD l 5 a b l.length) (by omega) h3.up (wf_up w3)) w3 (fun h4 k4 w4 => ?_)
  have m4 := m3.next k4
  have g54 := (k4.get (lt_of_get g53)).trans g53
  simp (maxSteps := 10000000) (maxDischargeDepth := 30) only [g54, go_sem, Nat.reduceEqDiff, ↓reduceIte, Nat.reduceAdd, Nat.reduceMul, Nat.reduceLeDiff, Nat.reduceLT, reduceCtorEq, Int.reduceToNat, Int.reduceLE, Int.reduceLT, Int.reduceEq, Int.reduceNeg, Int.reduceNe, Int.reducePow, Nat.reducePow, Nat.reduceSub, IntKind.bits]
  first
  | refine ro_kcall (cAFloats p l fl a b hl h4 w4 m4) w4 (fun h5 k5 w5 => ?_)
  | refine rw_kcall (cAFloats p l fl a b hl h4 w4 m4) w4 (fun h5 k5 w5 => ?_)
  | refine rw_kcallD (cAFloats p l fl a b hl h4.up (wf_up w4) m4.up) w4 (fun h5 k5 w5 => ?_)
  have m5 := m4.next k5
  have g55 := (k5.get (lt_of_get g54)).trans g54
  simp (maxSteps := 10000000) (maxDischargeDepth := 30) only [g55, go_sem, Nat.reduceEqDiff, ↓reduceIte, Nat.reduceAdd, Nat.reduceMul, Nat.reduceLeDiff, Nat.reduceLT, reduceCtorEq, Int.reduceToNat, Int.reduceLE, Int.reduceLT, Int.reduceEq, Int.reduceNeg, Int.reduceNe, Int.reducePow, Nat.reducePow, Nat.reduceSub, IntKind.bits]
  first
  | refine ro_kcall (cRNums21 o l 6 a b hl h5 w5) w5 (fun h6 k6 w6 => ?_)
  | refine rw_kcall (cRNums21 o l 6 a b hl h5 w5) w5 (fun h6 k6 w6 => ?_)
  | refine rw_kcallD (cRNums21 o l 6 a b hl h5.up (wf_up w5)) w5 (fun h6 k6 w6 => ?_)
  have m6 := m5.next k6
  have g56 := (k6.get (lt_of_get g55)).trans g55
  simp (maxSteps := 10000000) (maxDischargeDepth := 30) only [g56, go_sem, Nat.reduceEqDiff, ↓reduceIte, Nat.reduceAdd, Nat.reduceMul, Nat.reduceLeDiff, Nat.reduceLT, reduceCtorEq, Int.reduceToNat, Int.reduceLE, Int.reduceLT, Int.reduceEq, Int.reduceNeg, Int.reduceNe, Int.reducePow, Nat.reducePow, Nat.reduceSub, IntKind.bits]
  first
  | refine ro_kcall (cInts11 _ _ (numsD l 6 a b l.length) (by omega) h6 w6) w6 (fun h7 k7 w7 => ?_)
  | refine rw_kcall (cInts11 _ _ (numsD l 6 a b l.length) (by omega) h6 w6) w6 (fun h7 k7 w7 => ?_)
  | refine rw_kcallD (cInts11 _ _ (numsD l 6 a b l.length) (by omega) h6.up (wf_up w6)) w6 (fun h7 k7 w7 => ?_)
  have m7 := m6.next k7
  have g57 := (k7.get (lt_of_get g56)).trans g56
  simp (maxSteps := 10000000) (maxDischargeDepth := 30) only [g57, go_sem, Nat.reduceEqDiff, ↓reduceIte, Nat.reduceAdd, Nat.reduceMul, Nat.reduceLeDiff, Nat.reduceLT, reduceCtorEq, Int.reduceToNat, Int.reduceLE, Int.reduceLT, Int.reduceEq, Int.reduceNeg, Int.reduceNe, Int.reducePow, Nat.reducePow, Nat.reduceSub, IntKind.bits]
  first
  | refine ro_kcall (cABegun p l fl a h7 w7 m7) w7 (fun h8 k8 w8 => ?_)
  | refine rw_kcall (cABegun p l fl a h7 w7 m7) w7 (fun h8 k8 w8 => ?_)
  | refine rw_kcallD (cABegun p l fl a h7.up (wf_up w7) m7.up) w7 (fun h8 k8 w8 => ?_)
  have m8 := m7.next k8
  have g58 := (k8.get (lt_of_get g57)).trans g57
  simp (maxSteps := 10000000) (maxDischargeDepth := 30) only [g58, go_sem, Nat.reduceEqDiff, ↓reduceIte, Nat.reduceAdd, Nat.reduceMul, Nat.reduceLeDiff, Nat.reduceLT, reduceCtorEq, Int.reduceToNat, Int.reduceLE, Int.reduceLT, Int.reduceEq, Int.reduceNeg, Int.reduceNe, Int.reducePow, Nat.reducePow, Nat.reduceSub, IntKind.bits]
  first
  | refine ro_kcall (cRNums21 o l 5 0 a hl h8 w8) w8 (fun h9 k9 w9 => ?_)
  | refine rw_kcall (cRNums21 o l 5 0 a hl h8 w8) w8 (fun h9 k9 w9 => ?_)
  | refine rw_kcallD (cRNums21 o l 5 0 a hl h8.up (wf_up w8)) w8 (fun h9 k9 w9 => ?_)
  have m9 := m8.next k9
  have g59 := (k9.get (lt_of_get g58)).trans g58
  simp (maxSteps := 10000000) (maxDischargeDepth := 30) only [g59, List.length_map, nums_begun, go_sem, Nat.reduceEqDiff, ↓reduceIte, Nat.reduceAdd, Nat.reduceMul, Nat.reduceLeDiff, Nat.reduceLT, reduceCtorEq, Int.reduceToNat, Int.reduceLE, Int.reduceLT, Int.reduceEq, Int.reduceNeg, Int.reduceNe, Int.reducePow, Nat.reducePow, Nat.reduceSub, IntKind.bits]
  first
  | refine ro_kcall (cAAhead p l fl a h9 w9 m9) w9 (fun h10 k10 w10 => ?_)
  | refine rw_kcall (cAAhead p l fl a h9 w9 m9) w9 (fun h10 k10 w10 => ?_)
  | refine rw_kcallD (cAAhead p l fl a h9.up (wf_up w9) m9.up) w9 (fun h10 k10 w10 => ?_)
  have m10 := m9.next k10
  have g510 := (k10.get (lt_of_get g59)).trans g59
  simp (maxSteps := 10000000) (maxDischargeDepth := 30) only [g510, go_sem, Nat.reduceEqDiff, ↓reduceIte, Nat.reduceAdd, Nat.reduceMul, Nat.reduceLeDiff, Nat.reduceLT, reduceCtorEq, Int.reduceToNat, Int.reduceLE, Int.reduceLT, Int.reduceEq, Int.reduceNeg, Int.reduceNe, Int.reducePow, Nat.reducePow, Nat.reduceSub, IntKind.bits]
  first
  | refine ro_kcall (cRAhead21 o o2 l fl a hl h10 w10) w10 (fun h11 k11 w11 => ?_)
  | refine rw_kcall (cRAhead21 o o2 l fl a hl h10 w10) w10 (fun h11 k11 w11 => ?_)
  | refine rw_kcallD (cRAhead21 o o2 l fl a hl h10.up (wf_up w10)) w10 (fun h11 k11 w11 => ?_)
  have m11 := m10.next k11
  have g511 := (k11.get (lt_of_get g510)).trans g510
  simp (maxSteps := 10000000) (maxDischargeDepth := 30) only [g511, aheadD_end, Cnt.e, go_sem, Nat.reduceEqDiff, ↓reduceIte, Nat.reduceAdd, Nat.reduceMul, Nat.reduceLeDiff, Nat.reduceLT, reduceCtorEq, Int.reduceToNat, Int.reduceLE, Int.reduceLT, Int.reduceEq, Int.reduceNeg, Int.reduceNe, Int.reducePow, Nat.reducePow, Nat.reduceSub, IntKind.bits]
  first
  | refine ro_kcall (cADue p l fl a h11 w11 m11) w11 (fun h12 k12 w12 => ?_)
  | refine rw_kcall (cADue p l fl a h11 w11 m11) w11 (fun h12 k12 w12 => ?_)
  | refine rw_kcallD (cADue p l fl a h11.up (wf_up w11) m11.up) w11 (fun h12 k12 w12 => ?_)
  have m12 := m11.next k12
  have g512 := (k12.get (lt_of_get g511)).trans g511
  simp (maxSteps := 10000000) (maxDischargeDepth := 30) only [g512, go_sem, Nat.reduceEqDiff, ↓reduceIte, Nat.reduceAdd, Nat.reduceMul, Nat.reduceLeDiff, Nat.reduceLT, reduceCtorEq, Int.reduceToNat, Int.reduceLE, Int.reduceLT, Int.reduceEq, Int.reduceNeg, Int.reduceNe, Int.reducePow, Nat.reducePow, Nat.reduceSub, IntKind.bits]
  first
  | refine ro_kcall (cRDue21 o o2 l fl a hl h12 w12) w12 (fun h13 k13 w13 => ?_)
  | refine rw_kcall (cRDue21 o o2 l fl a hl h12 w12) w12 (fun h13 k13 w13 => ?_)
  | refine rw_kcallD (cRDue21 o o2 l fl a hl h12.up (wf_up w12)) w12 (fun h13 k13 w13 => ?_)
  have m13 := m12.next k13
  have g513 := (k13.get (lt_of_get g512)).trans g512
  simp (maxSteps := 10000000) (maxDischargeDepth := 30) only [g513, dueD_end, Cnt.e, awAwake21, go_sem, Nat.reduceEqDiff, ↓reduceIte, Nat.reduceAdd, Nat.reduceMul, Nat.reduceLeDiff, Nat.reduceLT, reduceCtorEq, Int.reduceToNat, Int.reduceLE, Int.reduceLT, Int.reduceEq, Int.reduceNeg, Int.reduceNe, Int.reducePow, Nat.reducePow, Nat.reduceSub, IntKind.bits]
end Go.LM
