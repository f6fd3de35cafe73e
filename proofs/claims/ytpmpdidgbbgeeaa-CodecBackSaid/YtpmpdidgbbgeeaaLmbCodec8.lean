import Derived.Test.YtpmpdidgbbgeeaaLmTrbR1
import Derived.Test.YtpmpdidgbbgeeaaLmbCodec7
namespace Go.LM
open Go.Proofs
set_option maxRecDepth 8000
set_option maxHeartbeats 4000000
set_option linter.unusedSimpArgs false

theorem flat_split {α : Type} (f : α → List Int) {l : List α} {i : Nat} {x : α} (hx : l[i]? = some x) : l.flatMap f = (l.take i).flatMap f ++ (f x ++ (l.drop (i + 1)).flatMap f) := by
  obtain ⟨hlt, rfl⟩ := List.getElem?_eq_some_iff.1 hx
  conv => lhs; rw [← List.take_append_drop i l, List.drop_eq_getElem_cons hlt, List.flatMap_append, List.flatMap_cons]
def RAt (B pre : List Int) : RS := ⟨B, pre.length, false⟩
def IBack (o : Option (Nat × Nat)) (l : List OpR) (p i : Nat) (s : S) (hh : H) : Prop :=
  s 0 = mkS o 5 (l.map OpR.e) ∧ s 3 = .ptr p 0 ∧ s 4 = .int .i64 i ∧ i ≤ l.length ∧ Rdr H0 p (RAt (l.flatMap opB) ((l.take i).flatMap opB)) hh
theorem opB_bytes (x : OpR) : ∀ c ∈ opB x, 0 ≤ c ∧ c < 256 := by
  intro c hc
  unfold opB at hc
  split at hc
  · exact strB_bytes _ c hc
  split at hc
  · exact chn_bytes _ c hc
  split at hc
  · simp at hc; subst hc; split <;> omega
  split at hc
  · unfold many at hc
    rcases List.mem_append.1 hc with hc | hc
    · exact chn_bytes _ c hc
    · obtain ⟨n, _, h⟩ := List.mem_flatMap.1 hc
      exact chn_bytes _ c h
  · cases hc
theorem lCodecBack (o : Option (Nat × Nat)) (l : List OpR) (hn : ∀ x ∈ l, x.num) : ∃ h', runI Try.prog TA 12 [mkS o 5 (l.map OpR.e)] H0 = some (.bool true, h') := by
  refine true_of rfl res12 rfl ?_
  obtain ⟨v, e1, hv⟩ := cLarge06 o l H0
  cases v
  rotate_left
  · simp (maxSteps := 10000000) (maxDischargeDepth := 30) only [q12, r12, e1, awAwake06, go_sem, Nat.reduceEqDiff, ↓reduceIte, Nat.reduceAdd, Nat.reduceMul, Nat.reduceLeDiff, Nat.reduceLT, reduceCtorEq, Int.reduceToNat, Int.reduceLE, Int.reduceLT, Int.reduceEq, Int.reduceNeg, Int.reduceNe, Int.reducePow, Nat.reducePow, Nat.reduceSub, IntKind.bits]
  obtain ⟨la, hf⟩ := hv rfl
  have hlen := ops_len' hn hf la
  have hB : ∀ c ∈ l.flatMap opB, 0 ≤ c ∧ c < 256 := by
    intro c hc
    obtain ⟨x, _, h⟩ := List.mem_flatMap.1 hc
    exact opB_bytes x c h
  simp (maxSteps := 10000000) (maxDischargeDepth := 30) only [q12, r12, e1, go_sem, Nat.reduceEqDiff, ↓reduceIte, Nat.reduceAdd, Nat.reduceMul, Nat.reduceLeDiff, Nat.reduceLT, reduceCtorEq, Int.reduceToNat, Int.reduceLE, Int.reduceLT, Int.reduceEq, Int.reduceNeg, Int.reduceNe, Int.reducePow, Nat.reducePow, Nat.reduceSub, IntKind.bits]
  have w1 : WF (hp Try.prog TA 32 [mkS o 5 (l.map OpR.e)] H0) := wf0.keep ((Keep.refl _).hp _ _)
  have k1 : Keep H0 (hp Try.prog TA 32 [mkS o 5 (l.map OpR.e)] H0) := (Keep.refl _).hp _ _
  generalize hp Try.prog TA 32 [mkS o 5 (l.map OpR.e)] H0 = g1 at *
  refine ro_kcall (cLWrite06 o l g1 w1 la hn hf) w1 (fun h2 k2 w2 => ?_)
  simp (maxSteps := 10000000) (maxDischargeDepth := 30) only [go_sem, Nat.reduceEqDiff, ↓reduceIte, Nat.reduceAdd, Nat.reduceMul, Nat.reduceLeDiff, Nat.reduceLT, reduceCtorEq, Int.reduceToNat, Int.reduceLE, Int.reduceLT, Int.reduceEq, Int.reduceNeg, Int.reduceNe, Int.reducePow, Nat.reducePow, Nat.reduceSub, IntKind.bits]
  refine ro_vcall (cROpen H0 _ (l.flatMap opB) (by omega) h2 w2 (k1.trans k2)) (fun v h3 J => ?_)
  obtain ⟨p, rfl, R, k3, hp2⟩ := J
  simp (maxSteps := 10000000) (maxDischargeDepth := 30) only [go_sem, Nat.reduceEqDiff, ↓reduceIte, Nat.reduceAdd, Nat.reduceMul, Nat.reduceLeDiff, Nat.reduceLT, reduceCtorEq, Int.reduceToNat, Int.reduceLE, Int.reduceLT, Int.reduceEq, Int.reduceNeg, Int.reduceNe, Int.reducePow, Nat.reducePow, Nat.reduceSub, IntKind.bits]
  refine ru_loop (fun i => l.length - i) (IBack o l p) 0 ?_ ?_
  · unfold IBack
    simp (maxSteps := 10000000) (maxDischargeDepth := 30) only [Int.natCast_zero, go_sem, Nat.reduceEqDiff, ↓reduceIte, Nat.reduceAdd, Nat.reduceMul, Nat.reduceLeDiff, Nat.reduceLT, reduceCtorEq, Int.reduceToNat, Int.reduceLE, Int.reduceLT, Int.reduceEq, Int.reduceNeg, Int.reduceNe, Int.reducePow, Nat.reducePow, Nat.reduceSub, IntKind.bits]
    simpa [RAt] using R
  · rintro i s hh ⟨e0, e3, e4, hi, R⟩
    by_cases c1 : (i : Int) < l.length
    rotate_left
    · obtain rfl : i = l.length := by omega
      rw [List.take_length] at R
      simp (maxSteps := 10000000) (maxDischargeDepth := 30) only [e0, e3, e4, c1, List.length_map, go_sem, Nat.reduceEqDiff, ↓reduceIte, Nat.reduceAdd, Nat.reduceMul, Nat.reduceLeDiff, Nat.reduceLT, reduceCtorEq, Int.reduceToNat, Int.reduceLE, Int.reduceLT, Int.reduceEq, Int.reduceNeg, Int.reduceNe, Int.reducePow, Nat.reducePow, Nat.reduceSub, IntKind.bits]
      refine ro_kcall (vRdEnd p _ _ R.v R.wf) R.wf (fun h4 k4 w4 => ?_)
      rw [if_pos ⟨rfl, Int.le_refl _⟩]
      simp (maxSteps := 10000000) (maxDischargeDepth := 30) only [awAwake06, go_sem, Nat.reduceEqDiff, ↓reduceIte, Nat.reduceAdd, Nat.reduceMul, Nat.reduceLeDiff, Nat.reduceLT, reduceCtorEq, Int.reduceToNat, Int.reduceLE, Int.reduceLT, Int.reduceEq, Int.reduceNeg, Int.reduceNe, Int.reducePow, Nat.reducePow, Nat.reduceSub, IntKind.bits]
    obtain ⟨x, hx⟩ : ∃ x, l[i]? = some x := ⟨l[i], List.getElem?_eq_getElem (by omega)⟩
    have ia : iaS (l.map OpR.e) (i : Int) = some (.cptr x.e) := iaS_map (Int.natCast_nonneg i) (by simpa using hx)
    have hxf := hf x (List.mem_of_getElem? hx)
    have hxn := hn x (List.mem_of_getElem? hx)
    have hxs := hxf.1
    have hxl := hxf.2
    have hbl : (RAt (l.flatMap opB) ((l.take i).flatMap opB)).b.length ≤ 1000000000000 := by show (l.flatMap opB).length ≤ _; omega
    have ew : IntKind.i64.wrap ((i : Int) + 1) = ((i + 1 : Nat) : Int) := by rw [wrap64 (by omega) (by omega)]; omega
    have hsp := flat_split opB hx
    have hft := flat_take opB hx
    have ok : (RAt (l.flatMap opB) ((l.take i).flatMap opB)).ok := by
      refine ⟨hB, Int.natCast_nonneg _, ?_⟩
      show ((l.take i).flatMap opB).length ≤ ((l.flatMap opB).length : Int)
      have := congrArg List.length hsp
      simp only [List.length_append] at this
      omega
    have hdrop : (RAt (l.flatMap opB) ((l.take i).flatMap opB)).b.drop (RAt (l.flatMap opB) ((l.take i).flatMap opB)).at_.toNat = opB x ++ (l.drop (i + 1)).flatMap opB := by
      show (l.flatMap opB).drop (((l.take i).flatMap opB).length : Int).toNat = _
      rw [Int.toNat_natCast, hsp, List.drop_left]
    have hread : 0 ≤ x.k ∧ x.k ≤ 3 → (RAt (l.flatMap opB) ((l.take i).flatMap opB)).read x = (opL' x, RAt (l.flatMap opB) ((l.take (i + 1)).flatMap opB)) := by
      intro hk
      rw [Reads.op hxn hk ⟨by omega, by omega⟩ _ _ ok rfl hdrop, hft]
      unfold RAt
      simp only [Prod.mk.injEq, true_and, RS.mk.injEq, and_true, List.length_append]
      omega
    by_cases hk : ¬ (0 ≤ x.k ∧ x.k ≤ 3)
    · simp (maxSteps := 10000000) (maxDischargeDepth := 30) only [e0, e3, e4, c1, List.length_map, ia, OpR.e, go_sem, Nat.reduceEqDiff, ↓reduceIte, Nat.reduceAdd, Nat.reduceMul, Nat.reduceLeDiff, Nat.reduceLT, reduceCtorEq, Int.reduceToNat, Int.reduceLE, Int.reduceLT, Int.reduceEq, Int.reduceNeg, Int.reduceNe, Int.reducePow, Nat.reducePow, Nat.reduceSub, IntKind.bits]
      refine ro_vcall (cLRead06 H0 p _ x hh R ok hbl (by omega)) (fun v h4 J => ?_)
      obtain ⟨⟨oa, rfl⟩, R4, O4⟩ := J
      have d0 : ¬ x.k = 0 := by omega
      have d1 : ¬ x.k = 1 := by omega
      have d2 : ¬ x.k = 2 := by omega
      have d3 : ¬ x.k = 3 := by omega
      by_cases dn : x.k < 0
      · simp (maxSteps := 10000000) (maxDischargeDepth := 30) only [e0, e3, e4, ia, OpR.e, d0, d1, d2, d3, dn, awAwake06, go_sem, Nat.reduceEqDiff, ↓reduceIte, Nat.reduceAdd, Nat.reduceMul, Nat.reduceLeDiff, Nat.reduceLT, reduceCtorEq, Int.reduceToNat, Int.reduceLE, Int.reduceLT, Int.reduceEq, Int.reduceNeg, Int.reduceNe, Int.reducePow, Nat.reducePow, Nat.reduceSub, IntKind.bits]
      · have dm : (3 : Int) < x.k := by omega
        simp (maxSteps := 10000000) (maxDischargeDepth := 30) only [e0, e3, e4, ia, OpR.e, d0, d1, d2, d3, dn, dm, awAwake06, go_sem, Nat.reduceEqDiff, ↓reduceIte, Nat.reduceAdd, Nat.reduceMul, Nat.reduceLeDiff, Nat.reduceLT, reduceCtorEq, Int.reduceToNat, Int.reduceLE, Int.reduceLT, Int.reduceEq, Int.reduceNeg, Int.reduceNe, Int.reducePow, Nat.reducePow, Nat.reduceSub, IntKind.bits]
    refine ru_step ?_
    simp (maxSteps := 10000000) (maxDischargeDepth := 30) only [e0, e3, e4, c1, List.length_map, ia, OpR.e, go_sem, Nat.reduceEqDiff, ↓reduceIte, Nat.reduceAdd, Nat.reduceMul, Nat.reduceLeDiff, Nat.reduceLT, reduceCtorEq, Int.reduceToNat, Int.reduceLE, Int.reduceLT, Int.reduceEq, Int.reduceNeg, Int.reduceNe, Int.reducePow, Nat.reducePow, Nat.reduceSub, IntKind.bits]
    refine ro_vcall (cLRead06 H0 p _ x hh R ok hbl (by omega)) (fun v h4 J => ?_)
    obtain ⟨⟨oa, rfl⟩, R4, O4⟩ := J
    have hs0 : ∀ a b : List Int, (RAt a b).stop = false := fun _ _ => rfl
    by_cases d0 : x.k = 0
    · rw [hread (by omega)] at R4 ⊢
      simp (maxSteps := 10000000) (maxDischargeDepth := 30) only [e0, e3, e4, ia, OpR.e, d0, go_sem, Nat.reduceEqDiff, ↓reduceIte, Nat.reduceAdd, Nat.reduceMul, Nat.reduceLeDiff, Nat.reduceLT, reduceCtorEq, Int.reduceToNat, Int.reduceLE, Int.reduceLT, Int.reduceEq, Int.reduceNeg, Int.reduceNe, Int.reducePow, Nat.reducePow, Nat.reduceSub, IntKind.bits]
      first
      | refine ro_kcall (vRdRight p _ _ R4.v) R4.wf (fun h5 k5 w5 => ?_)
      | refine rw_kcall (vRdRight p _ _ R4.v) R4.wf (fun h5 k5 w5 => ?_)
      | refine rw_kcallD (vRdRight p _ _ R4.up) R4.wf (fun h5 k5 w5 => ?_)
      simp (maxSteps := 10000000) (maxDischargeDepth := 30) only [e0, e3, e4, hs0, ew, go_sem, Nat.reduceEqDiff, ↓reduceIte, Nat.reduceAdd, Nat.reduceMul, Nat.reduceLeDiff, Nat.reduceLT, reduceCtorEq, Int.reduceToNat, Int.reduceLE, Int.reduceLT, Int.reduceEq, Int.reduceNeg, Int.reduceNe, Int.reducePow, Nat.reducePow, Nat.reduceSub, IntKind.bits]
      refine ⟨i + 1, by omega, ?_⟩
      unfold IBack
      simp (maxSteps := 10000000) (maxDischargeDepth := 30) only [e0, e3, go_sem, Nat.reduceEqDiff, ↓reduceIte, Nat.reduceAdd, Nat.reduceMul, Nat.reduceLeDiff, Nat.reduceLT, reduceCtorEq, Int.reduceToNat, Int.reduceLE, Int.reduceLT, Int.reduceEq, Int.reduceNeg, Int.reduceNe, Int.reducePow, Nat.reducePow, Nat.reduceSub, IntKind.bits]
      exact ⟨by omega, R4.next k5⟩
    by_cases d1 : x.k = 1
    · rw [hread (by omega)] at R4 ⊢
      have ho : opL' x = [x.n] := by unfold opL'; rw [if_pos d1]
      rw [ho]
      simp (maxSteps := 10000000) (maxDischargeDepth := 30) only [e0, e3, e4, ia, OpR.e, d1, go_sem, Nat.reduceEqDiff, ↓reduceIte, Nat.reduceAdd, Nat.reduceMul, Nat.reduceLeDiff, Nat.reduceLT, reduceCtorEq, Int.reduceToNat, Int.reduceLE, Int.reduceLT, Int.reduceEq, Int.reduceNeg, Int.reduceNe, Int.reducePow, Nat.reducePow, Nat.reduceSub, IntKind.bits]
      have k5 : Keep h4 (h4.nrow 1) := (Keep.refl h4).nrow 1
      have R5 := R4.next k5
      refine ro_kcall (cNums oa (some (h4.rlen, 1)) [x.n] [x.n] (by simp) _ R5.wf) R5.wf (fun h6 k6 w6 => ?_)
      have R6 := R5.next k6
      simp (maxSteps := 10000000) (maxDischargeDepth := 30) only [e0, e3, e4, ia, OpR.e, d1, go_sem, Nat.reduceEqDiff, ↓reduceIte, Nat.reduceAdd, Nat.reduceMul, Nat.reduceLeDiff, Nat.reduceLT, reduceCtorEq, Int.reduceToNat, Int.reduceLE, Int.reduceLT, Int.reduceEq, Int.reduceNeg, Int.reduceNe, Int.reducePow, Nat.reducePow, Nat.reduceSub, IntKind.bits]
      first
      | refine ro_kcall (vRdRight p _ _ R6.v) R6.wf (fun h7 k7 w7 => ?_)
      | refine rw_kcall (vRdRight p _ _ R6.v) R6.wf (fun h7 k7 w7 => ?_)
      simp (maxSteps := 10000000) (maxDischargeDepth := 30) only [e0, e3, e4, hs0, ew, go_sem, Nat.reduceEqDiff, ↓reduceIte, Nat.reduceAdd, Nat.reduceMul, Nat.reduceLeDiff, Nat.reduceLT, reduceCtorEq, Int.reduceToNat, Int.reduceLE, Int.reduceLT, Int.reduceEq, Int.reduceNeg, Int.reduceNe, Int.reducePow, Nat.reducePow, Nat.reduceSub, IntKind.bits]
      refine ⟨i + 1, by omega, ?_⟩
      unfold IBack
      simp (maxSteps := 10000000) (maxDischargeDepth := 30) only [e0, e3, go_sem, Nat.reduceEqDiff, ↓reduceIte, Nat.reduceAdd, Nat.reduceMul, Nat.reduceLeDiff, Nat.reduceLT, reduceCtorEq, Int.reduceToNat, Int.reduceLE, Int.reduceLT, Int.reduceEq, Int.reduceNeg, Int.reduceNe, Int.reducePow, Nat.reducePow, Nat.reduceSub, IntKind.bits]
      exact ⟨by omega, R6.next k7⟩
    by_cases d2 : x.k = 2
    · rw [hread (by omega)] at R4 ⊢
      have ho : opL' x = [boolN x.b] := by unfold opL'; rw [if_neg d1, if_pos d2]
      rw [ho]
      have k5 : Keep h4 (h4.nrow 1) := (Keep.refl h4).nrow 1
      have R5 := R4.next k5
      cases hb : x.b
      · simp (maxSteps := 10000000) (maxDischargeDepth := 30) only [e0, e3, e4, ia, OpR.e, d2, hb, go_sem, Nat.reduceEqDiff, ↓reduceIte, Nat.reduceAdd, Nat.reduceMul, Nat.reduceLeDiff, Nat.reduceLT, reduceCtorEq, Int.reduceToNat, Int.reduceLE, Int.reduceLT, Int.reduceEq, Int.reduceNeg, Int.reduceNe, Int.reducePow, Nat.reducePow, Nat.reduceSub, IntKind.bits]
        refine ro_kcall (cNums oa (some (h4.rlen, 1)) [0] [0] (by simp) _ R5.wf) R5.wf (fun h6 k6 w6 => ?_)
        have R6 := R5.next k6
        simp (maxSteps := 10000000) (maxDischargeDepth := 30) only [e0, e3, e4, ia, OpR.e, go_sem, Nat.reduceEqDiff, ↓reduceIte, Nat.reduceAdd, Nat.reduceMul, Nat.reduceLeDiff, Nat.reduceLT, reduceCtorEq, Int.reduceToNat, Int.reduceLE, Int.reduceLT, Int.reduceEq, Int.reduceNeg, Int.reduceNe, Int.reducePow, Nat.reducePow, Nat.reduceSub, IntKind.bits]
        refine ro_kcall (vRdRight p _ _ R6.v) R6.wf (fun h7 k7 w7 => ?_)
        simp (maxSteps := 10000000) (maxDischargeDepth := 30) only [e0, e3, e4, hs0, ew, go_sem, Nat.reduceEqDiff, ↓reduceIte, Nat.reduceAdd, Nat.reduceMul, Nat.reduceLeDiff, Nat.reduceLT, reduceCtorEq, Int.reduceToNat, Int.reduceLE, Int.reduceLT, Int.reduceEq, Int.reduceNeg, Int.reduceNe, Int.reducePow, Nat.reducePow, Nat.reduceSub, IntKind.bits]
        refine ⟨i + 1, by omega, ?_⟩
        unfold IBack
        simp (maxSteps := 10000000) (maxDischargeDepth := 30) only [e0, e3, go_sem, Nat.reduceEqDiff, ↓reduceIte, Nat.reduceAdd, Nat.reduceMul, Nat.reduceLeDiff, Nat.reduceLT, reduceCtorEq, Int.reduceToNat, Int.reduceLE, Int.reduceLT, Int.reduceEq, Int.reduceNeg, Int.reduceNe, Int.reducePow, Nat.reducePow, Nat.reduceSub, IntKind.bits]
        exact ⟨by omega, R6.next k7⟩
      · simp (maxSteps := 10000000) (maxDischargeDepth := 30) only [e0, e3, e4, ia, OpR.e, d2, hb, go_sem, Nat.reduceEqDiff, ↓reduceIte, Nat.reduceAdd, Nat.reduceMul, Nat.reduceLeDiff, Nat.reduceLT, reduceCtorEq, Int.reduceToNat, Int.reduceLE, Int.reduceLT, Int.reduceEq, Int.reduceNeg, Int.reduceNe, Int.reducePow, Nat.reducePow, Nat.reduceSub, IntKind.bits]
        refine ro_kcall (cNums oa (some (h4.rlen, 1)) [1] [1] (by simp) _ R5.wf) R5.wf (fun h6 k6 w6 => ?_)
        have R6 := R5.next k6
        simp (maxSteps := 10000000) (maxDischargeDepth := 30) only [e0, e3, e4, ia, OpR.e, go_sem, Nat.reduceEqDiff, ↓reduceIte, Nat.reduceAdd, Nat.reduceMul, Nat.reduceLeDiff, Nat.reduceLT, reduceCtorEq, Int.reduceToNat, Int.reduceLE, Int.reduceLT, Int.reduceEq, Int.reduceNeg, Int.reduceNe, Int.reducePow, Nat.reducePow, Nat.reduceSub, IntKind.bits]
        refine ro_kcall (vRdRight p _ _ R6.v) R6.wf (fun h7 k7 w7 => ?_)
        simp (maxSteps := 10000000) (maxDischargeDepth := 30) only [e0, e3, e4, hs0, ew, go_sem, Nat.reduceEqDiff, ↓reduceIte, Nat.reduceAdd, Nat.reduceMul, Nat.reduceLeDiff, Nat.reduceLT, reduceCtorEq, Int.reduceToNat, Int.reduceLE, Int.reduceLT, Int.reduceEq, Int.reduceNeg, Int.reduceNe, Int.reducePow, Nat.reducePow, Nat.reduceSub, IntKind.bits]
        refine ⟨i + 1, by omega, ?_⟩
        unfold IBack
        simp (maxSteps := 10000000) (maxDischargeDepth := 30) only [e0, e3, go_sem, Nat.reduceEqDiff, ↓reduceIte, Nat.reduceAdd, Nat.reduceMul, Nat.reduceLeDiff, Nat.reduceLT, reduceCtorEq, Int.reduceToNat, Int.reduceLE, Int.reduceLT, Int.reduceEq, Int.reduceNeg, Int.reduceNe, Int.reducePow, Nat.reducePow, Nat.reduceSub, IntKind.bits]
        exact ⟨by omega, R6.next k7⟩
    have d3 : x.k = 3 := by omega
    · rw [hread (by omega)] at R4 ⊢
      have ho : opL' x = x.l := by unfold opL'; rw [if_neg d1, if_neg d2, if_pos d3]
      rw [ho]
      simp (maxSteps := 10000000) (maxDischargeDepth := 30) only [e0, e3, e4, ia, OpR.e, d3, go_sem, Nat.reduceEqDiff, ↓reduceIte, Nat.reduceAdd, Nat.reduceMul, Nat.reduceLeDiff, Nat.reduceLT, reduceCtorEq, Int.reduceToNat, Int.reduceLE, Int.reduceLT, Int.reduceEq, Int.reduceNeg, Int.reduceNe, Int.reducePow, Nat.reducePow, Nat.reduceSub, IntKind.bits]
      refine ro_kcall (cNums oa x.o x.l x.l (by omega) _ R4.wf) R4.wf (fun h6 k6 w6 => ?_)
      have R6 := R4.next k6
      simp (maxSteps := 10000000) (maxDischargeDepth := 30) only [e0, e3, e4, ia, OpR.e, go_sem, Nat.reduceEqDiff, ↓reduceIte, Nat.reduceAdd, Nat.reduceMul, Nat.reduceLeDiff, Nat.reduceLT, reduceCtorEq, Int.reduceToNat, Int.reduceLE, Int.reduceLT, Int.reduceEq, Int.reduceNeg, Int.reduceNe, Int.reducePow, Nat.reducePow, Nat.reduceSub, IntKind.bits]
      refine ro_kcall (vRdRight p _ _ R6.v) R6.wf (fun h7 k7 w7 => ?_)
      simp (maxSteps := 10000000) (maxDischargeDepth := 30) only [e0, e3, e4, hs0, ew, go_sem, Nat.reduceEqDiff, ↓reduceIte, Nat.reduceAdd, Nat.reduceMul, Nat.reduceLeDiff, Nat.reduceLT, reduceCtorEq, Int.reduceToNat, Int.reduceLE, Int.reduceLT, Int.reduceEq, Int.reduceNeg, Int.reduceNe, Int.reducePow, Nat.reducePow, Nat.reduceSub, IntKind.bits]
      refine ⟨i + 1, by omega, ?_⟩
      unfold IBack
      simp (maxSteps := 10000000) (maxDischargeDepth := 30) only [e0, e3, go_sem, Nat.reduceEqDiff, ↓reduceIte, Nat.reduceAdd, Nat.reduceMul, Nat.reduceLeDiff, Nat.reduceLT, reduceCtorEq, Int.reduceToNat, Int.reduceLE, Int.reduceLT, Int.reduceEq, Int.reduceNeg, Int.reduceNe, Int.reducePow, Nat.reducePow, Nat.reduceSub, IntKind.bits]
      exact ⟨by omega, R6.next k7⟩
end Go.LM
