import Derived.Test.YtpmpdidgbbgeeaaLmTrbR1
import Derived.Test.YtpmpdidgbbgeeaaLmTrbR2
import Derived.Test.YtpmpdidgbbgeeaaLmbCodec6
namespace Go.LM
open Go.Proofs
set_option maxRecDepth 8000
set_option maxHeartbeats 4000000
set_option linter.unusedSimpArgs false

def INums (o o2 : Option (Nat × Nat)) (a b : List Int) (h0 : H) (i : Nat) (s : S) (h : H) : Prop :=
  s 0 = ints o a ∧ s 1 = ints o2 b ∧ s 5 = .int .i64 i ∧ i ≤ a.length ∧ a.take i = b.take i ∧ Keep h0 h ∧ WF h
theorem cNums (o o2 : Option (Nat × Nat)) (a b : List Int) (hl : a.length ≤ 1000000000000) (h : H) (w : WF h) :
    runI Try.prog TA 43 [ints o a, ints o2 b] h = some (.bool (decide (a = b)), hp Try.prog TA 43 [ints o a, ints o2 b] h) := by
  refine pure_of rfl res43 rfl ?_
  by_cases hab : a.length = b.length
  rotate_left
  · have c0 : ¬ (a.length : Int) = b.length := by omega
    have d0 : decide (a = b) = false := by simp; intro e; exact hab (by rw [e])
    simp (maxSteps := 10000000) (maxDischargeDepth := 30) only [q43, r43, c0, d0, go_sem, Nat.reduceEqDiff, ↓reduceIte, Nat.reduceAdd, Nat.reduceMul, Nat.reduceLeDiff, Nat.reduceLT, reduceCtorEq, Int.reduceToNat, Int.reduceLE, Int.reduceLT, Int.reduceEq, Int.reduceNeg, Int.reduceNe, Int.reducePow, Nat.reducePow, Nat.reduceSub, IntKind.bits]
  have c0 : (a.length : Int) = b.length := by omega
  simp (maxSteps := 10000000) (maxDischargeDepth := 30) only [q43, r43, c0, go_sem, Nat.reduceEqDiff, ↓reduceIte, Nat.reduceAdd, Nat.reduceMul, Nat.reduceLeDiff, Nat.reduceLT, reduceCtorEq, Int.reduceToNat, Int.reduceLE, Int.reduceLT, Int.reduceEq, Int.reduceNeg, Int.reduceNe, Int.reducePow, Nat.reducePow, Nat.reduceSub, IntKind.bits]
  refine ru_loop (fun i => a.length - i) (INums o o2 a b h) 0 ?_ ?_
  · unfold INums
    simp (maxSteps := 10000000) (maxDischargeDepth := 30) only [w, Int.natCast_zero, List.take_zero, go_sem, Nat.reduceEqDiff, ↓reduceIte, Nat.reduceAdd, Nat.reduceMul, Nat.reduceLeDiff, Nat.reduceLT, reduceCtorEq, Int.reduceToNat, Int.reduceLE, Int.reduceLT, Int.reduceEq, Int.reduceNeg, Int.reduceNe, Int.reducePow, Nat.reducePow, Nat.reduceSub, IntKind.bits]
  · rintro i s h1 ⟨e0, e1, e5, hi, ht, k1, w1⟩
    by_cases hlt : i < a.length
    · obtain ⟨n, hn⟩ : ∃ n, a[i]? = some n := ⟨a[i], List.getElem?_eq_getElem hlt⟩
      obtain ⟨m, hm⟩ : ∃ m, b[i]? = some m := ⟨b[i]'(by omega), List.getElem?_eq_getElem (by omega)⟩
      have ea := int_at hn
      have eb := int_at hm
      have c1 : (i : Int) < a.length := by omega
      rw [c0] at c1
      have ew : IntKind.i64.wrap ((i : Int) + 1) = ((i + 1 : Nat) : Int) := by rw [wrap64 (by omega) (by omega)]; omega
      by_cases hnm : n = m
      · subst hnm
        simp (maxSteps := 10000000) (maxDischargeDepth := 30) only [e0, e1, e5, ea, eb, c0, c1, ew, go_sem, Nat.reduceEqDiff, ↓reduceIte, Nat.reduceAdd, Nat.reduceMul, Nat.reduceLeDiff, Nat.reduceLT, reduceCtorEq, Int.reduceToNat, Int.reduceLE, Int.reduceLT, Int.reduceEq, Int.reduceNeg, Int.reduceNe, Int.reducePow, Nat.reducePow, Nat.reduceSub, IntKind.bits]
        refine ⟨i + 1, by omega, ?_⟩
        unfold INums
        simp (maxSteps := 10000000) (maxDischargeDepth := 30) only [e0, e1, e5, k1, w1, ew, go_sem, Nat.reduceEqDiff, ↓reduceIte, Nat.reduceAdd, Nat.reduceMul, Nat.reduceLeDiff, Nat.reduceLT, reduceCtorEq, Int.reduceToNat, Int.reduceLE, Int.reduceLT, Int.reduceEq, Int.reduceNeg, Int.reduceNe, Int.reducePow, Nat.reducePow, Nat.reduceSub, IntKind.bits]
        refine ⟨by omega, ?_⟩
        have := take_map_succ (f := fun x : Int => x) hn hm (by simpa using ht) rfl
        simpa using this
      · have d0 : decide (a = b) = false := by
          simp; intro e; rw [e, hm] at hn; exact hnm (by simpa using hn.symm)
        simp (maxSteps := 10000000) (maxDischargeDepth := 30) only [e0, e1, e5, ea, eb, c0, c1, hnm, k1, d0, go_sem, Nat.reduceEqDiff, ↓reduceIte, Nat.reduceAdd, Nat.reduceMul, Nat.reduceLeDiff, Nat.reduceLT, reduceCtorEq, Int.reduceToNat, Int.reduceLE, Int.reduceLT, Int.reduceEq, Int.reduceNeg, Int.reduceNe, Int.reducePow, Nat.reducePow, Nat.reduceSub, IntKind.bits]
    · have c1 : ¬ (b.length : Int) < b.length := by omega
      obtain rfl : i = a.length := by omega
      have d0 : decide (a = b) = true := by
        rw [List.take_length, hab, List.take_length] at ht
        simpa using ht
      simp (maxSteps := 10000000) (maxDischargeDepth := 30) only [e0, e1, e5, c0, c1, k1, d0, go_sem, Nat.reduceEqDiff, ↓reduceIte, Nat.reduceAdd, Nat.reduceMul, Nat.reduceLeDiff, Nat.reduceLT, reduceCtorEq, Int.reduceToNat, Int.reduceLE, Int.reduceLT, Int.reduceEq, Int.reduceNeg, Int.reduceNe, Int.reducePow, Nat.reducePow, Nat.reduceSub, IntKind.bits]
/-! ### readings that change nothing, where the reader is only read -/
def Rdv (p : Nat) (r : RS) (h : H) : Prop := ∃ o, h.get p = some ⟨false, [bytsL o r.b, .int .i64 r.at_, .bool r.stop]⟩
theorem Rdr.v {h0 : H} {p : Nat} {r : RS} {h : H} (R : Rdr h0 p r h) : Rdv p r h := R.get
theorem Rdr.up {h0 : H} {p : Nat} {r : RS} {h : H} (R : Rdr h0 p r h) : Rdv p r h.up := by obtain ⟨o, hg⟩ := R.get; exact ⟨o, by rw [get_up]; exact hg⟩
theorem vRdRight (p : Nat) (r : RS) (h : H) (R : Rdv p r h) : runI Try.prog TA 46 [.ptr p 0] h = some (.bool (!r.stop), hp Try.prog TA 46 [.ptr p 0] h) := by
  refine pure_of rfl res46 rfl ?_
  obtain ⟨o, hg⟩ := R
  simp (maxSteps := 10000000) (maxDischargeDepth := 30) only [q46, r46, hg, go_sem, Nat.reduceEqDiff, ↓reduceIte, Nat.reduceAdd, Nat.reduceMul, Nat.reduceLeDiff, Nat.reduceLT, reduceCtorEq, Int.reduceToNat, Int.reduceLE, Int.reduceLT, Int.reduceEq, Int.reduceNeg, Int.reduceNe, Int.reducePow, Nat.reducePow, Nat.reduceSub, IntKind.bits]
theorem vRdAt (p : Nat) (r : RS) (h : H) (R : Rdv p r h) : runI Try.prog TA 47 [.ptr p 0] h = some (.int .i64 r.at_, hp Try.prog TA 47 [.ptr p 0] h) := by
  refine pure_of rfl res47 rfl ?_
  obtain ⟨o, hg⟩ := R
  simp (maxSteps := 10000000) (maxDischargeDepth := 30) only [q47, r47, hg, go_sem, Nat.reduceEqDiff, ↓reduceIte, Nat.reduceAdd, Nat.reduceMul, Nat.reduceLeDiff, Nat.reduceLT, reduceCtorEq, Int.reduceToNat, Int.reduceLE, Int.reduceLT, Int.reduceEq, Int.reduceNeg, Int.reduceNe, Int.reducePow, Nat.reducePow, Nat.reduceSub, IntKind.bits]
theorem vRdEnd (p : Nat) (r : RS) (h : H) (R : Rdv p r h) (w : WF h) : runI Try.prog TA 48 [.ptr p 0] h = some (.int .i64 (if r.stop = false ∧ (r.b.length : Int) ≤ r.at_ then 0 else 2), hp Try.prog TA 48 [.ptr p 0] h) := by
  refine pure_of rfl res48 rfl ?_
  obtain ⟨o, hg⟩ := R
  simp (maxSteps := 10000000) (maxDischargeDepth := 30) only [q48, r48, go_sem, Nat.reduceEqDiff, ↓reduceIte, Nat.reduceAdd, Nat.reduceMul, Nat.reduceLeDiff, Nat.reduceLT, reduceCtorEq, Int.reduceToNat, Int.reduceLE, Int.reduceLT, Int.reduceEq, Int.reduceNeg, Int.reduceNe, Int.reducePow, Nat.reducePow, Nat.reduceSub, IntKind.bits]
  refine rw_kcall (vRdRight p r h ⟨o, hg⟩) w (fun h1 k1 w1 => ?_)
  have hg1 := (k1.get (lt_of_get hg)).trans hg
  by_cases hs : r.stop = true
  · rw [if_neg (by simp [hs])]
    simp (maxSteps := 10000000) (maxDischargeDepth := 30) only [hs, k1, go_sem, Nat.reduceEqDiff, ↓reduceIte, Nat.reduceAdd, Nat.reduceMul, Nat.reduceLeDiff, Nat.reduceLT, reduceCtorEq, Int.reduceToNat, Int.reduceLE, Int.reduceLT, Int.reduceEq, Int.reduceNeg, Int.reduceNe, Int.reducePow, Nat.reducePow, Nat.reduceSub, IntKind.bits]
  have hs' : r.stop = false := by simpa using hs
  by_cases hc : r.at_ < r.b.length
  · rw [if_neg (by omega)]
    simp (maxSteps := 10000000) (maxDischargeDepth := 30) only [hs', hg1, List.length_map, hc, k1, go_sem, Nat.reduceEqDiff, ↓reduceIte, Nat.reduceAdd, Nat.reduceMul, Nat.reduceLeDiff, Nat.reduceLT, reduceCtorEq, Int.reduceToNat, Int.reduceLE, Int.reduceLT, Int.reduceEq, Int.reduceNeg, Int.reduceNe, Int.reducePow, Nat.reducePow, Nat.reduceSub, IntKind.bits]
  · rw [if_pos ⟨hs', by omega⟩]
    simp (maxSteps := 10000000) (maxDischargeDepth := 30) only [hs', hg1, List.length_map, hc, k1, go_sem, Nat.reduceEqDiff, ↓reduceIte, Nat.reduceAdd, Nat.reduceMul, Nat.reduceLeDiff, Nat.reduceLT, reduceCtorEq, Int.reduceToNat, Int.reduceLE, Int.reduceLT, Int.reduceEq, Int.reduceNeg, Int.reduceNe, Int.reducePow, Nat.reducePow, Nat.reduceSub, IntKind.bits]
/-- A reader of bytes. -/
theorem cROpen (h0 : H) (o : Option (Nat × Nat)) (b : List Int) (hl : b.length ≤ 1000000000000) (h : H) (w : WF h) (k : Keep h0 h) :
    ∃ v h', runI Try.prog TA 42 [byts o b] h = some (v, h') ∧ ∃ p, v = .ptr p 0 ∧ Rdr h0 p ⟨b, 0, false⟩ h' ∧ Keep h h' ∧ h.len ≤ p := by
  refine calls_of rfl res42 rfl ?_
  simp (maxSteps := 10000000) (maxDischargeDepth := 30) only [q42, r42, go_sem, Nat.reduceEqDiff, ↓reduceIte, Nat.reduceAdd, Nat.reduceMul, Nat.reduceLeDiff, Nat.reduceLT, reduceCtorEq, Int.reduceToNat, Int.reduceLE, Int.reduceLT, Int.reduceEq, Int.reduceNeg, Int.reduceNe, Int.reducePow, Nat.reducePow, Nat.reduceSub, IntKind.bits]
  refine ro_kcall (cCloneB o b (by omega) h w).1 w (fun h1 k1 w1 => ?_)
  simp (maxSteps := 10000000) (maxDischargeDepth := 30) only [go_sem, Nat.reduceEqDiff, ↓reduceIte, Nat.reduceAdd, Nat.reduceMul, Nat.reduceLeDiff, Nat.reduceLT, reduceCtorEq, Int.reduceToNat, Int.reduceLE, Int.reduceLT, Int.reduceEq, Int.reduceNeg, Int.reduceNe, Int.reducePow, Nat.reducePow, Nat.reduceSub, IntKind.bits]
  have k2 := (Keep.refl h1).alloc [byts (tk Try.prog TA 89 [byts o b] h) b, .int .i64 0, .bool false]
  exact ⟨_, rfl, ⟨⟨_, by rw [get_alloc_eq]⟩, by rw [lob_alloc]; exact w1.1, (k.trans k1).len, (k.trans k1).trans k2, w1.keep k2⟩, k1.trans k2, k1.len⟩

def IReads (o o2 : Option (Nat × Nat)) (b : List Int) (l : List OpR) (p q i : Nat) (s : S) (hh : H) : Prop :=
  s 0 = byts o b ∧ s 1 = mkS o2 5 (l.map OpR.e) ∧ s 5 = .ptr p 0 ∧ s 6 = .ptr q 0 ∧ s 7 = .int .i64 i ∧ i ≤ l.length ∧ p ≠ q ∧ ∃ r, r.ok ∧ r.b = b ∧ Rdr H0 p r hh ∧ Rdr H0 q r hh
theorem lCodecReads (o o2 : Option (Nat × Nat)) (b : List Int) (l : List OpR) (hb : ∀ c ∈ b, 0 ≤ c ∧ c < 256) (hn : ∀ x ∈ l, x.num) : ∃ h', runI Try.prog TA 10 [byts o b, mkS o2 5 (l.map OpR.e)] H0 = some (.bool true, h') := by
  refine true_of rfl res10 rfl ?_
  obtain ⟨v, e1, hv⟩ := cLarge06 o2 l H0
  cases v
  rotate_left
  · simp (maxSteps := 10000000) (maxDischargeDepth := 30) only [q10, r10, e1, awAwake06, go_sem, Nat.reduceEqDiff, ↓reduceIte, Nat.reduceAdd, Nat.reduceMul, Nat.reduceLeDiff, Nat.reduceLT, reduceCtorEq, Int.reduceToNat, Int.reduceLE, Int.reduceLT, Int.reduceEq, Int.reduceNeg, Int.reduceNe, Int.reducePow, Nat.reducePow, Nat.reduceSub, IntKind.bits]
  obtain ⟨la, hf⟩ := hv rfl
  by_cases c0 : (500 : Int) < b.length
  · simp (maxSteps := 10000000) (maxDischargeDepth := 30) only [q10, r10, e1, awAwake06, c0, List.length_map, go_sem, Nat.reduceEqDiff, ↓reduceIte, Nat.reduceAdd, Nat.reduceMul, Nat.reduceLeDiff, Nat.reduceLT, reduceCtorEq, Int.reduceToNat, Int.reduceLE, Int.reduceLT, Int.reduceEq, Int.reduceNeg, Int.reduceNe, Int.reducePow, Nat.reducePow, Nat.reduceSub, IntKind.bits]
  simp (maxSteps := 10000000) (maxDischargeDepth := 30) only [q10, r10, e1, c0, List.length_map, go_sem, Nat.reduceEqDiff, ↓reduceIte, Nat.reduceAdd, Nat.reduceMul, Nat.reduceLeDiff, Nat.reduceLT, reduceCtorEq, Int.reduceToNat, Int.reduceLE, Int.reduceLT, Int.reduceEq, Int.reduceNeg, Int.reduceNe, Int.reducePow, Nat.reducePow, Nat.reduceSub, IntKind.bits]
  have w1 : WF (hp Try.prog TA 32 [mkS o2 5 (l.map OpR.e)] H0) := wf0.keep ((Keep.refl _).hp _ _)
  have k1 : Keep H0 (hp Try.prog TA 32 [mkS o2 5 (l.map OpR.e)] H0) := (Keep.refl _).hp _ _
  generalize hp Try.prog TA 32 [mkS o2 5 (l.map OpR.e)] H0 = g1 at *
  refine ro_vcall (cROpen H0 o b (by omega) g1 w1 k1) (fun v h2 J => ?_)
  obtain ⟨p, rfl, R, k2, hp2⟩ := J
  have w2 := R.wf
  have lt2 := R.lt
  simp (maxSteps := 10000000) (maxDischargeDepth := 30) only [w2, go_sem, Nat.reduceEqDiff, ↓reduceIte, Nat.reduceAdd, Nat.reduceMul, Nat.reduceLeDiff, Nat.reduceLT, reduceCtorEq, Int.reduceToNat, Int.reduceLE, Int.reduceLT, Int.reduceEq, Int.reduceNeg, Int.reduceNe, Int.reducePow, Nat.reducePow, Nat.reduceSub, IntKind.bits]
  have k3 := (Keep.refl h2).alloc [byts o b, .int .i64 0, .bool false]
  refine ru_loop (fun i => l.length - i) (IReads o o2 b l p h2.len) 0 ?_ ?_
  · unfold IReads
    simp (maxSteps := 10000000) (maxDischargeDepth := 30) only [Int.natCast_zero, go_sem, Nat.reduceEqDiff, ↓reduceIte, Nat.reduceAdd, Nat.reduceMul, Nat.reduceLeDiff, Nat.reduceLT, reduceCtorEq, Int.reduceToNat, Int.reduceLE, Int.reduceLT, Int.reduceEq, Int.reduceNeg, Int.reduceNe, Int.reducePow, Nat.reducePow, Nat.reduceSub, IntKind.bits]
    refine ⟨by omega, ⟨b, 0, false⟩, ⟨hb, by simp, by simp⟩, rfl, R.next k3, ⟨⟨o, by rw [get_alloc_eq]⟩, by rw [lob_alloc]; exact w2.1, R.keep.len, R.keep.trans k3, w2.keep k3⟩⟩
  · rintro i s hh ⟨e0, e1, e5, e6, e7, hi, hpq, r, ok, hrb, Rp, Rq⟩
    by_cases c1 : (i : Int) < l.length
    rotate_left
    · simp (maxSteps := 10000000) (maxDischargeDepth := 30) only [e0, e1, e5, e6, e7, c1, List.length_map, awAwake06, go_sem, Nat.reduceEqDiff, ↓reduceIte, Nat.reduceAdd, Nat.reduceMul, Nat.reduceLeDiff, Nat.reduceLT, reduceCtorEq, Int.reduceToNat, Int.reduceLE, Int.reduceLT, Int.reduceEq, Int.reduceNeg, Int.reduceNe, Int.reducePow, Nat.reducePow, Nat.reduceSub, IntKind.bits]
    refine ru_step ?_
    obtain ⟨x, hx⟩ : ∃ x, l[i]? = some x := ⟨l[i], List.getElem?_eq_getElem (by omega)⟩
    have ia : iaS (l.map OpR.e) (i : Int) = some (.cptr x.e) := iaS_map (Int.natCast_nonneg i) (by simpa using hx)
    have hxf := hf x (List.mem_of_getElem? hx)
    have hxs := hxf.1
    have hbl : r.b.length ≤ 1000000000000 := by rw [hrb]; omega
    have ew : IntKind.i64.wrap ((i : Int) + 1) = ((i + 1 : Nat) : Int) := by rw [wrap64 (by omega) (by omega)]; omega
    have ok2 := RS.read_ok ok x
    have hrb2 := (r.read_b x).trans hrb
    have hrl : (r.read x).1.length ≤ 1000000000000 := by
      unfold RS.read
      have e1 := each_len RS.int_one ok
      have e2 := each_len RS.bool_one ok
      split
      · simp
      split
      · simp
      split
      · simp
      split
      · omega
      split
      · simp
      split
      · simp
      split
      · simp only [List.length_map]; omega
      · simp
    simp (maxSteps := 10000000) (maxDischargeDepth := 30) only [e0, e1, e5, e6, e7, c1, List.length_map, ia, OpR.e, go_sem, Nat.reduceEqDiff, ↓reduceIte, Nat.reduceAdd, Nat.reduceMul, Nat.reduceLeDiff, Nat.reduceLT, reduceCtorEq, Int.reduceToNat, Int.reduceLE, Int.reduceLT, Int.reduceEq, Int.reduceNeg, Int.reduceNe, Int.reducePow, Nat.reducePow, Nat.reduceSub, IntKind.bits]
    refine rw_vcall (cLRead06 H0 p r x hh Rp ok hbl (by omega)) (fun v h3 J => ?_)
    obtain ⟨⟨oa, rfl⟩, Rp3, O3⟩ := J
    have Rq3 := Rq.otr O3 (Ne.symm hpq) Rp3.keep Rp3.wf
    simp (maxSteps := 10000000) (maxDischargeDepth := 30) only [e0, e1, e5, e6, e7, ia, OpR.e, go_sem, Nat.reduceEqDiff, ↓reduceIte, Nat.reduceAdd, Nat.reduceMul, Nat.reduceLeDiff, Nat.reduceLT, reduceCtorEq, Int.reduceToNat, Int.reduceLE, Int.reduceLT, Int.reduceEq, Int.reduceNeg, Int.reduceNe, Int.reducePow, Nat.reducePow, Nat.reduceSub, IntKind.bits]
    refine rw_vcall (cRRead06 H0 h2.len r x h3 Rq3 ok hbl (by omega)) (fun v h4 J => ?_)
    obtain ⟨⟨ob, rfl⟩, Rq4, O4⟩ := J
    have Rp4 := Rp3.otr O4 hpq Rq4.keep Rq4.wf
    generalize (r.read x).2 = r2 at *
    simp (maxSteps := 10000000) (maxDischargeDepth := 30) only [go_sem, Nat.reduceEqDiff, ↓reduceIte, Nat.reduceAdd, Nat.reduceMul, Nat.reduceLeDiff, Nat.reduceLT, reduceCtorEq, Int.reduceToNat, Int.reduceLE, Int.reduceLT, Int.reduceEq, Int.reduceNeg, Int.reduceNe, Int.reducePow, Nat.reducePow, Nat.reduceSub, IntKind.bits]
    refine rw_kcall (cNums oa ob _ _ hrl h4 Rp4.wf) Rp4.wf (fun h5 k5 w5 => ?_)
    have Rp5 := Rp4.next k5
    have Rq5 := Rq4.next k5
    simp (maxSteps := 10000000) (maxDischargeDepth := 30) only [e0, e1, e5, e6, e7, go_sem, Nat.reduceEqDiff, ↓reduceIte, Nat.reduceAdd, Nat.reduceMul, Nat.reduceLeDiff, Nat.reduceLT, reduceCtorEq, Int.reduceToNat, Int.reduceLE, Int.reduceLT, Int.reduceEq, Int.reduceNeg, Int.reduceNe, Int.reducePow, Nat.reducePow, Nat.reduceSub, IntKind.bits]
    refine rw_kcallD (vRdRight p r2 _ Rp5.up) w5 (fun h6 k6 w6 => ?_)
    have Rp6 := Rp5.next k6
    have Rq6 := Rq5.next k6
    obtain ⟨o6, hg6⟩ := Rq6.get
    have eb : (!decide ((!r2.stop) = r2.stop)) = true := by cases r2.stop <;> rfl
    have eb2 : ((!r2.stop) == r2.stop) = false := by cases r2.stop <;> rfl
    simp (maxSteps := 10000000) (maxDischargeDepth := 30) only [e0, e1, e5, e6, e7, hg6, eb, eb2, go_sem, Nat.reduceEqDiff, ↓reduceIte, Nat.reduceAdd, Nat.reduceMul, Nat.reduceLeDiff, Nat.reduceLT, reduceCtorEq, Int.reduceToNat, Int.reduceLE, Int.reduceLT, Int.reduceEq, Int.reduceNeg, Int.reduceNe, Int.reducePow, Nat.reducePow, Nat.reduceSub, IntKind.bits]
    refine rw_kcallD (vRdAt p r2 _ Rp6.up) w6 (fun h7 k7 w7 => ?_)
    have Rp7 := Rp6.next k7
    have Rq7 := Rq6.next k7
    obtain ⟨o7, hg7⟩ := Rq7.get
    simp (maxSteps := 10000000) (maxDischargeDepth := 30) only [e0, e1, e5, e6, e7, hg7, go_sem, Nat.reduceEqDiff, ↓reduceIte, Nat.reduceAdd, Nat.reduceMul, Nat.reduceLeDiff, Nat.reduceLT, reduceCtorEq, Int.reduceToNat, Int.reduceLE, Int.reduceLT, Int.reduceEq, Int.reduceNeg, Int.reduceNe, Int.reducePow, Nat.reducePow, Nat.reduceSub, IntKind.bits]
    refine rw_kcallD (vRdEnd p r2 _ Rp7.up (wf_up w7)) w7 (fun h8 k8 w8 => ?_)
    have Rp8 := Rp7.next k8
    have Rq8 := Rq7.next k8
    obtain ⟨o8, hg8⟩ := Rq8.get
    have a1 := ok2.2.2
    by_cases hs : r2.stop = true
    · rw [if_neg (by simp [hs])]
      simp (maxSteps := 10000000) (maxDischargeDepth := 30) only [e0, e1, e5, e6, e7, hg8, hs, ew, go_sem, Nat.reduceEqDiff, ↓reduceIte, Nat.reduceAdd, Nat.reduceMul, Nat.reduceLeDiff, Nat.reduceLT, reduceCtorEq, Int.reduceToNat, Int.reduceLE, Int.reduceLT, Int.reduceEq, Int.reduceNeg, Int.reduceNe, Int.reducePow, Nat.reducePow, Nat.reduceSub, IntKind.bits]
      refine ⟨i + 1, by omega, ?_⟩
      unfold IReads
      simp (maxSteps := 10000000) (maxDischargeDepth := 30) only [e0, e1, e5, e6, e7, go_sem, Nat.reduceEqDiff, ↓reduceIte, Nat.reduceAdd, Nat.reduceMul, Nat.reduceLeDiff, Nat.reduceLT, reduceCtorEq, Int.reduceToNat, Int.reduceLE, Int.reduceLT, Int.reduceEq, Int.reduceNeg, Int.reduceNe, Int.reducePow, Nat.reducePow, Nat.reduceSub, IntKind.bits]
      exact ⟨by omega, hpq, r2, ok2, hrb2, Rp8, Rq8⟩
    have hs' : r2.stop = false := by simpa using hs
    by_cases he : r2.at_ = b.length
    · rw [if_pos ⟨hs', by rw [hrb2]; omega⟩]
      simp (maxSteps := 10000000) (maxDischargeDepth := 30) only [e0, e1, e5, e6, e7, hg8, hs', he, List.length_map, ew, go_sem, Nat.reduceEqDiff, ↓reduceIte, Nat.reduceAdd, Nat.reduceMul, Nat.reduceLeDiff, Nat.reduceLT, reduceCtorEq, Int.reduceToNat, Int.reduceLE, Int.reduceLT, Int.reduceEq, Int.reduceNeg, Int.reduceNe, Int.reducePow, Nat.reducePow, Nat.reduceSub, IntKind.bits]
      refine ⟨i + 1, by omega, ?_⟩
      unfold IReads
      simp (maxSteps := 10000000) (maxDischargeDepth := 30) only [e0, e1, e5, e6, e7, go_sem, Nat.reduceEqDiff, ↓reduceIte, Nat.reduceAdd, Nat.reduceMul, Nat.reduceLeDiff, Nat.reduceLT, reduceCtorEq, Int.reduceToNat, Int.reduceLE, Int.reduceLT, Int.reduceEq, Int.reduceNeg, Int.reduceNe, Int.reducePow, Nat.reducePow, Nat.reduceSub, IntKind.bits]
      exact ⟨by omega, hpq, r2, ok2, hrb2, Rp8, Rq8⟩
    · rw [if_neg (by rw [hrb2] at a1 ⊢; omega)]
      simp (maxSteps := 10000000) (maxDischargeDepth := 30) only [e0, e1, e5, e6, e7, hg8, hs', he, List.length_map, ew, go_sem, Nat.reduceEqDiff, ↓reduceIte, Nat.reduceAdd, Nat.reduceMul, Nat.reduceLeDiff, Nat.reduceLT, reduceCtorEq, Int.reduceToNat, Int.reduceLE, Int.reduceLT, Int.reduceEq, Int.reduceNeg, Int.reduceNe, Int.reducePow, Nat.reducePow, Nat.reduceSub, IntKind.bits]
      refine ⟨i + 1, by omega, ?_⟩
      unfold IReads
      simp (maxSteps := 10000000) (maxDischargeDepth := 30) only [e0, e1, e5, e6, e7, go_sem, Nat.reduceEqDiff, ↓reduceIte, Nat.reduceAdd, Nat.reduceMul, Nat.reduceLeDiff, Nat.reduceLT, reduceCtorEq, Int.reduceToNat, Int.reduceLE, Int.reduceLT, Int.reduceEq, Int.reduceNeg, Int.reduceNe, Int.reducePow, Nat.reducePow, Nat.reduceSub, IntKind.bits]
      exact ⟨by omega, hpq, r2, ok2, hrb2, Rp8, Rq8⟩
end Go.LM
