import Derived.Test.YtpmpdidgbbgeeaaLmTrbR2
import Derived.Test.YtpmpdidgbbgeeaaLmTrbR3
import Derived.Test.YtpmpdidgbbgeeaaLmbCodecW2
import Derived.Test.YtpmpdidgbbgeeaaLmbRGet
import Derived.Test.YtpmpdidgbbgeeaaLmB8
namespace Go.LM
open Go.Proofs
set_option maxRecDepth 8000
set_option maxHeartbeats 2000000
set_option linter.unusedSimpArgs false

theorem cRdRight (h0 : H) (p : Nat) (r : RS) (h : H) (R : Rdr h0 p r h) : runI Try.prog TA 46 [.ptr p 0] h = some (.bool (!r.stop), hp Try.prog TA 46 [.ptr p 0] h) := by
  refine pure_of rfl res46 rfl ?_
  obtain ⟨o, hg⟩ := R.get
  simp (maxSteps := 10000000) (maxDischargeDepth := 30) only [q46, r46, hg, go_sem, Nat.reduceEqDiff, ↓reduceIte, Nat.reduceAdd, Nat.reduceMul, Nat.reduceLeDiff, Nat.reduceLT, reduceCtorEq, Int.reduceToNat, Int.reduceLE, Int.reduceLT, Int.reduceEq, Int.reduceNeg, Int.reduceNe, Int.reducePow, Nat.reducePow, Nat.reduceSub, IntKind.bits]
theorem cRdStop (h0 : H) (p : Nat) (r : RS) (h : H) (R : Rdr h0 p r h) : ∃ h', runI Try.prog TA 59 [.ptr p 0] h = some (.tup [], h') ∧ Rdr h0 p r.halt h' ∧ Otr p h h' := by
  refine calls_ex rfl res59 rfl ?_
  obtain ⟨o, hg⟩ := R.get
  have lw := R.lob
  have lt := R.lt
  simp (maxSteps := 10000000) (maxDischargeDepth := 30) only [q59, r59, hg, lw, lt, go_sem, Nat.reduceEqDiff, ↓reduceIte, Nat.reduceAdd, Nat.reduceMul, Nat.reduceLeDiff, Nat.reduceLT, reduceCtorEq, Int.reduceToNat, Int.reduceLE, Int.reduceLT, Int.reduceEq, Int.reduceNeg, Int.reduceNe, Int.reducePow, Nat.reducePow, Nat.reduceSub, IntKind.bits]
  exact R.put o r.halt
theorem cRdInt (h0 : H) (p : Nat) (r : RS) (h : H) (R : Rdr h0 p r h) (ok : r.ok) (hl : r.b.length ≤ 1000000000000) : ∃ h', runI Try.prog TA 61 [.ptr p 0] h = some (.int .i64 r.int.1, h') ∧ Rdr h0 p r.int.2 h' ∧ Otr p h h' := by
  refine calls_ex rfl res61 rfl ?_
  by_cases hs : r.stop = true
  · have e : r.int = (0, r) := by unfold RS.int; rw [if_pos hs]
    rw [e]
    simp (maxSteps := 10000000) (maxDischargeDepth := 30) only [q61, r61, go_sem, Nat.reduceEqDiff, ↓reduceIte, Nat.reduceAdd, Nat.reduceMul, Nat.reduceLeDiff, Nat.reduceLT, reduceCtorEq, Int.reduceToNat, Int.reduceLE, Int.reduceLT, Int.reduceEq, Int.reduceNeg, Int.reduceNe, Int.reducePow, Nat.reducePow, Nat.reduceSub, IntKind.bits]
    refine ro_kcall (cRdRight h0 p r h R) R.wf (fun h1 k1 w1 => ?_)
    simp (maxSteps := 10000000) (maxDischargeDepth := 30) only [hs, go_sem, Nat.reduceEqDiff, ↓reduceIte, Nat.reduceAdd, Nat.reduceMul, Nat.reduceLeDiff, Nat.reduceLT, reduceCtorEq, Int.reduceToNat, Int.reduceLE, Int.reduceLT, Int.reduceEq, Int.reduceNeg, Int.reduceNe, Int.reducePow, Nat.reducePow, Nat.reduceSub, IntKind.bits]
    exact ⟨R.next k1, k1.otr p⟩
  have hs' : r.stop = false := by simpa using hs
  simp (maxSteps := 10000000) (maxDischargeDepth := 30) only [q61, r61, go_sem, Nat.reduceEqDiff, ↓reduceIte, Nat.reduceAdd, Nat.reduceMul, Nat.reduceLeDiff, Nat.reduceLT, reduceCtorEq, Int.reduceToNat, Int.reduceLE, Int.reduceLT, Int.reduceEq, Int.reduceNeg, Int.reduceNe, Int.reducePow, Nat.reducePow, Nat.reduceSub, IntKind.bits]
  refine ro_kcall (cRdRight h0 p r h R) R.wf (fun h1 k1 w1 => ?_)
  have R1 := R.next k1
  obtain ⟨o, hg⟩ := R1.get
  have lw := R1.lob
  have lt := R1.lt
  have ok2 := ok.2.1
  have ok3 := ok.2.2
  simp (maxSteps := 10000000) (maxDischargeDepth := 30) only [hs', hg, go_sem, Nat.reduceEqDiff, ↓reduceIte, Nat.reduceAdd, Nat.reduceMul, Nat.reduceLeDiff, Nat.reduceLT, reduceCtorEq, Int.reduceToNat, Int.reduceLE, Int.reduceLT, Int.reduceEq, Int.reduceNeg, Int.reduceNe, Int.reducePow, Nat.reducePow, Nat.reduceSub, IntKind.bits]
  refine rw_kcall (cGet o r.b r.at_ hl ok.1 (by omega) (by omega) h1 w1) w1 (fun h2 k2 w2 => ?_)
  have R2 := R1.next k2
  by_cases hz : (getL r.b r.at_).2.2 = 0
  · have e : r.int = ((getL r.b r.at_).1, { r with at_ := (getL r.b r.at_).2.1 }) := by unfold RS.int; rw [if_neg hs]; simp only [hz]; rfl
    rw [e]
    have hg2 := (k2.get lt).trans hg
    have lw2 := R2.lob
    have lt2 := R2.lt
    simp (maxSteps := 10000000) (maxDischargeDepth := 30) only [hz, hg2, lw2, lt2, go_sem, Nat.reduceEqDiff, ↓reduceIte, Nat.reduceAdd, Nat.reduceMul, Nat.reduceLeDiff, Nat.reduceLT, reduceCtorEq, Int.reduceToNat, Int.reduceLE, Int.reduceLT, Int.reduceEq, Int.reduceNeg, Int.reduceNe, Int.reducePow, Nat.reducePow, Nat.reduceSub, IntKind.bits]
    have S1 := R2.put o { r with at_ := (getL r.b r.at_).2.1 }
    exact ⟨S1.1, ((k1.trans k2).otr p).trans S1.2⟩
  · have e : r.int = (0, r.halt) := by unfold RS.int; rw [if_neg hs]; simp only [ne_eq, hz, not_false_eq_true, ↓reduceIte]
    rw [e]
    simp (maxSteps := 10000000) (maxDischargeDepth := 30) only [hz, go_sem, Nat.reduceEqDiff, ↓reduceIte, Nat.reduceAdd, Nat.reduceMul, Nat.reduceLeDiff, Nat.reduceLT, reduceCtorEq, Int.reduceToNat, Int.reduceLE, Int.reduceLT, Int.reduceEq, Int.reduceNeg, Int.reduceNe, Int.reducePow, Nat.reducePow, Nat.reduceSub, IntKind.bits]
    refine ro_wcall (cRdStop h0 p r h2 R2) (fun h3 J => ?_)
    simp (maxSteps := 10000000) (maxDischargeDepth := 30) only [go_sem, Nat.reduceEqDiff, ↓reduceIte, Nat.reduceAdd, Nat.reduceMul, Nat.reduceLeDiff, Nat.reduceLT, reduceCtorEq, Int.reduceToNat, Int.reduceLE, Int.reduceLT, Int.reduceEq, Int.reduceNeg, Int.reduceNe, Int.reducePow, Nat.reducePow, Nat.reduceSub, IntKind.bits]
    exact ⟨J.1, ((k1.trans k2).otr p).trans J.2⟩

/-! ### the document's reader -/
theorem cXInt (h0 : H) (p : Nat) (r : RS) (h : H) (R : Rdr h0 p r h) (ok : r.ok) (hl : r.b.length ≤ 1000000000000) : ∃ h', runI Try.prog TA 91 [.ptr p 0] h = some (.int .i64 r.int.1, h') ∧ Rdr h0 p r.int.2 h' ∧ Otr p h h' := by
  refine calls_ex rfl res91 rfl ?_
  obtain ⟨o, hg⟩ := R.get
  have lw := R.lob
  have lt := R.lt
  have ok2 := ok.2.1
  have ok3 := ok.2.2
  by_cases hs : r.stop = true
  · have e : r.int = (0, r) := by unfold RS.int; rw [if_pos hs]
    rw [e]
    simp (maxSteps := 10000000) (maxDischargeDepth := 30) only [q91, r91, hg, hs, go_sem, Nat.reduceEqDiff, ↓reduceIte, Nat.reduceAdd, Nat.reduceMul, Nat.reduceLeDiff, Nat.reduceLT, reduceCtorEq, Int.reduceToNat, Int.reduceLE, Int.reduceLT, Int.reduceEq, Int.reduceNeg, Int.reduceNe, Int.reducePow, Nat.reducePow, Nat.reduceSub, IntKind.bits]
    exact ⟨R, .refl _ _⟩
  have hs' : r.stop = false := by simpa using hs
  simp (maxSteps := 10000000) (maxDischargeDepth := 30) only [q91, r91, hg, hs', go_sem, Nat.reduceEqDiff, ↓reduceIte, Nat.reduceAdd, Nat.reduceMul, Nat.reduceLeDiff, Nat.reduceLT, reduceCtorEq, Int.reduceToNat, Int.reduceLE, Int.reduceLT, Int.reduceEq, Int.reduceNeg, Int.reduceNe, Int.reducePow, Nat.reducePow, Nat.reduceSub, IntKind.bits]
  refine rw_kcall (cRGet o r.b r.at_ hl ok.1 (by omega) (by omega) h R.wf) R.wf (fun h2 k2 w2 => ?_)
  have hlo := w2.1
  simp (maxSteps := 10000000) (maxDischargeDepth := 30) only [hlo, go_sem, Nat.reduceEqDiff, ↓reduceIte, Nat.reduceAdd, Nat.reduceMul, Nat.reduceLeDiff, Nat.reduceLT, reduceCtorEq, Int.reduceToNat, Int.reduceLE, Int.reduceLT, Int.reduceEq, Int.reduceNeg, Int.reduceNe, Int.reducePow, Nat.reducePow, Nat.reduceSub, IntKind.bits]
  generalize hgg : H.put _ _ _ = g
  have kg : Keep h2 g := by rw [← hgg]; exact ((Keep.refl h2).alloc _).put (Nat.le_refl _) _
  have gq : g.get h2.len = some ⟨false, [.int .i64 (getL r.b r.at_).1, .int .i64 (getL r.b r.at_).2.1, .int .i64 (getL r.b r.at_).2.2]⟩ := by rw [← hgg]; simp (maxSteps := 10000000) (maxDischargeDepth := 30) only [go_sem, Nat.reduceEqDiff, ↓reduceIte, Nat.reduceAdd, Nat.reduceMul, Nat.reduceLeDiff, Nat.reduceLT, reduceCtorEq, Int.reduceToNat, Int.reduceLE, Int.reduceLT, Int.reduceEq, Int.reduceNeg, Int.reduceNe, Int.reducePow, Nat.reducePow, Nat.reduceSub, IntKind.bits]
  have Rg := (R.next k2).next kg
  have hgp := ((k2.trans kg).get lt).trans hg
  have lwg := Rg.lob
  have ltg := Rg.lt
  have hne : h2.len ≠ p := by have := (R.next k2).lt; omega
  by_cases hz : (getL r.b r.at_).2.2 = 0
  · have e : r.int = ((getL r.b r.at_).1, { r with at_ := (getL r.b r.at_).2.1 }) := by unfold RS.int; rw [if_neg hs]; simp only [hz]; rfl
    rw [e]
    simp (maxSteps := 10000000) (maxDischargeDepth := 30) only [hz, gq, hgp, lwg, ltg, go_sem, Nat.reduceEqDiff, ↓reduceIte, Nat.reduceAdd, Nat.reduceMul, Nat.reduceLeDiff, Nat.reduceLT, reduceCtorEq, Int.reduceToNat, Int.reduceLE, Int.reduceLT, Int.reduceEq, Int.reduceNeg, Int.reduceNe, Int.reducePow, Nat.reducePow, Nat.reduceSub, IntKind.bits]
    have gq2 := (get_put_ne (h := g) (B := ⟨false, [bytsL o r.b, .int .i64 (getL r.b r.at_).2.1, .bool r.stop]⟩) (Ne.symm hne)).trans gq
    simp (maxSteps := 10000000) (maxDischargeDepth := 30) only [gq2, go_sem, Nat.reduceEqDiff, ↓reduceIte, Nat.reduceAdd, Nat.reduceMul, Nat.reduceLeDiff, Nat.reduceLT, reduceCtorEq, Int.reduceToNat, Int.reduceLE, Int.reduceLT, Int.reduceEq, Int.reduceNeg, Int.reduceNe, Int.reducePow, Nat.reducePow, Nat.reduceSub, IntKind.bits]
    have S1 := Rg.put o { r with at_ := (getL r.b r.at_).2.1 }
    exact ⟨S1.1, ((k2.trans kg).otr p).trans S1.2⟩
  · have e : r.int = (0, r.halt) := by unfold RS.int; rw [if_neg hs]; simp only [ne_eq, hz, not_false_eq_true, ↓reduceIte]
    rw [e]
    simp (maxSteps := 10000000) (maxDischargeDepth := 30) only [hz, hgp, lwg, ltg, go_sem, Nat.reduceEqDiff, ↓reduceIte, Nat.reduceAdd, Nat.reduceMul, Nat.reduceLeDiff, Nat.reduceLT, reduceCtorEq, Int.reduceToNat, Int.reduceLE, Int.reduceLT, Int.reduceEq, Int.reduceNeg, Int.reduceNe, Int.reducePow, Nat.reducePow, Nat.reduceSub, IntKind.bits]
    have S1 := Rg.put o r.halt
    exact ⟨S1.1, ((k2.trans kg).otr p).trans S1.2⟩

theorem cRdCount (h0 : H) (p : Nat) (r : RS) (h : H) (R : Rdr h0 p r h) (ok : r.ok) (hl : r.b.length ≤ 1000000000000) : ∃ h', runI Try.prog TA 63 [.ptr p 0] h = some (.int .i64 r.count.1, h') ∧ Rdr h0 p r.count.2 h' ∧ Otr p h h' := by
  refine calls_ex rfl res63 rfl ?_
  by_cases hs : r.stop = true
  · have e : r.count = (0, r) := by unfold RS.count; rw [if_pos hs]
    rw [e]
    simp (maxSteps := 10000000) (maxDischargeDepth := 30) only [q63, r63, go_sem, Nat.reduceEqDiff, ↓reduceIte, Nat.reduceAdd, Nat.reduceMul, Nat.reduceLeDiff, Nat.reduceLT, reduceCtorEq, Int.reduceToNat, Int.reduceLE, Int.reduceLT, Int.reduceEq, Int.reduceNeg, Int.reduceNe, Int.reducePow, Nat.reducePow, Nat.reduceSub, IntKind.bits]
    refine ro_kcall (cRdRight h0 p r h R) R.wf (fun h1 k1 w1 => ?_)
    simp (maxSteps := 10000000) (maxDischargeDepth := 30) only [hs, go_sem, Nat.reduceEqDiff, ↓reduceIte, Nat.reduceAdd, Nat.reduceMul, Nat.reduceLeDiff, Nat.reduceLT, reduceCtorEq, Int.reduceToNat, Int.reduceLE, Int.reduceLT, Int.reduceEq, Int.reduceNeg, Int.reduceNe, Int.reducePow, Nat.reducePow, Nat.reduceSub, IntKind.bits]
    exact ⟨R.next k1, k1.otr p⟩
  have hs' : r.stop = false := by simpa using hs
  simp (maxSteps := 10000000) (maxDischargeDepth := 30) only [q63, r63, go_sem, Nat.reduceEqDiff, ↓reduceIte, Nat.reduceAdd, Nat.reduceMul, Nat.reduceLeDiff, Nat.reduceLT, reduceCtorEq, Int.reduceToNat, Int.reduceLE, Int.reduceLT, Int.reduceEq, Int.reduceNeg, Int.reduceNe, Int.reducePow, Nat.reducePow, Nat.reduceSub, IntKind.bits]
  refine ro_kcall (cRdRight h0 p r h R) R.wf (fun h1 k1 w1 => ?_)
  have R1 := R.next k1
  obtain ⟨o, hg⟩ := R1.get
  simp (maxSteps := 10000000) (maxDischargeDepth := 30) only [hs', hg, go_sem, Nat.reduceEqDiff, ↓reduceIte, Nat.reduceAdd, Nat.reduceMul, Nat.reduceLeDiff, Nat.reduceLT, reduceCtorEq, Int.reduceToNat, Int.reduceLE, Int.reduceLT, Int.reduceEq, Int.reduceNeg, Int.reduceNe, Int.reducePow, Nat.reducePow, Nat.reduceSub, IntKind.bits]
  refine ro_wcall (cRdInt h0 p r h1 R1 ok hl) (fun h2 J => ?_)
  obtain ⟨R2, O2⟩ := J
  have hi := RS.int_ok ok
  have hb := r.int_b
  obtain ⟨o2, hg2⟩ := R2.get
  have lw2 := R2.lob
  have lt2 := R2.lt
  have ok1 := hi.1.2.1
  have ok2 := hi.1.2.2
  rw [hb] at ok2
  have ew : IntKind.i64.wrap ((r.b.length : Int) - r.int.2.at_) = (r.b.length : Int) - r.int.2.at_ := wrap64 (by omega) (by omega)
  have hstop : ∀ v : Int, (r.int.1 < 0 ∨ r.int.1 > r.b.length - r.int.2.at_) → r.count = (0, { r.int.2 with at_ := r.at_, stop := true }) := by
    intro _ hc
    unfold RS.count; rw [if_neg hs]; dsimp only; rw [if_pos hc]
  by_cases hn : r.int.1 < 0
  · have e := hstop 0 (.inl hn)
    rw [e]
    have Rg : Rdr h0 p { r.int.2 with at_ := r.at_ } (h2.put p ⟨false, [bytsL o2 r.int.2.b, .int .i64 r.at_, .bool r.int.2.stop]⟩) :=
      ⟨⟨o2, by rw [get_put_eq (by omega)]⟩, by rw [lob_put]; exact lw2, R.new, R2.keep.put R.new _, wf_put R2.wf⟩
    have Og : Otr p h2 (h2.put p ⟨false, [bytsL o2 r.int.2.b, .int .i64 r.at_, .bool r.int.2.stop]⟩) := .put _ _ _
    simp (maxSteps := 10000000) (maxDischargeDepth := 30) only [hn, hg2, lw2, lt2, go_sem, Nat.reduceEqDiff, ↓reduceIte, Nat.reduceAdd, Nat.reduceMul, Nat.reduceLeDiff, Nat.reduceLT, reduceCtorEq, Int.reduceToNat, Int.reduceLE, Int.reduceLT, Int.reduceEq, Int.reduceNeg, Int.reduceNe, Int.reducePow, Nat.reducePow, Nat.reduceSub, IntKind.bits]
    refine ro_wcall (cRdStop h0 p _ _ Rg) (fun h3 J3 => ?_)
    simp (maxSteps := 10000000) (maxDischargeDepth := 30) only [go_sem, Nat.reduceEqDiff, ↓reduceIte, Nat.reduceAdd, Nat.reduceMul, Nat.reduceLeDiff, Nat.reduceLT, reduceCtorEq, Int.reduceToNat, Int.reduceLE, Int.reduceLT, Int.reduceEq, Int.reduceNeg, Int.reduceNe, Int.reducePow, Nat.reducePow, Nat.reduceSub, IntKind.bits]
    exact ⟨J3.1, (((k1.otr p).trans O2).trans Og).trans J3.2⟩
  by_cases hn2 : (r.b.length : Int) - r.int.2.at_ < r.int.1
  · have e := hstop 0 (.inr hn2)
    rw [e]
    have Rg : Rdr h0 p { r.int.2 with at_ := r.at_ } (h2.put p ⟨false, [bytsL o2 r.b, .int .i64 r.at_, .bool r.int.2.stop]⟩) :=
      ⟨⟨o2, by rw [get_put_eq (by omega), hb]⟩, by rw [lob_put]; exact lw2, R.new, R2.keep.put R.new _, wf_put R2.wf⟩
    have Og : Otr p h2 (h2.put p ⟨false, [bytsL o2 r.b, .int .i64 r.at_, .bool r.int.2.stop]⟩) := .put _ _ _
    simp (maxSteps := 10000000) (maxDischargeDepth := 30) only [hn, hg2, hb, List.length_map, ew, hn2, lw2, lt2, go_sem, Nat.reduceEqDiff, ↓reduceIte, Nat.reduceAdd, Nat.reduceMul, Nat.reduceLeDiff, Nat.reduceLT, reduceCtorEq, Int.reduceToNat, Int.reduceLE, Int.reduceLT, Int.reduceEq, Int.reduceNeg, Int.reduceNe, Int.reducePow, Nat.reducePow, Nat.reduceSub, IntKind.bits]
    refine ro_wcall (cRdStop h0 p _ _ Rg) (fun h3 J3 => ?_)
    simp (maxSteps := 10000000) (maxDischargeDepth := 30) only [go_sem, Nat.reduceEqDiff, ↓reduceIte, Nat.reduceAdd, Nat.reduceMul, Nat.reduceLeDiff, Nat.reduceLT, reduceCtorEq, Int.reduceToNat, Int.reduceLE, Int.reduceLT, Int.reduceEq, Int.reduceNeg, Int.reduceNe, Int.reducePow, Nat.reducePow, Nat.reduceSub, IntKind.bits]
    have J4 := J3.1
    unfold RS.halt at J4
    simp only [hb] at J4
    exact ⟨J4, (((k1.otr p).trans O2).trans Og).trans J3.2⟩
  · have e : r.count = r.int := by unfold RS.count; rw [if_neg hs]; dsimp only; rw [if_neg (by omega)]
    rw [e]
    simp (maxSteps := 10000000) (maxDischargeDepth := 30) only [hn, hg2, hb, List.length_map, ew, hn2, go_sem, Nat.reduceEqDiff, ↓reduceIte, Nat.reduceAdd, Nat.reduceMul, Nat.reduceLeDiff, Nat.reduceLT, reduceCtorEq, Int.reduceToNat, Int.reduceLE, Int.reduceLT, Int.reduceEq, Int.reduceNeg, Int.reduceNe, Int.reducePow, Nat.reducePow, Nat.reduceSub, IntKind.bits]
    exact ⟨R2, (k1.otr p).trans O2⟩

theorem cXCount (h0 : H) (p : Nat) (r : RS) (h : H) (R : Rdr h0 p r h) (ok : r.ok) (hl : r.b.length ≤ 1000000000000) : ∃ h', runI Try.prog TA 93 [.ptr p 0] h = some (.int .i64 r.count.1, h') ∧ Rdr h0 p r.count.2 h' ∧ Otr p h h' := by
  refine calls_ex rfl res93 rfl ?_
  obtain ⟨o, hg⟩ := R.get
  simp (maxSteps := 10000000) (maxDischargeDepth := 30) only [q93, r93, hg, go_sem, Nat.reduceEqDiff, ↓reduceIte, Nat.reduceAdd, Nat.reduceMul, Nat.reduceLeDiff, Nat.reduceLT, reduceCtorEq, Int.reduceToNat, Int.reduceLE, Int.reduceLT, Int.reduceEq, Int.reduceNeg, Int.reduceNe, Int.reducePow, Nat.reducePow, Nat.reduceSub, IntKind.bits]
  refine ro_wcall (cXInt h0 p r h R ok hl) (fun h2 J => ?_)
  obtain ⟨R2, O2⟩ := J
  have hi := RS.int_ok ok
  have hb := r.int_b
  obtain ⟨o2, hg2⟩ := R2.get
  have lw2 := R2.lob
  have lt2 := R2.lt
  have ok1 := hi.1.2.1
  have ok2 := hi.1.2.2
  rw [hb] at ok2
  have ew : IntKind.i64.wrap ((r.b.length : Int) - r.int.2.at_) = (r.b.length : Int) - r.int.2.at_ := wrap64 (by omega) (by omega)
  have hz : r.stop = true → r.int = (0, r) := fun hs => by unfold RS.int; rw [if_pos hs]
  have hstop : (r.int.1 < 0 ∨ r.int.1 > r.b.length - r.int.2.at_) → r.count = (0, { r.int.2 with at_ := r.at_, stop := true }) := by
    intro hc
    by_cases hs : r.stop = true
    · rw [hz hs] at hc; have := ok.2.2; simp only at hc; omega
    · unfold RS.count; rw [if_neg hs]; dsimp only; rw [if_pos hc]
  by_cases hn : r.int.1 < 0
  · have e := hstop (.inl hn)
    rw [e]
    have S1 := R2.put o2 { r.int.2 with at_ := r.at_ }
    have S2 := S1.1.put o2 { r.int.2 with at_ := r.at_, stop := true }
    simp (maxSteps := 10000000) (maxDischargeDepth := 30) only [hn, hg2, lw2, lt2, go_sem, Nat.reduceEqDiff, ↓reduceIte, Nat.reduceAdd, Nat.reduceMul, Nat.reduceLeDiff, Nat.reduceLT, reduceCtorEq, Int.reduceToNat, Int.reduceLE, Int.reduceLT, Int.reduceEq, Int.reduceNeg, Int.reduceNe, Int.reducePow, Nat.reducePow, Nat.reduceSub, IntKind.bits]
    exact ⟨S2.1, (O2.trans S1.2).trans S2.2⟩
  by_cases hn2 : (r.b.length : Int) - r.int.2.at_ < r.int.1
  · have e := hstop (.inr hn2)
    rw [e]
    have S1 := R2.put o2 { r.int.2 with at_ := r.at_ }
    have S2 := S1.1.put o2 { r.int.2 with at_ := r.at_, stop := true }
    simp only [hb] at S1 S2
    simp (maxSteps := 10000000) (maxDischargeDepth := 30) only [hn, hg2, hb, List.length_map, ew, hn2, lw2, lt2, go_sem, Nat.reduceEqDiff, ↓reduceIte, Nat.reduceAdd, Nat.reduceMul, Nat.reduceLeDiff, Nat.reduceLT, reduceCtorEq, Int.reduceToNat, Int.reduceLE, Int.reduceLT, Int.reduceEq, Int.reduceNeg, Int.reduceNe, Int.reducePow, Nat.reducePow, Nat.reduceSub, IntKind.bits]
    exact ⟨S2.1, (O2.trans S1.2).trans S2.2⟩
  · have e : r.count = r.int := by
      by_cases hs : r.stop = true
      · rw [hz hs]; unfold RS.count; rw [if_pos hs]
      · unfold RS.count; rw [if_neg hs]; dsimp only; rw [if_neg (by omega)]
    rw [e]
    simp (maxSteps := 10000000) (maxDischargeDepth := 30) only [hn, hg2, hb, List.length_map, ew, hn2, go_sem, Nat.reduceEqDiff, ↓reduceIte, Nat.reduceAdd, Nat.reduceMul, Nat.reduceLeDiff, Nat.reduceLT, reduceCtorEq, Int.reduceToNat, Int.reduceLE, Int.reduceLT, Int.reduceEq, Int.reduceNeg, Int.reduceNe, Int.reducePow, Nat.reducePow, Nat.reduceSub, IntKind.bits]
    exact ⟨R2, O2⟩

theorem cRdBool (h0 : H) (p : Nat) (r : RS) (h : H) (R : Rdr h0 p r h) (ok : r.ok) (hl : r.b.length ≤ 1000000000000) : ∃ h', runI Try.prog TA 62 [.ptr p 0] h = some (.bool r.bool.1, h') ∧ Rdr h0 p r.bool.2 h' ∧ Otr p h h' := by
  refine calls_ex rfl res62 rfl ?_
  simp (maxSteps := 10000000) (maxDischargeDepth := 30) only [q62, r62, go_sem, Nat.reduceEqDiff, ↓reduceIte, Nat.reduceAdd, Nat.reduceMul, Nat.reduceLeDiff, Nat.reduceLT, reduceCtorEq, Int.reduceToNat, Int.reduceLE, Int.reduceLT, Int.reduceEq, Int.reduceNeg, Int.reduceNe, Int.reducePow, Nat.reducePow, Nat.reduceSub, IntKind.bits]
  first
  | refine rw_kcall (cRdRight h0 p r h R) R.wf (fun h1 k1 w1 => ?_)
  | refine rw_kcallD (cRdRight h0 p r _ (R.next (Keep.refl _))) R.wf (fun h1 k1 w1 => ?_)
  have R1 := R.next k1
  obtain ⟨o, hg⟩ := R1.get
  have ok2 := ok.2.1
  have ok3 := ok.2.2
  have lw1 := R1.lob
  have lt1 := R1.lt
  by_cases hs : r.stop = true
  · have e : r.bool = (false, r.halt) := by unfold RS.bool; rw [if_pos (.inl hs)]
    rw [e]
    simp (maxSteps := 10000000) (maxDischargeDepth := 30) only [hs, hg, go_sem, Nat.reduceEqDiff, ↓reduceIte, Nat.reduceAdd, Nat.reduceMul, Nat.reduceLeDiff, Nat.reduceLT, reduceCtorEq, Int.reduceToNat, Int.reduceLE, Int.reduceLT, Int.reduceEq, Int.reduceNeg, Int.reduceNe, Int.reducePow, Nat.reducePow, Nat.reduceSub, IntKind.bits]
    refine ro_wcall (cRdStop h0 p r h1 R1) (fun h2 J => ?_)
    simp (maxSteps := 10000000) (maxDischargeDepth := 30) only [go_sem, Nat.reduceEqDiff, ↓reduceIte, Nat.reduceAdd, Nat.reduceMul, Nat.reduceLeDiff, Nat.reduceLT, reduceCtorEq, Int.reduceToNat, Int.reduceLE, Int.reduceLT, Int.reduceEq, Int.reduceNeg, Int.reduceNe, Int.reducePow, Nat.reducePow, Nat.reduceSub, IntKind.bits]
    exact ⟨J.1, (k1.otr p).trans J.2⟩
  have hs' : r.stop = false := by simpa using hs
  by_cases he : r.at_ = r.b.length
  · have e : r.bool = (false, r.halt) := by unfold RS.bool; rw [if_pos (.inr (.inl he))]
    rw [e]
    simp (maxSteps := 10000000) (maxDischargeDepth := 30) only [hs', hg, List.length_map, he, go_sem, Nat.reduceEqDiff, ↓reduceIte, Nat.reduceAdd, Nat.reduceMul, Nat.reduceLeDiff, Nat.reduceLT, reduceCtorEq, Int.reduceToNat, Int.reduceLE, Int.reduceLT, Int.reduceEq, Int.reduceNeg, Int.reduceNe, Int.reducePow, Nat.reducePow, Nat.reduceSub, IntKind.bits]
    refine ro_wcall (cRdStop h0 p r h1 R1) (fun h2 J => ?_)
    simp (maxSteps := 10000000) (maxDischargeDepth := 30) only [go_sem, Nat.reduceEqDiff, ↓reduceIte, Nat.reduceAdd, Nat.reduceMul, Nat.reduceLeDiff, Nat.reduceLT, reduceCtorEq, Int.reduceToNat, Int.reduceLE, Int.reduceLT, Int.reduceEq, Int.reduceNeg, Int.reduceNe, Int.reducePow, Nat.reducePow, Nat.reduceSub, IntKind.bits]
    exact ⟨J.1, (k1.otr p).trans J.2⟩
  have ia := RS.byte_at ok (by omega)
  by_cases hb : 1 < r.byte
  · have e : r.bool = (false, r.halt) := by unfold RS.bool; rw [if_pos (.inr (.inr hb))]
    rw [e]
    simp (maxSteps := 10000000) (maxDischargeDepth := 30) only [hs', hg, List.length_map, he, ia, hb, go_sem, Nat.reduceEqDiff, ↓reduceIte, Nat.reduceAdd, Nat.reduceMul, Nat.reduceLeDiff, Nat.reduceLT, reduceCtorEq, Int.reduceToNat, Int.reduceLE, Int.reduceLT, Int.reduceEq, Int.reduceNeg, Int.reduceNe, Int.reducePow, Nat.reducePow, Nat.reduceSub, IntKind.bits]
    refine ro_wcall (cRdStop h0 p r h1 R1) (fun h2 J => ?_)
    simp (maxSteps := 10000000) (maxDischargeDepth := 30) only [go_sem, Nat.reduceEqDiff, ↓reduceIte, Nat.reduceAdd, Nat.reduceMul, Nat.reduceLeDiff, Nat.reduceLT, reduceCtorEq, Int.reduceToNat, Int.reduceLE, Int.reduceLT, Int.reduceEq, Int.reduceNeg, Int.reduceNe, Int.reducePow, Nat.reducePow, Nat.reduceSub, IntKind.bits]
    exact ⟨J.1, (k1.otr p).trans J.2⟩
  have e : r.bool = (decide (r.byte = 1), { r with at_ := r.at_ + 1 }) := by unfold RS.bool; rw [if_neg (by simp [hs, he, hb])]
  rw [e]
  have ew : IntKind.i64.wrap (r.at_ + 1) = r.at_ + 1 := wrap64 (by omega) (by omega)
  have ew2 : IntKind.i64.wrap (r.at_ + 1 - 1) = r.at_ := by rw [wrap64 (by omega) (by omega)]; omega
  have S1 := R1.put o { r with at_ := r.at_ + 1 }
  simp (maxSteps := 10000000) (maxDischargeDepth := 30) only [hs', hg, List.length_map, he, ia, hb, ew, ew2, lw1, lt1, go_sem, Nat.reduceEqDiff, ↓reduceIte, Nat.reduceAdd, Nat.reduceMul, Nat.reduceLeDiff, Nat.reduceLT, reduceCtorEq, Int.reduceToNat, Int.reduceLE, Int.reduceLT, Int.reduceEq, Int.reduceNeg, Int.reduceNe, Int.reducePow, Nat.reducePow, Nat.reduceSub, IntKind.bits]
  simp only [hs'] at S1
  exact ⟨S1.1, (k1.otr p).trans S1.2⟩
end Go.LM
