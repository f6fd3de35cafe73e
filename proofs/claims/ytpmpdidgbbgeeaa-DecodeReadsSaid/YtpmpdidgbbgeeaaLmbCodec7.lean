import Derived.Test.YtpmpdidgbbgeeaaLmTrbR1
import Derived.Test.YtpmpdidgbbgeeaaLmTrbR2
import Derived.Test.YtpmpdidgbbgeeaaLmbCodec6
namespace Go.LM
open Go.Proofs
set_option maxRecDepth 8000
set_option maxHeartbeats 4000000
set_option linter.unusedSimpArgs false

def Rdv (p : Nat) (r : RS) (h : H) : Prop := ∃ o, h.get p = some ⟨false, [bytsL o r.b, .int .i64 r.at_, .bool r.stop]⟩
theorem Rdr.v {h0 : H} {p : Nat} {r : RS} {h : H} (R : Rdr h0 p r h) : Rdv p r h := R.get
theorem Rdr.up {h0 : H} {p : Nat} {r : RS} {h : H} (R : Rdr h0 p r h) : Rdv p r h.up := by obtain ⟨o, hg⟩ := R.get; exact ⟨o, by rw [get_up]; exact hg⟩
theorem vRdRight (p : Nat) (r : RS) (h : H) (R : Rdv p r h) : runI Try.prog TA 46 [.ptr p 0] h = some (.bool (!r.stop), hp Try.prog TA 46 [.ptr p 0] h) := by
  refine pure_of rfl res46 rfl ?_
  obtain ⟨o, hg⟩ := R
  simp (maxSteps := 10000000) (maxDischargeDepth := 30) only [q46, r46, hg, go_sem, Nat.reduceEqDiff, ↓reduceIte, Nat.reduceAdd, Nat.reduceMul, Nat.reduceLeDiff, Nat.reduceLT, reduceCtorEq, Int.reduceToNat, Int.reduceLE, Int.reduceLT, Int.reduceEq, Int.reduceNeg, Int.reduceNe, Int.reducePow, Nat.reducePow, Nat.reduceSub, IntKind.bits]
theorem vRdAt (p : Nat) (r : RS) (h : H) (R : Rdv p r h) : runI Try.prog TA 47 [.ptr p 0] h = some (.int .i64 r.at_, hp Try.prog TA 47 [.ptr p 0] h) := by
  refine pure_of rfl res47 rfl ?_
  obtain ⟨o, hg⟩ := R
  simp (maxSteps := 10000000) (maxDischargeDepth := 30) only [q47, r47, hg, go_sem, Nat.reduceEqDiff, ↓reduceIte, Nat.reduceAdd, Nat.reduceMul, Nat.reduceLeDiff, Nat.reduceLT, reduceCtorEq, Int.reduceToNat, Int.reduceLE, Int.reduceLT, Int.reduceEq, Int.reduceNeg, Int.reduceNe, Int.reducePow, Nat.reducePow, Nat.reduceSub, IntKind.bits]
theorem vRdEnd (p : Nat) (r : RS) (h : H) (R : Rdv p r h) (w : WF h) : runI Try.prog TA 48 [.ptr p 0] h = some (.int .i64 (if r.stop = false ∧ (r.b.length : Int) ≤ r.at_ then 0 else 2), hp Try.prog TA 48 [.ptr p 0] h) := by
  refine pure_of rfl res48 rfl ?_
  obtain ⟨o, hg⟩ := R
  simp (maxSteps := 10000000) (maxDischargeDepth := 30) only [q48, r48, go_sem, Nat.reduceEqDiff, ↓reduceIte, Nat.reduceAdd, Nat.reduceMul, Nat.reduceLeDiff, Nat.reduceLT, reduceCtorEq, Int.reduceToNat, Int.reduceLE, Int.reduceLT, Int.reduceEq, Int.reduceNeg, Int.reduceNe, Int.reducePow, Nat.reducePow, Nat.reduceSub, IntKind.bits]
  refine rw_kcall (vRdRight p r h ⟨o, hg⟩) w (fun h1 k1 w1 => ?_)
  have hg1 := (k1.get (lt_of_get hg)).trans hg
  by_cases hs : r.stop = true
  · rw [if_neg (by simp [hs])]
    simp (maxSteps := 10000000) (maxDischargeDepth := 30) only [hs, k1, go_sem, Nat.reduceEqDiff, ↓reduceIte, Nat.reduceAdd, Nat.reduceMul, Nat.reduceLeDiff, Nat.reduceLT, reduceCtorEq, Int.reduceToNat, Int.reduceLE, Int.reduceLT, Int.reduceEq, Int.reduceNeg, Int.reduceNe, Int.reducePow, Nat.reducePow, Nat.reduceSub, IntKind.bits]
  have hs' : r.stop = false := by simpa using hs
  by_cases hc : r.at_ < r.b.length
  · rw [if_neg (by omega)]
    simp (maxSteps := 10000000) (maxDischargeDepth := 30) only [hs', hg1, List.length_map, hc, k1, go_sem, Nat.reduceEqDiff, ↓reduceIte, Nat.reduceAdd, Nat.reduceMul, Nat.reduceLeDiff, Nat.reduceLT, reduceCtorEq, Int.reduceToNat, Int.reduceLE, Int.reduceLT, Int.reduceEq, Int.reduceNeg, Int.reduceNe, Int.reducePow, Nat.reducePow, Nat.reduceSub, IntKind.bits]
  · rw [if_pos ⟨hs', by omega⟩]
    simp (maxSteps := 10000000) (maxDischargeDepth := 30) only [hs', hg1, List.length_map, hc, k1, go_sem, Nat.reduceEqDiff, ↓reduceIte, Nat.reduceAdd, Nat.reduceMul, Nat.reduceLeDiff, Nat.reduceLT, reduceCtorEq, Int.reduceToNat, Int.reduceLE, Int.reduceLT, Int.reduceEq, Int.reduceNeg, Int.reduceNe, Int.reducePow, Nat.reducePow, Nat.reduceSub, IntKind.bits]
/-- A reader of bytes. -/
theorem cROpen (h0 : H) (o : Option (Nat × Nat)) (b : List Int) (hl : b.length ≤ 1000000000000) (h : H) (w : WF h) (k : Keep h0 h) :
    ∃ v h', runI Try.prog TA 42 [byts o b] h = some (v, h') ∧ ∃ p, v = .ptr p 0 ∧ Rdr h0 p ⟨b, 0, false⟩ h' ∧ Keep h h' ∧ h.len ≤ p := by
  refine calls_of rfl res42 rfl ?_
  simp (maxSteps := 10000000) (maxDischargeDepth := 30) only [q42, r42, go_sem, Nat.reduceEqDiff, ↓reduceIte, Nat.reduceAdd, Nat.reduceMul, Nat.reduceLeDiff, Nat.reduceLT, reduceCtorEq, Int.reduceToNat, Int.reduceLE, Int.reduceLT, Int.reduceEq, Int.reduceNeg, Int.reduceNe, Int.reducePow, Nat.reducePow, Nat.reduceSub, IntKind.bits]
  refine ro_kcall (cCloneB o b (by omega) h w).1 w (fun h1 k1 w1 => ?_)
  simp (maxSteps := 10000000) (maxDischargeDepth := 30) only [go_sem, Nat.reduceEqDiff, ↓reduceIte, Nat.reduceAdd, Nat.reduceMul, Nat.reduceLeDiff, Nat.reduceLT, reduceCtorEq, Int.reduceToNat, Int.reduceLE, Int.reduceLT, Int.reduceEq, Int.reduceNeg, Int.reduceNe, Int.reducePow, Nat.reducePow, Nat.reduceSub, IntKind.bits]
  have k2 := (Keep.refl h1).alloc [byts (tk Try.prog TA 89 [byts o b] h) b, .int .i64 0, .bool false]
  exact ⟨_, rfl, ⟨⟨_, by rw [get_alloc_eq]⟩, by rw [lob_alloc]; exact w1.1, (k.trans k1).len, (k.trans k1).trans k2, w1.keep k2⟩, k1.trans k2, k1.len⟩

end Go.LM
