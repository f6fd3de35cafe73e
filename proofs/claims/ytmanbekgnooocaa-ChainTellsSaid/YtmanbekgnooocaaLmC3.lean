import Derived.Test.YtmanbekgnooocaaLmC2
namespace Go.LM
open Go.Proofs
set_option maxRecDepth 4000
set_option linter.unusedSimpArgs false

theorem wrap64 {n : Int} (h1 : -9223372036854775808 ≤ n) (h2 : n < 9223372036854775808) : IntKind.i64.wrap n = n := by
  simp [IntKind.wrap, IntKind.bits, IntKind.signed]; omega

def figAt (l : List Flo) (n : Int) : Option Flo := if 0 ≤ n then l[n.toNat]? else none
def flo0 : Flo := ⟨0, 0, 0⟩
abbrev flos (o : Option (Nat × Nat)) (l : List Flo) : LV := mkS o 3 (l.map Flo.e)
abbrev ints (o : Option (Nat × Nat)) (l : List Int) : LV := mkS o 1 (l.map (LV.int .i64))
theorem figAt_some {l : List Flo} {n : Int} {f : Flo} (h : figAt l n = some f) : 0 ≤ n ∧ n < l.length ∧ iaS (l.map Flo.e) n = some (.cptr f.e) := by
  unfold figAt at h
  split at h
  · rename_i h0
    have := (List.getElem?_eq_some_iff.1 h).1
    exact ⟨h0, by omega, iaS_map h0 h⟩
  · cases h
theorem figAt_none {l : List Flo} {n : Int} (h : figAt l n = none) : n < 0 ∨ (l.length : Int) ≤ n := by
  unfold figAt at h
  split at h
  · rw [List.getElem?_eq_none_iff] at h; omega
  · omega
theorem int_at {l : List Int} {i : Nat} {n : Int} (h : l[i]? = some n) : iaS (l.map (LV.int .i64)) (i : Int) = some (.cptr (.int .i64 n)) := iaS_map (Int.natCast_nonneg i) (by simpa using h)

theorem c20 (o : Option (Nat × Nat)) (l : List Flo) (n : Int) (h : H) (w : WF h) :
    runI Try.prog TA 20 [flos o l, .int .i64 n] h = some (.tup [((figAt l n).getD flo0).e, .bool (figAt l n).isSome], hp Try.prog TA 20 [flos o l, .int .i64 n] h) := by
  refine pure_of rfl res20 rfl ?_
  have hlo := le_hp0 w
  cases hf : figAt l n with
  | none =>
    have := figAt_none hf
    by_cases h0 : n < 0
    · simp (maxSteps := 10000000) (maxDischargeDepth := 30) only [q20, r20, h0, hlo, flo0, Flo.e, Option.getD_none, Option.isSome_none, go_sem, Nat.reduceEqDiff, ↓reduceIte, Nat.reduceAdd, Nat.reduceMul, Nat.reduceLeDiff, Nat.reduceLT, reduceCtorEq, Int.reduceToNat, Int.reduceLE, Int.reduceLT, Int.reduceEq, Int.reduceNeg, Int.reduceNe, Int.reducePow, Nat.reducePow, Nat.reduceSub, IntKind.bits]
    · have h1 : (l.length : Int) ≤ n := by omega
      simp (maxSteps := 10000000) (maxDischargeDepth := 30) only [q20, r20, h0, h1, hlo, List.length_map, flo0, Flo.e, Option.getD_none, Option.isSome_none, go_sem, Nat.reduceEqDiff, ↓reduceIte, Nat.reduceAdd, Nat.reduceMul, Nat.reduceLeDiff, Nat.reduceLT, reduceCtorEq, Int.reduceToNat, Int.reduceLE, Int.reduceLT, Int.reduceEq, Int.reduceNeg, Int.reduceNe, Int.reducePow, Nat.reducePow, Nat.reduceSub, IntKind.bits]
  | some f =>
    obtain ⟨h0, h1, h2⟩ := figAt_some hf
    have h0' : ¬ n < 0 := by omega
    have h1' : ¬ (l.length : Int) ≤ n := by omega
    simp (maxSteps := 10000000) (maxDischargeDepth := 30) only [q20, r20, h0', h1', h2, hlo, List.length_map, Flo.e, Option.getD_some, Option.isSome_some, go_sem, Nat.reduceEqDiff, ↓reduceIte, Nat.reduceAdd, Nat.reduceMul, Nat.reduceLeDiff, Nat.reduceLT, reduceCtorEq, Int.reduceToNat, Int.reduceLE, Int.reduceLT, Int.reduceEq, Int.reduceNeg, Int.reduceNe, Int.reducePow, Nat.reducePow, Nat.reduceSub, IntKind.bits]

def heldF (n : Int) : Int := min (max n 0) 1125899906842624
theorem c63 (n : Int) (h : H) : runI Try.prog TA 63 [.int .i64 n] h = some (.int .i64 (heldF n), hp Try.prog TA 63 [.int .i64 n] h) := by
  refine pure_of rfl res63 rfl ?_
  simp (maxSteps := 10000000) (maxDischargeDepth := 30) only [q63, r63, heldF, go_sem, Nat.reduceEqDiff, ↓reduceIte, Nat.reduceAdd, Nat.reduceMul, Nat.reduceLeDiff, Nat.reduceLT, reduceCtorEq, Int.reduceToNat, Int.reduceLE, Int.reduceLT, Int.reduceEq, Int.reduceNeg, Int.reduceNe, Int.reducePow, Nat.reducePow, Nat.reduceSub, IntKind.bits]
theorem c64 (n : Int) (h : H) : runI Try.prog TA 64 [.int .i64 n] h = some (.int .i64 (heldF n), hp Try.prog TA 64 [.int .i64 n] h) := by
  refine pure_of rfl res64 rfl ?_
  have e : heldF n = max 0 (min n 1125899906842624) := by unfold heldF; omega
  simp (maxSteps := 10000000) (maxDischargeDepth := 30) only [q64, r64, e, go_sem, Nat.reduceEqDiff, ↓reduceIte, Nat.reduceAdd, Nat.reduceMul, Nat.reduceLeDiff, Nat.reduceLT, reduceCtorEq, Int.reduceToNat, Int.reduceLE, Int.reduceLT, Int.reduceEq, Int.reduceNeg, Int.reduceNe, Int.reducePow, Nat.reducePow, Nat.reduceSub, IntKind.bits]
end Go.LM
