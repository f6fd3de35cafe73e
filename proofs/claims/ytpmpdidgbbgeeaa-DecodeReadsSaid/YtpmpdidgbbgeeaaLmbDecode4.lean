import Derived.Test.YtpmpdidgbbgeeaaLmTrbR3
import Derived.Test.YtpmpdidgbbgeeaaLmbDecode3
import Derived.Test.YtpmpdidgbbgeeaaLmbCodec7
import Derived.Test.YtpmpdidgbbgeeaaLmbEncode5
import Derived.Test.YtpmpdidgbbgeeaaLmB21
namespace Go.LM
open Go.Proofs
set_option maxRecDepth 8000
set_option maxHeartbeats 8000000
set_option linter.unusedSimpArgs false
theorem cDeMagic (h0 : H) (p d : Nat) (D : List LV) (r : RS) (h : H) (R : Rdr h0 p r h) (gd : h.get d = some ⟨false, .ptr p 0 :: D⟩) (ok : r.ok) (hl : r.b.length ≤ 1000000000000) :
    ∃ h', runI Try.prog TA 131 [.ptr d 0] h = some (.tup [], h') ∧ Rdr h0 p (r.mark magicJ) h' ∧ Otr p h h' := by
  refine calls_ex rfl res131 rfl ?_
  have ld := lt_of_get gd
  simp (maxSteps := 10000000) (maxDischargeDepth := 30) only [q131, r131, gd, go_sem, Nat.reduceEqDiff, ↓reduceIte, Nat.reduceAdd, Nat.reduceMul, Nat.reduceLeDiff, Nat.reduceLT, reduceCtorEq, Int.reduceToNat, Int.reduceLE, Int.reduceLT, Int.reduceEq, Int.reduceNeg, Int.reduceNe, Nat.reduceSub, IntKind.bits]
  refine rw_kcallW (cEnMagic h) R.wf (fun hh kk => by have := kk.get ld; simp (maxSteps := 10000000) (maxDischargeDepth := 30) only [this, gd, go_sem, Nat.reduceEqDiff, ↓reduceIte, Nat.reduceAdd, Nat.reduceMul, Nat.reduceLeDiff, Nat.reduceLT, reduceCtorEq, Int.reduceToNat, Int.reduceLE, Int.reduceLT, Int.reduceEq, Int.reduceNeg, Int.reduceNe, Nat.reduceSub, IntKind.bits]) (fun h2 k2 w2 => ?_)
  have gd2 := (k2.get ld).trans gd
  simp (maxSteps := 10000000) (maxDischargeDepth := 30) only [gd2, go_sem, Nat.reduceEqDiff, ↓reduceIte, Nat.reduceAdd, Nat.reduceMul, Nat.reduceLeDiff, Nat.reduceLT, reduceCtorEq, Int.reduceToNat, Int.reduceLE, Int.reduceLT, Int.reduceEq, Int.reduceNeg, Int.reduceNe, Nat.reduceSub, IntKind.bits]
  refine rw_wcall (cRdMark h0 p r ⟨#[84, 89, 77, 49]⟩ h2 (R.next k2) ok hl (by decide)) (fun h3 J => ?_)
  obtain ⟨R3, O3⟩ := J
  simp (maxSteps := 10000000) (maxDischargeDepth := 30) only [go_sem, Nat.reduceEqDiff, ↓reduceIte, Nat.reduceAdd, Nat.reduceMul, Nat.reduceLeDiff, Nat.reduceLT, reduceCtorEq, Int.reduceToNat, Int.reduceLE, Int.reduceLT, Int.reduceEq, Int.reduceNeg, Int.reduceNe, Nat.reduceSub, IntKind.bits]
  exact ⟨R3, (k2.otr p).trans O3⟩
def dParts : List LV := [.agg [.str ⟨#[109, 97, 103, 105, 99]⟩, .fn 131 [] []], .agg [.str ⟨#[103, 101, 111, 109, 101, 116, 114, 121]⟩, .fn 132 [] []], .agg [.str ⟨#[105, 116, 101, 109, 115]⟩, .fn 133 [] []], .agg [.str ⟨#[110, 111, 116, 101, 115]⟩, .fn 134 [] []], .agg [.str ⟨#[102, 108, 111, 97, 116, 115]⟩, .fn 135 [] []]]
theorem cDeParts (h : H) : ∃ v h', runI Try.prog TA 120 [] h = some (v, h') ∧ (∃ n, v = mkS (some (n, 5)) 2 dParts) ∧ Keep h h' := by
  refine calls_of rfl res120 rfl ?_
  have k := (Keep.refl h).nrow 1
  simp (maxSteps := 10000000) (maxDischargeDepth := 30) only [q120, r120, go_sem, Nat.reduceEqDiff, ↓reduceIte, Nat.reduceAdd, Nat.reduceMul, Nat.reduceLeDiff, Nat.reduceLT, reduceCtorEq, Int.reduceToNat, Int.reduceLE, Int.reduceLT, Int.reduceEq, Int.reduceNeg, Int.reduceNe, Nat.reduceSub, IntKind.bits]
  exact ⟨_, rfl⟩
end Go.LM
