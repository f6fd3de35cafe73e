import Derived.Test.YtmanbekgnooocaaLmC1
import Derived.Test.YtmanbekgnooocaaLmZ
namespace Go.LM
open Go.Proofs
set_option maxRecDepth 4000
set_option linter.unusedSimpArgs false

theorem and_pow (x i : Nat) : x &&& 2 ^ i = if x.testBit i = true then 2 ^ i else 0 := by
  apply Nat.eq_of_testBit_eq
  intro j
  rw [Nat.testBit_and, Nat.testBit_two_pow]
  by_cases h : i = j
  · subst h; cases hx : x.testBit i <;> simp
  · cases x.testBit i <;> simp [h]
theorem andI_bit (n : Int) (i : Nat) (hi : i < 62) : andI .i64 n (2 ^ i) = 0 ∨ andI .i64 n (2 ^ i) = 2 ^ i := by
  unfold andI
  have hlt : (2 : Nat) ^ i < 2 ^ 62 := Nat.pow_lt_pow_right (by decide) hi
  have e : ((2 : Int) ^ i) = ((2 ^ i : Nat) : Int) := by simp
  have h2 : (BitVec.ofInt IntKind.i64.bits (2 ^ i)).toNat = 2 ^ i := by
    rw [e, BitVec.ofInt_natCast, BitVec.toNat_ofNat]
    exact Nat.mod_eq_of_lt (by simp only [IntKind.bits]; omega)
  rw [BitVec.toNat_and, h2, and_pow]
  split
  · right
    rw [e]
    generalize hx : (2 : Nat) ^ i = x at *
    simp only [IntKind.wrap, IntKind.bits, IntKind.signed]
    simp; omega
  · left; rfl

theorem aw19 (h : H) : runI Try.prog TA 19 [] h = some (.bool true, h) := runI_known rfl
theorem l3 (f : Flo) : ∃ h', runI Try.prog TA 3 [f.e] H0 = some (.bool true, h') := by
  have hk : figCheck f = if decide (figBad f) = true then 10 else 0 := by simp [figCheck]
  have b1 := andI_bit f.W 0 (by decide)
  have b2 := andI_bit f.W 1 (by decide)
  have e15 := c15 f; have e16 := c16 f; have e17 := c17 f; have e18 := c18 f
  simp only [Flo.e] at e15 e16 e17 e18
  generalize figCheck f = n at hk e15
  generalize decide (figBad f) = b at hk e16
  simp only [Nat.pow_zero, Int.pow_zero, Int.pow_one] at b1 b2
  refine true_of rfl res3 rfl ?_
  rcases b1 with b1 | b1 <;> rcases b2 with b2 | b2 <;> cases b <;> subst hk <;>
  simp (maxSteps := 10000000) (maxDischargeDepth := 30) only [q3, r3, Flo.e, e15, e16, e17, e18, b1, b2, aw19, go_sem, Nat.reduceEqDiff, ↓reduceIte, Nat.reduceAdd, Nat.reduceMul, Nat.reduceLeDiff, Nat.reduceLT, reduceCtorEq, Int.reduceToNat, Int.reduceLE, Int.reduceLT, Int.reduceEq, Int.reduceNeg, Int.reduceNe, Int.reducePow, Nat.reducePow, Nat.reduceSub, IntKind.bits]
end Go.LM
