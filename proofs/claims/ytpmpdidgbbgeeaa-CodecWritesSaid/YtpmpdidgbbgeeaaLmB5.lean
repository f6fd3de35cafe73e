import Derived.Test.YtpmpdidgbbgeeaaLmAt
namespace Go.LM
/-! ### numbers of 64 bits -/
theorem wrapU64 {n : Int} (h1 : 0 ≤ n) (h2 : n < 18446744073709551616) : IntKind.u64.wrap n = n := by
  simp [IntKind.wrap, IntKind.bits, IntKind.signed]; omega
theorem wrapU64_neg {n : Int} (h1 : -18446744073709551616 ≤ n) (h2 : n < 0) : IntKind.u64.wrap n = n + 18446744073709551616 := by
  simp [IntKind.wrap, IntKind.bits, IntKind.signed]; omega
theorem wrapU64_big {n : Int} (h1 : 18446744073709551616 ≤ n) (h2 : n < 36893488147419103232) : IntKind.u64.wrap n = n - 18446744073709551616 := by
  simp [IntKind.wrap, IntKind.bits, IntKind.signed]; omega
theorem wrapI64 {n : Int} (h1 : -9223372036854775808 ≤ n) (h2 : n < 9223372036854775808) : IntKind.i64.wrap n = n := by
  simp [IntKind.wrap, IntKind.bits, IntKind.signed]; omega
theorem wrapU8 {n : Int} : IntKind.u8.wrap n = n % 256 := by
  simp [IntKind.wrap, IntKind.bits, IntKind.signed]

theorem ofInt_toNat64 {n : Int} (h1 : 0 ≤ n) (h2 : n < 18446744073709551616) : (BitVec.ofInt 64 n).toNat = n.toNat := by
  rw [BitVec.toNat_ofInt]; simp; omega
theorem xor_u64_0 {x : Int} (h1 : 0 ≤ x) (h2 : x < 18446744073709551616) : xorI .u64 x 0 = x := by
  show IntKind.u64.wrap (BitVec.ofInt 64 x ^^^ BitVec.ofInt 64 0).toNat = x
  have e : BitVec.ofInt 64 0 = 0#64 := by decide
  rw [e, BitVec.xor_zero, ofInt_toNat64 h1 h2, Int.toNat_of_nonneg h1, wrapU64 h1 h2]
theorem xor_u64_all {x : Int} (h1 : 0 ≤ x) (h2 : x < 18446744073709551616) : xorI .u64 x 18446744073709551615 = 18446744073709551615 - x := by
  show IntKind.u64.wrap (BitVec.ofInt 64 x ^^^ BitVec.ofInt 64 18446744073709551615).toNat = _
  have e : BitVec.ofInt 64 18446744073709551615 = BitVec.allOnes 64 := by decide
  rw [e, BitVec.xor_allOnes, BitVec.toNat_not, ofInt_toNat64 h1 h2]
  have e2 : (((2 ^ 64 - 1 - x.toNat : Nat)) : Int) = 18446744073709551615 - x := by omega
  rw [e2, wrapU64 (by omega) (by omega)]
theorem xor_i64_0 {x : Int} (h1 : 0 ≤ x) (h2 : x < 9223372036854775808) : xorI .i64 x 0 = x := by
  show IntKind.i64.wrap (BitVec.ofInt 64 x ^^^ BitVec.ofInt 64 0).toNat = x
  have e : BitVec.ofInt 64 0 = 0#64 := by decide
  rw [e, BitVec.xor_zero, ofInt_toNat64 h1 (by omega), Int.toNat_of_nonneg h1, wrapI64 (by omega) (by omega)]
theorem xor_i64_m1 {x : Int} (h1 : 0 ≤ x) (h2 : x < 9223372036854775808) : xorI .i64 x (-1) = -x - 1 := by
  show IntKind.i64.wrap (BitVec.ofInt 64 x ^^^ BitVec.ofInt 64 (-1)).toNat = _
  have e : BitVec.ofInt 64 (-1) = BitVec.allOnes 64 := by decide
  rw [e, BitVec.xor_allOnes, BitVec.toNat_not, ofInt_toNat64 h1 (by omega)]
  have e2 : (((2 ^ 64 - 1 - x.toNat : Nat)) : Int) = 18446744073709551615 - x := by omega
  rw [e2]
  simp [IntKind.wrap, IntKind.bits, IntKind.signed]; omega
theorem and_u64_1 {x : Int} (h1 : 0 ≤ x) (h2 : x < 18446744073709551616) : andI .u64 x 1 = x % 2 := by
  unfold andI
  have e : (BitVec.ofInt IntKind.u64.bits 1).toNat = 1 := by decide
  rw [BitVec.toNat_and, e]
  have e3 : (BitVec.ofInt IntKind.u64.bits x).toNat = x.toNat := ofInt_toNat64 h1 h2
  rw [e3, Nat.and_one_is_mod]
  rw [wrapU64 (by omega) (by omega)]; omega
theorem or_u8_128 : ∀ b : Nat, b < 256 → orI .u8 (b : Int) 128 = ((b % 128 + 128 : Nat) : Int) := by decide +kernel
theorem or_u8 {b : Int} (h1 : 0 ≤ b) (h2 : b < 256) : orI .u8 b 128 = b % 128 + 128 := by
  have := or_u8_128 b.toNat (by omega)
  rw [Int.toNat_of_nonneg h1] at this
  rw [this]; omega
theorem andNot_u8_128 : ∀ b : Nat, b < 256 → andNotI .u8 (b : Int) 128 = ((b % 128 : Nat) : Int) := by decide +kernel
theorem andNot_u8 {b : Int} (h1 : 0 ≤ b) (h2 : b < 256) : andNotI .u8 b 128 = b % 128 := by
  have := andNot_u8_128 b.toNat (by omega)
  rw [Int.toNat_of_nonneg h1] at this
  rw [this]; omega

/-- A number without its sign. -/
def foldN (n : Int) : Int := if n < 0 then -2 * n - 1 else 2 * n
def unfoldN (u : Int) : Int := if u % 2 = 1 then -(u / 2) - 1 else u / 2
theorem unfold_fold (n : Int) : unfoldN (foldN n) = n := by
  unfold unfoldN foldN
  by_cases h : n < 0
  · rw [if_pos h, if_pos (by omega)]; omega
  · rw [if_neg h, if_neg (by omega)]; omega
theorem fold_unfold {u : Int} (h : 0 ≤ u) : foldN (unfoldN u) = u := by
  unfold unfoldN foldN
  by_cases h1 : u % 2 = 1
  · rw [if_pos h1, if_pos (by omega)]; omega
  · rw [if_neg h1, if_neg (by omega)]; omega
theorem fold_range {n : Int} (h1 : -9223372036854775808 ≤ n) (h2 : n < 9223372036854775808) : 0 ≤ foldN n ∧ foldN n < 18446744073709551616 := by
  unfold foldN; split <;> omega
theorem unfold_range {u : Int} (h1 : 0 ≤ u) (h2 : u < 18446744073709551616) : -9223372036854775808 ≤ unfoldN u ∧ unfoldN u < 9223372036854775808 := by
  unfold unfoldN; split <;> omega

/-- The chain of a number without a sign. -/
def chainU (u : Nat) : List Int := if u < 128 then [(u : Int)] else ((u % 128 + 128 : Nat) : Int) :: chainU (u / 128)
termination_by u
decreasing_by omega
theorem chainU_lt {u : Nat} (h : u < 128) : chainU u = [(u : Int)] := by rw [chainU, if_pos h]
theorem chainU_ge {u : Nat} (h : ¬ u < 128) : chainU u = ((u % 128 + 128 : Nat) : Int) :: chainU (u / 128) := by rw [chainU, if_neg h]
theorem chainU_len : ∀ (k u : Nat), u < 128 ^ (k + 1) → (chainU u).length ≤ k + 1
  | 0, u, h => by rw [chainU_lt (by omega)]; simp
  | k + 1, u, h => by
    by_cases h1 : u < 128
    · rw [chainU_lt h1]; simp
    · rw [chainU_ge h1]
      have := chainU_len k (u / 128) (by rw [Nat.pow_succ] at h; omega)
      simp only [List.length_cons]; omega
theorem chainU_len10 {u : Nat} (h : u < 18446744073709551616) : (chainU u).length ≤ 10 := chainU_len 9 u (by omega)
theorem chainU_pos (u : Nat) : 0 < (chainU u).length := by rw [chainU]; split <;> simp
end Go.LM
