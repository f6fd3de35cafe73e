import Derived.Test.YtpmpdidgbbgeeaaLmB5
namespace Go.LM
/-! ### reading a chain -/
/-- Bytes from place i of a chain on; u: what was read so far. -/
def scan : List Int → Nat → Nat → Option (Nat × Nat)
  | [], _, _ => none
  | c :: l, i, u =>
    if i = 9 ∧ 1 < c then none
    else if 128 ≤ c then scan l (i + 1) (u + (c % 128).toNat * 128 ^ i)
    else if c = 0 ∧ 0 < i then none
    else some (u + c.toNat * 128 ^ i, i + 1)
theorem or_add {u c : Nat} (i : Nat) (h : u < 2 ^ i) : u ||| c * 2 ^ i = u + c * 2 ^ i := by
  rw [Nat.or_comm, Nat.add_comm, ← Nat.shiftLeft_eq, ← Nat.shiftLeft_add_eq_or_of_lt h]
theorem or_u64 {u c : Nat} (i : Nat) (h : u < 2 ^ i) (h2 : u + c * 2 ^ i < 18446744073709551616) : orI .u64 (u : Int) ((c * 2 ^ i : Nat) : Int) = ((u + c * 2 ^ i : Nat) : Int) := by
  have hu : u < 18446744073709551616 := by omega
  have hc : c * 2 ^ i < 18446744073709551616 := by omega
  show IntKind.u64.wrap (BitVec.ofInt 64 (u : Int) ||| BitVec.ofInt 64 ((c * 2 ^ i : Nat) : Int)).toNat = _
  rw [BitVec.toNat_or, ofInt_toNat64 (by omega) (by omega), ofInt_toNat64 (by omega) (by omega), Int.toNat_natCast, Int.toNat_natCast, or_add i h, wrapU64 (by omega) (by omega)]
theorem pow_le9 {v i : Nat} (hv : 0 < v) (h : v * 128 ^ i < 18446744073709551616) : i ≤ 9 := by
  rcases Nat.lt_or_ge 9 i with h9 | h9
  · exfalso
    have h1 : 128 ^ 10 ≤ 128 ^ i := Nat.pow_le_pow_right (by decide) h9
    have h2 : 1 * 128 ^ i ≤ v * 128 ^ i := Nat.mul_le_mul_right _ hv
    have : (18446744073709551616 : Nat) ≤ 128 ^ 10 := by decide
    omega
  · exact h9
/-- A chain is read as what it is. -/
theorem scan_chain : ∀ (v i acc : Nat) (rest : List Int), (i = 0 ∨ 0 < v) → acc + v * 128 ^ i < 18446744073709551616 →
    scan (chainU v ++ rest) i acc = some (acc + v * 128 ^ i, i + (chainU v).length) := by
  intro v
  induction v using Nat.strongRecOn with
  | _ v ih =>
    intro i acc rest h0 hb
    by_cases hv : v < 128
    · rw [chainU_lt hv]
      have h9 : ¬ (i = 9 ∧ (1 : Int) < (v : Int)) := by
        rintro ⟨rfl, h⟩
        have : (128 : Nat) ^ 9 = 9223372036854775808 := by decide
        omega
      simp only [List.singleton_append, scan, if_neg h9]
      rw [if_neg (by omega), if_neg (by omega)]
      simp
    · rw [chainU_ge hv]
      have hpos : 0 < v := by omega
      have hi : i ≤ 9 := pow_le9 (v := v) (i := i) hpos (by omega)
      have h9 : ¬ (i = 9 ∧ (1 : Int) < ((v % 128 + 128 : Nat) : Int)) := by
        rintro ⟨rfl, h⟩
        have : (128 : Nat) ^ 9 = 9223372036854775808 := by decide
        omega
      simp only [List.cons_append, scan, if_neg h9]
      rw [if_pos (by omega)]
      have hm : (((v % 128 + 128 : Nat) : Int) % 128).toNat = v % 128 := by omega
      have he : acc + v % 128 * 128 ^ i + v / 128 * 128 ^ (i + 1) = acc + v * 128 ^ i := by
        have h1 : v = v / 128 * 128 + v % 128 := by omega
        have h2 : v * 128 ^ i = v / 128 * 128 ^ (i + 1) + v % 128 * 128 ^ i := by
          conv => lhs; rw [h1]
          rw [Nat.add_mul, Nat.pow_succ, Nat.mul_assoc, Nat.mul_comm 128 (128 ^ i)]
        omega
      rw [hm, ih (v / 128) (by omega) (i + 1) _ rest (.inr (by omega)) (by omega), he]
      simp only [List.length_cons]
      congr 2; omega
theorem below64 {v i : Nat} (hi : i ≤ 9) (h : v * 128 ^ i < 18446744073709551616) : (v + 1) * 128 ^ i ≤ 18446744073709551616 := by
  have hd : (128 : Nat) ^ i ∣ 18446744073709551616 := by
    have : (18446744073709551616 : Nat) = 128 ^ i * (2 ^ (64 - 7 * i)) := by
      rw [show (128 : Nat) ^ i = 2 ^ (7 * i) by rw [Nat.pow_mul], ← Nat.pow_add, show 7 * i + (64 - 7 * i) = 64 by omega]
    exact ⟨_, this⟩
  obtain ⟨q, hq⟩ := hd
  rw [hq] at h ⊢
  rw [Nat.mul_comm] at h
  have := Nat.lt_of_mul_lt_mul_left h
  rw [Nat.mul_comm]
  exact Nat.mul_le_mul_left _ this
theorem scan_inv : ∀ (s : List Int) (i acc u k : Nat), i ≤ 9 → (∀ c ∈ s, 0 ≤ c ∧ c < 256) → scan s i acc = some (u, k) →
    ∃ v, u = acc + v * 128 ^ i ∧ (i = 0 ∨ 0 < v) ∧ v * 128 ^ i < 18446744073709551616 ∧ k = i + (chainU v).length ∧ ∃ rest, s = chainU v ++ rest
  | [], _, _, _, _, _, _, h => by simp [scan] at h
  | c :: s, i, acc, u, k, hi, hc, h => by
    have hc0 := hc c (by simp)
    simp only [scan] at h
    split at h
    · cases h
    rename_i h9
    split at h
    · rename_i hge
      have hi8 : i ≤ 8 := by
        rcases Nat.lt_or_ge i 9 with h1 | h1
        · omega
        · exact absurd ⟨by omega, by omega⟩ h9
      obtain ⟨v, h1, h2, h3, h4, rest, h5⟩ := scan_inv s (i + 1) _ u k (by omega) (fun x hx => hc x (by simp [hx])) h
      have hv : 0 < v := by omega
      refine ⟨v * 128 + (c % 128).toNat, ?_, .inr (by omega), ?_, ?_, rest, ?_⟩
      · rw [h1, Nat.add_mul, Nat.pow_succ, Nat.mul_assoc v 128, Nat.mul_comm 128 (128 ^ i)]; omega
      · have := below64 (by omega) h3
        rw [Nat.add_mul] at this ⊢
        rw [Nat.mul_assoc v 128, Nat.mul_comm 128 (128 ^ i), ← Nat.pow_succ]
        change v * 128 ^ (i + 1) + (c % 128).toNat * 128 ^ i < 18446744073709551616
        have hlt : (c % 128).toNat * 128 ^ i < 128 ^ (i + 1) := by
          rw [Nat.pow_succ, Nat.mul_comm (128 ^ i)]
          exact Nat.mul_lt_mul_of_pos_right (by omega) (Nat.pow_pos (by decide))
        omega
      · rw [chainU_ge (by omega), show (v * 128 + (c % 128).toNat) / 128 = v by omega]; simp only [List.length_cons]; omega
      · rw [chainU_ge (by omega), show (v * 128 + (c % 128).toNat) / 128 = v by omega, h5]
        simp only [List.cons_append]
        congr 1; omega
    · rename_i hlt
      split at h
      · cases h
      rename_i h0
      simp only [Option.some.injEq, Prod.mk.injEq] at h
      obtain ⟨rfl, rfl⟩ := h
      refine ⟨c.toNat, rfl, by omega, ?_, by rw [chainU_lt (by omega)]; rfl, s, ?_⟩
      · rcases Nat.lt_or_ge i 9 with h1 | h1
        · have : (128 : Nat) ^ i ≤ 128 ^ 8 := Nat.pow_le_pow_right (by decide) (by omega)
          have h2 : c.toNat * 128 ^ i ≤ 127 * 128 ^ 8 := Nat.mul_le_mul (by omega) this
          have h3 : (127 : Nat) * 128 ^ 8 < 18446744073709551616 := by decide
          exact Nat.lt_of_le_of_lt h2 h3
        · obtain rfl : i = 9 := by omega
          have : c.toNat ≤ 1 := by omega
          have h2 : c.toNat * 128 ^ 9 ≤ 1 * 128 ^ 9 := Nat.mul_le_mul_right _ this
          have h3 : (1 : Nat) * 128 ^ 9 < 18446744073709551616 := by decide
          exact Nat.lt_of_le_of_lt h2 h3
      · rw [chainU_lt (by omega)]
        simp only [List.singleton_append]
        congr 1; omega
end Go.LM
