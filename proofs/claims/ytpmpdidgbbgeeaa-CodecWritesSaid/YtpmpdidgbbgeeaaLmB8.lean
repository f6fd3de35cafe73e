import Derived.Test.YtpmpdidgbbgeeaaLmB7
namespace Go.LM
/-! ### the document's reading of a chain -/
def cntN : Nat → List Int → Nat
  | 0, _ => 0
  | _ + 1, [] => 0
  | f + 1, c :: l => if 127 < c then cntN f l + 1 else 0
def valD : List Int → Nat
  | [] => 0
  | c :: l => (c % 128).toNat + 128 * valD l
theorem cntN_le : ∀ f l, cntN f l ≤ f ∧ cntN f l ≤ l.length
  | 0, _ => ⟨Nat.le_refl _, Nat.zero_le _⟩
  | _ + 1, [] => ⟨Nat.zero_le _, Nat.le_refl _⟩
  | f + 1, c :: l => by
    simp only [cntN]
    split
    · have := cntN_le f l; simp; omega
    · simp
theorem cntN_drop : ∀ f (l : List Int) n, n ≤ f → n ≤ l.length → (∀ k, k < n → ∀ c, l[k]? = some c → 127 < c) → cntN f l = n + cntN (f - n) (l.drop n)
  | f, l, 0, _, _, _ => by simp
  | 0, l, n + 1, h, _, _ => by omega
  | f + 1, [], n + 1, _, h, _ => by simp at h
  | f + 1, c :: l, n + 1, h1, h2, h3 => by
    have := h3 0 (by omega) c rfl
    simp only [cntN, if_pos this, List.drop_succ_cons]
    rw [cntN_drop f l n (by omega) (by simpa using h2) (fun k hk c hc => h3 (k + 1) (by omega) c (by simpa using hc))]
    rw [show f + 1 - (n + 1) = f - n by omega]; omega
theorem valD_chain : ∀ v, valD (chainU v) = v := by
  intro v
  induction v using Nat.strongRecOn with
  | _ v ih =>
    by_cases h : v < 128
    · rw [chainU_lt h]; simp only [valD]; omega
    · rw [chainU_ge (by omega)]; simp only [valD]; rw [ih (v / 128) (by omega)]; omega
theorem cntN_chain : ∀ v rest f, (chainU v).length ≤ f → cntN f (chainU v ++ rest) + 1 = (chainU v).length := by
  intro v
  induction v using Nat.strongRecOn with
  | _ v ih =>
    intro rest f hf
    by_cases h : v < 128
    · rw [chainU_lt h] at hf ⊢
      obtain ⟨f, rfl⟩ : ∃ g, f = g + 1 := ⟨f - 1, by simp at hf; omega⟩
      simp only [List.singleton_append, cntN]
      rw [if_neg (by omega)]; rfl
    · rw [chainU_ge (by omega)] at hf ⊢
      obtain ⟨f, rfl⟩ : ∃ g, f = g + 1 := ⟨f - 1, by simp at hf; omega⟩
      simp only [List.cons_append, cntN]
      rw [if_pos (by omega), ih (v / 128) (by omega) rest f (by simpa using hf)]; rfl
theorem chainU_bytes : ∀ v, ∀ c ∈ chainU v, 0 ≤ c ∧ c < 256 := by
  intro v
  induction v using Nat.strongRecOn with
  | _ v ih =>
    intro c hc
    by_cases h : v < 128
    · rw [chainU_lt h] at hc; simp at hc; omega
    · rw [chainU_ge (by omega)] at hc
      simp only [List.mem_cons] at hc
      rcases hc with rfl | hc
      · omega
      · exact ih (v / 128) (by omega) c hc
/-- What the document's Get answers. -/
def rgetL (b : List Int) (at_ : Int) : Int × Int × Int :=
  if at_ < 0 ∨ (b.length : Int) < at_ then (0, 0, 1)
  else
    let l := b.drop at_.toNat
    let n := cntN 10 l
    if n = 10 ∨ n = l.length then (0, 0, 2)
    else if chainU (valD (l.take (n + 1)) % 18446744073709551616) = l.take (n + 1) then (unfoldN (valD (l.take (n + 1)) % 18446744073709551616 : Nat), at_ + n + 1, 0)
    else (0, 0, 2)
/-- What chain.Get answers. -/
def getL (b : List Int) (at_ : Int) : Int × Int × Int :=
  if at_ < 0 ∨ (b.length : Int) < at_ then (0, 0, 1)
  else match scan (b.drop at_.toNat) 0 0 with
    | none => (0, 0, 2)
    | some (u, k) => (unfoldN u, at_ + k, 0)
theorem rget_eq {b : List Int} (hc : ∀ c ∈ b, 0 ≤ c ∧ c < 256) (at_ : Int) : rgetL b at_ = getL b at_ := by
  unfold rgetL getL
  split
  · rfl
  have hcl : ∀ c ∈ b.drop at_.toNat, 0 ≤ c ∧ c < 256 := fun c hm => hc c (List.mem_of_mem_drop hm)
  generalize b.drop at_.toNat = l at *
  dsimp only
  cases hs : scan l 0 0 with
  | some p =>
    obtain ⟨u, k⟩ := p
    obtain ⟨v, h1, _, h3, h4, rest, h5⟩ := scan_inv l 0 0 u k (by omega) hcl hs
    obtain rfl : u = v := by omega
    have hlen := chainU_len10 (u := u) (by omega)
    have hn := cntN_chain u rest 10 hlen
    rw [← h5] at hn
    have hlp : l.length = (chainU u).length + rest.length := by rw [h5]; simp
    rw [if_neg (by omega)]
    have ht : l.take (cntN 10 l + 1) = chainU u := by rw [hn, h5]; simp
    rw [ht, valD_chain, Nat.mod_eq_of_lt (by omega), if_pos rfl]
    simp only [h4]
    congr 2; omega
  | none =>
    dsimp only
    split
    · rfl
    · split
      · rename_i hne heq
        exfalso
        have h5 : l = chainU (valD (l.take (cntN 10 l + 1)) % 18446744073709551616) ++ l.drop (cntN 10 l + 1) := by
          rw [heq]; exact (List.take_append_drop _ _).symm
        have := scan_chain (valD (l.take (cntN 10 l + 1)) % 18446744073709551616) 0 0 (l.drop (cntN 10 l + 1)) (.inl rfl) (by have := Nat.mod_lt (valD (l.take (cntN 10 l + 1))) (show 0 < 18446744073709551616 by decide); omega)
        rw [← h5, hs] at this; cases this
      · rfl
theorem valD_step {d x : Nat} : ((x % 18446744073709551616) * 128 % 18446744073709551616 + d) % 18446744073709551616 = (d + 128 * x) % 18446744073709551616 := by omega
end Go.LM
