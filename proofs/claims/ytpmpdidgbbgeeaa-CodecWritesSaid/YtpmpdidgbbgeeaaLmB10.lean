import Derived.Test.YtpmpdidgbbgeeaaLmB8
namespace Go.LM
/-! ### numbers as chains, one behind the other -/
def chn (n : Int) : List Int := chainU (foldN n).toNat
def chns (l : List Int) : List Int := l.flatMap chn
/-- A number of 64 bits. -/
abbrev I64 (n : Int) : Prop := -9223372036854775808 ≤ n ∧ n < 9223372036854775808
theorem chns_nil : chns [] = [] := rfl
theorem chns_cons (n : Int) (l : List Int) : chns (n :: l) = chn n ++ chns l := by simp [chns]
theorem chns_append (a b : List Int) : chns (a ++ b) = chns a ++ chns b := by simp [chns]
theorem chn_len {n : Int} (h : I64 n) : (chn n).length ≤ 10 := by
  have := fold_range h.1 h.2
  exact chainU_len10 (by omega)
theorem chn_pos (n : Int) : 0 < (chn n).length := chainU_pos _
theorem chns_len {l : List Int} (h : ∀ n ∈ l, I64 n) : (chns l).length ≤ 10 * l.length := by
  induction l with
  | nil => simp [chns]
  | cons n l ih =>
    rw [chns_cons, List.length_append, List.length_cons]
    have := chn_len (h n (by simp))
    have := ih (fun x hx => h x (by simp [hx]))
    omega
theorem chn_bytes (n : Int) : ∀ c ∈ chn n, 0 ≤ c ∧ c < 256 := chainU_bytes _
/-- A chain says where it ends. -/
theorem chn_inj {m n : Int} {r s : List Int} (hm : I64 m) (hn : I64 n) (h : chn m ++ r = chn n ++ s) : m = n ∧ r = s := by
  have f1 := fold_range hm.1 hm.2
  have f2 := fold_range hn.1 hn.2
  have h1 := scan_chain (foldN m).toNat 0 0 r (.inl rfl) (by omega)
  have h2 := scan_chain (foldN n).toNat 0 0 s (.inl rfl) (by omega)
  have e : chainU (foldN m).toNat ++ r = chainU (foldN n).toNat ++ s := h
  rw [e, h2] at h1
  simp only [Nat.zero_add, Nat.pow_zero, Nat.mul_one, Option.some.injEq, Prod.mk.injEq] at h1
  have hf : foldN m = foldN n := by omega
  have hmn : m = n := by rw [← unfold_fold m, hf, unfold_fold]
  subst hmn
  exact ⟨rfl, List.append_cancel_left h⟩
theorem chns_inj : ∀ {a b : List Int} {r s : List Int}, a.length = b.length → (∀ n ∈ a, I64 n) → (∀ n ∈ b, I64 n) → chns a ++ r = chns b ++ s → a = b ∧ r = s
  | [], [], r, s, _, _, _, h => ⟨rfl, by simpa [chns] using h⟩
  | [], _ :: _, _, _, hl, _, _, _ => by simp at hl
  | _ :: _, [], _, _, hl, _, _, _ => by simp at hl
  | m :: a, n :: b, r, s, hl, ha, hb, h => by
    rw [chns_cons, chns_cons, List.append_assoc, List.append_assoc] at h
    obtain ⟨rfl, h2⟩ := chn_inj (ha m (by simp)) (hb n (by simp)) h
    obtain ⟨rfl, h3⟩ := chns_inj (by simpa using hl) (fun x hx => ha x (by simp [hx])) (fun x hx => hb x (by simp [hx])) h2
    exact ⟨rfl, h3⟩

/-! ### a list of things, and how many there are ahead of it -/
def many {α : Type} (f : α → List Int) (l : List α) : List Int := chn l.length ++ l.flatMap f
theorem flat_inj {α : Type} {f : α → List Int} {R : α → α → Prop} : ∀ {a b : List α} {r s : List Int}, a.length = b.length → (∀ x ∈ a, ∀ y ∈ b, ∀ r s, f x ++ r = f y ++ s → R x y ∧ r = s) → a.flatMap f ++ r = b.flatMap f ++ s →
    (∀ (i : Nat) x y, a[i]? = some x → b[i]? = some y → R x y) ∧ r = s
  | [], [], r, s, _, _, h => ⟨fun i x y hx => by simp at hx, by simpa using h⟩
  | [], _ :: _, _, _, hl, _, _ => by simp at hl
  | _ :: _, [], _, _, hl, _, _ => by simp at hl
  | m :: a, n :: b, r, s, hl, hf, h => by
    rw [List.flatMap_cons, List.flatMap_cons, List.append_assoc, List.append_assoc] at h
    obtain ⟨h1, h4⟩ := hf m (by simp) n (by simp) _ _ h
    obtain ⟨h2, h5⟩ := flat_inj (by simpa using hl) (fun x hx y hy => hf x (by simp [hx]) y (by simp [hy])) h4
    refine ⟨fun i x y hx hy => ?_, h5⟩
    cases i with
    | zero => simp at hx hy; subst hx; subst hy; exact h1
    | succ i => exact h2 i x y (by simpa using hx) (by simpa using hy)
theorem many_inj {α : Type} {f : α → List Int} {R : α → α → Prop} {a b : List α} {r s : List Int} (ha : I64 a.length) (hb : I64 b.length) (hf : ∀ x ∈ a, ∀ y ∈ b, ∀ r s, f x ++ r = f y ++ s → R x y ∧ r = s)
    (h : many f a ++ r = many f b ++ s) : a.length = b.length ∧ (∀ (i : Nat) x y, a[i]? = some x → b[i]? = some y → R x y) ∧ r = s := by
  unfold many at h
  rw [List.append_assoc, List.append_assoc] at h
  obtain ⟨h1, h⟩ := chn_inj ha hb h
  have hl : a.length = b.length := by omega
  obtain ⟨h2, h3⟩ := flat_inj hl hf h
  exact ⟨hl, h2, h3⟩
theorem flat_len {α : Type} {f : α → List Int} {k : Nat} : ∀ {l : List α}, (∀ x ∈ l, (f x).length ≤ k) → (l.flatMap f).length ≤ k * l.length
  | [], _ => by simp
  | x :: l, h => by
    rw [List.flatMap_cons, List.length_append, List.length_cons]
    have := h x (by simp)
    have := flat_len (l := l) (fun y hy => h y (by simp [hy]))
    rw [Nat.mul_succ]; omega
theorem flat_take {α : Type} (f : α → List Int) {l : List α} {i : Nat} {x : α} (h : l[i]? = some x) : (l.take (i + 1)).flatMap f = (l.take i).flatMap f ++ f x := by
  obtain ⟨hlt, rfl⟩ := List.getElem?_eq_some_iff.1 h
  rw [← List.take_append_getElem hlt, List.flatMap_append]; simp
end Go.LM
