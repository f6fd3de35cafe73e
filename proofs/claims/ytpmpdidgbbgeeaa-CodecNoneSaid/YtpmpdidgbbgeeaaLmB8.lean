import Derived.Test.YtpmpdidgbbgeeaaLmY
namespace Go.LM
/-! ### the document's reading of a chain -/
def cntN : Nat → List Int → Nat
  | 0, _ => 0
  | _ + 1, [] => 0
  | f + 1, c :: l => if 127 < c then cntN f l + 1 else 0
def valD : List Int → Nat
  | [] => 0
  | c :: l => (c % 128).toNat + 128 * valD l
theorem cntN_le : ∀ f l, cntN f l ≤ f ∧ cntN f l ≤ l.length
  | 0, _ => ⟨Nat.le_refl _, Nat.zero_le _⟩
  | _ + 1, [] => ⟨Nat.zero_le _, Nat.le_refl _⟩
  | f + 1, c :: l => by
    simp only [cntN]
    split
    · have := cntN_le f l; simp; omega
    · simp
theorem cntN_drop : ∀ f (l : List Int) n, n ≤ f → n ≤ l.length → (∀ k, k < n → ∀ c, l[k]? = some c → 127 < c) → cntN f l = n + cntN (f - n) (l.drop n)
  | f, l, 0, _, _, _ => by simp
  | 0, l, n + 1, h, _, _ => by omega
  | f + 1, [], n + 1, _, h, _ => by simp at h
  | f + 1, c :: l, n + 1, h1, h2, h3 => by
    have := h3 0 (by omega) c rfl
    simp only [cntN, if_pos this, List.drop_succ_cons]
    rw [cntN_drop f l n (by omega) (by simpa using h2) (fun k hk c hc => h3 (k + 1) (by omega) c (by simpa using hc))]
    rw [show f + 1 - (n + 1) = f - n by omega]; omega
theorem valD_chain : ∀ v, valD (chainU v) = v := by
  intro v
  induction v using Nat.strongRecOn with
  | _ v ih =>
    by_cases h : v < 128
    · rw [chainU_lt h]; simp only [valD]; omega
    · rw [chainU_ge (by omega)]; simp only [valD]; rw [ih (v / 128) (by omega)]; omega
theorem cntN_chain : ∀ v rest f, (chainU v).length ≤ f → cntN f (chainU v ++ rest) + 1 = (chainU v).length := by
  intro v
  induction v using Nat.strongRecOn with
  | _ v ih =>
    intro rest f hf
    by_cases h : v < 128
    · rw [chainU_lt h] at hf ⊢
      obtain ⟨f, rfl⟩ : ∃ g, f = g + 1 := ⟨f - 1, by simp at hf; omega⟩
      simp only [List.singleton_append, cntN]
      rw [if_neg (by omega)]; rfl
    · rw [chainU_ge (by omega)] at hf ⊢
      obtain ⟨f, rfl⟩ : ∃ g, f = g + 1 := ⟨f - 1, by simp at hf; omega⟩
      simp only [List.cons_append, cntN]
      rw [if_pos (by omega), ih (v / 128) (by omega) rest f (by simpa using hf)]; rfl
theorem chainU_bytes : ∀ v, ∀ c ∈ chainU v, 0 ≤ c ∧ c < 256 := by
  intro v
  induction v using Nat.strongRecOn with
  | _ v ih =>
    intro c hc
    by_cases h : v < 128
    · rw [chainU_lt h] at hc; simp at hc; omega
    · rw [chainU_ge (by omega)] at hc
      simp only [List.mem_cons] at hc
      rcases hc with rfl | hc
      · omega
      · exact ih (v / 128) (by omega) c hc
/-- What the document's Get answers. -/
def rgetL (b : List Int) (at_ : Int) : Int × Int × Int :=
  if at_ < 0 ∨ (b.length : Int) < at_ then (0, 0, 1)
  else
    let l := b.drop at_.toNat
    let n := cntN 10 l
    if n = 10 ∨ n = l.length then (0, 0, 2)
    else if chainU (valD (l.take (n + 1)) % 18446744073709551616) = l.take (n + 1) then (unfoldN (valD (l.take (n + 1)) % 18446744073709551616 : Nat), at_ + n + 1, 0)
    else (0, 0, 2)
/-- What chain.Get answers. -/
def getL (b : List Int) (at_ : Int) : Int × Int × Int :=
  if at_ < 0 ∨ (b.length : Int) < at_ then (0, 0, 1)
  else match scan (b.drop at_.toNat) 0 0 with
    | none => (0, 0, 2)
    | some (u, k) => (unfoldN u, at_ + k, 0)
theorem rget_eq {b : List Int} (hc : ∀ c ∈ b, 0 ≤ c ∧ c < 256) (at_ : Int) : rgetL b at_ = getL b at_ := by
  unfold rgetL getL
  split
  · rfl
  have hcl : ∀ c ∈ b.drop at_.toNat, 0 ≤ c ∧ c < 256 := fun c hm => hc c (List.mem_of_mem_drop hm)
  generalize b.drop at_.toNat = l at *
  dsimp only
  cases hs : scan l 0 0 with
  | some p =>
    obtain ⟨u, k⟩ := p
    obtain ⟨v, h1, _, h3, h4, rest, h5⟩ := scan_inv l 0 0 u k (by omega) hcl hs
    obtain rfl : u = v := by omega
    have hlen := chainU_len10 (u := u) (by omega)
    have hn := cntN_chain u rest 10 hlen
    rw [← h5] at hn
    have hlp : l.length = (chainU u).length + rest.length := by rw [h5]; simp
    rw [if_neg (by omega)]
    have ht : l.take (cntN 10 l + 1) = chainU u := by rw [hn, h5]; simp
    rw [ht, valD_chain, Nat.mod_eq_of_lt (by omega), if_pos rfl]
    simp only [h4]
    congr 2; omega
  | none =>
    dsimp only
    split
    · rfl
    · split
      · rename_i hne heq
        exfalso
        have h5 : l = chainU (valD (l.take (cntN 10 l + 1)) % 18446744073709551616) ++ l.drop (cntN 10 l + 1) := by
          rw [heq]; exact (List.take_append_drop _ _).symm
        have := scan_chain (valD (l.take (cntN 10 l + 1)) % 18446744073709551616) 0 0 (l.drop (cntN 10 l + 1)) (.inl rfl) (by have := Nat.mod_lt (valD (l.take (cntN 10 l + 1))) (show 0 < 18446744073709551616 by decide); omega)
        rw [← h5, hs] at this; cases this
      · rfl
theorem valD_step {d x : Nat} : ((x % 18446744073709551616) * 128 % 18446744073709551616 + d) % 18446744073709551616 = (d + 128 * x) % 18446744073709551616 := by omega
end Go.LM

namespace Go.LM
/-! ### numbers as chains, one behind the other -/
def chn (n : Int) : List Int := chainU (foldN n).toNat
def chns (l : List Int) : List Int := l.flatMap chn
/-- A number of 64 bits. -/
abbrev I64 (n : Int) : Prop := -9223372036854775808 ≤ n ∧ n < 9223372036854775808
theorem chns_nil : chns [] = [] := rfl
theorem chns_cons (n : Int) (l : List Int) : chns (n :: l) = chn n ++ chns l := by simp [chns]
theorem chns_append (a b : List Int) : chns (a ++ b) = chns a ++ chns b := by simp [chns]
theorem chn_len {n : Int} (h : I64 n) : (chn n).length ≤ 10 := by
  have := fold_range h.1 h.2
  exact chainU_len10 (by omega)
theorem chn_pos (n : Int) : 0 < (chn n).length := chainU_pos _
theorem chns_len {l : List Int} (h : ∀ n ∈ l, I64 n) : (chns l).length ≤ 10 * l.length := by
  induction l with
  | nil => simp [chns]
  | cons n l ih =>
    rw [chns_cons, List.length_append, List.length_cons]
    have := chn_len (h n (by simp))
    have := ih (fun x hx => h x (by simp [hx]))
    omega
theorem chn_bytes (n : Int) : ∀ c ∈ chn n, 0 ≤ c ∧ c < 256 := chainU_bytes _
/-- A chain says where it ends. -/
theorem chn_inj {m n : Int} {r s : List Int} (hm : I64 m) (hn : I64 n) (h : chn m ++ r = chn n ++ s) : m = n ∧ r = s := by
  have f1 := fold_range hm.1 hm.2
  have f2 := fold_range hn.1 hn.2
  have h1 := scan_chain (foldN m).toNat 0 0 r (.inl rfl) (by omega)
  have h2 := scan_chain (foldN n).toNat 0 0 s (.inl rfl) (by omega)
  have e : chainU (foldN m).toNat ++ r = chainU (foldN n).toNat ++ s := h
  rw [e, h2] at h1
  simp only [Nat.zero_add, Nat.pow_zero, Nat.mul_one, Option.some.injEq, Prod.mk.injEq] at h1
  have hf : foldN m = foldN n := by omega
  have hmn : m = n := by rw [← unfold_fold m, hf, unfold_fold]
  subst hmn
  exact ⟨rfl, List.append_cancel_left h⟩
theorem chns_inj : ∀ {a b : List Int} {r s : List Int}, a.length = b.length → (∀ n ∈ a, I64 n) → (∀ n ∈ b, I64 n) → chns a ++ r = chns b ++ s → a = b ∧ r = s
  | [], [], r, s, _, _, _, h => ⟨rfl, by simpa [chns] using h⟩
  | [], _ :: _, _, _, hl, _, _, _ => by simp at hl
  | _ :: _, [], _, _, hl, _, _, _ => by simp at hl
  | m :: a, n :: b, r, s, hl, ha, hb, h => by
    rw [chns_cons, chns_cons, List.append_assoc, List.append_assoc] at h
    obtain ⟨rfl, h2⟩ := chn_inj (ha m (by simp)) (hb n (by simp)) h
    obtain ⟨rfl, h3⟩ := chns_inj (by simpa using hl) (fun x hx => ha x (by simp [hx])) (fun x hx => hb x (by simp [hx])) h2
    exact ⟨rfl, h3⟩

/-! ### a list of things, and how many there are ahead of it -/
def many {α : Type} (f : α → List Int) (l : List α) : List Int := chn l.length ++ l.flatMap f
theorem flat_inj {α : Type} {f : α → List Int} {R : α → α → Prop} : ∀ {a b : List α} {r s : List Int}, a.length = b.length → (∀ x ∈ a, ∀ y ∈ b, ∀ r s, f x ++ r = f y ++ s → R x y ∧ r = s) → a.flatMap f ++ r = b.flatMap f ++ s →
    (∀ (i : Nat) x y, a[i]? = some x → b[i]? = some y → R x y) ∧ r = s
  | [], [], r, s, _, _, h => ⟨fun i x y hx => by simp at hx, by simpa using h⟩
  | [], _ :: _, _, _, hl, _, _ => by simp at hl
  | _ :: _, [], _, _, hl, _, _ => by simp at hl
  | m :: a, n :: b, r, s, hl, hf, h => by
    rw [List.flatMap_cons, List.flatMap_cons, List.append_assoc, List.append_assoc] at h
    obtain ⟨h1, h4⟩ := hf m (by simp) n (by simp) _ _ h
    obtain ⟨h2, h5⟩ := flat_inj (by simpa using hl) (fun x hx y hy => hf x (by simp [hx]) y (by simp [hy])) h4
    refine ⟨fun i x y hx hy => ?_, h5⟩
    cases i with
    | zero => simp at hx hy; subst hx; subst hy; exact h1
    | succ i => exact h2 i x y (by simpa using hx) (by simpa using hy)
theorem many_inj {α : Type} {f : α → List Int} {R : α → α → Prop} {a b : List α} {r s : List Int} (ha : I64 a.length) (hb : I64 b.length) (hf : ∀ x ∈ a, ∀ y ∈ b, ∀ r s, f x ++ r = f y ++ s → R x y ∧ r = s)
    (h : many f a ++ r = many f b ++ s) : a.length = b.length ∧ (∀ (i : Nat) x y, a[i]? = some x → b[i]? = some y → R x y) ∧ r = s := by
  unfold many at h
  rw [List.append_assoc, List.append_assoc] at h
  obtain ⟨h1, h⟩ := chn_inj ha hb h
  have hl : a.length = b.length := by omega
  obtain ⟨h2, h3⟩ := flat_inj hl hf h
  exact ⟨hl, h2, h3⟩
theorem flat_len {α : Type} {f : α → List Int} {k : Nat} : ∀ {l : List α}, (∀ x ∈ l, (f x).length ≤ k) → (l.flatMap f).length ≤ k * l.length
  | [], _ => by simp
  | x :: l, h => by
    rw [List.flatMap_cons, List.length_append, List.length_cons]
    have := h x (by simp)
    have := flat_len (l := l) (fun y hy => h y (by simp [hy]))
    rw [Nat.mul_succ]; omega
theorem flat_take {α : Type} (f : α → List Int) {l : List α} {i : Nat} {x : α} (h : l[i]? = some x) : (l.take (i + 1)).flatMap f = (l.take i).flatMap f ++ f x := by
  obtain ⟨hlt, rfl⟩ := List.getElem?_eq_some_iff.1 h
  rw [← List.take_append_getElem hlt, List.flatMap_append]; simp
end Go.LM

namespace Go.LM
variable {P : Program} {T : Nat → Option LV}
abbrev bytsL (o : Option (Nat × Nat)) (l : List Int) : LV := mkS o 1 (l.map (LV.int .u8))
/-- A writer: a variable that holds bytes, on a row of its own. -/
structure Wr (h0 : H) (b : Nat) (bs : List Int) (h : H) : Prop where
  get : ∃ o, h.get b = some ⟨false, [bytsL o bs]⟩ ∧ okTok o bs.length h ∧ newTok o h0
  lob : h.lob ≤ b
  new : h0.len ≤ b
  keep : Keep h0 h
  wf : WF h
/-- Other variables stay as they are. -/
structure Oth (b : Nat) (h h' : H) : Prop where
  len : h.len ≤ h'.len
  get : ∀ c, c < h.len → c ≠ b → h'.get c = h.get c
theorem Oth.refl (b : Nat) (h : H) : Oth b h h := ⟨Nat.le_refl _, fun _ _ _ => rfl⟩
theorem Oth.trans {b : Nat} {h h' h2 : H} (a : Oth b h h') (c : Oth b h' h2) : Oth b h h2 := ⟨Nat.le_trans a.len c.len, fun x hx hn => (c.get x (Nat.lt_of_lt_of_le hx a.len) hn).trans (a.get x hx hn)⟩
theorem Wr.lt {h0 : H} {b : Nat} {bs : List Int} {h : H} (w : Wr h0 b bs h) : b < h.len := by
  obtain ⟨o, hg, _⟩ := w.get
  exact (List.getElem?_eq_some_iff.1 hg).1
/-- Steps that leave all as it is. -/
theorem Wr.next {h0 : H} {b : Nat} {bs : List Int} {h h' : H} (w : Wr h0 b bs h) (k : Keep h h') : Wr h0 b bs h' := by
  obtain ⟨o, hg, ht, hn⟩ := w.get
  exact ⟨⟨o, (k.get w.lt).trans hg, okTok_keep k ht, hn⟩, by rw [k.lob]; exact w.lob, w.new, w.keep.trans k, w.wf.keep k⟩
theorem Keep.oth {h h' : H} (k : Keep h h') (b : Nat) : Oth b h h' := ⟨k.len, fun _ hc _ => k.get hc⟩
theorem len_apH (o : Option (Nat × Nat)) (n : Nat) (h : H) : (apH o n h).len = h.len := len_ap
/-- A new writer. -/
theorem Wr.start {h0 h : H} (w : WF h) (k : Keep h0 h) : Wr h0 h.len [] (h.alloc [.nils]) :=
  ⟨⟨none, by simp; rfl, rfl, trivial⟩, by rw [lob_alloc]; exact w.1, k.len, k.alloc _, wf_alloc w⟩
/-- A call that writes: the memory behind it, by a name. -/
theorem ro_wcall {k : List Fk} {os : List RO} {d : Option Nat} {s : S} {h : H} {Q : X × S × H → Prop} {f : Nat} {args : List LV} {v : LV} {J : H → Prop} (hr : ∃ h', runI P T f args h = some (v, h') ∧ J h')
    (hk : ∀ hh, J hh → Ro P T k (opsK P (runI P T) os d s (some (v, hh))) Q) : Ro P T k (opsK P (runI P T) os d s (runI P T f args h)) Q := by
  obtain ⟨h', e, hj⟩ := hr
  rw [e]; exact hk h' hj
theorem rw_wcall {k : List Fk} {ow : List RW} {d : Option Nat} {s : S} {h : H} {Q : X × S × H → Prop} {f : Nat} {args : List LV} {v : LV} {J : H → Prop} (hr : ∃ h', runI P T f args h = some (v, h') ∧ J h')
    (hk : ∀ hh, J hh → Ro P T k (opsKW P (runI P T) ow d s (some (v, hh))) Q) : Ro P T k (opsKW P (runI P T) ow d s (runI P T f args h)) Q := by
  obtain ⟨h', e, hj⟩ := hr
  rw [e]; exact hk h' hj
/-- A call that ends so. -/
theorem calls_ex {f : Nat} {rc : RC} {res : List ResultVar} {n : Nat} {args : List LV} {h : H} {v : LV} {J : H → Prop} (hT : T f = none) (hF : resF P f n = some ⟨n, rc, res⟩) (hn : args.length = n)
    (hr : Ru P T [] (ex P T rc (startL args) h) (Fin P res fun u h' => u = v ∧ J h')) : ∃ h', runI P T f args h = some (v, h') ∧ J h' := by
  obtain ⟨u, h', h1, rfl, h2⟩ := calls_of hT hF hn hr
  exact ⟨h', h1, h2⟩
end Go.LM

namespace Go.LM
/-! ### pages, plainly -/
structure PutR where
  k : Int
  n : Int
  l : Int
  y : Int
  h : Int
  deriving DecidableEq
def PutR.e (p : PutR) : LV := .agg [.int .i64 p.k, .int .i64 p.n, .int .i64 p.l, .int .i64 p.y, .int .i64 p.h]
def PutR.nums (p : PutR) : List Int := [p.k, p.n, p.l, p.y, p.h]
abbrev PutR.ok (p : PutR) : Prop := ∀ x ∈ p.nums, I64 x
structure LaneR where
  x : Int
  o : Option (Nat × Nat)
  puts : List PutR
def LaneR.e (x : LaneR) : LV := .agg [.int .i64 x.x, mkS x.o 5 (x.puts.map PutR.e)]
abbrev LaneR.ok (x : LaneR) : Prop := I64 x.x ∧ x.puts.length ≤ 100 ∧ ∀ p ∈ x.puts, p.ok
structure PageR where
  top : Int
  first : Int
  last : Int
  o : Option (Nat × Nat)
  lanes : List LaneR
def PageR.e (x : PageR) : LV := .agg [mkS x.o 2 (x.lanes.map LaneR.e), .int .i64 x.top, .int .i64 x.first, .int .i64 x.last]
abbrev PageR.ok (x : PageR) : Prop := (∀ n ∈ [x.top, x.first, x.last], I64 n) ∧ x.lanes.length ≤ 20 ∧ ∀ p ∈ x.lanes, p.ok
def putB (p : PutR) : List Int := chns p.nums
def laneB (x : LaneR) : List Int := chns [x.x] ++ many putB x.puts
def pageB (x : PageR) : List Int := chns [x.top, x.first, x.last] ++ many laneB x.lanes
def pagesB (l : List PageR) : List Int := [84, 89, 80, 49] ++ many pageB l
theorem putB_len {p : PutR} (h : p.ok) : (putB p).length ≤ 50 := by
  have := chns_len (l := p.nums) h; simpa [putB, PutR.nums] using this
theorem many_len {α : Type} {f : α → List Int} {l : List α} {k : Nat} (hl : I64 l.length) (h : ∀ x ∈ l, (f x).length ≤ k) : (many f l).length ≤ 10 + k * l.length := by
  unfold many
  rw [List.length_append]
  have := chn_len hl
  have := flat_len h
  omega
theorem laneB_len {x : LaneR} (h : x.ok) : (laneB x).length ≤ 5020 := by
  unfold laneB
  rw [List.length_append]
  have h1 := chns_len (l := [x.x]) (by simpa using h.1)
  have h2 := many_len (f := putB) (l := x.puts) (k := 50) ⟨by omega, by have := h.2.1; omega⟩ (fun p hp => putB_len (h.2.2 p hp))
  have := h.2.1
  simp at h1
  omega
theorem pageB_len {x : PageR} (h : x.ok) : (pageB x).length ≤ 100440 := by
  unfold pageB
  rw [List.length_append]
  have h1 := chns_len (l := [x.top, x.first, x.last]) h.1
  have h2 := many_len (f := laneB) (l := x.lanes) (k := 5020) ⟨by omega, by have := h.2.1; omega⟩ (fun p hp => laneB_len (h.2.2 p hp))
  have := h.2.1
  simp only [List.length_cons, List.length_nil] at h1
  omega
theorem pagesB_len {l : List PageR} (hl : l.length ≤ 40) (h : ∀ x ∈ l, x.ok) : (pagesB l).length ≤ 4017614 := by
  unfold pagesB
  rw [List.length_append]
  have h2 := many_len (f := pageB) (l := l) (k := 100440) ⟨by omega, by omega⟩ (fun p hp => pageB_len (h p hp))
  simp only [List.length_cons, List.length_nil]
  omega
theorem many_take0 {α : Type} (f : α → List Int) (l : List α) : chn l.length ++ (l.take 0).flatMap f = chn l.length := by simp
end Go.LM

namespace Go.LM
variable {P : Program} {T : Nat → Option LV}
/-- A turn of a loop that ends as a turn: the rest behind the loop is put aside. -/
theorem ru_step {k : List Fk} {r : Option (X × S × H)} {A B : X × S × H → Prop} (hr : Ru P T k r A) : Ru P T k r (fun r => A r ∨ B r) := hr.mono fun _ h => .inl h
/-! ### bytes gathered in a loop -/
structure Acc (h0 : H) (o : Option (Nat × Nat)) (pre : List Int) (h : H) : Prop where
  tok : okTok o pre.length h
  new : newTok o h0
  keep : Keep h0 h
  wf : WF h
theorem Acc.start {h0 h : H} (k : Keep h0 h) (w : WF h) : Acc h0 none [] h := ⟨rfl, trivial, k, w⟩
theorem Acc.next {h0 : H} {o : Option (Nat × Nat)} {pre : List Int} {h h' : H} (a : Acc h0 o pre h) (k : Keep h h') : Acc h0 o pre h' := ⟨okTok_keep k a.tok, a.new, a.keep.trans k, a.wf.keep k⟩
theorem Acc.app {h0 : H} {o : Option (Nat × Nat)} {pre : List Int} {h : H} (a : Acc h0 o pre h) (ys : List Int) (hb : pre.length + ys.length ≤ 1000000000) :
    ∃ o' h', appS 1 1 (mkS o 1 (pre.map (LV.int .u8))) h (some (ys.map (LV.int .u8))) = some (mkS o' 1 ((pre ++ ys).map (LV.int .u8)), h') ∧ Acc h0 o' (pre ++ ys) h' ∧ (∀ c, h'.get c = h.get c) ∧ h'.len = h.len ∧ h'.lob = h.lob := by
  have ap := append_mk (sz := 1) (by_ := 1) (xs := pre.map (LV.int .u8)) (ys := ys.map (LV.int .u8)) (o := o) (h := h) (by simpa using a.tok) (by simp; omega)
  rw [← List.map_append] at ap
  have t2 := okTok_ap (m := (ys.map (LV.int .u8)).length) a.wf a.tok
  refine ⟨_, _, ap, ⟨?_, newTok_ap a.keep a.new, keep_ap a.keep a.new, wf_ap a.wf⟩, fun c => get_ap c, len_ap, lob_ap⟩
  rw [List.length_append]
  simpa using t2

/-! ### pages, and their lengths on the way -/
theorem pre_len {l : List PageR} (hl : l.length ≤ 40) (h : ∀ x ∈ l, x.ok) (i : Nat) : ([84, 89, 80, 49] ++ chn l.length ++ (l.take i).flatMap pageB).length ≤ 5000000 := by
  rw [List.length_append, List.length_append]
  have h1 := flat_len (f := pageB) (k := 100440) (l := l.take i) (fun n hn => pageB_len (h n (List.mem_of_mem_take hn)))
  have h2 := chn_len (n := (l.length : Int)) ⟨by omega, by omega⟩
  have h3 : (l.take i).length ≤ 40 := by rw [List.length_take]; omega
  have := Nat.mul_le_mul_left 100440 h3
  simp only [List.length_cons, List.length_nil]
  omega
theorem lane_pre {p : PageR} (h : p.ok) (k : Nat) : ((p.lanes.take k).flatMap laneB).length ≤ 110000 := by
  have h1 := flat_len (f := laneB) (k := 5020) (l := p.lanes.take k) (fun n hn => laneB_len (h.2.2 n (List.mem_of_mem_take hn)))
  have h3 : (p.lanes.take k).length ≤ 20 := by have := h.2.1; rw [List.length_take]; omega
  have := Nat.mul_le_mul_left 5020 h3
  omega
theorem put_pre {x : LaneR} (h : x.ok) (k : Nat) : ((x.puts.take k).flatMap putB).length ≤ 5000 := by
  have h1 := flat_len (f := putB) (k := 50) (l := x.puts.take k) (fun n hn => putB_len (h.2.2 n (List.mem_of_mem_take hn)))
  have h3 : (x.puts.take k).length ≤ 100 := by have := h.2.1; rw [List.length_take]; omega
  have := Nat.mul_le_mul_left 50 h3
  omega

/-! ### unlike pages have unlike bytes -/
abbrev PlainL := Int × List PutR
abbrev PlainP := Int × Int × Int × List PlainL
instance dPL : DecidableEq (List PlainL) := inferInstance
instance dP1 : DecidableEq (Int × List PlainL) := inferInstance
instance dP2 : DecidableEq (Int × Int × List PlainL) := inferInstance
instance dPP : DecidableEq PlainP := @instDecidableEqProd Int (Int × Int × List PlainL) inferInstance dP2
def LaneR.plain (x : LaneR) : PlainL := (x.x, x.puts)
def PageR.plain (x : PageR) : PlainP := (x.top, x.first, x.last, x.lanes.map LaneR.plain)
theorem putB_inj {p q : PutR} {r s : List Int} (hp : p.ok) (hq : q.ok) (h : putB p ++ r = putB q ++ s) : p = q ∧ r = s := by
  obtain ⟨h1, h2⟩ := chns_inj (by simp [PutR.nums]) hp hq h
  simp only [PutR.nums, List.cons.injEq, and_true] at h1
  obtain ⟨a, b, c, d, e⟩ := h1
  cases p; cases q; simp_all
theorem ext_R {α β : Type} {f : α → β} {a b : List α} (hl : a.length = b.length) (h : ∀ (i : Nat) x y, a[i]? = some x → b[i]? = some y → f x = f y) : a.map f = b.map f := by
  apply List.ext_getElem?
  intro i
  rw [List.getElem?_map, List.getElem?_map]
  by_cases hi : i < a.length
  · rw [List.getElem?_eq_getElem hi, List.getElem?_eq_getElem (hl ▸ hi)]
    simp only [Option.map_some, Option.some.injEq]
    exact h i _ _ (List.getElem?_eq_getElem hi) (List.getElem?_eq_getElem (hl ▸ hi))
  · rw [List.getElem?_eq_none (by omega), List.getElem?_eq_none (by omega)]
theorem laneB_inj {p q : LaneR} {r s : List Int} (hp : p.ok) (hq : q.ok) (h : laneB p ++ r = laneB q ++ s) : p.plain = q.plain ∧ r = s := by
  unfold laneB at h
  rw [List.append_assoc, List.append_assoc] at h
  obtain ⟨h1, h⟩ := chns_inj (a := [p.x]) (b := [q.x]) rfl (by simpa using hp.1) (by simpa using hq.1) h
  have lp := hp.2.1; have lq := hq.2.1
  obtain ⟨h2, h3, h4⟩ := many_inj (R := fun x y => x = y) ⟨by omega, by omega⟩ ⟨by omega, by omega⟩ (fun x hx y hy r s e => putB_inj (hp.2.2 x hx) (hq.2.2 y hy) e) h
  have := ext_R (f := id) h2 h3
  simp only [List.map_id_fun, id_eq, List.cons.injEq, and_true] at this h1
  exact ⟨by unfold LaneR.plain; rw [h1, this], h4⟩
theorem pageB_inj {p q : PageR} {r s : List Int} (hp : p.ok) (hq : q.ok) (h : pageB p ++ r = pageB q ++ s) : p.plain = q.plain ∧ r = s := by
  unfold pageB at h
  rw [List.append_assoc, List.append_assoc] at h
  obtain ⟨h1, h⟩ := chns_inj (a := [p.top, p.first, p.last]) (b := [q.top, q.first, q.last]) rfl hp.1 hq.1 h
  have lp := hp.2.1; have lq := hq.2.1
  obtain ⟨h2, h3, h4⟩ := many_inj (R := fun x y => x.plain = y.plain) ⟨by omega, by omega⟩ ⟨by omega, by omega⟩ (fun x hx y hy r s e => laneB_inj (hp.2.2 x hx) (hq.2.2 y hy) e) h
  have := ext_R (f := LaneR.plain) h2 h3
  simp only [List.cons.injEq, and_true] at h1
  obtain ⟨a, b, c⟩ := h1
  exact ⟨by unfold PageR.plain; rw [a, b, c, this], h4⟩
theorem many_congr {α β : Type} {f : α → List Int} {g : α → β} (hf : ∀ x y, g x = g y → f x = f y) : ∀ {a b : List α}, a.map g = b.map g → a.flatMap f = b.flatMap f
  | [], [], _ => rfl
  | [], _ :: _, h => by simp at h
  | _ :: _, [], h => by simp at h
  | x :: a, y :: b, h => by
    simp only [List.map_cons, List.cons.injEq] at h
    rw [List.flatMap_cons, List.flatMap_cons, hf x y h.1, many_congr hf h.2]
theorem laneB_congr (x y : LaneR) (h : x.plain = y.plain) : laneB x = laneB y := by
  unfold LaneR.plain at h
  simp only [Prod.mk.injEq] at h
  unfold laneB
  rw [h.1, h.2]
theorem pageB_congr (x y : PageR) (h : x.plain = y.plain) : pageB x = pageB y := by
  unfold PageR.plain at h
  simp only [Prod.mk.injEq] at h
  obtain ⟨a, b, c, d⟩ := h
  unfold pageB many
  have hl := congrArg List.length d
  simp only [List.length_map] at hl
  rw [a, b, c, hl, many_congr laneB_congr d]
theorem pagesB_iff {a b : List PageR} (la : a.length ≤ 40) (lb : b.length ≤ 40) (ha : ∀ x ∈ a, x.ok) (hb : ∀ x ∈ b, x.ok) : pagesB a = pagesB b ↔ a.map PageR.plain = b.map PageR.plain := by
  constructor
  · intro h
    unfold pagesB at h
    have h := List.append_cancel_left h
    have h' : many pageB a ++ [] = many pageB b ++ [] := by rw [h]
    obtain ⟨h2, h3, h4⟩ := many_inj (R := fun x y => x.plain = y.plain) ⟨by omega, by omega⟩ ⟨by omega, by omega⟩ (fun x hx y hy r s e => pageB_inj (ha x hx) (hb y hy) e) h'
    exact ext_R h2 h3
  · intro h
    have hl := congrArg List.length h
    simp only [List.length_map] at hl
    unfold pagesB many
    rw [hl, many_congr pageB_congr h]
theorem putB_iff {p q : PutR} (hp : p.ok) (hq : q.ok) : putB p = putB q ↔ p = q := by
  constructor
  · intro h
    exact (putB_inj (r := []) (s := []) hp hq (by rw [h])).1
  · rintro rfl; rfl
theorem take_map_succ {α β : Type} {f : α → β} {a b : List α} {i : Nat} {x y : α} (hx : a[i]? = some x) (hy : b[i]? = some y) (h : (a.take i).map f = (b.take i).map f) (he : f x = f y) : (a.take (i + 1)).map f = (b.take (i + 1)).map f := by
  obtain ⟨h1, rfl⟩ := List.getElem?_eq_some_iff.1 hx
  obtain ⟨h2, rfl⟩ := List.getElem?_eq_some_iff.1 hy
  rw [← List.take_append_getElem h1, ← List.take_append_getElem h2, List.map_append, List.map_append, h]
  simp [he]
theorem map_ne {α β : Type} {f : α → β} {a b : List α} {i : Nat} {x y : α} (hx : a[i]? = some x) (hy : b[i]? = some y) (he : f x ≠ f y) : ¬ a.map f = b.map f := by
  intro h
  have := congrArg (·[i]?) h
  simp only [List.getElem?_map, hx, hy, Option.map_some, Option.some.injEq] at this
  exact he this
end Go.LM

namespace Go.LM
variable {P : Program} {T : Nat → Option LV}
theorem ro_vcall {k : List Fk} {os : List RO} {d : Option Nat} {s : S} {h : H} {Q : X × S × H → Prop} {f : Nat} {args : List LV} {J : LV → H → Prop} (hr : ∃ v h', runI P T f args h = some (v, h') ∧ J v h')
    (hk : ∀ v hh, J v hh → Ro P T k (opsK P (runI P T) os d s (some (v, hh))) Q) : Ro P T k (opsK P (runI P T) os d s (runI P T f args h)) Q := by
  obtain ⟨v, h', e, hj⟩ := hr
  rw [e]; exact hk v h' hj
theorem rw_vcall {k : List Fk} {ow : List RW} {d : Option Nat} {s : S} {h : H} {Q : X × S × H → Prop} {f : Nat} {args : List LV} {J : LV → H → Prop} (hr : ∃ v h', runI P T f args h = some (v, h') ∧ J v h')
    (hk : ∀ v hh, J v hh → Ro P T k (opsKW P (runI P T) ow d s (some (v, hh))) Q) : Ro P T k (opsKW P (runI P T) ow d s (runI P T f args h)) Q := by
  obtain ⟨v, h', e, hj⟩ := hr
  rw [e]; exact hk v h' hj
/-! ### what is written or read, plainly -/
structure OpR where
  k : Int
  s : ByteArray
  n : Int
  b : Bool
  o : Option (Nat × Nat)
  l : List Int
def OpR.e (x : OpR) : LV := .agg [.int .i64 x.k, .str x.s, .int .i64 x.n, .bool x.b, ints x.o x.l]
abbrev OpR.num (x : OpR) : Prop := I64 x.n ∧ ∀ n ∈ x.l, I64 n
def OpR.few (x : OpR) : Prop := x.s.size ≤ 100 ∧ x.l.length ≤ 100
def opB (x : OpR) : List Int := if x.k = 0 then strB x.s else if x.k = 1 then chn x.n else if x.k = 2 then [if x.b = true then 1 else 0] else if x.k = 3 then many chn x.l else []
theorem strB_len (s : ByteArray) : (strB s).length = s.size := by simp [strB]
theorem opB_len {x : OpR} (h : x.num) (f : x.few) : (opB x).length ≤ 1010 := by
  unfold opB
  have h1 := f.1
  have h2 := f.2
  split
  · rw [strB_len]; omega
  split
  · have := chn_len h.1; omega
  split
  · simp
  split
  · have := many_len (f := chn) (l := x.l) (k := 10) ⟨by omega, by omega⟩ (fun p hp => chn_len (h.2 p hp))
    omega
  · simp
theorem ops_len {l : List OpR} (hn : ∀ x ∈ l, x.num) (hf : ∀ x ∈ l, x.few) (hl : l.length ≤ 60) (i : Nat) : ((l.take i).flatMap opB).length ≤ 100000 := by
  have h1 := flat_len (f := opB) (k := 1010) (l := l.take i) (fun x hx => opB_len (hn x (List.mem_of_mem_take hx)) (hf x (List.mem_of_mem_take hx)))
  have h3 : (l.take i).length ≤ 60 := by rw [List.length_take]; omega
  have := Nat.mul_le_mul_left 1010 h3
  omega
theorem ops_len' {l : List OpR} (hn : ∀ x ∈ l, x.num) (hf : ∀ x ∈ l, x.few) (hl : l.length ≤ 60) : (l.flatMap opB).length ≤ 100000 := by
  have := ops_len hn hf hl l.length
  rwa [List.take_length] at this
end Go.LM

namespace Go.LM
variable {P : Program} {T : Nat → Option LV}
/-! ### a reader: bytes, a place, whether it has stopped -/
structure RS where
  b : List Int
  at_ : Int
  stop : Bool
/-- The reader is well: its place lies in its bytes. -/
def RS.ok (r : RS) : Prop := (∀ c ∈ r.b, 0 ≤ c ∧ c < 256) ∧ 0 ≤ r.at_ ∧ r.at_ ≤ r.b.length
def RS.halt (r : RS) : RS := { r with stop := true }
structure Rdr (h0 : H) (p : Nat) (r : RS) (h : H) : Prop where
  get : ∃ o, h.get p = some ⟨false, [bytsL o r.b, .int .i64 r.at_, .bool r.stop]⟩
  lob : h.lob ≤ p
  new : h0.len ≤ p
  keep : Keep h0 h
  wf : WF h
theorem Rdr.lt {h0 : H} {p : Nat} {r : RS} {h : H} (w : Rdr h0 p r h) : p < h.len := by
  obtain ⟨o, hg⟩ := w.get
  exact (List.getElem?_eq_some_iff.1 hg).1
theorem Rdr.next {h0 : H} {p : Nat} {r : RS} {h h' : H} (w : Rdr h0 p r h) (k : Keep h h') : Rdr h0 p r h' := by
  obtain ⟨o, hg⟩ := w.get
  exact ⟨⟨o, (k.get w.lt).trans hg⟩, by rw [k.lob]; exact w.lob, w.new, w.keep.trans k, w.wf.keep k⟩
/-- Another box was written. -/
theorem Rdr.other {h0 : H} {p q : Nat} {r : RS} {h h' : H} (w : Rdr h0 p r h) (o : Oth q h h') (hn : p ≠ q) (hl : h'.lob ≤ p) (k : Keep h0 h') (wf : WF h') : Rdr h0 p r h' := by
  obtain ⟨t, hg⟩ := w.get
  exact ⟨⟨t, (o.get p w.lt hn).trans hg⟩, hl, w.new, k, wf⟩
theorem Rdr.set {h0 : H} {p : Nat} {r : RS} {h : H} (w : Rdr h0 p r h) (o : Option (Nat × Nat)) (r' : RS) :
    Rdr h0 p r' (h.put p ⟨false, [bytsL o r'.b, .int .i64 r'.at_, .bool r'.stop]⟩) ∧ Oth p h (h.put p ⟨false, [bytsL o r'.b, .int .i64 r'.at_, .bool r'.stop]⟩) :=
  ⟨⟨⟨o, by rw [get_put_eq w.lt]⟩, by rw [lob_put]; exact w.lob, w.new, w.keep.put w.new _, wf_put w.wf⟩, by rw [len_put]; exact Nat.le_refl _, fun c _ hne => by rw [get_put_ne (Ne.symm hne)]⟩
/-- One number. -/
def RS.int (r : RS) : Int × RS :=
  if r.stop then (0, r) else
  let g := getL r.b r.at_
  if g.2.2 ≠ 0 then (0, r.halt) else (g.1, { r with at_ := g.2.1 })
def RS.count (r : RS) : Int × RS :=
  if r.stop then (0, r) else
  let x := r.int
  if x.1 < 0 ∨ x.1 > r.b.length - x.2.at_ then (0, { x.2 with at_ := r.at_, stop := true }) else x
theorem getL_ok {b : List Int} {a : Int} (hc : ∀ c ∈ b, 0 ≤ c ∧ c < 256) (h0 : 0 ≤ a) (h : (getL b a).2.2 = 0) :
    I64 (getL b a).1 ∧ a < (getL b a).2.1 ∧ (getL b a).2.1 ≤ b.length := by
  unfold getL at h ⊢
  split at h
  · simp at h
  rename_i hr
  rw [if_neg hr]
  split at h
  · simp at h
  rename_i u k hs
  obtain ⟨v, hu, -, hv, hk, rest, hrest⟩ := scan_inv _ 0 0 u k (by omega) (fun c hm => hc c (List.mem_of_mem_drop hm)) hs
  have hl := congrArg List.length hrest
  rw [List.length_drop, List.length_append] at hl
  have hp := chainU_pos v
  simp only [Nat.pow_zero, Nat.mul_one, Nat.zero_add] at hu hv hk
  have := unfold_range (u := (u : Int)) (by omega) (by omega)
  exact ⟨this, by simp only; omega, by simp only; omega⟩
theorem RS.int_b (r : RS) : r.int.2.b = r.b := by
  unfold RS.int
  split
  · rfl
  · dsimp only; split <;> rfl
theorem RS.int_ok {r : RS} (ok : r.ok) : r.int.2.ok ∧ I64 r.int.1 ∧ r.at_ ≤ r.int.2.at_ := by
  unfold RS.int
  split
  · exact ⟨ok, ⟨by simp, by simp⟩, Int.le_refl _⟩
  · dsimp only
    split
    · exact ⟨ok, ⟨by simp, by simp⟩, Int.le_refl _⟩
    · rename_i h
      have hz : (getL r.b r.at_).2.2 = 0 := by simpa using h
      obtain ⟨a, b, c⟩ := getL_ok ok.1 ok.2.1 hz
      have := ok.2.1
      exact ⟨⟨ok.1, by simp only; omega, c⟩, a, by simp only; omega⟩
theorem RS.count_b (r : RS) : r.count.2.b = r.b := by
  unfold RS.count
  split
  · rfl
  · dsimp only; split
    · exact r.int_b
    · exact r.int_b
theorem RS.count_ok {r : RS} (ok : r.ok) : r.count.2.ok ∧ 0 ≤ r.count.1 ∧ r.count.1 ≤ r.b.length := by
  unfold RS.count
  have hi := RS.int_ok ok
  have hb := r.int_b
  split
  · exact ⟨ok, by simp, by simp⟩
  · dsimp only
    split
    · refine ⟨⟨by rw [hb]; exact ok.1, ok.2.1, by rw [hb]; exact ok.2.2⟩, by simp, by simp⟩
    · rename_i h
      have := hi.1.2.1
      exact ⟨hi.1, by omega, by omega⟩
/-- A bool. -/
def RS.byte (r : RS) : Int := (r.b[r.at_.toNat]?).getD 0
def RS.bool (r : RS) : Bool × RS :=
  if r.stop = true ∨ r.at_ = r.b.length ∨ 1 < r.byte then (false, r.halt) else (decide (r.byte = 1), { r with at_ := r.at_ + 1 })
theorem RS.bool_b (r : RS) : r.bool.2.b = r.b := by unfold RS.bool; split <;> rfl
theorem RS.bool_ok {r : RS} (ok : r.ok) : r.bool.2.ok := by
  unfold RS.bool
  split
  · exact ok
  · rename_i h
    have h2 := ok.2.1
    have h3 := ok.2.2
    have h4 : r.at_ ≠ r.b.length := fun e => h (.inr (.inl e))
    exact ⟨ok.1, by simp only; omega, by simp only; omega⟩
theorem RS.byte_at {r : RS} (ok : r.ok) (h : r.at_ < r.b.length) : iaS (r.b.map (LV.int .u8)) r.at_ = some (.cptr (.int .u8 r.byte)) := by
  have h2 := ok.2.1
  have e : r.at_ = (r.at_.toNat : Int) := by omega
  have hlt : r.at_.toNat < r.b.length := by omega
  have hb : r.b[r.at_.toNat]? = some r.byte := by unfold RS.byte; rw [List.getElem?_eq_getElem hlt]; rfl
  rw [e]
  exact iaS_map (Int.natCast_nonneg _) (by simpa only [Int.toNat_natCast] using hb)
end Go.LM
