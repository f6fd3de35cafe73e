import Derived.Test.YtpmpdidgbbgeeaaLmR3
namespace Go.LM
variable {P : Program}

abbrev bxs (η : Nat → H) : Nat → List Box := fun i => (η i).box
abbrev rws (η : Nat → H) : Nat → List Nat := fun i => (η i).row
def clA (P : Program) (all : Array Oper) (i : Nat) : Cl := (clsL P all.toList).getD i .w

structure WTr (P : Program) (C : Callee') (N : Nat) (all : Array Oper) (rows : List (Cl × List Nat)) (σ : Nat → S) (η : Nat → H) (val : Nat → LV) : Prop where
  plan : planW P all.toList = some rows
  step : ∀ i o c D, all[i]? = some o → rows[i]? = some (c, D) → WStep P C N all c D o (σ i) (σ (i + 1)) (η i) (η (i + 1)) (val i)

variable {C : Callee'} {N : Nat} {all : Array Oper} {rows : List (Cl × List Nat)} {σ : Nat → S} {η : Nat → H} {val : Nat → LV}

/-- What the plan says of operation i. -/
structure WAt (P : Program) (C : Callee') (N : Nat) (all : Array Oper) (σ : Nat → S) (η : Nat → H) (val : Nat → LV) (i : Nat) (o : Oper) (D : List Nat) : Prop where
  st : WStep P C N all (clA P all i) D o (σ i) (σ (i + 1)) (η i) (η (i + 1)) (val i)
  fit : clA P all i = clOp P o.op ∨ (clA P all i = .v ∧ clOp P o.op = .l) ∨ (clA P all i = .w ∧ clOp P o.op = .r)
  ahead : ∀ j, j < i → Reach all j i ∨ (pairOk (clA P all j) (clA P all i) = true ∧ (dynP (clA P all j) (clA P all i) = true → ∃ x, slotD all.toList (clsL P all.toList) i j = some x ∧ x ∈ D))

theorem WTr.at_ (W : WTr P C N all rows σ η val) {i : Nat} {o : Oper} (ho : all[i]? = some o) : ∃ D, WAt P C N all σ η val i o D := by
  have hi : i < all.size := (Array.getElem?_eq_some_iff.1 ho).1
  obtain ⟨d, h1, h2⟩ := (planW_ok W.plan).2 i hi
  refine ⟨d, W.step i o _ d ho h2, cls_fit (by simpa using ho), fun j hj => ?_⟩
  rcases dynL_ok h1 j hj with h | h
  · exact .inl (masks_reach (all := all) all.toList [] (by intro j; simp) (by intro j k hb; simp at hb) _ _ h)
  · exact .inr h

theorem WTr.gro (W : WTr P C N all rows σ η val) {i : Nat} (hi : i < all.size) : Gro (η i) (η (i + 1)) := by
  obtain ⟨D, h⟩ := W.at_ (Array.getElem?_eq_getElem hi)
  exact h.st.gro
theorem WTr.chain (W : WTr P C N all rows σ η val) : ∀ d i, i + d ≤ all.size → Gro (η i) (η (i + d))
  | 0, i, _ => .refl _
  | d + 1, i, h => (W.chain d i (by omega)).trans (W.gro (i := i + d) (by omega))
theorem WTr.le (W : WTr P C N all rows σ η val) {i j : Nat} (hij : i ≤ j) (hj : j ≤ all.size) : Gro (η i) (η j) := by
  have := W.chain (j - i) i (by omega)
  rwa [Nat.add_sub_cancel' hij] at this
theorem WTr.monoB (W : WTr P C N all rows σ η val) : ∀ i, i < all.size → (bxs η i).length ≤ (bxs η (i + 1)).length := fun _ hi => (W.gro hi).len.1
theorem WTr.monoR (W : WTr P C N all rows σ η val) : ∀ i, i < all.size → (rws η i).length ≤ (rws η (i + 1)).length := fun _ hi => (W.gro hi).len.2

theorem WTr.slot (W : WTr P C N all rows σ η val) {j x : Nat} : ∀ d, j + d ≤ all.size → (∀ k o, j ≤ k → k < j + d → all[k]? = some o → o.dst ≠ some x) → σ (j + d) x = σ j x
  | 0, _, _ => rfl
  | d + 1, h, hn => by
    have hk : j + d < all.size := by omega
    have ho := Array.getElem?_eq_getElem hk
    obtain ⟨D, h1⟩ := W.at_ ho
    show σ (j + d + 1) x = _
    rw [h1.st.slot, updO_ne (hn _ _ (by omega) (by omega) ho)]
    exact W.slot d (by omega) (fun k o a b => hn k o a (by omega))
theorem kept_slot (W : WTr P C N all rows σ η val) {x j i : Nat} (hji : j ≤ i) (hi : i ≤ all.size) (h : keptT all.toList x j i = true) : σ i x = σ j x := by
  have := W.slot (j := j) (x := x) (i - j) (by omega) (fun k o h1 h2 ho => by
    have := List.all_eq_true.1 h k (by simp; omega)
    have hk : all.toList[k]? = some o := by simpa using ho
    rw [hk] at this
    simp only [Bool.or_eq_true, decide_eq_true_eq, bne_iff_ne] at this
    rcases this with h3 | h3
    · omega
    · exact h3)
  rwa [Nat.add_sub_cancel' hji] at this

theorem addrT_O {o : Op} {x : Nat} (h : addrT o = some x) : addrO o = some (.tmp x) := by
  unfold addrT at h
  split at h <;> first
    | (cases h; rfl)
    | cases h
theorem opW_chk {c : Cl} {D : List Nat} {s : S} {o : Op} {h h' : H} {v : LV} (hc : c = .l ∨ c = .s) (ho : opW P C c D s o h = some (v, h')) : chkW s ((addrO o).bind (opr s)) D = true := by
  rcases hc with rfl | rfl
  all_goals
    simp only [opW] at ho
    split at ho
    · assumption
    · cases ho
theorem chk_ne {s : S} {D : List Nat} {b off x c off' : Nat} (h : chkW s (some (.ptr b off)) D = true) (hx : x ∈ D) (hs : s x = .ptr c off') : c ≠ b := by
  simp only [chkW] at h
  have := List.all_eq_true.1 h x hx
  rw [hs] at this
  simpa using this
theorem slotD_addr {cs : List Cl} {i j x : Nat} {q : Oper} (hq : all[j]? = some q) (hc : cs.getD j .w ≠ .a) (h : slotD all.toList cs i j = some x) : addrT q.op = some x ∧ keptT all.toList x j i = true := by
  unfold slotD at h
  have hq' : all.toList[j]? = some q := by simpa using hq
  rw [hq'] at h
  dsimp only at h
  split at h
  · rename_i hh; exact absurd hh hc
  · split at h
    · rename_i y hy
      split at h
      · rename_i hk; cases h; exact ⟨hy, hk⟩
      · cases h
    · cases h
theorem slotD_dst {cs : List Cl} {i j x : Nat} {q : Oper} (hq : all[j]? = some q) (hc : cs.getD j .w = .a) (h : slotD all.toList cs i j = some x) : q.dst = some x ∧ keptT all.toList x (j + 1) i = true := by
  unfold slotD at h
  have hq' : all.toList[j]? = some q := by simpa using hq
  rw [hq'] at h
  dsimp only at h
  rw [hc] at h
  dsimp only at h
  split at h
  · rename_i y hy
    split at h
    · rename_i hk; cases h; exact ⟨hy, hk⟩
    · cases h
  · cases h

/-- What is written by one and looked at by another has an order. -/
theorem WTr.boxOrd (W : WTr P C N all rows σ η val) (hC : CLen C) {i j b : Nat} {o : Oper} {D : List Nat} (ho : all[i]? = some o) (A : WAt P C N all σ η val i o D) (hex : opW P C (clA P all i) D (σ i) o.op (η i) = some (val i, η (i + 1)))
    (ht : ((clA P all i = .l ∨ clA P all i = .s) ∧ ∃ off, (addrO o.op).bind (opr (σ i)) = some (.ptr b off)) ∨ clA P all i = .r ∨ clA P all i = .w) (hj : j < all.size) (hw : wrL (bxs η) j b) (hne : j ≠ i) :
    (j < i ∧ Reach all j i) ∨ (i < j ∧ Reach all i j) := by
  have hi : i < all.size := (Array.getElem?_eq_some_iff.1 ho).1
  have hq := Array.getElem?_eq_getElem hj
  obtain ⟨D', A'⟩ := W.at_ hq
  have hex' : opW P C (clA P all j) D' (σ j) all[j].op (η j) = some (val j, η (j + 1)) := by
    rcases A'.st.did with ⟨_, h⟩ | ⟨_, _, h⟩
    · exact h
    · exact absurd (by show (η (j + 1)).box[b]? = (η j).box[b]?; rw [h]) hw.2
  have hwr := (opW_wrote A'.fit hC hex').1 b hw.1 hw.2
  rcases Nat.lt_or_gt_of_ne hne with hlt | hgt
  · refine .inl ⟨hlt, ?_⟩
    rcases A.ahead j hlt with h | ⟨h1, h2⟩
    · exact h
    · exfalso
      rcases hwr with ⟨cj, off', ha'⟩ | ⟨cj, _⟩
      · rw [cj] at h1 h2
        rcases ht with ⟨ci, off, ha⟩ | ci | ci
        · have hd : dynP .s (clA P all i) = true := by rcases ci with ci | ci <;> rw [ci] <;> rfl
          obtain ⟨x, e1, e2⟩ := h2 hd
          obtain ⟨e3, e4⟩ := slotD_addr hq (by show clA P all j ≠ .a; rw [cj]; simp) e1
          have hk := kept_slot W (Nat.le_of_lt hlt) (Nat.le_of_lt hi) e4
          rw [addrT_O e3] at ha'
          simp only [Option.bind_some, opr, Option.some.injEq] at ha'
          have hch := opW_chk ci hex
          rw [ha] at hch
          exact chk_ne hch e2 (hk.trans ha') rfl
        · rw [ci] at h1; cases h1
        · rw [ci] at h1; cases h1
      · rw [cj] at h1
        rcases ht with ⟨ci | ci, _⟩ | ci | ci <;> (rw [ci] at h1; cases h1)
  · refine .inr ⟨hgt, ?_⟩
    rcases A'.ahead i hgt with h | ⟨h1, h2⟩
    · exact h
    · exfalso
      rcases hwr with ⟨cj, off', ha'⟩ | ⟨cj, hkp⟩
      · rw [cj] at h1 h2
        rcases ht with ⟨ci, off, ha⟩ | ci | ci
        · have hd : dynP (clA P all i) .s = true := by rcases ci with ci | ci <;> rw [ci] <;> rfl
          obtain ⟨x, e1, e2⟩ := h2 hd
          obtain ⟨e3, e4⟩ := slotD_addr ho (by show clA P all i ≠ .a; rcases ci with ci | ci <;> rw [ci] <;> simp) e1
          have hk := kept_slot W (Nat.le_of_lt hgt) (Nat.le_of_lt hj) e4
          rw [addrT_O e3] at ha
          simp only [Option.bind_some, opr, Option.some.injEq] at ha
          have hch := opW_chk (.inr cj) hex'
          rw [ha'] at hch
          exact chk_ne hch e2 (hk.trans ha) rfl
        · rw [ci] at h1; cases h1
        · rw [ci] at h1; cases h1
      · rw [cj] at h1 h2
        rcases ht with ⟨ci | ci, off, ha⟩ | ci | ci
        · rw [ci] at h2
          obtain ⟨x, e1, e2⟩ := h2 rfl
          obtain ⟨e3, e4⟩ := slotD_addr ho (by show clA P all i ≠ .a; rw [ci]; simp) e1
          have hk := kept_slot W (Nat.le_of_lt hgt) (Nat.le_of_lt hj) e4
          rw [addrT_O e3] at ha
          simp only [Option.bind_some, opr, Option.some.injEq] at ha
          have := hkp x e2
          rw [hk, ha] at this
          exact hw.2 (boxB_eq this)
        · rw [ci] at h1; cases h1
        · rw [ci] at h1; cases h1
        · rw [ci] at h1; cases h1

theorem WTr.rowOrd (W : WTr P C N all rows σ η val) (hC : CLen C) {i j b : Nat} {o : Oper} {D : List Nat} (A : WAt P C N all σ η val i o D)
    (ht : clA P all i = .p ∨ clA P all i = .r ∨ clA P all i = .w) (hj : j < all.size) (hw : wrL (rws η) j b) (hne : j ≠ i) :
    (j < i ∧ Reach all j i) ∨ (i < j ∧ Reach all i j) := by
  have hq := Array.getElem?_eq_getElem hj
  obtain ⟨D', A'⟩ := W.at_ hq
  have hex' : opW P C (clA P all j) D' (σ j) all[j].op (η j) = some (val j, η (j + 1)) := by
    rcases A'.st.did with ⟨_, h⟩ | ⟨_, _, h⟩
    · exact h
    · exact absurd (by show (η (j + 1)).row[b]? = (η j).row[b]?; rw [h]) hw.2
  have hwr := (opW_wrote A'.fit hC hex').2 b hw.1 hw.2
  have hcj : clA P all j = .p ∨ clA P all j = .w := by
    rcases hwr with h | h
    · exact .inl h.1
    · exact .inr h.1
  rcases Nat.lt_or_gt_of_ne hne with hlt | hgt
  · refine .inl ⟨hlt, ?_⟩
    rcases A.ahead j hlt with h | ⟨h1, h2⟩
    · exact h
    · exfalso
      rcases hcj with cj | cj <;> rcases ht with ci | ci | ci <;> (rw [ci, cj] at h1; cases h1)
  · refine .inr ⟨hgt, ?_⟩
    rcases A'.ahead i hgt with h | ⟨h1, h2⟩
    · exact h
    · exfalso
      rcases hcj with cj | cj <;> rcases ht with ci | ci | ci <;> (rw [ci, cj] at h1; cases h1)

/-- By whom a thing was made. -/
theorem maker {α : Type} {ξ : Nat → List α} {b : Nat} (h0 : (ξ 0).length ≤ b) : ∀ i, b < (ξ i).length → ∃ k, k < i ∧ (ξ k).length ≤ b ∧ b < (ξ (k + 1)).length
  | 0, h => absurd h (by omega)
  | i + 1, h => by
    rcases Nat.lt_or_ge b (ξ i).length with h1 | h1
    · obtain ⟨k, h2, h3⟩ := maker h0 i h1
      exact ⟨k, by omega, h3⟩
    · exact ⟨i, by omega, h1, h⟩

/-- What a call writes, somebody has made ahead of it. -/
theorem WTr.callMade (W : WTr P C N all rows σ η val) {i : Nat} {o : Oper} {D : List Nat} (ho : all[i]? = some o) (A : WAt P C N all σ η val i o D) (hc : clA P all i = .w)
    (hex : opW P C (clA P all i) D (σ i) o.op (η i) = some (val i, η (i + 1))) (hC : CLen C) :
    (∀ b, wrL (bxs η) i b → (η 0).box.length ≤ b → ∃ k, k < i ∧ ((η k).box.length ≤ b ∧ b < (η (k + 1)).box.length) ∧ Reach all k i) ∧
    (∀ b, wrL (rws η) i b → (η 0).row.length ≤ b → ∃ k, k < i ∧ ((η k).row.length ≤ b ∧ b < (η (k + 1)).row.length) ∧ Reach all k i) := by
  have hi : i < all.size := (Array.getElem?_eq_some_iff.1 ho).1
  have hw := opW_wrote A.fit hC hex
  have core : ∀ k, k < i → (∀ q D', all[k]? = some q → WAt P C N all σ η val k q D' → opW P C (clA P all k) D' (σ k) q.op (η k) = some (val k, η (k + 1)) →
      (clA P all k = .a ∧ ∀ x, σ i x = val k → x ∈ D → False) ∨ clA P all k = .s ∨ clA P all k = .p ∨ clA P all k = .r ∨ clA P all k = .w) → (η (k + 1) ≠ η k) → Reach all k i := by
    intro k hk hcl hch
    have hq := Array.getElem?_eq_getElem (show k < all.size by omega)
    obtain ⟨D', A'⟩ := W.at_ hq
    have hex' : opW P C (clA P all k) D' (σ k) all[k].op (η k) = some (val k, η (k + 1)) := by
      rcases A'.st.did with ⟨_, h⟩ | ⟨_, _, h⟩
      · exact h
      · exact absurd h hch
    rcases A.ahead k hk with h | ⟨h1, h2⟩
    · exact h
    · exfalso
      rw [hc] at h1 h2
      rcases hcl _ D' hq A' hex' with ⟨ck, hx⟩ | ck | ck | ck | ck
      · rw [ck] at h2
        obtain ⟨x, e1, e2⟩ := h2 rfl
        obtain ⟨e3, e4⟩ := slotD_dst hq (by show clA P all k = .a; exact ck) e1
        have hkp := kept_slot W (show k + 1 ≤ i by omega) (Nat.le_of_lt hi) e4
        exact hx x (by rw [hkp, A'.st.slot, updO_eq e3]) e2
      all_goals (rw [ck] at h1; cases h1)
  refine ⟨fun b hb h0 => ?_, fun b hb h0 => ?_⟩
  · obtain ⟨k, hk, h1, h2⟩ := maker (ξ := bxs η) h0 i hb.1
    refine ⟨k, hk, ⟨h1, h2⟩, core k hk ?_ ?_⟩
    · intro q D' hq A' hex'
      rcases (opW_adds A'.fit hex').1 b h1 h2 with ⟨ck, hv⟩ | h
      · refine .inl ⟨ck, fun x hx hxD => ?_⟩
        rcases hw.1 b hb.1 hb.2 with ⟨cs, _⟩ | ⟨_, hkp⟩
        · rw [hc] at cs; cases cs
        · have := hkp x hxD
          rw [hx, hv] at this
          exact hb.2 (boxB_eq this)
      · exact .inr h
    · intro e
      have : (η (k + 1)).box.length = (η k).box.length := by rw [e]
      have h1 : (η k).box.length ≤ b := h1
      have h2 : b < (η (k + 1)).box.length := h2
      omega
  · obtain ⟨k, hk, h1, h2⟩ := maker (ξ := rws η) h0 i hb.1
    refine ⟨k, hk, ⟨h1, h2⟩, core k hk ?_ ?_⟩
    · intro q D' hq A' hex'
      rcases (opW_adds A'.fit hex').2 b h1 h2 with ⟨ck, hi', sz, xs, hv⟩ | h
      · refine .inl ⟨ck, fun x hx hxD => ?_⟩
        rcases hw.2 b hb.1 hb.2 with ⟨cs, _⟩ | ⟨_, hkp⟩
        · rw [hc] at cs; cases cs
        · have := hkp x hxD
          rw [hx, hv] at this
          simp only [kept1, decide_eq_true_eq] at this
          exact hb.2 this
      · exact .inr h
    · intro e
      have : (η (k + 1)).row.length = (η k).row.length := by rw [e]
      have h1 : (η k).row.length ≤ b := h1
      have h2 : b < (η (k + 1)).row.length := h2
      omega
end Go.LM
