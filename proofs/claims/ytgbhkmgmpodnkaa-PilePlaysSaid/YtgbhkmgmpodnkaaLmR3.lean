import Derived.Test.YtgbhkmgmpodnkaaLmR
namespace Go.LM
variable {P : Program}

/-! ### the plan -/
theorem rowsW_ok {all : List Oper} {cs : List Cl} {m : List Nat} : ∀ {is : List Nat} {rows : List (Cl × List Nat)}, rowsW all cs m is = some rows →
    rows.length = is.length ∧ ∀ (k i : Nat), is[k]? = some i → ∃ d, dynL all cs m i i = some d ∧ rows[k]? = some (cs.getD i .w, d ++ behL all cs m i)
  | [], rows, h => by simp only [rowsW] at h; cases h; exact ⟨rfl, fun k i hi => by simp at hi⟩
  | i :: is, rows, h => by
    simp only [rowsW] at h
    split at h
    · rename_i d l hd hl
      cases h
      obtain ⟨h1, h2⟩ := rowsW_ok hl
      refine ⟨by simp [h1], fun k j hj => ?_⟩
      cases k with
      | zero => simp at hj; subst hj; exact ⟨d, hd, rfl⟩
      | succ k => simpa using h2 k j (by simpa using hj)
    · cases h
theorem dynL_ok {all : List Oper} {cs : List Cl} {m : List Nat} {i : Nat} : ∀ {k : Nat} {l : List Nat}, dynL all cs m i k = some l → ∀ j, j < k →
    (m.getD i 0).testBit j = true ∨ (pairOk (cs.getD j .w) (cs.getD i .w) = true ∧ (dynP (cs.getD j .w) (cs.getD i .w) = true → ∃ x, slotD all cs i j = some x ∧ x ∈ l)) ∨
      ((m.getD i 0).testBit j = false ∧ cs.getD j .w = .w ∧ cs.getD i .w = .l ∧ ∃ x, rootOf all j i = some x)
  | 0, l, h, j, hj => absurd hj (by omega)
  | k + 1, l, h, j, hj => by
    simp only [dynL] at h
    split at h
    · cases h
    · rename_i l0 h0
      have ih := dynL_ok h0
      split at h
      · rename_i hb; cases h
        by_cases e : j = k
        · subst e; exact .inl hb
        · exact ih j (by omega)
      · rename_i hnb
        split at h
        · rename_i hp
          split at h
          · rename_i hd
            split at h
            · rename_i x hx
              cases h
              by_cases e : j = k
              · subst e; exact .inr (.inl ⟨hp, fun _ => ⟨x, hx, by simp⟩⟩)
              · rcases ih j (by omega) with h1 | ⟨h1, h2⟩ | h1
                · exact .inl h1
                · exact .inr (.inl ⟨h1, fun hh => by obtain ⟨y, e1, e2⟩ := h2 hh; exact ⟨y, e1, by simp [e2]⟩⟩)
                · exact .inr (.inr h1)
            · cases h
          · rename_i hd
            cases h
            by_cases e : j = k
            · subst e; exact .inr (.inl ⟨hp, fun hh => absurd hh hd⟩)
            · exact ih j (by omega)
        · split at h
          · rename_i hw
            cases h
            by_cases e : j = k
            · subst e; exact .inr (.inr ⟨by simpa using hnb, hw.1, hw.2.1, Option.isSome_iff_exists.1 hw.2.2⟩)
            · exact ih j (by omega)
          · cases h
theorem behL_ok {all : List Oper} {cs : List Cl} {m : List Nat} {j i x : Nat} (h1 : j < i) (h2 : i < all.length) (h3 : cs.getD j .w = .w) (h4 : cs.getD i .w = .l) (h5 : (m.getD i 0).testBit j = false) (h6 : rootOf all j i = some x) :
    x ∈ behL all cs m j := by
  unfold behL
  rw [if_pos h3, List.mem_filterMap]
  exact ⟨i, by simpa using h2, by rw [if_pos ⟨h1, h4, h5⟩]; exact h6⟩
/-- How an operation's class stands to what it does. -/
def Fit (P : Program) (c : Cl) (o : Op) : Prop := c = clOp P o ∨ (c = .v ∧ clOp P o = .l) ∨ ((c = .w ∨ c = .r) ∧ clOp P o ≠ .q)
theorem cl1_fit (all : List Oper) (o : Oper) : cl1 P all o = clOp P o.op ∨ (cl1 P all o = .v ∧ clOp P o.op = .l) ∨ (cl1 P all o = .r ∧ clOp P o.op ≠ .q) := by
  unfold cl1
  split
  · rename_i h
    split
    · split
      · split
        · exact .inr (.inr ⟨rfl, by rw [h]; simp⟩)
        · exact .inr (.inl ⟨rfl, h⟩)
      · exact .inl h.symm
    · exact .inl h.symm
  · rename_i h
    split
    · split
      · exact .inr (.inr ⟨rfl, by rw [h]; simp⟩)
      · exact .inl h.symm
    · exact .inl h.symm
  · rename_i h
    split
    · exact .inr (.inr ⟨rfl, by rw [h]; simp⟩)
    · exact .inl h.symm
  · exact .inl rfl
theorem cl2_fit (all : List Oper) (m : List Nat) (cs : List Cl) (i : Nat) : cl2 all m cs i = cs.getD i .w ∨ (cl2 all m cs i = .w ∧ cs.getD i .w = .r) := by
  unfold cl2
  split
  · rename_i h
    split
    · exact .inr ⟨rfl, h⟩
    · exact .inl h.symm
  · exact .inl rfl
theorem clOp_r_ne {o : Op} (h : clOp P o = .r) : clOp P o ≠ .q := by rw [h]; simp
theorem cls_fit {all : List Oper} {i : Nat} {o : Oper} (ho : all[i]? = some o) : Fit P ((clsL P all).getD i .w) o.op := by
  have hi : i < all.length := (List.getElem?_eq_some_iff.1 ho).1
  have e : (clsL P all).getD i .w = cl2 all (masksL all []) (all.map (cl1 P all)) i := by
    simp [clsL, List.getD_eq_getElem?_getD, List.getElem?_range hi]
  have e2 : (all.map (cl1 P all)).getD i .w = cl1 P all o := by
    simp [List.getD_eq_getElem?_getD, ho]
  unfold Fit
  rw [e]
  rcases cl2_fit all (masksL all []) (all.map (cl1 P all)) i with h | ⟨h, h'⟩
  · rw [h, e2]
    rcases cl1_fit (P := P) all o with h1 | h1 | h1
    · exact .inl h1
    · exact .inr (.inl h1)
    · exact .inr (.inr ⟨.inr h1.1, h1.2⟩)
  · rw [h]
    rw [e2] at h'
    rcases cl1_fit (P := P) all o with h1 | h1 | h1
    · exact .inr (.inr ⟨.inl rfl, clOp_r_ne (h1 ▸ h')⟩)
    · rw [h1.1] at h'; cases h'
    · exact .inr (.inr ⟨.inl rfl, h1.2⟩)
theorem planW_ok {all : Array Oper} {rows : List (Cl × List Nat)} (h : planW P all.toList = some rows) :
    rows.length = all.size ∧ ∀ i, i < all.size → ∃ d, dynL all.toList (clsL P all.toList) (masksL all.toList []) i i = some d ∧ rows[i]? = some ((clsL P all.toList).getD i .w, d ++ behL all.toList (clsL P all.toList) (masksL all.toList []) i) := by
  unfold planW at h
  split at h
  · cases h
  · obtain ⟨h1, h2⟩ := rowsW_ok h
    refine ⟨by simpa using h1, fun i hi => h2 i i (by simp [hi])⟩

/-! ### what stands where -/
def wrL {α : Type} (ξ : Nat → List α) (j b : Nat) : Prop := b < (ξ j).length ∧ (ξ (j + 1))[b]? ≠ (ξ j)[b]?
/-- Of place b, just what was done ahead of k has been done. -/
def CutL {α : Type} (n : Nat) (ξ : Nat → List α) (L : Nat → Bool) (b k : Nat) : Prop := k ≤ n ∧ b < (ξ k).length ∧ ∀ j, j < n → wrL ξ j b → (j < k ↔ L j = true)
theorem same_of {α : Type} {n : Nat} {ξ : Nat → List α} (hm : ∀ i, i < n → (ξ i).length ≤ (ξ (i + 1)).length) {b k : Nat} (hb : b < (ξ k).length) :
    ∀ d, k + d ≤ n → (∀ j, k ≤ j → j < k + d → ¬ wrL ξ j b) → (ξ (k + d))[b]? = (ξ k)[b]? ∧ b < (ξ (k + d)).length
  | 0, _, _ => ⟨rfl, hb⟩
  | d + 1, h, hn => by
    obtain ⟨h1, h2⟩ := same_of hm hb d (by omega) (fun j a c => hn j a (by omega))
    have h3 := hn (k + d) (by omega) (by omega)
    unfold wrL at h3
    have h4 : (ξ (k + d + 1))[b]? = (ξ (k + d))[b]? := Classical.not_not.1 (fun h => h3 ⟨h2, h⟩)
    exact ⟨h4.trans h1, Nat.lt_of_lt_of_le h2 (hm _ (by omega))⟩
theorem cut_same {α : Type} {n : Nat} {ξ : Nat → List α} {L : Nat → Bool} (hm : ∀ i, i < n → (ξ i).length ≤ (ξ (i + 1)).length) {b k k' : Nat} (c : CutL n ξ L b k) (c' : CutL n ξ L b k') : (ξ k)[b]? = (ξ k')[b]? := by
  have key : ∀ k k', k ≤ k' → CutL n ξ L b k → CutL n ξ L b k' → (ξ k)[b]? = (ξ k')[b]? := by
    intro k k' hk c c'
    have := (same_of hm c.2.1 (k' - k) (by have := c'.1; omega) (fun j h1 h2 hw => by
      have hj : j < n := by have := c'.1; omega
      have a1 := (c'.2.2 j hj hw).1 (by omega)
      have a2 := (c.2.2 j hj hw).2 a1
      omega)).1
    rw [Nat.add_sub_cancel' hk] at this
    exact this.symm
  rcases Nat.le_total k k' with h | h
  · exact key k k' h c c'
  · exact (key k' k h c' c).symm
noncomputable def contL {α : Type} (n : Nat) (ξ : Nat → List α) (L : Nat → Bool) (d : α) (b : Nat) : α :=
  open Classical in if h : ∃ k x, CutL n ξ L b k ∧ (ξ k)[b]? = some x then h.choose_spec.choose else d
noncomputable def curL {α : Type} (n : Nat) (ξ : Nat → List α) (L : Nat → Bool) (d : α) (len : Nat) : List α := (List.range len).map (contL n ξ L d)
theorem cur_len {α : Type} (n : Nat) (ξ : Nat → List α) (L : Nat → Bool) (d : α) (len : Nat) : (curL n ξ L d len).length = len := by simp [curL]
theorem cur_cut {α : Type} {n : Nat} {ξ : Nat → List α} {L : Nat → Bool} {d : α} {len : Nat} (hm : ∀ i, i < n → (ξ i).length ≤ (ξ (i + 1)).length) {b k : Nat} {x : α} (c : CutL n ξ L b k) (hx : (ξ k)[b]? = some x)
    (hb : b < len) : (curL n ξ L d len)[b]? = some x := by
  have h : ∃ k x, CutL n ξ L b k ∧ (ξ k)[b]? = some x := ⟨k, x, c, hx⟩
  simp only [curL, List.getElem?_map, List.getElem?_range hb, Option.map_some, contL]
  rw [dif_pos h]
  have := cut_same hm h.choose_spec.choose_spec.1 c
  rw [h.choose_spec.choose_spec.2, hx] at this
  exact this
theorem cur_self {α : Type} {n : Nat} {ξ : Nat → List α} {L : Nat → Bool} {d : α} {i : Nat} (hm : ∀ i, i < n → (ξ i).length ≤ (ξ (i + 1)).length) {b : Nat} (hb : b < (ξ i).length) (c : CutL n ξ L b i) :
    (curL n ξ L d (ξ i).length)[b]? = (ξ i)[b]? := by
  rw [List.getElem?_eq_getElem hb]
  exact cur_cut hm c (List.getElem?_eq_getElem hb) hb

/-! ### the trace -/
structure WStep (P : Program) (C : Callee') (N : Nat) (all : Array Oper) (c : Cl) (D : List Nat) (o : Oper) (s s' : S) (h h' : H) (v : LV) : Prop where
  dst : okDst N o.dst = true
  slot : s' = updO s o.dst v
  gro : Gro h h'
  did : (wantL all s o = some true ∧ opW P C c D s o.op h = some (v, h')) ∨ (wantL all s o = some false ∧ v = .tup [] ∧ h' = h)

theorem opsW_trace {C : Callee'} (hC : CLen C) {N : Nat} {all : Array Oper} : ∀ {l : List (Oper × Cl × List Nat)} {s s' : S} {h h' : H}, opsW P C N all l s h = some (s', h') →
    ∃ (σ : Nat → S) (η : Nat → H) (val : Nat → LV), σ 0 = s ∧ η 0 = h ∧ σ l.length = s' ∧ η l.length = h' ∧
      ∀ i o c D, l[i]? = some (o, c, D) → WStep P C N all c D o (σ i) (σ (i + 1)) (η i) (η (i + 1)) (val i)
  | [], s, s', h, h', ho => by
    simp only [opsW] at ho; cases ho
    exact ⟨fun _ => s, fun _ => h, fun _ => .undef, rfl, rfl, rfl, rfl, fun i o c D hi => by simp at hi⟩
  | (o, c, D) :: os, s, s', h, h', ho => by
    have cons : ∀ (v : LV) (h1 : H), WStep P C N all c D o s (updO s o.dst v) h h1 v → opsW P C N all os (updO s o.dst v) h1 = some (s', h') →
        ∃ (σ : Nat → S) (η : Nat → H) (val : Nat → LV), σ 0 = s ∧ η 0 = h ∧ σ ((o, c, D) :: os).length = s' ∧ η ((o, c, D) :: os).length = h' ∧
          ∀ i q c' D', ((o, c, D) :: os)[i]? = some (q, c', D') → WStep P C N all c' D' q (σ i) (σ (i + 1)) (η i) (η (i + 1)) (val i) := by
      intro v h1 hst hrest
      obtain ⟨σ, η, val, e1, e2, e3, e4, e5⟩ := opsW_trace hC hrest
      refine ⟨fun i => match i with | 0 => s | i + 1 => σ i, fun i => match i with | 0 => h | i + 1 => η i, fun i => match i with | 0 => v | i + 1 => val i, rfl, rfl, e3, e4, ?_⟩
      intro i q c' D' hi
      cases i with
      | zero =>
        simp only [List.getElem?_cons_zero, Option.some.injEq, Prod.mk.injEq] at hi
        obtain ⟨rfl, rfl, rfl⟩ := hi
        show WStep P C N all c D o s (σ 0) h (η 0) v
        rw [e1, e2]; exact hst
      | succ i => exact e5 i q c' D' (by simpa using hi)
    simp only [opsW] at ho
    split at ho
    · rename_i hd
      split at ho
      · rename_i hw
        split at ho
        · rename_i v h1 hop
          exact cons v h1 ⟨hd, rfl, opW_len hC hop, .inl ⟨hw, hop⟩⟩ ho
        · cases ho
      · rename_i hw
        exact cons (.tup []) h ⟨hd, rfl, .refl _, .inr ⟨hw, rfl, rfl⟩⟩ ho
      · cases ho
    · cases ho

/-- The same done elsewhere: what was touched is as there, all else as here. -/
structure Agr {α : Type} (Tb : Nat → Prop) (l l' g g' : List α) : Prop where
  len : g'.length = l'.length
  touched : ∀ b, Tb b → b < l.length → g'[b]? = l'[b]?
  other : ∀ b, ¬ Tb b → b < l.length → g'[b]? = g[b]? ∧ l'[b]? = l[b]?
  new : ∀ b, l.length ≤ b → g'[b]? = l'[b]?
theorem Agr.same {α : Type} {l g : List α} (h : g.length = l.length) : Agr (fun _ => False) l l g g :=
  ⟨h, fun _ h => h.elim, fun _ _ _ => ⟨rfl, rfl⟩, fun b hb => by rw [List.getElem?_eq_none (by omega), List.getElem?_eq_none hb]⟩
theorem Agr.sameT {α : Type} {Tb : Nat → Prop} {l g : List α} (h : g.length = l.length) (ht : ∀ b, Tb b → b < l.length → g[b]? = l[b]?) : Agr Tb l l g g :=
  ⟨h, ht, fun _ _ _ => ⟨rfl, rfl⟩, fun b hb => by rw [List.getElem?_eq_none (by omega), List.getElem?_eq_none hb]⟩
theorem Agr.add {α : Type} {l g m : List α} (h : g.length = l.length) : Agr (fun _ => False) l (l ++ m) g (g ++ m) :=
  ⟨by simp [h], fun _ h => h.elim, fun b _ hb => ⟨List.getElem?_append_left (by omega), List.getElem?_append_left hb⟩, fun b hb => by
    rw [List.getElem?_append_right (by omega), List.getElem?_append_right hb, h]⟩
theorem Agr.set {α : Type} {l g : List α} {b : Nat} {x : α} (h : g.length = l.length) : Agr (fun c => c = b) l (l.set b x) g (g.set b x) := by
  refine ⟨by simp [h], fun c hc hl => ?_, fun c hc hl => ?_, fun c hc => ?_⟩
  · subst hc
    rw [List.getElem?_set_self (by omega), List.getElem?_set_self hl]
  · rw [List.getElem?_set_ne (by omega), List.getElem?_set_ne (by omega)]; exact ⟨rfl, rfl⟩
  · rw [List.getElem?_eq_none (by simp; omega), List.getElem?_eq_none (by simpa using hc)]
theorem Agr.all {α : Type} {l l' : List α} : Agr (fun _ => True) l l' l l' := ⟨rfl, fun _ _ _ => rfl, fun _ h => (h trivial).elim, fun _ _ => rfl⟩

theorem clOp_ne (o : Op) : clOp P o ≠ .v ∧ clOp P o ≠ .w := by
  cases o <;> refine ⟨fun h => ?_, fun h => ?_⟩ <;> simp only [clOp] at h <;> (try cases h)
  all_goals (split at h <;> cases h)
theorem fit_of {c : Cl} {o : Op} (hf : Fit P c o) : (c = .v → clOp P o = .l) ∧ (c ≠ .v → c ≠ .w → c ≠ .r → clOp P o = c) := by
  rcases hf with h | ⟨h, h'⟩ | ⟨h, h'⟩
  · exact ⟨fun e => absurd (h ▸ e) (clOp_ne o).1, fun _ _ _ => h.symm⟩
  · exact ⟨fun _ => h', fun e => absurd h e⟩
  · exact ⟨fun e => (by rcases h with h | h <;> (rw [h] at e; cases e)), fun _ e1 e2 => (by rcases h with h | h; exact absurd h e1; exact absurd h e2)⟩

def mkH (h : H) (b : List Box) (r : List Nat) : H := { h with box := b, row := r }

theorem opW_local {C : Callee'} {c : Cl} {D : List Nat} {s : S} {o : Op} {h h' : H} {v : LV} (hf : Fit P c o) (ho : opW P C c D s o h = some (v, h')) :
    ∃ Tb Tr : Nat → Prop, (∀ b, Tb b → ((c = .l ∨ c = .s) ∧ ∃ off, (addrO o).bind (opr s) = some (.ptr b off)) ∨ c = .r ∨ c = .w) ∧
      (∀ r, Tr r → (c = .p ∧ r ≠ 0 ∧ ∃ x ∈ o.operands, ∃ hi sz xs, opr s x = some (.sl r hi sz xs)) ∨ c = .r ∨ c = .w) ∧
      ∀ (B : List Box) (R : List Nat), B.length = h.box.length → R.length = h.row.length → (∀ b, Tb b → b < h.box.length → B[b]? = h.box[b]?) → (∀ r, Tr r → r < h.row.length → R[r]? = h.row[r]?) →
        ∃ g', opL P C s o (if c = .r then ro (mkH h B R) else mkH h B R) = some (v, g') ∧ Agr Tb h.box h'.box B g'.box ∧ Agr Tr h.row h'.row R g'.row := by
  have quiet : h' = h → (∀ g, opL P C s o g = some (v, g)) → c ≠ .r → ∃ Tb Tr : Nat → Prop, (∀ b, Tb b → ((c = .l ∨ c = .s) ∧ ∃ off, (addrO o).bind (opr s) = some (.ptr b off)) ∨ c = .r ∨ c = .w) ∧
      (∀ r, Tr r → (c = .p ∧ r ≠ 0 ∧ ∃ x ∈ o.operands, ∃ hi sz xs, opr s x = some (.sl r hi sz xs)) ∨ c = .r ∨ c = .w) ∧
      ∀ (B : List Box) (R : List Nat), B.length = h.box.length → R.length = h.row.length → (∀ b, Tb b → b < h.box.length → B[b]? = h.box[b]?) → (∀ r, Tr r → r < h.row.length → R[r]? = h.row[r]?) →
        ∃ g', opL P C s o (if c = .r then ro (mkH h B R) else mkH h B R) = some (v, g') ∧ Agr Tb h.box h'.box B g'.box ∧ Agr Tr h.row h'.row R g'.row := by
    intro e hg hr
    subst e
    refine ⟨fun _ => False, fun _ => False, fun _ h => h.elim, fun _ h => h.elim, fun B R h1 h2 _ _ => ?_⟩
    rw [if_neg hr]
    exact ⟨_, hg _, .same h1, .same h2⟩
  have ext : ∀ {α : Type} (B l : List α), B.length = l.length → (∀ b, b < l.length → B[b]? = l[b]?) → B = l := by
    intro α B l h1 h2
    refine List.ext_getElem? fun b => ?_
    rcases Nat.lt_or_ge b l.length with hb | hb
    · exact h2 b hb
    · rw [List.getElem?_eq_none (by omega), List.getElem?_eq_none hb]
  cases c <;> simp only [opW] at ho
  case q =>
    have hc : clOp P o = .q := (fit_of hf).2 (by simp) (by simp) (by simp)
    obtain ⟨e, hg⟩ := opL_q hc ho
    exact quiet e hg (by simp)
  case a =>
    have hc : clOp P o = .a := (fit_of hf).2 (by simp) (by simp) (by simp)
    obtain ⟨lb, lr, e, _, _, hg⟩ := opL_a hc ho
    subst e
    refine ⟨fun _ => False, fun _ => False, fun _ h => h.elim, fun _ h => h.elim, fun B R h1 h2 _ _ => ?_⟩
    rw [if_neg (by simp)]
    exact ⟨_, hg _ h1 h2, .add h1, .add h2⟩
  case v =>
    have hc : clOp P o = .l := (fit_of hf).1 rfl
    split at ho
    · rename_i cv hcv
      obtain ⟨e, h1 | h1 | ⟨m, off, h1⟩⟩ := opL_l hc ho
      · obtain ⟨b, off, h2, _⟩ := h1
        rw [hcv] at h2; cases h2
      · exact quiet e h1.2 (by simp)
      · rw [hcv] at h1; cases h1
    · cases ho
  case l =>
    have hc : clOp P o = .l := (fit_of hf).2 (by simp) (by simp) (by simp)
    split at ho
    · rename_i hchk
      obtain ⟨e, h1 | h1 | ⟨m, off, h1⟩⟩ := opL_l hc ho
      rotate_right
      · rw [h1] at hchk; simp [chkW] at hchk
      · obtain ⟨b, off, h2, hg⟩ := h1
        subst e
        refine ⟨fun x => x = b ∧ b < h'.box.length, fun _ => False, ?_, fun _ h => h.elim, fun B R h1 h3 h4 _ => ?_⟩
        · rintro x ⟨rfl, _⟩; exact .inl ⟨.inl rfl, off, h2⟩
        · rw [if_neg (by simp)]
          refine ⟨_, hg _ ?_, .sameT h1 h4, .same h3⟩
          show B[b]? = h'.box[b]?
          rcases Nat.lt_or_ge b h'.box.length with hb | hb
          · exact h4 b ⟨rfl, hb⟩ hb
          · rw [List.getElem?_eq_none (by omega), List.getElem?_eq_none hb]
      · exact quiet e h1.2 (by simp)
    · cases ho
  case s =>
    have hc : clOp P o = .s := (fit_of hf).2 (by simp) (by simp) (by simp)
    split at ho
    · rename_i hchk
      obtain ⟨b, off, B', h1, h2, e, hg⟩ | ⟨m, off, h1⟩ := opL_s hc ho
      rotate_left
      · rw [h1] at hchk; simp [chkW] at hchk
      subst e
      refine ⟨fun x => x = b, fun _ => False, ?_, fun _ h => h.elim, fun B R h3 h4 h5 _ => ?_⟩
      · rintro x rfl; exact .inl ⟨.inr rfl, off, h1⟩
      · rw [if_neg (by simp)]
        exact ⟨_, hg _ (h5 b rfl h2) rfl, .set h3, .same h4⟩
    · cases ho
  case p =>
    have hc : clOp P o = .p := (fit_of hf).2 (by simp) (by simp) (by simp)
    split at ho
    · cases ho
    rename_i hnp
    rcases opL_p hc ho with ⟨e, hg⟩ | ⟨n, e, hg⟩ | ⟨r, n, h1, h2, h3, e, hg⟩ | hpm
    rotate_right
    · exact absurd hpm hnp
    · exact quiet e hg (by simp)
    · subst e
      refine ⟨fun _ => False, fun _ => False, fun _ h => h.elim, fun _ h => h.elim, fun B R h1 h2 _ _ => ?_⟩
      rw [if_neg (by simp)]
      exact ⟨_, hg _ h2, .same h1, .add h2⟩
    · subst e
      refine ⟨fun _ => False, fun x => x = r, fun _ h => h.elim, ?_, fun B R h4 h5 _ h6 => ?_⟩
      · rintro x rfl; exact .inl ⟨rfl, h1, h3⟩
      · rw [if_neg (by simp)]
        exact ⟨_, hg _ (h6 r rfl h2) rfl, .same h4, .set h5⟩
  case r =>
    split at ho
    · rename_i h2 h1
      cases ho
      refine ⟨fun _ => True, fun _ => True, fun _ _ => .inr (.inl rfl), fun _ _ => .inr (.inl rfl), fun B R h3 h4 h5 h6 => ?_⟩
      obtain rfl := ext B h.box h3 (fun b => h5 b trivial)
      obtain rfl := ext R h.row h4 (fun b => h6 b trivial)
      rw [if_pos rfl]
      exact ⟨_, h1, .all, .all⟩
    · cases ho
  case w =>
    split at ho
    · rename_i h2 h1
      split at ho
      · cases ho
        refine ⟨fun _ => True, fun _ => True, fun _ _ => .inr (.inr rfl), fun _ _ => .inr (.inr rfl), fun B R h3 h4 h5 h6 => ?_⟩
        obtain rfl := ext B h.box h3 (fun b => h5 b trivial)
        obtain rfl := ext R h.row h4 (fun b => h6 b trivial)
        rw [if_neg (by simp)]
        exact ⟨_, h1, .all, .all⟩
      · cases ho
    · cases ho
/-- What is written, and by what. -/
theorem opW_wrote {C : Callee'} {c : Cl} {D : List Nat} {s : S} {o : Op} {h h' : H} {v : LV} (hf : Fit P c o) (hC : CLen C) (ho : opW P C c D s o h = some (v, h')) :
    (∀ b, b < h.box.length → h'.box[b]? ≠ h.box[b]? → (c = .s ∧ ∃ off, (addrO o).bind (opr s) = some (.ptr b off)) ∨ (c = .w ∧ ∀ x ∈ D, kept1 h h' (s x) = true)) ∧
    (∀ r, r < h.row.length → h'.row[r]? ≠ h.row[r]? → (c = .p ∧ r ≠ 0 ∧ ∃ x ∈ o.operands, ∃ hi sz xs, opr s x = some (.sl r hi sz xs)) ∨ (c = .w ∧ ∀ x ∈ D, kept1 h h' (s x) = true)) := by
  obtain ⟨Tb, Tr, h1, h2, h3⟩ := opW_local hf ho
  have hw : c = .w → ∀ x ∈ D, kept1 h h' (s x) = true := by
    rintro rfl
    simp only [opW] at ho
    split at ho
    · split at ho
      · rename_i hk; cases ho; exact List.all_eq_true.1 hk
      · cases ho
    · cases ho
  have hr : c = .r → (∀ b, b < h.box.length → h'.box[b]? = h.box[b]?) ∧ (∀ b, b < h.row.length → h'.row[b]? = h.row[b]?) := by
    rintro rfl
    simp only [opW] at ho
    split at ho
    · rename_i hk; cases ho
      have p := opL_pre hC hk
      exact ⟨p.kb, p.kr⟩
    · cases ho
  have hl : c = .l → h' = h := by
    rintro rfl
    have hc : clOp P o = .l := (fit_of hf).2 (by simp) (by simp) (by simp)
    simp only [opW] at ho
    split at ho
    · exact (opL_l hc ho).1
    · cases ho
  obtain ⟨g', _, a1, a2⟩ := h3 h.box h.row rfl rfl (fun _ _ _ => rfl) (fun _ _ _ => rfl)
  refine ⟨fun b hb hne => ?_, fun r hb hne => ?_⟩
  · by_cases ht : Tb b
    · rcases h1 b ht with ⟨hc | hc, hx⟩ | hc | hc
      · rw [hl hc] at hne; exact absurd rfl hne
      · exact .inl ⟨hc, hx⟩
      · exact absurd ((hr hc).1 b hb) hne
      · exact .inr ⟨hc, hw hc⟩
    · exact absurd (a1.other b ht hb).2 hne
  · by_cases ht : Tr r
    · rcases h2 r ht with hc | hc | hc
      · exact .inl hc
      · exact absurd ((hr hc).2 r hb) hne
      · exact .inr ⟨hc, hw hc⟩
    · exact absurd (a2.other r ht hb).2 hne
/-- What adds, and what it is called. -/
theorem opW_adds {C : Callee'} {c : Cl} {D : List Nat} {s : S} {o : Op} {h h' : H} {v : LV} (hf : Fit P c o) (ho : opW P C c D s o h = some (v, h')) :
    (∀ b, h.box.length ≤ b → b < h'.box.length → (c = .a ∧ v = .ptr b 0) ∨ c = .s ∨ c = .p ∨ c = .r ∨ c = .w) ∧
    (∀ b, h.row.length ≤ b → b < h'.row.length → (c = .a ∧ ∃ hi sz xs, v = .sl b hi sz xs) ∨ c = .s ∨ c = .p ∨ c = .r ∨ c = .w) := by
  have quiet : h' = h → (∀ b, h.box.length ≤ b → b < h'.box.length → (c = .a ∧ v = .ptr b 0) ∨ c = .s ∨ c = .p ∨ c = .r ∨ c = .w) ∧
    (∀ b, h.row.length ≤ b → b < h'.row.length → (c = .a ∧ ∃ hi sz xs, v = .sl b hi sz xs) ∨ c = .s ∨ c = .p ∨ c = .r ∨ c = .w) := by
    rintro rfl
    exact ⟨fun b h1 h2 => by omega, fun b h1 h2 => by omega⟩
  cases c <;> simp only [opW] at ho
  case q =>
    have hc : clOp P o = .q := (fit_of hf).2 (by simp) (by simp) (by simp)
    exact quiet (opL_q hc ho).1
  case a =>
    have hc : clOp P o = .a := (fit_of hf).2 (by simp) (by simp) (by simp)
    obtain ⟨lb, lr, e, h1, h2, _⟩ := opL_a hc ho
    subst e
    refine ⟨fun b hb1 hb2 => ?_, fun b hb1 hb2 => ?_⟩
    · simp at hb2
      rcases h1 with rfl | ⟨h1, rfl⟩
      · simp at hb2; omega
      · obtain rfl : b = h.box.length := by omega
        exact .inl ⟨rfl, rfl⟩
    · simp at hb2
      rcases h2 with rfl | ⟨h1, h2⟩
      · simp at hb2; omega
      · obtain rfl : b = h.row.length := by omega
        exact .inl ⟨rfl, h2⟩
  case v =>
    have hc : clOp P o = .l := (fit_of hf).1 rfl
    split at ho
    · exact quiet (opL_l hc ho).1
    · cases ho
  case l =>
    have hc : clOp P o = .l := (fit_of hf).2 (by simp) (by simp) (by simp)
    split at ho
    · exact quiet (opL_l hc ho).1
    · cases ho
  all_goals exact ⟨fun _ _ _ => by simp, fun _ _ _ => by simp⟩
end Go.LM

namespace Go.LM
variable {P : Program}

abbrev bxs (η : Nat → H) : Nat → List Box := fun i => (η i).box
abbrev rws (η : Nat → H) : Nat → List Nat := fun i => (η i).row
def clA (P : Program) (all : Array Oper) (i : Nat) : Cl := (clsL P all.toList).getD i .w

structure WTr (P : Program) (C : Callee') (N : Nat) (all : Array Oper) (rows : List (Cl × List Nat)) (σ : Nat → S) (η : Nat → H) (val : Nat → LV) : Prop where
  plan : planW P all.toList = some rows
  step : ∀ i o c D, all[i]? = some o → rows[i]? = some (c, D) → WStep P C N all c D o (σ i) (σ (i + 1)) (η i) (η (i + 1)) (val i)

variable {C : Callee'} {N : Nat} {all : Array Oper} {rows : List (Cl × List Nat)} {σ : Nat → S} {η : Nat → H} {val : Nat → LV}

/-- What the plan says of operation i. -/
structure WAt (P : Program) (C : Callee') (N : Nat) (all : Array Oper) (σ : Nat → S) (η : Nat → H) (val : Nat → LV) (i : Nat) (o : Oper) (D : List Nat) : Prop where
  st : WStep P C N all (clA P all i) D o (σ i) (σ (i + 1)) (η i) (η (i + 1)) (val i)
  fit : Fit P (clA P all i) o.op
  ahead : ∀ j, j < i → Reach all j i ∨ (pairOk (clA P all j) (clA P all i) = true ∧ (dynP (clA P all j) (clA P all i) = true → ∃ x, slotD all.toList (clsL P all.toList) i j = some x ∧ x ∈ D)) ∨
    (clA P all j = .w ∧ clA P all i = .l ∧ ∃ x, rootOf all.toList j i = some x ∧ ((masksL all.toList []).getD i 0).testBit j = false)
  beh : ∀ k x, i < k → k < all.size → clA P all i = .w → clA P all k = .l → ((masksL all.toList []).getD k 0).testBit i = false → rootOf all.toList i k = some x → x ∈ D

theorem WTr.at_ (W : WTr P C N all rows σ η val) {i : Nat} {o : Oper} (ho : all[i]? = some o) : ∃ D, WAt P C N all σ η val i o D := by
  have hi : i < all.size := (Array.getElem?_eq_some_iff.1 ho).1
  obtain ⟨d, h1, h2⟩ := (planW_ok W.plan).2 i hi
  refine ⟨_, W.step i o _ _ ho h2, cls_fit (by simpa using ho), fun j hj => ?_, fun k x a1 a2 a3 a4 a5 a6 => ?_⟩
  · rcases dynL_ok h1 j hj with h | ⟨h, h'⟩ | ⟨h1, h2, h3, x, h4⟩
    · exact .inl (masks_reach (all := all) all.toList [] (by intro j; simp) (by intro j k hb; simp at hb) _ _ h)
    · exact .inr (.inl ⟨h, fun hd => by obtain ⟨x, e1, e2⟩ := h' hd; exact ⟨x, e1, by simp [e2]⟩⟩)
    · exact .inr (.inr ⟨h2, h3, x, h4, h1⟩)
  · exact List.mem_append_right _ (behL_ok a1 (by simpa using a2) a3 a4 a5 a6)

theorem WTr.gro (W : WTr P C N all rows σ η val) {i : Nat} (hi : i < all.size) : Gro (η i) (η (i + 1)) := by
  obtain ⟨D, h⟩ := W.at_ (Array.getElem?_eq_getElem hi)
  exact h.st.gro
theorem WTr.chain (W : WTr P C N all rows σ η val) : ∀ d i, i + d ≤ all.size → Gro (η i) (η (i + d))
  | 0, i, _ => .refl _
  | d + 1, i, h => (W.chain d i (by omega)).trans (W.gro (i := i + d) (by omega))
theorem WTr.le (W : WTr P C N all rows σ η val) {i j : Nat} (hij : i ≤ j) (hj : j ≤ all.size) : Gro (η i) (η j) := by
  have := W.chain (j - i) i (by omega)
  rwa [Nat.add_sub_cancel' hij] at this
theorem WTr.monoB (W : WTr P C N all rows σ η val) : ∀ i, i < all.size → (bxs η i).length ≤ (bxs η (i + 1)).length := fun _ hi => (W.gro hi).len.1
theorem WTr.monoR (W : WTr P C N all rows σ η val) : ∀ i, i < all.size → (rws η i).length ≤ (rws η (i + 1)).length := fun _ hi => (W.gro hi).len.2

theorem WTr.slot (W : WTr P C N all rows σ η val) {j x : Nat} : ∀ d, j + d ≤ all.size → (∀ k o, j ≤ k → k < j + d → all[k]? = some o → o.dst ≠ some x) → σ (j + d) x = σ j x
  | 0, _, _ => rfl
  | d + 1, h, hn => by
    have hk : j + d < all.size := by omega
    have ho := Array.getElem?_eq_getElem hk
    obtain ⟨D, h1⟩ := W.at_ ho
    show σ (j + d + 1) x = _
    rw [h1.st.slot, updO_ne (hn _ _ (by omega) (by omega) ho)]
    exact W.slot d (by omega) (fun k o a b => hn k o a (by omega))
theorem kept_slot (W : WTr P C N all rows σ η val) {x j i : Nat} (hji : j ≤ i) (hi : i ≤ all.size) (h : keptT all.toList x j i = true) : σ i x = σ j x := by
  have := W.slot (j := j) (x := x) (i - j) (by omega) (fun k o h1 h2 ho => by
    have := List.all_eq_true.1 h k (by simp; omega)
    have hk : all.toList[k]? = some o := by simpa using ho
    rw [hk] at this
    simp only [Bool.or_eq_true, decide_eq_true_eq, bne_iff_ne] at this
    rcases this with h3 | h3
    · omega
    · exact h3)
  rwa [Nat.add_sub_cancel' hji] at this

theorem addrT_O {o : Op} {x : Nat} (h : addrT o = some x) : addrO o = some (.tmp x) := by
  unfold addrT at h
  split at h <;> first
    | (cases h; rfl)
    | cases h
theorem opW_chk {c : Cl} {D : List Nat} {s : S} {o : Op} {h h' : H} {v : LV} (hc : c = .l ∨ c = .s) (ho : opW P C c D s o h = some (v, h')) : chkW s ((addrO o).bind (opr s)) D = true := by
  rcases hc with rfl | rfl
  all_goals
    simp only [opW] at ho
    split at ho
    · assumption
    · cases ho
theorem chk_ne {s : S} {D : List Nat} {b off x c off' : Nat} (h : chkW s (some (.ptr b off)) D = true) (hx : x ∈ D) (hs : s x = .ptr c off') : c ≠ b := by
  simp only [chkW] at h
  have := List.all_eq_true.1 h x hx
  rw [hs] at this
  simpa using this
theorem slotD_addr {cs : List Cl} {i j x : Nat} {q : Oper} (hq : all[j]? = some q) (hc : cs.getD j .w ≠ .a) (h : slotD all.toList cs i j = some x) : addrT q.op = some x ∧ keptT all.toList x j i = true := by
  unfold slotD at h
  have hq' : all.toList[j]? = some q := by simpa using hq
  rw [hq'] at h
  dsimp only at h
  split at h
  · rename_i hh; exact absurd hh hc
  · split at h
    · rename_i y hy
      split at h
      · rename_i hk; cases h; exact ⟨hy, hk⟩
      · cases h
    · cases h
theorem slotD_dst {cs : List Cl} {i j x : Nat} {q : Oper} (hq : all[j]? = some q) (hc : cs.getD j .w = .a) (h : slotD all.toList cs i j = some x) : q.dst = some x ∧ keptT all.toList x (j + 1) i = true := by
  unfold slotD at h
  have hq' : all.toList[j]? = some q := by simpa using hq
  rw [hq'] at h
  dsimp only at h
  rw [hc] at h
  dsimp only at h
  split at h
  · rename_i y hy
    split at h
    · rename_i hk; cases h; exact ⟨hy, hk⟩
    · cases h
  · cases h

/-- An address comes out of the slot that 'rootAt' names. -/
theorem root_ok (W : WTr P C N all rows σ η val) {j : Nat} : ∀ {n i x r : Nat}, j ≤ i → i ≤ all.size → rootAt all.toList j n i x = some r → ∀ {b off : Nat}, σ i x = .ptr b off → ∃ off', σ j r = .ptr b off'
  | 0, i, x, r, _, _, h, _, _, _ => by simp [rootAt] at h
  | n + 1, i, x, r, hji, hi, h, b, off, hs => by
    simp only [rootAt] at h
    split at h
    · rename_i hk
      cases h
      exact ⟨off, by rw [← kept_slot W hji hi hk]; exact hs⟩
    · split at h
      case h_2 => cases h
      rename_i k hl
      split at h
      case h_2 => cases h
      rename_i o ho
      split at h
      case h_2 => cases h
      rename_i y hy
      split at h
      case isFalse => cases h
      rename_i hc
      obtain ⟨c1, c2, c3, c4⟩ := hc
      have ho' : all[k]? = some o := by simpa using ho
      obtain ⟨D, A⟩ := W.at_ ho'
      have hv : val k = .ptr b off := by
        have := kept_slot W (show k + 1 ≤ i from c2) hi c4
        rw [A.st.slot, updO_eq c1] at this
        rw [← this]; exact hs
      have hex : opL P C (σ k) o.op (η k) = some (val k, η (k + 1)) := by
        rcases A.st.did with ⟨_, h⟩ | ⟨_, h, _⟩
        · have hq : clOp P o.op = .q := by
            unfold chainO at hy
            split at hy <;> first
              | (cases hy; done)
              | (rename_i e; rw [e]; rfl)
          have hcl : clA P all k = .q := by
            rcases A.fit with h1 | ⟨_, h1⟩ | ⟨_, h1⟩
            · rw [h1, hq]
            · rw [hq] at h1; cases h1
            · exact absurd hq h1
          rw [hcl] at h; exact h
        · rw [hv] at h; cases h
      have hsy : ∃ off', σ k y = .ptr b off' := by
        unfold chainO at hy
        split at hy
        · rename_i z e
          cases hy
          rw [e] at hex
          simp only [opL, opr, Option.map_some, Option.some.injEq, Prod.mk.injEq] at hex
          exact ⟨off, hex.1.trans hv⟩
        · rename_i z e
          cases hy
          rw [e] at hex
          simp only [opL, opr] at hex
          split at hex
          · rename_i b' o' hz
            simp only [Option.some.injEq, Prod.mk.injEq] at hex hz
            exact ⟨off, hz.trans (hex.1.trans hv)⟩
          all_goals first
            | (simp only [Option.some.injEq, Prod.mk.injEq] at hex; rw [hv] at hex; cases hex.1; done)
            | cases hex
        · rename_i t z f e
          cases hy
          rw [e] at hex
          simp only [opL, opr] at hex
          rw [Option.map_eq_some_iff] at hex
          obtain ⟨v, h1, h2⟩ := hex
          simp only [Prod.mk.injEq] at h2
          rw [h2.1, hv] at h1
          simp only [fieldAddrL] at h1
          split at h1
          · split at h1
            · split at h1
              · split at h1
                · rename_i b' o' hz
                  simp only [Option.some.injEq, LV.ptr.injEq] at h1
                  exact ⟨o', by rw [hz, h1.1]⟩
                · simp only [subL] at h1
                  split at h1
                  · split at h1 <;> cases h1
                  · cases h1
                · cases h1
              · cases h1
            · cases h1
          · cases h1
        · cases hy
      obtain ⟨off', hy'⟩ := hsy
      exact root_ok W c3 (by omega) h hy'

/-- What is written by one and looked at by another has an order. -/
theorem WTr.boxOrd (W : WTr P C N all rows σ η val) (hC : CLen C) {i j b : Nat} {o : Oper} {D : List Nat} (ho : all[i]? = some o) (A : WAt P C N all σ η val i o D) (hex : opW P C (clA P all i) D (σ i) o.op (η i) = some (val i, η (i + 1)))
    (ht : ((clA P all i = .l ∨ clA P all i = .s) ∧ ∃ off, (addrO o.op).bind (opr (σ i)) = some (.ptr b off)) ∨ clA P all i = .r ∨ clA P all i = .w) (hj : j < all.size) (hw : wrL (bxs η) j b) (hne : j ≠ i) :
    (j < i ∧ Reach all j i) ∨ (i < j ∧ Reach all i j) := by
  have hi : i < all.size := (Array.getElem?_eq_some_iff.1 ho).1
  have hq := Array.getElem?_eq_getElem hj
  obtain ⟨D', A'⟩ := W.at_ hq
  have hex' : opW P C (clA P all j) D' (σ j) all[j].op (η j) = some (val j, η (j + 1)) := by
    rcases A'.st.did with ⟨_, h⟩ | ⟨_, _, h⟩
    · exact h
    · exact absurd (by show (η (j + 1)).box[b]? = (η j).box[b]?; rw [h]) hw.2
  have hwr := (opW_wrote A'.fit hC hex').1 b hw.1 hw.2
  rcases Nat.lt_or_gt_of_ne hne with hlt | hgt
  · refine .inl ⟨hlt, ?_⟩
    rcases A.ahead j hlt with h | ⟨h1, h2⟩ | ⟨h1, h2, x, h3, h4⟩
    · exact h
    rotate_left
    · exfalso
      rcases hwr with ⟨cj, _⟩ | ⟨cj, hkp⟩
      · rw [h1] at cj; cases cj
      · rcases ht with ⟨_, off, ha⟩ | ci | ci
        · have hx := A'.beh i x hlt hi h1 h2 h4 h3
          unfold rootOf at h3
          have ho' : all.toList[i]? = some o := by simpa using ho
          rw [ho'] at h3
          dsimp only at h3
          split at h3
          · rename_i y hy
            rw [addrT_O hy] at ha
            simp only [Option.bind_some, opr, Option.some.injEq] at ha
            obtain ⟨off', e⟩ := root_ok W (Nat.le_of_lt hlt) (Nat.le_of_lt hi) h3 ha
            have := hkp x hx
            rw [e] at this
            exact hw.2 (boxB_eq this)
          · cases h3
        · rw [ci] at h2; cases h2
        · rw [ci] at h2; cases h2
    · exfalso
      rcases hwr with ⟨cj, off', ha'⟩ | ⟨cj, _⟩
      · rw [cj] at h1 h2
        rcases ht with ⟨ci, off, ha⟩ | ci | ci
        · have hd : dynP .s (clA P all i) = true := by rcases ci with ci | ci <;> rw [ci] <;> rfl
          obtain ⟨x, e1, e2⟩ := h2 hd
          obtain ⟨e3, e4⟩ := slotD_addr hq (by show clA P all j ≠ .a; rw [cj]; simp) e1
          have hk := kept_slot W (Nat.le_of_lt hlt) (Nat.le_of_lt hi) e4
          rw [addrT_O e3] at ha'
          simp only [Option.bind_some, opr, Option.some.injEq] at ha'
          have hch := opW_chk ci hex
          rw [ha] at hch
          exact chk_ne hch e2 (hk.trans ha') rfl
        · rw [ci] at h1; cases h1
        · rw [ci] at h1; cases h1
      · rw [cj] at h1
        rcases ht with ⟨ci | ci, _⟩ | ci | ci <;> (rw [ci] at h1; cases h1)
  · refine .inr ⟨hgt, ?_⟩
    rcases A'.ahead i hgt with h | ⟨h1, h2⟩ | ⟨_, h2, _⟩
    · exact h
    rotate_left
    · exfalso
      rcases hwr with ⟨cj, _⟩ | ⟨cj, _⟩ <;> (rw [h2] at cj; cases cj)
    · exfalso
      rcases hwr with ⟨cj, off', ha'⟩ | ⟨cj, hkp⟩
      · rw [cj] at h1 h2
        rcases ht with ⟨ci, off, ha⟩ | ci | ci
        · have hd : dynP (clA P all i) .s = true := by rcases ci with ci | ci <;> rw [ci] <;> rfl
          obtain ⟨x, e1, e2⟩ := h2 hd
          obtain ⟨e3, e4⟩ := slotD_addr ho (by show clA P all i ≠ .a; rcases ci with ci | ci <;> rw [ci] <;> simp) e1
          have hk := kept_slot W (Nat.le_of_lt hgt) (Nat.le_of_lt hj) e4
          rw [addrT_O e3] at ha
          simp only [Option.bind_some, opr, Option.some.injEq] at ha
          have hch := opW_chk (.inr cj) hex'
          rw [ha'] at hch
          exact chk_ne hch e2 (hk.trans ha) rfl
        · rw [ci] at h1; cases h1
        · rw [ci] at h1; cases h1
      · rw [cj] at h1 h2
        rcases ht with ⟨ci | ci, off, ha⟩ | ci | ci
        · rw [ci] at h2
          obtain ⟨x, e1, e2⟩ := h2 rfl
          obtain ⟨e3, e4⟩ := slotD_addr ho (by show clA P all i ≠ .a; rw [ci]; simp) e1
          have hk := kept_slot W (Nat.le_of_lt hgt) (Nat.le_of_lt hj) e4
          rw [addrT_O e3] at ha
          simp only [Option.bind_some, opr, Option.some.injEq] at ha
          have := hkp x e2
          rw [hk, ha] at this
          exact hw.2 (boxB_eq this)
        · rw [ci] at h1; cases h1
        · rw [ci] at h1; cases h1
        · rw [ci] at h1; cases h1

theorem WTr.rowOrd (W : WTr P C N all rows σ η val) (hC : CLen C) {i j b : Nat} {o : Oper} {D : List Nat} (A : WAt P C N all σ η val i o D)
    (ht : clA P all i = .p ∨ clA P all i = .r ∨ clA P all i = .w) (hj : j < all.size) (hw : wrL (rws η) j b) (hne : j ≠ i) :
    (j < i ∧ Reach all j i) ∨ (i < j ∧ Reach all i j) := by
  have hq := Array.getElem?_eq_getElem hj
  obtain ⟨D', A'⟩ := W.at_ hq
  have hex' : opW P C (clA P all j) D' (σ j) all[j].op (η j) = some (val j, η (j + 1)) := by
    rcases A'.st.did with ⟨_, h⟩ | ⟨_, _, h⟩
    · exact h
    · exact absurd (by show (η (j + 1)).row[b]? = (η j).row[b]?; rw [h]) hw.2
  have hwr := (opW_wrote A'.fit hC hex').2 b hw.1 hw.2
  have hcj : clA P all j = .p ∨ clA P all j = .w := by
    rcases hwr with h | h
    · exact .inl h.1
    · exact .inr h.1
  rcases Nat.lt_or_gt_of_ne hne with hlt | hgt
  · refine .inl ⟨hlt, ?_⟩
    rcases A.ahead j hlt with h | ⟨h1, h2⟩ | ⟨_, h2, _⟩
    · exact h
    · exfalso
      rcases hcj with cj | cj <;> rcases ht with ci | ci | ci <;> (rw [ci, cj] at h1; cases h1)
    · exfalso
      rcases ht with ci | ci | ci <;> (rw [ci] at h2; cases h2)
  · refine .inr ⟨hgt, ?_⟩
    rcases A'.ahead i hgt with h | ⟨h1, h2⟩ | ⟨_, h2, _⟩
    · exact h
    · exfalso
      rcases hcj with cj | cj <;> rcases ht with ci | ci | ci <;> (rw [ci, cj] at h1; cases h1)
    · exfalso
      rcases hcj with cj | cj <;> (rw [h2] at cj; cases cj)

/-- By whom a thing was made. -/
theorem maker {α : Type} {ξ : Nat → List α} {b : Nat} (h0 : (ξ 0).length ≤ b) : ∀ i, b < (ξ i).length → ∃ k, k < i ∧ (ξ k).length ≤ b ∧ b < (ξ (k + 1)).length
  | 0, h => absurd h (by omega)
  | i + 1, h => by
    rcases Nat.lt_or_ge b (ξ i).length with h1 | h1
    · obtain ⟨k, h2, h3⟩ := maker h0 i h1
      exact ⟨k, by omega, h3⟩
    · exact ⟨i, by omega, h1, h⟩

/-- What a call writes, somebody has made ahead of it. -/
theorem WTr.callMade (W : WTr P C N all rows σ η val) {i : Nat} {o : Oper} {D : List Nat} (ho : all[i]? = some o) (A : WAt P C N all σ η val i o D) (hc : clA P all i = .w)
    (hex : opW P C (clA P all i) D (σ i) o.op (η i) = some (val i, η (i + 1))) (hC : CLen C) :
    (∀ b, wrL (bxs η) i b → (η 0).box.length ≤ b → ∃ k, k < i ∧ ((η k).box.length ≤ b ∧ b < (η (k + 1)).box.length) ∧ Reach all k i) ∧
    (∀ b, wrL (rws η) i b → (η 0).row.length ≤ b → ∃ k, k < i ∧ ((η k).row.length ≤ b ∧ b < (η (k + 1)).row.length) ∧ Reach all k i) := by
  have hi : i < all.size := (Array.getElem?_eq_some_iff.1 ho).1
  have hw := opW_wrote A.fit hC hex
  have core : ∀ k, k < i → (∀ q D', all[k]? = some q → WAt P C N all σ η val k q D' → opW P C (clA P all k) D' (σ k) q.op (η k) = some (val k, η (k + 1)) →
      (clA P all k = .a ∧ ∀ x, σ i x = val k → x ∈ D → False) ∨ clA P all k = .s ∨ clA P all k = .p ∨ clA P all k = .r ∨ clA P all k = .w) → (η (k + 1) ≠ η k) → Reach all k i := by
    intro k hk hcl hch
    have hq := Array.getElem?_eq_getElem (show k < all.size by omega)
    obtain ⟨D', A'⟩ := W.at_ hq
    have hex' : opW P C (clA P all k) D' (σ k) all[k].op (η k) = some (val k, η (k + 1)) := by
      rcases A'.st.did with ⟨_, h⟩ | ⟨_, _, h⟩
      · exact h
      · exact absurd h hch
    rcases A.ahead k hk with h | ⟨h1, h2⟩ | ⟨_, h2, _⟩
    · exact h
    rotate_left
    · rw [hc] at h2; cases h2
    · exfalso
      rw [hc] at h1 h2
      rcases hcl _ D' hq A' hex' with ⟨ck, hx⟩ | ck | ck | ck | ck
      · rw [ck] at h2
        obtain ⟨x, e1, e2⟩ := h2 rfl
        obtain ⟨e3, e4⟩ := slotD_dst hq (by show clA P all k = .a; exact ck) e1
        have hkp := kept_slot W (show k + 1 ≤ i by omega) (Nat.le_of_lt hi) e4
        exact hx x (by rw [hkp, A'.st.slot, updO_eq e3]) e2
      all_goals (rw [ck] at h1; cases h1)
  refine ⟨fun b hb h0 => ?_, fun b hb h0 => ?_⟩
  · obtain ⟨k, hk, h1, h2⟩ := maker (ξ := bxs η) h0 i hb.1
    refine ⟨k, hk, ⟨h1, h2⟩, core k hk ?_ ?_⟩
    · intro q D' hq A' hex'
      rcases (opW_adds A'.fit hex').1 b h1 h2 with ⟨ck, hv⟩ | h
      · refine .inl ⟨ck, fun x hx hxD => ?_⟩
        rcases hw.1 b hb.1 hb.2 with ⟨cs, _⟩ | ⟨_, hkp⟩
        · rw [hc] at cs; cases cs
        · have := hkp x hxD
          rw [hx, hv] at this
          exact hb.2 (boxB_eq this)
      · exact .inr h
    · intro e
      have : (η (k + 1)).box.length = (η k).box.length := by rw [e]
      have h1 : (η k).box.length ≤ b := h1
      have h2 : b < (η (k + 1)).box.length := h2
      omega
  · obtain ⟨k, hk, h1, h2⟩ := maker (ξ := rws η) h0 i hb.1
    refine ⟨k, hk, ⟨h1, h2⟩, core k hk ?_ ?_⟩
    · intro q D' hq A' hex'
      rcases (opW_adds A'.fit hex').2 b h1 h2 with ⟨ck, hi', sz, xs, hv⟩ | h
      · refine .inl ⟨ck, fun x hx hxD => ?_⟩
        rcases hw.2 b hb.1 hb.2 with ⟨cs, _⟩ | ⟨_, hkp⟩
        · rw [hc] at cs; cases cs
        · have := hkp x hxD
          rw [hx, hv] at this
          simp only [kept1, decide_eq_true_eq] at this
          exact hb.2 this
      · exact .inr h
    · intro e
      have : (η (k + 1)).row.length = (η k).row.length := by rw [e]
      have h1 : (η k).row.length ≤ b := h1
      have h2 : b < (η (k + 1)).row.length := h2
      omega
end Go.LM
