import Derived.Test.YtpmpdidgbbgeeaaLmP
namespace Go.LM
variable {P : Program}

/-- The slots when just the operations of L are done, in the text's order. -/
def slotAt (all : Array Oper) (val : Nat → LV) (L : Nat → Bool) (s0 : S) : Nat → S
  | 0 => s0
  | i + 1 => if L i = true then (match all[i]? with
    | some o => updO (slotAt all val L s0 i) o.dst (val i)
    | none => slotAt all val L s0 i) else slotAt all val L s0 i

theorem updO_ne {s : S} {d : Option Nat} {v : LV} {t : Nat} (h : d ≠ some t) : updO s d v t = s t := by
  cases d with
  | none => rfl
  | some d => simp only [updO, upd]; rw [if_neg (fun e => h (by rw [e]))]
theorem updO_eq {s : S} {d : Option Nat} {v : LV} {t : Nat} (h : d = some t) : updO s d v t = v := by
  subst h; simp [updO, upd]

def Closed (all : Array Oper) (L : Nat → Bool) : Prop := ∀ i o, all[i]? = some o → L i = true → ∀ e ∈ o.after, Region.binds .any e = true → L e.on = true

inductive Reach (all : Array Oper) : Nat → Nat → Prop
  | edge {i : Nat} {o : Oper} {e : Edge} (ho : all[i]? = some o) (he : e ∈ o.after) (hb : Region.binds .any e = true) : Reach all e.on i
  | more {k i : Nat} {o : Oper} {e : Edge} (ho : all[i]? = some o) (he : e ∈ o.after) (hb : Region.binds .any e = true) (h : Reach all k e.on) : Reach all k i

theorem mask_bit (acc : List Nat) (k : Nat) : ∀ (l : List Edge) (s : Nat), (l.foldl (fun s e => if Region.binds .any e = true then (s ||| 2 ^ e.on) ||| acc.getD e.on 0 else s) s).testBit k = true →
    s.testBit k = true ∨ ∃ e ∈ l, Region.binds .any e = true ∧ (e.on = k ∨ (acc.getD e.on 0).testBit k = true)
  | [], s, h => .inl h
  | e :: l, s, h => by
    rw [List.foldl_cons] at h
    rcases mask_bit acc k l _ h with h1 | ⟨e', h1, h2⟩
    · split at h1
      · rename_i hb
        rw [Nat.testBit_or, Nat.testBit_or, Nat.testBit_two_pow, Bool.or_eq_true, Bool.or_eq_true] at h1
        rcases h1 with (h1 | h1) | h1
        · exact .inl h1
        · exact .inr ⟨e, by simp, hb, .inl (by simpa using h1)⟩
        · exact .inr ⟨e, by simp, hb, .inr h1⟩
      · exact .inl h1
    · exact .inr ⟨e', by simp [h1], h2⟩

theorem masks_reach {all : Array Oper} : ∀ (l : List Oper) (acc : List Nat), (∀ j, l[j]? = all[acc.length + j]?) → (∀ j k, (acc.getD j 0).testBit k = true → Reach all k j) →
    ∀ j k, ((masksL l acc).getD j 0).testBit k = true → Reach all k j
  | [], acc, _, h => h
  | o :: os, acc, hl, h => by
    have ho : all[acc.length]? = some o := by have := hl 0; simpa using this.symm
    refine masks_reach os (acc ++ [maskL o acc]) (fun j => ?_) (fun j k hb => ?_)
    · have := hl (j + 1)
      simpa [Nat.add_assoc, Nat.add_comm 1 j] using this
    · by_cases hj : j < acc.length
      · rw [List.getD_eq_getElem?_getD, List.getElem?_append_left hj, ← List.getD_eq_getElem?_getD] at hb
        exact h j k hb
      · by_cases he : j = acc.length
        · subst he
          rw [List.getD_eq_getElem?_getD, List.getElem?_append_right (Nat.le_refl _)] at hb
          simp only [Nat.sub_self, List.getElem?_cons_zero, Option.getD_some, maskL] at hb
          rcases mask_bit acc k _ _ hb with h1 | ⟨e, h1, h2, h3⟩
          · simp at h1
          · rcases h3 with h3 | h3
            · rw [← h3]; exact .edge ho (by simpa using h1) h2
            · exact .more ho (by simpa using h1) h2 (h _ _ h3)
        · rw [List.getD_eq_getElem?_getD, List.getElem?_eq_none (by simp; omega)] at hb
          simp at hb

theorem reach_closed {all : Array Oper} {L : Nat → Bool} (hc : Closed all L) {k i : Nat} (h : Reach all k i) : L i = true → L k = true := by
  induction h with
  | edge ho he hb => intro hi; exact hc _ _ ho hi _ he hb
  | more ho he hb _ ih => intro hi; exact ih (hc _ _ ho hi _ he hb)
/-- ... ahead of one that is about to be done. -/
theorem reach_ready {all : Array Oper} {L : Nat → Bool} (hc : Closed all L) {k i : Nat} {o : Oper} (ho : all[i]? = some o) (hp : ∀ e ∈ o.after, Region.binds .any e = true → L e.on = true)
    (h : Reach all k i) : L k = true := by
  cases h with
  | edge ho' he hb => rw [ho] at ho'; cases ho'; exact hp _ he hb
  | more ho' he hb h => rw [ho] at ho'; cases ho'; exact reach_closed hc h (hp _ he hb)

theorem slots_of {all : Array Oper} (h : slotsOkL all = true) {i k d : Nat} {o q : Oper} (ho : all[i]? = some o) (hq : all[k]? = some q) (hd : q.dst = some d) (hne : k ≠ i)
    (hl : d ∈ o.looksAt all ∨ o.dst = some d) : if k < i then Reach all k i else Reach all i k := by
  have hm := masks_reach (all := all) all.toList [] (by intro j; simp) (by intro j k hb; simp at hb)
  unfold slotsOkL at h
  have h1 := List.all_eq_true.1 h (o, i) (by
    rw [List.mem_zipIdx_iff_getElem?]; simpa using ho)
  dsimp only at h1
  have h2 := List.all_eq_true.1 h1 d (by
    rw [List.mem_append]
    rcases hl with hl | hl
    · exact .inl hl
    · exact .inr (by rw [hl]; simp))
  have h3 := List.all_eq_true.1 h2 (q, k) (by
    rw [List.mem_zipIdx_iff_getElem?]; simpa using hq)
  dsimp only at h3
  rw [hd] at h3
  simp only [bne_self_eq_false, Bool.false_or, Bool.or_eq_true, beq_iff_eq] at h3
  rcases h3 with h3 | h3
  · exact absurd h3 hne
  · split at h3 <;> rename_i hlt
    · rw [if_pos hlt]; exact hm _ _ h3
    · rw [if_neg hlt]; exact hm _ _ h3

/-- What an operation that is about to be done finds in its slots. -/
theorem slot_read {all : Array Oper} {val : Nat → LV} {L : Nat → Bool} {s0 : S} (hok : slotsOkL all = true) (hc : Closed all L) {i : Nat} {o : Oper} (ho : all[i]? = some o)
    (hp : ∀ e ∈ o.after, Region.binds .any e = true → L e.on = true) (hi : L i = false) {t : Nat} (ht : t ∈ o.looksAt all) :
    ∀ m, (m ≤ i → slotAt all val L s0 m t = slotAt all val (fun _ => true) s0 m t) ∧ (i ≤ m → slotAt all val L s0 m t = slotAt all val (fun _ => true) s0 i t) := by
  have hw : ∀ k q, all[k]? = some q → q.dst = some t → (k < i → L k = true) ∧ (i < k → L k = false) := by
    intro k q hq hd
    refine ⟨fun hlt => ?_, fun hlt => ?_⟩
    · have := slots_of hok ho hq hd (by omega) (.inl ht)
      rw [if_pos hlt] at this
      exact reach_ready hc ho hp this
    · have := slots_of hok ho hq hd (by omega) (.inl ht)
      rw [if_neg (by omega)] at this
      cases hL : L k with
      | false => rfl
      | true => rw [reach_closed hc this hL] at hi; cases hi
  intro m
  induction m with
  | zero => exact ⟨fun _ => rfl, fun h => by
      obtain rfl : i = 0 := (by omega)
      rfl⟩
  | succ m ih =>
    have step : ∀ L', slotAt all val L' s0 (m + 1) t = if L' m = true then (match all[m]? with
        | some q => if q.dst = some t then val m else slotAt all val L' s0 m t
        | none => slotAt all val L' s0 m t) else slotAt all val L' s0 m t := by
      intro L'
      simp only [slotAt]
      split
      · cases hq : all[m]? with
        | none => rfl
        | some q =>
          dsimp only
          split
          · rename_i hd; exact updO_eq hd
          · rename_i hd; exact updO_ne hd
      · rfl
    refine ⟨fun hm => ?_, fun hm => ?_⟩
    · rw [step, step, (ih.1 (by omega))]
      cases hq : all[m]? with
      | none => simp
      | some q =>
        by_cases hd : q.dst = some t
        · rw [(hw m q hq hd).1 (by omega)]
        · simp [hd]
    · by_cases he : i = m + 1
      · subst he
        rw [step, step, (ih.1 (by omega))]
        cases hq : all[m]? with
        | none => simp
        | some q =>
          by_cases hd : q.dst = some t
          · rw [(hw m q hq hd).1 (by omega)]
          · simp [hd]
      · rw [step, ← ih.2 (by omega)]
        cases hq : all[m]? with
        | none => simp
        | some q =>
          by_cases hd : q.dst = some t
          · by_cases hmi : m = i
            · subst hmi; simp [hi]
            · simp [(hw m q hq hd).2 (by omega)]
          · simp [hd]

/-- One more operation is done. -/
theorem slot_put {all : Array Oper} {val : Nat → LV} {L : Nat → Bool} {s0 : S} (hok : slotsOkL all = true) (hc : Closed all L) {i : Nat} {o : Oper} (ho : all[i]? = some o)
    (hi : L i = false) (t : Nat) :
    ∀ m, (m ≤ i → slotAt all val (fun k => L k || k == i) s0 m t = slotAt all val L s0 m t) ∧
      (i < m → slotAt all val (fun k => L k || k == i) s0 m t = updO (slotAt all val L s0 m) o.dst (val i) t) := by
  have step : ∀ L' m, slotAt all val L' s0 (m + 1) t = if L' m = true then (match all[m]? with
      | some q => if q.dst = some t then val m else slotAt all val L' s0 m t
      | none => slotAt all val L' s0 m t) else slotAt all val L' s0 m t := by
    intro L' m
    simp only [slotAt]
    split
    · cases hq : all[m]? with
      | none => rfl
      | some q =>
        dsimp only
        split
        · rename_i hd; exact updO_eq hd
        · rename_i hd; exact updO_ne hd
    · rfl
  intro m
  induction m with
  | zero => exact ⟨fun _ => rfl, fun h => absurd h (by omega)⟩
  | succ m ih =>
    refine ⟨fun hm => ?_, fun hm => ?_⟩
    · rw [step, step, ih.1 (by omega)]
      have : (m == i) = false := by simp; omega
      simp [this]
    · by_cases he : m = i
      · subst he
        rw [step]
        simp only [beq_self_eq_true, Bool.or_true, if_true, ho]
        have hself : slotAt all val L s0 (m + 1) = slotAt all val L s0 m := by simp [slotAt, hi]
        by_cases hd : o.dst = some t
        · rw [if_pos hd, updO_eq hd]
        · rw [if_neg hd, updO_ne hd, hself]; exact ih.1 (Nat.le_refl _)
      · have hbeq : (m == i) = false := by simp; exact he
        rw [step]
        simp only [hbeq, Bool.or_false]
        by_cases hd : o.dst = some t
        · rw [updO_eq hd]
          have hval : slotAt all val (fun k => L k || k == i) s0 m t = val i := by rw [ih.2 (by omega), updO_eq hd]
          split
          · rename_i hLm
            cases hq : all[m]? with
            | none => exact hval
            | some q =>
              dsimp only
              split
              · rename_i hqd
                have := slots_of hok ho hq hqd he (.inr hd)
                rw [if_neg (by omega)] at this
                rw [reach_closed hc this hLm] at hi; cases hi
              · exact hval
          · exact hval
        · rw [updO_ne hd, step]
          have hval : slotAt all val (fun k => L k || k == i) s0 m t = slotAt all val L s0 m t := by rw [ih.2 (by omega), updO_ne hd]
          rw [hval]

end Go.LM
