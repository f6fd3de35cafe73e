import Derived.Test.YtpmpdidgbbgeeaaLmA
namespace Go.LM

structure HR (base : Nat) (G : Gh) (w : World) (h : H) : Prop where
  size : base ≤ w.heap.size
  lo : h.lob ≤ h.box.length ∧ h.lor ≤ h.row.length ∧ 1 ≤ h.row.length
  prot : ∀ b o, G.prot b o → ∃ v, w.cell? ⟨b, o, none⟩ = some v
  boxAt : ∀ b pb, G.box b = some pb → base ≤ pb ∧ pb < w.heap.size
  boxInj : ∀ b b' pb, G.box b = some pb → G.box b' = some pb → b = b'
  rowAt : ∀ r R, G.row r = some R → r ≠ 0 ∧ base ≤ R.pb ∧ R.pb < w.heap.size ∧ ∀ b, G.box b ≠ some R.pb
  rowInj : ∀ r r' R R', G.row r = some R → G.row r' = some R' → R.pb = R'.pb → r = r'
  box : ∀ b pb B, G.box b = some pb → h.box[b]? = some B → ∃ c ty, w.heap[pb]? = some (.cells c ty (0, 0)) ∧ VRs G w B.cells c.toList ∧
    (B.ro = true → ∀ i, i < c.size → G.prot pb i) ∧ (B.ro = false → ∀ i, ¬ G.prot pb i)
  row : ∀ r R p, G.row r = some R → h.row[r]? = some p → R.pos = p ∧ R.fin ≤ R.cap ∧ ∃ c ty fr, w.heap[R.pb]? = some (.cells c ty fr) ∧ R.cap ≤ c.size ∧
    (∀ o, o < R.cap → (R.fin ≤ o → ¬ G.prot R.pb o) ∧ (fr.1 = fr.2 ∨ o < fr.1))

structure Fr (base : Nat) (G : Gh) (w : World) (h : H) (G' : Gh) (w' : World) (h' : H) : Prop where
  size : w.heap.size ≤ w'.heap.size
  old : ∀ i, i < base → w'.heap[i]? = w.heap[i]?
  lens : h.box.length ≤ h'.box.length ∧ h.row.length ≤ h'.row.length
  lob : h'.lob = h.lob ∧ h'.lor = h.lor
  box : ∀ b pb, G.box b = some pb → (b < h.lob ∨ h'.box.length ≤ b) → w'.heap[pb]? = w.heap[pb]? ∧ ∀ i, G'.prot pb i → G.prot pb i
  row : ∀ r R, G.row r = some R → (r < h.lor ∨ h'.row.length ≤ r) → G'.row r = some R ∧ w'.heap[R.pb]? = w.heap[R.pb]? ∧ ∀ i, G'.prot R.pb i → G.prot R.pb i
  newBox : ∀ b pb, G'.box b = some pb → G.box b = some pb ∨ (h.box.length ≤ b ∧ b < h'.box.length)
  newRow : ∀ r R, G'.row r = some R → (∃ R0, G.row r = some R0) ∨ (h.row.length ≤ r ∧ r < h'.row.length)
  lbox : ∀ b, b < h.lob → h'.box[b]? = h.box[b]?
  lrow : ∀ r, r < h.lor → h'.row[r]? = h.row[r]?

/-- Nothing but the heap turns. -/
structure Sd (w w' : World) : Prop where
  os : w'.os = w.os
  tape : w'.tape = w.tape
  out : w'.output = w.output
theorem Sd.refl (w : World) : Sd w w := ⟨rfl, rfl, rfl⟩
theorem Sd.trans {a b c : World} (h : Sd a b) (k : Sd b c) : Sd a c := ⟨k.os.trans h.os, k.tape.trans h.tape, k.out.trans h.out⟩

structure Step (base : Nat) (G : Gh) (w : World) (h : H) (G' : Gh) (w' : World) (h' : H) : Prop where
  sd : Sd w w'
  ext : Ext G w G' w'
  fr : Fr base G w h G' w' h'
  hr : HR base G' w' h'

structure Fresh (G : Gh) (h : H) (tb tr : Nat) : Prop where
  box : ∀ b, h.box.length ≤ b → b < tb → G.box b = none
  row : ∀ r, h.row.length ≤ r → r < tr → G.row r = none

theorem Fr.refl (base : Nat) (G : Gh) (w : World) (h : H) : Fr base G w h G w h :=
  ⟨Nat.le_refl _, fun _ _ => rfl, ⟨Nat.le_refl _, Nat.le_refl _⟩, ⟨rfl, rfl⟩, fun _ _ _ _ => ⟨rfl, fun _ h => h⟩, fun _ _ h _ => ⟨h, rfl, fun _ h => h⟩,
    fun _ _ h => .inl h, fun _ R h => .inl ⟨R, h⟩, fun _ _ => rfl, fun _ _ => rfl⟩

theorem Step.refl {base : Nat} {G : Gh} {w : World} {h : H} (hr : HR base G w h) : Step base G w h G w h := ⟨.refl _, .refl _ _, .refl _ _ _ _, hr⟩

theorem Fr.trans {base : Nat} {G G1 G2 : Gh} {w w1 w2 : World} {h h1 h2 : H} (hx : Ext G w G1 w1) (a : Fr base G w h G1 w1 h1) (b : Fr base G1 w1 h1 G2 w2 h2) :
    Fr base G w h G2 w2 h2 := by
  refine ⟨Nat.le_trans a.size b.size, fun i hi => (b.old i hi).trans (a.old i hi), ⟨Nat.le_trans a.lens.1 b.lens.1, Nat.le_trans a.lens.2 b.lens.2⟩,
    ⟨b.lob.1.trans a.lob.1, b.lob.2.trans a.lob.2⟩, ?_, ?_, ?_, ?_, ?_, ?_⟩
  · intro x pb hb hc
    have c1 : x < h.lob ∨ h1.box.length ≤ x := by have := b.lens.1; omega
    have c2 : x < h1.lob ∨ h2.box.length ≤ x := by have := a.lob.1; omega
    obtain ⟨e1, p1⟩ := a.box x pb hb c1
    obtain ⟨e2, p2⟩ := b.box x pb (hx.box _ _ hb) c2
    exact ⟨e2.trans e1, fun i hi => p1 i (p2 i hi)⟩
  · intro r R hr hc
    have c1 : r < h.lor ∨ h1.row.length ≤ r := by have := b.lens.2; omega
    have c2 : r < h1.lor ∨ h2.row.length ≤ r := by have := a.lob.2; omega
    obtain ⟨e1, p1, q1⟩ := a.row r R hr c1
    obtain ⟨e2, p2, q2⟩ := b.row r R e1 c2
    exact ⟨e2, p2.trans p1, fun i hi => q1 i (q2 i hi)⟩
  · intro x pb hb
    have := a.lens.1; have := b.lens.1
    rcases b.newBox x pb hb with h3 | h3
    · rcases a.newBox x pb h3 with h4 | h4
      · exact .inl h4
      · exact .inr ⟨h4.1, by omega⟩
    · exact .inr ⟨by omega, h3.2⟩
  · intro r R hr
    have := a.lens.2; have := b.lens.2
    rcases b.newRow r R hr with ⟨R0, h3⟩ | h3
    · rcases a.newRow r R0 h3 with h4 | h4
      · exact .inl h4
      · exact .inr ⟨h4.1, by omega⟩
    · exact .inr ⟨by omega, h3.2⟩
  · intro x hx; exact (b.lbox x (by have := a.lob.1; omega)).trans (a.lbox x hx)
  · intro x hx; exact (b.lrow x (by have := a.lob.2; omega)).trans (a.lrow x hx)

theorem Step.trans {base : Nat} {G G1 G2 : Gh} {w w1 w2 : World} {h h1 h2 : H} (a : Step base G w h G1 w1 h1) (b : Step base G1 w1 h1 G2 w2 h2) :
    Step base G w h G2 w2 h2 := ⟨a.sd.trans b.sd, a.ext.trans b.ext, a.fr.trans a.ext b.fr, b.hr⟩

theorem Fresh.step {base : Nat} {G G' : Gh} {w w' : World} {h h' : H} {tb tr : Nat} (f : Fresh G h tb tr) (s : Step base G w h G' w' h') : Fresh G' h' tb tr := by
  refine ⟨fun b hb ht => ?_, fun r hr ht => ?_⟩
  · cases hg : G'.box b with
    | none => rfl
    | some pb =>
      have := s.fr.lens.1
      rcases s.fr.newBox b pb hg with h1 | h1
      · rw [f.box b (by omega) ht] at h1; cases h1
      · omega
  · cases hg : G'.row r with
    | none => rfl
    | some R =>
      have := s.fr.lens.2
      rcases s.fr.newRow r R hg with ⟨R0, h1⟩ | h1
      · rw [f.row r (by omega) ht] at h1; cases h1
      · omega

/-! ### the world's cells -/
theorem cell_of_heap {w w' : World} {b : Nat} (h : w'.heap[b]? = w.heap[b]?) (o : Nat) : w'.cell? ⟨b, o, none⟩ = w.cell? ⟨b, o, none⟩ := by
  simp only [World.cell?, h]
theorem cell_cells {w : World} {b : Nat} {c : Array Value} {ty : TypeId} {fr : Nat × Nat} (h : w.heap[b]? = some (.cells c ty fr)) (o : Nat) : w.cell? ⟨b, o, none⟩ = c[o]? := by
  simp [World.cell?, h]
theorem cell_lt {w : World} {b o : Nat} {v : Value} (h : w.cell? ⟨b, o, none⟩ = some v) : b < w.heap.size := by
  unfold World.cell? at h
  cases hb : w.heap[b]? with
  | none => simp [hb] at h
  | some x => exact (Array.getElem?_eq_some_iff.1 hb).1

/-- Where all the old blocks stand as they were. -/
theorem Ext.of_heap {G G' : Gh} {w w' : World} (hw : ∀ b o, G.prot b o → w'.heap[b]? = w.heap[b]?) (hp : ∀ b o, G.prot b o → G'.prot b o)
    (hb : ∀ b pb, G.box b = some pb → G'.box b = some pb) (hr : ∀ r R, G.row r = some R → G'.row r = some R) : Ext G w G' w' :=
  ⟨hp, fun b o h => cell_of_heap (hw b o h) o, hb, fun r R h => ⟨R, hr r R h, Nat.le_refl _, fun _ => rfl⟩⟩

/-- A draw, or nothing: the heap as it was. -/
theorem Step.same {base : Nat} {G : Gh} {w w' : World} {h : H} (hw : w'.heap = w.heap) (hsd : Sd w w') (hr : HR base G w h) : Step base G w h G w' h := by
  have hx : Ext G w G w' := .of_heap (fun _ _ _ => by rw [hw]) (fun _ _ h => h) (fun _ _ h => h) (fun _ _ h => h)
  refine ⟨hsd, hx, ⟨by rw [hw]; exact Nat.le_refl _, fun i _ => by rw [hw], ⟨Nat.le_refl _, Nat.le_refl _⟩, ⟨rfl, rfl⟩, fun _ _ _ _ => ⟨by rw [hw], fun _ h => h⟩,
    fun _ _ h _ => ⟨h, by rw [hw], fun _ h => h⟩, fun _ _ h => .inl h, fun _ R h => .inl ⟨R, h⟩, fun _ _ => rfl, fun _ _ => rfl⟩, ?_⟩
  refine ⟨by rw [hw]; exact hr.size, hr.lo, fun b o hp => ?_, by rw [hw]; exact hr.boxAt, hr.boxInj, by rw [hw]; exact hr.rowAt, hr.rowInj, ?_, ?_⟩
  · obtain ⟨v, hv⟩ := hr.prot b o hp; exact ⟨v, (hx.cell b o hp).trans hv⟩
  · intro b pb B h1 h2
    obtain ⟨c, ty, hc, hv, p1, p2⟩ := hr.box b pb B h1 h2
    exact ⟨c, ty, by rw [hw]; exact hc, hv.mono hx, p1, p2⟩
  · intro r R p h1 h2
    rw [hw]; exact hr.row r R p h1 h2

theorem push_old {w w' : World} {o : Obj} (hw : w'.heap = w.heap.push o) {i : Nat} (hi : i < w.heap.size) : w'.heap[i]? = w.heap[i]? := by
  rw [hw, Array.getElem?_push_lt hi, Array.getElem?_eq_getElem hi]
theorem push_new {w w' : World} {o : Obj} (hw : w'.heap = w.heap.push o) : w'.heap[w.heap.size]? = some o := by
  rw [hw]; simp
theorem push_size {w w' : World} {o : Obj} (hw : w'.heap = w.heap.push o) : w'.heap.size = w.heap.size + 1 := by rw [hw]; simp

theorem prot_lt {base : Nat} {G : Gh} {w : World} {h : H} (hr : HR base G w h) {b o : Nat} (hp : G.prot b o) : b < w.heap.size := by
  obtain ⟨v, hv⟩ := hr.prot b o hp; exact cell_lt hv

/-- A new variable. -/
theorem Step.newBox {base : Nat} {G : Gh} {w w' : World} {h : H} {c : Array Value} {ty : TypeId} {cells : List LV} (hw : w'.heap = w.heap.push (.cells c ty (0, 0))) (hsd : Sd w w')
    (hr : HR base G w h) (hf : G.box h.box.length = none) (hv : VRs G w cells c.toList) :
    Step base G w h { G with box := fun b => if b = h.box.length then some w.heap.size else G.box b } w' { h with box := h.box ++ [⟨false, cells⟩] } := by
  have hne : ∀ b pb, G.box b = some pb → b ≠ h.box.length := fun b pb hb e => by rw [e, hf] at hb; cases hb
  have hx : Ext G w { G with box := fun b => if b = h.box.length then some w.heap.size else G.box b } w' := by
    refine .of_heap (fun b o hp => push_old hw (prot_lt hr hp)) (fun _ _ h => h) (fun b pb hb => ?_) (fun _ _ h => h)
    simp [hne b pb hb, hb]
  refine ⟨hsd, hx, ⟨by rw [push_size hw]; omega, fun i hi => push_old hw (by have := hr.size; omega), ⟨by simp, Nat.le_refl _⟩, ⟨rfl, rfl⟩,
    fun b pb hb _ => ⟨push_old hw (hr.boxAt b pb hb).2, fun _ h => h⟩, fun r R h1 _ => ⟨h1, push_old hw (hr.rowAt r R h1).2.2.1, fun _ h => h⟩, ?_, fun _ R h => .inl ⟨R, h⟩, ?_, fun _ _ => rfl⟩, ?_⟩
  · intro b pb hb
    dsimp only at hb
    split at hb
    · rename_i e; exact .inr ⟨by omega, by simp; omega⟩
    · exact .inl hb
  · intro b hb
    have := hr.lo.1
    exact List.getElem?_append_left (by omega)
  refine ⟨by rw [push_size hw]; have := hr.size; omega, ⟨by have := hr.lo.1; simp; omega, hr.lo.2⟩, fun b o hp => ?_, ?_, ?_, ?_, hr.rowInj, ?_, ?_⟩
  · obtain ⟨v, hv⟩ := hr.prot b o hp; exact ⟨v, (hx.cell b o hp).trans hv⟩
  · intro b pb hb
    dsimp only at hb
    split at hb
    · cases hb; exact ⟨hr.size, by rw [push_size hw]; omega⟩
    · have := hr.boxAt b pb hb; exact ⟨this.1, by rw [push_size hw]; omega⟩
  · intro b b' pb h1 h2
    dsimp only at h1 h2
    split at h1 <;> split at h2
    · omega
    · cases h1; have := hr.boxAt _ _ h2; omega
    · cases h2; have := hr.boxAt _ _ h1; omega
    · exact hr.boxInj _ _ _ h1 h2
  · intro r R h1
    have := hr.rowAt r R h1
    refine ⟨this.1, this.2.1, by rw [push_size hw]; omega, fun b hb => ?_⟩
    dsimp only at hb
    split at hb
    · have := Option.some.inj hb; omega
    · exact this.2.2.2 b hb
  · intro b pb B h1 h2
    dsimp only at h1 h2
    split at h1
    · rename_i e; cases h1
      subst e
      rw [List.getElem?_append_right (Nat.le_refl _)] at h2
      simp at h2; subst h2
      refine ⟨c, ty, push_new hw, hv.mono hx, fun h => (by cases h), fun _ i hp => ?_⟩
      have := prot_lt hr hp; omega
    · have hlt : b < h.box.length := by
        obtain ⟨hlt, _⟩ := List.getElem?_eq_some_iff.1 h2
        simp at hlt; omega
      rw [List.getElem?_append_left hlt] at h2
      obtain ⟨c1, ty1, hc, hv1, p1, p2⟩ := hr.box b pb B h1 h2
      exact ⟨c1, ty1, (push_old hw (hr.boxAt b pb h1).2).trans hc, hv1.mono hx, p1, p2⟩
  · intro r R p h1 h2
    obtain ⟨e, l, c1, ty1, fr, hc, hcap, ho⟩ := hr.row r R p h1 h2
    exact ⟨e, l, c1, ty1, fr, (push_old hw (hr.rowAt r R h1).2.2.1).trans hc, hcap, ho⟩

/-- A new row, the cells of which are what they are from now on. -/
theorem Step.newRow {base : Nat} {G : Gh} {w w' : World} {h : H} {c : Array Value} {ty : TypeId} {fr : Nat × Nat} {pos fin cap : Nat} (hw : w'.heap = w.heap.push (.cells c ty fr)) (hsd : Sd w w')
    (hr : HR base G w h) (hf : G.row h.row.length = none) (h1 : fin ≤ cap) (h2 : cap ≤ c.size) (hfr : ∀ o, o < cap → (fr.1 = fr.2 ∨ o < fr.1)) :
    Step base G w h { G with row := fun r => if r = h.row.length then some ⟨w.heap.size, pos, fin, cap⟩ else G.row r, prot := fun b o => G.prot b o ∨ (b = w.heap.size ∧ o < fin) } w'
      { h with row := h.row ++ [pos] } := by
  have hne : ∀ r R, G.row r = some R → r ≠ h.row.length := fun b pb hb e => by rw [e, hf] at hb; cases hb
  have hx : Ext G w { G with row := fun r => if r = h.row.length then some ⟨w.heap.size, pos, fin, cap⟩ else G.row r, prot := fun b o => G.prot b o ∨ (b = w.heap.size ∧ o < fin) } w' := by
    refine .of_heap (fun b o hp => push_old hw (prot_lt hr hp)) (fun _ _ h => .inl h) (fun _ _ h => h) (fun r R hb => ?_)
    simp [hne r R hb, hb]
  have hlo := hr.lo
  have hnp : ∀ i, i < w.heap.size → ∀ o, (G.prot i o ∨ (i = w.heap.size ∧ o < fin)) → G.prot i o := fun i hi o h => h.resolve_right (by omega)
  refine ⟨hsd, hx, ⟨by rw [push_size hw]; omega, fun i hi => push_old hw (by have := hr.size; omega), ⟨Nat.le_refl _, by simp⟩, ⟨rfl, rfl⟩,
    fun b pb hb _ => ⟨push_old hw (hr.boxAt b pb hb).2, hnp _ (hr.boxAt b pb hb).2⟩,
    fun r R h1 _ => ⟨by simp [hne r R h1, h1], push_old hw (hr.rowAt r R h1).2.2.1, hnp _ (hr.rowAt r R h1).2.2.1⟩, fun _ _ h => .inl h, ?_, fun _ _ => rfl, ?_⟩, ?_⟩
  · intro r R hb
    dsimp only at hb
    split at hb
    · rename_i e; exact .inr ⟨by omega, by simp; omega⟩
    · exact .inl ⟨R, hb⟩
  · intro b hb
    exact List.getElem?_append_left (by omega)
  refine ⟨by rw [push_size hw]; have := hr.size; omega, ⟨hlo.1, by simp; omega, by simp⟩, fun b o hp => ?_, ?_, hr.boxInj, ?_, ?_, ?_, ?_⟩
  · rcases hp with hp | ⟨rfl, hp⟩
    · obtain ⟨v, hv⟩ := hr.prot b o hp; exact ⟨v, (hx.cell b o hp).trans hv⟩
    · refine ⟨c[o]'(by omega), ?_⟩
      rw [cell_cells (push_new hw)]; exact Array.getElem?_eq_getElem _
  · intro b pb hb
    have := hr.boxAt b pb hb; exact ⟨this.1, by rw [push_size hw]; omega⟩
  · intro r R h3
    dsimp only at h3
    split at h3
    · rename_i e; cases h3
      refine ⟨by omega, hr.size, by show w.heap.size < _; rw [push_size hw]; omega, fun b hb => ?_⟩
      have := hr.boxAt b _ hb; dsimp only at this; omega
    · have := hr.rowAt r R h3
      exact ⟨this.1, this.2.1, by rw [push_size hw]; omega, this.2.2.2⟩
  · intro r r' R R' h3 h4 he
    dsimp only at h3 h4
    split at h3 <;> split at h4
    · omega
    · cases h3; have := hr.rowAt _ _ h4; dsimp only at he; omega
    · cases h4; have := hr.rowAt _ _ h3; dsimp only at he; omega
    · exact hr.rowInj _ _ _ _ h3 h4 he
  · intro b pb B h3 h4
    obtain ⟨c1, ty1, hc, hv1, p1, p2⟩ := hr.box b pb B h3 h4
    have hlt := (hr.boxAt b pb h3).2
    exact ⟨c1, ty1, (push_old hw hlt).trans hc, hv1.mono hx, fun h i hi => .inl (p1 h i hi), fun h i hp => p2 h i (hnp _ hlt _ hp)⟩
  · intro r R p h3 h4
    dsimp only at h3 h4
    split at h3
    · rename_i e; cases h3; subst e
      rw [List.getElem?_append_right (Nat.le_refl _)] at h4
      simp at h4; subst h4
      refine ⟨rfl, h1, c, ty, fr, push_new hw, h2, fun o h6 => ⟨fun h5 => ?_, hfr o h6⟩⟩
      rintro (hp | ⟨_, hp⟩)
      · have := prot_lt hr hp; dsimp only at this; omega
      · dsimp only at h5; omega
    · have hlt : r < h.row.length := by
        obtain ⟨hlt, _⟩ := List.getElem?_eq_some_iff.1 h4
        simp at hlt; omega
      rw [List.getElem?_append_left hlt] at h4
      obtain ⟨e, l, c1, ty1, fr1, hc, hcap, ho⟩ := hr.row r R p h3 h4
      have hlt2 := (hr.rowAt r R h3).2.2.1
      exact ⟨e, l, c1, ty1, fr1, (push_old hw hlt2).trans hc, hcap, fun o b => ⟨fun a hp => (ho o b).1 a (hnp _ hlt2 _ hp), (ho o b).2⟩⟩

end Go.LM
