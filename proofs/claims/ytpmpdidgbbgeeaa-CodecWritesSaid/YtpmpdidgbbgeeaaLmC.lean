import Derived.Test.YtpmpdidgbbgeeaaLmB
namespace Go.LM

/-- A row that is filled further, in a new block. -/
theorem Step.growNew {base : Nat} {G : Gh} {w w' : World} {h : H} {r : Nat} {R : Row} {c : Array Value} {ty : TypeId} {fr : Nat × Nat} {pos fin cap : Nat}
    (hw : w'.heap = w.heap.push (.cells c ty fr)) (hsd : Sd w w') (hr : HR base G w h) (hR : G.row r = some R) (hp : h.row[r]? = some R.pos) (hlo : h.lor ≤ r)
    (hpos : R.pos < pos) (h1 : fin ≤ cap) (h2 : cap ≤ c.size) (hfr : ∀ o, o < cap → (fr.1 = fr.2 ∨ o < fr.1)) :
    Step base G w h { G with row := fun q => if q = r then some ⟨w.heap.size, pos, fin, cap⟩ else G.row q, prot := fun b o => G.prot b o ∨ (b = w.heap.size ∧ o < fin) } w'
      { h with row := h.row.set r pos } := by
  have hrl : r < h.row.length := (List.getElem?_eq_some_iff.1 hp).1
  have hl := hr.lo
  have hx : Ext G w { G with row := fun q => if q = r then some ⟨w.heap.size, pos, fin, cap⟩ else G.row q, prot := fun b o => G.prot b o ∨ (b = w.heap.size ∧ o < fin) } w' := by
    refine ⟨fun _ _ h => .inl h, fun b o hp => cell_of_heap (push_old hw (prot_lt hr hp)) o, fun _ _ h => h, fun q Q hq => ?_⟩
    dsimp only
    split
    · rename_i e; subst e; rw [hR] at hq; cases hq; exact ⟨_, rfl, by dsimp only; omega, fun e => by dsimp only at e; omega⟩
    · exact ⟨Q, hq, Nat.le_refl _, fun _ => rfl⟩
  have hnp : ∀ i, i < w.heap.size → ∀ o, (G.prot i o ∨ (i = w.heap.size ∧ o < fin)) → G.prot i o := fun i hi o h => h.resolve_right (by omega)
  refine ⟨hsd, hx, ⟨by rw [push_size hw]; omega, fun i hi => push_old hw (by have := hr.size; omega), ⟨Nat.le_refl _, by simp⟩, ⟨rfl, rfl⟩,
    fun b pb hb _ => ⟨push_old hw (hr.boxAt b pb hb).2, hnp _ (hr.boxAt b pb hb).2⟩, ?_, fun _ _ h => .inl h, ?_, fun _ _ => rfl, ?_⟩, ?_⟩
  · intro q Q hq hc
    have hne : q ≠ r := by simp at hc; omega
    exact ⟨by simp [hne, hq], push_old hw (hr.rowAt q Q hq).2.2.1, hnp _ (hr.rowAt q Q hq).2.2.1⟩
  · intro q Q hq
    dsimp only at hq
    split at hq
    · rename_i e; subst e; exact .inl ⟨R, hR⟩
    · exact .inl ⟨Q, hq⟩
  · intro q hq
    exact List.getElem?_set_ne (by omega)
  refine ⟨by rw [push_size hw]; have := hr.size; omega, ⟨hl.1, by simp; omega, by simp; omega⟩, fun b o hp => ?_, ?_, hr.boxInj, ?_, ?_, ?_, ?_⟩
  · rcases hp with hp | ⟨rfl, hp⟩
    · obtain ⟨v, hv⟩ := hr.prot b o hp; exact ⟨v, (hx.cell b o hp).trans hv⟩
    · refine ⟨c[o]'(by omega), ?_⟩
      rw [cell_cells (push_new hw)]; exact Array.getElem?_eq_getElem _
  · intro b pb hb
    have := hr.boxAt b pb hb; exact ⟨this.1, by rw [push_size hw]; omega⟩
  · intro q Q h3
    dsimp only at h3
    split at h3
    · rename_i e; cases h3; subst e
      refine ⟨(hr.rowAt _ R hR).1, hr.size, by show w.heap.size < _; rw [push_size hw]; omega, fun b hb => ?_⟩
      have := hr.boxAt b _ hb; dsimp only at this; omega
    · have := hr.rowAt q Q h3
      exact ⟨this.1, this.2.1, by rw [push_size hw]; omega, this.2.2.2⟩
  · intro q q' Q Q' h3 h4 he
    dsimp only at h3 h4
    split at h3 <;> split at h4
    · omega
    · cases h3; have := hr.rowAt _ _ h4; dsimp only at he; omega
    · cases h4; have := hr.rowAt _ _ h3; dsimp only at he; omega
    · exact hr.rowInj _ _ _ _ h3 h4 he
  · intro b pb B h3 h4
    obtain ⟨c1, ty1, hc, hv1, p1, p2⟩ := hr.box b pb B h3 h4
    have hlt := (hr.boxAt b pb h3).2
    exact ⟨c1, ty1, (push_old hw hlt).trans hc, hv1.mono hx, fun h i hi => .inl (p1 h i hi), fun h i hp => p2 h i (hnp _ hlt _ hp)⟩
  · intro q Q p h3 h4
    dsimp only at h3 h4
    split at h3
    · rename_i e; cases h3; subst e
      rw [List.getElem?_set_self hrl] at h4
      cases h4
      refine ⟨rfl, h1, c, ty, fr, push_new hw, h2, fun o h6 => ⟨fun h5 => ?_, hfr o h6⟩⟩
      rintro (hp | ⟨_, hp⟩)
      · have := prot_lt hr hp; dsimp only at this; omega
      · dsimp only at h5; omega
    · rename_i hne
      rw [List.getElem?_set_ne (by omega)] at h4
      obtain ⟨e, l, c1, ty1, fr1, hc, hcap, ho⟩ := hr.row q Q p h3 h4
      have hlt2 := (hr.rowAt q Q h3).2.2.1
      exact ⟨e, l, c1, ty1, fr1, (push_old hw hlt2).trans hc, hcap, fun o b => ⟨fun a hp => (ho o b).1 a (hnp _ hlt2 _ hp), (ho o b).2⟩⟩

/-- A row that is filled further, where it lies. -/
theorem Step.growHere {base : Nat} {G : Gh} {w w' : World} {h : H} {r : Nat} {R : Row} {c c' : Array Value} {ty : TypeId} {fr : Nat × Nat} {pos m : Nat}
    (hsd : Sd w w') (hs : w'.heap.size = w.heap.size) (hw : ∀ i, i ≠ R.pb → w'.heap[i]? = w.heap[i]?) (hc0 : w.heap[R.pb]? = some (.cells c ty fr)) (hc1 : w'.heap[R.pb]? = some (.cells c' ty fr))
    (hcs : c'.size = c.size) (hcc : ∀ i, (i < R.fin ∨ R.fin + m ≤ i) → c'[i]? = c[i]?)
    (hr : HR base G w h) (hR : G.row r = some R) (hp : h.row[r]? = some R.pos) (hlo : h.lor ≤ r) (hpos : R.pos < pos) (h1 : R.fin + m ≤ R.cap) :
    Step base G w h { G with row := fun q => if q = r then some ⟨R.pb, pos, R.fin + m, R.cap⟩ else G.row q, prot := fun b o => G.prot b o ∨ (b = R.pb ∧ R.fin ≤ o ∧ o < R.fin + m) } w'
      { h with row := h.row.set r pos } := by
  have hrl : r < h.row.length := (List.getElem?_eq_some_iff.1 hp).1
  have hl := hr.lo
  obtain ⟨_, hle, cx, tyx, frx, hcx, hcap, hun⟩ := hr.row r R R.pos hR hp
  rw [hc0] at hcx; cases hcx
  have hra := hr.rowAt r R hR
  have hcell : ∀ b o, G.prot b o → w'.cell? ⟨b, o, none⟩ = w.cell? ⟨b, o, none⟩ := by
    intro b o hpr
    by_cases hb : b = R.pb
    · subst hb
      rw [cell_cells hc0, cell_cells hc1]
      refine hcc o ?_
      rcases Nat.lt_or_ge o R.fin with h3 | h3
      · exact .inl h3
      · rcases Nat.lt_or_ge o R.cap with h4 | h4
        · exact absurd hpr ((hun o h4).1 h3)
        · exact .inr (by omega)
    · exact cell_of_heap (hw b hb) o
  have hx : Ext G w { G with row := fun q => if q = r then some ⟨R.pb, pos, R.fin + m, R.cap⟩ else G.row q, prot := fun b o => G.prot b o ∨ (b = R.pb ∧ R.fin ≤ o ∧ o < R.fin + m) } w' := by
    refine ⟨fun _ _ h => .inl h, hcell, fun _ _ h => h, fun q Q hq => ?_⟩
    dsimp only
    split
    · rename_i e; subst e; rw [hR] at hq; cases hq; exact ⟨_, rfl, by dsimp only; omega, fun e => by dsimp only at e; omega⟩
    · exact ⟨Q, hq, Nat.le_refl _, fun _ => rfl⟩
  have hnp : ∀ i, i ≠ R.pb → ∀ o, (G.prot i o ∨ (i = R.pb ∧ R.fin ≤ o ∧ o < R.fin + m)) → G.prot i o := fun i hi o h => h.resolve_right (fun h => hi h.1)
  have hbn : ∀ b pb, G.box b = some pb → pb ≠ R.pb := fun b pb hb e => hra.2.2.2 b (e ▸ hb)
  have hqn : ∀ q Q, q ≠ r → G.row q = some Q → Q.pb ≠ R.pb := fun q Q hne hq e => hne (hr.rowInj _ _ _ _ hq hR e)
  refine ⟨hsd, hx, ⟨by omega, fun i hi => hw i (by omega), ⟨Nat.le_refl _, by simp⟩, ⟨rfl, rfl⟩,
    fun b pb hb _ => ⟨hw _ (hbn b pb hb), hnp _ (hbn b pb hb)⟩, ?_, fun _ _ h => .inl h, ?_, fun _ _ => rfl, ?_⟩, ?_⟩
  · intro q Q hq hc
    have hne : q ≠ r := by simp at hc; omega
    exact ⟨by simp [hne, hq], hw _ (hqn q Q hne hq), hnp _ (hqn q Q hne hq)⟩
  · intro q Q hq
    dsimp only at hq
    split at hq
    · rename_i e; subst e; exact .inl ⟨R, hR⟩
    · exact .inl ⟨Q, hq⟩
  · intro q hq
    exact List.getElem?_set_ne (by omega)
  refine ⟨by have := hr.size; omega, ⟨hl.1, by simp; omega, by simp; omega⟩, fun b o hp => ?_, ?_, hr.boxInj, ?_, ?_, ?_, ?_⟩
  · rcases hp with hp | ⟨rfl, hp1, hp2⟩
    · obtain ⟨v, hv⟩ := hr.prot b o hp; exact ⟨v, (hx.cell b o hp).trans hv⟩
    · refine ⟨c'[o]'(by omega), ?_⟩
      rw [cell_cells hc1]; exact Array.getElem?_eq_getElem _
  · intro b pb hb
    have := hr.boxAt b pb hb; exact ⟨this.1, by omega⟩
  · intro q Q h3
    dsimp only at h3
    split at h3
    · rename_i e; cases h3; subst e
      exact ⟨hra.1, hra.2.1, by dsimp only; omega, hra.2.2.2⟩
    · have := hr.rowAt q Q h3
      exact ⟨this.1, this.2.1, by omega, this.2.2.2⟩
  · intro q q' Q Q' h3 h4 he
    dsimp only at h3 h4
    split at h3 <;> split at h4
    · omega
    · rename_i e1 e2; cases h3; exact absurd he.symm (hqn _ _ e2 h4)
    · rename_i e1 e2; cases h4; exact absurd he (hqn _ _ e1 h3)
    · exact hr.rowInj _ _ _ _ h3 h4 he
  · intro b pb B h3 h4
    obtain ⟨c1, ty1, hc, hv1, p1, p2⟩ := hr.box b pb B h3 h4
    have hne := hbn b pb h3
    exact ⟨c1, ty1, (hw _ hne).trans hc, hv1.mono hx, fun h i hi => .inl (p1 h i hi), fun h i hp => p2 h i (hnp _ hne _ hp)⟩
  · intro q Q p h3 h4
    dsimp only at h3 h4
    split at h3
    · rename_i e; cases h3; subst e
      rw [List.getElem?_set_self hrl] at h4
      cases h4
      refine ⟨rfl, h1, c', ty, fr, hc1, by dsimp only; omega, fun o h6 => ⟨fun h5 => ?_, ?_⟩⟩
      · rintro (hp | ⟨_, hp⟩)
        · exact (hun o h6).1 (by dsimp only at h5; omega) hp
        · dsimp only at h5; omega
      · exact (hun o h6).2
    · rename_i hne
      rw [List.getElem?_set_ne (by omega)] at h4
      obtain ⟨e, l, c1, ty1, fr1, hc, hcap, ho⟩ := hr.row q Q p h3 h4
      have hne2 := hqn q Q hne h3
      exact ⟨e, l, c1, ty1, fr1, (hw _ hne2).trans hc, hcap, fun o b => ⟨fun a hp => (ho o b).1 a (hnp _ hne2 _ hp), (ho o b).2⟩⟩

/-- A mark behind the last place of a row: none of its places. -/
theorem Step.mark {base : Nat} {G : Gh} {w w' : World} {h : H} {r : Nat} {R : Row} {c : Array Value} {ty : TypeId} {fr fr' : Nat × Nat}
    (hsd : Sd w w') (hs : w'.heap.size = w.heap.size) (hw : ∀ i, i ≠ R.pb → w'.heap[i]? = w.heap[i]?) (hc0 : w.heap[R.pb]? = some (.cells c ty fr)) (hc1 : w'.heap[R.pb]? = some (.cells c ty fr'))
    (hr : HR base G w h) (hR : G.row r = some R) (hp : h.row[r]? = some R.pos) (hlo : h.lor ≤ r) (hfr : ∀ o, o < R.cap → (fr'.1 = fr'.2 ∨ o < fr'.1)) :
    Step base G w h G w' h := by
  have hrl : r < h.row.length := (List.getElem?_eq_some_iff.1 hp).1
  have hra := hr.rowAt r R hR
  have hcell : ∀ b o, w'.cell? ⟨b, o, none⟩ = w.cell? ⟨b, o, none⟩ := by
    intro b o
    by_cases hb : b = R.pb
    · subst hb; rw [cell_cells hc0, cell_cells hc1]
    · exact cell_of_heap (hw b hb) o
  have hx : Ext G w G w' := ⟨fun _ _ h => h, fun b o _ => hcell b o, fun _ _ h => h, fun q Q hq => ⟨Q, hq, Nat.le_refl _, fun _ => rfl⟩⟩
  have hbn : ∀ b pb, G.box b = some pb → pb ≠ R.pb := fun b pb hb e => hra.2.2.2 b (e ▸ hb)
  have hqn : ∀ q Q, q ≠ r → G.row q = some Q → Q.pb ≠ R.pb := fun q Q hne hq e => hne (hr.rowInj _ _ _ _ hq hR e)
  refine ⟨hsd, hx, ⟨by omega, fun i hi => hw i (by omega), ⟨Nat.le_refl _, Nat.le_refl _⟩, ⟨rfl, rfl⟩,
    fun b pb hb _ => ⟨hw _ (hbn b pb hb), fun _ h => h⟩, ?_, fun _ _ h => .inl h, fun _ Q hq => .inl ⟨Q, hq⟩, fun _ _ => rfl, fun _ _ => rfl⟩, ?_⟩
  · intro q Q hq hc
    have hne : q ≠ r := by rintro rfl; omega
    exact ⟨hq, hw _ (hqn q Q hne hq), fun _ h => h⟩
  refine ⟨by have := hr.size; omega, hr.lo, fun b o hp => ?_, ?_, hr.boxInj, ?_, hr.rowInj, ?_, ?_⟩
  · obtain ⟨v, hv⟩ := hr.prot b o hp; exact ⟨v, (hx.cell b o hp).trans hv⟩
  · intro b pb hb
    have := hr.boxAt b pb hb; exact ⟨this.1, by omega⟩
  · intro q Q h3
    have := hr.rowAt q Q h3
    exact ⟨this.1, this.2.1, by omega, this.2.2.2⟩
  · intro b pb B h3 h4
    obtain ⟨c1, ty1, hc, hv1, p1, p2⟩ := hr.box b pb B h3 h4
    exact ⟨c1, ty1, (hw _ (hbn b pb h3)).trans hc, hv1.mono hx, p1, p2⟩
  · intro q Q p h3 h4
    obtain ⟨e, l, c1, ty1, fr1, hc, hcap, ho⟩ := hr.row q Q p h3 h4
    by_cases hq : q = r
    · subst hq
      rw [hR] at h3; cases h3
      rw [hc0] at hc; cases hc
      exact ⟨e, l, c, ty, fr', hc1, hcap, fun o b => ⟨(ho o b).1, hfr o b⟩⟩
    · exact ⟨e, l, c1, ty1, fr1, (hw _ (hqn q Q hq h3)).trans hc, hcap, ho⟩

/-- A store into a variable. -/
theorem Step.store {base : Nat} {G : Gh} {w w' : World} {h : H} {b pb : Nat} {B : Box} {c' : Array Value} {ty : TypeId} {cells : List LV}
    (hsd : Sd w w') (hs : w'.heap.size = w.heap.size) (hw : ∀ i, i ≠ pb → w'.heap[i]? = w.heap[i]?) (hc1 : w'.heap[pb]? = some (.cells c' ty (0, 0)))
    (hr : HR base G w h) (hb : G.box b = some pb) (hB : h.box[b]? = some B) (hro : B.ro = false) (hlo : h.lob ≤ b) (hv : VRs G w cells c'.toList) :
    Step base G w h G w' { h with box := h.box.set b ⟨false, cells⟩ } := by
  have hbl : b < h.box.length := (List.getElem?_eq_some_iff.1 hB).1
  have hl := hr.lo
  obtain ⟨c, tyx, hcx, hvx, _, hnp⟩ := hr.box b pb B hb hB
  have hnp := hnp hro
  have hba := hr.boxAt b pb hb
  have hcell : ∀ b o, G.prot b o → w'.cell? ⟨b, o, none⟩ = w.cell? ⟨b, o, none⟩ := by
    intro b2 o hpr
    by_cases hb2 : b2 = pb
    · subst hb2; exact absurd hpr (hnp o)
    · exact cell_of_heap (hw b2 hb2) o
  have hx : Ext G w G w' := ⟨fun _ _ h => h, hcell, fun _ _ h => h, fun q Q hq => ⟨Q, hq, Nat.le_refl _, fun _ => rfl⟩⟩
  have hbn : ∀ b2 pb2, b2 ≠ b → G.box b2 = some pb2 → pb2 ≠ pb := fun b2 pb2 hne hb2 e => hne (hr.boxInj _ _ _ (e ▸ hb2) hb)
  have hqn : ∀ q Q, G.row q = some Q → Q.pb ≠ pb := fun q Q hq e => (hr.rowAt q Q hq).2.2.2 b (e ▸ hb)
  refine ⟨hsd, hx, ⟨by omega, fun i hi => hw i (by omega), ⟨by simp, Nat.le_refl _⟩, ⟨rfl, rfl⟩, ?_,
    fun q Q hq _ => ⟨hq, hw _ (hqn q Q hq), fun _ h => h⟩, fun _ _ h => .inl h, fun _ Q hq => .inl ⟨Q, hq⟩, ?_, fun _ _ => rfl⟩, ?_⟩
  · intro b2 pb2 h2 hc
    have hne : b2 ≠ b := by simp at hc; omega
    exact ⟨hw _ (hbn b2 pb2 hne h2), fun _ h => h⟩
  · intro q hq
    exact List.getElem?_set_ne (by omega)
  refine ⟨by have := hr.size; omega, ⟨by simp; omega, hl.2⟩, fun b o hp => ?_, ?_, hr.boxInj, ?_, hr.rowInj, ?_, ?_⟩
  · obtain ⟨v, hv⟩ := hr.prot b o hp; exact ⟨v, (hx.cell b o hp).trans hv⟩
  · intro b pb hb
    have := hr.boxAt b pb hb; exact ⟨this.1, by omega⟩
  · intro q Q h3
    have := hr.rowAt q Q h3
    exact ⟨this.1, this.2.1, by omega, this.2.2.2⟩
  · intro b2 pb2 B2 h3 h4
    by_cases hne : b2 = b
    · subst hne
      rw [hb] at h3; cases h3
      dsimp only at h4
      rw [List.getElem?_set_self hbl] at h4; cases h4
      exact ⟨c', ty, hc1, hv.mono hx, fun h => (by cases h), fun _ => hnp⟩
    · dsimp only at h4
      rw [List.getElem?_set_ne (by omega)] at h4
      obtain ⟨c1, ty1, hc, hv1, p1, p2⟩ := hr.box b2 pb2 B2 h3 h4
      exact ⟨c1, ty1, (hw _ (hbn b2 pb2 hne h3)).trans hc, hv1.mono hx, p1, p2⟩
  · intro q Q p h3 h4
    obtain ⟨e, l, c1, ty1, fr1, hc, hcap, ho⟩ := hr.row q Q p h3 h4
    exact ⟨e, l, c1, ty1, fr1, (hw _ (hqn q Q h3)).trans hc, hcap, ho⟩

/-- A variable that is only read from now on. -/
theorem Step.freeze {base : Nat} {G : Gh} {w : World} {h : H} {b pb : Nat} {B : Box}
    (hr : HR base G w h) (hb : G.box b = some pb) (hB : h.box[b]? = some B) (hlo : h.lob ≤ b) :
    Step base G w h { G with prot := fun q o => G.prot q o ∨ (q = pb ∧ o < B.cells.length) } w { h with box := h.box.set b ⟨true, B.cells⟩ } := by
  have hbl : b < h.box.length := (List.getElem?_eq_some_iff.1 hB).1
  have hl := hr.lo
  obtain ⟨c, ty, hc0, hv0, _, _⟩ := hr.box b pb B hb hB
  have hlen : B.cells.length = c.size := by simpa using hv0.1
  have hba := hr.boxAt b pb hb
  have hx : Ext G w { G with prot := fun q o => G.prot q o ∨ (q = pb ∧ o < B.cells.length) } w :=
    ⟨fun _ _ h => .inl h, fun _ _ _ => rfl, fun _ _ h => h, fun q Q hq => ⟨Q, hq, Nat.le_refl _, fun _ => rfl⟩⟩
  have hbn : ∀ b2 pb2, b2 ≠ b → G.box b2 = some pb2 → pb2 ≠ pb := fun b2 pb2 hne hb2 e => hne (hr.boxInj _ _ _ (e ▸ hb2) hb)
  have hqn : ∀ q Q, G.row q = some Q → Q.pb ≠ pb := fun q Q hq e => (hr.rowAt q Q hq).2.2.2 b (e ▸ hb)
  have hnp : ∀ i, i ≠ pb → ∀ o, (G.prot i o ∨ (i = pb ∧ o < B.cells.length)) → G.prot i o := fun i hi o h => h.resolve_right (fun h => hi h.1)
  refine ⟨.refl _, hx, ⟨Nat.le_refl _, fun i hi => rfl, ⟨by simp, Nat.le_refl _⟩, ⟨rfl, rfl⟩, ?_,
    fun q Q hq _ => ⟨hq, rfl, hnp _ (hqn q Q hq)⟩, fun _ _ h => .inl h, fun _ Q hq => .inl ⟨Q, hq⟩, ?_, fun _ _ => rfl⟩, ?_⟩
  · intro b2 pb2 h2 hc
    have hne : b2 ≠ b := by simp at hc; omega
    exact ⟨rfl, hnp _ (hbn b2 pb2 hne h2)⟩
  · intro q hq
    exact List.getElem?_set_ne (by omega)
  refine ⟨hr.size, ⟨by simp; omega, hl.2⟩, fun b o hp => ?_, hr.boxAt, hr.boxInj, hr.rowAt, hr.rowInj, ?_, ?_⟩
  · rcases hp with hp | ⟨rfl, hp⟩
    · exact hr.prot b o hp
    · exact ⟨c[o]'(by omega), by rw [cell_cells hc0]; exact Array.getElem?_eq_getElem _⟩
  · intro b2 pb2 B2 h3 h4
    by_cases hne : b2 = b
    · subst hne
      dsimp only at h3
      rw [hb] at h3; cases h3
      dsimp only at h4
      rw [List.getElem?_set_self hbl] at h4; cases h4
      exact ⟨c, ty, hc0, hv0.mono hx, fun _ i hi => .inr ⟨rfl, by omega⟩, fun h => (by cases h)⟩
    · dsimp only at h4
      rw [List.getElem?_set_ne (by omega)] at h4
      obtain ⟨c1, ty1, hc, hv1, p1, p2⟩ := hr.box b2 pb2 B2 h3 h4
      exact ⟨c1, ty1, hc, hv1.mono hx, fun h i hi => .inl (p1 h i hi), fun h i hp => p2 h i (hnp _ (hbn b2 pb2 hne h3) _ hp)⟩
  · intro q Q p h3 h4
    obtain ⟨e, l, c1, ty1, fr1, hc, hcap, ho⟩ := hr.row q Q p h3 h4
    exact ⟨e, l, c1, ty1, fr1, hc, hcap, fun o b => ⟨fun a hp => (ho o b).1 a (hnp _ (hqn q Q h3) _ hp), (ho o b).2⟩⟩

end Go.LM
