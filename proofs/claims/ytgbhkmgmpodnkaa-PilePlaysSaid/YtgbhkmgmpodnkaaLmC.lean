import Derived.Test.YtgbhkmgmpodnkaaLmA
namespace Go.LM

/-- A row that is filled further, in a new block. -/
theorem Step.growNew {base : Nat} {G : Gh} {w w' : World} {h : H} {r : Nat} {R : Row} {c : Array Value} {ty : TypeId} {fr : Nat × Nat} {pos fin cap : Nat}
    (hw : w'.heap = w.heap.push (.cells c ty fr)) (hsd : Sd w w') (hr : HR base G w h) (hR : G.row r = some R) (hp : h.row[r]? = some R.pos) (hlo : h.lor ≤ r)
    (hpos : R.pos < pos) (h1 : fin ≤ cap) (h2 : cap ≤ c.size) (hfr : ∀ o, o < cap → (fr.1 = fr.2 ∨ o < fr.1)) :
    Step base G w h { G with row := fun q => if q = r then some ⟨w.heap.size, pos, fin, cap⟩ else G.row q, prot := fun b o => G.prot b o ∨ (b = w.heap.size ∧ o < fin) } w'
      { h with row := h.row.set r pos } := by
  have hrl : r < h.row.length := (List.getElem?_eq_some_iff.1 hp).1
  have hl := hr.lo
  have hx : Ext G w { G with row := fun q => if q = r then some ⟨w.heap.size, pos, fin, cap⟩ else G.row q, prot := fun b o => G.prot b o ∨ (b = w.heap.size ∧ o < fin) } w' := by
    refine ⟨fun _ _ h => .inl h, fun b o hp => cell_of_heap (push_old hw (prot_lt hr hp)) o, fun _ _ h => h, fun q Q hq => ?_, fun _ h => h, fun _ _ _ h => h⟩
    dsimp only
    split
    · rename_i e; subst e; rw [hR] at hq; cases hq; exact ⟨_, rfl, by dsimp only; omega, fun e => by dsimp only at e; omega⟩
    · exact ⟨Q, hq, Nat.le_refl _, fun _ => rfl⟩
  have hnp : ∀ i, i < w.heap.size → ∀ o, (G.prot i o ∨ (i = w.heap.size ∧ o < fin)) → G.prot i o := fun i hi o h => h.resolve_right (by omega)
  refine ⟨hsd, hx, ⟨by rw [push_size hw]; omega, fun i hi => push_old hw (by have := hr.size; omega), ⟨Nat.le_refl _, by simp⟩, ⟨rfl, rfl⟩,
    fun b pb hb _ => ⟨push_old hw (hr.boxAt b pb hb).2, hnp _ (hr.boxAt b pb hb).2⟩, ?_, fun _ _ h => .inl h, ?_, fun _ _ => rfl, ?_,
    fun m R h _ => ⟨h, push_old hw (hr.mar.fix.at_ m R h).2.2.1⟩, fun _ _ h => .inl h, fun _ h => .inl h⟩, ?_⟩
  · intro q Q hq hc
    have hne : q ≠ r := by simp at hc; omega
    exact ⟨by simp [hne, hq], push_old hw (hr.rowAt q Q hq).2.2.1, hnp _ (hr.rowAt q Q hq).2.2.1⟩
  · intro q Q hq
    dsimp only at hq
    split at hq
    · rename_i e; subst e; exact .inl ⟨R, hR⟩
    · exact .inl ⟨Q, hq⟩
  · intro q hq
    exact List.getElem?_set_ne (by omega)
  refine ⟨by rw [push_size hw]; have := hr.size; omega, ⟨hl.1, by simp; omega, by simp; omega⟩, fun b o hp => ?_, ?_, hr.boxInj, ?_, ?_, ?_, ?_, ?_⟩
  · rcases hp with hp | ⟨rfl, hp⟩
    · obtain ⟨v, hv⟩ := hr.prot b o hp; exact ⟨v, (hx.cell b o hp).trans hv⟩
    · refine ⟨c[o]'(by omega), ?_⟩
      rw [cell_cells (push_new hw)]; exact Array.getElem?_eq_getElem _
  · intro b pb hb
    have := hr.boxAt b pb hb; exact ⟨this.1, by rw [push_size hw]; omega⟩
  · intro q Q h3
    dsimp only at h3
    split at h3
    · rename_i e; cases h3; subst e
      refine ⟨(hr.rowAt _ R hR).1, hr.size, by show w.heap.size < _; rw [push_size hw]; omega, fun b hb => ?_⟩
      have := hr.boxAt b _ hb; dsimp only at this; omega
    · have := hr.rowAt q Q h3
      exact ⟨this.1, this.2.1, by rw [push_size hw]; omega, this.2.2.2⟩
  · intro q q' Q Q' h3 h4 he
    dsimp only at h3 h4
    split at h3 <;> split at h4
    · omega
    · cases h3; have := hr.rowAt _ _ h4; dsimp only at he; omega
    · cases h4; have := hr.rowAt _ _ h3; dsimp only at he; omega
    · exact hr.rowInj _ _ _ _ h3 h4 he
  · intro b pb B h3 h4
    obtain ⟨c1, ty1, hc, hv1, p1, p2⟩ := hr.box b pb B h3 h4
    have hlt := (hr.boxAt b pb h3).2
    exact ⟨c1, ty1, (push_old hw hlt).trans hc, hv1.mono hx, fun h i hi => .inl (p1 h i hi), fun h i hp => p2 h i (hnp _ hlt _ hp)⟩
  · intro q Q p h3 h4
    dsimp only at h3 h4
    split at h3
    · rename_i e; cases h3; subst e
      rw [List.getElem?_set_self hrl] at h4
      cases h4
      refine ⟨rfl, h1, c, ty, fr, push_new hw, h2, fun o h6 => ⟨fun h5 => ?_, hfr o h6⟩⟩
      rintro (hp | ⟨_, hp⟩)
      · have := prot_lt hr hp; dsimp only at this; omega
      · dsimp only at h5; omega
    · rename_i hne
      rw [List.getElem?_set_ne (by omega)] at h4
      obtain ⟨e, l, c1, ty1, fr1, hc, hcap, ho⟩ := hr.row q Q p h3 h4
      have hlt2 := (hr.rowAt q Q h3).2.2.1
      exact ⟨e, l, c1, ty1, fr1, (push_old hw hlt2).trans hc, hcap, fun o b => ⟨fun a hp => (ho o b).1 a (hnp _ hlt2 _ hp), (ho o b).2⟩⟩
  · exact hr.mar.pushRow hw hx (fun r Q hQ => by
      dsimp only at hQ
      split at hQ
      · cases hQ; exact .inr rfl
      · exact .inl hQ) hnp

/-- A row that is filled further, where it lies. -/
theorem Step.growHere {base : Nat} {G : Gh} {w w' : World} {h : H} {r : Nat} {R : Row} {c c' : Array Value} {ty : TypeId} {fr : Nat × Nat} {pos m : Nat}
    (hsd : Sd w w') (hs : w'.heap.size = w.heap.size) (hw : ∀ i, i ≠ R.pb → w'.heap[i]? = w.heap[i]?) (hc0 : w.heap[R.pb]? = some (.cells c ty fr)) (hc1 : w'.heap[R.pb]? = some (.cells c' ty fr))
    (hcs : c'.size = c.size) (hcc : ∀ i, (i < R.fin ∨ R.fin + m ≤ i) → c'[i]? = c[i]?)
    (hr : HR base G w h) (hR : G.row r = some R) (hp : h.row[r]? = some R.pos) (hlo : h.lor ≤ r) (hpos : R.pos < pos) (h1 : R.fin + m ≤ R.cap) :
    Step base G w h { G with row := fun q => if q = r then some ⟨R.pb, pos, R.fin + m, R.cap⟩ else G.row q, prot := fun b o => G.prot b o ∨ (b = R.pb ∧ R.fin ≤ o ∧ o < R.fin + m) } w'
      { h with row := h.row.set r pos } := by
  have hrl : r < h.row.length := (List.getElem?_eq_some_iff.1 hp).1
  have hl := hr.lo
  obtain ⟨_, hle, cx, tyx, frx, hcx, hcap, hun⟩ := hr.row r R R.pos hR hp
  rw [hc0] at hcx; cases hcx
  have hra := hr.rowAt r R hR
  have hcell : ∀ b o, G.prot b o → w'.cell? ⟨b, o, none⟩ = w.cell? ⟨b, o, none⟩ := by
    intro b o hpr
    by_cases hb : b = R.pb
    · subst hb
      rw [cell_cells hc0, cell_cells hc1]
      refine hcc o ?_
      rcases Nat.lt_or_ge o R.fin with h3 | h3
      · exact .inl h3
      · rcases Nat.lt_or_ge o R.cap with h4 | h4
        · exact absurd hpr ((hun o h4).1 h3)
        · exact .inr (by omega)
    · exact cell_of_heap (hw b hb) o
  have hx : Ext G w { G with row := fun q => if q = r then some ⟨R.pb, pos, R.fin + m, R.cap⟩ else G.row q, prot := fun b o => G.prot b o ∨ (b = R.pb ∧ R.fin ≤ o ∧ o < R.fin + m) } w' := by
    refine ⟨fun _ _ h => .inl h, hcell, fun _ _ h => h, fun q Q hq => ?_, fun _ h => h, fun _ _ _ h => h⟩
    dsimp only
    split
    · rename_i e; subst e; rw [hR] at hq; cases hq; exact ⟨_, rfl, by dsimp only; omega, fun e => by dsimp only at e; omega⟩
    · exact ⟨Q, hq, Nat.le_refl _, fun _ => rfl⟩
  have hnp : ∀ i, i ≠ R.pb → ∀ o, (G.prot i o ∨ (i = R.pb ∧ R.fin ≤ o ∧ o < R.fin + m)) → G.prot i o := fun i hi o h => h.resolve_right (fun h => hi h.1)
  have hbn : ∀ b pb, G.box b = some pb → pb ≠ R.pb := fun b pb hb e => hra.2.2.2 b (e ▸ hb)
  have hqn : ∀ q Q, q ≠ r → G.row q = some Q → Q.pb ≠ R.pb := fun q Q hne hq e => hne (hr.rowInj _ _ _ _ hq hR e)
  have hmn : ∀ k K, G.mar k = some K → K.1 ≠ R.pb := fun k K hk e => (hr.mar.fix.at_ k K hk).2.2.2.2.1 r R hR e.symm
  refine ⟨hsd, hx, ⟨by omega, fun i hi => hw i (by omega), ⟨Nat.le_refl _, by simp⟩, ⟨rfl, rfl⟩,
    fun b pb hb _ => ⟨hw _ (hbn b pb hb), hnp _ (hbn b pb hb)⟩, ?_, fun _ _ h => .inl h, ?_, fun _ _ => rfl, ?_, fun m R h _ => ⟨h, hw _ (hmn m R h)⟩, fun _ _ h => .inl h, fun _ h => .inl h⟩, ?_⟩
  · intro q Q hq hc
    have hne : q ≠ r := by simp at hc; omega
    exact ⟨by simp [hne, hq], hw _ (hqn q Q hne hq), hnp _ (hqn q Q hne hq)⟩
  · intro q Q hq
    dsimp only at hq
    split at hq
    · rename_i e; subst e; exact .inl ⟨R, hR⟩
    · exact .inl ⟨Q, hq⟩
  · intro q hq
    exact List.getElem?_set_ne (by omega)
  refine ⟨by have := hr.size; omega, ⟨hl.1, by simp; omega, by simp; omega⟩, fun b o hp => ?_, ?_, hr.boxInj, ?_, ?_, ?_, ?_, ?_⟩
  · rcases hp with hp | ⟨rfl, hp1, hp2⟩
    · obtain ⟨v, hv⟩ := hr.prot b o hp; exact ⟨v, (hx.cell b o hp).trans hv⟩
    · refine ⟨c'[o]'(by omega), ?_⟩
      rw [cell_cells hc1]; exact Array.getElem?_eq_getElem _
  · intro b pb hb
    have := hr.boxAt b pb hb; exact ⟨this.1, by omega⟩
  · intro q Q h3
    dsimp only at h3
    split at h3
    · rename_i e; cases h3; subst e
      exact ⟨hra.1, hra.2.1, by dsimp only; omega, hra.2.2.2⟩
    · have := hr.rowAt q Q h3
      exact ⟨this.1, this.2.1, by omega, this.2.2.2⟩
  · intro q q' Q Q' h3 h4 he
    dsimp only at h3 h4
    split at h3 <;> split at h4
    · omega
    · rename_i e1 e2; cases h3; exact absurd he.symm (hqn _ _ e2 h4)
    · rename_i e1 e2; cases h4; exact absurd he (hqn _ _ e1 h3)
    · exact hr.rowInj _ _ _ _ h3 h4 he
  · intro b pb B h3 h4
    obtain ⟨c1, ty1, hc, hv1, p1, p2⟩ := hr.box b pb B h3 h4
    have hne := hbn b pb h3
    exact ⟨c1, ty1, (hw _ hne).trans hc, hv1.mono hx, fun h i hi => .inl (p1 h i hi), fun h i hp => p2 h i (hnp _ hne _ hp)⟩
  · intro q Q p h3 h4
    dsimp only at h3 h4
    split at h3
    · rename_i e; cases h3; subst e
      rw [List.getElem?_set_self hrl] at h4
      cases h4
      refine ⟨rfl, h1, c', ty, fr, hc1, by dsimp only; omega, fun o h6 => ⟨fun h5 => ?_, ?_⟩⟩
      · rintro (hp | ⟨_, hp⟩)
        · exact (hun o h6).1 (by dsimp only at h5; omega) hp
        · dsimp only at h5; omega
      · exact (hun o h6).2
    · rename_i hne
      rw [List.getElem?_set_ne (by omega)] at h4
      obtain ⟨e, l, c1, ty1, fr1, hc, hcap, ho⟩ := hr.row q Q p h3 h4
      have hne2 := hqn q Q hne h3
      exact ⟨e, l, c1, ty1, fr1, (hw _ hne2).trans hc, hcap, fun o b => ⟨fun a hp => (ho o b).1 a (hnp _ hne2 _ hp), (ho o b).2⟩⟩
  · refine hr.mar.step hx rfl rfl (by omega) (fun k K h => hw _ (hmn k K h)) hr.mar.fix.nobox (fun k K b h => (hr.mar.fix.at_ k K h).2.2.2.1 b) (fun k K q Q h hQ => ?_) (fun k K i h hp => (hr.mar.fix.at_ k K h).2.2.2.2.2 i (hnp _ (hmn k K h) i hp)) (fun _ _ _ h => h)
    dsimp only at hQ
    split at hQ
    · cases hQ; exact fun e => hmn k K h e.symm
    · exact (hr.mar.fix.at_ k K h).2.2.2.2.1 q Q hQ

/-- A mark behind the last place of a row: none of its places. -/
theorem Step.mark {base : Nat} {G : Gh} {w w' : World} {h : H} {r : Nat} {R : Row} {c : Array Value} {ty : TypeId} {fr fr' : Nat × Nat}
    (hsd : Sd w w') (hs : w'.heap.size = w.heap.size) (hw : ∀ i, i ≠ R.pb → w'.heap[i]? = w.heap[i]?) (hc0 : w.heap[R.pb]? = some (.cells c ty fr)) (hc1 : w'.heap[R.pb]? = some (.cells c ty fr'))
    (hr : HR base G w h) (hR : G.row r = some R) (hp : h.row[r]? = some R.pos) (hlo : h.lor ≤ r) (hfr : ∀ o, o < R.cap → (fr'.1 = fr'.2 ∨ o < fr'.1)) :
    Step base G w h G w' h := by
  have hrl : r < h.row.length := (List.getElem?_eq_some_iff.1 hp).1
  have hra := hr.rowAt r R hR
  have hcell : ∀ b o, w'.cell? ⟨b, o, none⟩ = w.cell? ⟨b, o, none⟩ := by
    intro b o
    by_cases hb : b = R.pb
    · subst hb; rw [cell_cells hc0, cell_cells hc1]
    · exact cell_of_heap (hw b hb) o
  have hx : Ext G w G w' := ⟨fun _ _ h => h, fun b o _ => hcell b o, fun _ _ h => h, fun q Q hq => ⟨Q, hq, Nat.le_refl _, fun _ => rfl⟩, fun _ h => h, fun _ _ _ h => h⟩
  have hbn : ∀ b pb, G.box b = some pb → pb ≠ R.pb := fun b pb hb e => hra.2.2.2 b (e ▸ hb)
  have hqn : ∀ q Q, q ≠ r → G.row q = some Q → Q.pb ≠ R.pb := fun q Q hne hq e => hne (hr.rowInj _ _ _ _ hq hR e)
  have hmn : ∀ k K, G.mar k = some K → K.1 ≠ R.pb := fun k K hk e => (hr.mar.fix.at_ k K hk).2.2.2.2.1 r R hR e.symm
  refine ⟨hsd, hx, ⟨by omega, fun i hi => hw i (by omega), ⟨Nat.le_refl _, Nat.le_refl _⟩, ⟨rfl, rfl⟩,
    fun b pb hb _ => ⟨hw _ (hbn b pb hb), fun _ h => h⟩, ?_, fun _ _ h => .inl h, fun _ Q hq => .inl ⟨Q, hq⟩, fun _ _ => rfl, fun _ _ => rfl, fun m R h _ => ⟨h, hw _ (hmn m R h)⟩, fun _ _ h => .inl h, fun _ h => .inl h⟩, ?_⟩
  · intro q Q hq hc
    have hne : q ≠ r := by rintro rfl; omega
    exact ⟨hq, hw _ (hqn q Q hne hq), fun _ h => h⟩
  refine ⟨by have := hr.size; omega, hr.lo, fun b o hp => ?_, ?_, hr.boxInj, ?_, hr.rowInj, ?_, ?_,
    hr.mar.step hx rfl rfl (by omega) (fun k K h => hw _ (hmn k K h)) hr.mar.fix.nobox (fun k K b h => (hr.mar.fix.at_ k K h).2.2.2.1 b) (fun k K q Q h hQ => (hr.mar.fix.at_ k K h).2.2.2.2.1 q Q hQ) (fun k K i h => (hr.mar.fix.at_ k K h).2.2.2.2.2 i) (fun _ _ _ h => h)⟩
  · obtain ⟨v, hv⟩ := hr.prot b o hp; exact ⟨v, (hx.cell b o hp).trans hv⟩
  · intro b pb hb
    have := hr.boxAt b pb hb; exact ⟨this.1, by omega⟩
  · intro q Q h3
    have := hr.rowAt q Q h3
    exact ⟨this.1, this.2.1, by omega, this.2.2.2⟩
  · intro b pb B h3 h4
    obtain ⟨c1, ty1, hc, hv1, p1, p2⟩ := hr.box b pb B h3 h4
    exact ⟨c1, ty1, (hw _ (hbn b pb h3)).trans hc, hv1.mono hx, p1, p2⟩
  · intro q Q p h3 h4
    obtain ⟨e, l, c1, ty1, fr1, hc, hcap, ho⟩ := hr.row q Q p h3 h4
    by_cases hq : q = r
    · subst hq
      rw [hR] at h3; cases h3
      rw [hc0] at hc; cases hc
      exact ⟨e, l, c, ty, fr', hc1, hcap, fun o b => ⟨(ho o b).1, hfr o b⟩⟩
    · exact ⟨e, l, c1, ty1, fr1, (hw _ (hqn q Q hq h3)).trans hc, hcap, ho⟩

/-- A store into a variable. -/
theorem Step.store {base : Nat} {G : Gh} {w w' : World} {h : H} {b pb : Nat} {B : Box} {c' : Array Value} {ty : TypeId} {cells : List LV}
    (hsd : Sd w w') (hs : w'.heap.size = w.heap.size) (hw : ∀ i, i ≠ pb → w'.heap[i]? = w.heap[i]?) (hc1 : w'.heap[pb]? = some (.cells c' ty (0, 0)))
    (hr : HR base G w h) (hb : G.box b = some pb) (hB : h.box[b]? = some B) (hro : B.ro = false) (hlo : h.lob ≤ b) (hv : VRs G w cells c'.toList) :
    Step base G w h G w' { h with box := h.box.set b ⟨false, cells⟩ } := by
  have hbl : b < h.box.length := (List.getElem?_eq_some_iff.1 hB).1
  have hl := hr.lo
  obtain ⟨c, tyx, hcx, hvx, _, hnp⟩ := hr.box b pb B hb hB
  have hnp := hnp hro
  have hba := hr.boxAt b pb hb
  have hcell : ∀ b o, G.prot b o → w'.cell? ⟨b, o, none⟩ = w.cell? ⟨b, o, none⟩ := by
    intro b2 o hpr
    by_cases hb2 : b2 = pb
    · subst hb2; exact absurd hpr (hnp o)
    · exact cell_of_heap (hw b2 hb2) o
  have hx : Ext G w G w' := ⟨fun _ _ h => h, hcell, fun _ _ h => h, fun q Q hq => ⟨Q, hq, Nat.le_refl _, fun _ => rfl⟩, fun _ h => h, fun _ _ _ h => h⟩
  have hbn : ∀ b2 pb2, b2 ≠ b → G.box b2 = some pb2 → pb2 ≠ pb := fun b2 pb2 hne hb2 e => hne (hr.boxInj _ _ _ (e ▸ hb2) hb)
  have hqn : ∀ q Q, G.row q = some Q → Q.pb ≠ pb := fun q Q hq e => (hr.rowAt q Q hq).2.2.2 b (e ▸ hb)
  have hmn : ∀ k K, G.mar k = some K → K.1 ≠ pb := fun k K hk e => (hr.mar.fix.at_ k K hk).2.2.2.1 b (e ▸ hb)
  have hmb : ∀ k, G.mb k → k ≠ b := fun k hk e => by have := hr.mar.fix.nobox k hk; rw [e, hb] at this; cases this
  refine ⟨hsd, hx, ⟨by omega, fun i hi => hw i (by omega), ⟨by simp, Nat.le_refl _⟩, ⟨rfl, rfl⟩, ?_,
    fun q Q hq _ => ⟨hq, hw _ (hqn q Q hq), fun _ h => h⟩, fun _ _ h => .inl h, fun _ Q hq => .inl ⟨Q, hq⟩, ?_, fun _ _ => rfl, fun m R h _ => ⟨h, hw _ (hmn m R h)⟩, fun _ _ h => .inl h, fun _ h => .inl h⟩, ?_⟩
  · intro b2 pb2 h2 hc
    have hne : b2 ≠ b := by simp at hc; omega
    exact ⟨hw _ (hbn b2 pb2 hne h2), fun _ h => h⟩
  · intro q hq
    exact List.getElem?_set_ne (by omega)
  refine ⟨by have := hr.size; omega, ⟨by simp; omega, hl.2⟩, fun b o hp => ?_, ?_, hr.boxInj, ?_, hr.rowInj, ?_, ?_,
    hr.mar.step hx rfl rfl (by omega) (fun k K h => hw _ (hmn k K h)) hr.mar.fix.nobox (fun k K b h => (hr.mar.fix.at_ k K h).2.2.2.1 b) (fun k K q Q h hQ => (hr.mar.fix.at_ k K h).2.2.2.2.1 q Q hQ) (fun k K i h => (hr.mar.fix.at_ k K h).2.2.2.2.2 i)
      (fun k B h hB => by have := hmb k h; dsimp only at hB; rw [List.getElem?_set_ne (by omega)] at hB; exact hB)⟩
  · obtain ⟨v, hv⟩ := hr.prot b o hp; exact ⟨v, (hx.cell b o hp).trans hv⟩
  · intro b pb hb
    have := hr.boxAt b pb hb; exact ⟨this.1, by omega⟩
  · intro q Q h3
    have := hr.rowAt q Q h3
    exact ⟨this.1, this.2.1, by omega, this.2.2.2⟩
  · intro b2 pb2 B2 h3 h4
    by_cases hne : b2 = b
    · subst hne
      rw [hb] at h3; cases h3
      dsimp only at h4
      rw [List.getElem?_set_self hbl] at h4; cases h4
      exact ⟨c', ty, hc1, hv.mono hx, fun h => (by cases h), fun _ => hnp⟩
    · dsimp only at h4
      rw [List.getElem?_set_ne (by omega)] at h4
      obtain ⟨c1, ty1, hc, hv1, p1, p2⟩ := hr.box b2 pb2 B2 h3 h4
      exact ⟨c1, ty1, (hw _ (hbn b2 pb2 hne h3)).trans hc, hv1.mono hx, p1, p2⟩
  · intro q Q p h3 h4
    obtain ⟨e, l, c1, ty1, fr1, hc, hcap, ho⟩ := hr.row q Q p h3 h4
    exact ⟨e, l, c1, ty1, fr1, (hw _ (hqn q Q h3)).trans hc, hcap, ho⟩

/-- A variable that is only read from now on. -/
theorem Step.freeze {base : Nat} {G : Gh} {w : World} {h : H} {b pb : Nat} {B : Box}
    (hr : HR base G w h) (hb : G.box b = some pb) (hB : h.box[b]? = some B) (hlo : h.lob ≤ b) :
    Step base G w h { G with prot := fun q o => G.prot q o ∨ (q = pb ∧ o < B.cells.length) } w { h with box := h.box.set b ⟨true, B.cells⟩ } := by
  have hbl : b < h.box.length := (List.getElem?_eq_some_iff.1 hB).1
  have hl := hr.lo
  obtain ⟨c, ty, hc0, hv0, _, _⟩ := hr.box b pb B hb hB
  have hlen : B.cells.length = c.size := by simpa using hv0.1
  have hba := hr.boxAt b pb hb
  have hx : Ext G w { G with prot := fun q o => G.prot q o ∨ (q = pb ∧ o < B.cells.length) } w :=
    ⟨fun _ _ h => .inl h, fun _ _ _ => rfl, fun _ _ h => h, fun q Q hq => ⟨Q, hq, Nat.le_refl _, fun _ => rfl⟩, fun _ h => h, fun _ _ _ h => h⟩
  have hbn : ∀ b2 pb2, b2 ≠ b → G.box b2 = some pb2 → pb2 ≠ pb := fun b2 pb2 hne hb2 e => hne (hr.boxInj _ _ _ (e ▸ hb2) hb)
  have hqn : ∀ q Q, G.row q = some Q → Q.pb ≠ pb := fun q Q hq e => (hr.rowAt q Q hq).2.2.2 b (e ▸ hb)
  have hmn : ∀ k K, G.mar k = some K → K.1 ≠ pb := fun k K hk e => (hr.mar.fix.at_ k K hk).2.2.2.1 b (e ▸ hb)
  have hmb : ∀ k, G.mb k → k ≠ b := fun k hk e => by have := hr.mar.fix.nobox k hk; rw [e, hb] at this; cases this
  have hnp : ∀ i, i ≠ pb → ∀ o, (G.prot i o ∨ (i = pb ∧ o < B.cells.length)) → G.prot i o := fun i hi o h => h.resolve_right (fun h => hi h.1)
  refine ⟨.refl _, hx, ⟨Nat.le_refl _, fun i hi => rfl, ⟨by simp, Nat.le_refl _⟩, ⟨rfl, rfl⟩, ?_,
    fun q Q hq _ => ⟨hq, rfl, hnp _ (hqn q Q hq)⟩, fun _ _ h => .inl h, fun _ Q hq => .inl ⟨Q, hq⟩, ?_, fun _ _ => rfl, fun m R h _ => ⟨h, rfl⟩, fun _ _ h => .inl h, fun _ h => .inl h⟩, ?_⟩
  · intro b2 pb2 h2 hc
    have hne : b2 ≠ b := by simp at hc; omega
    exact ⟨rfl, hnp _ (hbn b2 pb2 hne h2)⟩
  · intro q hq
    exact List.getElem?_set_ne (by omega)
  refine ⟨hr.size, ⟨by simp; omega, hl.2⟩, fun b o hp => ?_, hr.boxAt, hr.boxInj, hr.rowAt, hr.rowInj, ?_, ?_,
    hr.mar.step hx rfl rfl (Nat.le_refl _) (fun k K h => rfl) hr.mar.fix.nobox (fun k K b h => (hr.mar.fix.at_ k K h).2.2.2.1 b) (fun k K q Q h hQ => (hr.mar.fix.at_ k K h).2.2.2.2.1 q Q hQ) (fun k K i h hp => (hr.mar.fix.at_ k K h).2.2.2.2.2 i (hnp _ (hmn k K h) i hp))
      (fun k B h hB => by have := hmb k h; dsimp only at hB; rw [List.getElem?_set_ne (by omega)] at hB; exact hB)⟩
  · rcases hp with hp | ⟨rfl, hp⟩
    · exact hr.prot b o hp
    · exact ⟨c[o]'(by omega), by rw [cell_cells hc0]; exact Array.getElem?_eq_getElem _⟩
  · intro b2 pb2 B2 h3 h4
    by_cases hne : b2 = b
    · subst hne
      dsimp only at h3
      rw [hb] at h3; cases h3
      dsimp only at h4
      rw [List.getElem?_set_self hbl] at h4; cases h4
      exact ⟨c, ty, hc0, hv0.mono hx, fun _ i hi => .inr ⟨rfl, by omega⟩, fun h => (by cases h)⟩
    · dsimp only at h4
      rw [List.getElem?_set_ne (by omega)] at h4
      obtain ⟨c1, ty1, hc, hv1, p1, p2⟩ := hr.box b2 pb2 B2 h3 h4
      exact ⟨c1, ty1, hc, hv1.mono hx, fun h i hi => .inl (p1 h i hi), fun h i hp => p2 h i (hnp _ (hbn b2 pb2 hne h3) _ hp)⟩
  · intro q Q p h3 h4
    obtain ⟨e, l, c1, ty1, fr1, hc, hcap, ho⟩ := hr.row q Q p h3 h4
    exact ⟨e, l, c1, ty1, fr1, hc, hcap, fun o b => ⟨fun a hp => (ho o b).1 a (hnp _ (hqn q Q h3) _ hp), (ho o b).2⟩⟩

/-- A new array that is written in place: in a new block, or where another one lies that is dead from now on. -/
theorem Step.marNew {base : Nat} {G : Gh} {w w' : World} {h : H} {kill : Option Nat} {bx : List Box} {pb cap : Nat} {c : Array Value} {ty : TypeId} {fr : Nat × Nat} {cells : List LV}
    (hsd : Sd w w') (hsz : w.heap.size ≤ w'.heap.size) (hw : ∀ i, i ≠ pb → i < w.heap.size → w'.heap[i]? = w.heap[i]?) (hc : w'.heap[pb]? = some (.cells c ty fr))
    (hpb : w.heap.size ≤ pb ∨ ∃ m R, kill = some m ∧ G.mar m = some R ∧ R.1 = pb)
    (hr : HR base G w h) (hf : G.box h.box.length = none) (hfm : ¬ G.mb h.box.length)
    (hk : ∀ m, kill = some m → G.mb m ∧ h.lob ≤ m ∧ m < h.box.length)
    (hbl : bx.length = h.box.length) (hbk : ∀ k, kill ≠ some k → bx[k]? = h.box[k]?) (hbd : ∀ k B, kill = some k → bx[k]? = some B → B.cells = [])
    (h1 : cells.length ≤ cap) (h2 : cap ≤ c.size) (hv : VRs G w cells (c.toList.take cells.length)) (hfr : ∀ o, o < cap → (fr.1 = fr.2 ∨ o < fr.1)) :
    Step base G w h { G with mb := fun k => G.mb k ∨ k = h.box.length, mar := fun k => if k = h.box.length then some (pb, cap) else if kill = some k then none else G.mar k } w'
      { h with box := bx ++ [⟨false, cells⟩] } := by
  have hl := hr.lo
  have hpl : pb < w'.heap.size := (Array.getElem?_eq_some_iff.1 hc).1
  -- the block is nobody else's
  have hbn : ∀ b q, G.box b = some q → q ≠ pb := by
    rintro b q hb rfl
    rcases hpb with h | ⟨m, R, _, hm, rfl⟩
    · have := (hr.boxAt b _ hb).2; omega
    · exact (hr.mar.fix.at_ m R hm).2.2.2.1 b hb
  have hqn : ∀ r Q, G.row r = some Q → Q.pb ≠ pb := by
    rintro r Q hQ rfl
    rcases hpb with h | ⟨m, R, _, hm, e⟩
    · have := (hr.rowAt r Q hQ).2.2.1; omega
    · exact (hr.mar.fix.at_ m R hm).2.2.2.2.1 r Q hQ e.symm
  have hmn : ∀ k K, kill ≠ some k → G.mar k = some K → K.1 ≠ pb := by
    intro k K hne hK e
    rcases hpb with h | ⟨m, R, hkm, hm, e'⟩
    · have := (hr.mar.fix.at_ k K hK).2.2.1; omega
    · exact hne (by rw [hkm, hr.mar.fix.inj _ _ _ _ hK hm (e.trans e'.symm)])
  have hpn : ∀ b o, G.prot b o → b ≠ pb := by
    rintro b o hp rfl
    rcases hpb with h | ⟨m, R, _, hm, rfl⟩
    · have := prot_lt hr hp; omega
    · exact (hr.mar.fix.at_ m R hm).2.2.2.2.2 o hp
  have hcell : ∀ b o, G.prot b o → w'.cell? ⟨b, o, none⟩ = w.cell? ⟨b, o, none⟩ := fun b o hp => cell_of_heap (hw b (hpn b o hp) (prot_lt hr hp)) o
  have hx : Ext G w { G with mb := fun k => G.mb k ∨ k = h.box.length, mar := fun k => if k = h.box.length then some (pb, cap) else if kill = some k then none else G.mar k } w' := by
    refine ⟨fun _ _ h => h, hcell, fun _ _ h => h, fun q Q hq => ⟨Q, hq, Nat.le_refl _, fun _ => rfl⟩, fun _ h => .inl h, fun k R hk2 hR => ?_⟩
    dsimp only at hR
    split at hR
    · rename_i e; exact absurd (e ▸ hk2) hfm
    · split at hR
      · cases hR
      · exact hR
  refine ⟨hsd, hx, ⟨hsz, fun i hi => hw i ?_ (by have := hr.size; omega), ⟨by simp [hbl], Nat.le_refl _⟩, ⟨rfl, rfl⟩,
    fun b q hb _ => ⟨hw _ (hbn b q hb) (hr.boxAt b q hb).2, fun _ h => h⟩, fun r Q hQ _ => ⟨hQ, hw _ (hqn r Q hQ) (hr.rowAt r Q hQ).2.2.1, fun _ h => h⟩, fun _ _ h => .inl h, fun _ R h => .inl ⟨R, h⟩, ?_, fun _ _ => rfl, ?_, ?_, ?_⟩, ?_⟩
  · rintro rfl
    rcases hpb with h | ⟨m, R, _, hm, rfl⟩
    · have := hr.size; omega
    · have := (hr.mar.fix.at_ m R hm).2.1; omega
  · intro b hb
    dsimp only
    rw [List.getElem?_append_left (by omega)]
    exact hbk b (fun e => by have := (hk b e).2.1; omega)
  · intro k R hR hc
    have hlt : k < h.box.length ∨ h.box.length ≤ k := Nat.lt_or_ge _ _
    have hne : k ≠ h.box.length := fun e => hfm (e ▸ (hr.mar.fix.at_ k R hR).1)
    have hnk : kill ≠ some k := fun e => by
      have := (hk k e).2
      rcases hc with hc | hc
      · omega
      · simp [hbl] at hc; omega
    refine ⟨?_, hw _ (hmn k R hnk hR) (hr.mar.fix.at_ k R hR).2.2.1⟩
    simp [hne, hnk, hR]
  · intro k R hR
    dsimp only at hR
    split at hR
    · rename_i e; exact .inr ⟨by omega, by simp [hbl]; omega⟩
    · split at hR
      · cases hR
      · exact .inl hR
  · rintro k (hk2 | rfl)
    · exact .inl hk2
    · exact .inr ⟨Nat.le_refl _, by simp [hbl]⟩
  have hbox : ∀ k B, k ≠ h.box.length → kill ≠ some k → (bx ++ [⟨false, cells⟩])[k]? = some B → h.box[k]? = some B := by
    intro k B hne hnk hB
    have hlt := (List.getElem?_eq_some_iff.1 hB).1
    simp [hbl] at hlt
    rw [List.getElem?_append_left (by omega), hbk k hnk] at hB
    exact hB
  refine ⟨by have := hr.size; omega, ⟨by have := hl.1; simp [hbl]; omega, hl.2⟩, fun b o hp => ?_, ?_, hr.boxInj, ?_, hr.rowInj, ?_, ?_, ⟨⟨?_, ?_, ?_⟩, ?_, ?_⟩⟩
  · obtain ⟨v, hv⟩ := hr.prot b o hp; exact ⟨v, (hx.cell b o hp).trans hv⟩
  · intro b q hb
    have := hr.boxAt b q hb; exact ⟨this.1, by omega⟩
  · intro q Q h3
    have := hr.rowAt q Q h3
    exact ⟨this.1, this.2.1, by omega, this.2.2.2⟩
  · intro b q B h3 h4
    have hne : b ≠ h.box.length := fun e => by rw [e] at h3; have h3 : G.box h.box.length = some q := h3; rw [hf] at h3; cases h3
    have hnk : kill ≠ some b := fun e => by have := hr.mar.fix.nobox b (hk b e).1; have h3 : G.box b = some q := h3; rw [h3] at this; cases this
    obtain ⟨c1, ty1, hc1, hv1, p1, p2⟩ := hr.box b q B h3 (hbox b B hne hnk h4)
    exact ⟨c1, ty1, (hw _ (hbn b q h3) (hr.boxAt b q h3).2).trans hc1, hv1.mono hx, p1, p2⟩
  · intro q Q p h3 h4
    obtain ⟨e, l, c1, ty1, fr1, hc1, hcap, ho⟩ := hr.row q Q p h3 h4
    exact ⟨e, l, c1, ty1, fr1, (hw _ (hqn q Q h3) (hr.rowAt q Q h3).2.2.1).trans hc1, hcap, ho⟩
  · intro k R hR
    dsimp only at hR
    split at hR
    · rename_i e; cases hR
      refine ⟨.inr e, ?_, hpl, fun b hb => hbn b _ hb rfl, fun r Q hQ e => hqn r Q hQ e, fun i hp => hpn _ i hp rfl⟩
      rcases hpb with h | ⟨m, R, _, hm, rfl⟩
      · have := hr.size; dsimp only; omega
      · exact (hr.mar.fix.at_ m R hm).2.1
    · split at hR
      · cases hR
      · obtain ⟨a1, a2, a3, a4⟩ := hr.mar.fix.at_ k R hR
        exact ⟨.inl a1, a2, by omega, a4⟩
  · rintro k (hk2 | rfl)
    · exact hr.mar.fix.nobox k hk2
    · exact hf
  · intro k k' R R' hR hR' he
    dsimp only at hR hR'
    split at hR <;> split at hR'
    · omega
    · split at hR'
      · cases hR'
      · rename_i hnk; cases hR; exact absurd he.symm (hmn k' R' hnk hR')
    · split at hR
      · cases hR
      · rename_i hnk; cases hR'; exact absurd he (hmn k R hnk hR)
    · split at hR
      · cases hR
      · split at hR'
        · cases hR'
        · exact hr.mar.fix.inj _ _ _ _ hR hR' he
  · intro k R B hR hB
    dsimp only at hR hB
    split at hR
    · rename_i e; cases hR; subst e
      rw [List.getElem?_append_right (by omega)] at hB
      simp [hbl] at hB; subst hB
      exact ⟨rfl, c, ty, fr, hc, h1, h2, hv.mono hx, hfr⟩
    · rename_i hne
      split at hR
      · cases hR
      · rename_i hnk
        exact (hr.mar.box k R B hR (hbox k B hne hnk hB)).mono hx (hw _ (hmn k R hnk hR) (hr.mar.fix.at_ k R hR).2.2.1)
  · intro k B hk2 hB hne0
    dsimp only at hB ⊢
    by_cases e : k = h.box.length
    · exact ⟨_, if_pos e⟩
    · by_cases e2 : kill = some k
      · exfalso
        have hlt := (hk k e2).2.2
        rw [List.getElem?_append_left (by omega)] at hB
        exact hne0 (hbd k B e2 hB)
      · obtain ⟨R, hR⟩ := hr.mar.live k B (hk2.resolve_right e) (hbox k B e e2 hB) hne0
        exact ⟨R, by rw [if_neg e, if_neg e2]; exact hR⟩

/-- An element of an array that is written in place. -/
theorem Step.marStore {base : Nat} {G : Gh} {w w' : World} {h : H} {m : Nat} {R : Nat × Nat} {B : Box} {c c' : Array Value} {ty : TypeId} {fr : Nat × Nat} {cells : List LV}
    (hsd : Sd w w') (hs : w'.heap.size = w.heap.size) (hw : ∀ i, i ≠ R.1 → w'.heap[i]? = w.heap[i]?) (hc0 : w.heap[R.1]? = some (.cells c ty fr)) (hc1 : w'.heap[R.1]? = some (.cells c' ty fr)) (hcs : c'.size = c.size)
    (hr : HR base G w h) (hR : G.mar m = some R) (hB : h.box[m]? = some B) (hlo : h.lob ≤ m) (hlen : cells.length = B.cells.length) (hv : VRs G w cells (c'.toList.take cells.length)) :
    Step base G w h G w' { h with box := h.box.set m ⟨false, cells⟩ } := by
  have hbl : m < h.box.length := (List.getElem?_eq_some_iff.1 hB).1
  have hl := hr.lo
  obtain ⟨a1, a2, a3, a4, a5, a6⟩ := hr.mar.fix.at_ m R hR
  obtain ⟨hro, c0, ty0, fr0, hc00, l1, l2, _, hfr⟩ := hr.mar.box m R B hR hB
  rw [hc0] at hc00; cases hc00
  have hcell : ∀ b o, G.prot b o → w'.cell? ⟨b, o, none⟩ = w.cell? ⟨b, o, none⟩ := fun b o hp => cell_of_heap (hw b (fun e => a6 o (e ▸ hp))) o
  have hx : Ext G w G w' := ⟨fun _ _ h => h, hcell, fun _ _ h => h, fun q Q hq => ⟨Q, hq, Nat.le_refl _, fun _ => rfl⟩, fun _ h => h, fun _ _ _ h => h⟩
  have hbn : ∀ b q, G.box b = some q → q ≠ R.1 := fun b q hb e => a4 b (e ▸ hb)
  have hqn : ∀ q Q, G.row q = some Q → Q.pb ≠ R.1 := fun q Q hq e => a5 q Q hq e
  have hmn : ∀ k K, k ≠ m → G.mar k = some K → K.1 ≠ R.1 := fun k K hne hk e => hne (hr.mar.fix.inj _ _ _ _ hk hR e)
  have hnb : ∀ b q, G.box b = some q → b ≠ m := fun b q hb e => by have := hr.mar.fix.nobox m a1; rw [← e, hb] at this; cases this
  refine ⟨hsd, hx, ⟨by omega, fun i hi => hw i (by omega), ⟨by simp, Nat.le_refl _⟩, ⟨rfl, rfl⟩, fun b q hb _ => ⟨hw _ (hbn b q hb), fun _ h => h⟩,
    fun q Q hq _ => ⟨hq, hw _ (hqn q Q hq), fun _ h => h⟩, fun _ _ h => .inl h, fun _ Q hq => .inl ⟨Q, hq⟩, ?_, fun _ _ => rfl, ?_, fun _ _ h => .inl h, fun _ h => .inl h⟩, ?_⟩
  · intro q hq
    exact List.getElem?_set_ne (by omega)
  · intro k K hK hc
    have hne : k ≠ m := by simp at hc; omega
    exact ⟨hK, hw _ (hmn k K hne hK)⟩
  refine ⟨by have := hr.size; omega, ⟨by simp; omega, hl.2⟩, fun b o hp => ?_, ?_, hr.boxInj, ?_, hr.rowInj, ?_, ?_, ⟨⟨?_, hr.mar.fix.nobox, hr.mar.fix.inj⟩, ?_, ?_⟩⟩
  · obtain ⟨v, hv⟩ := hr.prot b o hp; exact ⟨v, (hx.cell b o hp).trans hv⟩
  · intro b pb hb
    have := hr.boxAt b pb hb; exact ⟨this.1, by omega⟩
  · intro q Q h3
    have := hr.rowAt q Q h3
    exact ⟨this.1, this.2.1, by omega, this.2.2.2⟩
  · intro b2 pb2 B2 h3 h4
    dsimp only at h4
    have := hnb b2 pb2 h3
    rw [List.getElem?_set_ne (by omega)] at h4
    obtain ⟨c1, ty1, hc, hv1, p1, p2⟩ := hr.box b2 pb2 B2 h3 h4
    exact ⟨c1, ty1, (hw _ (hbn b2 pb2 h3)).trans hc, hv1.mono hx, p1, p2⟩
  · intro q Q p h3 h4
    obtain ⟨e, l, c1, ty1, fr1, hc, hcap, ho⟩ := hr.row q Q p h3 h4
    exact ⟨e, l, c1, ty1, fr1, (hw _ (hqn q Q h3)).trans hc, hcap, ho⟩
  · intro k K hK
    obtain ⟨b1, b2, b3, b4⟩ := hr.mar.fix.at_ k K hK
    exact ⟨b1, b2, by omega, b4⟩
  · intro k K B2 hK hB2
    dsimp only at hB2
    by_cases hne : k = m
    · subst hne
      rw [hR] at hK; cases hK
      rw [List.getElem?_set_self hbl] at hB2; cases hB2
      exact ⟨rfl, c', ty, fr, hc1, by dsimp only; omega, by omega, hv.mono hx, hfr⟩
    · rw [List.getElem?_set_ne (by omega)] at hB2
      exact (hr.mar.box k K B2 hK hB2).mono hx (hw _ (hmn k K hne hK))
  · intro k B2 hk2 hB2 hne0
    dsimp only at hB2
    by_cases hne : k = m
    · subst hne; exact ⟨R, hR⟩
    · rw [List.getElem?_set_ne (by omega)] at hB2
      exact hr.mar.live k B2 hk2 hB2 hne0

end Go.LM

namespace Go.LM

/-! ### what the operations do, on the logical side -/
def isAggT (P : Program) (t : TypeId) : Option Bool :=
  match P.underlying t with
  | some (.struct _) => some true
  | some (.array _ _) => some true
  | some _ => some false
  | none => none
def sizeT (P : Program) (t : TypeId) : Option Nat := (P.info? t).map (·.size)
def bytesT (P : Program) (t : TypeId) : Option Nat := (P.info? t).map (·.bytes)

def ofV1 : Value → Option LV
  | .bool b => some (.bool b)
  | .int k n => some (.int k n)
  | .string s => some (.str s)
  | .pointer none => some .nilp
  | .slice none 0 0 => some .nils
  | .nilFunc => some .nilf
  | .nilIface => some .nili
  | _ => none
def ofVs : List Value → Option (List LV)
  | [] => some []
  | v :: vs => match ofV1 v, ofVs vs with
    | some l, some ls => some (l :: ls)
    | _, _ => none
def ofV : Value → Option LV
  | .agg cs => (ofVs cs.toList).map .agg
  | v => ofV1 v

def zeroL (P : Program) (t : TypeId) : Option LV := ((P.info? t).bind (·.zero)).bind ofV

/-- The part of type t that begins at a cell. -/
def partL (P : Program) (t : TypeId) (cs : List LV) (off : Nat) : Option LV :=
  match isAggT P t with
  | some true => match sizeT P t with
    | some n => if off + n ≤ cs.length then some (.agg ((cs.drop off).take n)) else none
    | none => none
  | some false => cs[off]?
  | none => none

def loadL (P : Program) (t : TypeId) (p : LV) (h : H) : Option LV :=
  match p with
  | .ptr b off => match h.box[b]? with
    | some B => partL P t B.cells off
    | none => none
  | .cptr v => partL P t v.cells 0
  | .pm m off => match h.box[m]? with
    | some B => if B.cells.isEmpty = true then none else partL P t B.cells off
    | none => none
  | _ => none

def setAll (cells : List LV) : Nat → List LV → List LV
  | _, [] => cells
  | off, v :: vs => setAll (cells.set off v) (off + 1) vs

def storeL (P : Program) (t : TypeId) (p v : LV) (h : H) : Option H :=
  match p with
  | .ptr b off => match h.box[b]? with
    | some B => if v.known = true ∧ sizeT P t = some v.cells.length ∧ v.cells.all (·.one) = true ∧ B.ro = false ∧ h.lob ≤ b ∧ off + v.cells.length ≤ B.cells.length then
        some { h with box := h.box.set b ⟨false, setAll B.cells off v.cells⟩ } else none
    | none => none
  | .pm b off => match h.box[b]? with
    | some B => if v.known = true ∧ sizeT P t = some v.cells.length ∧ v.cells.all (·.one) = true ∧ B.cells.isEmpty = false ∧ h.lob ≤ b ∧ off + v.cells.length ≤ B.cells.length then
        some { h with box := h.box.set b ⟨false, setAll B.cells off v.cells⟩ } else none
    | none => none
  | _ => none

def newBoxL (cells : List LV) (h : H) : LV × H := (.ptr h.box.length 0, { h with box := h.box ++ [⟨false, cells⟩] })
def newRowL (sz : Nat) (xs : List LV) (h : H) : LV × H := (.sl h.row.length xs.length sz xs, { h with row := h.row ++ [xs.length] })

/-- Parts laid into cells. -/
def fillL (place : Nat → Option (Nat × Nat)) (cells : List LV) : List (Nat × LV) → Option (List LV)
  | [] => some cells
  | (i, v) :: rest =>
    match place i with
    | none => none
    | some (off, size) =>
      if v.known = true ∧ v.cells.length = size ∧ off + v.cells.length ≤ cells.length then fillL place (setAll cells off v.cells) rest else none

def placesL (P : Program) : List Field → Option (List (Nat × Nat))
  | [] => some []
  | f :: fs => match sizeT P f.type, placesL P fs with
    | some n, some l => some ((f.offset, n) :: l)
    | _, _ => none

/-- Structs of a slice and a function: their slices are written in place. -/
def mutT (P : Program) (t : TypeId) : Bool :=
  match P.underlying t with
  | some (.struct fields) => match fields.toList with
    | [a, b] => match P.underlying a.type, P.underlying b.type with
      | some (.slice _), some (.func _ _ _) => true
      | _, _ => false
    | _ => false
  | _ => false
def mutZ (cs : List LV) : List LV :=
  match cs with
  | .nils :: l => .nilm :: l
  | l => l

def buildL (P : Program) (t : TypeId) (parts : List (Nat × LV)) : Option LV :=
  match zeroL P t with
  | some z => if z.known = true then match P.underlying t with
    | some (.struct fields) => match placesL P fields.toList with
      | some places => (fillL (places[·]?) (if mutT P t = true then mutZ z.cells else z.cells) parts).map .agg
      | none => none
    | some (.array _ e) => match sizeT P e with
      | some size => (fillL (fun i => some (i * size, size)) z.cells parts).map .agg
      | none => none
    | _ => none else none
  | none => none

/-- Cells taken together, element by element. -/
def chunkL (P : Program) (e : TypeId) (sz : Nat) : Nat → List LV → Option (List LV)
  | 0, _ => some []
  | n + 1, cs => match isAggT P e, chunkL P e sz n (cs.drop sz) with
    | some true, some l => if sz ≤ cs.length then some (.agg (cs.take sz) :: l) else none
    | some false, some l => match cs with
      | c :: _ => if sz = 1 ∧ c.one = true then some (c :: l) else none
      | [] => none
    | _, _ => none

def repL (z : List LV) : Nat → List LV
  | 0 => []
  | n + 1 => z ++ repL z n

def buildSliceL (P : Program) (t : TypeId) (len : Nat) (parts : List (Nat × LV)) (h : H) : Option (LV × H) :=
  match P.underlying t with
  | some (.slice e) => match sizeT P e, zeroL P e with
    | some sz, some z => if len * sz ≤ 2 ^ 24 ∧ z.known = true ∧ z.cells.length = sz ∧ 0 < sz then
        match fillL (fun i => some (i * sz, sz)) (repL z.cells len) parts with
        | some cells => if cells.all (·.one) = true then match chunkL P e sz len cells with
          | some xs => some (newRowL sz xs h)
          | none => none else none
        | none => none
      else none
    | _, _ => none
  | _ => none

def eqFieldsL (P : Program) (eq : TypeId → LV → LV → Option Bool) (xs ys : List LV) : List Field → Option Bool
  | [] => some true
  | f :: fs => if f.name = "_" then eqFieldsL P eq xs ys fs else
    match partL P f.type xs f.offset, partL P f.type ys f.offset with
    | some a, some b => match eq f.type a b with
      | some true => eqFieldsL P eq xs ys fs
      | some false => some false
      | none => none
    | _, _ => none
def eqElemsL (P : Program) (eq : TypeId → LV → LV → Option Bool) (e : TypeId) (n : Nat) (xs ys : List LV) : Nat → Nat → Option Bool
  | _, 0 => some true
  | i, m + 1 => match partL P e xs (i * n), partL P e ys (i * n) with
    | some a, some b => match eq e a b with
      | some true => eqElemsL P eq e n xs ys (i + 1) m
      | some false => some false
      | none => none
    | _, _ => none
/-- '==' by type. -/
def eqL (P : Program) : Nat → TypeId → LV → LV → Option Bool
  | 0, _, _, _ => none
  | d + 1, t, x, y => match P.underlying t with
    | some .bool => match x, y with
      | .bool a, .bool b => some (a == b)
      | _, _ => none
    | some (.int _) => match x, y with
      | .int k a, .int k' b => if k = k' then some (a == b) else none
      | _, _ => none
    | some .string => match x, y with
      | .str a, .str b => some (a == b)
      | _, _ => none
    | some (.pointer _) => match x, y with
      | .nilp, .nilp => some true
      | .nilp, .ptr _ _ => some false
      | .nilp, .cptr _ => some false
      | .ptr _ _, .nilp => some false
      | .cptr _, .nilp => some false
      | _, _ => none
    | some (.slice _) => match x, y with
      | .nils, .nils => some true
      | .nils, .sl _ _ _ _ => some false
      | .sl _ _ _ _, .nils => some false
      | _, _ => none
    | some (.func _ _ _) => match x, y with
      | .nilf, .nilf => some true
      | .nilf, .fn _ _ _ => some false
      | .fn _ _ _, .nilf => some false
      | _, _ => none
    | some (.interface _) => match x, y with
      | .nili, .iface _ _ => some false
      | .iface _ _, .nili => some false
      | _, _ => none
    | some (.struct fields) => match x, y with
      | .agg xs, .agg ys => if P.stoodInHeld t = true then none else eqFieldsL P (eqL P d) xs ys fields.toList
      | _, _ => none
    | some (.array len e) => match x, y with
      | .agg xs, .agg ys => match sizeT P e with
        | some n => eqElemsL P (eqL P d) e n xs ys 0 len
        | none => none
      | _, _ => none
    | _ => none

def eqTopL (P : Program) (t : TypeId) (x y : LV) : Option Bool :=
  match x, y with
  | .agg _, .agg _ => if P.eqGuardType P.depth t = true then none else eqL P 10000 t x y
  | _, _ => eqL P 10000 t x y

def intOpL (op : BinOp) (k : IntKind) (a b : Int) : Option LV :=
  match op with
  | .add => some (.int k (k.wrap (a + b)))
  | .sub => some (.int k (k.wrap (a - b)))
  | .mul => some (.int k (k.wrap (a * b)))
  | .quo => if b = 0 then none else some (.int k (k.wrap (a.tdiv b)))
  | .rem => if b = 0 then none else some (.int k (a.tmod b))
  | .and => some (.int k (k.wrap (BitVec.ofInt k.bits a &&& BitVec.ofInt k.bits b).toNat))
  | .or => some (.int k (k.wrap (BitVec.ofInt k.bits a ||| BitVec.ofInt k.bits b).toNat))
  | .xor => some (.int k (k.wrap (BitVec.ofInt k.bits a ^^^ BitVec.ofInt k.bits b).toNat))
  | .andNot => some (.int k (k.wrap (BitVec.ofInt k.bits a &&& ~~~ BitVec.ofInt k.bits b).toNat))
  | .eql => some (.bool (a == b))
  | .neq => some (.bool (a != b))
  | .lss => some (.bool (decide (a < b)))
  | .leq => some (.bool (decide (a ≤ b)))
  | .gtr => some (.bool (decide (a > b)))
  | .geq => some (.bool (decide (a ≥ b)))
  | _ => none

def shiftL (op : BinOp) (k : IntKind) (a b : Int) : Option LV :=
  if b < 0 then none else match op with
  | .shl => some (.int k (k.wrap (a * 2 ^ min b.toNat k.bits)))
  | .shr => some (.int k (a.fdiv (2 ^ min b.toNat k.bits)))
  | _ => none

def isShift : BinOp → Bool
  | .shl | .shr => true
  | _ => false

def strOpL (op : BinOp) (a b : ByteArray) : Option LV :=
  match op with
  | .eql => some (.bool (a.toList == b.toList))
  | .neq => some (.bool (!(a.toList == b.toList)))
  | .add => if ((a.size + b.size : Nat) : Int) ≤ 9223372036854775807 then some (.str (a ++ b)) else none
  | _ => none

/-- Pairs that '==' takes, other than numbers and strings. -/
def eqable : LV → LV → Bool
  | .bool _, .bool _ => true
  | .nilp, .nilp => true
  | .nilp, .ptr _ _ => true
  | .nilp, .cptr _ => true
  | .ptr _ _, .nilp => true
  | .cptr _, .nilp => true
  | .nils, .nils => true
  | .nils, .sl _ _ _ _ => true
  | .sl _ _ _ _, .nils => true
  | .nilf, .nilf => true
  | .nilf, .fn _ _ _ => true
  | .fn _ _ _, .nilf => true
  | .nili, .iface _ _ => true
  | .iface _ _, .nili => true
  | .agg _, .agg _ => true
  | _, _ => false

def binL (P : Program) (op : BinOp) (t : TypeId) (x y : LV) : Option LV :=
  match x, y with
  | .int k a, .int k' b => if isShift op then shiftL op k a b else if k = k' then intOpL op k a b else none
  | .str a, .str b => strOpL op a b
  | _, _ => if eqable x y = true then match op with
    | .eql => (eqTopL P t x y).map .bool
    | .neq => (eqTopL P t x y).map fun b => .bool (!b)
    | _ => none else none

def unL (op : UnOp) (x : LV) : Option LV :=
  match op, x with
  | .neg, .int k n => some (.int k (k.wrap (0 - n)))
  | .xor, .int k n => intOpL .xor k (if k.signed then -1 else k.max) n
  | .not, .bool b => some (.bool !b)
  | _, _ => none

def bytesL (s : ByteArray) : List LV := s.data.toList.map fun b => .int .u8 b.toNat
def toBytes : List LV → Option (List UInt8)
  | [] => some []
  | .int .u8 n :: l => (toBytes l).map (UInt8.ofNat n.toNat :: ·)
  | _ :: _ => none

def convL (P : Program) (src dst : TypeId) (x : LV) (h : H) : Option (LV × H) :=
  match P.underlying src with
  | none => none
  | some s => match P.underlying dst with
    | some (.int k) => match x with
      | .int _ n => some (.int k (k.wrap n), h)
      | _ => none
    | some .string => match x with
      | .str a => some (.str a, h)
      | .nils => match s with
        | .slice e => match P.underlying e with
          | some (.int .u8) => some (.str ByteArray.empty, h)
          | _ => none
        | _ => none
      | .sl _ _ sz xs => match s with
        | .slice e => match P.underlying e with
          | some (.int .u8) => if sz = 1 then (toBytes xs).map fun l => (.str ⟨l.toArray⟩, h) else none
          | _ => none
        | _ => none
      | _ => none
    | some (.slice e) => match x with
      | .str a => match P.underlying e with
        | some (.int .u8) => some (newRowL 1 (bytesL a) h)
        | _ => none
      | .sl r hi sz xs => match P.underlying e with
        | some (.int .u8) => if src = dst ∧ r ≠ 0 ∧ h.lor ≤ r ∧ h.row[r]? = some hi then some (.sl r hi sz xs, { h with row := h.row.set r hi }) else none
        | _ => none
      | _ => none
    | _ => none

def intV : LV → Option Int
  | .int _ n => some n
  | _ => none
def boundL (v : Option LV) (d : Nat) (hi : Nat) : Option Nat :=
  match v with
  | none => some d
  | some (.int _ n) => if 0 ≤ n ∧ n ≤ hi then some n.toNat else none
  | some _ => none

/-- 'x[lo:hi]'. -/
def sliceL (P : Program) (t : TypeId) (x : LV) (lo hi : Option LV) (h : H) : Option (LV × H) :=
  match P.underlying t with
  | some (.slice e) => match sizeT P e with
    | none => none
    | some sz => match x with
      | .nils => match boundL hi 0 0 with
        | some q => match boundL lo 0 q with
          | some _ => some (.nils, h)
          | none => none
        | none => none
      | .sm m n sz' => if sz' = sz ∧ lo.isNone = true then match boundL hi n n with
        | some q => some (.sm m q sz, h)
        | none => none else none
      | .sl r p sz' xs => if sz' = sz then match boundL hi xs.length xs.length with
        | some q => match boundL lo 0 q with
          | some l => some (if q = xs.length ∧ l < q then .sl r p sz (xs.drop l) else .sl 0 0 sz ((xs.take q).drop l), h)
          | none => none
        | none => none else none
      | _ => none
  | some .string => match x with
    | .str s => match boundL hi s.size s.size with
      | some q => match boundL lo 0 q with
        | some l => some (.str (s.extract l q), h)
        | none => none
      | none => none
    | _ => none
  | some (.array n e) => match sizeT P e, x with
    | some sz, .ptr b off => match h.box[b]? with
      | some B => if (B.ro = true ∨ h.lob ≤ b) ∧ off + n * sz ≤ B.cells.length ∧ 0 < sz ∧ B.cells.all (·.one) = true then match boundL hi n n with
        | some q => match boundL lo 0 q with
          | some l => match chunkL P e sz n (B.cells.drop off) with
            | some xs => some (.sl 0 0 sz ((xs.take q).drop l), if B.ro = true then h else { h with box := h.box.set b ⟨true, B.cells⟩ })
            | none => none
          | none => none
        | none => none else none
      | none => none
    | _, _ => none
  | _ => none

/-- 'x.(T)', with its second result, where x is a T. -/
def assertL (P : Program) (t : TypeId) (ok : Bool) (x : LV) : Option LV :=
  match x, P.underlying t with
  | .iface u v, some (.struct _) => if u = t ∧ ok = true then some (.tup [v, .bool true]) else none
  | _, _ => none

/-- The address of a part of what is only read. -/
def subL (P : Program) (t : TypeId) (v : LV) (off : Nat) : Option LV :=
  match partL P t v.cells off with
  | some c => if isAggT P t = some true ∨ c.one = true then some (.cptr c) else none
  | none => none

def fieldAddrL (P : Program) (t : TypeId) (x : LV) (f : Nat) : Option LV :=
  match P.underlying t with
  | some (.struct fields) => match fields[f]? with
    | some fd => match sizeT P fd.type with
      | some (_ + 1) => match x with
        | .ptr b off => some (.ptr b (off + fd.offset))
        | .cptr v => subL P fd.type v fd.offset
        | _ => none
      | _ => none
    | none => none
  | _ => none

def fieldL (P : Program) (t : TypeId) (x : LV) (f : Nat) : Option LV :=
  match P.underlying t with
  | some (.struct fields) => match fields[f]? with
    | some fd => match x with
      | .agg cs => partL P fd.type cs fd.offset
      | _ => none
    | none => none
  | _ => none

def indexAddrL (P : Program) (t : TypeId) (x i : LV) : Option LV :=
  match i with
  | .int _ n => match P.underlying t with
    | some (.slice e) => match x with
      | .sl _ _ sz xs => if sizeT P e = some sz ∧ 0 ≤ n then (xs[n.toNat]?).map .cptr else none
      | .sm m len sz => if sizeT P e = some sz ∧ 0 ≤ n ∧ n < len then some (.pm m (n.toNat * sz)) else none
      | _ => none
    | some (.array len e) => match sizeT P e with
      | some sz => if 0 ≤ n ∧ n < len then match x with
        | .ptr b off => some (.ptr b (off + n.toNat * sz))
        | .cptr v => subL P e v (n.toNat * sz)
        | _ => none else none
      | none => none
    | _ => none
  | _ => none

def indexL (P : Program) (t : TypeId) (x i : LV) : Option LV :=
  match i with
  | .int _ n => match P.underlying t with
    | some (.array len e) => match x, sizeT P e with
      | .agg cs, some sz => if 0 ≤ n ∧ n < len then partL P e cs (n.toNat * sz) else none
      | _, _ => none
    | some .string => match x with
      | .str s => if 0 ≤ n then (s.data[n.toNat]?).map fun b => .int .u8 b.toNat else none
      | _ => none
    | _ => none
  | _ => none

def lenL (P : Program) (t : TypeId) (x : LV) : Option LV :=
  match P.underlying t with
  | some .string => match x with
    | .str s => some (.int .i64 s.size)
    | _ => none
  | some (.slice _) => match x with
    | .nils => some (.int .i64 0)
    | .sl _ _ _ xs => some (.int .i64 xs.length)
    | .nilm => some (.int .i64 0)
    | .sm _ n _ => some (.int .i64 n)
    | _ => none
  | some (.array n _) => some (.int .i64 n)
  | some (.pointer a) => match P.underlying a with
    | some (.array n _) => some (.int .i64 n)
    | _ => none
  | _ => none

def max2L : LV → LV → Option LV
  | .int k x, .int _ y => some (.int k (if y > x then y else x))
  | _, _ => none
def min2L : LV → LV → Option LV
  | .int k x, .int _ y => some (.int k (if y < x then y else x))
  | _, _ => none
def foldL (f : LV → LV → Option LV) : LV → List LV → Option LV
  | x, [] => some x
  | x, y :: l => match f x y with
    | some z => foldL f z l
    | none => none

/-- The elements of what is appended. -/
def elemsL (sz : Nat) : LV → Option (List LV)
  | .nils => some []
  | .sl _ _ sz' xs => if sz' = sz then some xs else none
  | .str s => if sz = 1 then some (bytesL s) else none
  | _ => none

def appendL (P : Program) (t u : TypeId) (s x : LV) (h : H) : Option (LV × H) :=
  match P.underlying t, (match P.underlying u with
    | some .string => true
    | some (.slice _) => true
    | _ => false) with
  | some (.slice e), true => match sizeT P e, bytesT P e, zeroL P e with
    | some sz, some by_, some z => if z.known = true ∧ z.cells.length = sz ∧ 0 < sz ∧ 0 < by_ then match elemsL sz x with
      | some [] => match s with
        | .nils => some (.nils, h)
        | .sl _ _ _ _ => some (s, h)
        | _ => none
      | some ys => match s with
        | .nilm => if (2 * ys.length + 192) * by_ ≤ 2 ^ 48 then some (.sm h.box.length ys.length sz, { h with box := h.box ++ [⟨false, ys.flatMap (·.cells)⟩] }) else none
        | .sm m n sz' => match h.box[m]? with
          | some B => if sz' = sz ∧ h.lob ≤ m ∧ B.cells.isEmpty = false ∧ n * sz ≤ B.cells.length ∧ (2 * (n + ys.length) + 192) * by_ ≤ 2 ^ 48 then
              some (.sm h.box.length (n + ys.length) sz, { h with box := h.box.set m ⟨true, []⟩ ++ [⟨false, B.cells.take (n * sz) ++ ys.flatMap (·.cells)⟩] }) else none
          | none => none
        | .nils => if (2 * ys.length + 192) * by_ ≤ 2 ^ 48 then some (newRowL sz ys h) else none
        | .sl r p sz' xs => if sz' = sz ∧ r ≠ 0 ∧ h.lor ≤ r ∧ h.row[r]? = some p ∧ (2 * (xs.length + ys.length) + 192) * by_ ≤ 2 ^ 48 then
            some (.sl r (p + ys.length) sz (xs ++ ys), { h with row := h.row.set r (p + ys.length) }) else none
        | _ => none
      | none => none else none
    | _, _, _ => none
  | _, _ => none

end Go.LM
