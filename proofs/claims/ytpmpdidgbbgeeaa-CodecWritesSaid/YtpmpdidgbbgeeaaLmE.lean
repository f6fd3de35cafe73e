import Derived.Test.YtpmpdidgbbgeeaaLmD
import Derived.Laws.Sem
import Derived.Laws.Cells
namespace Go.LM
variable {P : Program} {G : Gh} {w : World}

theorem run_und {t : TypeId} {d : TypeDesc} (h : P.underlying t = some d) : (underlying t).run P w = .ok d w := by
  simp [underlying, h]
theorem run_size {t : TypeId} {n : Nat} (h : sizeT P t = some n) : (sizeOf t).run P w = .ok n w := by
  unfold sizeT at h
  cases hi : P.info? t with
  | none => rw [hi] at h; cases h
  | some i => rw [hi] at h; cases h; simp [sizeOf, typeInfo, hi]
theorem run_isAgg {t : TypeId} {b : Bool} (h : isAggT P t = some b) : (isAgg t).run P w = .ok b w := by
  unfold isAggT at h
  cases hu : P.underlying t with
  | none => rw [hu] at h; cases h
  | some d => rw [hu] at h; cases d <;> simp at h <;> subst h <;> simp [isAgg, run_und hu]

theorem ofV1_vr {u : Value} {l : LV} (h : ofV1 u = some l) : VR G w l u := by
  unfold ofV1 at h
  split at h <;> first
    | (cases h; constructor; done)
    | (cases h)
theorem ofVs_vr : ∀ {us : List Value} {l : List LV}, ofVs us = some l → VRs G w l us
  | [], l, h => by cases h; exact .nil
  | u :: us, l, h => by
    unfold ofVs at h
    split at h
    · rename_i a b h1 h2
      cases h
      exact .cons (ofV1_vr h1) (ofVs_vr h2)
    · cases h
theorem ofV_vr {u : Value} {l : LV} (h : ofV u = some l) : VR G w l u := by
  unfold ofV at h
  split at h
  · rename_i cs
    cases hv : ofVs cs.toList with
    | none => rw [hv] at h; cases h
    | some ls =>
      rw [hv] at h; cases h
      exact VRs.toAgg (ofVs_vr hv)
  · exact ofV1_vr h
theorem run_zeroL {t : TypeId} {l : LV} (h : zeroL P t = some l) : ∃ z, (zeroValue t).run P w = .ok z w ∧ ofV z = some l := by
  unfold zeroL at h
  cases hi : P.info? t with
  | none => rw [hi] at h; cases h
  | some i =>
    rw [hi] at h
    cases hz : i.zero with
    | none => simp [hz] at h
    | some z => exact ⟨z, by simp [zeroValue, typeInfo, hi, hz], by simpa [hz] using h⟩

theorem part_ok {t : TypeId} {cs : List LV} {off : Nat} {v : LV} {a : Array Value} (h : partL P t cs off = some v) (hv : VRs G w cs a.toList) :
    ∃ u, (part t a off).run P w = .ok u w ∧ VR G w v u := by
  unfold partL at h
  cases hb : isAggT P t with
  | none => rw [hb] at h; cases h
  | some b =>
    rw [hb] at h
    cases b with
    | true =>
      dsimp only at h
      cases hn : sizeT P t with
      | none => rw [hn] at h; cases h
      | some n =>
        rw [hn] at h; dsimp only at h
        split at h
        · cases h
          refine ⟨.agg (a.extract off (off + n)), by simp [part, run_isAgg hb, run_size hn], VRs.toAgg ?_⟩
          have := (hv.drop off).take n
          simpa [Array.toList_extract, List.extract] using this
        · cases h
    | false =>
      dsimp only at h
      obtain ⟨u, hu, hr⟩ := hv.get h
      refine ⟨u, ?_, hr⟩
      have : a[off]? = some u := by simpa using hu
      simp [part, run_isAgg hb, this]

theorem add_off (b o n : Nat) : (⟨b, o, none⟩ : Addr).add n = ⟨b, o + n, none⟩ := by
  unfold Addr.add; split
  · rename_i h; subst h; rfl
  · rfl

/-- Reading out of a row of cells. -/
theorem loadVar_ok {t : TypeId} {cs : List LV} {off : Nat} {v : LV} {blk o : Nat} {us : List Value} (h : partL P t cs off = some v) (hv : VRs G w cs us)
    (hc : ∀ i u, us[i]? = some u → w.cell? ⟨blk, o + i, none⟩ = some u) : ∃ u, (loadVar t ⟨blk, o + off, none⟩).run P w = .ok u w ∧ VR G w v u := by
  unfold partL at h
  cases hb : isAggT P t with
  | none => rw [hb] at h; cases h
  | some b =>
    rw [hb] at h
    cases b with
    | true =>
      dsimp only at h
      cases hn : sizeT P t with
      | none => rw [hn] at h; cases h
      | some n =>
        rw [hn] at h; dsimp only at h
        split at h
        · rename_i hle
          cases h
          have hl : ((us.drop off).take n).length = n := by
            have := hv.1; simp; omega
          have hlc := run_loadCells_list (P := P) (w := w) ⟨blk, o + off, none⟩ ((us.drop off).take n) (by
            intro j u hj
            rw [add_off]
            have hjn : j < n := by
              obtain ⟨h1, _⟩ := List.getElem?_eq_some_iff.1 hj; omega
            rw [List.getElem?_take_of_lt hjn, List.getElem?_drop] at hj
            rw [Nat.add_assoc]
            exact hc _ _ hj)
          rw [hl] at hlc
          refine ⟨.agg ((us.drop off).take n).toArray, by simp [loadVar, run_isAgg hb, run_size hn, hlc], VRs.toAgg ?_⟩
          simpa using (hv.drop off).take n
        · cases h
    | false =>
      dsimp only at h
      obtain ⟨u, hu, hr⟩ := hv.get h
      exact ⟨u, by simp [loadVar, run_isAgg hb, hc _ _ hu], hr⟩

theorem cptr_cells {v : LV} {blk off : Nat} {u : Nat → Value} (hc : ∀ i, i < v.cells.length → w.cell? ⟨blk, off + i, none⟩ = some (u i) ∧ G.prot blk (off + i))
    (hv : ∀ i (h : i < v.cells.length), VR G w v.cells[i] (u i)) :
    VRs G w v.cells ((List.range v.cells.length).map u) ∧ ∀ i x, ((List.range v.cells.length).map u)[i]? = some x → w.cell? ⟨blk, off + i, none⟩ = some x := by
  refine ⟨⟨by simp, fun i h1 h2 => by simpa using hv i h1⟩, fun i x hx => ?_⟩
  obtain ⟨h1, h2⟩ := List.getElem?_eq_some_iff.1 hx
  simp at h1 h2
  rw [← h2]; exact (hc i h1).1

theorem load_ok {base : Nat} {t : TypeId} {p v : LV} {h : H} {p' : Value} (hl : loadL P t p h = some v) (hr : HR base G w h) (hp : VR G w p p') :
    ∃ u, (Instr.loadAt t p').run P w = .ok u w ∧ VR G w v u := by
  unfold loadL at hl
  cases hp with
  | ptr hb =>
    rename_i b off pb
    dsimp only at hl
    cases hB : h.box[b]? with
    | none => rw [hB] at hl; cases hl
    | some B =>
      rw [hB] at hl; dsimp only at hl
      obtain ⟨c, ty, hc, hv, _⟩ := hr.box b pb B hb hB
      obtain ⟨u, hu, hvr⟩ := loadVar_ok (blk := pb) (o := 0) hl hv (fun i u hi => by rw [cell_cells hc]; simpa using hi)
      exact ⟨u, by simpa [Instr.loadAt, Instr.sureAddr] using hu, hvr⟩
  | cptr u hc hv =>
    rename_i v0 blk off
    dsimp only at hl
    obtain ⟨h1, h2⟩ := cptr_cells hc hv
    obtain ⟨u, hu, hvr⟩ := loadVar_ok (blk := blk) (o := off) hl h1 h2
    exact ⟨u, by simpa [Instr.loadAt, Instr.sureAddr] using hu, hvr⟩
  | _ => cases hl

/-! ### stores -/
theorem one_cell {v : LV} {u : Value} (h : VR G w v u) (h1 : v.one = true) : u.oneCell' = true := by
  cases h <;> first | rfl | (simp [LV.one] at h1)

def setAllV (cells : List Value) : Nat → List Value → List Value
  | _, [] => cells
  | off, v :: vs => setAllV (cells.set off v) (off + 1) vs
theorem setAll_vrs {cells vs : List LV} {a us : List Value} (h : VRs G w cells a) (h' : VRs G w vs us) : ∀ off, VRs G w (setAll cells off vs) (setAllV a off us) := by
  induction vs generalizing cells a us with
  | nil =>
    intro off
    cases us with
    | nil => exact h
    | cons u us => simp [VRs] at h'
  | cons v vs ih =>
    intro off
    cases us with
    | nil => simp [VRs] at h'
    | cons u us => exact ih (h.set off h'.head) h'.tail (off + 1)
theorem setAllV_length (us : List Value) : ∀ (a : List Value) (off : Nat), (setAllV a off us).length = a.length := by
  induction us with
  | nil => intro a off; rfl
  | cons u us ih => intro a off; simp [setAllV, ih]
theorem setAllV_ne (us : List Value) : ∀ (a : List Value) (off i : Nat), (i < off ∨ off + us.length ≤ i) → (setAllV a off us)[i]? = a[i]? := by
  induction us with
  | nil => intro a off i _; rfl
  | cons u us ih =>
    intro a off i hi
    simp only [setAllV]
    rw [ih _ _ _ (by simp at hi; omega)]
    exact List.getElem?_set_ne (by simp at hi; omega)
theorem setAllV_at (us : List Value) : ∀ (a : List Value) (off j : Nat) (u : Value), off + us.length ≤ a.length → us[j]? = some u → (setAllV a off us)[off + j]? = some u := by
  induction us with
  | nil => intro a off j u _ h; simp at h
  | cons x us ih =>
    intro a off j u hl h
    simp only [setAllV]
    cases j with
    | zero =>
      rw [setAllV_ne _ _ _ _ (by omega)]
      simp at h; subst h
      simp at hl
      exact List.getElem?_set_self (by omega)
    | succ j =>
      have := ih (a.set off x) (off + 1) j u (by simp at hl ⊢; omega) (by simpa using h)
      rw [show off + (j + 1) = off + 1 + j by omega]; exact this

theorem setCell_heap_ne (w : World) (p : Addr) (u : Value) {i : Nat} (h : i ≠ p.block) : (w.setCell p u).heap[i]? = w.heap[i]? := by
  simp only [World.setCell, Array.getElem?_modify]
  rw [if_neg (by omega)]
theorem setCell_heap_self {w : World} {b o : Nat} {c : Array Value} {ty : TypeId} {fr : Nat × Nat} (u : Value) (h : w.heap[b]? = some (.cells c ty fr)) :
    (w.setCell ⟨b, o, none⟩ u).heap[b]? = some (.cells (c.setIfInBounds o u) ty fr) := by
  simp [World.setCell, Array.getElem?_modify, h]
theorem setCell_size (w : World) (p : Addr) (u : Value) : (w.setCell p u).heap.size = w.heap.size := by simp [World.setCell]

theorem storeCells_ok (b o : Nat) (ty : TypeId) (fr : Nat × Nat) : ∀ (us : List Value) (i : Nat) (c : Array Value) (w : World), w.heap[b]? = some (.cells c ty fr) → o + i + us.length ≤ c.size →
    (∀ j, o + i ≤ j → j < o + i + us.length → ¬ (fr.1 ≤ j ∧ j < fr.2)) → (∀ u ∈ us, u.oneCell' = true) →
    ∃ w', (storeCells ⟨b, o, none⟩ us i).run P w = .ok () w' ∧ w'.heap[b]? = some (.cells (setAllV c.toList (o + i) us).toArray ty fr) ∧ w'.heap.size = w.heap.size ∧ Sd w w' ∧ ∀ q, q ≠ b → w'.heap[q]? = w.heap[q]? := by
  intro us
  induction us with
  | nil => intro i c w hc _ _ _; exact ⟨w, by simp [storeCells], by simpa [setAllV] using hc, rfl, .refl _, fun _ _ => rfl⟩
  | cons u us ih =>
    intro i c w hc hl hf h1
    simp only [List.length_cons] at hl hf
    have hcell : w.cell? ⟨b, o + i, none⟩ = some (c[o + i]'(by omega)) := by rw [cell_cells hc]; exact Array.getElem?_eq_getElem _
    have hfr : w.frozen? ⟨b, o + i, none⟩ = false := by
      have := hf (o + i) (Nat.le_refl _) (by omega)
      simp [World.frozen?, hc]; omega
    have hst : (store ⟨b, o + i, none⟩ u).run P w = .ok () (w.setCell ⟨b, o + i, none⟩ u) := by
      rw [run_store P w _ u _ (h1 u (by simp)), hcell]; simp [hfr]
    obtain ⟨w', hr, hh, hs, hsd, hq⟩ := ih (i + 1) (c.setIfInBounds (o + i) u) (w.setCell ⟨b, o + i, none⟩ u) (setCell_heap_self u hc) (by simp; omega)
      (fun j h3 h4 => hf j (by omega) (by omega)) (fun x hx => h1 x (by simp [hx]))
    refine ⟨w', ?_, ?_, ?_, (Sd.mk rfl rfl rfl : Sd w (w.setCell ⟨b, o + i, none⟩ u)).trans hsd, ?_⟩
    · simp only [storeCells, Sem.run_bind, add_off, hst, Result.andThen_ok]; exact hr
    · rw [hh]; simp [setAllV, Nat.add_assoc]
    · rw [hs, setCell_size]
    · intro q hq1; rw [hq q hq1]; exact setCell_heap_ne _ _ _ hq1

theorem store_ok {base : Nat} {t : TypeId} {p v : LV} {h h' : H} {p' v' : Value} (hl : storeL P t p v h = some h') (hr : HR base G w h) (hp : VR G w p p') (hv : VR G w v v') :
    ∃ w', (Instr.storeAt t p' v').run P w = .ok () w' ∧ Step base G w h G w' h' := by
  unfold storeL at hl
  cases hp with
  | ptr hb =>
    rename_i b off pb
    dsimp only at hl
    cases hB : h.box[b]? with
    | none => rw [hB] at hl; cases hl
    | some B =>
      rw [hB] at hl; dsimp only at hl
      split at hl
      · rename_i hcond
        obtain ⟨k1, k2, k3, k4, k5, k6⟩ := hcond
        cases hl
        obtain ⟨c, ty, hc, hvr, _, _⟩ := hr.box b pb B hb hB
        have hvc := hv.cells k1
        have hlen : v'.cells.size = v.cells.length := by simpa using hvc.1.symm
        have hBl : B.cells.length = c.size := by simpa using hvr.1
        have hone : ∀ u ∈ v'.cells.toList, u.oneCell' = true := by
          intro u hu
          obtain ⟨i, hi, rfl⟩ := List.getElem_of_mem hu
          have hi' : i < v.cells.length := by simpa [hlen] using hi
          exact one_cell (hvc.2 i hi' hi) (List.all_eq_true.1 k3 _ (List.getElem_mem _))
        obtain ⟨w', hrun, hh, hs, hsd, hq⟩ := storeCells_ok (P := P) pb off ty (0, 0) v'.cells.toList 0 c w hc (by simp; omega) (by intro j _ _ hf; simp at hf) hone
        refine ⟨w', ?_, ?_⟩
        · simp [Instr.storeAt, Instr.sureAddr, storeVar, run_size k2, hlen, hrun]
        · refine Step.store hsd hs hq hh hr hb hB k4 k5 ?_
          simp only [Nat.add_zero]
          exact setAll_vrs hvr hvc off
      · cases hl
  | _ => cases hl

end Go.LM
