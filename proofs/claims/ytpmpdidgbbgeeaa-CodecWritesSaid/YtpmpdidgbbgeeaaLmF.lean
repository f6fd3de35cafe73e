import Derived.Test.YtpmpdidgbbgeeaaLmE
namespace Go.LM
variable {P : Program} {G : Gh} {w : World}

/-- The same index, and values that are alike. -/
inductive Parts (G : Gh) (w : World) : List (Nat × LV) → List (Nat × Value) → Prop
  | nil : Parts G w [] []
  | cons {i : Nat} {v : LV} {u : Value} {l : List (Nat × LV)} {m : List (Nat × Value)} (h : VR G w v u) (hs : Parts G w l m) : Parts G w ((i, v) :: l) ((i, u) :: m)

theorem foldl_set (off : Nat) : ∀ (l : List Value) (k : Nat) (a : Array Value),
    ((l.zipIdx k).foldl (fun (cs : Array Value) (x : Value × Nat) => cs.setIfInBounds (off + x.2) x.1) a).toList = setAllV a.toList (off + k) l := by
  intro l
  induction l with
  | nil => intro k a; rfl
  | cons v l ih =>
    intro k a
    simp only [List.zipIdx_cons, List.foldl_cons, setAllV]
    rw [ih]
    simp [Nat.add_assoc]

theorem fill_ok {place : Nat → Option (Nat × Nat)} : ∀ {parts : List (Nat × LV)} {parts' : List (Nat × Value)} {cells r : List LV} {a : Array Value},
    fillL place cells parts = some r → VRs G w cells a.toList → Parts G w parts parts' →
    ∃ b, Instr.fill place a parts' = some b ∧ VRs G w r b.toList := by
  intro parts
  induction parts with
  | nil =>
    intro parts' cells r a h hv hp
    cases hp
    simp only [fillL] at h; cases h
    exact ⟨a, rfl, hv⟩
  | cons p parts ih =>
    intro parts' cells r a h hv hp
    obtain ⟨i, v⟩ := p
    cases hp with
    | cons hvv h2 =>
      rename_i v' ps'
      simp only [fillL] at h
      cases hpl : place i with
      | none => rw [hpl] at h; cases h
      | some x =>
        obtain ⟨off, size⟩ := x
        rw [hpl] at h; dsimp only at h
        split at h
        · rename_i hc
          obtain ⟨k1, k2, k3⟩ := hc
          have hvc := hvv.cells k1
          have hlen : v'.cells.size = v.cells.length := by simpa using hvc.1.symm
          have hal : cells.length = a.size := by simpa using hv.1
          have hset := setAll_vrs hv hvc off
          obtain ⟨b, hb, hr⟩ := ih (parts' := ps') (a := v'.cells.zipIdx.foldl (fun cs (c, j) => cs.setIfInBounds (off + j) c) a) h (by
            have := foldl_set off v'.cells.toList 0 a
            simp only [Nat.add_zero] at this
            rw [← Array.foldl_toList, Array.toList_zipIdx, this]
            exact hset) h2
          refine ⟨b, ?_, hr⟩
          simp only [Instr.fill, hpl]
          rw [if_neg (by simp; omega)]
          exact hb
        · cases h

theorem fill_size {place : Nat → Option (Nat × Nat)} : ∀ {ps : List (Nat × Value)} {a b : Array Value}, Instr.fill place a ps = some b → b.size = a.size := by
  intro ps
  induction ps with
  | nil => intro a b h; simp [Instr.fill] at h; rw [h]
  | cons p ps ih =>
    intro a b h
    obtain ⟨i, v⟩ := p
    simp only [Instr.fill] at h
    split at h
    · cases h
    · rename_i off size _
      split at h
      · cases h
      · rw [ih h]
        have := congrArg List.length (foldl_set off v.cells.toList 0 a)
        rw [setAllV_length] at this
        rw [← Array.foldl_toList, Array.toList_zipIdx]
        simpa using this

theorem places_ok {fs : List Field} {l : List (Nat × Nat)} (h : placesL P fs = some l) :
    (fs.mapM (fun f => do pure (f.offset, ← sizeOf f.type) : Field → Sem (Nat × Nat))).run P w = .ok l w := by
  induction fs generalizing l with
  | nil => cases h; simp
  | cons f fs ih =>
    unfold placesL at h
    split at h
    · rename_i n l' h1 h2
      cases h
      have ih' := ih h2
      simp only [List.mapM_cons, Sem.run_bind, run_size h1, Result.andThen_ok, Sem.run_pure]
      rw [ih']; rfl
    · cases h

theorem build_ok {t : TypeId} {parts : List (Nat × LV)} {parts' : Array (Nat × Value)} {v : LV} (h : buildL P t parts = some v)
    (hp : Parts G w parts parts'.toList) : ∃ u, (Instr.build t parts').run P w = .ok u w ∧ VR G w v u := by
  unfold buildL at h
  cases hz : zeroL P t with
  | none => rw [hz] at h; cases h
  | some z =>
    rw [hz] at h; dsimp only at h
    split at h
    · rename_i hk
      obtain ⟨z', hz', hzo⟩ := run_zeroL (w := w) hz
      have hzc := (ofV_vr (G := G) (w := w) hzo).cells hk
      cases hu : P.underlying t with
      | none => rw [hu] at h; cases h
      | some d =>
        rw [hu] at h
        cases d <;> try (cases h; done)
        case struct fields =>
          dsimp only at h
          cases hpl : placesL P fields.toList with
          | none => rw [hpl] at h; cases h
          | some places =>
            rw [hpl] at h; dsimp only at h
            cases hf : fillL (places[·]?) z.cells parts with
            | none => rw [hf] at h; cases h
            | some r =>
              rw [hf] at h; cases h
              obtain ⟨b, hb, hr⟩ := fill_ok hf hzc hp
              refine ⟨.agg b, ?_, VRs.toAgg hr⟩
              have hpm := places_ok (P := P) (w := w) hpl
              have hm : (fields.mapM (fun f => do pure (f.offset, ← sizeOf f.type) : Field → Sem (Nat × Nat))).run P w = .ok places.toArray w := by
                rw [Array.mapM_eq_mapM_toList, Sem.run_map, hpm]; rfl
              simp only [Instr.build, Sem.run_bind, hz', Result.andThen_ok, run_und hu, hm]
              have : (fun (i : Nat) => places.toArray[i]?) = (fun (i : Nat) => places[i]?) := by funext i; simp
              simp only [this]
              rw [hb]; rfl
        case array n e =>
          dsimp only at h
          cases hs : sizeT P e with
          | none => rw [hs] at h; cases h
          | some size =>
            rw [hs] at h; dsimp only at h
            cases hf : fillL (fun i => some (i * size, size)) z.cells parts with
            | none => rw [hf] at h; cases h
            | some r =>
              rw [hf] at h; cases h
              obtain ⟨b, hb, hr⟩ := fill_ok hf hzc hp
              refine ⟨.agg b, ?_, VRs.toAgg hr⟩
              simp only [Instr.build, Sem.run_bind, hz', Result.andThen_ok, run_und hu, run_size hs]
              rw [hb]; rfl
    · cases h

/-! ### rows -/
theorem chunk_ok {e : TypeId} {sz : Nat} (hsz : sizeT P e = some sz) : ∀ {n : Nat} {cs xs : List LV} {us : List Value}, chunkL P e sz n cs = some xs → VRs G w cs us → n * sz ≤ cs.length →
    xs.length = n ∧ (∀ i (h : i < xs.length), xs[i].cells.length = sz) ∧ (∀ i (h : i < xs.length), xs[i].known = true) ∧
      ∀ i (h : i < xs.length) j (hj : j < xs[i].cells.length), ∃ u, us[i * sz + j]? = some u ∧ VR G w xs[i].cells[j] u := by
  intro n
  induction n with
  | zero =>
    intro cs xs us h _ _
    simp only [chunkL] at h; cases h
    exact ⟨rfl, fun i h => absurd h (by simp), fun i h => absurd h (by simp), fun i h => absurd h (by simp)⟩
  | succ n ih =>
    intro cs xs us h hv hl
    have hl' : n * sz + sz ≤ cs.length := by rw [Nat.add_mul] at hl; omega
    simp only [chunkL] at h
    split at h
    · rename_i l h1 h2
      split at h
      · rename_i hle
        cases h
        obtain ⟨e1, e2, e3, e4⟩ := ih h2 (hv.drop sz) (by simp; omega)
        refine ⟨by simp [e1], ?_, ?_, ?_⟩
        · intro i hi
          cases i with
          | zero => simp [LV.cells, hle]
          | succ i => exact e2 i (by simpa using hi)
        · intro i hi
          cases i with
          | zero => rfl
          | succ i => exact e3 i (by simpa using hi)
        · intro i hi j hj
          cases i with
          | zero =>
            simp [LV.cells] at hj
            refine ⟨us[j]'(by have := hv.1; omega), by simp, ?_⟩
            have := hv.2 j (by omega) (by have := hv.1; omega)
            simpa [LV.cells] using this
          | succ i =>
            obtain ⟨u, hu, hr⟩ := e4 i (by simpa using hi) j hj
            refine ⟨u, ?_, hr⟩
            rw [List.getElem?_drop] at hu
            rw [← hu]; congr 1; rw [Nat.add_mul]; omega
      · cases h
    · rename_i l h1 h2
      split at h
      · rename_i c cs'
        split at h
        · rename_i hc
          obtain ⟨rfl, hone⟩ := hc
          cases h
          have hcc : c.cells = [c] := by cases c <;> first | rfl | simp [LV.one] at hone
          have hkn : c.known = true := by cases c <;> first | rfl | simp [LV.one] at hone
          obtain ⟨e1, e2, e3, e4⟩ := ih h2 (hv.drop 1) (by simp at hl ⊢; omega)
          refine ⟨by simp [e1], ?_, ?_, ?_⟩
          · intro i hi
            cases i with
            | zero => simp [hcc]
            | succ i => exact e2 i (by simpa using hi)
          · intro i hi
            cases i with
            | zero => exact hkn
            | succ i => exact e3 i (by simpa using hi)
          · intro i hi j hj
            cases i with
            | zero =>
              simp only [List.getElem_cons_zero, hcc, List.length_singleton] at hj
              obtain rfl : j = 0 := by omega
              have := hv.1
              refine ⟨us[0]'(by simp at this; omega), by simp, ?_⟩
              have := hv.2 0 (by simp) (by simp at this; omega)
              simpa [hcc] using this
            | succ i =>
              obtain ⟨u, hu, hr⟩ := e4 i (by simpa using hi) j hj
              refine ⟨u, ?_, hr⟩
              rw [List.getElem?_drop] at hu
              rw [← hu]; congr 1; omega
        · cases h
      · cases h
    · cases h

theorem rep_vrs {z : List LV} {zs : List Value} (h : VRs G w z zs) : ∀ n, VRs G w (repL z n) (List.flatten (List.replicate n zs))
  | 0 => .nil
  | n + 1 => by rw [List.replicate_succ, List.flatten_cons]; exact h.append (rep_vrs h n)
theorem flatten_rep_get (zs : List Value) (hz : 0 < zs.length) : ∀ (n i : Nat), i < n * zs.length → (List.flatten (List.replicate n zs))[i]? = zs[i % zs.length]?
  | 0, i, h => by simp at h
  | n + 1, i, h => by
    rw [List.replicate_succ, List.flatten_cons]
    by_cases hi : i < zs.length
    · rw [List.getElem?_append_left hi, Nat.mod_eq_of_lt hi]
    · rw [List.getElem?_append_right (by omega), flatten_rep_get zs hz n (i - zs.length) (by rw [Nat.add_mul] at h; omega)]
      rw [Nat.mod_eq_sub_mod (a := i) (by omega)]
theorem flatten_rep_len (zs : List Value) (n : Nat) : (List.flatten (List.replicate n zs)).length = n * zs.length := by
  induction n with
  | zero => simp
  | succ n ih => rw [List.replicate_succ, List.flatten_cons, List.length_append, ih, Nat.add_mul]; omega

/-- The slice of a whole new row. -/
theorem newRow_vr {G' : Gh} {w' : World} {r blk cap : Nat} {xs : List LV} {sz : Nat} {c : Array Value} {ty : TypeId} {fr : Nat × Nat} {us : List Value}
    (hz : ∀ i (h : i < xs.length), xs[i].cells.length = sz)
    (hv : ∀ i (h : i < xs.length) j (hj : j < xs[i].cells.length), ∃ u, us[i * sz + j]? = some u ∧ VR G' w' xs[i].cells[j] u) (hone : ∀ u ∈ us, u.oneCell' = true)
    (hb : w'.heap[blk]? = some (.cells c ty fr)) (hu : ∀ i, i < xs.length * sz → c[i]? = us[i]?)
    (hp : ∀ o, o < xs.length * sz → G'.prot blk o) (hcap : xs.length ≤ cap)
    (hr : G'.row r = some ⟨blk, xs.length, xs.length * sz, cap * sz⟩) : VR G' w' (.sl r xs.length sz xs) (.slice (some ⟨blk, 0, none⟩) xs.length cap) := by
  have hlt : ∀ i, i < xs.length → ∀ j, j < sz → i * sz + j < xs.length * sz := by
    intro i hi j hj
    calc i * sz + j < i * sz + sz := by omega
      _ = (i + 1) * sz := by rw [Nat.add_mul]; omega
      _ ≤ xs.length * sz := Nat.mul_le_mul_right _ hi
  refine .sl (fun i j => (us[i * sz + j]?).getD undef) hcap hz ?_ ?_ ?_
  · intro i hi j hj
    obtain ⟨u, h1, h2⟩ := hv i hi j (by rw [hz i hi]; exact hj)
    refine ⟨?_, by simpa using hp _ (hlt i hi j hj), ?_⟩
    · rw [cell_cells hb, Nat.zero_add, hu _ (hlt i hi j hj), h1]; rfl
    · rw [h1]; exact hone u (List.mem_of_getElem? h1)
  · intro i hi j hj
    obtain ⟨u, h1, h2⟩ := hv i hi j hj
    rw [h1]; exact h2
  · intro _
    exact ⟨_, hr, Nat.le_refl _, fun _ => ⟨rfl, by simp, by simp⟩⟩

theorem buildSlice_ok {base tb tr : Nat} {t : TypeId} {len : Nat} {parts : List (Nat × LV)} {parts' : Array (Nat × Value)} {v : LV} {h h' : H}
    (hl : buildSliceL P t len parts h = some (v, h')) (hr : HR base G w h) (hf : Fresh G h tb tr) (ht : h'.row.length ≤ tr)
    (hp : Parts G w parts parts'.toList) :
    ∃ u w' G', (Instr.buildSlice t len parts').run P w = .ok u w' ∧ VR G' w' v u ∧ Step base G w h G' w' h' := by
  unfold buildSliceL at hl
  cases hu : P.underlying t with
  | none => rw [hu] at hl; cases hl
  | some d =>
    rw [hu] at hl
    cases d <;> try (cases hl; done)
    rename_i e
    dsimp only at hl
    cases hs : sizeT P e with
    | none => rw [hs] at hl; cases hl
    | some sz =>
      cases hz : zeroL P e with
      | none => rw [hs, hz] at hl; cases hl
      | some z =>
        rw [hs, hz] at hl; dsimp only at hl
        split at hl
        · rename_i hc
          obtain ⟨k1, k2, k3, k4⟩ := hc
          cases hfl : fillL (fun i => some (i * sz, sz)) (repL z.cells len) parts with
          | none => rw [hfl] at hl; cases hl
          | some cells =>
            rw [hfl] at hl; dsimp only at hl
            split at hl
            case isFalse => cases hl
            rename_i hall
            cases hch : chunkL P e sz len cells with
            | none => rw [hch] at hl; cases hl
            | some xs =>
              rw [hch] at hl
              simp only [newRowL, Option.some.injEq, Prod.mk.injEq] at hl
              obtain ⟨rfl, rfl⟩ := hl
              obtain ⟨z', hz', hzo⟩ := run_zeroL (w := w) hz
              have hzc := (ofV_vr (G := G) (w := w) hzo).cells k2
              have hzl : z'.cells.size = sz := by have := hzc.1; simp at this; omega
              let Z : Array Value := if len * sz = 0 then #[] else z'.cells
              let A : Array Value := (Array.range (len * sz)).map (Z[· % Z.size]!)
              have hA : VRs G w (repL z.cells len) A.toList := by
                have hrep := rep_vrs hzc len
                have : A.toList = List.flatten (List.replicate len z'.cells.toList) := by
                  apply List.ext_getElem?
                  intro i
                  by_cases hi : i < len * sz
                  · have h0 : ¬ len * sz = 0 := by omega
                    rw [flatten_rep_get _ (by simp; omega) _ _ (by simp [hzl]; exact hi)]
                    have hm : i % z'.cells.size < z'.cells.size := Nat.mod_lt _ (by omega)
                    have hAi : A.toList[i]? = some (z'.cells[i % z'.cells.size]!) := by simp [A, Z, h0, hi]
                    rw [hAi, Array.length_toList, Array.getElem?_toList, Array.getElem?_eq_getElem hm, getElem!_pos z'.cells _ hm]
                  · rw [List.getElem?_eq_none (by simp [A]; omega), List.getElem?_eq_none (by rw [flatten_rep_len]; simp [hzl]; omega)]
                rw [this]; exact hrep
              obtain ⟨b, hb, hbr⟩ := fill_ok hfl hA hp
              have hcl : len * sz ≤ cells.length := by
                have h1 : cells.length = b.toList.length := hbr.1
                have h2 : b.size = A.size := fill_size hb
                simp [h1, h2, A]
              obtain ⟨e1, e2, e3, e4⟩ := chunk_ok hs hch hbr hcl
              have hbs : xs.length * sz ≤ b.size := by
                have h1 : cells.length = b.toList.length := hbr.1
                simp at h1; rw [e1]; omega
              have hstep := Step.newRow (w := w) (w' := { w with heap := w.heap.push (.cells b e (0, 0)) }) (c := b) (ty := e) (fr := (0, 0)) (pos := xs.length) (fin := xs.length * sz) (cap := xs.length * sz)
                rfl ⟨rfl, rfl, rfl⟩ hr (hf.row _ (Nat.le_refl _) (by simp at ht; omega)) (Nat.le_refl _) hbs (fun _ _ => Or.inl rfl)
              refine ⟨.slice (some ⟨w.heap.size, 0, none⟩) len len, _, _, ?_, ?_, hstep⟩
              · simp only [Instr.buildSlice, Sem.run_bind, run_und hu, Result.andThen_ok, run_size hs]
                rw [if_neg (by omega)]
                have tail : ∀ Z' : Array Value, Z' = Z → Sem.run P (match Instr.fill (fun i => some (i * sz, sz)) (Array.map (fun x => Z'[x % Z'.size]!) (Array.range (len * sz))) parts'.toList with
                    | some cells => do
                      let a ← newRow e cells
                      pure (Value.slice (some a) len len)
                    | _ => stuck "buildSlice: a part of the wrong size") w =
                    .ok (Value.slice (some ⟨w.heap.size, 0, none⟩) len len) { w with heap := w.heap.push (.cells b e (0, 0)) } := by
                  rintro _ rfl
                  have hb' : Instr.fill (fun i => some (i * sz, sz)) (Array.map (fun x => Z[x % Z.size]!) (Array.range (len * sz))) parts'.toList = some b := hb
                  rw [hb']
                  simp [newRow]
                by_cases h0 : len * sz = 0
                · rw [if_pos h0]
                  exact tail #[] (by simp [Z, h0])
                · rw [if_neg h0]
                  simp only [Sem.run_bind, hz', Result.andThen_ok, Sem.run_pure]
                  exact tail z'.cells (by simp [Z, h0])
              · subst e1
                exact newRow_vr (us := b.toList) (c := b) e2 (fun i hi j hj => by obtain ⟨u, h1, h2⟩ := e4 i hi j hj; exact ⟨u, h1, h2.mono hstep.ext⟩)
                  (fun u hu => by
                    obtain ⟨i, hi, rfl⟩ := List.getElem_of_mem hu
                    have hi' : i < cells.length := by rw [hbr.1]; exact hi
                    exact one_cell (hbr.2 i hi' hi) (List.all_eq_true.1 hall _ (List.getElem_mem _)))
                  (push_new rfl) (fun i _ => by simp) (fun o ho => Or.inr ⟨rfl, ho⟩) (Nat.le_refl _) (by simp)
        · cases hl

end Go.LM
