import Derived.Test.YtpmpdidgbbgeeaaLmD
import Derived.ChangeKeysEq
import Derived.Laws.BytesString
import Derived.Lib.ConvBytes
namespace Go.LM
variable {P : Program} {G : Gh} {w : World}

/-- The same index, and values that are alike. -/
inductive Parts (G : Gh) (w : World) : List (Nat × LV) → List (Nat × Value) → Prop
  | nil : Parts G w [] []
  | cons {i : Nat} {v : LV} {u : Value} {l : List (Nat × LV)} {m : List (Nat × Value)} (h : VR G w v u) (hs : Parts G w l m) : Parts G w ((i, v) :: l) ((i, u) :: m)

theorem foldl_set (off : Nat) : ∀ (l : List Value) (k : Nat) (a : Array Value),
    ((l.zipIdx k).foldl (fun (cs : Array Value) (x : Value × Nat) => cs.setIfInBounds (off + x.2) x.1) a).toList = setAllV a.toList (off + k) l := by
  intro l
  induction l with
  | nil => intro k a; rfl
  | cons v l ih =>
    intro k a
    simp only [List.zipIdx_cons, List.foldl_cons, setAllV]
    rw [ih]
    simp [Nat.add_assoc]

theorem fill_ok {place : Nat → Option (Nat × Nat)} : ∀ {parts : List (Nat × LV)} {parts' : List (Nat × Value)} {cells r : List LV} {a : Array Value},
    fillL place cells parts = some r → VRs G w cells a.toList → Parts G w parts parts' →
    ∃ b, Instr.fill place a parts' = some b ∧ VRs G w r b.toList := by
  intro parts
  induction parts with
  | nil =>
    intro parts' cells r a h hv hp
    cases hp
    simp only [fillL] at h; cases h
    exact ⟨a, rfl, hv⟩
  | cons p parts ih =>
    intro parts' cells r a h hv hp
    obtain ⟨i, v⟩ := p
    cases hp with
    | cons hvv h2 =>
      rename_i v' ps'
      simp only [fillL] at h
      cases hpl : place i with
      | none => rw [hpl] at h; cases h
      | some x =>
        obtain ⟨off, size⟩ := x
        rw [hpl] at h; dsimp only at h
        split at h
        · rename_i hc
          obtain ⟨k1, k2, k3⟩ := hc
          have hvc := hvv.cells k1
          have hlen : v'.cells.size = v.cells.length := by simpa using hvc.1.symm
          have hal : cells.length = a.size := by simpa using hv.1
          have hset := setAll_vrs hv hvc off
          obtain ⟨b, hb, hr⟩ := ih (parts' := ps') (a := v'.cells.zipIdx.foldl (fun cs (c, j) => cs.setIfInBounds (off + j) c) a) h (by
            have := foldl_set off v'.cells.toList 0 a
            simp only [Nat.add_zero] at this
            rw [← Array.foldl_toList, Array.toList_zipIdx, this]
            exact hset) h2
          refine ⟨b, ?_, hr⟩
          simp only [Instr.fill, hpl]
          rw [if_neg (by simp; omega)]
          exact hb
        · cases h

theorem fill_size {place : Nat → Option (Nat × Nat)} : ∀ {ps : List (Nat × Value)} {a b : Array Value}, Instr.fill place a ps = some b → b.size = a.size := by
  intro ps
  induction ps with
  | nil => intro a b h; simp [Instr.fill] at h; rw [h]
  | cons p ps ih =>
    intro a b h
    obtain ⟨i, v⟩ := p
    simp only [Instr.fill] at h
    split at h
    · cases h
    · rename_i off size _
      split at h
      · cases h
      · rw [ih h]
        have := congrArg List.length (foldl_set off v.cells.toList 0 a)
        rw [setAllV_length] at this
        rw [← Array.foldl_toList, Array.toList_zipIdx]
        simpa using this

theorem places_ok {fs : List Field} {l : List (Nat × Nat)} (h : placesL P fs = some l) :
    (fs.mapM (fun f => do pure (f.offset, ← sizeOf f.type) : Field → Sem (Nat × Nat))).run P w = .ok l w := by
  induction fs generalizing l with
  | nil => cases h; simp
  | cons f fs ih =>
    unfold placesL at h
    split at h
    · rename_i n l' h1 h2
      cases h
      have ih' := ih h2
      simp only [List.mapM_cons, Sem.run_bind, run_size h1, Result.andThen_ok, Sem.run_pure]
      rw [ih']; rfl
    · cases h

theorem build_ok {t : TypeId} {parts : List (Nat × LV)} {parts' : Array (Nat × Value)} {v : LV} (h : buildL P t parts = some v)
    (hp : Parts G w parts parts'.toList) : ∃ u, (Instr.build t parts').run P w = .ok u w ∧ VR G w v u := by
  unfold buildL at h
  cases hz : zeroL P t with
  | none => rw [hz] at h; cases h
  | some z =>
    rw [hz] at h; dsimp only at h
    split at h
    · rename_i hk
      obtain ⟨z', hz', hzo⟩ := run_zeroL (w := w) hz
      have hzc := (ofV_vr (G := G) (w := w) hzo).cells hk
      cases hu : P.underlying t with
      | none => rw [hu] at h; cases h
      | some d =>
        rw [hu] at h
        cases d <;> try (cases h; done)
        case struct fields =>
          dsimp only at h
          cases hpl : placesL P fields.toList with
          | none => rw [hpl] at h; cases h
          | some places =>
            rw [hpl] at h; dsimp only at h
            cases hf : fillL (places[·]?) z.cells parts with
            | none => rw [hf] at h; cases h
            | some r =>
              rw [hf] at h; cases h
              obtain ⟨b, hb, hr⟩ := fill_ok hf hzc hp
              refine ⟨.agg b, ?_, VRs.toAgg hr⟩
              have hpm := places_ok (P := P) (w := w) hpl
              have hm : (fields.mapM (fun f => do pure (f.offset, ← sizeOf f.type) : Field → Sem (Nat × Nat))).run P w = .ok places.toArray w := by
                rw [Array.mapM_eq_mapM_toList, Sem.run_map, hpm]; rfl
              simp only [Instr.build, Sem.run_bind, hz', Result.andThen_ok, run_und hu, hm]
              have : (fun (i : Nat) => places.toArray[i]?) = (fun (i : Nat) => places[i]?) := by funext i; simp
              simp only [this]
              rw [hb]; rfl
        case array n e =>
          dsimp only at h
          cases hs : sizeT P e with
          | none => rw [hs] at h; cases h
          | some size =>
            rw [hs] at h; dsimp only at h
            cases hf : fillL (fun i => some (i * size, size)) z.cells parts with
            | none => rw [hf] at h; cases h
            | some r =>
              rw [hf] at h; cases h
              obtain ⟨b, hb, hr⟩ := fill_ok hf hzc hp
              refine ⟨.agg b, ?_, VRs.toAgg hr⟩
              simp only [Instr.build, Sem.run_bind, hz', Result.andThen_ok, run_und hu, run_size hs]
              rw [hb]; rfl
    · cases h

/-! ### rows -/
theorem chunk_ok {e : TypeId} {sz : Nat} (hsz : sizeT P e = some sz) : ∀ {n : Nat} {cs xs : List LV} {us : List Value}, chunkL P e sz n cs = some xs → VRs G w cs us → n * sz ≤ cs.length →
    xs.length = n ∧ (∀ i (h : i < xs.length), xs[i].cells.length = sz) ∧ (∀ i (h : i < xs.length), xs[i].known = true) ∧
      ∀ i (h : i < xs.length) j (hj : j < xs[i].cells.length), ∃ u, us[i * sz + j]? = some u ∧ VR G w xs[i].cells[j] u := by
  intro n
  induction n with
  | zero =>
    intro cs xs us h _ _
    simp only [chunkL] at h; cases h
    exact ⟨rfl, fun i h => absurd h (by simp), fun i h => absurd h (by simp), fun i h => absurd h (by simp)⟩
  | succ n ih =>
    intro cs xs us h hv hl
    have hl' : n * sz + sz ≤ cs.length := by rw [Nat.add_mul] at hl; omega
    simp only [chunkL] at h
    split at h
    · rename_i l h1 h2
      split at h
      · rename_i hle
        cases h
        obtain ⟨e1, e2, e3, e4⟩ := ih h2 (hv.drop sz) (by simp; omega)
        refine ⟨by simp [e1], ?_, ?_, ?_⟩
        · intro i hi
          cases i with
          | zero => simp [LV.cells, hle]
          | succ i => exact e2 i (by simpa using hi)
        · intro i hi
          cases i with
          | zero => rfl
          | succ i => exact e3 i (by simpa using hi)
        · intro i hi j hj
          cases i with
          | zero =>
            simp [LV.cells] at hj
            refine ⟨us[j]'(by have := hv.1; omega), by simp, ?_⟩
            have := hv.2 j (by omega) (by have := hv.1; omega)
            simpa [LV.cells] using this
          | succ i =>
            obtain ⟨u, hu, hr⟩ := e4 i (by simpa using hi) j hj
            refine ⟨u, ?_, hr⟩
            rw [List.getElem?_drop] at hu
            rw [← hu]; congr 1; rw [Nat.add_mul]; omega
      · cases h
    · rename_i l h1 h2
      split at h
      · rename_i c cs'
        split at h
        · rename_i hc
          obtain ⟨rfl, hone⟩ := hc
          cases h
          have hcc : c.cells = [c] := by cases c <;> first | rfl | simp [LV.one] at hone
          have hkn : c.known = true := by cases c <;> first | rfl | simp [LV.one] at hone
          obtain ⟨e1, e2, e3, e4⟩ := ih h2 (hv.drop 1) (by simp at hl ⊢; omega)
          refine ⟨by simp [e1], ?_, ?_, ?_⟩
          · intro i hi
            cases i with
            | zero => simp [hcc]
            | succ i => exact e2 i (by simpa using hi)
          · intro i hi
            cases i with
            | zero => exact hkn
            | succ i => exact e3 i (by simpa using hi)
          · intro i hi j hj
            cases i with
            | zero =>
              simp only [List.getElem_cons_zero, hcc, List.length_singleton] at hj
              obtain rfl : j = 0 := by omega
              have := hv.1
              refine ⟨us[0]'(by simp at this; omega), by simp, ?_⟩
              have := hv.2 0 (by simp) (by simp at this; omega)
              simpa [hcc] using this
            | succ i =>
              obtain ⟨u, hu, hr⟩ := e4 i (by simpa using hi) j hj
              refine ⟨u, ?_, hr⟩
              rw [List.getElem?_drop] at hu
              rw [← hu]; congr 1; omega
        · cases h
      · cases h
    · cases h

theorem rep_vrs {z : List LV} {zs : List Value} (h : VRs G w z zs) : ∀ n, VRs G w (repL z n) (List.flatten (List.replicate n zs))
  | 0 => .nil
  | n + 1 => by rw [List.replicate_succ, List.flatten_cons]; exact h.append (rep_vrs h n)
theorem flatten_rep_get (zs : List Value) (hz : 0 < zs.length) : ∀ (n i : Nat), i < n * zs.length → (List.flatten (List.replicate n zs))[i]? = zs[i % zs.length]?
  | 0, i, h => by simp at h
  | n + 1, i, h => by
    rw [List.replicate_succ, List.flatten_cons]
    by_cases hi : i < zs.length
    · rw [List.getElem?_append_left hi, Nat.mod_eq_of_lt hi]
    · rw [List.getElem?_append_right (by omega), flatten_rep_get zs hz n (i - zs.length) (by rw [Nat.add_mul] at h; omega)]
      rw [Nat.mod_eq_sub_mod (a := i) (by omega)]
theorem flatten_rep_len (zs : List Value) (n : Nat) : (List.flatten (List.replicate n zs)).length = n * zs.length := by
  induction n with
  | zero => simp
  | succ n ih => rw [List.replicate_succ, List.flatten_cons, List.length_append, ih, Nat.add_mul]; omega

/-- The slice of a whole new row. -/
theorem newRow_vr {G' : Gh} {w' : World} {r blk cap : Nat} {xs : List LV} {sz : Nat} {c : Array Value} {ty : TypeId} {fr : Nat × Nat} {us : List Value}
    (hz : ∀ i (h : i < xs.length), xs[i].cells.length = sz)
    (hv : ∀ i (h : i < xs.length) j (hj : j < xs[i].cells.length), ∃ u, us[i * sz + j]? = some u ∧ VR G' w' xs[i].cells[j] u) (hone : ∀ u ∈ us, u.oneCell' = true)
    (hb : w'.heap[blk]? = some (.cells c ty fr)) (hu : ∀ i, i < xs.length * sz → c[i]? = us[i]?)
    (hp : ∀ o, o < xs.length * sz → G'.prot blk o) (hcap : xs.length ≤ cap)
    (hr : G'.row r = some ⟨blk, xs.length, xs.length * sz, cap * sz⟩) : VR G' w' (.sl r xs.length sz xs) (.slice (some ⟨blk, 0, none⟩) xs.length cap) := by
  have hlt : ∀ i, i < xs.length → ∀ j, j < sz → i * sz + j < xs.length * sz := by
    intro i hi j hj
    calc i * sz + j < i * sz + sz := by omega
      _ = (i + 1) * sz := by rw [Nat.add_mul]; omega
      _ ≤ xs.length * sz := Nat.mul_le_mul_right _ hi
  refine .sl (fun i j => (us[i * sz + j]?).getD undef) hcap hz ?_ ?_ ?_
  · intro i hi j hj
    obtain ⟨u, h1, h2⟩ := hv i hi j (by rw [hz i hi]; exact hj)
    refine ⟨?_, by simpa using hp _ (hlt i hi j hj), ?_⟩
    · rw [cell_cells hb, Nat.zero_add, hu _ (hlt i hi j hj), h1]; rfl
    · rw [h1]; exact hone u (List.mem_of_getElem? h1)
  · intro i hi j hj
    obtain ⟨u, h1, h2⟩ := hv i hi j hj
    rw [h1]; exact h2
  · intro _
    exact ⟨_, hr, Nat.le_refl _, fun _ => ⟨rfl, by simp, by simp⟩⟩

theorem buildSlice_ok {base tb tr : Nat} {t : TypeId} {len : Nat} {parts : List (Nat × LV)} {parts' : Array (Nat × Value)} {v : LV} {h h' : H}
    (hl : buildSliceL P t len parts h = some (v, h')) (hr : HR base G w h) (hf : Fresh G h tb tr) (ht : h'.row.length ≤ tr)
    (hp : Parts G w parts parts'.toList) :
    ∃ u w' G', (Instr.buildSlice t len parts').run P w = .ok u w' ∧ VR G' w' v u ∧ Step base G w h G' w' h' := by
  unfold buildSliceL at hl
  cases hu : P.underlying t with
  | none => rw [hu] at hl; cases hl
  | some d =>
    rw [hu] at hl
    cases d <;> try (cases hl; done)
    rename_i e
    dsimp only at hl
    cases hs : sizeT P e with
    | none => rw [hs] at hl; cases hl
    | some sz =>
      cases hz : zeroL P e with
      | none => rw [hs, hz] at hl; cases hl
      | some z =>
        rw [hs, hz] at hl; dsimp only at hl
        split at hl
        · rename_i hc
          obtain ⟨k1, k2, k3, k4⟩ := hc
          cases hfl : fillL (fun i => some (i * sz, sz)) (repL z.cells len) parts with
          | none => rw [hfl] at hl; cases hl
          | some cells =>
            rw [hfl] at hl; dsimp only at hl
            split at hl
            case isFalse => cases hl
            rename_i hall
            cases hch : chunkL P e sz len cells with
            | none => rw [hch] at hl; cases hl
            | some xs =>
              rw [hch] at hl
              simp only [newRowL, Option.some.injEq, Prod.mk.injEq] at hl
              obtain ⟨rfl, rfl⟩ := hl
              obtain ⟨z', hz', hzo⟩ := run_zeroL (w := w) hz
              have hzc := (ofV_vr (G := G) (w := w) hzo).cells k2
              have hzl : z'.cells.size = sz := by have := hzc.1; simp at this; omega
              let Z : Array Value := if len * sz = 0 then #[] else z'.cells
              let A : Array Value := (Array.range (len * sz)).map (Z[· % Z.size]!)
              have hA : VRs G w (repL z.cells len) A.toList := by
                have hrep := rep_vrs hzc len
                have : A.toList = List.flatten (List.replicate len z'.cells.toList) := by
                  apply List.ext_getElem?
                  intro i
                  by_cases hi : i < len * sz
                  · have h0 : ¬ len * sz = 0 := by omega
                    rw [flatten_rep_get _ (by simp; omega) _ _ (by simp [hzl]; exact hi)]
                    have hm : i % z'.cells.size < z'.cells.size := Nat.mod_lt _ (by omega)
                    have hAi : A.toList[i]? = some (z'.cells[i % z'.cells.size]!) := by simp [A, Z, h0, hi]
                    rw [hAi, Array.length_toList, Array.getElem?_toList, Array.getElem?_eq_getElem hm, getElem!_pos z'.cells _ hm]
                  · rw [List.getElem?_eq_none (by simp [A]; omega), List.getElem?_eq_none (by rw [flatten_rep_len]; simp [hzl]; omega)]
                rw [this]; exact hrep
              obtain ⟨b, hb, hbr⟩ := fill_ok hfl hA hp
              have hcl : len * sz ≤ cells.length := by
                have h1 : cells.length = b.toList.length := hbr.1
                have h2 : b.size = A.size := fill_size hb
                simp [h1, h2, A]
              obtain ⟨e1, e2, e3, e4⟩ := chunk_ok hs hch hbr hcl
              have hbs : xs.length * sz ≤ b.size := by
                have h1 : cells.length = b.toList.length := hbr.1
                simp at h1; rw [e1]; omega
              have hstep := Step.newRow (w := w) (w' := { w with heap := w.heap.push (.cells b e (0, 0)) }) (c := b) (ty := e) (fr := (0, 0)) (pos := xs.length) (fin := xs.length * sz) (cap := xs.length * sz)
                rfl ⟨rfl, rfl, rfl⟩ hr (hf.row _ (Nat.le_refl _) (by simp at ht; omega)) (Nat.le_refl _) hbs (fun _ _ => Or.inl rfl)
              refine ⟨.slice (some ⟨w.heap.size, 0, none⟩) len len, _, _, ?_, ?_, hstep⟩
              · simp only [Instr.buildSlice, Sem.run_bind, run_und hu, Result.andThen_ok, run_size hs]
                rw [if_neg (by omega)]
                have tail : ∀ Z' : Array Value, Z' = Z → Sem.run P (match Instr.fill (fun i => some (i * sz, sz)) (Array.map (fun x => Z'[x % Z'.size]!) (Array.range (len * sz))) parts'.toList with
                    | some cells => do
                      let a ← newRow e cells
                      pure (Value.slice (some a) len len)
                    | _ => stuck "buildSlice: a part of the wrong size") w =
                    .ok (Value.slice (some ⟨w.heap.size, 0, none⟩) len len) { w with heap := w.heap.push (.cells b e (0, 0)) } := by
                  rintro _ rfl
                  have hb' : Instr.fill (fun i => some (i * sz, sz)) (Array.map (fun x => Z[x % Z.size]!) (Array.range (len * sz))) parts'.toList = some b := hb
                  rw [hb']
                  simp [newRow]
                by_cases h0 : len * sz = 0
                · rw [if_pos h0]
                  exact tail #[] (by simp [Z, h0])
                · rw [if_neg h0]
                  simp only [Sem.run_bind, hz', Result.andThen_ok, Sem.run_pure]
                  exact tail z'.cells (by simp [Z, h0])
              · subst e1
                exact newRow_vr (us := b.toList) (c := b) e2 (fun i hi j hj => by obtain ⟨u, h1, h2⟩ := e4 i hi j hj; exact ⟨u, h1, h2.mono hstep.ext⟩)
                  (fun u hu => by
                    obtain ⟨i, hi, rfl⟩ := List.getElem_of_mem hu
                    have hi' : i < cells.length := by rw [hbr.1]; exact hi
                    exact one_cell (hbr.2 i hi' hi) (List.all_eq_true.1 hall _ (List.getElem_mem _)))
                  (push_new rfl) (fun i _ => by simp) (fun o ho => Or.inr ⟨rfl, ho⟩) (Nat.le_refl _) (by simp)
        · cases hl

end Go.LM

namespace Go.LM
variable {P : Program} {G : Gh} {w : World}

/-! ### equality -/
theorem eqFields_ok (d : Nat) (he : ∀ {t x y b x' y'}, eqL P d t x y = some b → VR G w x x' → VR G w y y' → (Op.equalIn d t x' y').run P w = .ok b w) {xs ys : List LV} {a b : Array Value}
    (hx : VRs G w xs a.toList) (hy : VRs G w ys b.toList) : ∀ {fs : List Field} {r : Bool}, eqFieldsL P (eqL P d) xs ys fs = some r → (Op.eqFields d a b fs).run P w = .ok r w := by
  intro fs
  induction fs with
  | nil => intro r h; simp only [eqFieldsL] at h; cases h; simp [Op.eqFields]
  | cons f fs ih =>
    intro r h
    simp only [eqFieldsL] at h
    by_cases hn : f.name = "_"
    · rw [if_pos hn] at h
      simp only [Op.eqFields]
      rw [if_neg (by simpa using hn)]
      exact ih h
    · rw [if_neg hn] at h
      split at h
      · rename_i x y h1 h2
        obtain ⟨x', hx', vx⟩ := part_ok h1 hx
        obtain ⟨y', hy', vy⟩ := part_ok h2 hy
        simp only [Op.eqFields]
        rw [if_pos hn]
        simp only [Sem.run_bind, hx', hy', Result.andThen_ok]
        split at h
        · rename_i h3
          rw [he h3 vx vy]
          simpa using ih h
        · rename_i h3
          cases h
          rw [he h3 vx vy]
          simp
        · cases h
      · cases h
theorem eqElems_ok (d : Nat) {e : TypeId} {n : Nat} (he : ∀ {t x y b x' y'}, eqL P d t x y = some b → VR G w x x' → VR G w y y' → (Op.equalIn d t x' y').run P w = .ok b w) {xs ys : List LV} {a b : Array Value}
    (hx : VRs G w xs a.toList) (hy : VRs G w ys b.toList) : ∀ {m i : Nat} {r : Bool}, eqElemsL P (eqL P d) e n xs ys i m = some r → (Op.eqItems d e n a b (List.range' i m)).run P w = .ok r w := by
  intro m
  induction m with
  | zero => intro i r h; simp only [eqElemsL] at h; cases h; simp [Op.eqItems]
  | succ m ih =>
    intro i r h
    simp only [eqElemsL] at h
    split at h
    · rename_i x y h1 h2
      obtain ⟨x', hx', vx⟩ := part_ok h1 hx
      obtain ⟨y', hy', vy⟩ := part_ok h2 hy
      rw [List.range'_succ]
      simp only [Op.eqItems, Sem.run_bind, hx', hy', Result.andThen_ok]
      split at h
      · rename_i h3
        rw [he h3 vx vy]
        simpa using ih h
      · rename_i h3
        cases h
        rw [he h3 vx vy]
        simp
      · cases h
    · cases h

theorem eq_ok : ∀ {d : Nat} {t : TypeId} {x y : LV} {b : Bool} {x' y' : Value}, eqL P d t x y = some b → VR G w x x' → VR G w y y' → (Op.equalIn d t x' y').run P w = .ok b w := by
  intro d
  induction d with
  | zero => intro t x y b x' y' h; simp [eqL] at h
  | succ d ih =>
    intro t x y b x' y' h vx vy
    simp only [eqL] at h
    cases hu : P.underlying t with
    | none => rw [hu] at h; cases h
    | some ty =>
      rw [hu] at h
      cases ty <;> dsimp only at h <;> try (cases h; done)
      case bool =>
        split at h <;> cases h
        cases vx; cases vy; simp [Op.equalIn, run_und hu]
      case int =>
        split at h
        · split at h <;> cases h
          rename_i e; subst e
          cases vx; cases vy; simp [Op.equalIn, run_und hu]
        · cases h
      case string =>
        split at h <;> cases h
        cases vx; cases vy; simp [Op.equalIn, run_und hu]
      case pointer =>
        split at h <;> cases h <;> cases vx <;> cases vy <;> simp [Op.equalIn, run_und hu]
      case slice =>
        split at h <;> cases h <;> cases vx <;> cases vy <;> simp [Op.equalIn, run_und hu]
      case func =>
        split at h <;> cases h <;> cases vx <;> cases vy <;> simp [Op.equalIn, run_und hu]
      case interface =>
        split at h <;> cases h <;> cases vx <;> cases vy <;> simp [Op.equalIn, run_und hu]
      case struct fields =>
        split at h
        · rename_i xs ys
          split at h
          · cases h
          · rename_i hst
            cases vx with
            | agg hl1 hv1 =>
              cases vy with
              | agg hl2 hv2 =>
                have hf : P.fieldsOf t = fields := by simp [Program.fieldsOf, hu]
                rw [run_equalIn_struct w d t _ _ (by rw [hf]; exact hu) (by simpa using hst), hf]
                exact eqFields_ok d ih (VR.agg hl1 hv1).ofAgg (VR.agg hl2 hv2).ofAgg h
        · cases h
      case array n e =>
        split at h
        · rename_i xs ys
          cases hs : sizeT P e with
          | none => rw [hs] at h; cases h
          | some sz =>
            rw [hs] at h
            cases vx with
            | agg hl1 hv1 =>
              cases vy with
              | agg hl2 hv2 =>
                unfold sizeT at hs
                cases hi : P.info? e with
                | none => rw [hi] at hs; cases hs
                | some i =>
                  rw [hi] at hs; cases hs
                  rw [run_equalIn_array w d _ _ hu hi, List.range_eq_range', show P.cellsOf e = i.size by simp [Program.cellsOf, hi]]
                  exact eqElems_ok d ih (VR.agg hl1 hv1).ofAgg (VR.agg hl2 hv2).ofAgg h
        · cases h

/-! ### operators -/
theorem int_ok {op : BinOp} {k : IntKind} {t : TypeId} {a b : Int} {v : LV} (hs : isShift op = false) (h : intOpL op k a b = some v) :
    ∃ u, (binOp op t (.int k a) (.int k b)).run P w = .ok u w ∧ VR G w v u := by
  cases op <;> simp only [intOpL] at h <;> first
    | (cases h; done)
    | (cases hs; done)
    | (cases h; exact ⟨_, by simp [binOp, Op.intArith, Op.intBits, Op.intCmp]; rfl, by constructor⟩)
    | (cases h; exact ⟨_, by simp only [binOp, ne_eq, not_true_eq_false, if_false, Op.intBits]; rfl, by constructor⟩)
    | (split at h
       · cases h
       · rename_i hb; cases h; exact ⟨_, by simp [binOp, Op.intDiv, hb]; rfl, by constructor⟩)

theorem shift_ok {op : BinOp} {k k' : IntKind} {t : TypeId} {a b : Int} {v : LV} (h : shiftL op k a b = some v) :
    ∃ u, (binOp op t (.int k a) (.int k' b)).run P w = .ok u w ∧ VR G w v u := by
  unfold shiftL at h
  split at h
  · cases h
  · rename_i hb
    cases op <;> simp only [] at h <;> first
      | (cases h; done)
      | (cases h; exact ⟨_, by simp [binOp, Op.shift, hb]; rfl, by constructor⟩)

theorem str_ok {op : BinOp} {t : TypeId} {a b : ByteArray} {v : LV} (h : strOpL op a b = some v) :
    ∃ u, (binOp op t (.string a) (.string b)).run P w = .ok u w ∧ VR G w v u := by
  cases op <;> simp only [strOpL] at h <;> first
    | (cases h; done)
    | (cases h; exact ⟨_, by simp [binOp, Op.stringOp]; rfl, by constructor⟩)
    | (split at h
       · rename_i hb; cases h; refine ⟨_, ?_, .str _⟩
         have hm : IntKind.i64.max = 9223372036854775807 := rfl
         simp [binOp, Op.stringOp, hm]; omega
       · cases h)

theorem binTop_ok {op : BinOp} {t : TypeId} {x y : LV} {x' y' : Value} {b : Bool} (hop : op = .eql ∨ op = .neq) (h : eqTopL P t x y = some b)
    (vx : VR G w x x') (vy : VR G w y y') (hq : eqable x y = true) : (binOp op t x' y').run P w = .ok (.bool (if op = .eql then b else !b)) w := by
  have he : (Op.equal t x' y').run P w = .ok b w := by
    unfold eqTopL at h
    unfold Op.equal Op.maxDepth
    split at h
    · split at h
      · cases h
      · exact eq_ok h vx vy
    · exact eq_ok h vx vy
  rcases hop with rfl | rfl
  · cases vx <;> cases vy <;> first
      | (cases hq; done)
      | (simp only [binOp, Sem.run_bind, he, Result.andThen_ok, Sem.run_pure]; rfl)
  · cases vx <;> cases vy <;> first
      | (cases hq; done)
      | (simp only [binOp, Sem.run_bind, he, Result.andThen_ok, Sem.run_pure]; rfl)

end Go.LM

namespace Go.LM
variable {P : Program} {G : Gh} {w : World}

theorem bin_ok {op : BinOp} {t : TypeId} {x y v : LV} {x' y' : Value} (ox oy : Operand) (h : binL P op t x y = some v) (vx : VR G w x x') (vy : VR G w y y') :
    ∃ u, (do eqGuard op t ox oy x' y'; binOp op t x' y' : Sem Value).run P w = .ok u w ∧ VR G w v u := by
  have hg : ∀ x' y', (∀ a b, x' = .agg a → y' = .agg b → P.eqGuardType P.depth t = false) → (x' = .nilIface → y' = .nilIface → False) →
      (eqGuard op t ox oy x' y').run P w = .ok () w := by
    intro x' y' h1 h2
    cases op <;> first
      | (simp [eqGuard]; done)
      | (unfold eqGuard
         simp only [Bool.not_true, Bool.false_eq_true, if_false]
         split
         · exact (h2 rfl rfl).elim
         · have := h1 _ _ rfl rfl
           simp [this]
         · rfl)
  unfold binL at h
  split at h
  · rename_i k a k' b
    cases vx; cases vy
    obtain ⟨u, hu, hv⟩ : ∃ u, (binOp op t (.int k a) (.int k' b)).run P w = .ok u w ∧ VR G w v u := by
      split at h
      · exact shift_ok (by
          rename_i hs
          exact h)
      · split at h
        · rename_i hs hk; subst hk
          exact int_ok (by simpa using hs) h
        · cases h
    exact ⟨u, by simp only [Sem.run_bind]; rw [hg _ _ (by intro a b h; cases h) (by intro h; cases h)]; exact hu, hv⟩
  · cases vx; cases vy
    obtain ⟨u, hu, hv⟩ := str_ok (P := P) (G := G) (w := w) (t := t) h
    exact ⟨u, by simp only [Sem.run_bind]; rw [hg _ _ (by intro a b h; cases h) (by intro h; cases h)]; exact hu, hv⟩
  · split at h
    case isFalse => cases h
    rename_i hq
    have key : ∀ b, eqTopL P t x y = some b → (eqGuard op t ox oy x' y').run P w = .ok () w := by
      intro b he
      refine hg _ _ ?_ ?_
      · rintro a b rfl rfl
        cases vx <;> cases vy <;> first
          | (cases hq; done)
          | (simp only [eqTopL] at he
             split at he
             · cases he
             · rename_i hq; simpa using hq)
      · rintro rfl rfl
        cases vx <;> cases vy <;> cases hq
    split at h
    · cases he : eqTopL P t x y with
      | none => rw [he] at h; cases h
      | some b =>
        rw [he] at h; cases h
        refine ⟨.bool b, ?_, .bool _⟩
        simp only [Sem.run_bind, key b he, Result.andThen_ok]
        exact binTop_ok (.inl rfl) he vx vy hq
    · cases he : eqTopL P t x y with
      | none => rw [he] at h; cases h
      | some b =>
        rw [he] at h; cases h
        refine ⟨.bool (!b), ?_, .bool _⟩
        simp only [Sem.run_bind, key b he, Result.andThen_ok]
        exact binTop_ok (.inr rfl) he vx vy hq
    · cases h

end Go.LM

namespace Go.LM
variable {P : Program} {G : Gh} {w : World}

theorem un_ok {op : UnOp} {x v : LV} {x' : Value} (h : unL op x = some v) (vx : VR G w x x') : ∃ u, (Op.unary op x').run P w = .ok u w ∧ VR G w v u := by
  unfold unL at h
  split at h
  · cases h; cases vx; exact ⟨_, by simp [Op.unary, Op.intArith]; rfl, by simpa using VR.int _ _⟩
  · cases vx
    simp only [intOpL] at h; cases h
    exact ⟨_, by simp only [Op.unary, Op.intBits]; rfl, by constructor⟩
  · cases h; cases vx; exact ⟨_, by simp [Op.unary]; rfl, by constructor⟩
  · cases h

theorem field_ok {t : TypeId} {x v : LV} {f : Nat} {x' : Value} (h : fieldL P t x f = some v) (vx : VR G w x x') : ∃ u, (Instr.field t x' f).run P w = .ok u w ∧ VR G w v u := by
  unfold fieldL at h
  split at h
  · rename_i fields hu
    split at h
    · rename_i fd hf
      split at h
      · rename_i cs
        cases vx with
        | agg hl hv =>
          obtain ⟨u, h1, h2⟩ := part_ok h (VR.agg hl hv).ofAgg
          exact ⟨u, by simp [Instr.field, run_und hu, hf, asAgg, h1], h2⟩
      · cases h
    · cases h
  · cases h

theorem cells_one {v : LV} (h : v.one = true) : v.cells = [v] := by
  cases v <;> first | rfl | (simp [LV.one] at h)

theorem sub_ok {t : TypeId} {v c : LV} {off blk o : Nat} {u : Nat → Value} (h : subL P t v off = some c)
    (hc : ∀ i, i < v.cells.length → w.cell? ⟨blk, o + i, none⟩ = some (u i) ∧ G.prot blk (o + i))
    (hv : ∀ i (h : i < v.cells.length), VR G w v.cells[i] (u i)) : VR G w c (.pointer (some ⟨blk, o + off, none⟩)) := by
  unfold subL at h
  split at h
  · rename_i x hp
    split at h
    · rename_i hcond
      cases h
      unfold partL at hp
      split at hp
      · split at hp
        · rename_i n hn
          split at hp
          · rename_i hl
            cases hp
            have hlen : (LV.agg (List.take n (List.drop off v.cells))).cells.length = n := by
              show (List.take n (List.drop off v.cells)).length = n
              rw [List.length_take, List.length_drop]; omega
            refine .cptr (fun i => u (off + i)) (fun i hi => ?_) (fun i hi => ?_)
            · rw [Nat.add_assoc]; exact hc _ (by omega)
            · have := hv (off + i) (by omega)
              simpa [LV.cells, List.getElem_take, List.getElem_drop] using this
          · cases hp
        · cases hp
      · rename_i hb
        have hone : x.one = true := hcond.resolve_left (by rw [hb]; simp)
        obtain ⟨hi, rfl⟩ := List.getElem?_eq_some_iff.1 hp
        have hcc := cells_one hone
        refine .cptr (fun i => u (off + i)) (fun i hi' => ?_) (fun i hi' => ?_)
        · rw [hcc] at hi'; simp at hi'; subst hi'
          exact hc _ hi
        · rw [hcc] at hi'; simp at hi'; subst hi'
          simp only [hcc, List.getElem_cons_zero]
          exact hv off hi
      · cases hp
    · cases h
  · cases h

theorem fieldAddr_ok {t : TypeId} {x v : LV} {f : Nat} {x' : Value} (h : fieldAddrL P t x f = some v) (vx : VR G w x x') : ∃ u, (Instr.fieldAt t x' f).run P w = .ok u w ∧ VR G w v u := by
  unfold fieldAddrL at h
  split at h
  · rename_i fields hu
    split at h
    · rename_i fd hf
      split at h
      · rename_i n hn
        have hfp : ∀ a : Addr, (fieldPlace a fd).run P w = .ok (a.add fd.offset) w := by
          intro a; simp [fieldPlace, run_size hn]
        split at h
        · cases h
          cases vx with
          | ptr hb => exact ⟨_, by simp [Instr.fieldAt, run_und hu, hf, Instr.sureAddr, hfp, add_off], .ptr hb⟩
        · cases vx with
          | cptr u hc hv =>
            exact ⟨_, by simp [Instr.fieldAt, run_und hu, hf, Instr.sureAddr, hfp, add_off], sub_ok h hc hv⟩
        · cases h
      · cases h
    · cases h
  · cases h

theorem indexAddr_ok {t : TypeId} {x i v : LV} {x' i' : Value} (h : indexAddrL P t x i = some v) (vx : VR G w x x') (vi : VR G w i i') :
    ∃ u, (Instr.indexAt t x' i').run P w = .ok u w ∧ VR G w v u := by
  unfold indexAddrL at h
  split at h
  · rename_i k n
    cases vi
    split at h
    · rename_i e hu
      split at h
      · rename_i r p sz xs
        split at h
        · rename_i hcond
          obtain ⟨hs, h0⟩ := hcond
          cases hx : xs[n.toNat]? with
          | none => rw [hx] at h; cases h
          | some y =>
            rw [hx] at h; cases h
            obtain ⟨hlt, hy⟩ := List.getElem?_eq_some_iff.1 hx
            cases vx with
            | sl u hcap hz hc hv ht =>
              rename_i blk off c
              have hlt' : n < xs.length := by omega
              refine ⟨.pointer (some ⟨blk, off + n.toNat * sz, none⟩), ?_, ?_⟩
              · simp [Instr.indexAt, asIntOf, run_und hu, run_size hs, add_off, h0, hlt']
              · subst hy
                refine .cptr (fun j => u n.toNat j) (fun j hj => ?_) (fun j hj => hv _ hlt j hj)
                have := hc _ hlt j (by rw [hz _ hlt] at hj; exact hj)
                exact ⟨this.1, this.2.1⟩
            | sle hi sz a c => simp at hlt
        · cases h
      · cases h
    · rename_i len e hu
      split at h
      · rename_i sz hs
        split at h
        · rename_i hb
          obtain ⟨h0, hlt⟩ := hb
          split at h
          · cases h
            cases vx with
            | ptr hb =>
              exact ⟨_, by simp [Instr.indexAt, asIntOf, run_und hu, run_size hs, add_off, h0, hlt, Instr.sureAddr], .ptr hb⟩
          · cases vx with
            | cptr u hc hv =>
              exact ⟨_, by simp [Instr.indexAt, asIntOf, run_und hu, run_size hs, add_off, h0, hlt, Instr.sureAddr], sub_ok h hc hv⟩
          · cases h
        · cases h
      · cases h
    · cases h
  · cases h

theorem index_ok {t : TypeId} {x i v : LV} {x' i' : Value} (h : indexL P t x i = some v) (vx : VR G w x x') (vi : VR G w i i') :
    ∃ u, (Instr.index t x' i').run P w = .ok u w ∧ VR G w v u := by
  unfold indexL at h
  split at h
  · rename_i k n
    cases vi
    split at h
    · rename_i len e hu
      split at h
      · rename_i cs sz hs
        split at h
        · rename_i hb
          obtain ⟨h0, hlt⟩ := hb
          cases vx with
          | agg hl hv =>
            obtain ⟨u, h1, h2⟩ := part_ok h (VR.agg hl hv).ofAgg
            exact ⟨u, by simp [Instr.index, asIntOf, run_und hu, run_size hs, h0, hlt, h1], h2⟩
        · cases h
      · cases h
    · rename_i hu
      split at h
      · rename_i s
        split at h
        · rename_i h0
          cases vx
          cases hb : s.data[n.toNat]? with
          | none => rw [hb] at h; cases h
          | some b =>
            rw [hb] at h; cases h
            obtain ⟨hlt, hbe⟩ := Array.getElem?_eq_some_iff.1 hb
            refine ⟨.int .u8 b.toNat, ?_, .int _ _⟩
            have : s[n.toNat]? = some b := by
              rw [ByteArray.getElem?_lt' s n.toNat hlt]
              exact congrArg some hbe
            simp [Instr.index, asIntOf, run_und hu, h0, this]
        · cases h
      · cases h
    · cases h
  · cases h

theorem len_ok {t ty : TypeId} {x v : LV} {x' : Value} (h : lenL P t x = some v) (vx : VR G w x x') : ∃ u, (Builtin.len_ #[t] ty #[x']).run P w = .ok u w ∧ VR G w v u := by
  unfold lenL at h
  split at h
  · rename_i hu
    split at h
    · cases h; cases vx; exact ⟨_, by simp [Builtin.len_, run_und hu, goInt], .int _ _⟩
    · cases h
  · rename_i e hu
    split at h
    · cases h; cases vx; exact ⟨_, by simp [Builtin.len_, run_und hu, goInt], .int _ _⟩
    · cases h; cases vx
      · exact ⟨_, by simp [Builtin.len_, run_und hu, goInt], .int _ _⟩
      · exact ⟨.int .i64 0, by simp [Builtin.len_, run_und hu, goInt], .int _ _⟩
    · cases h
  · rename_i n e hu
    cases h
    exact ⟨_, by simp [Builtin.len_, run_und hu, goInt], .int _ _⟩
  · rename_i a hu
    split at h
    · rename_i n e hu2
      cases h
      exact ⟨_, by simp [Builtin.len_, run_und hu, run_und hu2, goInt], .int _ _⟩
    · cases h
  · cases h

theorem fold_ok {f : LV → LV → Option LV} {g : Value → Value → Sem Value} (hf : ∀ {x y z x' y'}, f x y = some z → VR G w x x' → VR G w y y' → ∃ u, (g x' y').run P w = .ok u w ∧ VR G w z u) :
    ∀ {l : List LV} {x v : LV} {l' : List Value} {x' : Value}, foldL f x l = some v → VR G w x x' → VRs G w l l' → ∃ u, (l'.foldlM g x').run P w = .ok u w ∧ VR G w v u := by
  intro l
  induction l with
  | nil =>
    intro x v l' x' h vx vl
    cases l' with
    | nil => simp only [foldL] at h; cases h; exact ⟨x', by simp, vx⟩
    | cons u us => simp [VRs] at vl
  | cons y l ih =>
    intro x v l' x' h vx vl
    cases l' with
    | nil => simp [VRs] at vl
    | cons y' l' =>
      simp only [foldL] at h
      split at h
      · rename_i z hz
        obtain ⟨u, h1, h2⟩ := hf hz vx vl.head
        obtain ⟨u2, h3, h4⟩ := ih h h2 vl.tail
        exact ⟨u2, by simp only [List.foldlM_cons, Sem.run_bind, h1, Result.andThen_ok]; exact h3, h4⟩
      · cases h

theorem max2_ok {x y z : LV} {x' y' : Value} (h : max2L x y = some z) (vx : VR G w x x') (vy : VR G w y y') : ∃ u, (Builtin.max2 x' y').run P w = .ok u w ∧ VR G w z u := by
  unfold max2L at h
  split at h
  · cases h; cases vx; cases vy; exact ⟨_, by simp only [Builtin.max2]; rfl, .int _ _⟩
  · cases h
theorem min2_ok {x y z : LV} {x' y' : Value} (h : min2L x y = some z) (vx : VR G w x x') (vy : VR G w y y') : ∃ u, (Builtin.min2 x' y').run P w = .ok u w ∧ VR G w z u := by
  unfold min2L at h
  split at h
  · cases h; cases vx; cases vy; exact ⟨_, by simp only [Builtin.min2]; rfl, .int _ _⟩
  · cases h

end Go.LM
