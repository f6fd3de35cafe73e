import Derived.Test.YtpmpdidgbbgeeaaLmF
import Derived.ChangeKeysEq
import Derived.Laws.BytesString
import Derived.Lib.ConvBytes
namespace Go.LM
variable {P : Program} {G : Gh} {w : World}

/-! ### equality -/
theorem eqFields_ok (d : Nat) (he : ∀ {t x y b x' y'}, eqL P d t x y = some b → VR G w x x' → VR G w y y' → (Op.equalIn d t x' y').run P w = .ok b w) {xs ys : List LV} {a b : Array Value}
    (hx : VRs G w xs a.toList) (hy : VRs G w ys b.toList) : ∀ {fs : List Field} {r : Bool}, eqFieldsL P (eqL P d) xs ys fs = some r → (Op.eqFields d a b fs).run P w = .ok r w := by
  intro fs
  induction fs with
  | nil => intro r h; simp only [eqFieldsL] at h; cases h; simp [Op.eqFields]
  | cons f fs ih =>
    intro r h
    simp only [eqFieldsL] at h
    by_cases hn : f.name = "_"
    · rw [if_pos hn] at h
      simp only [Op.eqFields]
      rw [if_neg (by simpa using hn)]
      exact ih h
    · rw [if_neg hn] at h
      split at h
      · rename_i x y h1 h2
        obtain ⟨x', hx', vx⟩ := part_ok h1 hx
        obtain ⟨y', hy', vy⟩ := part_ok h2 hy
        simp only [Op.eqFields]
        rw [if_pos hn]
        simp only [Sem.run_bind, hx', hy', Result.andThen_ok]
        split at h
        · rename_i h3
          rw [he h3 vx vy]
          simpa using ih h
        · rename_i h3
          cases h
          rw [he h3 vx vy]
          simp
        · cases h
      · cases h
theorem eqElems_ok (d : Nat) {e : TypeId} {n : Nat} (he : ∀ {t x y b x' y'}, eqL P d t x y = some b → VR G w x x' → VR G w y y' → (Op.equalIn d t x' y').run P w = .ok b w) {xs ys : List LV} {a b : Array Value}
    (hx : VRs G w xs a.toList) (hy : VRs G w ys b.toList) : ∀ {m i : Nat} {r : Bool}, eqElemsL P (eqL P d) e n xs ys i m = some r → (Op.eqItems d e n a b (List.range' i m)).run P w = .ok r w := by
  intro m
  induction m with
  | zero => intro i r h; simp only [eqElemsL] at h; cases h; simp [Op.eqItems]
  | succ m ih =>
    intro i r h
    simp only [eqElemsL] at h
    split at h
    · rename_i x y h1 h2
      obtain ⟨x', hx', vx⟩ := part_ok h1 hx
      obtain ⟨y', hy', vy⟩ := part_ok h2 hy
      rw [List.range'_succ]
      simp only [Op.eqItems, Sem.run_bind, hx', hy', Result.andThen_ok]
      split at h
      · rename_i h3
        rw [he h3 vx vy]
        simpa using ih h
      · rename_i h3
        cases h
        rw [he h3 vx vy]
        simp
      · cases h
    · cases h

theorem eq_ok : ∀ {d : Nat} {t : TypeId} {x y : LV} {b : Bool} {x' y' : Value}, eqL P d t x y = some b → VR G w x x' → VR G w y y' → (Op.equalIn d t x' y').run P w = .ok b w := by
  intro d
  induction d with
  | zero => intro t x y b x' y' h; simp [eqL] at h
  | succ d ih =>
    intro t x y b x' y' h vx vy
    simp only [eqL] at h
    cases hu : P.underlying t with
    | none => rw [hu] at h; cases h
    | some ty =>
      rw [hu] at h
      cases ty <;> dsimp only at h <;> try (cases h; done)
      case bool =>
        split at h <;> cases h
        cases vx; cases vy; simp [Op.equalIn, run_und hu]
      case int =>
        split at h
        · split at h <;> cases h
          rename_i e; subst e
          cases vx; cases vy; simp [Op.equalIn, run_und hu]
        · cases h
      case string =>
        split at h <;> cases h
        cases vx; cases vy; simp [Op.equalIn, run_und hu]
      case pointer =>
        split at h <;> cases h <;> cases vx <;> cases vy <;> simp [Op.equalIn, run_und hu]
      case slice =>
        split at h <;> cases h <;> cases vx <;> cases vy <;> simp [Op.equalIn, run_und hu]
      case func =>
        split at h <;> cases h <;> cases vx <;> cases vy <;> simp [Op.equalIn, run_und hu]
      case interface =>
        split at h <;> cases h <;> cases vx <;> cases vy <;> simp [Op.equalIn, run_und hu]
      case struct fields =>
        split at h
        · rename_i xs ys
          split at h
          · cases h
          · rename_i hst
            cases vx with
            | agg hl1 hv1 =>
              cases vy with
              | agg hl2 hv2 =>
                have hf : P.fieldsOf t = fields := by simp [Program.fieldsOf, hu]
                rw [run_equalIn_struct w d t _ _ (by rw [hf]; exact hu) (by simpa using hst), hf]
                exact eqFields_ok d ih (VR.agg hl1 hv1).ofAgg (VR.agg hl2 hv2).ofAgg h
        · cases h
      case array n e =>
        split at h
        · rename_i xs ys
          cases hs : sizeT P e with
          | none => rw [hs] at h; cases h
          | some sz =>
            rw [hs] at h
            cases vx with
            | agg hl1 hv1 =>
              cases vy with
              | agg hl2 hv2 =>
                unfold sizeT at hs
                cases hi : P.info? e with
                | none => rw [hi] at hs; cases hs
                | some i =>
                  rw [hi] at hs; cases hs
                  rw [run_equalIn_array w d _ _ hu hi, List.range_eq_range', show P.cellsOf e = i.size by simp [Program.cellsOf, hi]]
                  exact eqElems_ok d ih (VR.agg hl1 hv1).ofAgg (VR.agg hl2 hv2).ofAgg h
        · cases h

/-! ### operators -/
theorem int_ok {op : BinOp} {k : IntKind} {t : TypeId} {a b : Int} {v : LV} (hs : isShift op = false) (h : intOpL op k a b = some v) :
    ∃ u, (binOp op t (.int k a) (.int k b)).run P w = .ok u w ∧ VR G w v u := by
  cases op <;> simp only [intOpL] at h <;> first
    | (cases h; done)
    | (cases hs; done)
    | (cases h; exact ⟨_, by simp [binOp, Op.intArith, Op.intBits, Op.intCmp]; rfl, by constructor⟩)
    | (cases h; exact ⟨_, by simp only [binOp, ne_eq, not_true_eq_false, if_false, Op.intBits]; rfl, by constructor⟩)
    | (split at h
       · cases h
       · rename_i hb; cases h; exact ⟨_, by simp [binOp, Op.intDiv, hb]; rfl, by constructor⟩)

theorem shift_ok {op : BinOp} {k k' : IntKind} {t : TypeId} {a b : Int} {v : LV} (h : shiftL op k a b = some v) :
    ∃ u, (binOp op t (.int k a) (.int k' b)).run P w = .ok u w ∧ VR G w v u := by
  unfold shiftL at h
  split at h
  · cases h
  · rename_i hb
    cases op <;> simp only [] at h <;> first
      | (cases h; done)
      | (cases h; exact ⟨_, by simp [binOp, Op.shift, hb]; rfl, by constructor⟩)

theorem str_ok {op : BinOp} {t : TypeId} {a b : ByteArray} {v : LV} (h : strOpL op a b = some v) :
    ∃ u, (binOp op t (.string a) (.string b)).run P w = .ok u w ∧ VR G w v u := by
  cases op <;> simp only [strOpL] at h <;> first
    | (cases h; done)
    | (cases h; exact ⟨_, by simp [binOp, Op.stringOp]; rfl, by constructor⟩)
    | (split at h
       · rename_i hb; cases h; refine ⟨_, ?_, .str _⟩
         have hm : IntKind.i64.max = 9223372036854775807 := rfl
         simp [binOp, Op.stringOp, hm]; omega
       · cases h)

theorem binTop_ok {op : BinOp} {t : TypeId} {x y : LV} {x' y' : Value} {b : Bool} (hop : op = .eql ∨ op = .neq) (h : eqTopL P t x y = some b)
    (vx : VR G w x x') (vy : VR G w y y') (hq : eqable x y = true) : (binOp op t x' y').run P w = .ok (.bool (if op = .eql then b else !b)) w := by
  have he : (Op.equal t x' y').run P w = .ok b w := by
    unfold eqTopL at h
    unfold Op.equal Op.maxDepth
    split at h
    · split at h
      · cases h
      · exact eq_ok h vx vy
    · exact eq_ok h vx vy
  rcases hop with rfl | rfl
  · cases vx <;> cases vy <;> first
      | (cases hq; done)
      | (simp only [binOp, Sem.run_bind, he, Result.andThen_ok, Sem.run_pure]; rfl)
  · cases vx <;> cases vy <;> first
      | (cases hq; done)
      | (simp only [binOp, Sem.run_bind, he, Result.andThen_ok, Sem.run_pure]; rfl)

end Go.LM
