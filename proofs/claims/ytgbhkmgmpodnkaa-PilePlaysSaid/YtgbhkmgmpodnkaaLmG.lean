import Derived.Test.YtgbhkmgmpodnkaaLmM
import Derived.ChangeKeysEq
import Derived.Laws.BytesString
import Derived.Lib.ConvBytes
import Derived.Laws.AppendOwn
namespace Go.LM
variable {P : Program} {G : Gh} {w : World}

/-! ### equality -/
theorem eqFields_ok (d : Nat) (he : ∀ {t x y b x' y'}, eqL P d t x y = some b → VR G w x x' → VR G w y y' → (Op.equalIn d t x' y').run P w = .ok b w) {xs ys : List LV} {a b : Array Value}
    (hx : VRs G w xs a.toList) (hy : VRs G w ys b.toList) : ∀ {fs : List Field} {r : Bool}, eqFieldsL P (eqL P d) xs ys fs = some r → (Op.eqFields d a b fs).run P w = .ok r w := by
  intro fs
  induction fs with
  | nil => intro r h; simp only [eqFieldsL] at h; cases h; simp [Op.eqFields]
  | cons f fs ih =>
    intro r h
    simp only [eqFieldsL] at h
    by_cases hn : f.name = "_"
    · rw [if_pos hn] at h
      simp only [Op.eqFields]
      rw [if_neg (by simpa using hn)]
      exact ih h
    · rw [if_neg hn] at h
      split at h
      · rename_i x y h1 h2
        obtain ⟨x', hx', vx⟩ := part_ok h1 hx
        obtain ⟨y', hy', vy⟩ := part_ok h2 hy
        simp only [Op.eqFields]
        rw [if_pos hn]
        simp only [Sem.run_bind, hx', hy', Result.andThen_ok]
        split at h
        · rename_i h3
          rw [he h3 vx vy]
          simpa using ih h
        · rename_i h3
          cases h
          rw [he h3 vx vy]
          simp
        · cases h
      · cases h
theorem eqElems_ok (d : Nat) {e : TypeId} {n : Nat} (he : ∀ {t x y b x' y'}, eqL P d t x y = some b → VR G w x x' → VR G w y y' → (Op.equalIn d t x' y').run P w = .ok b w) {xs ys : List LV} {a b : Array Value}
    (hx : VRs G w xs a.toList) (hy : VRs G w ys b.toList) : ∀ {m i : Nat} {r : Bool}, eqElemsL P (eqL P d) e n xs ys i m = some r → (Op.eqItems d e n a b (List.range' i m)).run P w = .ok r w := by
  intro m
  induction m with
  | zero => intro i r h; simp only [eqElemsL] at h; cases h; simp [Op.eqItems]
  | succ m ih =>
    intro i r h
    simp only [eqElemsL] at h
    split at h
    · rename_i x y h1 h2
      obtain ⟨x', hx', vx⟩ := part_ok h1 hx
      obtain ⟨y', hy', vy⟩ := part_ok h2 hy
      rw [List.range'_succ]
      simp only [Op.eqItems, Sem.run_bind, hx', hy', Result.andThen_ok]
      split at h
      · rename_i h3
        rw [he h3 vx vy]
        simpa using ih h
      · rename_i h3
        cases h
        rw [he h3 vx vy]
        simp
      · cases h
    · cases h

theorem eq_ok : ∀ {d : Nat} {t : TypeId} {x y : LV} {b : Bool} {x' y' : Value}, eqL P d t x y = some b → VR G w x x' → VR G w y y' → (Op.equalIn d t x' y').run P w = .ok b w := by
  intro d
  induction d with
  | zero => intro t x y b x' y' h; simp [eqL] at h
  | succ d ih =>
    intro t x y b x' y' h vx vy
    simp only [eqL] at h
    cases hu : P.underlying t with
    | none => rw [hu] at h; cases h
    | some ty =>
      rw [hu] at h
      cases ty <;> dsimp only at h <;> try (cases h; done)
      case bool =>
        split at h <;> cases h
        cases vx; cases vy; simp [Op.equalIn, run_und hu]
      case int =>
        split at h
        · split at h <;> cases h
          rename_i e; subst e
          cases vx; cases vy; simp [Op.equalIn, run_und hu]
        · cases h
      case string =>
        split at h <;> cases h
        cases vx; cases vy; simp [Op.equalIn, run_und hu]
      case pointer =>
        split at h <;> cases h <;> cases vx <;> cases vy <;> simp [Op.equalIn, run_und hu]
      case slice =>
        split at h <;> cases h <;> cases vx <;> cases vy <;> simp [Op.equalIn, run_und hu]
      case func =>
        split at h <;> cases h <;> cases vx <;> cases vy <;> simp [Op.equalIn, run_und hu]
      case interface =>
        split at h <;> cases h <;> cases vx <;> cases vy <;> simp [Op.equalIn, run_und hu]
      case struct fields =>
        split at h
        · rename_i xs ys
          split at h
          · cases h
          · rename_i hst
            cases vx with
            | agg hl1 hv1 =>
              cases vy with
              | agg hl2 hv2 =>
                have hf : P.fieldsOf t = fields := by simp [Program.fieldsOf, hu]
                rw [run_equalIn_struct w d t _ _ (by rw [hf]; exact hu) (by simpa using hst), hf]
                exact eqFields_ok d ih (VR.agg hl1 hv1).ofAgg (VR.agg hl2 hv2).ofAgg h
        · cases h
      case array n e =>
        split at h
        · rename_i xs ys
          cases hs : sizeT P e with
          | none => rw [hs] at h; cases h
          | some sz =>
            rw [hs] at h
            cases vx with
            | agg hl1 hv1 =>
              cases vy with
              | agg hl2 hv2 =>
                unfold sizeT at hs
                cases hi : P.info? e with
                | none => rw [hi] at hs; cases hs
                | some i =>
                  rw [hi] at hs; cases hs
                  rw [run_equalIn_array w d _ _ hu hi, List.range_eq_range', show P.cellsOf e = i.size by simp [Program.cellsOf, hi]]
                  exact eqElems_ok d ih (VR.agg hl1 hv1).ofAgg (VR.agg hl2 hv2).ofAgg h
        · cases h

/-! ### operators -/
theorem int_ok {op : BinOp} {k : IntKind} {t : TypeId} {a b : Int} {v : LV} (hs : isShift op = false) (h : intOpL op k a b = some v) :
    ∃ u, (binOp op t (.int k a) (.int k b)).run P w = .ok u w ∧ VR G w v u := by
  cases op <;> simp only [intOpL] at h <;> first
    | (cases h; done)
    | (cases hs; done)
    | (cases h; exact ⟨_, by simp [binOp, Op.intArith, Op.intBits, Op.intCmp]; rfl, by constructor⟩)
    | (cases h; exact ⟨_, by simp only [binOp, ne_eq, not_true_eq_false, if_false, Op.intBits]; rfl, by constructor⟩)
    | (split at h
       · cases h
       · rename_i hb; cases h; exact ⟨_, by simp [binOp, Op.intDiv, hb]; rfl, by constructor⟩)

theorem shift_ok {op : BinOp} {k k' : IntKind} {t : TypeId} {a b : Int} {v : LV} (h : shiftL op k a b = some v) :
    ∃ u, (binOp op t (.int k a) (.int k' b)).run P w = .ok u w ∧ VR G w v u := by
  unfold shiftL at h
  split at h
  · cases h
  · rename_i hb
    cases op <;> simp only [] at h <;> first
      | (cases h; done)
      | (cases h; exact ⟨_, by simp [binOp, Op.shift, hb]; rfl, by constructor⟩)

theorem str_ok {op : BinOp} {t : TypeId} {a b : ByteArray} {v : LV} (h : strOpL op a b = some v) :
    ∃ u, (binOp op t (.string a) (.string b)).run P w = .ok u w ∧ VR G w v u := by
  cases op <;> simp only [strOpL] at h <;> first
    | (cases h; done)
    | (cases h; exact ⟨_, by simp [binOp, Op.stringOp]; rfl, by constructor⟩)
    | (split at h
       · rename_i hb; cases h; refine ⟨_, ?_, .str _⟩
         have hm : IntKind.i64.max = 9223372036854775807 := rfl
         simp [binOp, Op.stringOp, hm]; omega
       · cases h)

theorem binTop_ok {op : BinOp} {t : TypeId} {x y : LV} {x' y' : Value} {b : Bool} (hop : op = .eql ∨ op = .neq) (h : eqTopL P t x y = some b)
    (vx : VR G w x x') (vy : VR G w y y') (hq : eqable x y = true) : (binOp op t x' y').run P w = .ok (.bool (if op = .eql then b else !b)) w := by
  have he : (Op.equal t x' y').run P w = .ok b w := by
    unfold eqTopL at h
    unfold Op.equal Op.maxDepth
    split at h
    · split at h
      · cases h
      · exact eq_ok h vx vy
    · exact eq_ok h vx vy
  rcases hop with rfl | rfl
  · cases vx <;> cases vy <;> first
      | (cases hq; done)
      | (simp only [binOp, Sem.run_bind, he, Result.andThen_ok, Sem.run_pure]; rfl)
  · cases vx <;> cases vy <;> first
      | (cases hq; done)
      | (simp only [binOp, Sem.run_bind, he, Result.andThen_ok, Sem.run_pure]; rfl)

end Go.LM

namespace Go.LM
variable {P : Program} {G : Gh} {w : World}

theorem bin_ok {op : BinOp} {t : TypeId} {x y v : LV} {x' y' : Value} (ox oy : Operand) (h : binL P op t x y = some v) (vx : VR G w x x') (vy : VR G w y y') :
    ∃ u, (do eqGuard op t ox oy x' y'; binOp op t x' y' : Sem Value).run P w = .ok u w ∧ VR G w v u := by
  have hg : ∀ x' y', (∀ a b, x' = .agg a → y' = .agg b → P.eqGuardType P.depth t = false) → (x' = .nilIface → y' = .nilIface → False) →
      (eqGuard op t ox oy x' y').run P w = .ok () w := by
    intro x' y' h1 h2
    cases op <;> first
      | (simp [eqGuard]; done)
      | (unfold eqGuard
         simp only [Bool.not_true, Bool.false_eq_true, if_false]
         split
         · exact (h2 rfl rfl).elim
         · have := h1 _ _ rfl rfl
           simp [this]
         · rfl)
  unfold binL at h
  split at h
  · rename_i k a k' b
    cases vx; cases vy
    obtain ⟨u, hu, hv⟩ : ∃ u, (binOp op t (.int k a) (.int k' b)).run P w = .ok u w ∧ VR G w v u := by
      split at h
      · exact shift_ok (by
          rename_i hs
          exact h)
      · split at h
        · rename_i hs hk; subst hk
          exact int_ok (by simpa using hs) h
        · cases h
    exact ⟨u, by simp only [Sem.run_bind]; rw [hg _ _ (by intro a b h; cases h) (by intro h; cases h)]; exact hu, hv⟩
  · cases vx; cases vy
    obtain ⟨u, hu, hv⟩ := str_ok (P := P) (G := G) (w := w) (t := t) h
    exact ⟨u, by simp only [Sem.run_bind]; rw [hg _ _ (by intro a b h; cases h) (by intro h; cases h)]; exact hu, hv⟩
  · split at h
    case isFalse => cases h
    rename_i hq
    have key : ∀ b, eqTopL P t x y = some b → (eqGuard op t ox oy x' y').run P w = .ok () w := by
      intro b he
      refine hg _ _ ?_ ?_
      · rintro a b rfl rfl
        cases vx <;> cases vy <;> first
          | (cases hq; done)
          | (simp only [eqTopL] at he
             split at he
             · cases he
             · rename_i hq; simpa using hq)
      · rintro rfl rfl
        cases vx <;> cases vy <;> cases hq
    split at h
    · cases he : eqTopL P t x y with
      | none => rw [he] at h; cases h
      | some b =>
        rw [he] at h; cases h
        refine ⟨.bool b, ?_, .bool _⟩
        simp only [Sem.run_bind, key b he, Result.andThen_ok]
        exact binTop_ok (.inl rfl) he vx vy hq
    · cases he : eqTopL P t x y with
      | none => rw [he] at h; cases h
      | some b =>
        rw [he] at h; cases h
        refine ⟨.bool (!b), ?_, .bool _⟩
        simp only [Sem.run_bind, key b he, Result.andThen_ok]
        exact binTop_ok (.inr rfl) he vx vy hq
    · cases h

end Go.LM

namespace Go.LM
variable {P : Program} {G : Gh} {w : World}

theorem un_ok {op : UnOp} {x v : LV} {x' : Value} (h : unL op x = some v) (vx : VR G w x x') : ∃ u, (Op.unary op x').run P w = .ok u w ∧ VR G w v u := by
  unfold unL at h
  split at h
  · cases h; cases vx; exact ⟨_, by simp [Op.unary, Op.intArith]; rfl, by simpa using VR.int _ _⟩
  · cases vx
    simp only [intOpL] at h; cases h
    exact ⟨_, by simp only [Op.unary, Op.intBits]; rfl, by constructor⟩
  · cases h; cases vx; exact ⟨_, by simp [Op.unary]; rfl, by constructor⟩
  · cases h

theorem field_ok {t : TypeId} {x v : LV} {f : Nat} {x' : Value} (h : fieldL P t x f = some v) (vx : VR G w x x') : ∃ u, (Instr.field t x' f).run P w = .ok u w ∧ VR G w v u := by
  unfold fieldL at h
  split at h
  · rename_i fields hu
    split at h
    · rename_i fd hf
      split at h
      · rename_i cs
        cases vx with
        | agg hl hv =>
          obtain ⟨u, h1, h2⟩ := part_ok h (VR.agg hl hv).ofAgg
          exact ⟨u, by simp [Instr.field, run_und hu, hf, asAgg, h1], h2⟩
      · cases h
    · cases h
  · cases h

theorem cells_one {v : LV} (h : v.one = true) : v.cells = [v] := by
  cases v <;> first | rfl | (simp [LV.one] at h)

theorem sub_ok {t : TypeId} {v c : LV} {off blk o : Nat} {u : Nat → Value} (h : subL P t v off = some c)
    (hc : ∀ i, i < v.cells.length → w.cell? ⟨blk, o + i, none⟩ = some (u i) ∧ G.prot blk (o + i))
    (hv : ∀ i (h : i < v.cells.length), VR G w v.cells[i] (u i)) : VR G w c (.pointer (some ⟨blk, o + off, none⟩)) := by
  unfold subL at h
  split at h
  · rename_i x hp
    split at h
    · rename_i hcond
      cases h
      unfold partL at hp
      split at hp
      · split at hp
        · rename_i n hn
          split at hp
          · rename_i hl
            cases hp
            have hlen : (LV.agg (List.take n (List.drop off v.cells))).cells.length = n := by
              show (List.take n (List.drop off v.cells)).length = n
              rw [List.length_take, List.length_drop]; omega
            refine .cptr (fun i => u (off + i)) (fun i hi => ?_) (fun i hi => ?_)
            · rw [Nat.add_assoc]; exact hc _ (by omega)
            · have := hv (off + i) (by omega)
              simpa [LV.cells, List.getElem_take, List.getElem_drop] using this
          · cases hp
        · cases hp
      · rename_i hb
        have hone : x.one = true := hcond.resolve_left (by rw [hb]; simp)
        obtain ⟨hi, rfl⟩ := List.getElem?_eq_some_iff.1 hp
        have hcc := cells_one hone
        refine .cptr (fun i => u (off + i)) (fun i hi' => ?_) (fun i hi' => ?_)
        · rw [hcc] at hi'; simp at hi'; subst hi'
          exact hc _ hi
        · rw [hcc] at hi'; simp at hi'; subst hi'
          simp only [hcc, List.getElem_cons_zero]
          exact hv off hi
      · cases hp
    · cases h
  · cases h

theorem fieldAddr_ok {t : TypeId} {x v : LV} {f : Nat} {x' : Value} (h : fieldAddrL P t x f = some v) (vx : VR G w x x') : ∃ u, (Instr.fieldAt t x' f).run P w = .ok u w ∧ VR G w v u := by
  unfold fieldAddrL at h
  split at h
  · rename_i fields hu
    split at h
    · rename_i fd hf
      split at h
      · rename_i n hn
        have hfp : ∀ a : Addr, (fieldPlace a fd).run P w = .ok (a.add fd.offset) w := by
          intro a; simp [fieldPlace, run_size hn]
        split at h
        · cases h
          cases vx with
          | ptr hb => exact ⟨_, by simp [Instr.fieldAt, run_und hu, hf, Instr.sureAddr, hfp, add_off], .ptr hb⟩
        · cases vx with
          | cptr u hc hv =>
            exact ⟨_, by simp [Instr.fieldAt, run_und hu, hf, Instr.sureAddr, hfp, add_off], sub_ok h hc hv⟩
        · cases h
      · cases h
    · cases h
  · cases h

theorem indexAddr_ok {t : TypeId} {x i v : LV} {x' i' : Value} (h : indexAddrL P t x i = some v) (vx : VR G w x x') (vi : VR G w i i') :
    ∃ u, (Instr.indexAt t x' i').run P w = .ok u w ∧ VR G w v u := by
  unfold indexAddrL at h
  split at h
  · rename_i k n
    cases vi
    split at h
    · rename_i e hu
      split at h
      · rename_i r p sz xs
        split at h
        · rename_i hcond
          obtain ⟨hs, h0⟩ := hcond
          cases hx : xs[n.toNat]? with
          | none => rw [hx] at h; cases h
          | some y =>
            rw [hx] at h; cases h
            obtain ⟨hlt, hy⟩ := List.getElem?_eq_some_iff.1 hx
            cases vx with
            | sl u hcap hz hc hv ht =>
              rename_i blk off c
              have hlt' : n < xs.length := by omega
              refine ⟨.pointer (some ⟨blk, off + n.toNat * sz, none⟩), ?_, ?_⟩
              · simp [Instr.indexAt, asIntOf, run_und hu, run_size hs, add_off, h0, hlt']
              · subst hy
                refine .cptr (fun j => u n.toNat j) (fun j hj => ?_) (fun j hj => hv _ hlt j hj)
                have := hc _ hlt j (by rw [hz _ hlt] at hj; exact hj)
                exact ⟨this.1, this.2.1⟩
            | sle hi sz a c => simp at hlt
        · cases h
      · rename_i m len sz
        split at h
        · rename_i hcond
          obtain ⟨hs, h0, hlt⟩ := hcond
          cases h
          cases vx with
          | sm h1 hn h2 =>
            rename_i c a
            refine ⟨.pointer (some (a.add (n.toNat * sz))), ?_, .pm h1 fun pb cap hR => ?_⟩
            · simp [Instr.indexAt, asIntOf, run_und hu, run_size hs, h0, hlt]
            · obtain ⟨rfl, _⟩ := h2 pb cap hR
              rw [add_off, Nat.zero_add]
        · cases h
      · cases h
    · rename_i len e hu
      split at h
      · rename_i sz hs
        split at h
        · rename_i hb
          obtain ⟨h0, hlt⟩ := hb
          split at h
          · cases h
            cases vx with
            | ptr hb =>
              exact ⟨_, by simp [Instr.indexAt, asIntOf, run_und hu, run_size hs, add_off, h0, hlt, Instr.sureAddr], .ptr hb⟩
          · cases vx with
            | cptr u hc hv =>
              exact ⟨_, by simp [Instr.indexAt, asIntOf, run_und hu, run_size hs, add_off, h0, hlt, Instr.sureAddr], sub_ok h hc hv⟩
          · cases h
        · cases h
      · cases h
    · cases h
  · cases h

theorem index_ok {t : TypeId} {x i v : LV} {x' i' : Value} (h : indexL P t x i = some v) (vx : VR G w x x') (vi : VR G w i i') :
    ∃ u, (Instr.index t x' i').run P w = .ok u w ∧ VR G w v u := by
  unfold indexL at h
  split at h
  · rename_i k n
    cases vi
    split at h
    · rename_i len e hu
      split at h
      · rename_i cs sz hs
        split at h
        · rename_i hb
          obtain ⟨h0, hlt⟩ := hb
          cases vx with
          | agg hl hv =>
            obtain ⟨u, h1, h2⟩ := part_ok h (VR.agg hl hv).ofAgg
            exact ⟨u, by simp [Instr.index, asIntOf, run_und hu, run_size hs, h0, hlt, h1], h2⟩
        · cases h
      · cases h
    · rename_i hu
      split at h
      · rename_i s
        split at h
        · rename_i h0
          cases vx
          cases hb : s.data[n.toNat]? with
          | none => rw [hb] at h; cases h
          | some b =>
            rw [hb] at h; cases h
            obtain ⟨hlt, hbe⟩ := Array.getElem?_eq_some_iff.1 hb
            refine ⟨.int .u8 b.toNat, ?_, .int _ _⟩
            have : s[n.toNat]? = some b := by
              rw [ByteArray.getElem?_lt' s n.toNat hlt]
              exact congrArg some hbe
            simp [Instr.index, asIntOf, run_und hu, h0, this]
        · cases h
      · cases h
    · cases h
  · cases h

theorem len_ok {t ty : TypeId} {x v : LV} {x' : Value} (h : lenL P t x = some v) (vx : VR G w x x') : ∃ u, (Builtin.len_ #[t] ty #[x']).run P w = .ok u w ∧ VR G w v u := by
  unfold lenL at h
  split at h
  · rename_i hu
    split at h
    · cases h; cases vx; exact ⟨_, by simp [Builtin.len_, run_und hu, goInt], .int _ _⟩
    · cases h
  · rename_i e hu
    split at h
    · cases h; cases vx; exact ⟨_, by simp [Builtin.len_, run_und hu, goInt], .int _ _⟩
    · cases h; cases vx
      · exact ⟨_, by simp [Builtin.len_, run_und hu, goInt], .int _ _⟩
      · exact ⟨.int .i64 0, by simp [Builtin.len_, run_und hu, goInt], .int _ _⟩
    · cases h; cases vx; exact ⟨_, by simp [Builtin.len_, run_und hu, goInt], .int _ _⟩
    · cases h; cases vx; exact ⟨_, by simp [Builtin.len_, run_und hu, goInt], .int _ _⟩
    · cases h
  · rename_i n e hu
    cases h
    exact ⟨_, by simp [Builtin.len_, run_und hu, goInt], .int _ _⟩
  · rename_i a hu
    split at h
    · rename_i n e hu2
      cases h
      exact ⟨_, by simp [Builtin.len_, run_und hu, run_und hu2, goInt], .int _ _⟩
    · cases h
  · cases h

theorem fold_ok {f : LV → LV → Option LV} {g : Value → Value → Sem Value} (hf : ∀ {x y z x' y'}, f x y = some z → VR G w x x' → VR G w y y' → ∃ u, (g x' y').run P w = .ok u w ∧ VR G w z u) :
    ∀ {l : List LV} {x v : LV} {l' : List Value} {x' : Value}, foldL f x l = some v → VR G w x x' → VRs G w l l' → ∃ u, (l'.foldlM g x').run P w = .ok u w ∧ VR G w v u := by
  intro l
  induction l with
  | nil =>
    intro x v l' x' h vx vl
    cases l' with
    | nil => simp only [foldL] at h; cases h; exact ⟨x', by simp, vx⟩
    | cons u us => simp [VRs] at vl
  | cons y l ih =>
    intro x v l' x' h vx vl
    cases l' with
    | nil => simp [VRs] at vl
    | cons y' l' =>
      simp only [foldL] at h
      split at h
      · rename_i z hz
        obtain ⟨u, h1, h2⟩ := hf hz vx vl.head
        obtain ⟨u2, h3, h4⟩ := ih h h2 vl.tail
        exact ⟨u2, by simp only [List.foldlM_cons, Sem.run_bind, h1, Result.andThen_ok]; exact h3, h4⟩
      · cases h

theorem max2_ok {x y z : LV} {x' y' : Value} (h : max2L x y = some z) (vx : VR G w x x') (vy : VR G w y y') : ∃ u, (Builtin.max2 x' y').run P w = .ok u w ∧ VR G w z u := by
  unfold max2L at h
  split at h
  · cases h; cases vx; cases vy; exact ⟨_, by simp only [Builtin.max2]; rfl, .int _ _⟩
  · cases h
theorem min2_ok {x y z : LV} {x' y' : Value} (h : min2L x y = some z) (vx : VR G w x x') (vy : VR G w y y') : ∃ u, (Builtin.min2 x' y').run P w = .ok u w ∧ VR G w z u := by
  unfold min2L at h
  split at h
  · cases h; cases vx; cases vy; exact ⟨_, by simp only [Builtin.min2]; rfl, .int _ _⟩
  · cases h

theorem assert_ok {t s : TypeId} {ok : Bool} {x v : LV} {x' : Value} (h : assertL P t ok x = some v) (vx : VR G w x x') : ∃ u, (Instr.typeAssert x' s t ok).run P w = .ok u w ∧ VR G w v u := by
  unfold assertL at h
  split at h
  · rename_i u y d hd
    split at h
    · rename_i hc
      obtain ⟨rfl, rfl⟩ := hc
      cases h
      cases vx with
      | iface hv =>
        rename_i z
        exact ⟨.tuple #[z, .bool true], by simp [Instr.typeAssert, run_und hd], VRs.toTup (.cons hv (.cons (.bool _) .nil))⟩
    · cases h
  · cases h
end Go.LM

namespace Go.LM
variable {P : Program} {G : Gh} {w : World}

theorem toBytes_ok : ∀ {xs : List LV} {l : List UInt8}, toBytes xs = some l → ∃ ns : List Int, xs = ns.map (LV.int .u8) ∧ l = ns.map (fun n => UInt8.ofNat n.toNat)
  | [], l, h => by simp only [toBytes] at h; cases h; exact ⟨[], rfl, rfl⟩
  | x :: xs, l, h => by
    cases x <;> try (simp only [toBytes] at h; cases h; done)
    rename_i k n
    cases k <;> try (simp only [toBytes] at h; cases h; done)
    simp only [toBytes] at h
    cases hx : toBytes xs with
    | none => rw [hx] at h; cases h
    | some l' =>
      rw [hx] at h; cases h
      obtain ⟨ns, h1, h2⟩ := toBytes_ok hx
      exact ⟨n :: ns, by rw [h1]; rfl, by rw [h2]; rfl⟩

theorem foldl_push (ns : List Int) : ∀ s : ByteArray, ns.foldl (fun r n => r.push (UInt8.ofNat n.toNat)) s = ⟨s.data ++ (ns.map (fun n => UInt8.ofNat n.toNat)).toArray⟩ := by
  induction ns with
  | nil => intro s; simp
  | cons n ns ih =>
    intro s
    rw [List.foldl_cons, ih]
    simp [ByteArray.push]

/-- The cells of a slice's elements, all in one. -/
theorem sl_cells {r hi sz : Nat} {xs : List LV} {blk off c : Nat} (h : VR G w (.sl r hi sz xs) (.slice (some ⟨blk, off, none⟩) xs.length c)) :
    ∃ us : List Value, us.length = xs.length * sz ∧ (∀ j u, us[j]? = some u → w.cell? ⟨blk, off + j, none⟩ = some u ∧ G.prot blk (off + j) ∧ u.oneCell' = true) ∧
      (∀ i (h : i < xs.length), xs[i].cells.length = sz) ∧
      ∀ i (h : i < xs.length) j (hj : j < xs[i].cells.length), ∃ u, us[i * sz + j]? = some u ∧ VR G w xs[i].cells[j] u := by
  cases h with
  | sl u hcap hz hc hv ht =>
    by_cases h0 : sz = 0
    · subst h0
      exact ⟨[], by simp, by simp, hz, fun i hi j hj => by rw [hz i hi] at hj; omega⟩
    · refine ⟨(List.range (xs.length * sz)).map (fun k => u (k / sz) (k % sz)), by simp, ?_, hz, ?_⟩
      · intro j x hx
        obtain ⟨hj, hx⟩ := List.getElem?_eq_some_iff.1 hx
        simp at hj hx
        have h1 : j / sz < xs.length := Nat.div_lt_of_lt_mul (by rw [Nat.mul_comm]; exact hj)
        have h2 : j % sz < sz := Nat.mod_lt _ (by omega)
        have := hc _ h1 _ h2
        have he : off + j / sz * sz + j % sz = off + j := by have := Nat.div_add_mod j sz; rw [Nat.mul_comm] at this; omega
        rw [he, hx] at this
        exact this
      · intro i hi j hj
        have hj' : j < sz := by rw [hz i hi] at hj; exact hj
        have hlt : i * sz + j < xs.length * sz := by
          calc i * sz + j < i * sz + sz := by omega
            _ = (i + 1) * sz := by rw [Nat.add_mul]; omega
            _ ≤ xs.length * sz := Nat.mul_le_mul_right _ hi
        refine ⟨u i j, ?_, hv i hi j hj⟩
        rw [List.getElem?_map, List.getElem?_range hlt]
        have h1 : (i * sz + j) / sz = i := by
          rw [Nat.mul_comm, Nat.mul_add_div (by omega), Nat.div_eq_of_lt hj']; omega
        have h2 : (i * sz + j) % sz = j := by
          rw [Nat.mul_comm, Nat.mul_add_mod, Nat.mod_eq_of_lt hj']
        simp [h1, h2]
  | sle hi sz a c => exact ⟨[], by simp, by simp, by simp, fun i hi => absurd hi (by simp)⟩

theorem bytes_len (s : ByteArray) : (bytesL s).length = s.size := by simp [bytesL]

theorem conv_ok {base tb tr : Nat} {src dst : TypeId} {x v : LV} {h h' : H} {x' : Value}
    (hl : convL P src dst x h = some (v, h')) (hr : HR base G w h) (hf : Fresh G h tb tr) (ht : h'.row.length ≤ tr) (vx : VR G w x x') :
    ∃ u w' G', (convert src dst x').run P w = .ok u w' ∧ VR G' w' v u ∧ Step base G w h G' w' h' := by
  unfold convL at hl
  split at hl
  · cases hl
  · rename_i s hs
    split at hl
    · rename_i k hd
      split at hl
      · cases hl; cases vx
        exact ⟨_, w, G, by simp [convert, run_und hs, run_und hd, Conv.intToInt], .int _ _, .refl hr⟩
      · cases hl
    · rename_i hd
      split at hl
      · cases hl; cases vx
        exact ⟨_, w, G, by simp [convert, run_und hs, run_und hd], .str _, .refl hr⟩
      · split at hl
        · rename_i e
          split at hl
          · rename_i he
            cases hl; cases vx
            refine ⟨_, w, G, ?_, .str _, .refl hr⟩
            rw [run_convert_bytes_string w src dst e none 0 0 hs he hd]
            simp [Conv.bytesToString]
          · cases hl
        · cases hl
      · rename_i r p sz xs
        split at hl
        · rename_i e
          split at hl
          · rename_i he
            split at hl
            · rename_i h1; subst h1
              cases hb : toBytes xs with
              | none => rw [hb] at hl; cases hl
              | some l =>
                rw [hb] at hl
                cases hl
                obtain ⟨ns, rfl, rfl⟩ := toBytes_ok hb
                have vx0 := vx
                generalize hxs : ns.map (LV.int .u8) = xs at vx
                cases vx with
                | sle hi sz a c =>
                  obtain rfl : ns = [] := by simpa using hxs
                  refine ⟨_, w, G, ?_, .str _, .refl hr⟩
                  rw [run_convert_bytes_string w src dst e _ _ _ hs he hd]
                  simp [Conv.bytesToString, loadCells, loadCellsFrom]
                  rfl
                | sl u hcap hz hc hv htk =>
                  subst hxs
                  rename_i blk off c
                  obtain ⟨us, hu1, hu2, _, hu4⟩ := sl_cells vx0
                  have hus : us = ns.map (Value.int .u8) := by
                    apply List.ext_getElem?
                    intro i
                    by_cases hi : i < ns.length
                    · obtain ⟨x, hx1, hx2⟩ := hu4 i (by simpa using hi) 0 (by simp [LV.cells])
                      simp only [Nat.mul_one, Nat.add_zero] at hx1
                      rw [hx1]
                      simp only [List.getElem_map] at hx2
                      cases hx2
                      simp [hi]
                    · rw [List.getElem?_eq_none (by rw [hu1]; simp; omega), List.getElem?_eq_none (by simp; omega)]
                  have hlc := run_loadCells_list (P := P) (w := w) ⟨blk, off, none⟩ us (by intro j x hx; rw [add_off]; exact (hu2 j x hx).1)
                  rw [hus] at hlc
                  simp only [List.length_map] at hlc
                  refine ⟨_, w, G, ?_, .str _, .refl hr⟩
                  rw [run_convert_bytes_string w src dst e _ _ _ hs he hd]
                  simp only [List.length_map]
                  rw [run_bytesToString w _ _ _ ns hlc, foldl_push]
                  simp
            · cases hl
          · cases hl
        · cases hl
      · cases hl
    · rename_i e hd
      split at hl
      · rename_i a
        split at hl
        · rename_i he
          simp only [newRowL, Option.some.injEq, Prod.mk.injEq] at hl
          obtain ⟨rfl, rfl⟩ := hl
          cases vx
          have hcap := grownCap_ge w a.size 0 e
          have hsz : (Lib.bytesCells w e a).size = grownCap w a.size 0 e := by simp [Lib.bytesCells]; change a.size + _ = _; omega
          have hblen := bytes_len a
          have hheap : (Lib.bytesWorld w e a).heap = w.heap.push (.cells (Lib.bytesCells w e a) e ((Lib.bytesCells w e a).size, (Lib.bytesCells w e a).size + 1)) := by
            apply Array.ext_getElem?
            intro i
            by_cases hi : i < w.heap.size
            · rw [Lib.bytesWorld_at_old w e a i hi, Array.getElem?_push_lt hi, Array.getElem?_eq_getElem hi]
            · by_cases hi2 : i = w.heap.size
              · subst hi2; rw [Lib.bytesWorld_at_new]; simp
              · rw [Array.getElem?_eq_none (by rw [Lib.bytesWorld_size]; omega), Array.getElem?_eq_none (by simp; omega)]
          have hstep := Step.newRow (w := w) (w' := Lib.bytesWorld w e a) (c := Lib.bytesCells w e a) (ty := e) (fr := ((Lib.bytesCells w e a).size, (Lib.bytesCells w e a).size + 1))
            (pos := (bytesL a).length) (fin := (bytesL a).length * 1) (cap := grownCap w a.size 0 e * 1)
            hheap ⟨rfl, rfl, rfl⟩ hr (hf.row _ (Nat.le_refl _) (by simp at ht; omega)) (by omega) (by omega) (by intro o ho; omega)
          refine ⟨_, _, _, Lib.run_convert_string_bytes w src dst e a hs hd he, ?_, hstep⟩
          have hnew := newRow_vr (G' := { G with row := fun r => if r = h.row.length then some ⟨w.heap.size, (bytesL a).length, (bytesL a).length * 1, grownCap w a.size 0 e * 1⟩ else G.row r, prot := fun b o => G.prot b o ∨ (b = w.heap.size ∧ o < (bytesL a).length * 1) })
            (w' := Lib.bytesWorld w e a) (r := h.row.length) (blk := w.heap.size) (cap := grownCap w a.size 0 e) (xs := bytesL a) (sz := 1) (c := Lib.bytesCells w e a)
            (us := (Lib.bytesCells w e a).toList)
            (fun i hi => by simp [bytesL, LV.cells]) ?_ (by intro u hu; simp [Lib.bytesCells] at hu; rcases hu with ⟨_, _, rfl⟩ | ⟨_, rfl⟩ <;> rfl) (Lib.bytesWorld_at_new w e a) (fun i _ => by simp) (fun o ho => Or.inr ⟨rfl, ho⟩) (by omega) (by simp)
          · rw [hblen] at hnew ⊢; exact hnew
          · intro i hi j hj
            simp [bytesL, LV.cells] at hj hi
            subst hj
            refine ⟨.int .u8 (a.data[i]'hi).toNat, ?_, ?_⟩
            · simp only [Lib.bytesCells, Array.toList_append, Array.toList_map, Array.toList_replicate, Nat.mul_one, Nat.add_zero]
              have hi' : i < a.data.toList.length := by simpa using hi
              rw [List.getElem?_append_left (by simpa using hi), List.getElem?_map, List.getElem?_eq_getElem hi']
              simp
            · simp only [bytesL, List.getElem_map, Array.getElem_toList]
              exact .int _ _
        · cases hl
      · rename_i r p sz xs
        split at hl
        · rename_i he
          split at hl
          · rename_i hc
            obtain ⟨rfl, hr0, hlor, hrow⟩ := hc
            cases hl
            cases vx with
            | sle hi sz a c => exact absurd rfl hr0
            | sl u' hcap hxz hcc hv htk =>
              rename_i blk off cc
              obtain ⟨R, hR, hpR, hfull⟩ := htk hr0
              obtain ⟨hpos, hfc2, cR, tyR, frR, hheap, hcapR, hspare⟩ := hr.row r R p hR hrow
              obtain ⟨rfl, hfin, hcapE⟩ := hfull hpos.symm
              subst hpos
              have hsame : ({ h with row := h.row.set r R.pos } : H) = h := by
                have : h.row.set r R.pos = h.row := by
                  refine List.ext_getElem? fun i => ?_
                  by_cases hi : i = r
                  · subst hi
                    rw [List.getElem?_set_self (List.getElem?_eq_some_iff.1 hrow).1, hrow]
                  · rw [List.getElem?_set_ne (by omega)]
                rw [this]
              have hshape : w.shape? R.pb = some (tyR, cR.size) := by simp [World.shape?, hheap]
              have hfz : ∃ fr', (w.freeze ⟨R.pb, cR.size, none⟩ 1).heap[R.pb]? = some (.cells cR tyR fr') ∧ (∀ o, o < R.cap → (fr'.1 = fr'.2 ∨ o < fr'.1)) := by
                obtain ⟨lo, hi⟩ := frR
                have hlt : R.pb < w.heap.size := (Array.getElem?_eq_some_iff.1 hheap).1
                refine ⟨if lo == hi then (cR.size, cR.size + 1) else (min lo cR.size, max hi (cR.size + 1)), ?_, ?_⟩
                · simp only [World.freeze, Nat.one_ne_zero, if_false]
                  rw [Array.getElem?_modify, if_pos rfl, hheap]; rfl
                · intro o ho
                  have := (hspare o ho).2
                  dsimp only at this
                  split
                  · right; dsimp only; omega
                  · rename_i hne
                    have hne : ¬ lo = hi := by simpa using hne
                    right; dsimp only; omega
              obtain ⟨fr', h1, h2⟩ := hfz
              have hother : ∀ i, i ≠ R.pb → (w.freeze ⟨R.pb, cR.size, none⟩ 1).heap[i]? = w.heap[i]? := by
                intro i hi
                simp only [World.freeze, Nat.one_ne_zero, if_false]
                rw [Array.getElem?_modify, if_neg (Ne.symm hi)]
              have hst := Step.mark (w := w) (w' := w.freeze ⟨R.pb, cR.size, none⟩ 1) (h := h) ⟨rfl, rfl, rfl⟩ (by simp [World.freeze]) hother hheap h1 hr hR hrow hlor h2
              refine ⟨_, w.freeze ⟨R.pb, cR.size, none⟩ 1, G, ?_, (VR.sl u' hcap hxz hcc hv htk).mono hst.ext, by rw [hsame]; exact hst⟩
              rw [hs] at hd; cases hd
              simp [convert, run_und hs, run_und he, markStringish, hshape]
          · cases hl
        · cases hl
      · cases hl
    · cases hl


def VRo (G : Gh) (w : World) : Option LV → Option Value → Prop
  | none, none => True
  | some a, some b => VR G w a b
  | _, _ => False

theorem bound_ok {v : Option LV} {d hi n : Nat} {v' : Option Value} {cd : BoundsCode} (h : boundL v d hi = some n) (hd : d ≤ hi) (hv : VRo G w v v') :
    n ≤ hi ∧ ∀ b, (v' = none → n = d) ∧ (v' = some b → (Instr.sliceBound b hi cd).run P w = .ok n w) := by
  cases v with
  | none =>
    cases v' with
    | none => simp only [boundL] at h; cases h; exact ⟨hd, fun b => ⟨fun _ => rfl, fun h => (by cases h)⟩⟩
    | some b => exact hv.elim
  | some x =>
    cases v' with
    | none => exact hv.elim
    | some b =>
      have hv : VR G w x b := hv
      cases x <;> first
        | (simp only [boundL] at h; cases h; done)
        | (simp only [boundL] at h
           split at h
           · rename_i hc
             cases h
             cases hv
             exact ⟨by omega, fun b => ⟨fun h => (by cases h), fun h => (by cases h; simp [Instr.sliceBound, asIntOf, hc.1, hc.2])⟩⟩
           · cases h)

theorem bounds_ok {sl : Bool} {len cap q l : Nat} {lo hi : Option LV} {lo' hi' : Option Value} (h1 : boundL hi len len = some q) (h2 : boundL lo 0 q = some l)
    (hc : len ≤ cap) (vl : VRo G w lo lo') (vh : VRo G w hi hi') : l ≤ q ∧ q ≤ len ∧ (Instr.sliceBounds sl len cap lo' hi' none).run P w = .ok (l, q, cap) w := by
  have hq := (bound_ok (P := P) (cd := .index) h1 (Nat.le_refl _) vh).1
  have h1' : boundL hi len cap = some q := by
    cases hi with
    | none => exact h1
    | some x =>
      cases x <;> first
        | (simp only [boundL] at h1; cases h1; done)
        | (simp only [boundL] at h1 ⊢
           split at h1
           · cases h1; rw [if_pos (by omega)]
           · cases h1)
  have b1 := (bound_ok (P := P) (cd := if sl then .sliceAcap else .sliceAlen) h1' hc vh).2
  obtain ⟨b2a, b2⟩ := bound_ok (P := P) (cd := .sliceB) h2 (Nat.zero_le _) vl
  refine ⟨b2a, hq, ?_⟩
  cases hi' with
  | none =>
    have := (b1 undef).1 rfl; subst this
    cases lo' with
    | none => have := (b2 undef).1 rfl; subst this; simp [Instr.sliceBounds]
    | some b => have := (b2 b).2 rfl; simp [Instr.sliceBounds, this]
  | some c =>
    have b1 := (b1 c).2 rfl
    cases lo' with
    | none => have := (b2 undef).1 rfl; subst this; simp [Instr.sliceBounds, b1]
    | some b => have := (b2 b).2 rfl; simp [Instr.sliceBounds, b1, this]

theorem slice_ok {base : Nat} {t : TypeId} {x v : LV} {lo hi : Option LV} {h h' : H} {x' : Value} {lo' hi' : Option Value}
    (hl : sliceL P t x lo hi h = some (v, h')) (hr : HR base G w h) (vx : VR G w x x') (vl : VRo G w lo lo') (vh : VRo G w hi hi') :
    ∃ u G', (Instr.sliceAt t x' lo' hi' none).run P w = .ok u w ∧ VR G' w v u ∧ Step base G w h G' w h' := by
  unfold sliceL at hl
  split at hl
  · rename_i e hu
    split at hl
    · cases hl
    · rename_i sz hs
      split at hl
      · split at hl
        · rename_i q hq
          split at hl
          · rename_i l hlo
            cases hl; cases vx
            obtain ⟨k1, k2, k3⟩ := bounds_ok (P := P) (sl := true) (cap := 0) hq hlo (Nat.le_refl _) vl vh
            obtain rfl : q = 0 := by omega
            obtain rfl : l = 0 := by omega
            refine ⟨.slice none 0 0, G, ?_, .nils, .refl hr⟩
            simp [Instr.sliceAt, Instr.slice, run_und hu, k3, run_size hs]
          · cases hl
        · cases hl
      · rename_i m n sz'
        split at hl
        · rename_i hc
          obtain ⟨rfl, hlo⟩ := hc
          have hlo : lo = none := by simpa using hlo
          subst hlo
          split at hl
          · rename_i q hq
            cases hl
            cases vx with
            | sm h1 hn h2 =>
              rename_i c a
              obtain ⟨k1, k2, k3⟩ := bounds_ok (P := P) (sl := true) (cap := c) (l := 0) (lo := none) (lo' := lo') hq rfl hn vl vh
              refine ⟨.slice (some (if c = 0 then a else a.add 0)) q c, G, ?_, .sm h1 (by omega) fun pb cap hR => ?_, .refl hr⟩
              · simp only [Instr.sliceAt, Instr.slice, Sem.run_bind, run_und hu, Result.andThen_ok, k3, run_size hs, Sem.run_pure]
                by_cases hc0 : c = 0 <;> simp [hc0]
              · obtain ⟨rfl, e⟩ := h2 pb cap hR
                refine ⟨?_, e⟩
                split
                · rfl
                · rw [add_off]
          · cases hl
        · cases hl
      · rename_i r p sz' xs
        split at hl
        · rename_i hsz; subst hsz
          split at hl
          · rename_i q hq
            split at hl
            · rename_i l hlo
              simp only [Option.some.injEq, Prod.mk.injEq] at hl
              obtain ⟨rfl, rfl⟩ := hl
              cases vx with
              | sle hi' sz a c =>
                obtain ⟨k1, k2, k3⟩ := bounds_ok (P := P) (sl := true) (cap := c) hq hlo (Nat.zero_le _) vl vh
                obtain rfl : q = 0 := by simpa using k2
                obtain rfl : l = 0 := by omega
                refine ⟨.slice (some (if c = 0 then a else a.add 0)) 0 c, G, ?_, ?_, .refl hr⟩
                · have k3' : (Instr.sliceBounds true 0 c lo' hi' none).run P w = Result.ok (0, 0, c) w := k3
                  simp only [Instr.sliceAt, Instr.slice, Sem.run_bind, run_und hu, Result.andThen_ok, k3', run_size hs, Sem.run_pure]
                  by_cases hc0 : c = 0 <;> simp [hc0]
                · simp; exact .sle _ _ _ _
              | sl u hcap hz hc hv ht =>
                rename_i blk off c
                obtain ⟨k1, k2, k3⟩ := bounds_ok (P := P) (sl := true) (cap := c) hq hlo hcap vl vh
                have hrun : (Instr.sliceAt t (.slice (some ⟨blk, off, none⟩) xs.length c) lo' hi' none).run P w =
                    .ok (.slice (some ⟨blk, off + (if c = l then 0 else l * sz'), none⟩) (q - l) (c - l)) w := by
                  simp only [Instr.sliceAt, Instr.slice, Sem.run_bind, run_und hu, Result.andThen_ok, k3, run_size hs, Sem.run_pure]
                  by_cases hcl : c = l
                  · simp [hcl]
                  · simp [hcl, add_off]
                refine ⟨_, G, hrun, ?_, .refl hr⟩
                split
                · rename_i hcond
                  obtain ⟨rfl, hlt⟩ := hcond
                  have hne : ¬ c = l := by omega
                  rw [if_neg hne]
                  have hlen : (xs.drop l).length = xs.length - l := by simp
                  rw [← hlen]
                  have hidx : ∀ i j, off + l * sz' + i * sz' + j = off + (l + i) * sz' + j := by intro i j; rw [Nat.add_mul]; omega
                  refine .sl (fun i j => u (l + i) j) (by rw [hlen]; omega) ?_ ?_ ?_ ?_
                  · intro i hi; rw [List.getElem_drop]; exact hz _ _
                  · intro i hi j hj
                    rw [hidx]
                    exact hc (l + i) (by rw [hlen] at hi; omega) j hj
                  · intro i hi j hj
                    have := hv (l + i) (by rw [hlen] at hi; omega) j (by rw [List.getElem_drop] at hj; exact hj)
                    simpa only [List.getElem_drop] using this
                  · intro hr0
                    obtain ⟨R, h1, h2, h3⟩ := ht hr0
                    refine ⟨R, h1, h2, fun he => ?_⟩
                    obtain ⟨e1, e2, e3⟩ := h3 he
                    have m1 : l * sz' + (xs.length - l) * sz' = xs.length * sz' := by rw [← Nat.add_mul]; congr 1; omega
                    have m2 : l * sz' + (c - l) * sz' = c * sz' := by rw [← Nat.add_mul]; congr 1; omega
                    refine ⟨e1, ?_, ?_⟩
                    · rw [hlen]; omega
                    · omega
                · have hlen : ((xs.take q).drop l).length = q - l := by simp; omega
                  rw [← hlen]
                  by_cases h0 : q - l = 0
                  · refine .sl (fun _ _ => undef) (by omega) ?_ ?_ ?_ (fun h => absurd rfl h)
                    · intro i hi; omega
                    · intro i hi; omega
                    · intro i hi; omega
                  have hne : ¬ c = l := by omega
                  rw [if_neg hne]
                  have hidx : ∀ i j, off + l * sz' + i * sz' + j = off + (l + i) * sz' + j := by intro i j; rw [Nat.add_mul]; omega
                  refine .sl (fun i j => u (l + i) j) (by rw [hlen]; omega) ?_ ?_ ?_ (fun h => absurd rfl h)
                  · intro i hi; rw [List.getElem_drop, List.getElem_take]; exact hz _ _
                  · intro i hi j hj
                    rw [hidx]
                    exact hc (l + i) (by rw [hlen] at hi; omega) j hj
                  · intro i hi j hj
                    have := hv (l + i) (by rw [hlen] at hi; omega) j (by rw [List.getElem_drop, List.getElem_take] at hj; exact hj)
                    simpa only [List.getElem_drop, List.getElem_take] using this
            · cases hl
          · cases hl
        · cases hl
      · cases hl
  · rename_i hu
    split at hl
    · rename_i s
      split at hl
      · rename_i q hq
        split at hl
        · rename_i l hlo
          cases hl; cases vx
          obtain ⟨k1, k2, k3⟩ := bounds_ok (P := P) (sl := false) (cap := s.size) hq hlo (Nat.le_refl _) vl vh
          exact ⟨_, G, by simp [Instr.sliceAt, Instr.slice, run_und hu, k3], .str _, .refl hr⟩
        · cases hl
      · cases hl
    · cases hl
  · rename_i n e hu
    split at hl
    · rename_i sz b off hs
      split at hl
      · rename_i B hB
        split at hl
        · rename_i hcond
          obtain ⟨c1, c2, c3, c4⟩ := hcond
          split at hl
          · rename_i q hq
            split at hl
            · rename_i l hlo
              split at hl
              · rename_i xs hxs
                simp only [Option.some.injEq, Prod.mk.injEq] at hl
                obtain ⟨rfl, rfl⟩ := hl
                cases vx with
                | ptr hb =>
                  rename_i pb
                  obtain ⟨k1, k2, k3⟩ := bounds_ok (P := P) (sl := false) (cap := n) hq hlo (Nat.le_refl _) vl vh
                  have hstep : ∃ G', Step base G w h G' w (if B.ro = true then h else { h with box := h.box.set b ⟨true, B.cells⟩ }) ∧ ∀ i, i < B.cells.length → G'.prot pb i := by
                    by_cases hro : B.ro = true
                    · rw [if_pos hro]
                      obtain ⟨c, ty, _, hvv, hp, _⟩ := hr.box b pb B hb hB
                      exact ⟨G, .refl hr, fun i hi => hp hro i (by have := hvv.1; simp at this; omega)⟩
                    · rw [if_neg hro]
                      exact ⟨_, Step.freeze hr hb hB (c1.resolve_left hro), fun i hi => Or.inr ⟨rfl, hi⟩⟩
                  obtain ⟨G2, hstep, hprot⟩ := hstep
                  refine ⟨.slice (some ⟨pb, off + (if n = l then 0 else l * sz), none⟩) (q - l) (n - l), _, ?_, ?_, hstep⟩
                  · simp only [Instr.sliceAt, Sem.run_bind, run_und hu, Result.andThen_ok, Instr.sureAddr, Sem.run_pure, k3, run_size hs]
                    by_cases hcl : n = l
                    · simp [hcl]
                    · simp [hcl, add_off]
                  · obtain ⟨c, ty, hcc, hvv, _, _⟩ := hr.box b pb B hb hB
                    obtain ⟨e1, e2, e3, e4⟩ := chunk_ok hs hxs (hvv.drop off) (by simp; omega)
                    have hlen : ((xs.take q).drop l).length = q - l := by simp; omega
                    rw [← hlen]
                    by_cases h0 : q - l = 0
                    · refine .sl (fun _ _ => undef) (by omega) ?_ ?_ ?_ (fun h => absurd rfl h)
                      · intro i hi; omega
                      · intro i hi; omega
                      · intro i hi; omega
                    have hne : ¬ n = l := by omega
                    rw [if_neg hne]
                    have hBc : B.cells.length = c.size := by simpa using hvv.1
                    have hin : ∀ i, i < q - l → ∀ j, j < sz → (l + i) * sz + j < n * sz := by
                      intro i hi j hj
                      calc (l + i) * sz + j < (l + i) * sz + sz := by omega
                        _ = (l + i + 1) * sz := by rw [Nat.add_mul (l + i)]; omega
                        _ ≤ n * sz := Nat.mul_le_mul_right _ (by omega)
                    refine .sl (fun i j => (c.toList[off + ((l + i) * sz + j)]?).getD undef) (by rw [hlen]; omega) ?_ ?_ ?_ (fun h => absurd rfl h)
                    · intro i hi; rw [List.getElem_drop, List.getElem_take]; exact e2 _ _
                    · intro i hi j hj
                      have hlt := hin i (by omega) j hj
                      have heq : off + l * sz + i * sz + j = off + ((l + i) * sz + j) := by rw [Nat.add_mul]; omega
                      rw [heq, cell_cells hcc]
                      refine ⟨?_, hprot _ (by omega), ?_⟩
                      · rw [Array.getElem?_toList, Array.getElem?_eq_getElem (by omega)]; rfl
                      · rw [Array.getElem?_toList, Array.getElem?_eq_getElem (by omega), Option.getD_some]
                        have := hvv.2 (off + ((l + i) * sz + j)) (by omega) (by simp; omega)
                        exact one_cell (by simpa using this) (List.all_eq_true.1 c4 _ (List.getElem_mem _))
                    · intro i hi j hj
                      obtain ⟨u, hu1, hu2⟩ := e4 (l + i) (by omega) j (by rw [List.getElem_drop, List.getElem_take] at hj; exact hj)
                      rw [List.getElem?_drop] at hu1
                      rw [hu1]
                      have := hu2.mono hstep.ext
                      simpa only [List.getElem_drop, List.getElem_take, Option.getD_some] using this
              · cases hl
            · cases hl
          · cases hl
        · cases hl
      · cases hl
    · cases hl
  · cases hl

end Go.LM

namespace Go.LM
variable {P : Program} {G : Gh} {w : World}

theorem run_app_room {t u ty e : TypeId} {d : TypeDesc} {sz n sLen sCap : Nat} {a : Addr} {x : Value} {news : Array Value} (ht : P.underlying t = some (.slice e)) (hu : P.underlying u = some d)
    (hd : d = .string ∨ ∃ q, d = .slice q) (hs : sizeT P e = some sz) (hn : (Builtin.lenOf x).run P w = .ok n w) (hf : (Builtin.firstCells sz n x).run P w = .ok news w) (hle : sLen + n ≤ sCap) :
    (Builtin.append_ #[t, u] ty #[.slice (some a) sLen sCap, x]).run P w =
      ((storeCells (a.add (sLen * sz)) news.toList).run P w).andThen fun _ w' => .ok (.slice (some a) (sLen + n) sCap) w' := by
  rcases hd with rfl | ⟨q, rfl⟩ <;>
    (simp [Builtin.append_, run_und ht, run_und hu, run_size hs, hn, hle, hf])

theorem run_app_grow {t u ty e : TypeId} {d : TypeDesc} {sz n sLen sCap by_ : Nat} {base : Option Addr} {x z : Value} {olds news : Array Value} (ht : P.underlying t = some (.slice e)) (hu : P.underlying u = some d)
    (hd : d = .string ∨ ∃ q, d = .slice q) (hs : sizeT P e = some sz) (hb : bytesT P e = some by_) (hzv : ∀ w' : World, (zeroValue e).run P w' = .ok z w') (hn : (Builtin.lenOf x).run P w = .ok n w) (hf : (Builtin.firstCells sz n x).run P w.drew = .ok news w.drew)
    (ho : (Builtin.firstCells sz sLen (.slice base sLen sCap)).run P w.drew = .ok olds w.drew) (hlt : sCap < sLen + n) (hby : 0 < by_) (hfit : (2 * (sLen + n)) * by_ ≤ 281474976710656) :
    (Builtin.append_ #[t, u] ty #[.slice base sLen sCap, x]).run P w =
      .ok (.slice (some ⟨w.heap.size, 0, none⟩) (sLen + n) (grownCap w (sLen + n) sCap e))
        (w.drew.alloc (.cells (olds ++ news ++ Builtin.zeroCells z.cells (grownCap w (sLen + n) sCap e - (sLen + n))) e)) := by
  have hle : ¬ sLen + n ≤ sCap := by omega
  have h48 : ¬ (281474976710656 < Builtin.nextslicecap (sLen + n) sCap * by_) := by
    have h1 := Nat.mul_le_mul_right by_ (nextslicecap_le hlt); omega
  have hbt : ∀ w' : World, (typeInfo e).run P w' = .ok ((P.info? e).getD default) w' ∧ ((P.info? e).getD default).bytes = by_ := by
    intro w'
    unfold bytesT at hb
    cases hi : P.info? e with
    | none => rw [hi] at hb; cases hb
    | some i => rw [hi] at hb; cases hb; simp [typeInfo, hi]
  have hne : ¬ by_ = 0 := by omega
  have hti := (hbt w).1
  have hti2 := (hbt w.drew).1
  have hby2 := (hbt w).2
  have hzv2 := hzv w.drew
  rcases hd with rfl | ⟨q, rfl⟩ <;>
    (simp [Builtin.append_, run_und ht, run_und hu, run_size hs, hn, hle, hti, hti2, hby2, hne, h48, Question.forced, hf, ho, hzv2, newRow, grownCap])

end Go.LM
