import Derived.Test.YtpmpdidgbbgeeaaLmH
namespace Go.LM
variable {P : Program} {G : Gh} {w : World}

theorem un_ok {op : UnOp} {x v : LV} {x' : Value} (h : unL op x = some v) (vx : VR G w x x') : ∃ u, (Op.unary op x').run P w = .ok u w ∧ VR G w v u := by
  unfold unL at h
  split at h
  · cases h; cases vx; exact ⟨_, by simp [Op.unary, Op.intArith]; rfl, by simpa using VR.int _ _⟩
  · cases vx
    simp only [intOpL] at h; cases h
    exact ⟨_, by simp only [Op.unary, Op.intBits]; rfl, by constructor⟩
  · cases h; cases vx; exact ⟨_, by simp [Op.unary]; rfl, by constructor⟩
  · cases h

theorem field_ok {t : TypeId} {x v : LV} {f : Nat} {x' : Value} (h : fieldL P t x f = some v) (vx : VR G w x x') : ∃ u, (Instr.field t x' f).run P w = .ok u w ∧ VR G w v u := by
  unfold fieldL at h
  split at h
  · rename_i fields hu
    split at h
    · rename_i fd hf
      split at h
      · rename_i cs
        cases vx with
        | agg hl hv =>
          obtain ⟨u, h1, h2⟩ := part_ok h (VR.agg hl hv).ofAgg
          exact ⟨u, by simp [Instr.field, run_und hu, hf, asAgg, h1], h2⟩
      · cases h
    · cases h
  · cases h

theorem cells_one {v : LV} (h : v.one = true) : v.cells = [v] := by
  cases v <;> first | rfl | (simp [LV.one] at h)

theorem sub_ok {t : TypeId} {v c : LV} {off blk o : Nat} {u : Nat → Value} (h : subL P t v off = some c)
    (hc : ∀ i, i < v.cells.length → w.cell? ⟨blk, o + i, none⟩ = some (u i) ∧ G.prot blk (o + i))
    (hv : ∀ i (h : i < v.cells.length), VR G w v.cells[i] (u i)) : VR G w c (.pointer (some ⟨blk, o + off, none⟩)) := by
  unfold subL at h
  split at h
  · rename_i x hp
    split at h
    · rename_i hcond
      cases h
      unfold partL at hp
      split at hp
      · split at hp
        · rename_i n hn
          split at hp
          · rename_i hl
            cases hp
            have hlen : (LV.agg (List.take n (List.drop off v.cells))).cells.length = n := by
              show (List.take n (List.drop off v.cells)).length = n
              rw [List.length_take, List.length_drop]; omega
            refine .cptr (fun i => u (off + i)) (fun i hi => ?_) (fun i hi => ?_)
            · rw [Nat.add_assoc]; exact hc _ (by omega)
            · have := hv (off + i) (by omega)
              simpa [LV.cells, List.getElem_take, List.getElem_drop] using this
          · cases hp
        · cases hp
      · rename_i hb
        have hone : x.one = true := hcond.resolve_left (by rw [hb]; simp)
        obtain ⟨hi, rfl⟩ := List.getElem?_eq_some_iff.1 hp
        have hcc := cells_one hone
        refine .cptr (fun i => u (off + i)) (fun i hi' => ?_) (fun i hi' => ?_)
        · rw [hcc] at hi'; simp at hi'; subst hi'
          exact hc _ hi
        · rw [hcc] at hi'; simp at hi'; subst hi'
          simp only [hcc, List.getElem_cons_zero]
          exact hv off hi
      · cases hp
    · cases h
  · cases h

theorem fieldAddr_ok {t : TypeId} {x v : LV} {f : Nat} {x' : Value} (h : fieldAddrL P t x f = some v) (vx : VR G w x x') : ∃ u, (Instr.fieldAt t x' f).run P w = .ok u w ∧ VR G w v u := by
  unfold fieldAddrL at h
  split at h
  · rename_i fields hu
    split at h
    · rename_i fd hf
      split at h
      · rename_i n hn
        have hfp : ∀ a : Addr, (fieldPlace a fd).run P w = .ok (a.add fd.offset) w := by
          intro a; simp [fieldPlace, run_size hn]
        split at h
        · cases h
          cases vx with
          | ptr hb => exact ⟨_, by simp [Instr.fieldAt, run_und hu, hf, Instr.sureAddr, hfp, add_off], .ptr hb⟩
        · cases vx with
          | cptr u hc hv =>
            exact ⟨_, by simp [Instr.fieldAt, run_und hu, hf, Instr.sureAddr, hfp, add_off], sub_ok h hc hv⟩
        · cases h
      · cases h
    · cases h
  · cases h

theorem indexAddr_ok {t : TypeId} {x i v : LV} {x' i' : Value} (h : indexAddrL P t x i = some v) (vx : VR G w x x') (vi : VR G w i i') :
    ∃ u, (Instr.indexAt t x' i').run P w = .ok u w ∧ VR G w v u := by
  unfold indexAddrL at h
  split at h
  · rename_i k n
    cases vi
    split at h
    · rename_i e hu
      split at h
      · rename_i r p sz xs
        split at h
        · rename_i hcond
          obtain ⟨hs, h0⟩ := hcond
          cases hx : xs[n.toNat]? with
          | none => rw [hx] at h; cases h
          | some y =>
            rw [hx] at h; cases h
            obtain ⟨hlt, hy⟩ := List.getElem?_eq_some_iff.1 hx
            cases vx with
            | sl u hcap hz hc hv ht =>
              rename_i blk off c
              have hlt' : n < xs.length := by omega
              refine ⟨.pointer (some ⟨blk, off + n.toNat * sz, none⟩), ?_, ?_⟩
              · simp [Instr.indexAt, asIntOf, run_und hu, run_size hs, add_off, h0, hlt']
              · subst hy
                refine .cptr (fun j => u n.toNat j) (fun j hj => ?_) (fun j hj => hv _ hlt j hj)
                have := hc _ hlt j (by rw [hz _ hlt] at hj; exact hj)
                exact ⟨this.1, this.2.1⟩
            | sle hi sz a c => simp at hlt
        · cases h
      · cases h
    · rename_i len e hu
      split at h
      · rename_i sz hs
        split at h
        · rename_i hb
          obtain ⟨h0, hlt⟩ := hb
          split at h
          · cases h
            cases vx with
            | ptr hb =>
              exact ⟨_, by simp [Instr.indexAt, asIntOf, run_und hu, run_size hs, add_off, h0, hlt, Instr.sureAddr], .ptr hb⟩
          · cases vx with
            | cptr u hc hv =>
              exact ⟨_, by simp [Instr.indexAt, asIntOf, run_und hu, run_size hs, add_off, h0, hlt, Instr.sureAddr], sub_ok h hc hv⟩
          · cases h
        · cases h
      · cases h
    · cases h
  · cases h

theorem index_ok {t : TypeId} {x i v : LV} {x' i' : Value} (h : indexL P t x i = some v) (vx : VR G w x x') (vi : VR G w i i') :
    ∃ u, (Instr.index t x' i').run P w = .ok u w ∧ VR G w v u := by
  unfold indexL at h
  split at h
  · rename_i k n
    cases vi
    split at h
    · rename_i len e hu
      split at h
      · rename_i cs sz hs
        split at h
        · rename_i hb
          obtain ⟨h0, hlt⟩ := hb
          cases vx with
          | agg hl hv =>
            obtain ⟨u, h1, h2⟩ := part_ok h (VR.agg hl hv).ofAgg
            exact ⟨u, by simp [Instr.index, asIntOf, run_und hu, run_size hs, h0, hlt, h1], h2⟩
        · cases h
      · cases h
    · rename_i hu
      split at h
      · rename_i s
        split at h
        · rename_i h0
          cases vx
          cases hb : s.data[n.toNat]? with
          | none => rw [hb] at h; cases h
          | some b =>
            rw [hb] at h; cases h
            obtain ⟨hlt, hbe⟩ := Array.getElem?_eq_some_iff.1 hb
            refine ⟨.int .u8 b.toNat, ?_, .int _ _⟩
            have : s[n.toNat]? = some b := by
              rw [ByteArray.getElem?_lt' s n.toNat hlt]
              exact congrArg some hbe
            simp [Instr.index, asIntOf, run_und hu, h0, this]
        · cases h
      · cases h
    · cases h
  · cases h

theorem len_ok {t ty : TypeId} {x v : LV} {x' : Value} (h : lenL P t x = some v) (vx : VR G w x x') : ∃ u, (Builtin.len_ #[t] ty #[x']).run P w = .ok u w ∧ VR G w v u := by
  unfold lenL at h
  split at h
  · rename_i hu
    split at h
    · cases h; cases vx; exact ⟨_, by simp [Builtin.len_, run_und hu, goInt], .int _ _⟩
    · cases h
  · rename_i e hu
    split at h
    · cases h; cases vx; exact ⟨_, by simp [Builtin.len_, run_und hu, goInt], .int _ _⟩
    · cases h; cases vx
      · exact ⟨_, by simp [Builtin.len_, run_und hu, goInt], .int _ _⟩
      · exact ⟨.int .i64 0, by simp [Builtin.len_, run_und hu, goInt], .int _ _⟩
    · cases h
  · rename_i n e hu
    cases h
    exact ⟨_, by simp [Builtin.len_, run_und hu, goInt], .int _ _⟩
  · rename_i a hu
    split at h
    · rename_i n e hu2
      cases h
      exact ⟨_, by simp [Builtin.len_, run_und hu, run_und hu2, goInt], .int _ _⟩
    · cases h
  · cases h

theorem fold_ok {f : LV → LV → Option LV} {g : Value → Value → Sem Value} (hf : ∀ {x y z x' y'}, f x y = some z → VR G w x x' → VR G w y y' → ∃ u, (g x' y').run P w = .ok u w ∧ VR G w z u) :
    ∀ {l : List LV} {x v : LV} {l' : List Value} {x' : Value}, foldL f x l = some v → VR G w x x' → VRs G w l l' → ∃ u, (l'.foldlM g x').run P w = .ok u w ∧ VR G w v u := by
  intro l
  induction l with
  | nil =>
    intro x v l' x' h vx vl
    cases l' with
    | nil => simp only [foldL] at h; cases h; exact ⟨x', by simp, vx⟩
    | cons u us => simp [VRs] at vl
  | cons y l ih =>
    intro x v l' x' h vx vl
    cases l' with
    | nil => simp [VRs] at vl
    | cons y' l' =>
      simp only [foldL] at h
      split at h
      · rename_i z hz
        obtain ⟨u, h1, h2⟩ := hf hz vx vl.head
        obtain ⟨u2, h3, h4⟩ := ih h h2 vl.tail
        exact ⟨u2, by simp only [List.foldlM_cons, Sem.run_bind, h1, Result.andThen_ok]; exact h3, h4⟩
      · cases h

theorem max2_ok {x y z : LV} {x' y' : Value} (h : max2L x y = some z) (vx : VR G w x x') (vy : VR G w y y') : ∃ u, (Builtin.max2 x' y').run P w = .ok u w ∧ VR G w z u := by
  unfold max2L at h
  split at h
  · cases h; cases vx; cases vy; exact ⟨_, by simp only [Builtin.max2]; rfl, .int _ _⟩
  · cases h
theorem min2_ok {x y z : LV} {x' y' : Value} (h : min2L x y = some z) (vx : VR G w x x') (vy : VR G w y y') : ∃ u, (Builtin.min2 x' y').run P w = .ok u w ∧ VR G w z u := by
  unfold min2L at h
  split at h
  · cases h; cases vx; cases vy; exact ⟨_, by simp only [Builtin.min2]; rfl, .int _ _⟩
  · cases h

end Go.LM
