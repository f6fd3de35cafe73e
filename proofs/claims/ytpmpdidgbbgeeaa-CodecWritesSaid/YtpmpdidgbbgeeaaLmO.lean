import Derived.Test.YtpmpdidgbbgeeaaLmN
import Derived.LoopN
namespace Go.LM
variable {P : Program} {G : Gh} {w : World}

/-! ### the logical memory only grows -/
def LenLe (h h' : H) : Prop := h.box.length ≤ h'.box.length ∧ h.row.length ≤ h'.row.length
theorem LenLe.refl (h : H) : LenLe h h := ⟨Nat.le_refl _, Nat.le_refl _⟩
theorem LenLe.trans {a b c : H} (h : LenLe a b) (h' : LenLe b c) : LenLe a c := ⟨Nat.le_trans h.1 h'.1, Nat.le_trans h.2 h'.2⟩
/-- ... and what is below the marks stays. -/
structure Gro (h h' : H) : Prop where
  len : LenLe h h'
  lob : h'.lob = h.lob
  lor : h'.lor = h.lor
  kb : h.lob ≤ h.box.length → ∀ b, b < h.lob → h'.box[b]? = h.box[b]?
  kr : h.lor ≤ h.row.length → ∀ r, r < h.lor → h'.row[r]? = h.row[r]?
theorem Gro.refl (h : H) : Gro h h := ⟨.refl h, rfl, rfl, fun _ _ _ => rfl, fun _ _ _ => rfl⟩
theorem Gro.trans {a b c : H} (h : Gro a b) (h' : Gro b c) : Gro a c :=
  ⟨h.len.trans h'.len, h'.lob.trans h.lob, h'.lor.trans h.lor,
    fun hl x hx => (h'.kb (by rw [h.lob]; exact Nat.le_trans hl h.len.1) x (by rw [h.lob]; exact hx)).trans (h.kb hl x hx),
    fun hl x hx => (h'.kr (by rw [h.lor]; exact Nat.le_trans hl h.len.2) x (by rw [h.lor]; exact hx)).trans (h.kr hl x hx)⟩
theorem Gro.box (h : H) (l : List Box) : Gro h { h with box := h.box ++ l } :=
  ⟨⟨by simp, Nat.le_refl _⟩, rfl, rfl, fun hl b hb => List.getElem?_append_left (by omega), fun _ _ _ => rfl⟩
theorem Gro.row (h : H) (l : List Nat) : Gro h { h with row := h.row ++ l } :=
  ⟨⟨Nat.le_refl _, by simp⟩, rfl, rfl, fun _ _ _ => rfl, fun hl b hb => List.getElem?_append_left (by omega)⟩
theorem Gro.setBox {h : H} {b : Nat} (B : Box) (hb : h.lob ≤ b) : Gro h { h with box := h.box.set b B } :=
  ⟨⟨by simp, Nat.le_refl _⟩, rfl, rfl, fun _ x hx => List.getElem?_set_ne (by omega), fun _ _ _ => rfl⟩
theorem Gro.setRow {h : H} {r : Nat} (n : Nat) (hr : h.lor ≤ r) : Gro h { h with row := h.row.set r n } :=
  ⟨⟨Nat.le_refl _, by simp⟩, rfl, rfl, fun _ _ _ => rfl, fun _ x hx => List.getElem?_set_ne (by omega)⟩
def CLen (C : Callee') : Prop := ∀ f args h v h', C f args h = some (v, h') → Gro h h'

theorem map_same {x : Option LV} {h h' : H} {v : LV} (hx : x.map (·, h) = some (v, h')) : h' = h := by
  cases x with
  | none => cases hx
  | some y => simp only [Option.map_some, Option.some.injEq, Prod.mk.injEq] at hx; exact hx.2.symm

theorem storeL_len {t : TypeId} {p v : LV} {h h' : H} (hl : storeL P t p v h = some h') : Gro h h' := by
  unfold storeL at hl
  split at hl
  · split at hl
    · split at hl
      · rename_i hc; cases hl; exact .setBox _ hc.2.2.2.2.1
      · cases hl
    · cases hl
  · cases hl
theorem buildSliceL_len {t : TypeId} {n : Nat} {ps : List (Nat × LV)} {v : LV} {h h' : H} (hl : buildSliceL P t n ps h = some (v, h')) : Gro h h' := by
  unfold buildSliceL at hl
  repeat' split at hl
  all_goals first
    | (cases hl; done)
    | (simp only [newRowL, Option.some.injEq, Prod.mk.injEq] at hl; obtain ⟨_, rfl⟩ := hl; exact .row _ _)
theorem convL_len {a b : TypeId} {x v : LV} {h h' : H} (hl : convL P a b x h = some (v, h')) : Gro h h' := by
  unfold convL at hl
  repeat' split at hl
  all_goals first
    | (cases hl; done)
    | (cases hl; exact .refl _)
    | (simp only [newRowL, Option.some.injEq, Prod.mk.injEq] at hl; obtain ⟨_, rfl⟩ := hl; exact .row _ _)
    | (rename_i hc; simp only [Option.some.injEq, Prod.mk.injEq] at hl; obtain ⟨_, rfl⟩ := hl; exact .setRow _ hc.2.2.1)
    | (rw [Option.map_eq_some_iff] at hl
       obtain ⟨l, _, hl⟩ := hl
       cases hl; exact .refl _)
theorem sliceL_len {t : TypeId} {x v : LV} {lo hi : Option LV} {h h' : H} (hl : sliceL P t x lo hi h = some (v, h')) : Gro h h' := by
  unfold sliceL at hl
  repeat' split at hl
  all_goals first
    | (cases hl; done)
    | (cases hl; exact .refl _)
    | (have hc := ‹(_ ∨ h.lob ≤ _) ∧ _›; simp only [Option.some.injEq, Prod.mk.injEq] at hl; obtain ⟨_, rfl⟩ := hl
       exact .setBox _ (hc.1.resolve_left (by assumption)))
theorem appendL_len {t u : TypeId} {s x v : LV} {h h' : H} (hl : appendL P t u s x h = some (v, h')) : Gro h h' := by
  unfold appendL at hl
  repeat' split at hl
  all_goals first
    | (cases hl; done)
    | (cases hl; exact .refl _)
    | (simp only [newRowL, Option.some.injEq, Prod.mk.injEq] at hl; obtain ⟨_, rfl⟩ := hl; exact .row _ _)
    | (rename_i hc; simp only [Option.some.injEq, Prod.mk.injEq] at hl; obtain ⟨_, rfl⟩ := hl; exact .setRow _ hc.2.2.1)

theorem opL_len {C : Callee'} (hC : CLen C) {s : S} {o : Op} {h h' : H} {v : LV} (ho : opL P C s o h = some (v, h')) : Gro h h' := by
  have same : ∀ {x : Option LV}, x.map (·, h) = some (v, h') → Gro h h' := by
    intro x hx; rw [map_same hx]; exact .refl _
  have box : ∀ {c : List LV}, some (newBoxL c h) = some (v, h') → Gro h h' := by
    intro c hx
    simp only [newBoxL, Option.some.injEq, Prod.mk.injEq] at hx; obtain ⟨_, rfl⟩ := hx
    exact .box _ _
  cases o
  case call c =>
    simp only [opL, callL] at ho
    repeat' split at ho
    all_goals first
      | (cases ho; done)
      | (exact same ho)
      | (exact appendL_len ho)
      | (exact hC _ _ _ _ _ ho)
  case store t a x =>
    simp only [opL] at ho
    split at ho
    · rename_i p z _ _
      cases hl : storeL P t p z h with
      | none => rw [hl] at ho; cases ho
      | some h2 => rw [hl] at ho; cases ho; exact storeL_len hl
    · cases ho
  case slice t x lo hi mx =>
    cases mx with
    | some m => simp only [opL] at ho; cases ho
    | none =>
      simp only [opL] at ho
      split at ho
      · exact sliceL_len ho
      · cases ho
  case makeFunc fn a b =>
    cases fn <;> simp only [opL] at ho <;> try (cases ho; done)
    split at ho
    · cases ho; exact .refl _
    · cases ho
  all_goals (simp only [opL] at ho; try (cases ho; done))
  all_goals first
    | (exact same ho)
    | (repeat' split at ho
       all_goals first
         | (cases ho; done)
         | (exact same ho)
         | (exact box ho)
         | (exact buildSliceL_len ho)
         | (exact convL_len ho)
         | (cases ho; exact .refl _))

theorem opsL_len {C : Callee'} (hC : CLen C) {N : Nat} {all : Array Oper} : ∀ {l : List Oper} {s s' : S} {h h' : H}, opsL P C N all l s h = some (s', h') → Gro h h'
  | [], s, s', h, h', ho => by simp only [opsL] at ho; cases ho; exact .refl _
  | o :: os, s, s', h, h', ho => by
    simp only [opsL] at ho
    split at ho
    · split at ho
      · split at ho
        · rename_i h1
          have a := opL_len hC h1
          have b := opsL_len hC ho
          exact a.trans b
        · cases ho
      · exact opsL_len hC ho
      · cases ho
    · cases ho
/-- Where nothing that stood is written. -/
structure Pre (h h' : H) : Prop where
  len : LenLe h h'
  kb : ∀ b, b < h.box.length → h'.box[b]? = h.box[b]?
  kr : ∀ r, r < h.row.length → h'.row[r]? = h.row[r]?
theorem Pre.refl (h : H) : Pre h h := ⟨.refl h, fun _ _ => rfl, fun _ _ => rfl⟩
theorem Pre.trans {a b c : H} (h : Pre a b) (h' : Pre b c) : Pre a c :=
  ⟨h.len.trans h'.len, fun x hx => (h'.kb x (by have := h.len.1; omega)).trans (h.kb x hx), fun x hx => (h'.kr x (by have := h.len.2; omega)).trans (h.kr x hx)⟩
theorem opL_pre {C : Callee'} (hC : CLen C) {s : S} {o : Op} {h h' : H} {v : LV} (ho : opL P C s o { h with lob := h.box.length, lor := h.row.length } = some (v, h')) : Pre h h' := by
  have g := opL_len hC ho
  exact ⟨⟨g.len.1, g.len.2⟩, fun b hb => g.kb (Nat.le_refl _) b hb, fun b hb => g.kr (Nat.le_refl _) b hb⟩
theorem opsD_len {C : Callee'} (hC : CLen C) {N : Nat} {all : Array Oper} : ∀ {l : List Oper} {s s' : S} {h h' : H}, opsD P C N all l s h = some (s', h') → Pre h h'
  | [], s, s', h, h', ho => by simp only [opsD] at ho; cases ho; exact .refl _
  | o :: os, s, s', h, h', ho => by
    simp only [opsD] at ho
    split at ho
    · split at ho
      · split at ho
        · rename_i h1
          exact (opL_pre hC h1).trans (opsD_len hC ho)
        · cases ho
      · exact opsD_len hC ho
      · cases ho
    · cases ho

theorem opW_len {C : Callee'} (hC : CLen C) {c : Cl} {D : List Nat} {s : S} {o : Op} {h h' : H} {v : LV} (ho : opW P C c D s o h = some (v, h')) : Gro h h' := by
  cases c <;> simp only [opW] at ho
  case v =>
    split at ho
    · exact opL_len hC ho
    · cases ho
  case l =>
    split at ho
    · exact opL_len hC ho
    · cases ho
  case s =>
    split at ho
    · exact opL_len hC ho
    · cases ho
  case w =>
    split at ho
    · rename_i h1
      split at ho
      · cases ho; exact opL_len hC h1
      · cases ho
    · cases ho
  case r =>
    split at ho
    · rename_i h1; cases ho
      have p := opL_pre hC h1
      exact ⟨⟨p.len.1, p.len.2⟩, rfl, rfl, fun hl b hb => p.kb b (by omega), fun hl b hb => p.kr b (by omega)⟩
    · cases ho
  all_goals exact opL_len hC ho
theorem opsW_len {C : Callee'} (hC : CLen C) {N : Nat} {all : Array Oper} : ∀ {l : List (Oper × Cl × List Nat)} {s s' : S} {h h' : H}, opsW P C N all l s h = some (s', h') → Gro h h'
  | [], s, s', h, h', ho => by simp only [opsW] at ho; cases ho; exact .refl _
  | (o, c, D) :: os, s, s', h, h', ho => by
    simp only [opsW] at ho
    split at ho
    · split at ho
      · split at ho
        · rename_i h1
          exact (opW_len hC h1).trans (opsW_len hC ho)
        · cases ho
      · exact opsW_len hC ho
      · cases ho
    · cases ho

theorem preFz_gro {s : S} : ∀ (l : List Oper) (h : H), Gro h (preFz P s l h)
  | [], h => .refl h
  | o :: os, h => by
    unfold preFz
    split
    · split
      · split
        · split
          · rename_i hb
            exact (Gro.setBox (h := h) _ hb).trans (preFz_gro os _)
          · exact preFz_gro os h
        · exact preFz_gro os h
      · exact preFz_gro os h
    · exact preFz_gro os h
theorem preFz_step {base : Nat} {w : World} {s : S} : ∀ (l : List Oper) {h : H} {G : Gh}, HR base G w h → (∀ t b o, s t = .ptr b o → b < h.box.length → ∃ pb, G.box b = some pb) →
    ∃ G', Step base G w h G' w (preFz P s l h)
  | [], h, G, hr, _ => ⟨G, .refl hr⟩
  | o :: os, h, G, hr, hs => by
    unfold preFz
    split
    · split
      · rename_i b _ _ _
        split
        · rename_i B hB
          split
          · rename_i hlob
            obtain ⟨pb, hpb⟩ := hs _ _ _ (by assumption) (List.getElem?_eq_some_iff.1 hB).1
            have hst := Step.freeze hr hpb hB hlob
            obtain ⟨G', hst'⟩ := preFz_step os hst.hr (fun t b o e hb => by
              obtain ⟨pb, h1⟩ := hs t b o e (by simpa using hb)
              exact ⟨pb, h1⟩)
            exact ⟨G', hst.trans hst'⟩
          · exact preFz_step os hr hs
        · exact preFz_step os hr hs
      · exact preFz_step os hr hs
    · exact preFz_step os hr hs

theorem loopL_len {f : S → H → Option (X × S × H)} (hf : ∀ s h x s' h', f s h = some (x, s', h') → Gro h h') :
    ∀ {k : Nat} {s s' : S} {h h' : H} {x : X}, loopL f k s h = some (x, s', h') → Gro h h'
  | 0, s, s', h, h', x, ho => by simp only [loopL] at ho; cases ho
  | k + 1, s, s', h, h', x, ho => by
    simp only [loopL] at ho
    split at ho
    · rename_i s1 h1 hb
      have a := hf _ _ _ _ _ hb
      have b := loopL_len hf ho
      exact a.trans b
    · exact hf _ _ _ _ _ ho

theorem execL_len {C : Callee'} (hC : CLen C) {N fuel : Nat} : ∀ {c : Code} {s s' : S} {h h' : H} {x : X}, execL P C N fuel c s h = some (x, s', h') → Gro h h' := by
  intro c
  induction c with
  | skip => intro s s' h h' x ho; simp only [execL] at ho; cases ho; exact .refl _
  | region id all d =>
    intro s s' h h' x ho
    cases d with
    | false =>
      simp only [execL] at ho
      cases h1 : opsL P C N all all.toList s h with
      | none => rw [h1] at ho; cases ho
      | some r => rw [h1] at ho; cases ho; exact opsL_len hC h1
    | true =>
      simp only [execL] at ho
      split at ho
      · split at ho
        · rename_i rows _
          cases h1 : opsW P C N all (all.toList.zip rows) s (preFz P s all.toList h) with
          | none => rw [h1] at ho; cases ho
          | some r => rw [h1] at ho; cases ho; exact (preFz_gro (P := P) (s := s) all.toList h).trans (opsW_len hC h1)
        · split at ho
          · rename_i h1; cases ho
            have g := preFz_gro (P := P) (s := s) all.toList h
            have := opsD_len hC h1
            refine g.trans (b := preFz P s all.toList h) ⟨⟨this.len.1, this.len.2⟩, g.lob.symm, g.lor.symm, fun hl b hb => this.kb b (by omega), fun hl b hb => this.kr b (by omega)⟩
          · cases ho
      · cases ho
  | seq a b iha ihb =>
    intro s s' h h' x ho
    simp only [execL] at ho
    split at ho
    · rename_i h1
      have a := iha h1
      have b := ihb ho
      exact a.trans b
    · exact iha ho
  | cond c a b iha ihb =>
    intro s s' h h' x ho
    simp only [execL] at ho
    split at ho
    · exact iha ho
    · exact ihb ho
    · cases ho
  | block id c ih =>
    intro s s' h h' x ho
    simp only [execL] at ho
    split at ho
    · rename_i h1
      split at ho <;> (cases ho; exact ih h1)
    · exact ih ho
  | loop c ih =>
    intro s s' h h' x ho
    simp only [execL] at ho
    exact loopL_len (fun _ _ _ _ _ hb => ih hb) ho
  | exit id => intro s s' h h' x ho; simp only [execL] at ho; cases ho; exact .refl _
  | scope c ih => intro s s' h h' x ho; simp only [execL] at ho; exact ih ho
  | label l => intro s s' h h' x ho; simp only [execL] at ho; cases ho; exact .refl _
  | ret => intro s s' h h' x ho; simp only [execL] at ho; cases ho; exact .refl _
  | goto l => intro s s' h h' x ho; simp only [execL] at ho; cases ho
  | refuse m => intro s s' h h' x ho; simp only [execL] at ho; cases ho
  | rangeFunc f p a b => intro s s' h h' x ho; simp only [execL] at ho; cases ho

/-! ### a region in the text's order -/
theorem vr_none {G : Gh} {w : World} : VR G w (.tup []) undef := .tup rfl (fun i h => absurd h (by simp))
theorem want_ok {N : Nat} {s : S} {a : Act} {all : Array Oper} {o : Oper} {b : Bool} (h : wantL all s o = some b) (hs : SR G w N s a) : Region.wanted o (yielded all a.tmps) = b := by
  unfold wantL at h
  unfold Region.wanted
  split at h
  · rename_i hg; cases h; rw [hg]
  · rename_i j want hg
    rw [hg]
    split at h
    · rename_i d hd
      split at h
      · rename_i b' hb
        cases h
        have := hs.at_ d
        rw [hb] at this
        have hget : a.tmps[d]? = some (.bool b') := by
          generalize hx : a.tmps.getD d undef = x at this
          cases this
          rw [Array.getD_eq_getD_getElem?] at hx
          cases hq : a.tmps[d]? with
          | none => rw [hq] at hx; simp [undef] at hx
          | some y => rw [hq] at hx; simpa using hx
        have : yielded all a.tmps j = some b' := by
          unfold yielded; rw [hd]; simp [hget]
        simp only [this]
        cases b' <;> cases want <;> rfl
      · rename_i hb
        cases h
        have := hs.at_ d
        rw [hb] at this
        have hy : yielded all a.tmps j = none := by
          unfold yielded
          rw [hd]
          generalize hx : a.tmps.getD d undef = x at this
          rw [Array.getD_eq_getD_getElem?] at hx
          simp only [Option.bind_some]
          cases hq : a.tmps[d]? with
          | none => rfl
          | some y =>
            rw [hq] at hx
            simp only [Option.getD_some] at hx
            subst hx
            cases this with
            | tup hl h => rfl
        simp only [hy]
        cases want <;> rfl
      · cases h
    · cases h

theorem opsL_sound {base tb tr N : Nat} {C : Callee'} (hC : COk P base C) (hF : CFn P C) (hL : CLen C) {all : Array Oper} {Q : Exit → Act → World → Prop} :
    ∀ {l : List Oper} {k : Nat} {s s' : S} {h h' : H} {G : Gh} {w : World} {a : Act}, (∀ j, l[j]? = all[k + j]?) → opsL P C N all l s h = some (s', h') → HR base G w h → Fresh G h tb tr →
      h'.box.length ≤ tb → h'.row.length ≤ tr → SR G w N s a → (∀ G' w' a', Step base G w h G' w' h' → SR G' w' N s' a' → Q .normal a' w') → wpOps P all Q (List.range' k l.length) a w := by
  intro l
  induction l with
  | nil =>
    intro k s s' h h' G w a _ ho hh _ _ _ hs hq
    simp only [opsL] at ho; cases ho
    exact hq G w a (.refl hh) hs
  | cons o os ih =>
    intro k s s' h h' G w a hl ho hh hf h1 h2 hs hq
    have hko : all[k]? = some o := by have := hl 0; simpa using this.symm
    have hl' : ∀ j, os[j]? = all[k + 1 + j]? := by intro j; have := hl (j + 1); simpa [Nat.add_assoc, Nat.add_comm 1 j] using this
    rw [List.length_cons, List.range'_succ]
    simp only [wpOps, hko]
    simp only [opsL] at ho
    split at ho
    · rename_i hd
      split at ho
      · rename_i hw
        rw [if_pos (want_ok hw hs)]
        split at ho
        · rename_i v h3 hop
          have hlen := (opsL_len hL ho).len
          refine .inl (op_sound hC hF hop hh hf (Nat.le_trans hlen.1 h1) (Nat.le_trans hlen.2 h2) hs ?_)
          intro G1 w1 u hst hv
          exact ih hl' ho hst.hr (hf.step hst) h1 h2 ((hs.mono hst.ext).put hd hv) (fun G2 w2 a2 hst2 hs2 => hq G2 w2 a2 (hst.trans hst2) hs2)
        · cases ho
      · rename_i hw
        rw [if_neg (by rw [want_ok hw hs]; simp)]
        exact ih hl' ho hh hf h1 h2 (hs.put hd vr_none) hq
      · cases ho
    · cases ho

end Go.LM
