import Derived.Test.YtgbhkmgmpodnkaaLmL
import Derived.LoopN
namespace Go.LM
variable {P : Program} {G : Gh} {w : World}

/-! ### the logical memory only grows -/
def LenLe (h h' : H) : Prop := h.box.length ≤ h'.box.length ∧ h.row.length ≤ h'.row.length
theorem LenLe.refl (h : H) : LenLe h h := ⟨Nat.le_refl _, Nat.le_refl _⟩
theorem LenLe.trans {a b c : H} (h : LenLe a b) (h' : LenLe b c) : LenLe a c := ⟨Nat.le_trans h.1 h'.1, Nat.le_trans h.2 h'.2⟩
/-- ... and what is below the marks stays. -/
structure Gro (h h' : H) : Prop where
  len : LenLe h h'
  lob : h'.lob = h.lob
  lor : h'.lor = h.lor
  kb : h.lob ≤ h.box.length → ∀ b, b < h.lob → h'.box[b]? = h.box[b]?
  kr : h.lor ≤ h.row.length → ∀ r, r < h.lor → h'.row[r]? = h.row[r]?
theorem Gro.refl (h : H) : Gro h h := ⟨.refl h, rfl, rfl, fun _ _ _ => rfl, fun _ _ _ => rfl⟩
theorem Gro.trans {a b c : H} (h : Gro a b) (h' : Gro b c) : Gro a c :=
  ⟨h.len.trans h'.len, h'.lob.trans h.lob, h'.lor.trans h.lor,
    fun hl x hx => (h'.kb (by rw [h.lob]; exact Nat.le_trans hl h.len.1) x (by rw [h.lob]; exact hx)).trans (h.kb hl x hx),
    fun hl x hx => (h'.kr (by rw [h.lor]; exact Nat.le_trans hl h.len.2) x (by rw [h.lor]; exact hx)).trans (h.kr hl x hx)⟩
theorem Gro.box (h : H) (l : List Box) : Gro h { h with box := h.box ++ l } :=
  ⟨⟨by simp, Nat.le_refl _⟩, rfl, rfl, fun hl b hb => List.getElem?_append_left (by omega), fun _ _ _ => rfl⟩
theorem Gro.row (h : H) (l : List Nat) : Gro h { h with row := h.row ++ l } :=
  ⟨⟨Nat.le_refl _, by simp⟩, rfl, rfl, fun _ _ _ => rfl, fun hl b hb => List.getElem?_append_left (by omega)⟩
theorem Gro.setBox {h : H} {b : Nat} (B : Box) (hb : h.lob ≤ b) : Gro h { h with box := h.box.set b B } :=
  ⟨⟨by simp, Nat.le_refl _⟩, rfl, rfl, fun _ x hx => List.getElem?_set_ne (by omega), fun _ _ _ => rfl⟩
theorem Gro.setRow {h : H} {r : Nat} (n : Nat) (hr : h.lor ≤ r) : Gro h { h with row := h.row.set r n } :=
  ⟨⟨Nat.le_refl _, by simp⟩, rfl, rfl, fun _ _ _ => rfl, fun _ x hx => List.getElem?_set_ne (by omega)⟩
def CLen (C : Callee') : Prop := ∀ f args h v h', C f args h = some (v, h') → Gro h h'

theorem map_same {x : Option LV} {h h' : H} {v : LV} (hx : x.map (·, h) = some (v, h')) : h' = h := by
  cases x with
  | none => cases hx
  | some y => simp only [Option.map_some, Option.some.injEq, Prod.mk.injEq] at hx; exact hx.2.symm

theorem storeL_len {t : TypeId} {p v : LV} {h h' : H} (hl : storeL P t p v h = some h') : Gro h h' := by
  unfold storeL at hl
  split at hl
  · split at hl
    · split at hl
      · rename_i hc; cases hl; exact .setBox _ hc.2.2.2.2.1
      · cases hl
    · cases hl
  · split at hl
    · split at hl
      · rename_i hc; cases hl; exact .setBox _ hc.2.2.2.2.1
      · cases hl
    · cases hl
  · cases hl
theorem buildSliceL_len {t : TypeId} {n : Nat} {ps : List (Nat × LV)} {v : LV} {h h' : H} (hl : buildSliceL P t n ps h = some (v, h')) : Gro h h' := by
  unfold buildSliceL at hl
  repeat' split at hl
  all_goals first
    | (cases hl; done)
    | (simp only [newRowL, Option.some.injEq, Prod.mk.injEq] at hl; obtain ⟨_, rfl⟩ := hl; exact .row _ _)
theorem convL_len {a b : TypeId} {x v : LV} {h h' : H} (hl : convL P a b x h = some (v, h')) : Gro h h' := by
  unfold convL at hl
  repeat' split at hl
  all_goals first
    | (cases hl; done)
    | (cases hl; exact .refl _)
    | (simp only [newRowL, Option.some.injEq, Prod.mk.injEq] at hl; obtain ⟨_, rfl⟩ := hl; exact .row _ _)
    | (rename_i hc; simp only [Option.some.injEq, Prod.mk.injEq] at hl; obtain ⟨_, rfl⟩ := hl; exact .setRow _ hc.2.2.1)
    | (rw [Option.map_eq_some_iff] at hl
       obtain ⟨l, _, hl⟩ := hl
       cases hl; exact .refl _)
theorem sliceL_len {t : TypeId} {x v : LV} {lo hi : Option LV} {h h' : H} (hl : sliceL P t x lo hi h = some (v, h')) : Gro h h' := by
  unfold sliceL at hl
  repeat' split at hl
  all_goals first
    | (cases hl; done)
    | (cases hl; exact .refl _)
    | (have hc := ‹(_ ∨ h.lob ≤ _) ∧ _›; simp only [Option.some.injEq, Prod.mk.injEq] at hl; obtain ⟨_, rfl⟩ := hl
       exact .setBox _ (hc.1.resolve_left (by assumption)))
theorem appendL_len {t u : TypeId} {s x v : LV} {h h' : H} (hl : appendL P t u s x h = some (v, h')) : Gro h h' := by
  unfold appendL at hl
  repeat' split at hl
  all_goals first
    | (cases hl; done)
    | (cases hl; exact .refl _)
    | (simp only [Option.some.injEq, Prod.mk.injEq] at hl; obtain ⟨_, rfl⟩ := hl; exact .box _ _)
    | (have hc := ‹_ ∧ h.lob ≤ _ ∧ _ ∧ _ ∧ _›; simp only [Option.some.injEq, Prod.mk.injEq] at hl; obtain ⟨_, rfl⟩ := hl
       exact (Gro.setBox _ hc.2.1).trans (.box _ _))
    | (simp only [newRowL, Option.some.injEq, Prod.mk.injEq] at hl; obtain ⟨_, rfl⟩ := hl; exact .row _ _)
    | (rename_i hc; simp only [Option.some.injEq, Prod.mk.injEq] at hl; obtain ⟨_, rfl⟩ := hl; exact .setRow _ hc.2.2.1)

theorem opL_len {C : Callee'} (hC : CLen C) {s : S} {o : Op} {h h' : H} {v : LV} (ho : opL P C s o h = some (v, h')) : Gro h h' := by
  have same : ∀ {x : Option LV}, x.map (·, h) = some (v, h') → Gro h h' := by
    intro x hx; rw [map_same hx]; exact .refl _
  have box : ∀ {c : List LV}, some (newBoxL c h) = some (v, h') → Gro h h' := by
    intro c hx
    simp only [newBoxL, Option.some.injEq, Prod.mk.injEq] at hx; obtain ⟨_, rfl⟩ := hx
    exact .box _ _
  cases o
  case call c =>
    simp only [opL, callL] at ho
    repeat' split at ho
    all_goals first
      | (cases ho; done)
      | (exact same ho)
      | (exact appendL_len ho)
      | (exact hC _ _ _ _ _ ho)
  case store t a x =>
    simp only [opL] at ho
    split at ho
    · rename_i p z _ _
      cases hl : storeL P t p z h with
      | none => rw [hl] at ho; cases ho
      | some h2 => rw [hl] at ho; cases ho; exact storeL_len hl
    · cases ho
  case slice t x lo hi mx =>
    cases mx with
    | some m => simp only [opL] at ho; cases ho
    | none =>
      simp only [opL] at ho
      split at ho
      · exact sliceL_len ho
      · cases ho
  case makeFunc fn a b =>
    cases fn <;> simp only [opL] at ho <;> try (cases ho; done)
    split at ho
    · cases ho; exact .refl _
    · cases ho
  all_goals (simp only [opL] at ho; try (cases ho; done))
  all_goals first
    | (exact same ho)
    | (repeat' split at ho
       all_goals first
         | (cases ho; done)
         | (exact same ho)
         | (exact box ho)
         | (exact buildSliceL_len ho)
         | (exact convL_len ho)
         | (cases ho; exact .refl _))

theorem opsL_len {C : Callee'} (hC : CLen C) {N : Nat} {all : Array Oper} : ∀ {l : List Oper} {s s' : S} {h h' : H}, opsL P C N all l s h = some (s', h') → Gro h h'
  | [], s, s', h, h', ho => by simp only [opsL] at ho; cases ho; exact .refl _
  | o :: os, s, s', h, h', ho => by
    simp only [opsL] at ho
    split at ho
    · split at ho
      · split at ho
        · rename_i h1
          have a := opL_len hC h1
          have b := opsL_len hC ho
          exact a.trans b
        · cases ho
      · exact opsL_len hC ho
      · cases ho
    · cases ho
/-- Where nothing that stood is written. -/
structure Pre (h h' : H) : Prop where
  len : LenLe h h'
  kb : ∀ b, b < h.box.length → h'.box[b]? = h.box[b]?
  kr : ∀ r, r < h.row.length → h'.row[r]? = h.row[r]?
theorem Pre.refl (h : H) : Pre h h := ⟨.refl h, fun _ _ => rfl, fun _ _ => rfl⟩
theorem Pre.trans {a b c : H} (h : Pre a b) (h' : Pre b c) : Pre a c :=
  ⟨h.len.trans h'.len, fun x hx => (h'.kb x (by have := h.len.1; omega)).trans (h.kb x hx), fun x hx => (h'.kr x (by have := h.len.2; omega)).trans (h.kr x hx)⟩
theorem opL_pre {C : Callee'} (hC : CLen C) {s : S} {o : Op} {h h' : H} {v : LV} (ho : opL P C s o { h with lob := h.box.length, lor := h.row.length } = some (v, h')) : Pre h h' := by
  have g := opL_len hC ho
  exact ⟨⟨g.len.1, g.len.2⟩, fun b hb => g.kb (Nat.le_refl _) b hb, fun b hb => g.kr (Nat.le_refl _) b hb⟩
theorem opsD_len {C : Callee'} (hC : CLen C) {N : Nat} {all : Array Oper} : ∀ {l : List Oper} {s s' : S} {h h' : H}, opsD P C N all l s h = some (s', h') → Pre h h'
  | [], s, s', h, h', ho => by simp only [opsD] at ho; cases ho; exact .refl _
  | o :: os, s, s', h, h', ho => by
    simp only [opsD] at ho
    split at ho
    · split at ho
      · split at ho
        · rename_i h1
          exact (opL_pre hC h1).trans (opsD_len hC ho)
        · cases ho
      · exact opsD_len hC ho
      · cases ho
    · cases ho

theorem opW_len {C : Callee'} (hC : CLen C) {c : Cl} {D : List Nat} {s : S} {o : Op} {h h' : H} {v : LV} (ho : opW P C c D s o h = some (v, h')) : Gro h h' := by
  cases c <;> simp only [opW] at ho
  case v =>
    split at ho
    · exact opL_len hC ho
    · cases ho
  case l =>
    split at ho
    · exact opL_len hC ho
    · cases ho
  case s =>
    split at ho
    · exact opL_len hC ho
    · cases ho
  case w =>
    split at ho
    · rename_i h1
      split at ho
      · cases ho; exact opL_len hC h1
      · cases ho
    · cases ho
  case r =>
    split at ho
    · rename_i h1; cases ho
      have p := opL_pre hC h1
      exact ⟨⟨p.len.1, p.len.2⟩, rfl, rfl, fun hl b hb => p.kb b (by omega), fun hl b hb => p.kr b (by omega)⟩
    · cases ho
  case p =>
    split at ho
    · cases ho
    · exact opL_len hC ho
  all_goals exact opL_len hC ho
theorem opsW_len {C : Callee'} (hC : CLen C) {N : Nat} {all : Array Oper} : ∀ {l : List (Oper × Cl × List Nat)} {s s' : S} {h h' : H}, opsW P C N all l s h = some (s', h') → Gro h h'
  | [], s, s', h, h', ho => by simp only [opsW] at ho; cases ho; exact .refl _
  | (o, c, D) :: os, s, s', h, h', ho => by
    simp only [opsW] at ho
    split at ho
    · split at ho
      · split at ho
        · rename_i h1
          exact (opW_len hC h1).trans (opsW_len hC ho)
        · cases ho
      · exact opsW_len hC ho
      · cases ho
    · cases ho

theorem preFz_gro {s : S} : ∀ (l : List Oper) (h : H), Gro h (preFz P s l h)
  | [], h => .refl h
  | o :: os, h => by
    unfold preFz
    split
    · split
      · split
        · split
          · rename_i hb
            exact (Gro.setBox (h := h) _ hb).trans (preFz_gro os _)
          · exact preFz_gro os h
        · exact preFz_gro os h
      · exact preFz_gro os h
    · exact preFz_gro os h
theorem preFz_step {base : Nat} {w : World} {s : S} : ∀ (l : List Oper) {h : H} {G : Gh}, HR base G w h → (∀ t b o, s t = .ptr b o → b < h.box.length → ∃ pb, G.box b = some pb) →
    ∃ G', Step base G w h G' w (preFz P s l h)
  | [], h, G, hr, _ => ⟨G, .refl hr⟩
  | o :: os, h, G, hr, hs => by
    unfold preFz
    split
    · split
      · rename_i b _ _ _
        split
        · rename_i B hB
          split
          · rename_i hlob
            obtain ⟨pb, hpb⟩ := hs _ _ _ (by assumption) (List.getElem?_eq_some_iff.1 hB).1
            have hst := Step.freeze hr hpb hB hlob
            obtain ⟨G', hst'⟩ := preFz_step os hst.hr (fun t b o e hb => by
              obtain ⟨pb, h1⟩ := hs t b o e (by simpa using hb)
              exact ⟨pb, h1⟩)
            exact ⟨G', hst.trans hst'⟩
          · exact preFz_step os hr hs
        · exact preFz_step os hr hs
      · exact preFz_step os hr hs
    · exact preFz_step os hr hs

theorem loopL_len {f : S → H → Option (X × S × H)} (hf : ∀ s h x s' h', f s h = some (x, s', h') → Gro h h') :
    ∀ {k : Nat} {s s' : S} {h h' : H} {x : X}, loopL f k s h = some (x, s', h') → Gro h h'
  | 0, s, s', h, h', x, ho => by simp only [loopL] at ho; cases ho
  | k + 1, s, s', h, h', x, ho => by
    simp only [loopL] at ho
    split at ho
    · rename_i s1 h1 hb
      have a := hf _ _ _ _ _ hb
      have b := loopL_len hf ho
      exact a.trans b
    · exact hf _ _ _ _ _ ho

theorem execL_len {C : Callee'} (hC : CLen C) {N fuel : Nat} : ∀ {c : Code} {s s' : S} {h h' : H} {x : X}, execL P C N fuel c s h = some (x, s', h') → Gro h h' := by
  intro c
  induction c with
  | skip => intro s s' h h' x ho; simp only [execL] at ho; cases ho; exact .refl _
  | region id all d =>
    intro s s' h h' x ho
    cases d with
    | false =>
      simp only [execL] at ho
      cases h1 : opsL P C N all all.toList s h with
      | none => rw [h1] at ho; cases ho
      | some r => rw [h1] at ho; cases ho; exact opsL_len hC h1
    | true =>
      simp only [execL] at ho
      split at ho
      · split at ho
        · rename_i rows _
          cases h1 : opsW P C N all (all.toList.zip rows) s (preFz P s all.toList h) with
          | none => rw [h1] at ho; cases ho
          | some r => rw [h1] at ho; cases ho; exact (preFz_gro (P := P) (s := s) all.toList h).trans (opsW_len hC h1)
        · split at ho
          · rename_i h1; cases ho
            have g := preFz_gro (P := P) (s := s) all.toList h
            have := opsD_len hC h1
            refine g.trans (b := preFz P s all.toList h) ⟨⟨this.len.1, this.len.2⟩, g.lob.symm, g.lor.symm, fun hl b hb => this.kb b (by omega), fun hl b hb => this.kr b (by omega)⟩
          · cases ho
      · cases ho
  | seq a b iha ihb =>
    intro s s' h h' x ho
    simp only [execL] at ho
    split at ho
    · rename_i h1
      have a := iha h1
      have b := ihb ho
      exact a.trans b
    · exact iha ho
  | cond c a b iha ihb =>
    intro s s' h h' x ho
    simp only [execL] at ho
    split at ho
    · exact iha ho
    · exact ihb ho
    · cases ho
  | block id c ih =>
    intro s s' h h' x ho
    simp only [execL] at ho
    split at ho
    · rename_i h1
      split at ho <;> (cases ho; exact ih h1)
    · exact ih ho
  | loop c ih =>
    intro s s' h h' x ho
    simp only [execL] at ho
    exact loopL_len (fun _ _ _ _ _ hb => ih hb) ho
  | exit id => intro s s' h h' x ho; simp only [execL] at ho; cases ho; exact .refl _
  | scope c ih => intro s s' h h' x ho; simp only [execL] at ho; exact ih ho
  | label l => intro s s' h h' x ho; simp only [execL] at ho; cases ho; exact .refl _
  | ret => intro s s' h h' x ho; simp only [execL] at ho; cases ho; exact .refl _
  | goto l => intro s s' h h' x ho; simp only [execL] at ho; cases ho
  | refuse m => intro s s' h h' x ho; simp only [execL] at ho; cases ho
  | rangeFunc f p a b => intro s s' h h' x ho; simp only [execL] at ho; cases ho

/-! ### a region in the text's order -/
theorem vr_none {G : Gh} {w : World} : VR G w (.tup []) undef := .tup rfl (fun i h => absurd h (by simp))
theorem want_ok {N : Nat} {s : S} {a : Act} {all : Array Oper} {o : Oper} {b : Bool} (h : wantL all s o = some b) (hs : SR G w N s a) : Region.wanted o (yielded all a.tmps) = b := by
  unfold wantL at h
  unfold Region.wanted
  split at h
  · rename_i hg; cases h; rw [hg]
  · rename_i j want hg
    rw [hg]
    split at h
    · rename_i d hd
      split at h
      · rename_i b' hb
        cases h
        have := hs.at_ d
        rw [hb] at this
        have hget : a.tmps[d]? = some (.bool b') := by
          generalize hx : a.tmps.getD d undef = x at this
          cases this
          rw [Array.getD_eq_getD_getElem?] at hx
          cases hq : a.tmps[d]? with
          | none => rw [hq] at hx; simp [undef] at hx
          | some y => rw [hq] at hx; simpa using hx
        have : yielded all a.tmps j = some b' := by
          unfold yielded; rw [hd]; simp [hget]
        simp only [this]
        cases b' <;> cases want <;> rfl
      · rename_i hb
        cases h
        have := hs.at_ d
        rw [hb] at this
        have hy : yielded all a.tmps j = none := by
          unfold yielded
          rw [hd]
          generalize hx : a.tmps.getD d undef = x at this
          rw [Array.getD_eq_getD_getElem?] at hx
          simp only [Option.bind_some]
          cases hq : a.tmps[d]? with
          | none => rfl
          | some y =>
            rw [hq] at hx
            simp only [Option.getD_some] at hx
            subst hx
            cases this with
            | tup hl h => rfl
        simp only [hy]
        cases want <;> rfl
      · cases h
    · cases h

theorem opsL_sound {base tb tr N : Nat} {C : Callee'} (hC : COk P base C) (hF : CFn P C) (hL : CLen C) {all : Array Oper} {Q : Exit → Act → World → Prop} :
    ∀ {l : List Oper} {k : Nat} {s s' : S} {h h' : H} {G : Gh} {w : World} {a : Act}, (∀ j, l[j]? = all[k + j]?) → opsL P C N all l s h = some (s', h') → HR base G w h → Fresh G h tb tr →
      h'.box.length ≤ tb → h'.row.length ≤ tr → SR G w N s a → (∀ G' w' a', Step base G w h G' w' h' → SR G' w' N s' a' → Q .normal a' w') → wpOps P all Q (List.range' k l.length) a w := by
  intro l
  induction l with
  | nil =>
    intro k s s' h h' G w a _ ho hh _ _ _ hs hq
    simp only [opsL] at ho; cases ho
    exact hq G w a (.refl hh) hs
  | cons o os ih =>
    intro k s s' h h' G w a hl ho hh hf h1 h2 hs hq
    have hko : all[k]? = some o := by have := hl 0; simpa using this.symm
    have hl' : ∀ j, os[j]? = all[k + 1 + j]? := by intro j; have := hl (j + 1); simpa [Nat.add_assoc, Nat.add_comm 1 j] using this
    rw [List.length_cons, List.range'_succ]
    simp only [wpOps, hko]
    simp only [opsL] at ho
    split at ho
    · rename_i hd
      split at ho
      · rename_i hw
        rw [if_pos (want_ok hw hs)]
        split at ho
        · rename_i v h3 hop
          have hlen := (opsL_len hL ho).len
          refine .inl (op_sound hC hF hop hh hf (Nat.le_trans hlen.1 h1) (Nat.le_trans hlen.2 h2) hs ?_)
          intro G1 w1 u hst hv
          exact ih hl' ho hst.hr (hf.step hst) h1 h2 ((hs.mono hst.ext).put hd hv) (fun G2 w2 a2 hst2 hs2 => hq G2 w2 a2 (hst.trans hst2) hs2)
        · cases ho
      · rename_i hw
        rw [if_neg (by rw [want_ok hw hs]; simp)]
        exact ih hl' ho hh hf h1 h2 (hs.put hd vr_none) hq
      · cases ho
    · cases ho

end Go.LM

namespace Go.LM
variable {P : Program}

theorem oprs_congr {s s' : S} : ∀ {xs : List Operand}, (∀ x ∈ xs, opr s x = opr s' x) → oprs s xs = oprs s' xs
  | [], _ => rfl
  | x :: xs, h => by simp only [oprs]; rw [h x (by simp), oprs_congr (fun y hy => h y (by simp [hy]))]
theorem oprP_congr {s s' : S} : ∀ {xs : List (Nat × Operand)}, (∀ x ∈ xs, opr s x.2 = opr s' x.2) → oprP s xs = oprP s' xs
  | [], _ => rfl
  | (i, x) :: xs, h => by simp only [oprP]; rw [h (i, x) (by simp), oprP_congr (fun y hy => h y (by simp [hy]))]
theorem oprO_congr {s s' : S} {x : Option Operand} (h : ∀ y ∈ x.toArray, opr s y = opr s' y) : oprO s x = oprO s' x := by
  cases x with
  | none => rfl
  | some x => simp only [oprO]; rw [h x (by simp)]

theorem opL_congr {C : Callee'} {s s' : S} {h : H} : ∀ {o : Op}, (∀ x ∈ o.operands, opr s x = opr s' x) → opL P C s o h = opL P C s' o h := by
  intro o hx
  cases o <;> simp only [opL] <;> simp only [Op.operands] at hx
  case move x => rw [hx x (by simp)]
  case assign x => rw [hx x (by simp)]
  case pick c a b => rw [hx c (by simp), hx a (by simp), hx b (by simp)]
  case box t x => rw [hx x (by simp)]
  case build t ps => rw [oprP_congr (fun x hm => hx x.2 (by simp; exact ⟨x.1, by simpa using hm⟩))]
  case buildSlice t n ps => rw [oprP_congr (fun x hm => hx x.2 (by simp; exact ⟨x.1, by simpa using hm⟩))]
  case load t x => rw [hx x (by simp)]
  case store t a x => rw [hx a (by simp), hx x (by simp)]
  case nilCheck x => rw [hx x (by simp)]
  case binOp op t x y u => rw [hx x (by simp), hx y (by simp)]
  case unOp op t x => rw [hx x (by simp)]
  case convert a b x => rw [hx x (by simp)]
  case typeAssert x xt t ok => rw [hx x (by simp)]
  case makeInterface t x => rw [hx x (by simp)]
  case makeFunc fn a b =>
    cases fn <;> simp only []
    rw [oprs_congr (fun x hm => hx x (by simp; exact .inl (by simpa using hm))), oprs_congr (xs := b.toList) (fun x hm => hx x (by simp; exact .inr (by simpa using hm)))]
  case slice t x lo hi mx =>
    cases mx with
    | some m => rfl
    | none =>
      simp only []
      rw [hx x (by simp), oprO_congr (x := lo) (fun y hy => hx y (by simp; simp at hy; exact .inr (.inl hy))), oprO_congr (x := hi) (fun y hy => hx y (by simp; simp at hy; exact .inr (.inr hy)))]
  case fieldAddr t x f => rw [hx x (by simp)]
  case field t x f => rw [hx x (by simp)]
  case indexAddr t x i => rw [hx x (by simp), hx i (by simp)]
  case index t x i => rw [hx x (by simp), hx i (by simp)]
  case extract x i => rw [hx x (by simp)]
  case call c =>
    obtain ⟨callee, args, ats⟩ := c
    have ha : oprs s args.toList = oprs s' args.toList := oprs_congr (fun x hm => hx x (by simp [Call.operands]; exact .inr (by simpa using hm)))
    cases callee with
    | builtin b => cases b <;> simp only [callL, ha]
    | value f => simp only [callL, ha, hx f (by simp [Call.operands])]
    | invoke r n => simp only [callL, ha, hx r (by simp [Call.operands])]

/-- The slots that an operation looks at are all that counts. -/
theorem opL_looks {C : Callee'} {s s' : S} {h : H} {all : Array Oper} {o : Oper} (hx : ∀ t ∈ o.looksAt all, s t = s' t) : opL P C s o.op h = opL P C s' o.op h := by
  refine opL_congr (fun x hm => ?_)
  cases x with
  | tmp t =>
    simp only [opr]
    rw [hx t]
    simp only [Oper.looksAt, List.mem_append, List.mem_filterMap]
    exact .inl ⟨.tmp t, by simpa using hm, rfl⟩
  | _ => rfl
theorem wantL_looks {s s' : S} {all : Array Oper} {o : Oper} (hx : ∀ t ∈ o.looksAt all, s t = s' t) : wantL all s o = wantL all s' o := by
  unfold wantL
  cases hg : o.guard with
  | none => rfl
  | some g =>
    obtain ⟨j, want⟩ := g
    simp only []
    cases hd : (all[j]?).bind (·.dst) with
    | none => rfl
    | some d =>
      simp only []
      rw [hx d]
      simp only [Oper.looksAt, hg, List.mem_append]
      exact .inr (by rw [hd]; simp)

/-- What a region in the text's order did, operation by operation. -/
structure DStep (P : Program) (C : Callee') (N : Nat) (all : Array Oper) (o : Oper) (s s' : S) (h h' : H) (v : LV) : Prop where
  dst : okDst N o.dst = true
  slot : s' = updO s o.dst v
  pre : Pre h h'
  did : (wantL all s o = some true ∧ opL P C s o.op { h with lob := h.box.length, lor := h.row.length } = some (v, h')) ∨ (wantL all s o = some false ∧ v = .tup [] ∧ h' = h)

theorem opsD_trace {C : Callee'} (hC : CLen C) {N : Nat} {all : Array Oper} : ∀ {l : List Oper} {s s' : S} {h h' : H}, opsD P C N all l s h = some (s', h') →
    ∃ (σ : Nat → S) (η : Nat → H) (val : Nat → LV), σ 0 = s ∧ η 0 = h ∧ σ l.length = s' ∧ η l.length = h' ∧
      ∀ i o, l[i]? = some o → DStep P C N all o (σ i) (σ (i + 1)) (η i) (η (i + 1)) (val i)
  | [], s, s', h, h', ho => by
    simp only [opsD] at ho; cases ho
    exact ⟨fun _ => s, fun _ => h, fun _ => .undef, rfl, rfl, rfl, rfl, fun i o hi => by simp at hi⟩
  | o :: os, s, s', h, h', ho => by
    have cons : ∀ (v : LV) (h1 : H), DStep P C N all o s (updO s o.dst v) h h1 v → opsD P C N all os (updO s o.dst v) h1 = some (s', h') →
        ∃ (σ : Nat → S) (η : Nat → H) (val : Nat → LV), σ 0 = s ∧ η 0 = h ∧ σ (o :: os).length = s' ∧ η (o :: os).length = h' ∧
          ∀ i q, (o :: os)[i]? = some q → DStep P C N all q (σ i) (σ (i + 1)) (η i) (η (i + 1)) (val i) := by
      intro v h1 hst hrest
      obtain ⟨σ, η, val, e1, e2, e3, e4, e5⟩ := opsD_trace hC hrest
      refine ⟨fun i => match i with | 0 => s | i + 1 => σ i, fun i => match i with | 0 => h | i + 1 => η i, fun i => match i with | 0 => v | i + 1 => val i, rfl, rfl, e3, e4, ?_⟩
      intro i q hi
      cases i with
      | zero =>
        simp at hi; subst hi
        show DStep P C N all o s (σ 0) h (η 0) v
        rw [e1, e2]; exact hst
      | succ i => exact e5 i q (by simpa using hi)
    simp only [opsD] at ho
    split at ho
    · rename_i hd
      split at ho
      · rename_i hw
        split at ho
        · rename_i v h1 hop
          exact cons v h1 ⟨hd, rfl, opL_pre hC hop, .inl ⟨hw, hop⟩⟩ ho
        · cases ho
      · rename_i hw
        exact cons (.tup []) h ⟨hd, rfl, .refl _, .inr ⟨hw, rfl, rfl⟩⟩ ho
      · cases ho
    · cases ho

end Go.LM

namespace Go.LM
variable {P : Program}

/-- The slots when just the operations of L are done, in the text's order. -/
def slotAt (all : Array Oper) (val : Nat → LV) (L : Nat → Bool) (s0 : S) : Nat → S
  | 0 => s0
  | i + 1 => if L i = true then (match all[i]? with
    | some o => updO (slotAt all val L s0 i) o.dst (val i)
    | none => slotAt all val L s0 i) else slotAt all val L s0 i

theorem updO_ne {s : S} {d : Option Nat} {v : LV} {t : Nat} (h : d ≠ some t) : updO s d v t = s t := by
  cases d with
  | none => rfl
  | some d => simp only [updO, upd]; rw [if_neg (fun e => h (by rw [e]))]
theorem updO_eq {s : S} {d : Option Nat} {v : LV} {t : Nat} (h : d = some t) : updO s d v t = v := by
  subst h; simp [updO, upd]

def Closed (all : Array Oper) (L : Nat → Bool) : Prop := ∀ i o, all[i]? = some o → L i = true → ∀ e ∈ o.after, Region.binds .any e = true → L e.on = true

inductive Reach (all : Array Oper) : Nat → Nat → Prop
  | edge {i : Nat} {o : Oper} {e : Edge} (ho : all[i]? = some o) (he : e ∈ o.after) (hb : Region.binds .any e = true) : Reach all e.on i
  | more {k i : Nat} {o : Oper} {e : Edge} (ho : all[i]? = some o) (he : e ∈ o.after) (hb : Region.binds .any e = true) (h : Reach all k e.on) : Reach all k i

theorem mask_bit (acc : List Nat) (k : Nat) : ∀ (l : List Edge) (s : Nat), (l.foldl (fun s e => if Region.binds .any e = true then (s ||| 2 ^ e.on) ||| acc.getD e.on 0 else s) s).testBit k = true →
    s.testBit k = true ∨ ∃ e ∈ l, Region.binds .any e = true ∧ (e.on = k ∨ (acc.getD e.on 0).testBit k = true)
  | [], s, h => .inl h
  | e :: l, s, h => by
    rw [List.foldl_cons] at h
    rcases mask_bit acc k l _ h with h1 | ⟨e', h1, h2⟩
    · split at h1
      · rename_i hb
        rw [Nat.testBit_or, Nat.testBit_or, Nat.testBit_two_pow, Bool.or_eq_true, Bool.or_eq_true] at h1
        rcases h1 with (h1 | h1) | h1
        · exact .inl h1
        · exact .inr ⟨e, by simp, hb, .inl (by simpa using h1)⟩
        · exact .inr ⟨e, by simp, hb, .inr h1⟩
      · exact .inl h1
    · exact .inr ⟨e', by simp [h1], h2⟩

theorem masks_reach {all : Array Oper} : ∀ (l : List Oper) (acc : List Nat), (∀ j, l[j]? = all[acc.length + j]?) → (∀ j k, (acc.getD j 0).testBit k = true → Reach all k j) →
    ∀ j k, ((masksL l acc).getD j 0).testBit k = true → Reach all k j
  | [], acc, _, h => h
  | o :: os, acc, hl, h => by
    have ho : all[acc.length]? = some o := by have := hl 0; simpa using this.symm
    refine masks_reach os (acc ++ [maskL o acc]) (fun j => ?_) (fun j k hb => ?_)
    · have := hl (j + 1)
      simpa [Nat.add_assoc, Nat.add_comm 1 j] using this
    · by_cases hj : j < acc.length
      · rw [List.getD_eq_getElem?_getD, List.getElem?_append_left hj, ← List.getD_eq_getElem?_getD] at hb
        exact h j k hb
      · by_cases he : j = acc.length
        · subst he
          rw [List.getD_eq_getElem?_getD, List.getElem?_append_right (Nat.le_refl _)] at hb
          simp only [Nat.sub_self, List.getElem?_cons_zero, Option.getD_some, maskL] at hb
          rcases mask_bit acc k _ _ hb with h1 | ⟨e, h1, h2, h3⟩
          · simp at h1
          · rcases h3 with h3 | h3
            · rw [← h3]; exact .edge ho (by simpa using h1) h2
            · exact .more ho (by simpa using h1) h2 (h _ _ h3)
        · rw [List.getD_eq_getElem?_getD, List.getElem?_eq_none (by simp; omega)] at hb
          simp at hb

theorem reach_closed {all : Array Oper} {L : Nat → Bool} (hc : Closed all L) {k i : Nat} (h : Reach all k i) : L i = true → L k = true := by
  induction h with
  | edge ho he hb => intro hi; exact hc _ _ ho hi _ he hb
  | more ho he hb _ ih => intro hi; exact ih (hc _ _ ho hi _ he hb)
/-- ... ahead of one that is about to be done. -/
theorem reach_ready {all : Array Oper} {L : Nat → Bool} (hc : Closed all L) {k i : Nat} {o : Oper} (ho : all[i]? = some o) (hp : ∀ e ∈ o.after, Region.binds .any e = true → L e.on = true)
    (h : Reach all k i) : L k = true := by
  cases h with
  | edge ho' he hb => rw [ho] at ho'; cases ho'; exact hp _ he hb
  | more ho' he hb h => rw [ho] at ho'; cases ho'; exact reach_closed hc h (hp _ he hb)

theorem slots_of {all : Array Oper} (h : slotsOkL all = true) {i k d : Nat} {o q : Oper} (ho : all[i]? = some o) (hq : all[k]? = some q) (hd : q.dst = some d) (hne : k ≠ i)
    (hl : d ∈ o.looksAt all ∨ o.dst = some d) : if k < i then Reach all k i else Reach all i k := by
  have hm := masks_reach (all := all) all.toList [] (by intro j; simp) (by intro j k hb; simp at hb)
  unfold slotsOkL at h
  have h1 := List.all_eq_true.1 h (o, i) (by
    rw [List.mem_zipIdx_iff_getElem?]; simpa using ho)
  dsimp only at h1
  have h2 := List.all_eq_true.1 h1 d (by
    rw [List.mem_append]
    rcases hl with hl | hl
    · exact .inl hl
    · exact .inr (by rw [hl]; simp))
  have h3 := List.all_eq_true.1 h2 (q, k) (by
    rw [List.mem_zipIdx_iff_getElem?]; simpa using hq)
  dsimp only at h3
  rw [hd] at h3
  simp only [bne_self_eq_false, Bool.false_or, Bool.or_eq_true, beq_iff_eq] at h3
  rcases h3 with h3 | h3
  · exact absurd h3 hne
  · split at h3 <;> rename_i hlt
    · rw [if_pos hlt]; exact hm _ _ h3
    · rw [if_neg hlt]; exact hm _ _ h3

/-- What an operation that is about to be done finds in its slots. -/
theorem slot_read {all : Array Oper} {val : Nat → LV} {L : Nat → Bool} {s0 : S} (hok : slotsOkL all = true) (hc : Closed all L) {i : Nat} {o : Oper} (ho : all[i]? = some o)
    (hp : ∀ e ∈ o.after, Region.binds .any e = true → L e.on = true) (hi : L i = false) {t : Nat} (ht : t ∈ o.looksAt all) :
    ∀ m, (m ≤ i → slotAt all val L s0 m t = slotAt all val (fun _ => true) s0 m t) ∧ (i ≤ m → slotAt all val L s0 m t = slotAt all val (fun _ => true) s0 i t) := by
  have hw : ∀ k q, all[k]? = some q → q.dst = some t → (k < i → L k = true) ∧ (i < k → L k = false) := by
    intro k q hq hd
    refine ⟨fun hlt => ?_, fun hlt => ?_⟩
    · have := slots_of hok ho hq hd (by omega) (.inl ht)
      rw [if_pos hlt] at this
      exact reach_ready hc ho hp this
    · have := slots_of hok ho hq hd (by omega) (.inl ht)
      rw [if_neg (by omega)] at this
      cases hL : L k with
      | false => rfl
      | true => rw [reach_closed hc this hL] at hi; cases hi
  intro m
  induction m with
  | zero => exact ⟨fun _ => rfl, fun h => by
      obtain rfl : i = 0 := (by omega)
      rfl⟩
  | succ m ih =>
    have step : ∀ L', slotAt all val L' s0 (m + 1) t = if L' m = true then (match all[m]? with
        | some q => if q.dst = some t then val m else slotAt all val L' s0 m t
        | none => slotAt all val L' s0 m t) else slotAt all val L' s0 m t := by
      intro L'
      simp only [slotAt]
      split
      · cases hq : all[m]? with
        | none => rfl
        | some q =>
          dsimp only
          split
          · rename_i hd; exact updO_eq hd
          · rename_i hd; exact updO_ne hd
      · rfl
    refine ⟨fun hm => ?_, fun hm => ?_⟩
    · rw [step, step, (ih.1 (by omega))]
      cases hq : all[m]? with
      | none => simp
      | some q =>
        by_cases hd : q.dst = some t
        · rw [(hw m q hq hd).1 (by omega)]
        · simp [hd]
    · by_cases he : i = m + 1
      · subst he
        rw [step, step, (ih.1 (by omega))]
        cases hq : all[m]? with
        | none => simp
        | some q =>
          by_cases hd : q.dst = some t
          · rw [(hw m q hq hd).1 (by omega)]
          · simp [hd]
      · rw [step, ← ih.2 (by omega)]
        cases hq : all[m]? with
        | none => simp
        | some q =>
          by_cases hd : q.dst = some t
          · by_cases hmi : m = i
            · subst hmi; simp [hi]
            · simp [(hw m q hq hd).2 (by omega)]
          · simp [hd]

/-- One more operation is done. -/
theorem slot_put {all : Array Oper} {val : Nat → LV} {L : Nat → Bool} {s0 : S} (hok : slotsOkL all = true) (hc : Closed all L) {i : Nat} {o : Oper} (ho : all[i]? = some o)
    (hi : L i = false) (t : Nat) :
    ∀ m, (m ≤ i → slotAt all val (fun k => L k || k == i) s0 m t = slotAt all val L s0 m t) ∧
      (i < m → slotAt all val (fun k => L k || k == i) s0 m t = updO (slotAt all val L s0 m) o.dst (val i) t) := by
  have step : ∀ L' m, slotAt all val L' s0 (m + 1) t = if L' m = true then (match all[m]? with
      | some q => if q.dst = some t then val m else slotAt all val L' s0 m t
      | none => slotAt all val L' s0 m t) else slotAt all val L' s0 m t := by
    intro L' m
    simp only [slotAt]
    split
    · cases hq : all[m]? with
      | none => rfl
      | some q =>
        dsimp only
        split
        · rename_i hd; exact updO_eq hd
        · rename_i hd; exact updO_ne hd
    · rfl
  intro m
  induction m with
  | zero => exact ⟨fun _ => rfl, fun h => absurd h (by omega)⟩
  | succ m ih =>
    refine ⟨fun hm => ?_, fun hm => ?_⟩
    · rw [step, step, ih.1 (by omega)]
      have : (m == i) = false := by simp; omega
      simp [this]
    · by_cases he : m = i
      · subst he
        rw [step]
        simp only [beq_self_eq_true, Bool.or_true, if_true, ho]
        have hself : slotAt all val L s0 (m + 1) = slotAt all val L s0 m := by simp [slotAt, hi]
        by_cases hd : o.dst = some t
        · rw [if_pos hd, updO_eq hd]
        · rw [if_neg hd, updO_ne hd, hself]; exact ih.1 (Nat.le_refl _)
      · have hbeq : (m == i) = false := by simp; exact he
        rw [step]
        simp only [hbeq, Bool.or_false]
        by_cases hd : o.dst = some t
        · rw [updO_eq hd]
          have hval : slotAt all val (fun k => L k || k == i) s0 m t = val i := by rw [ih.2 (by omega), updO_eq hd]
          split
          · rename_i hLm
            cases hq : all[m]? with
            | none => exact hval
            | some q =>
              dsimp only
              split
              · rename_i hqd
                have := slots_of hok ho hq hqd he (.inr hd)
                rw [if_neg (by omega)] at this
                rw [reach_closed hc this hLm] at hi; cases hi
              · exact hval
          · exact hval
        · rw [updO_ne hd, step]
          have hval : slotAt all val (fun k => L k || k == i) s0 m t = slotAt all val L s0 m t := by rw [ih.2 (by omega), updO_ne hd]
          rw [hval]

end Go.LM
