import Derived.Test.YtpmpdidgbbgeeaaLmR6
namespace Go.LM
variable {P : Program}

def X.to : X → Exit
  | .normal => .normal
  | .exit id => .exit id
  | .ret => .ret

theorem exec_sound {base tb tr N fuel : Nat} {C : Callee'} (hC : COk P base C) (hF : CFn P C) (hL : CLen C) (hm : P.follows .mixedOrders = true) :
    ∀ {c : Code} {s s' : S} {h h' : H} {x : X} {G : Gh} {w : World} {a : Act} {Q : Exit → Act → World → Prop}, execL P C N fuel c s h = some (x, s', h') → HR base G w h → Fresh G h tb tr →
      h'.box.length ≤ tb → h'.row.length ≤ tr → SR G w N s a → (∀ G' w' a', Step base G w h G' w' h' → SR G' w' N s' a' → Q x.to a' w') → c.wp P Q a w := by
  intro c
  induction c with
  | skip =>
    intro s s' h h' x G w a Q ho hh hf h1 h2 hs hq
    simp only [execL] at ho; cases ho
    exact wp_skip (hq G w a (.refl hh) hs)
  | region id all d =>
    intro s s' h h' x G w a Q ho hh hf h1 h2 hs hq
    cases d with
    | false =>
      simp only [execL] at ho
      cases h3 : opsL P C N all all.toList s h with
      | none => rw [h3] at ho; cases ho
      | some r =>
        rw [h3] at ho; cases ho
        refine wp_region ?_
        have := opsL_sound (k := 0) (base := base) (tb := tb) (tr := tr) (Q := Q) hC hF hL (l := all.toList) (all := all) (by intro j; simp) h3 hh hf h1 h2 hs hq
        rwa [List.range_eq_range', ← Array.length_toList]
    | true =>
      simp only [execL] at ho
      split at ho
      · rename_i hd
        split at ho
        · rename_i rows hp
          cases h3 : opsW P C N all (all.toList.zip rows) s (preFz P s all.toList h) with
          | none => rw [h3] at ho; cases ho
          | some r =>
            rw [h3] at ho; cases ho
            have hptr : ∀ t b o, s t = .ptr b o → b < h.box.length → ∃ pb, G.box b = some pb := by
              intro t b o e _
              have := hs.at_ t
              rw [e] at this
              generalize a.tmps.getD t undef = q at this
              cases this with
              | ptr hb => exact ⟨_, hb⟩
            obtain ⟨G1, hst1⟩ := preFz_step (P := P) all.toList hh hptr
            refine drawW_sound hC hF hL hm hd hp h3 hst1.hr (hf.step hst1) h1 h2 (hs.mono hst1.ext) ?_
            intro G2 w2 a2 hst2 hs2
            exact hq G2 w2 a2 (hst1.trans hst2) hs2
        · split at ho
          · rename_i h3; cases ho
            have hptr : ∀ t b o, s t = .ptr b o → b < h.box.length → ∃ pb, G.box b = some pb := by
              intro t b o e _
              have := hs.at_ t
              rw [e] at this
              generalize a.tmps.getD t undef = q at this
              cases this with
              | ptr hb => exact ⟨_, hb⟩
            obtain ⟨G1, hst1⟩ := preFz_step (P := P) all.toList hh hptr
            have g := preFz_gro (P := P) (s := s) all.toList h
            refine draw_sound hC hF hL hm hd h3 hst1.hr (hf.step hst1) h1 h2 (hs.mono hst1.ext) ?_
            intro G2 w2 a2 hst2 hs2
            rw [g.lob, g.lor] at hst2
            exact hq G2 w2 a2 (hst1.trans hst2) hs2
          · cases ho
      · cases ho
  | seq c1 c2 ih1 ih2 =>
    intro s s' h h' x G w a Q ho hh hf h1 h2 hs hq
    simp only [execL] at ho
    refine wp_seq ?_
    split at ho
    · rename_i s1 hx h3
      have hl := (execL_len hL ho).len
      refine ih1 h3 hh hf (Nat.le_trans hl.1 h1) (Nat.le_trans hl.2 h2) hs ?_
      intro G1 w1 a1 hst hs1
      exact ih2 ho hst.hr (hf.step hst) h1 h2 hs1 (fun G2 w2 a2 hst2 hs2 => hq G2 w2 a2 (hst.trans hst2) hs2)
    · rename_i r hne
      refine ih1 ho hh hf h1 h2 hs ?_
      intro G1 w1 a1 hst hs1
      cases x with
      | normal => exact absurd ho (hne _ _)
      | exit id => exact hq G1 w1 a1 hst hs1
      | ret => exact hq G1 w1 a1 hst hs1
  | cond op c1 c2 ih1 ih2 =>
    intro s s' h h' x G w a Q ho hh hf h1 h2 hs hq
    simp only [execL] at ho
    split at ho
    · rename_i hc
      have := opr_ok hc hs
      generalize hg : a.eval op = g at this
      cases this
      exact wp_cond_true hg (ih1 ho hh hf h1 h2 hs hq)
    · rename_i hc
      have := opr_ok hc hs
      generalize hg : a.eval op = g at this
      cases this
      exact wp_cond_false hg (ih2 ho hh hf h1 h2 hs hq)
    · cases ho
  | block id c ih =>
    intro s s' h h' x G w a Q ho hh hf h1 h2 hs hq
    simp only [execL] at ho
    refine wp_block ?_
    split at ho
    · rename_i id' s1 hx h3
      split at ho
      · rename_i he
        cases ho
        refine ih h3 hh hf h1 h2 hs ?_
        intro G1 w1 a1 hst hs1
        simp only [X.to, Exit.inBlock, he, if_true]
        exact hq G1 w1 a1 hst hs1
      · rename_i he
        cases ho
        refine ih h3 hh hf h1 h2 hs ?_
        intro G1 w1 a1 hst hs1
        simp only [X.to, Exit.inBlock, he, if_false]
        exact hq G1 w1 a1 hst hs1
    · rename_i r hne
      refine ih ho hh hf h1 h2 hs ?_
      intro G1 w1 a1 hst hs1
      cases x with
      | normal => exact hq G1 w1 a1 hst hs1
      | exit id => exact absurd ho (hne _ _ _)
      | ret => exact hq G1 w1 a1 hst hs1
  | loop c ih =>
    intro s s' h h' x G w a Q ho hh hf h1 h2 hs hq
    simp only [execL] at ho
    have key : ∀ (k : Nat) {s s' : S} {h h' : H} {x : X} {G : Gh} {w : World} {a : Act}, loopL (execL P C N fuel c) k s h = some (x, s', h') → HR base G w h → Fresh G h tb tr →
        h'.box.length ≤ tb → h'.row.length ≤ tr → SR G w N s a → (∀ G' w' a', Step base G w h G' w' h' → SR G' w' N s' a' → Q x.to a' w') → Code.rounds P c Q k a w := by
      intro k
      induction k with
      | zero => intro s s' h h' x G w a ho; simp only [loopL] at ho; cases ho
      | succ k ihk =>
        intro s s' h h' x G w a ho hh hf h1 h2 hs hq
        simp only [loopL] at ho
        show c.wp P (Exit.then (Code.rounds P c Q k) Q) a w
        split at ho
        · rename_i s1 hx h3
          have hl := (loopL_len (fun _ _ _ _ _ hb => execL_len hL hb) ho).len
          refine ih h3 hh hf (Nat.le_trans hl.1 h1) (Nat.le_trans hl.2 h2) hs ?_
          intro G1 w1 a1 hst hs1
          exact ihk ho hst.hr (hf.step hst) h1 h2 hs1 (fun G2 w2 a2 hst2 hs2 => hq G2 w2 a2 (hst.trans hst2) hs2)
        · rename_i r hne
          refine ih ho hh hf h1 h2 hs ?_
          intro G1 w1 a1 hst hs1
          cases x with
          | normal => exact absurd ho (hne _ _)
          | exit id => exact hq G1 w1 a1 hst hs1
          | ret => exact hq G1 w1 a1 hst hs1
    exact wp_loop_rounds fuel (key fuel ho hh hf h1 h2 hs hq)
  | exit id =>
    intro s s' h h' x G w a Q ho hh hf h1 h2 hs hq
    simp only [execL] at ho; cases ho
    exact wp_exit (hq G w a (.refl hh) hs)
  | scope c ih =>
    intro s s' h h' x G w a Q ho hh hf h1 h2 hs hq
    simp only [execL] at ho
    refine wp_scope_straight (ih ho hh hf h1 h2 hs ?_)
    intro G1 w1 a1 hst hs1
    cases x <;> exact hq G1 w1 a1 hst hs1
  | label l =>
    intro s s' h h' x G w a Q ho hh hf h1 h2 hs hq
    simp only [execL] at ho; cases ho
    exact wp_label (hq G w a (.refl hh) hs)
  | ret =>
    intro s s' h h' x G w a Q ho hh hf h1 h2 hs hq
    simp only [execL] at ho; cases ho
    exact wp_ret (hq G w a (.refl hh) hs)
  | goto l => intro s s' h h' x G w a Q ho; simp only [execL] at ho; cases ho
  | refuse m => intro s s' h h' x G w a Q ho; simp only [execL] at ho; cases ho
  | rangeFunc f p a b => intro s s' h h' x G w a Q ho; simp only [execL] at ho; cases ho

theorem res_ok {base N : Nat} {G : Gh} {w : World} {s : S} {h : H} {a : Act} (hh : HR base G w h) (hs : SR G w N s a) : ∀ {rs : List ResultVar} {vs : List LV}, resL P s h rs = some vs →
    ∃ us, (rs.mapM (fun r => match r with
      | .tmp t => pure (a.tmps.getD t undef)
      | .cell b t => do loadVar t (← asAddr (a.tmps.getD b undef)) : ResultVar → Sem Value)).run P w = .ok us w ∧ VRs G w vs us
  | [], vs, h => by simp only [resL] at h; cases h; exact ⟨[], by simp, .nil⟩
  | .tmp t :: rs, vs, h => by
    simp only [resL] at h
    cases hr : resL P s _ rs with
    | none => rw [hr] at h; cases h
    | some l =>
      rw [hr] at h; cases h
      obtain ⟨us, h1, h2⟩ := res_ok hh hs hr
      exact ⟨_ :: us, by simp only [List.mapM_cons, Sem.run_bind, Sem.run_pure, Result.andThen_ok, h1], .cons (hs.at_ t) h2⟩
  | .cell b t :: rs, vs, h => by
    simp only [resL] at h
    split at h
    · rename_i v l hl hr
      cases h
      obtain ⟨us, h1, h2⟩ := res_ok hh hs hr
      obtain ⟨u, hu, hv⟩ := load_ok (P := P) hl hh (hs.at_ b)
      refine ⟨u :: us, ?_, .cons hv h2⟩
      have hld : (do loadVar t (← asAddr (a.tmps.getD b undef)) : Sem Value).run P w = .ok u w := by
        have := hs.at_ b
        unfold loadL at hl
        generalize a.tmps.getD b undef = p at this hu ⊢
        generalize s b = sb at this hl
        cases this <;> first
          | (cases hl; done)
          | (simpa [asAddr, Instr.loadAt, Instr.sureAddr] using hu)
      simp only [List.mapM_cons, Sem.run_bind, Sem.run_pure]
      simp only [Sem.run_bind] at hld
      rw [hld]
      simp only [Result.andThen_ok, h1]
    · cases h

/-- What lies above is new; what was there is there. -/
theorem Step.above {base : Nat} {G : Gh} {w w' : World} {h : H} (hs : w.heap.size ≤ w'.heap.size) (ho : ∀ i, i < w.heap.size → w'.heap[i]? = w.heap[i]?) (hsd : Sd w w') (hr : HR base G w h) : Step base G w h G w' h := by
  have hx : Ext G w G w' := .of_heap (fun b o hp => ho _ (prot_lt hr hp)) (fun _ _ h => h) (fun _ _ h => h) (fun _ _ h => h)
  refine ⟨hsd, hx, ⟨hs, fun i hi => ho i (by have := hr.size; omega), ⟨Nat.le_refl _, Nat.le_refl _⟩, ⟨rfl, rfl⟩, fun b pb hb _ => ⟨ho _ (hr.boxAt b pb hb).2, fun _ h => h⟩,
    fun r R hR _ => ⟨hR, ho _ (hr.rowAt r R hR).2.2.1, fun _ h => h⟩, fun _ _ h => .inl h, fun _ R h => .inl ⟨R, h⟩, fun _ _ => rfl, fun _ _ => rfl⟩, ?_⟩
  refine ⟨by have := hr.size; omega, hr.lo, fun b o hp => ?_, fun b pb hb => ?_, hr.boxInj, fun r R hR => ?_, hr.rowInj, ?_, ?_⟩
  · obtain ⟨v, hv⟩ := hr.prot b o hp; exact ⟨v, (hx.cell b o hp).trans hv⟩
  · have := hr.boxAt b pb hb; exact ⟨this.1, by omega⟩
  · have := hr.rowAt r R hR; exact ⟨this.1, this.2.1, by omega, this.2.2.2⟩
  · intro b pb B h1 h2
    obtain ⟨c, ty, hc, hv, p1, p2⟩ := hr.box b pb B h1 h2
    exact ⟨c, ty, (ho _ (hr.boxAt b pb h1).2).trans hc, hv.mono hx, p1, p2⟩
  · intro r R p h1 h2
    obtain ⟨x1, x2, c, ty, fr, x3, x4⟩ := hr.row r R p h1 h2
    exact ⟨x1, x2, c, ty, fr, (ho _ (hr.rowAt r R h1).2.2.1).trans x3, x4⟩

/-- What is asked of the table of known answers. -/
def TOk (P : Program) (T : Nat → Option LV) : Prop :=
  ∀ f v, T f = some v → (∃ fn, P.funcs[f]? = some fn ∧ fn.body ≠ none ∧ fn.name ≠ "runtime.NumGoroutine") ∧
    ∃ u, (∀ G w, VR G w v u) ∧ ∀ w, Calls P f #[] w fun e w' => e = .returned u ∧ w.heap.size ≤ w'.heap.size ∧ (∀ i, i < w.heap.size → w'.heap[i]? = w.heap[i]?) ∧ Sd w w'

theorem runL_fn {T : Nat → Option LV} (hT : TOk P T) : ∀ n, CFn P (runL P T n)
  | 0, f, args, h, r, ho => by simp only [runL] at ho; cases ho
  | n + 1, f, args, h, r, ho => by
    simp only [runL] at ho
    split at ho
    · rename_i v hv; exact (hT f v hv).1
    · split at ho
      · rename_i fn hf
        split at ho
        · rename_i c hb
          split at ho
          · cases ho
          · rename_i hn; exact ⟨fn, hf, by rw [hb]; simp, hn⟩
        · cases ho
      · cases ho

theorem runL_len {T : Nat → Option LV} : ∀ n, CLen (runL P T n)
  | 0, f, args, h, v, h', ho => by simp only [runL] at ho; cases ho
  | n + 1, f, args, h, v, h', ho => by
    simp only [runL] at ho
    split at ho
    · split at ho
      · cases ho; exact .refl _
      · cases ho
    · split at ho
      · split at ho
        · split at ho
          · cases ho
          · split at ho
            · cases ho
            · rename_i h3
              rw [Option.map_eq_some_iff] at ho
              obtain ⟨vs, _, he⟩ := ho
              cases he
              exact execL_len (runL_len n) h3
            · cases ho
        · cases ho
      · cases ho

theorem tup_ok {G : Gh} {w : World} {vs : List LV} {us : List Value} (h : VRs G w vs us) : VR G w (tupL vs) (if h : us.toArray.size = 1 then us.toArray[0] else .tuple us.toArray) := by
  cases vs with
  | nil =>
    cases us with
    | nil => exact VRs.toTup h
    | cons u us => simp [VRs] at h
  | cons v vs =>
    cases us with
    | nil => simp [VRs] at h
    | cons u us =>
      cases vs with
      | nil =>
        cases us with
        | nil => simpa [tupL] using h.head
        | cons u2 us => simp [VRs] at h
      | cons v2 vs =>
        cases us with
        | nil => simp [VRs] at h
        | cons u2 us =>
          rw [dif_neg (by simp)]
          exact VRs.toTup h

/-- ████ THE MACHINE DOES WHAT THE LOGICAL ONE DOES ████ -/
theorem run_sound {T : Nat → Option LV} (hT : TOk P T) (hm : P.follows .mixedOrders = true) (base : Nat) : ∀ n, COk P base (runL P T n)
  | 0, f, args, h, v, h', ho => by simp only [runL] at ho; cases ho
  | n + 1, f, args, h, v, h', ho => by
    intro G w args' tb tr hh hf h1 h2 hv
    simp only [runL] at ho
    split at ho
    · rename_i v0 hv0
      split at ho
      case isFalse => cases ho
      rename_i he
      cases ho
      obtain rfl : args = [] := by simpa using he
      obtain ⟨_, u, hu, hc⟩ := hT f v hv0
      have : args' = #[] := by
        have := hv.1; simp at this; exact Array.eq_empty_of_size_eq_zero this.symm
      subst this
      refine (hc w).mono ?_
      rintro e w' ⟨rfl, e1, e2, e3⟩
      exact ⟨G, u, rfl, hu _ _, .above e1 e2 e3 hh⟩
    · split at ho
      · rename_i fn hfn
        split at ho
        · rename_i c hb
          split at ho
          · cases ho
          · split at ho
            · cases ho
            · rename_i x s1 hx hne h3
              rw [Option.map_eq_some_iff] at ho
              obtain ⟨vs, hres, he⟩ := ho
              cases he
              refine calls_of_wp hfn hb ?_
              have hlen : args.length = args'.size := by simpa using hv.1
              have hs0 : SR G w (args.length + (fn.ntmps - args.length)) (startL args) { tmps := args' ++ Array.replicate (fn.ntmps - args'.size) undef, defers := [] } := by
                refine ⟨by simp [hlen], rfl, fun t => ?_⟩
                unfold startL
                cases ht : args[t]? with
                | none => exact .undef _
                | some l =>
                  obtain ⟨u, hu, hvu⟩ := hv.get ht
                  have hlt : t < args'.size := by have := (List.getElem?_eq_some_iff.1 ht).1; omega
                  have : (args' ++ Array.replicate (fn.ntmps - args'.size) undef).getD t undef = u := by
                    rw [Array.getD_eq_getD_getElem?, Array.getElem?_append_left hlt]
                    have : args'[t]? = some u := by simpa using hu
                    rw [this]; rfl
                  rw [this]; exact hvu
              refine exec_sound (run_sound hT hm base n) (runL_fn hT n) (runL_len n) hm h3 hh hf h1 h2 hs0 ?_
              intro G' w' a' hst hs1
              obtain ⟨us, hu1, hu2⟩ := res_ok (P := P) hst.hr hs1 hres
              have hpost : a'.defers = [] ∧ ∃ v', (results fn a'.tmps).run P w' = .ok v' w' ∧ ∃ G' v'', Ending.returned v' = .returned v'' ∧ VR G' w' (tupL vs) v'' ∧ Step base G w h G' w' h' := by
                refine ⟨hs1.defers, _, ?_, G', _, rfl, tup_ok hu2, hst⟩
                have : (results fn a'.tmps).run P w' = ((fn.results.mapM (fun r => match r with
                    | .tmp t => pure (a'.tmps.getD t undef)
                    | .cell b t => do loadVar t (← asAddr (a'.tmps.getD b undef)) : ResultVar → Sem Value)).run P w').andThen fun vs w' => .ok (if h : vs.size = 1 then vs[0] else .tuple vs) w' := by
                  simp only [results, Sem.run_bind, Sem.run_pure]
                  rfl
                rw [this, Array.mapM_eq_mapM_toList, Sem.run_map, hu1]
                rfl
              cases x with
              | normal => exact hpost
              | ret => exact hpost
              | exit id => exact (hne id rfl).elim
            · cases ho
        · cases ho
      · cases ho

end Go.LM
