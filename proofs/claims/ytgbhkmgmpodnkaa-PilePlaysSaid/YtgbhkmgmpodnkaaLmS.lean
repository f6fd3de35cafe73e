import Derived.Test.YtgbhkmgmpodnkaaLmR5
namespace Go.LM
variable {P : Program}

def X.to : X → Exit
  | .normal => .normal
  | .exit id => .exit id
  | .ret => .ret

theorem exec_sound {base tb tr N fuel : Nat} {C : Callee'} (hC : COk P base C) (hF : CFn P C) (hL : CLen C) (hm : P.follows .mixedOrders = true) :
    ∀ {c : Code} {s s' : S} {h h' : H} {x : X} {G : Gh} {w : World} {a : Act} {Q : Exit → Act → World → Prop}, execL P C N fuel c s h = some (x, s', h') → HR base G w h → Fresh G h tb tr →
      h'.box.length ≤ tb → h'.row.length ≤ tr → SR G w N s a → (∀ G' w' a', Step base G w h G' w' h' → SR G' w' N s' a' → Q x.to a' w') → c.wp P Q a w := by
  intro c
  induction c with
  | skip =>
    intro s s' h h' x G w a Q ho hh hf h1 h2 hs hq
    simp only [execL] at ho; cases ho
    exact wp_skip (hq G w a (.refl hh) hs)
  | region id all d =>
    intro s s' h h' x G w a Q ho hh hf h1 h2 hs hq
    cases d with
    | false =>
      simp only [execL] at ho
      cases h3 : opsL P C N all all.toList s h with
      | none => rw [h3] at ho; cases ho
      | some r =>
        rw [h3] at ho; cases ho
        refine wp_region ?_
        have := opsL_sound (k := 0) (base := base) (tb := tb) (tr := tr) (Q := Q) hC hF hL (l := all.toList) (all := all) (by intro j; simp) h3 hh hf h1 h2 hs hq
        rwa [List.range_eq_range', ← Array.length_toList]
    | true =>
      simp only [execL] at ho
      split at ho
      · rename_i hd
        split at ho
        · rename_i rows hp
          cases h3 : opsW P C N all (all.toList.zip rows) s (preFz P s all.toList h) with
          | none => rw [h3] at ho; cases ho
          | some r =>
            rw [h3] at ho; cases ho
            have hptr : ∀ t b o, s t = .ptr b o → b < h.box.length → ∃ pb, G.box b = some pb := by
              intro t b o e _
              have := hs.at_ t
              rw [e] at this
              generalize a.tmps.getD t undef = q at this
              cases this with
              | ptr hb => exact ⟨_, hb⟩
            obtain ⟨G1, hst1⟩ := preFz_step (P := P) all.toList hh hptr
            refine drawW_sound hC hF hL hm hd hp h3 hst1.hr (hf.step hst1) h1 h2 (hs.mono hst1.ext) ?_
            intro G2 w2 a2 hst2 hs2
            exact hq G2 w2 a2 (hst1.trans hst2) hs2
        · split at ho
          · rename_i h3; cases ho
            have hptr : ∀ t b o, s t = .ptr b o → b < h.box.length → ∃ pb, G.box b = some pb := by
              intro t b o e _
              have := hs.at_ t
              rw [e] at this
              generalize a.tmps.getD t undef = q at this
              cases this with
              | ptr hb => exact ⟨_, hb⟩
            obtain ⟨G1, hst1⟩ := preFz_step (P := P) all.toList hh hptr
            have g := preFz_gro (P := P) (s := s) all.toList h
            refine draw_sound hC hF hL hm hd h3 hst1.hr (hf.step hst1) h1 h2 (hs.mono hst1.ext) ?_
            intro G2 w2 a2 hst2 hs2
            rw [g.lob, g.lor] at hst2
            exact hq G2 w2 a2 (hst1.trans hst2) hs2
          · cases ho
      · cases ho
  | seq c1 c2 ih1 ih2 =>
    intro s s' h h' x G w a Q ho hh hf h1 h2 hs hq
    simp only [execL] at ho
    refine wp_seq ?_
    split at ho
    · rename_i s1 hx h3
      have hl := (execL_len hL ho).len
      refine ih1 h3 hh hf (Nat.le_trans hl.1 h1) (Nat.le_trans hl.2 h2) hs ?_
      intro G1 w1 a1 hst hs1
      exact ih2 ho hst.hr (hf.step hst) h1 h2 hs1 (fun G2 w2 a2 hst2 hs2 => hq G2 w2 a2 (hst.trans hst2) hs2)
    · rename_i r hne
      refine ih1 ho hh hf h1 h2 hs ?_
      intro G1 w1 a1 hst hs1
      cases x with
      | normal => exact absurd ho (hne _ _)
      | exit id => exact hq G1 w1 a1 hst hs1
      | ret => exact hq G1 w1 a1 hst hs1
  | cond op c1 c2 ih1 ih2 =>
    intro s s' h h' x G w a Q ho hh hf h1 h2 hs hq
    simp only [execL] at ho
    split at ho
    · rename_i hc
      have := opr_ok hc hs
      generalize hg : a.eval op = g at this
      cases this
      exact wp_cond_true hg (ih1 ho hh hf h1 h2 hs hq)
    · rename_i hc
      have := opr_ok hc hs
      generalize hg : a.eval op = g at this
      cases this
      exact wp_cond_false hg (ih2 ho hh hf h1 h2 hs hq)
    · cases ho
  | block id c ih =>
    intro s s' h h' x G w a Q ho hh hf h1 h2 hs hq
    simp only [execL] at ho
    refine wp_block ?_
    split at ho
    · rename_i id' s1 hx h3
      split at ho
      · rename_i he
        cases ho
        refine ih h3 hh hf h1 h2 hs ?_
        intro G1 w1 a1 hst hs1
        simp only [X.to, Exit.inBlock, he, if_true]
        exact hq G1 w1 a1 hst hs1
      · rename_i he
        cases ho
        refine ih h3 hh hf h1 h2 hs ?_
        intro G1 w1 a1 hst hs1
        simp only [X.to, Exit.inBlock, he, if_false]
        exact hq G1 w1 a1 hst hs1
    · rename_i r hne
      refine ih ho hh hf h1 h2 hs ?_
      intro G1 w1 a1 hst hs1
      cases x with
      | normal => exact hq G1 w1 a1 hst hs1
      | exit id => exact absurd ho (hne _ _ _)
      | ret => exact hq G1 w1 a1 hst hs1
  | loop c ih =>
    intro s s' h h' x G w a Q ho hh hf h1 h2 hs hq
    simp only [execL] at ho
    have key : ∀ (k : Nat) {s s' : S} {h h' : H} {x : X} {G : Gh} {w : World} {a : Act}, loopL (execL P C N fuel c) k s h = some (x, s', h') → HR base G w h → Fresh G h tb tr →
        h'.box.length ≤ tb → h'.row.length ≤ tr → SR G w N s a → (∀ G' w' a', Step base G w h G' w' h' → SR G' w' N s' a' → Q x.to a' w') → Code.rounds P c Q k a w := by
      intro k
      induction k with
      | zero => intro s s' h h' x G w a ho; simp only [loopL] at ho; cases ho
      | succ k ihk =>
        intro s s' h h' x G w a ho hh hf h1 h2 hs hq
        simp only [loopL] at ho
        show c.wp P (Exit.then (Code.rounds P c Q k) Q) a w
        split at ho
        · rename_i s1 hx h3
          have hl := (loopL_len (fun _ _ _ _ _ hb => execL_len hL hb) ho).len
          refine ih h3 hh hf (Nat.le_trans hl.1 h1) (Nat.le_trans hl.2 h2) hs ?_
          intro G1 w1 a1 hst hs1
          exact ihk ho hst.hr (hf.step hst) h1 h2 hs1 (fun G2 w2 a2 hst2 hs2 => hq G2 w2 a2 (hst.trans hst2) hs2)
        · rename_i r hne
          refine ih ho hh hf h1 h2 hs ?_
          intro G1 w1 a1 hst hs1
          cases x with
          | normal => exact absurd ho (hne _ _)
          | exit id => exact hq G1 w1 a1 hst hs1
          | ret => exact hq G1 w1 a1 hst hs1
    exact wp_loop_rounds fuel (key fuel ho hh hf h1 h2 hs hq)
  | exit id =>
    intro s s' h h' x G w a Q ho hh hf h1 h2 hs hq
    simp only [execL] at ho; cases ho
    exact wp_exit (hq G w a (.refl hh) hs)
  | scope c ih =>
    intro s s' h h' x G w a Q ho hh hf h1 h2 hs hq
    simp only [execL] at ho
    refine wp_scope_straight (ih ho hh hf h1 h2 hs ?_)
    intro G1 w1 a1 hst hs1
    cases x <;> exact hq G1 w1 a1 hst hs1
  | label l =>
    intro s s' h h' x G w a Q ho hh hf h1 h2 hs hq
    simp only [execL] at ho; cases ho
    exact wp_label (hq G w a (.refl hh) hs)
  | ret =>
    intro s s' h h' x G w a Q ho hh hf h1 h2 hs hq
    simp only [execL] at ho; cases ho
    exact wp_ret (hq G w a (.refl hh) hs)
  | goto l => intro s s' h h' x G w a Q ho; simp only [execL] at ho; cases ho
  | refuse m => intro s s' h h' x G w a Q ho; simp only [execL] at ho; cases ho
  | rangeFunc f p a b => intro s s' h h' x G w a Q ho; simp only [execL] at ho; cases ho

theorem res_ok {base N : Nat} {G : Gh} {w : World} {s : S} {h : H} {a : Act} (hh : HR base G w h) (hs : SR G w N s a) : ∀ {rs : List ResultVar} {vs : List LV}, resL P s h rs = some vs →
    ∃ us, (rs.mapM (fun r => match r with
      | .tmp t => pure (a.tmps.getD t undef)
      | .cell b t => do loadVar t (← asAddr (a.tmps.getD b undef)) : ResultVar → Sem Value)).run P w = .ok us w ∧ VRs G w vs us
  | [], vs, h => by simp only [resL] at h; cases h; exact ⟨[], by simp, .nil⟩
  | .tmp t :: rs, vs, h => by
    simp only [resL] at h
    cases hr : resL P s _ rs with
    | none => rw [hr] at h; cases h
    | some l =>
      rw [hr] at h; cases h
      obtain ⟨us, h1, h2⟩ := res_ok hh hs hr
      exact ⟨_ :: us, by simp only [List.mapM_cons, Sem.run_bind, Sem.run_pure, Result.andThen_ok, h1], .cons (hs.at_ t) h2⟩
  | .cell b t :: rs, vs, h => by
    simp only [resL] at h
    split at h
    · rename_i v l hl hr
      cases h
      obtain ⟨us, h1, h2⟩ := res_ok hh hs hr
      obtain ⟨u, hu, hv⟩ := load_ok (P := P) hl hh (hs.at_ b)
      refine ⟨u :: us, ?_, .cons hv h2⟩
      have hld : (do loadVar t (← asAddr (a.tmps.getD b undef)) : Sem Value).run P w = .ok u w := by
        have := hs.at_ b
        unfold loadL at hl
        generalize a.tmps.getD b undef = p at this hu ⊢
        generalize s b = sb at this hl
        cases this <;> first
          | (cases hl; done)
          | (simpa [asAddr, Instr.loadAt, Instr.sureAddr] using hu)
      simp only [List.mapM_cons, Sem.run_bind, Sem.run_pure]
      simp only [Sem.run_bind] at hld
      rw [hld]
      simp only [Result.andThen_ok, h1]
    · cases h

/-- What lies above is new; what was there is there. -/
theorem Step.above {base : Nat} {G : Gh} {w w' : World} {h : H} (hs : w.heap.size ≤ w'.heap.size) (ho : ∀ i, i < w.heap.size → w'.heap[i]? = w.heap[i]?) (hsd : Sd w w') (hr : HR base G w h) : Step base G w h G w' h := by
  have hx : Ext G w G w' := .of_heap (fun b o hp => ho _ (prot_lt hr hp)) (fun _ _ h => h) (fun _ _ h => h) (fun _ _ h => h) (fun _ h => h) (fun _ _ _ h => h)
  refine ⟨hsd, hx, ⟨hs, fun i hi => ho i (by have := hr.size; omega), ⟨Nat.le_refl _, Nat.le_refl _⟩, ⟨rfl, rfl⟩, fun b pb hb _ => ⟨ho _ (hr.boxAt b pb hb).2, fun _ h => h⟩,
    fun r R hR _ => ⟨hR, ho _ (hr.rowAt r R hR).2.2.1, fun _ h => h⟩, fun _ _ h => .inl h, fun _ R h => .inl ⟨R, h⟩, fun _ _ => rfl, fun _ _ => rfl,
    fun m R h _ => ⟨h, ho _ (hr.mar.fix.at_ m R h).2.2.1⟩, fun _ _ h => .inl h, fun _ h => .inl h⟩, ?_⟩
  refine ⟨by have := hr.size; omega, hr.lo, fun b o hp => ?_, fun b pb hb => ?_, hr.boxInj, fun r R hR => ?_, hr.rowInj, ?_, ?_,
    hr.mar.step hx rfl rfl hs (fun m R h => ho _ (hr.mar.fix.at_ m R h).2.2.1) hr.mar.fix.nobox (fun k R b h => (hr.mar.fix.at_ k R h).2.2.2.1 b) (fun k R r Q h => (hr.mar.fix.at_ k R h).2.2.2.2.1 r Q) (fun k R i h => (hr.mar.fix.at_ k R h).2.2.2.2.2 i) (fun _ _ _ h => h)⟩
  · obtain ⟨v, hv⟩ := hr.prot b o hp; exact ⟨v, (hx.cell b o hp).trans hv⟩
  · have := hr.boxAt b pb hb; exact ⟨this.1, by omega⟩
  · have := hr.rowAt r R hR; exact ⟨this.1, this.2.1, by omega, this.2.2.2⟩
  · intro b pb B h1 h2
    obtain ⟨c, ty, hc, hv, p1, p2⟩ := hr.box b pb B h1 h2
    exact ⟨c, ty, (ho _ (hr.boxAt b pb h1).2).trans hc, hv.mono hx, p1, p2⟩
  · intro r R p h1 h2
    obtain ⟨x1, x2, c, ty, fr, x3, x4⟩ := hr.row r R p h1 h2
    exact ⟨x1, x2, c, ty, fr, (ho _ (hr.rowAt r R h1).2.2.1).trans x3, x4⟩

/-- What is asked of the table of known answers. -/
def TOk (P : Program) (T : Nat → Option LV) : Prop :=
  ∀ f v, T f = some v → (∃ fn, P.funcs[f]? = some fn ∧ fn.body ≠ none ∧ fn.name ≠ "runtime.NumGoroutine") ∧
    ∃ u, (∀ G w, VR G w v u) ∧ ∀ w, Calls P f #[] w fun e w' => e = .returned u ∧ w.heap.size ≤ w'.heap.size ∧ (∀ i, i < w.heap.size → w'.heap[i]? = w.heap[i]?) ∧ Sd w w'

theorem runL_fn {T : Nat → Option LV} (hT : TOk P T) : ∀ n, CFn P (runL P T n)
  | 0, f, args, h, r, ho => by simp only [runL] at ho; cases ho
  | n + 1, f, args, h, r, ho => by
    simp only [runL] at ho
    split at ho
    · rename_i v hv; exact (hT f v hv).1
    · split at ho
      · rename_i fn hf
        split at ho
        · rename_i c hb
          split at ho
          · cases ho
          · rename_i hn; exact ⟨fn, hf, by rw [hb]; simp, hn⟩
        · cases ho
      · cases ho

theorem runL_len {T : Nat → Option LV} : ∀ n, CLen (runL P T n)
  | 0, f, args, h, v, h', ho => by simp only [runL] at ho; cases ho
  | n + 1, f, args, h, v, h', ho => by
    simp only [runL] at ho
    split at ho
    · split at ho
      · cases ho; exact .refl _
      · cases ho
    · split at ho
      · split at ho
        · split at ho
          · cases ho
          · split at ho
            · cases ho
            · rename_i h3
              rw [Option.map_eq_some_iff] at ho
              obtain ⟨vs, _, he⟩ := ho
              cases he
              exact execL_len (runL_len n) h3
            · cases ho
        · cases ho
      · cases ho

theorem tup_ok {G : Gh} {w : World} {vs : List LV} {us : List Value} (h : VRs G w vs us) : VR G w (tupL vs) (if h : us.toArray.size = 1 then us.toArray[0] else .tuple us.toArray) := by
  cases vs with
  | nil =>
    cases us with
    | nil => exact VRs.toTup h
    | cons u us => simp [VRs] at h
  | cons v vs =>
    cases us with
    | nil => simp [VRs] at h
    | cons u us =>
      cases vs with
      | nil =>
        cases us with
        | nil => simpa [tupL] using h.head
        | cons u2 us => simp [VRs] at h
      | cons v2 vs =>
        cases us with
        | nil => simp [VRs] at h
        | cons u2 us =>
          rw [dif_neg (by simp)]
          exact VRs.toTup h

/-- ████ THE MACHINE DOES WHAT THE LOGICAL ONE DOES ████ -/
theorem run_sound {T : Nat → Option LV} (hT : TOk P T) (hm : P.follows .mixedOrders = true) (base : Nat) : ∀ n, COk P base (runL P T n)
  | 0, f, args, h, v, h', ho => by simp only [runL] at ho; cases ho
  | n + 1, f, args, h, v, h', ho => by
    intro G w args' tb tr hh hf h1 h2 hv
    simp only [runL] at ho
    split at ho
    · rename_i v0 hv0
      split at ho
      case isFalse => cases ho
      rename_i he
      cases ho
      obtain rfl : args = [] := by simpa using he
      obtain ⟨_, u, hu, hc⟩ := hT f v hv0
      have : args' = #[] := by
        have := hv.1; simp at this; exact Array.eq_empty_of_size_eq_zero this.symm
      subst this
      refine (hc w).mono ?_
      rintro e w' ⟨rfl, e1, e2, e3⟩
      exact ⟨G, u, rfl, hu _ _, .above e1 e2 e3 hh⟩
    · split at ho
      · rename_i fn hfn
        split at ho
        · rename_i c hb
          split at ho
          · cases ho
          · split at ho
            · cases ho
            · rename_i x s1 hx hne h3
              rw [Option.map_eq_some_iff] at ho
              obtain ⟨vs, hres, he⟩ := ho
              cases he
              refine calls_of_wp hfn hb ?_
              have hlen : args.length = args'.size := by simpa using hv.1
              have hs0 : SR G w (args.length + (fn.ntmps - args.length)) (startL args) { tmps := args' ++ Array.replicate (fn.ntmps - args'.size) undef, defers := [] } := by
                refine ⟨by simp [hlen], rfl, fun t => ?_⟩
                unfold startL
                cases ht : args[t]? with
                | none => exact .undef _
                | some l =>
                  obtain ⟨u, hu, hvu⟩ := hv.get ht
                  have hlt : t < args'.size := by have := (List.getElem?_eq_some_iff.1 ht).1; omega
                  have : (args' ++ Array.replicate (fn.ntmps - args'.size) undef).getD t undef = u := by
                    rw [Array.getD_eq_getD_getElem?, Array.getElem?_append_left hlt]
                    have : args'[t]? = some u := by simpa using hu
                    rw [this]; rfl
                  rw [this]; exact hvu
              refine exec_sound (run_sound hT hm base n) (runL_fn hT n) (runL_len n) hm h3 hh hf h1 h2 hs0 ?_
              intro G' w' a' hst hs1
              obtain ⟨us, hu1, hu2⟩ := res_ok (P := P) hst.hr hs1 hres
              have hpost : a'.defers = [] ∧ ∃ v', (results fn a'.tmps).run P w' = .ok v' w' ∧ ∃ G' v'', Ending.returned v' = .returned v'' ∧ VR G' w' (tupL vs) v'' ∧ Step base G w h G' w' h' := by
                refine ⟨hs1.defers, _, ?_, G', _, rfl, tup_ok hu2, hst⟩
                have : (results fn a'.tmps).run P w' = ((fn.results.mapM (fun r => match r with
                    | .tmp t => pure (a'.tmps.getD t undef)
                    | .cell b t => do loadVar t (← asAddr (a'.tmps.getD b undef)) : ResultVar → Sem Value)).run P w').andThen fun vs w' => .ok (if h : vs.size = 1 then vs[0] else .tuple vs) w' := by
                  simp only [results, Sem.run_bind, Sem.run_pure]
                  rfl
                rw [this, Array.mapM_eq_mapM_toList, Sem.run_map, hu1]
                rfl
              cases x with
              | normal => exact hpost
              | ret => exact hpost
              | exit id => exact (hne id rfl).elim
            · cases ho
        · cases ho
      · cases ho

end Go.LM

namespace Go.LM
variable {P : Program}

/-! ### the limit of what runs for longer and longer -/
noncomputable def lim {α : Type} (f : Nat → Option α) : Option α :=
  open Classical in if h : ∃ r n0, ∀ n, n0 ≤ n → f n = some r then some h.choose else none
theorem lim_some {α : Type} {f : Nat → Option α} {r : α} (n0 : Nat) (h : ∀ n, n0 ≤ n → f n = some r) : lim f = some r := by
  have hx : ∃ r n0, ∀ n, n0 ≤ n → f n = some r := ⟨r, n0, h⟩
  unfold lim
  rw [dif_pos hx]
  obtain ⟨n1, h1⟩ := hx.choose_spec
  have a := h (max n0 n1) (Nat.le_max_left _ _)
  rw [h1 _ (Nat.le_max_right _ _)] at a
  exact a
theorem of_lim {α : Type} {f : Nat → Option α} {r : α} (h : lim f = some r) : ∃ n0, ∀ n, n0 ≤ n → f n = some r := by
  unfold lim at h
  split at h
  · rename_i hx
    cases h
    exact hx.choose_spec
  · cases h

/-- A call of the logical machine, however deep. -/
noncomputable def runI (P : Program) (T : Nat → Option LV) : Callee' := fun f args h => lim fun n => runL P T n f args h

/-! ### plainer code -/
structure RO where
  dst : Option Nat
  g : Option (Nat × Bool)
  op : Op

/-- An operation of a region that draws its order and writes: what it may do, and what must not be what it writes. -/
structure RW where
  o : RO
  c : Cl
  D : List Nat

inductive RC
  | skip
  | ops (l : List RO)
  | draw (l : List RO)
  | drawF (l : List RO)
  | drawW (l : List RW)
  | drawWF (l : List RW)
  | seq (a b : RC)
  | cond (c : Operand) (a b : RC)
  | block (id : Nat) (c : RC)
  | loop (c : RC)
  | exit (id : Nat)
  | ret

def resG (all : Array Oper) (o : Oper) : Option (Option (Nat × Bool)) :=
  match o.guard with
  | none => some none
  | some (j, w) => match (all[j]?).bind (·.dst) with
    | some d => some (some (d, w))
    | none => none
def resO (N : Nat) (all : Array Oper) : List Oper → Option (List RO)
  | [] => some []
  | o :: os => if okDst N o.dst = true then match resG all o, resO N all os with
    | some g, some l => some (⟨o.dst, g, o.op⟩ :: l)
    | _, _ => none else none
def noSl (P : Program) : List RO → Bool
  | [] => true
  | o :: os => match o.op with
    | .slice t _ _ _ _ => match P.underlying t with
      | some (.array _ _) => false
      | _ => noSl P os
    | _ => noSl P os
def mkDraw (P : Program) (l : List RO) : RC := if noSl P l = true then .draw l else .drawF l
def zipW : List RO → List (Cl × List Nat) → List RW
  | o :: os, r :: rs => ⟨o, r.1, r.2⟩ :: zipW os rs
  | _, _ => []
def mkDrawW (P : Program) (l : List RW) : RC := if noSl P (l.map (·.o)) = true then .drawW l else .drawWF l
def resC (P : Program) (N : Nat) : Code → Option RC
  | .skip => some .skip
  | .region _ all false => (resO N all all.toList).map .ops
  | .region _ all true => if drawOkL all = true then match planW P all.toList with
      | some rows => (resO N all all.toList).map fun l => mkDrawW P (zipW l rows)
      | none => (resO N all all.toList).map (mkDraw P)
    else none
  | .seq a b => match resC P N a, resC P N b with
    | some a, some b => some (.seq a b)
    | _, _ => none
  | .cond c a b => match resC P N a, resC P N b with
    | some a, some b => some (.cond c a b)
    | _, _ => none
  | .block id c => (resC P N c).map (.block id)
  | .loop c => (resC P N c).map .loop
  | .exit id => some (.exit id)
  | .scope c => resC P N c
  | .label _ => some .skip
  | .ret => some .ret
  | _ => none

structure RF where
  nargs : Nat
  rc : RC
  res : List ResultVar

/-- A function of the program, plainer. -/
def resF (P : Program) (f nargs : Nat) : Option RF :=
  match P.funcs[f]? with
  | some fn => match fn.body with
    | some c => if fn.name = "runtime.NumGoroutine" then none else (resC P (nargs + (fn.ntmps - nargs)) c).map fun rc => ⟨nargs, rc, fn.results.toList⟩
    | none => none
  | none => none

/-! ### ... and what it does -/
def gOk (s : S) : Option (Nat × Bool) → Option Bool
  | none => some true
  | some (t, w) => match s t with
    | .bool b => some (b == w)
    | .tup [] => some false
    | _ => none

def H.up (h : H) : H := { h with lob := h.box.length, lor := h.row.length }
def H.down (h h' : H) : H := { h' with lob := h.lob, lor := h.lor }

def opsR (P : Program) (C : Callee') : List RO → S → H → Option (S × H)
  | [], s, h => some (s, h)
  | o :: os, s, h => match gOk s o.g with
    | some true => match opL P C s o.op h with
      | some (v, h') => opsR P C os (updO s o.dst v) h'
      | none => none
    | some false => opsR P C os (updO s o.dst (.tup [])) h
    | none => none
def opsRD (P : Program) (C : Callee') : List RO → S → H → Option (S × H)
  | [], s, h => some (s, h)
  | o :: os, s, h => match gOk s o.g with
    | some true => match opL P C s o.op h.up with
      | some (v, h') => opsRD P C os (updO s o.dst v) h'
      | none => none
    | some false => opsRD P C os (updO s o.dst (.tup [])) h
    | none => none
def opsRW (P : Program) (C : Callee') : List RW → S → H → Option (S × H)
  | [], s, h => some (s, h)
  | o :: os, s, h => match gOk s o.o.g with
    | some true => match opW P C o.c o.D s o.o.op h with
      | some (v, h') => opsRW P C os (updO s o.o.dst v) h'
      | none => none
    | some false => opsRW P C os (updO s o.o.dst (.tup [])) h
    | none => none
def fzR (P : Program) (s : S) : List RO → H → H
  | [], h => h
  | o :: os, h => match o.op with
    | .slice t (.tmp x) _ _ _ => match P.underlying t, s x with
      | some (.array _ _), .ptr b _ => match h.box[b]? with
        | some B => if h.lob ≤ b then fzR P s os { h with box := h.box.set b ⟨true, B.cells⟩ } else fzR P s os h
        | none => fzR P s os h
      | _, _ => fzR P s os h
    | _ => fzR P s os h

noncomputable def loopI (f : S → H → Option (X × S × H)) (s : S) (h : H) : Option (X × S × H) :=
  open Classical in if hx : ∃ r k, loopL f k s h = some r then some hx.choose else none

noncomputable def ex (P : Program) (T : Nat → Option LV) : RC → S → H → Option (X × S × H)
  | .skip, s, h => some (.normal, s, h)
  | .ops l, s, h => (opsR P (runI P T) l s h).map fun r => (.normal, r.1, r.2)
  | .draw l, s, h => (opsRD P (runI P T) l s h).map fun r => (.normal, r.1, h.down r.2)
  | .drawF l, s, h => (opsRD P (runI P T) l s (fzR P s l h)).map fun r => (.normal, r.1, h.down r.2)
  | .drawW l, s, h => (opsRW P (runI P T) l s h).map fun r => (.normal, r.1, r.2)
  | .drawWF l, s, h => (opsRW P (runI P T) l s (fzR P s (l.map (·.o)) h)).map fun r => (.normal, r.1, r.2)
  | .seq a b, s, h => match ex P T a s h with
    | some (.normal, s', h') => ex P T b s' h'
    | r => r
  | .cond c a b, s, h => match opr s c with
    | some (.bool true) => ex P T a s h
    | some (.bool false) => ex P T b s h
    | _ => none
  | .block id c, s, h => match ex P T c s h with
    | some (.exit id', s', h') => if id' = id then some (.normal, s', h') else some (.exit id', s', h')
    | r => r
  | .loop c, s, h => loopI (ex P T c) s h
  | .exit id, s, h => some (.exit id, s, h)
  | .ret, s, h => some (.ret, s, h)

noncomputable def bodyI (P : Program) (T : Nat → Option LV) (F : RF) (args : List LV) (h : H) : Option (LV × H) :=
  match ex P T F.rc (startL args) h with
  | some (.exit _, _, _) => none
  | some (_, s, h') => (resL P s h' F.res).map fun vs => (tupL vs, h')
  | none => none

/-! ### it is the same -/
theorem resO_wants {all : Array Oper} {o : Oper} {g : Option (Nat × Bool)} (s : S) (h : resG all o = some g) : wantL all s o = gOk s g := by
  unfold resG at h
  unfold wantL
  split at h
  · rename_i hg; cases h; rw [hg]; rfl
  · rename_i j w hg
    split at h
    · rename_i d hd
      cases h
      rw [hg]; dsimp only; rw [hd]; rfl
    · cases h

theorem callL_lim {T : Nat → Option LV} {s : S} {c : Call} {h : H} {r : LV × H} (ho : callL P (runI P T) s c h = some r) : ∃ n0, ∀ n, n0 ≤ n → callL P (runL P T n) s c h = some r := by
  obtain ⟨callee, args, ats⟩ := c
  cases callee with
  | builtin b => cases b <;> exact ⟨0, fun n _ => ho⟩
  | value f =>
    simp only [callL] at ho ⊢
    split at ho
    · rename_i hf hargs
      obtain ⟨n0, hn⟩ := of_lim ho
      exact ⟨n0, hn⟩
    · cases ho
  | invoke rr name =>
    simp only [callL] at ho ⊢
    split at ho
    · split at ho
      · obtain ⟨n0, hn⟩ := of_lim ho
        exact ⟨n0, hn⟩
      · cases ho
    · cases ho
theorem opL_lim {T : Nat → Option LV} {s : S} {o : Op} {h : H} {r : LV × H} (ho : opL P (runI P T) s o h = some r) : ∃ n0, ∀ n, n0 ≤ n → opL P (runL P T n) s o h = some r := by
  cases o
  case call c => exact callL_lim ho
  case makeFunc fn a b => cases fn <;> exact ⟨0, fun n _ => ho⟩
  case slice t x lo hi mx => cases mx <;> exact ⟨0, fun n _ => ho⟩
  all_goals exact ⟨0, fun n _ => ho⟩

theorem opsR_lim {T : Nat → Option LV} {N : Nat} {all : Array Oper} : ∀ {l : List Oper} {rl : List RO} {s : S} {h : H} {r : S × H}, resO N all l = some rl → opsR P (runI P T) rl s h = some r →
    ∃ n0, ∀ n, n0 ≤ n → opsL P (runL P T n) N all l s h = some r
  | [], rl, s, h, r, hr, ho => by
    simp only [resO] at hr; cases hr
    exact ⟨0, fun n _ => by simpa only [opsR, opsL] using ho⟩
  | o :: os, rl, s, h, r, hr, ho => by
    simp only [resO] at hr
    split at hr
    · rename_i hd
      split at hr
      · rename_i g l hg hl
        cases hr
        simp only [opsR] at ho
        simp only [opsL, if_pos hd, resO_wants s hg]
        cases hk : gOk s g with
        | none => rw [hk] at ho; cases ho
        | some b =>
          rw [hk] at ho
          cases b with
          | true =>
            dsimp only at ho ⊢
            split at ho
            · rename_i v h' hop
              obtain ⟨n1, h1⟩ := opL_lim hop
              obtain ⟨n2, h2⟩ := opsR_lim hl ho
              exact ⟨max n1 n2, fun n hn => by rw [h1 n (by omega)]; exact h2 n (by omega)⟩
            · cases ho
          | false => exact opsR_lim hl ho
      · cases hr
    · cases hr

theorem opsRD_lim {T : Nat → Option LV} {N : Nat} {all : Array Oper} : ∀ {l : List Oper} {rl : List RO} {s : S} {h : H} {r : S × H}, resO N all l = some rl → opsRD P (runI P T) rl s h = some r →
    ∃ n0, ∀ n, n0 ≤ n → opsD P (runL P T n) N all l s h = some r
  | [], rl, s, h, r, hr, ho => by
    simp only [resO] at hr; cases hr
    exact ⟨0, fun n _ => by simpa only [opsRD, opsD] using ho⟩
  | o :: os, rl, s, h, r, hr, ho => by
    simp only [resO] at hr
    split at hr
    · rename_i hd
      split at hr
      · rename_i g l hg hl
        cases hr
        simp only [opsRD] at ho
        simp only [opsD, if_pos hd, resO_wants s hg]
        cases hk : gOk s g with
        | none => rw [hk] at ho; cases ho
        | some b =>
          rw [hk] at ho
          cases b with
          | true =>
            dsimp only at ho ⊢
            split at ho
            · rename_i v h' hop
              obtain ⟨n1, h1⟩ := opL_lim hop
              obtain ⟨n2, h2⟩ := opsRD_lim hl ho
              exact ⟨max n1 n2, fun n hn => by
                have := h1 n (by omega)
                rw [show ({ h with lob := h.box.length, lor := h.row.length } : H) = h.up from rfl, this]; exact h2 n (by omega)⟩
            · cases ho
          | false => exact opsRD_lim hl ho
      · cases hr
    · cases hr

theorem opW_lim {T : Nat → Option LV} {c : Cl} {D : List Nat} {s : S} {o : Op} {h : H} {r : LV × H} (ho : opW P (runI P T) c D s o h = some r) : ∃ n0, ∀ n, n0 ≤ n → opW P (runL P T n) c D s o h = some r := by
  cases c <;> simp only [opW] at ho ⊢
  case v =>
    split at ho
    · exact opL_lim ho
    · cases ho
  case l =>
    split at ho
    · rename_i hc
      obtain ⟨n0, hn⟩ := opL_lim ho
      exact ⟨n0, fun n h => by rw [if_pos hc]; exact hn n h⟩
    · cases ho
  case s =>
    split at ho
    · rename_i hc
      obtain ⟨n0, hn⟩ := opL_lim ho
      exact ⟨n0, fun n h => by rw [if_pos hc]; exact hn n h⟩
    · cases ho
  case r =>
    split at ho
    · rename_i v h' h1
      obtain ⟨n0, hn⟩ := opL_lim h1
      exact ⟨n0, fun n h => by rw [hn n h]; exact ho⟩
    · cases ho
  case w =>
    split at ho
    · rename_i v h' h1
      obtain ⟨n0, hn⟩ := opL_lim h1
      exact ⟨n0, fun n h => by rw [hn n h]; exact ho⟩
    · cases ho
  case p =>
    split at ho
    · cases ho
    · rename_i hc
      obtain ⟨n0, hn⟩ := opL_lim ho
      exact ⟨n0, fun n h => by rw [if_neg hc]; exact hn n h⟩
  all_goals exact opL_lim ho
theorem opsRW_lim {T : Nat → Option LV} {N : Nat} {all : Array Oper} : ∀ {l : List Oper} {rl : List RO} {rows : List (Cl × List Nat)} {s : S} {h : H} {r : S × H}, resO N all l = some rl → opsRW P (runI P T) (zipW rl rows) s h = some r →
    ∃ n0, ∀ n, n0 ≤ n → opsW P (runL P T n) N all (l.zip rows) s h = some r
  | [], rl, rows, s, h, r, hr, ho => by
    simp only [resO] at hr; cases hr
    exact ⟨0, fun n _ => by simpa only [zipW, opsRW, opsW, List.zip_nil_left] using ho⟩
  | o :: os, rl, [], s, h, r, hr, ho => by
    have e : zipW rl [] = [] := by cases rl <;> rfl
    rw [e] at ho
    exact ⟨0, fun n _ => by simpa only [opsRW, opsW, List.zip_nil_right] using ho⟩
  | o :: os, rl, (c, D) :: rows, s, h, r, hr, ho => by
    simp only [resO] at hr
    split at hr
    · rename_i hd
      split at hr
      · rename_i g l hg hl
        cases hr
        simp only [zipW, opsRW] at ho
        simp only [List.zip_cons_cons, opsW, if_pos hd, resO_wants s hg]
        cases hk : gOk s g with
        | none => rw [hk] at ho; cases ho
        | some b =>
          rw [hk] at ho
          cases b with
          | true =>
            dsimp only at ho ⊢
            split at ho
            · rename_i v h' hop
              obtain ⟨n1, h1⟩ := opW_lim hop
              obtain ⟨n2, h2⟩ := opsRW_lim hl ho
              exact ⟨max n1 n2, fun n hn => by rw [h1 n (by omega)]; exact h2 n (by omega)⟩
            · cases ho
          | false => exact opsRW_lim hl ho
      · cases hr
    · cases hr
theorem zipW_o {rl : List RO} {rows : List (Cl × List Nat)} (h : rows.length = rl.length) : (zipW rl rows).map (·.o) = rl := by
  induction rl generalizing rows with
  | nil => cases rows <;> rfl
  | cons o rl ih =>
    cases rows with
    | nil => simp at h
    | cons r rows => simp only [zipW, List.map_cons]; rw [ih (by simpa using h)]
theorem resO_len {N : Nat} {all : Array Oper} : ∀ {l : List Oper} {rl : List RO}, resO N all l = some rl → rl.length = l.length
  | [], rl, hr => by simp only [resO] at hr; cases hr; rfl
  | o :: os, rl, hr => by
    simp only [resO] at hr
    split at hr
    · split at hr
      · rename_i g l hg hl
        cases hr
        simp [resO_len hl]
      · cases hr
    · cases hr

theorem fzR_eq {N : Nat} {all : Array Oper} {s : S} : ∀ {l : List Oper} {rl : List RO} {h : H}, resO N all l = some rl → preFz P s l h = fzR P s rl h
  | [], rl, h, hr => by simp only [resO] at hr; cases hr; rfl
  | o :: os, rl, h, hr => by
    simp only [resO] at hr
    split at hr
    · split at hr
      · rename_i g l hg hl
        cases hr
        have e : ∀ h, preFz P s os h = fzR P s l h := fun h => fzR_eq hl
        simp only [preFz, fzR, e]
        cases o.op <;> rfl
      · cases hr
    · cases hr

theorem fzR_noSl {s : S} : ∀ {l : List RO} {h : H}, noSl P l = true → fzR P s l h = h
  | [], h, _ => rfl
  | o :: os, h, hn => by
    simp only [noSl] at hn
    simp only [fzR]
    cases ho : o.op <;> rw [ho] at hn <;> try (exact fzR_noSl hn)
    rename_i t x lo hi mx
    dsimp only at hn
    split at hn
    · cases hn
    · rename_i hne
      cases x <;> try (exact fzR_noSl hn)
      dsimp only
      split
      · rename_i n e b off hu hs; exact absurd hu (hne _ _)
      · exact fzR_noSl hn
theorem ex_mkDraw {T : Nat → Option LV} (l : List RO) (s : S) (h : H) : ex P T (mkDraw P l) s h = (opsRD P (runI P T) l s (fzR P s l h)).map fun r => (.normal, r.1, h.down r.2) := by
  unfold mkDraw
  split
  · rename_i hn; simp only [ex, fzR_noSl hn]
  · simp only [ex]
theorem ex_mkDrawW {T : Nat → Option LV} (l : List RW) (s : S) (h : H) : ex P T (mkDrawW P l) s h = (opsRW P (runI P T) l s (fzR P s (l.map (·.o)) h)).map fun r => (.normal, r.1, r.2) := by
  unfold mkDrawW
  split
  · rename_i hn; simp only [ex, fzR_noSl hn]
  · simp only [ex]
theorem loopI_some {f : S → H → Option (X × S × H)} {s : S} {h : H} {r : X × S × H} (ho : loopI f s h = some r) : ∃ k, loopL f k s h = some r := by
  unfold loopI at ho
  split at ho
  · rename_i hx; cases ho; exact hx.choose_spec
  · cases ho
theorem loopL_more {f : S → H → Option (X × S × H)} : ∀ {k m : Nat} {s : S} {h : H} {r : X × S × H}, k ≤ m → loopL f k s h = some r → loopL f m s h = some r
  | 0, m, s, h, r, _, ho => by simp only [loopL] at ho; cases ho
  | k + 1, 0, s, h, r, hm, ho => absurd hm (by omega)
  | k + 1, m + 1, s, h, r, hm, ho => by
    simp only [loopL] at ho ⊢
    split at ho
    · exact loopL_more (Nat.le_of_succ_le_succ hm) ho
    · rename_i hne; exact ho
theorem loopI_of {f : S → H → Option (X × S × H)} {s : S} {h : H} {r : X × S × H} {k : Nat} (ho : loopL f k s h = some r) : loopI f s h = some r := by
  have hx : ∃ r k, loopL f k s h = some r := ⟨r, k, ho⟩
  unfold loopI
  rw [dif_pos hx]
  obtain ⟨k', h'⟩ := hx.choose_spec
  have a := loopL_more (Nat.le_max_left k k') ho
  rw [loopL_more (Nat.le_max_right k k') h'] at a
  exact a
/-- One round of a loop. -/
theorem loopI_step (f : S → H → Option (X × S × H)) (s : S) (h : H) : loopI f s h = match f s h with
    | some (.normal, s', h') => loopI f s' h'
    | r => r := by
  cases hf : f s h with
  | none =>
    dsimp only
    cases hl : loopI f s h with
    | none => rfl
    | some r =>
      obtain ⟨k, hk⟩ := loopI_some hl
      cases k with
      | zero => cases hk
      | succ k => simp only [loopL, hf] at hk; cases hk
  | some r =>
    obtain ⟨x, s', h'⟩ := r
    have other : ∀ y, x = y → y ≠ .normal → loopI f s h = some (x, s', h') := by
      intro y hy hne
      refine loopI_of (k := 1) ?_
      simp only [loopL, hf]
      cases x with
      | normal => exact absurd hy.symm hne
      | _ => rfl
    cases x with
    | normal =>
      dsimp only
      cases hl : loopI f s' h' with
      | some r =>
        obtain ⟨k, hk⟩ := loopI_some hl
        refine loopI_of (k := k + 1) ?_
        simp only [loopL, hf]; exact hk
      | none =>
        cases hm : loopI f s h with
        | none => rfl
        | some r =>
          obtain ⟨k, hk⟩ := loopI_some hm
          cases k with
          | zero => cases hk
          | succ k =>
            simp only [loopL, hf] at hk
            rw [loopI_of hk] at hl; cases hl
    | exit id => exact other _ rfl (by simp)
    | ret => exact other _ rfl (by simp)

theorem ex_lim {T : Nat → Option LV} {N : Nat} : ∀ {c : Code} {rc : RC} {s : S} {h : H} {r : X × S × H}, resC P N c = some rc → ex P T rc s h = some r →
    ∃ n0, ∀ n m, n0 ≤ n → n0 ≤ m → execL P (runL P T n) N m c s h = some r := by
  intro c
  induction c with
  | skip => intro rc s h r hr ho; simp only [resC] at hr; cases hr; exact ⟨0, fun n m _ _ => by simpa only [execL, ex] using ho⟩
  | region id all d =>
    intro rc s h r hr ho
    cases d with
    | false =>
      simp only [resC, Option.map_eq_some_iff] at hr
      obtain ⟨l, hl, rfl⟩ := hr
      simp only [ex, Option.map_eq_some_iff] at ho
      obtain ⟨r1, h1, rfl⟩ := ho
      obtain ⟨n0, hn⟩ := opsR_lim hl h1
      exact ⟨n0, fun n m hn' _ => by simp only [execL, hn n hn']; rfl⟩
    | true =>
      simp only [resC] at hr
      split at hr
      · rename_i hd
        split at hr
        · rename_i rows hp
          simp only [Option.map_eq_some_iff] at hr
          obtain ⟨l, hl, rfl⟩ := hr
          rw [ex_mkDrawW, zipW_o (by rw [resO_len hl]; simpa using (planW_ok hp).1)] at ho
          simp only [Option.map_eq_some_iff] at ho
          obtain ⟨r1, h1, rfl⟩ := ho
          obtain ⟨n0, hn⟩ := opsRW_lim hl h1
          exact ⟨n0, fun n m hn' _ => by
            simp only [execL, if_pos hd, hp, fzR_eq (P := P) (s := s) (h := h) hl]
            rw [hn n hn']; rfl⟩
        · rename_i hp
          simp only [Option.map_eq_some_iff] at hr
          obtain ⟨l, hl, rfl⟩ := hr
          rw [ex_mkDraw] at ho
          simp only [Option.map_eq_some_iff] at ho
          obtain ⟨r1, h1, rfl⟩ := ho
          obtain ⟨n0, hn⟩ := opsRD_lim hl h1
          exact ⟨n0, fun n m hn' _ => by
            simp only [execL, if_pos hd, hp, fzR_eq (P := P) (s := s) (h := h) hl]
            rw [hn n hn']; rfl⟩
      · cases hr
  | seq a b iha ihb =>
    intro rc s h r hr ho
    simp only [resC] at hr
    split at hr
    · rename_i ra rb h1 h2
      cases hr
      simp only [ex] at ho
      split at ho
      · rename_i s' h' h3
        obtain ⟨n1, hn1⟩ := iha h1 h3
        obtain ⟨n2, hn2⟩ := ihb h2 ho
        refine ⟨max n1 n2, fun n m a b => ?_⟩
        simp only [execL]
        rw [hn1 n m (by omega) (by omega)]
        exact hn2 n m (by omega) (by omega)
      · rename_i hne
        obtain ⟨n1, hn1⟩ := iha h1 ho
        refine ⟨n1, fun n m a b => ?_⟩
        simp only [execL]
        rw [hn1 n m a b]
        obtain ⟨x, s', h'⟩ := r
        cases x with
        | normal => exact absurd ho (hne _ _)
        | _ => rfl
    · cases hr
  | cond op a b iha ihb =>
    intro rc s h r hr ho
    simp only [resC] at hr
    split at hr
    · rename_i ra rb h1 h2
      cases hr
      simp only [ex] at ho
      split at ho
      · rename_i hc
        obtain ⟨n1, hn1⟩ := iha h1 ho
        exact ⟨n1, fun n m a b => by simp only [execL, hc]; exact hn1 n m a b⟩
      · rename_i hc
        obtain ⟨n1, hn1⟩ := ihb h2 ho
        exact ⟨n1, fun n m a b => by simp only [execL, hc]; exact hn1 n m a b⟩
      · cases ho
    · cases hr
  | block id c ih =>
    intro rc s h r hr ho
    simp only [resC, Option.map_eq_some_iff] at hr
    obtain ⟨ra, h1, rfl⟩ := hr
    simp only [ex] at ho
    split at ho
    · rename_i id' s' h' h3
      obtain ⟨n1, hn1⟩ := ih h1 h3
      exact ⟨n1, fun n m a b => by simp only [execL]; rw [hn1 n m a b]; exact ho⟩
    · rename_i hne
      obtain ⟨n1, hn1⟩ := ih h1 ho
      refine ⟨n1, fun n m a b => ?_⟩
      simp only [execL]; rw [hn1 n m a b]
      obtain ⟨x, s', h'⟩ := r
      cases x with
      | exit id' => exact absurd ho (hne _ _ _)
      | _ => rfl
  | loop c ih =>
    intro rc s h r hr ho
    simp only [resC, Option.map_eq_some_iff] at hr
    obtain ⟨ra, h1, rfl⟩ := hr
    simp only [ex] at ho
    obtain ⟨k, hk⟩ := loopI_some ho
    have key : ∀ (k : Nat) {s : S} {h : H}, loopL (ex P T ra) k s h = some r → ∃ n0, ∀ n m p, n0 ≤ n → n0 ≤ m → k ≤ p → loopL (execL P (runL P T n) N m c) p s h = some r := by
      intro k
      induction k with
      | zero => intro s h hk; cases hk
      | succ k ihk =>
        intro s h hk
        simp only [loopL] at hk
        split at hk
        · rename_i s' h' h3
          obtain ⟨n1, hn1⟩ := ih h1 h3
          obtain ⟨n2, hn2⟩ := ihk hk
          refine ⟨max n1 n2, fun n m p a b hp => ?_⟩
          obtain ⟨p, rfl⟩ : ∃ q, p = q + 1 := ⟨p - 1, by omega⟩
          simp only [loopL]
          rw [hn1 n m (by omega) (by omega)]
          exact hn2 n m p (by omega) (by omega) (by omega)
        · rename_i hne
          obtain ⟨n1, hn1⟩ := ih h1 hk
          refine ⟨n1, fun n m p a b hp => ?_⟩
          obtain ⟨p, rfl⟩ : ∃ q, p = q + 1 := ⟨p - 1, by omega⟩
          simp only [loopL]
          rw [hn1 n m a b]
          obtain ⟨x, s', h'⟩ := r
          cases x with
          | normal => exact absurd hk (hne _ _)
          | _ => rfl
    obtain ⟨n0, hn⟩ := key k hk
    refine ⟨max n0 k, fun n m a b => ?_⟩
    simp only [execL]
    exact hn n m m (by omega) (by omega) (by omega)
  | exit id => intro rc s h r hr ho; simp only [resC] at hr; cases hr; exact ⟨0, fun n m _ _ => by simpa only [execL, ex] using ho⟩
  | scope c ih =>
    intro rc s h r hr ho
    simp only [resC] at hr
    obtain ⟨n1, hn1⟩ := ih hr ho
    exact ⟨n1, fun n m a b => by simp only [execL]; exact hn1 n m a b⟩
  | label l => intro rc s h r hr ho; simp only [resC] at hr; cases hr; exact ⟨0, fun n m _ _ => by simpa only [execL, ex] using ho⟩
  | ret => intro rc s h r hr ho; simp only [resC] at hr; cases hr; exact ⟨0, fun n m _ _ => by simpa only [execL, ex] using ho⟩
  | goto l => intro rc s h r hr; simp only [resC] at hr; cases hr
  | refuse m => intro rc s h r hr; simp only [resC] at hr; cases hr
  | rangeFunc f p a b => intro rc s h r hr; simp only [resC] at hr; cases hr

/-- A call does what the function's plainer code does. -/
theorem runI_of {T : Nat → Option LV} {f : Nat} {F : RF} {args : List LV} {h : H} {r : LV × H} (hT : T f = none) (hF : resF P f F.nargs = some F) (hn : args.length = F.nargs)
    (ho : bodyI P T F args h = some r) : runI P T f args h = some r := by
  unfold resF at hF
  split at hF
  · rename_i fn hfn
    split at hF
    · rename_i c hb
      split at hF
      · cases hF
      · rename_i hname
        rw [Option.map_eq_some_iff] at hF
        obtain ⟨rc, hrc, he⟩ := hF
        unfold bodyI at ho
        have key : ∀ x, ex P T F.rc (startL args) h = some x → ∃ n0, ∀ n, n0 ≤ n → execL P (runL P T n) (args.length + (fn.ntmps - args.length)) n c (startL args) h = some x := by
          intro x hx
          obtain ⟨n0, hn0⟩ := ex_lim (P := P) (T := T) (N := args.length + (fn.ntmps - args.length)) (c := c) (rc := F.rc) (by rw [hn, hrc, ← he]) hx
          exact ⟨n0, fun n hn' => hn0 n n hn' hn'⟩
        have hres : F.res = fn.results.toList := by rw [← he]
        split at ho
        · cases ho
        · rename_i x s' h' hne hx
          obtain ⟨n0, hn0⟩ := key _ hx
          refine lim_some (n0 + 1) (fun n hn' => ?_)
          obtain ⟨m, rfl⟩ : ∃ m, n = m + 1 := ⟨n - 1, by omega⟩
          simp only [runL, hT, hfn, hb, if_neg hname]
          rw [hn0 m (by omega)]
          cases x with
          | exit id => exact (hne id rfl).elim
          | normal => dsimp only; rw [← hres]; exact ho
          | ret => dsimp only; rw [← hres]; exact ho
        · cases ho
    · cases hF
  · cases hF
theorem runI_known {T : Nat → Option LV} {f : Nat} {v : LV} {h : H} (hT : T f = some v) : runI P T f [] h = some (v, h) := by
  refine lim_some 1 (fun n hn => ?_)
  obtain ⟨m, rfl⟩ : ∃ m, n = m + 1 := ⟨n - 1, by omega⟩
  simp only [runL, hT]; rfl
theorem of_runI {T : Nat → Option LV} {f : Nat} {args : List LV} {h : H} {r : LV × H} (ho : runI P T f args h = some r) : ∃ n, runL P T n f args h = some r := by
  obtain ⟨n0, hn⟩ := of_lim ho
  exact ⟨n0, hn n0 (Nat.le_refl _)⟩

end Go.LM
