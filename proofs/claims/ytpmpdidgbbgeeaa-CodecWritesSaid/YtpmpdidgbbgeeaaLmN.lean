import Derived.Test.YtpmpdidgbbgeeaaLmM
import Derived.Test.YtpmpdidgbbgeeaaLmL
namespace Go.LM
variable {P : Program} {G : Gh} {w : World}

structure SR (G : Gh) (w : World) (N : Nat) (s : S) (a : Act) : Prop where
  size : a.tmps.size = N
  defers : a.defers = []
  at_ : ∀ t, VR G w (s t) (a.tmps.getD t undef)

theorem SR.mono {G' : Gh} {w' : World} {N : Nat} {s : S} {a : Act} (h : SR G w N s a) (hx : Ext G w G' w') : SR G' w' N s a :=
  ⟨h.size, h.defers, fun t => (h.at_ t).mono hx⟩

theorem SR.put {N : Nat} {s : S} {a : Act} {d : Option Nat} {v : LV} {u : Value} (h : SR G w N s a) (hd : okDst N d = true) (hv : VR G w v u) : SR G w N (updO s d v) (a.put d u) := by
  cases d with
  | none => exact h
  | some d =>
    have hlt : d < a.tmps.size := by rw [h.size]; simpa [okDst] using hd
    refine ⟨by simp [Act.put, h.size], h.defers, fun t => ?_⟩
    simp only [updO, upd, Act.put]
    by_cases he : t = d
    · subst he; simp [Array.getD_eq_getD_getElem?, hlt]; exact hv
    · rw [if_neg he]
      have := h.at_ t
      simpa [Array.getD_eq_getD_getElem?, Array.getElem?_setIfInBounds, Ne.symm he] using this

theorem opr_ok {N : Nat} {s : S} {a : Act} {x : Operand} {v : LV} (h : opr s x = some v) (hs : SR G w N s a) : VR G w v (a.eval x) := by
  unfold opr at h
  split at h
  · cases h; exact hs.at_ _
  · exact ofV_vr h
  · cases h; exact .fn rfl rfl (fun i h => absurd h (by simp)) (fun i h => absurd h (by simp))
  · cases h
theorem oprs_ok {N : Nat} {s : S} {a : Act} (hs : SR G w N s a) : ∀ {xs : List Operand} {vs : List LV}, oprs s xs = some vs → VRs G w vs (xs.map a.eval)
  | [], vs, h => by simp only [oprs] at h; cases h; exact .nil
  | x :: xs, vs, h => by
    simp only [oprs] at h
    split at h
    · rename_i v l h1 h2
      cases h
      exact .cons (opr_ok h1 hs) (oprs_ok hs h2)
    · cases h
theorem oprP_ok {N : Nat} {s : S} {a : Act} (hs : SR G w N s a) : ∀ {xs : List (Nat × Operand)} {vs : List (Nat × LV)}, oprP s xs = some vs →
    Parts G w vs (xs.map fun x => (x.1, a.eval x.2))
  | [], vs, h => by simp only [oprP] at h; cases h; exact .nil
  | (i, x) :: xs, vs, h => by
    simp only [oprP] at h
    split at h
    · rename_i v l h1 h2
      cases h
      exact .cons (opr_ok h1 hs) (oprP_ok hs h2)
    · cases h
theorem oprO_ok {N : Nat} {s : S} {a : Act} {x : Option Operand} {v : Option LV} (h : oprO s x = some v) (hs : SR G w N s a) : VRo G w v (x.map a.eval) := by
  unfold oprO at h
  split at h
  · cases h; trivial
  · rename_i x
    cases hx : opr s x with
    | none => rw [hx] at h; cases h
    | some l => rw [hx] at h; cases h; exact opr_ok hx hs

/-- What is known of the callees. -/
def COk (P : Program) (base : Nat) (C : Callee') : Prop :=
  ∀ f args h v h', C f args h = some (v, h') → ∀ (G : Gh) (w : World) (args' : Array Value) (tb tr : Nat), HR base G w h → Fresh G h tb tr → h'.box.length ≤ tb → h'.row.length ≤ tr → VRs G w args args'.toList →
    Calls P f args' w fun e w' => ∃ G' v', e = .returned v' ∧ VR G' w' v v' ∧ Step base G w h G' w' h'
def CFn (P : Program) (C : Callee') : Prop :=
  ∀ f args h r, C f args h = some r → ∃ fn, P.funcs[f]? = some fn ∧ fn.body ≠ none ∧ fn.name ≠ "runtime.NumGoroutine"

theorem value_wp {o : Oper} {a : Act} {K : Act → World → Prop} {Q : Exit → Act → World → Prop} {u : Value} {w' : World} (h : (execOp a.eval o).run P w = .ok (.value u) w') (hk : K (a.put o.dst u) w') :
    o.wp P a w K Q := by
  unfold Oper.wp; rw [h]; exact hk
theorem skip_wp {o : Oper} {a : Act} {K : Act → World → Prop} {Q : Exit → Act → World → Prop} {w' : World} (h : (execOp a.eval o).run P w = .ok .skip w') (hk : K (a.put o.dst undef) w') :
    o.wp P a w K Q := by
  unfold Oper.wp; rw [h]; exact hk

theorem call_wp {base tb tr : Nat} {C : Callee'} (hC : COk P base C) (hF : CFn P C) {o : Oper} {a : Act} {K : Act → World → Prop} {Q : Exit → Act → World → Prop} {f : Nat} {args : List LV} {args' : Array Value} {h h' : H} {v : LV}
    (hr : (execOp a.eval o).run P w = (callFunc f args').run P w) (hc : C f args h = some (v, h')) (hh : HR base G w h) (hf : Fresh G h tb tr) (h1 : h'.box.length ≤ tb) (h2 : h'.row.length ≤ tr) (hv : VRs G w args args'.toList)
    (hk : ∀ G' w' u, Step base G w h G' w' h' → VR G' w' v u → K (a.put o.dst u) w') : o.wp P a w K Q := by
  obtain ⟨fn, e1, e2, e3⟩ := hF f args h _ hc
  have hcf : (callFunc f args').run P w = .ok (.enter f args') w := by
    simp [callFunc, e1, e2, e3]
  unfold Oper.wp
  rw [hr, hcf]
  refine (hC f args h v h' hc G w args' tb tr hh hf h1 h2 hv).mono ?_
  rintro e w' ⟨G', v', rfl, hv', hs⟩
  exact hk G' w' v' hs hv'

theorem op_sound {base tb tr N : Nat} {C : Callee'} (hC : COk P base C) (hF : CFn P C) {o : Oper} {a : Act} {s : S} {K : Act → World → Prop} {Q : Exit → Act → World → Prop} {h h' : H} {v : LV}
    (ho : opL P C s o.op h = some (v, h')) (hh : HR base G w h) (hf : Fresh G h tb tr) (h1 : h'.box.length ≤ tb) (h2 : h'.row.length ≤ tr) (hs : SR G w N s a)
    (hk : ∀ G' w' u, Step base G w h G' w' h' → VR G' w' v u → K (a.put o.dst u) w') : o.wp P a w K Q := by
  obtain ⟨dst, op, type, pos, after, guard⟩ := o
  dsimp only at ho hk
  cases op <;> try (simp only [opL] at ho; cases ho; done)
  case move x =>
    simp only [opL] at ho
    cases hx : opr s x with
    | none => rw [hx] at ho; cases ho
    | some y => rw [hx] at ho; cases ho; exact value_wp (u := a.eval x) (w' := w) rfl (hk G w _ (.refl hh) (opr_ok hx hs))
  case assign x =>
    simp only [opL] at ho
    cases hx : opr s x with
    | none => rw [hx] at ho; cases ho
    | some y => rw [hx] at ho; cases ho; exact value_wp (u := a.eval x) (w' := w) rfl (hk G w _ (.refl hh) (opr_ok hx hs))
  case pick c x y =>
    simp only [opL] at ho
    split at ho
    · rename_i hc
      have := opr_ok hc hs
      cases hx : opr s x with
      | none => rw [hx] at ho; cases ho
      | some z =>
        rw [hx] at ho; cases ho
        refine value_wp (u := a.eval x) (w' := w) ?_ (hk G w _ (.refl hh) (opr_ok hx hs))
        generalize hg : a.eval c = g at this; cases this; simp [execOp, hg, asBool]
    · rename_i hc
      have := opr_ok hc hs
      cases hx : opr s y with
      | none => rw [hx] at ho; cases ho
      | some z =>
        rw [hx] at ho; cases ho
        refine value_wp (u := a.eval y) (w' := w) ?_ (hk G w _ (.refl hh) (opr_ok hx hs))
        generalize hg : a.eval c = g at this; cases this; simp [execOp, hg, asBool]
    · cases ho
  case alloc t =>
    simp only [opL] at ho
    split at ho
    · rename_i z hz
      split at ho
      · rename_i hkn
        simp only [newBoxL, Option.some.injEq, Prod.mk.injEq] at ho
        obtain ⟨rfl, rfl⟩ := ho
        obtain ⟨z', hz', hzo⟩ := run_zeroL (w := w) hz
        have hstep := Step.newBox (w' := { w with heap := w.heap.push (.cells z'.cells t (0, 0)) }) rfl ⟨rfl, rfl, rfl⟩ hh (hf.box _ (Nat.le_refl _) (by simp at h1; omega)) ((ofV_vr (G := G) (w := w) hzo).cells hkn)
        refine value_wp (u := .pointer (some ⟨w.heap.size, 0, none⟩)) ?_ (hk _ _ _ hstep (.ptr (by simp)))
        simp [execOp, Instr.alloc, hz', newVar, newRow]
      · cases ho
    · cases ho
  case box t x =>
    simp only [opL] at ho
    split at ho
    · rename_i z hz
      split at ho
      · rename_i hkn
        simp only [newBoxL, Option.some.injEq, Prod.mk.injEq] at ho
        obtain ⟨rfl, rfl⟩ := ho
        have hstep := Step.newBox (w' := { w with heap := w.heap.push (.cells (a.eval x).cells t (0, 0)) }) rfl ⟨rfl, rfl, rfl⟩ hh (hf.box _ (Nat.le_refl _) (by simp at h1; omega)) ((opr_ok hz hs).cells hkn)
        refine value_wp (u := .pointer (some ⟨w.heap.size, 0, none⟩)) ?_ (hk _ _ _ hstep (.ptr (by simp)))
        simp [execOp, Instr.box, newVar, newRow]
      · cases ho
    · cases ho
  case build t parts =>
    simp only [opL] at ho
    split at ho
    · rename_i ps hps
      cases hb : buildL P t ps with
      | none => rw [hb] at ho; cases ho
      | some y =>
        rw [hb] at ho; cases ho
        obtain ⟨u, hu, hv⟩ := build_ok (parts' := parts.map fun x => (x.1, a.eval x.2)) hb (by simpa using oprP_ok hs hps)
        exact value_wp (w' := w) (by simp [execOp, hu]) (hk G w _ (.refl hh) hv)
    · cases ho
  case buildSlice t n parts =>
    simp only [opL] at ho
    split at ho
    · rename_i ps hps
      obtain ⟨u, w', G', hu, hv, hst⟩ := buildSlice_ok (parts' := parts.map fun x => (x.1, a.eval x.2)) ho hh hf h2 (by simpa using oprP_ok hs hps)
      exact value_wp (by simp [execOp, hu]) (hk _ _ _ hst hv)
    · cases ho
  case load t x =>
    simp only [opL] at ho
    split at ho
    · rename_i p hp
      cases hl : loadL P t p h with
      | none => rw [hl] at ho; cases ho
      | some y =>
        rw [hl] at ho; cases ho
        obtain ⟨u, hu, hv⟩ := load_ok hl hh (opr_ok hp hs)
        exact value_wp (w' := w) (by simp [execOp, hu]) (hk G w _ (.refl hh) hv)
    · cases ho
  case store t x y =>
    simp only [opL] at ho
    split at ho
    · rename_i p z hp hz
      cases hl : storeL P t p z h with
      | none => rw [hl] at ho; cases ho
      | some h2 =>
        rw [hl] at ho; cases ho
        obtain ⟨w', hu, hst⟩ := store_ok hl hh (opr_ok hp hs) (opr_ok hz hs)
        exact skip_wp (by simp [execOp, hu]) (hk G w' _ hst (.undef _))
    · cases ho
  case nilCheck x =>
    simp only [opL] at ho
    split at ho
    · rename_i hp
      cases ho
      have := opr_ok hp hs
      refine value_wp (u := a.eval x) (w' := w) ?_ (hk G w _ (.refl hh) this)
      generalize hg : a.eval x = g at this; cases this; simp [execOp, hg]
    · rename_i hp
      cases ho
      have := opr_ok hp hs
      refine value_wp (u := a.eval x) (w' := w) ?_ (hk G w _ (.refl hh) this)
      generalize hg : a.eval x = g at this; cases this; simp [execOp, hg]
    · rename_i hp
      cases ho
      have := opr_ok hp hs
      refine value_wp (u := a.eval x) (w' := w) ?_ (hk G w _ (.refl hh) this)
      generalize hg : a.eval x = g at this; cases this; simp [execOp, hg]
    · rename_i hp
      cases ho
      have := opr_ok hp hs
      refine value_wp (u := a.eval x) (w' := w) ?_ (hk G w _ (.refl hh) this)
      generalize hg : a.eval x = g at this; cases this; simp [execOp, hg]
    · cases ho
  case binOp op t x y ty =>
    simp only [opL] at ho
    split at ho
    · rename_i p q hp hq
      cases hl : binL P op t p q with
      | none => rw [hl] at ho; cases ho
      | some z =>
        rw [hl] at ho; cases ho
        obtain ⟨u, hu, hv⟩ := bin_ok x y hl (opr_ok hp hs) (opr_ok hq hs)
        exact value_wp (w' := w) (by
          have : (execOp a.eval ⟨dst, .binOp op t x y ty, type, pos, after, guard⟩).run P w = ((do eqGuard op t x y (a.eval x) (a.eval y); binOp op t (a.eval x) (a.eval y) : Sem Value).run P w).andThen fun v w' => .ok (.value v) w' := by
            simp only [execOp, Sem.run_bind, Sem.run_pure]
          rw [this, hu]; rfl) (hk G w _ (.refl hh) hv)
    · cases ho
  case unOp op t x =>
    simp only [opL] at ho
    split at ho
    · rename_i p hp
      cases hl : unL op p with
      | none => rw [hl] at ho; cases ho
      | some z =>
        rw [hl] at ho; cases ho
        obtain ⟨u, hu, hv⟩ := un_ok (P := P) hl (opr_ok hp hs)
        exact value_wp (w' := w) (by simp [execOp, hu]) (hk G w _ (.refl hh) hv)
    · cases ho
  case convert src d2 x =>
    simp only [opL] at ho
    split at ho
    · rename_i p hp
      obtain ⟨u, w', G', hu, hv, hst⟩ := conv_ok ho hh hf h2 (opr_ok hp hs)
      exact value_wp (by simp [execOp, hu]) (hk _ _ _ hst hv)
    · cases ho
  case makeInterface t x =>
    simp only [opL] at ho
    split at ho
    · cases ho
    · rename_i y d hd hx hu
      cases ho
      refine value_wp (u := .iface t (a.eval x)) (w' := w) ?_ (hk G w _ (.refl hh) (.iface (opr_ok hx hs)))
      simp only [execOp, Instr.makeInterface, Sem.run_bind, run_und hu, Result.andThen_ok]
      cases d <;> first | rfl | (exact (hd _ rfl).elim)
    · cases ho
  case makeFunc fn first caps =>
    cases fn <;> try (simp only [opL] at ho; cases ho; done)
    simp only [opL] at ho
    split at ho
    · rename_i p q hp hq
      cases ho
      have e1 := oprs_ok hs hp
      have e2 := oprs_ok hs hq
      refine value_wp (w' := w) (u := .func (.func _) (first.map a.eval) (caps.map a.eval)) (by simp [execOp, Instr.makeFunc]) (hk G w _ (.refl hh) (.fn ?_ ?_ ?_ ?_))
      · simpa using e1.1
      · simpa using e2.1
      · intro i hi hi'; have := e1.2 i hi (by simpa using hi'); simpa using this
      · intro i hi hi'; have := e2.2 i hi (by simpa using hi'); simpa using this
    · cases ho
  case slice t x lo hi mx =>
    cases mx with
    | some m => simp only [opL] at ho; cases ho
    | none =>
      simp only [opL] at ho
      split at ho
      · rename_i p q r hp hq hr
        obtain ⟨u, G', hu, hv, hst⟩ := slice_ok ho hh (opr_ok hp hs) (oprO_ok hq hs) (oprO_ok hr hs)
        exact value_wp (by simp [execOp, hu]) (hk _ _ _ hst hv)
      · cases ho
  case fieldAddr t x f =>
    simp only [opL] at ho
    split at ho
    · rename_i p hp
      cases hl : fieldAddrL P t p f with
      | none => rw [hl] at ho; cases ho
      | some z =>
        rw [hl] at ho; cases ho
        obtain ⟨u, hu, hv⟩ := fieldAddr_ok hl (opr_ok hp hs)
        exact value_wp (w' := w) (by simp [execOp, hu]) (hk G w _ (.refl hh) hv)
    · cases ho
  case field t x f =>
    simp only [opL] at ho
    split at ho
    · rename_i p hp
      cases hl : fieldL P t p f with
      | none => rw [hl] at ho; cases ho
      | some z =>
        rw [hl] at ho; cases ho
        obtain ⟨u, hu, hv⟩ := field_ok hl (opr_ok hp hs)
        exact value_wp (w' := w) (by simp [execOp, hu]) (hk G w _ (.refl hh) hv)
    · cases ho
  case indexAddr t x i =>
    simp only [opL] at ho
    split at ho
    · rename_i p q hp hq
      cases hl : indexAddrL P t p q with
      | none => rw [hl] at ho; cases ho
      | some z =>
        rw [hl] at ho; cases ho
        obtain ⟨u, hu, hv⟩ := indexAddr_ok hl (opr_ok hp hs) (opr_ok hq hs)
        exact value_wp (w' := w) (by simp [execOp, hu]) (hk G w _ (.refl hh) hv)
    · cases ho
  case index t x i =>
    simp only [opL] at ho
    split at ho
    · rename_i p q hp hq
      cases hl : indexL P t p q with
      | none => rw [hl] at ho; cases ho
      | some z =>
        rw [hl] at ho; cases ho
        obtain ⟨u, hu, hv⟩ := index_ok hl (opr_ok hp hs) (opr_ok hq hs)
        exact value_wp (w' := w) (by simp [execOp, hu]) (hk G w _ (.refl hh) hv)
    · cases ho
  case extract x i =>
    simp only [opL] at ho
    split at ho
    · rename_i vs hp
      cases hl : vs[i]? with
      | none => rw [hl] at ho; cases ho
      | some z =>
        rw [hl] at ho; cases ho
        have := opr_ok hp hs
        generalize hg : a.eval x = g at this
        cases this with
        | tup hl2 hv2 =>
          rename_i arr
          obtain ⟨u, hu, hv⟩ := (VR.tup hl2 hv2).ofTup.get hl
          have hu' : arr[i]? = some u := by simpa using hu
          exact value_wp (w' := w) (by simp [execOp, hg, Instr.extract, hu']) (hk G w _ (.refl hh) hv)
    · cases ho
  case call c =>
    obtain ⟨callee, args, argTypes⟩ := c
    simp only [opL, callL] at ho
    cases callee with
    | builtin b =>
      cases b <;> try (simp only [] at ho; cases ho; done)
      case append =>
        dsimp only at ho
        split at ho
        · rename_i x y t u hxs hts
          have hv := oprs_ok hs hxs
          obtain ⟨x', y', hxy⟩ : ∃ x' y', args.map a.eval = #[x', y'] := by
            have hl := hv.1
            simp at hl
            refine ⟨a.eval (args[0]'(by omega)), a.eval (args[1]'(by omega)), ?_⟩
            apply Array.ext
            · simp; omega
            · intro i h1 h2
              have : i = 0 ∨ i = 1 := by simp at h2; omega
              rcases this with rfl | rfl <;> simp
          have hat : argTypes = #[t, u] := by apply Array.ext'; simpa using hts
          rw [show args.toList.map a.eval = [x', y'] by rw [← Array.toList_map, hxy]] at hv
          obtain ⟨r, w', G', hu, hvv, hst⟩ := append_ok (ty := type) ho hh hf h2 hv.head hv.tail.head
          refine value_wp ?_ (hk _ _ _ hst hvv)
          subst hat
          simp [execOp, resolve, invoke, builtin, hxy, hu]
        · cases ho
      case len =>
        dsimp only at ho
        split at ho
        · rename_i x t hxs hts
          cases hl : lenL P t x with
          | none => rw [hl] at ho; cases ho
          | some z =>
            rw [hl] at ho; cases ho
            have hv := oprs_ok hs hxs
            obtain ⟨x', hxy⟩ : ∃ x', args.map a.eval = #[x'] := by
              have hl := hv.1
              simp at hl
              refine ⟨a.eval (args[0]'(by omega)), ?_⟩
              apply Array.ext
              · simp; omega
              · intro i h1 h2
                have : i = 0 := by simp at h2; omega
                subst this; simp
            have hat : argTypes = #[t] := by apply Array.ext'; simpa using hts
            rw [show args.toList.map a.eval = [x'] by rw [← Array.toList_map, hxy]] at hv
            obtain ⟨u, hu, hvv⟩ := len_ok (ty := type) hl hv.head
            refine value_wp (w' := w) ?_ (hk G w _ (.refl hh) hvv)
            subst hat
            simp [execOp, resolve, invoke, builtin, hxy, hu]
        · cases ho
      case max =>
        dsimp only at ho
        split at ho
        · rename_i x xs hxs
          cases hl : foldL max2L x xs with
          | none => rw [hl] at ho; cases ho
          | some z =>
            rw [hl] at ho; cases ho
            have hv := oprs_ok hs hxs
            obtain ⟨x', xs', hxy⟩ : ∃ x' xs', args.toList.map a.eval = x' :: xs' := by
              cases hm : args.toList.map a.eval with
              | nil => rw [hm] at hv; simp [VRs] at hv
              | cons x' xs' => exact ⟨_, _, rfl⟩
            rw [hxy] at hv
            obtain ⟨u, hu, hvv⟩ := fold_ok (P := P) (g := Builtin.max2) max2_ok hl hv.head hv.tail
            refine value_wp (w' := w) ?_ (hk G w _ (.refl hh) hvv)
            have hl2 : (args.map a.eval).toList = x' :: xs' := by simpa using hxy
            simp [execOp, resolve, invoke, builtin, Builtin.max_, hxy, hu]
        · cases ho
      case min =>
        dsimp only at ho
        split at ho
        · rename_i x xs hxs
          cases hl : foldL min2L x xs with
          | none => rw [hl] at ho; cases ho
          | some z =>
            rw [hl] at ho; cases ho
            have hv := oprs_ok hs hxs
            obtain ⟨x', xs', hxy⟩ : ∃ x' xs', args.toList.map a.eval = x' :: xs' := by
              cases hm : args.toList.map a.eval with
              | nil => rw [hm] at hv; simp [VRs] at hv
              | cons x' xs' => exact ⟨_, _, rfl⟩
            rw [hxy] at hv
            obtain ⟨u, hu, hvv⟩ := fold_ok (P := P) (g := Builtin.min2) min2_ok hl hv.head hv.tail
            refine value_wp (w' := w) ?_ (hk G w _ (.refl hh) hvv)
            simp [execOp, resolve, invoke, builtin, Builtin.min_, hxy, hu]
        · cases ho
    | value f =>
      dsimp only at ho
      split at ho
      · rename_i k first caps as hfv has
        have hv := oprs_ok hs has
        have hfv' := opr_ok hfv hs
        generalize hg : a.eval f = g at hfv'
        cases hfv' with
        | fn l1 l2 v1 v2 =>
          rename_i fa ca
          have hfirst : VRs G w first fa.toList := ⟨by simpa using l1, fun i a b => by have := v1 i a (by simpa using b); rwa [Array.getElem_toList]⟩
          have hcaps : VRs G w caps ca.toList := ⟨by simpa using l2, fun i a b => by have := v2 i a (by simpa using b); rwa [Array.getElem_toList]⟩
          refine call_wp (args' := fa ++ args.map a.eval ++ ca) hC hF ?_ ho hh hf h1 h2 ?_ hk
          · simp [execOp, resolve, hg, Deferred.ofValue, invoke]
          · simpa using (hfirst.append hv).append hcaps
      · cases ho
    | invoke r name =>
      dsimp only at ho
      split at ho
      · rename_i t v0 as hrv has
        split at ho
        · rename_i f hm
          have hv := oprs_ok hs has
          have hrv' := opr_ok hrv hs
          generalize hg : a.eval r = g at hrv'
          cases hrv' with
          | iface hvr =>
            rename_i u0
            refine call_wp (args' := #[u0] ++ args.map a.eval) hC hF ?_ ho hh hf h1 h2 ?_ hk
            · have hmeth : ∀ n, (method (n + 1) t u0 name).run P w = .ok (f, u0) w := by
                intro n
                unfold methodL at hm
                split at hm
                · rename_i i hi
                  split at hm
                  · rename_i m hfind
                    split at hm
                    · rename_i f' hfunc
                      split at hm
                      · rename_i hpe
                        split at hm
                        · rename_i el hu
                          cases hm
                          have hp : m.path.toList = [] := by simpa using hpe
                          simp [method, typeInfo, hi, hfind, hp, follow, hfunc, receiverAt, run_und hu, Place.get]
                        · cases hm
                      · cases hm
                    · cases hm
                  · cases hm
                · cases hm
              have hd : ∃ n, P.types.size + Made.depth = n + 1 := ⟨P.types.size + Made.depth - 1, by
                have : 0 < Made.depth := by decide
                omega⟩
              obtain ⟨n, hn⟩ := hd
              have hget : (#[Value.iface t u0] ++ Array.map a.eval args)[0]? = some (.iface t u0) := by
                rw [Array.getElem?_append_left (by simp)]; rfl
              have hext : (#[Value.iface t u0] ++ Array.map a.eval args).extract 1 (#[Value.iface t u0] ++ Array.map a.eval args).size = Array.map a.eval args := by
                apply Array.ext'; simp only [Array.toList_extract, List.extract, Array.toList_append, Array.size_append, Array.toList_map]; simp [List.take_of_length_le]
              simp only [execOp, resolve, hg, invoke, Sem.run_bind, Sem.run_pure, Result.andThen_ok, hget, hext, callMethod, run_program, hn, hmeth n]
            · have : (#[u0] ++ Array.map a.eval args).toList = u0 :: args.toList.map a.eval := by simp
              rw [this]
              exact .cons hvr hv
        · cases ho
      · cases ho

end Go.LM
