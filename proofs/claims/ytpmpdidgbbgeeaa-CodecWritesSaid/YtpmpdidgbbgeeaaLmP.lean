import Derived.Test.YtpmpdidgbbgeeaaLmO
namespace Go.LM
variable {P : Program}

theorem oprs_congr {s s' : S} : ∀ {xs : List Operand}, (∀ x ∈ xs, opr s x = opr s' x) → oprs s xs = oprs s' xs
  | [], _ => rfl
  | x :: xs, h => by simp only [oprs]; rw [h x (by simp), oprs_congr (fun y hy => h y (by simp [hy]))]
theorem oprP_congr {s s' : S} : ∀ {xs : List (Nat × Operand)}, (∀ x ∈ xs, opr s x.2 = opr s' x.2) → oprP s xs = oprP s' xs
  | [], _ => rfl
  | (i, x) :: xs, h => by simp only [oprP]; rw [h (i, x) (by simp), oprP_congr (fun y hy => h y (by simp [hy]))]
theorem oprO_congr {s s' : S} {x : Option Operand} (h : ∀ y ∈ x.toArray, opr s y = opr s' y) : oprO s x = oprO s' x := by
  cases x with
  | none => rfl
  | some x => simp only [oprO]; rw [h x (by simp)]

theorem opL_congr {C : Callee'} {s s' : S} {h : H} : ∀ {o : Op}, (∀ x ∈ o.operands, opr s x = opr s' x) → opL P C s o h = opL P C s' o h := by
  intro o hx
  cases o <;> simp only [opL] <;> simp only [Op.operands] at hx
  case move x => rw [hx x (by simp)]
  case assign x => rw [hx x (by simp)]
  case pick c a b => rw [hx c (by simp), hx a (by simp), hx b (by simp)]
  case box t x => rw [hx x (by simp)]
  case build t ps => rw [oprP_congr (fun x hm => hx x.2 (by simp; exact ⟨x.1, by simpa using hm⟩))]
  case buildSlice t n ps => rw [oprP_congr (fun x hm => hx x.2 (by simp; exact ⟨x.1, by simpa using hm⟩))]
  case load t x => rw [hx x (by simp)]
  case store t a x => rw [hx a (by simp), hx x (by simp)]
  case nilCheck x => rw [hx x (by simp)]
  case binOp op t x y u => rw [hx x (by simp), hx y (by simp)]
  case unOp op t x => rw [hx x (by simp)]
  case convert a b x => rw [hx x (by simp)]
  case makeInterface t x => rw [hx x (by simp)]
  case makeFunc fn a b =>
    cases fn <;> simp only []
    rw [oprs_congr (fun x hm => hx x (by simp; exact .inl (by simpa using hm))), oprs_congr (xs := b.toList) (fun x hm => hx x (by simp; exact .inr (by simpa using hm)))]
  case slice t x lo hi mx =>
    cases mx with
    | some m => rfl
    | none =>
      simp only []
      rw [hx x (by simp), oprO_congr (x := lo) (fun y hy => hx y (by simp; simp at hy; exact .inr (.inl hy))), oprO_congr (x := hi) (fun y hy => hx y (by simp; simp at hy; exact .inr (.inr hy)))]
  case fieldAddr t x f => rw [hx x (by simp)]
  case field t x f => rw [hx x (by simp)]
  case indexAddr t x i => rw [hx x (by simp), hx i (by simp)]
  case index t x i => rw [hx x (by simp), hx i (by simp)]
  case extract x i => rw [hx x (by simp)]
  case call c =>
    obtain ⟨callee, args, ats⟩ := c
    have ha : oprs s args.toList = oprs s' args.toList := oprs_congr (fun x hm => hx x (by simp [Call.operands]; exact .inr (by simpa using hm)))
    cases callee with
    | builtin b => cases b <;> simp only [callL, ha]
    | value f => simp only [callL, ha, hx f (by simp [Call.operands])]
    | invoke r n => simp only [callL, ha, hx r (by simp [Call.operands])]

/-- The slots that an operation looks at are all that counts. -/
theorem opL_looks {C : Callee'} {s s' : S} {h : H} {all : Array Oper} {o : Oper} (hx : ∀ t ∈ o.looksAt all, s t = s' t) : opL P C s o.op h = opL P C s' o.op h := by
  refine opL_congr (fun x hm => ?_)
  cases x with
  | tmp t =>
    simp only [opr]
    rw [hx t]
    simp only [Oper.looksAt, List.mem_append, List.mem_filterMap]
    exact .inl ⟨.tmp t, by simpa using hm, rfl⟩
  | _ => rfl
theorem wantL_looks {s s' : S} {all : Array Oper} {o : Oper} (hx : ∀ t ∈ o.looksAt all, s t = s' t) : wantL all s o = wantL all s' o := by
  unfold wantL
  cases hg : o.guard with
  | none => rfl
  | some g =>
    obtain ⟨j, want⟩ := g
    simp only []
    cases hd : (all[j]?).bind (·.dst) with
    | none => rfl
    | some d =>
      simp only []
      rw [hx d]
      simp only [Oper.looksAt, hg, List.mem_append]
      exact .inr (by rw [hd]; simp)

/-- What a region in the text's order did, operation by operation. -/
structure DStep (P : Program) (C : Callee') (N : Nat) (all : Array Oper) (o : Oper) (s s' : S) (h h' : H) (v : LV) : Prop where
  dst : okDst N o.dst = true
  slot : s' = updO s o.dst v
  pre : Pre h h'
  did : (wantL all s o = some true ∧ opL P C s o.op { h with lob := h.box.length, lor := h.row.length } = some (v, h')) ∨ (wantL all s o = some false ∧ v = .tup [] ∧ h' = h)

theorem opsD_trace {C : Callee'} (hC : CLen C) {N : Nat} {all : Array Oper} : ∀ {l : List Oper} {s s' : S} {h h' : H}, opsD P C N all l s h = some (s', h') →
    ∃ (σ : Nat → S) (η : Nat → H) (val : Nat → LV), σ 0 = s ∧ η 0 = h ∧ σ l.length = s' ∧ η l.length = h' ∧
      ∀ i o, l[i]? = some o → DStep P C N all o (σ i) (σ (i + 1)) (η i) (η (i + 1)) (val i)
  | [], s, s', h, h', ho => by
    simp only [opsD] at ho; cases ho
    exact ⟨fun _ => s, fun _ => h, fun _ => .undef, rfl, rfl, rfl, rfl, fun i o hi => by simp at hi⟩
  | o :: os, s, s', h, h', ho => by
    have cons : ∀ (v : LV) (h1 : H), DStep P C N all o s (updO s o.dst v) h h1 v → opsD P C N all os (updO s o.dst v) h1 = some (s', h') →
        ∃ (σ : Nat → S) (η : Nat → H) (val : Nat → LV), σ 0 = s ∧ η 0 = h ∧ σ (o :: os).length = s' ∧ η (o :: os).length = h' ∧
          ∀ i q, (o :: os)[i]? = some q → DStep P C N all q (σ i) (σ (i + 1)) (η i) (η (i + 1)) (val i) := by
      intro v h1 hst hrest
      obtain ⟨σ, η, val, e1, e2, e3, e4, e5⟩ := opsD_trace hC hrest
      refine ⟨fun i => match i with | 0 => s | i + 1 => σ i, fun i => match i with | 0 => h | i + 1 => η i, fun i => match i with | 0 => v | i + 1 => val i, rfl, rfl, e3, e4, ?_⟩
      intro i q hi
      cases i with
      | zero =>
        simp at hi; subst hi
        show DStep P C N all o s (σ 0) h (η 0) v
        rw [e1, e2]; exact hst
      | succ i => exact e5 i q (by simpa using hi)
    simp only [opsD] at ho
    split at ho
    · rename_i hd
      split at ho
      · rename_i hw
        split at ho
        · rename_i v h1 hop
          exact cons v h1 ⟨hd, rfl, opL_pre hC hop, .inl ⟨hw, hop⟩⟩ ho
        · cases ho
      · rename_i hw
        exact cons (.tup []) h ⟨hd, rfl, .refl _, .inr ⟨hw, rfl, rfl⟩⟩ ho
      · cases ho
    · cases ho

end Go.LM
