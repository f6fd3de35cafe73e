import Derived.Test.YtpmpdidgbbgeeaaLmR
namespace Go.LM
variable {P : Program}

/-! ### equality that is reckoned -/
mutual
theorem beq_eq : ∀ {a b : LV}, LV.beq a b = true → a = b
  | .undef, b, h => by cases b <;> simp_all [LV.beq]
  | .bool x, b, h => by cases b <;> simp_all [LV.beq]
  | .int k x, b, h => by cases b <;> simp_all [LV.beq]
  | .str x, b, h => by cases b <;> simp_all [LV.beq]
  | .nilp, b, h => by cases b <;> simp_all [LV.beq]
  | .ptr x y, b, h => by cases b <;> simp_all [LV.beq]
  | .cptr x, b, h => by
    cases b <;> simp only [LV.beq, Bool.false_eq_true] at h
    rw [beq_eq h]
  | .nils, b, h => by cases b <;> simp_all [LV.beq]
  | .sl x y z l, b, h => by
    cases b <;> simp only [LV.beq, Bool.false_eq_true, Bool.and_eq_true, decide_eq_true_eq] at h
    obtain ⟨⟨⟨rfl, rfl⟩, rfl⟩, h⟩ := h
    rw [beqs_eq h]
  | .fn f l m, b, h => by
    cases b <;> simp only [LV.beq, Bool.false_eq_true, Bool.and_eq_true, decide_eq_true_eq] at h
    obtain ⟨⟨rfl, h⟩, h'⟩ := h
    rw [beqs_eq h, beqs_eq h']
  | .nilf, b, h => by cases b <;> simp_all [LV.beq]
  | .nili, b, h => by cases b <;> simp_all [LV.beq]
  | .iface t v, b, h => by
    cases b <;> simp only [LV.beq, Bool.false_eq_true, Bool.and_eq_true, decide_eq_true_eq] at h
    obtain ⟨rfl, h⟩ := h
    rw [beq_eq h]
  | .agg l, b, h => by
    cases b <;> simp only [LV.beq, Bool.false_eq_true] at h
    rw [beqs_eq h]
  | .tup l, b, h => by
    cases b <;> simp only [LV.beq, Bool.false_eq_true] at h
    rw [beqs_eq h]
theorem beqs_eq : ∀ {l m : List LV}, LV.beqs l m = true → l = m
  | [], m, h => by cases m <;> simp_all [LV.beqs]
  | a :: l, m, h => by
    cases m <;> simp only [LV.beqs, Bool.false_eq_true, Bool.and_eq_true] at h
    rw [beq_eq h.1, beqs_eq h.2]
end
mutual
theorem beq_refl : ∀ (a : LV), LV.beq a a = true
  | .undef => by simp [LV.beq]
  | .bool x => by simp [LV.beq]
  | .int k x => by simp [LV.beq]
  | .str x => by simp [LV.beq]
  | .nilp => by simp [LV.beq]
  | .ptr x y => by simp [LV.beq]
  | .cptr x => by simp only [LV.beq]; exact beq_refl x
  | .nils => by simp [LV.beq]
  | .sl x y z l => by simp only [LV.beq, decide_true, Bool.true_and]; exact beqs_refl l
  | .fn f l m => by simp only [LV.beq, decide_true, Bool.true_and, Bool.and_eq_true]; exact ⟨beqs_refl l, beqs_refl m⟩
  | .nilf => by simp [LV.beq]
  | .nili => by simp [LV.beq]
  | .iface t v => by simp only [LV.beq, decide_true, Bool.true_and]; exact beq_refl v
  | .agg l => by simp only [LV.beq]; exact beqs_refl l
  | .tup l => by simp only [LV.beq]; exact beqs_refl l
theorem beqs_refl : ∀ (l : List LV), LV.beqs l l = true
  | [] => by simp [LV.beqs]
  | a :: l => by simp only [LV.beqs, Bool.and_eq_true]; exact ⟨beq_refl a, beqs_refl l⟩
end
theorem boxB_eq {a b : Option Box} (h : boxB a b = true) : a = b := by
  cases a with
  | none => cases b with
    | none => rfl
    | some b => simp [boxB] at h
  | some a => cases b with
    | none => simp [boxB] at h
    | some b =>
      simp only [boxB, Bool.and_eq_true, beq_iff_eq] at h
      obtain ⟨ro, c⟩ := a; obtain ⟨ro', c'⟩ := b
      obtain ⟨h1, h2⟩ := h
      dsimp only at h1 h2; subst h1; rw [beqs_eq h2]
theorem boxB_refl (a : Option Box) : boxB a a = true := by
  cases a with
  | none => rfl
  | some a => simp only [boxB, beq_self_eq_true, Bool.true_and]; exact beqs_refl _

/-! ### what an operation does, and where -/
theorem map_q {x : Option LV} {h h' : H} {v : LV} (hx : x.map (·, h) = some (v, h')) : h' = h ∧ ∀ g : H, x.map (·, g) = some (v, g) := by
  cases x with
  | none => cases hx
  | some y => simp only [Option.map_some, Option.some.injEq, Prod.mk.injEq] at hx; obtain ⟨rfl, rfl⟩ := hx; exact ⟨rfl, fun g => rfl⟩
theorem opL_q {C : Callee'} {s : S} {o : Op} {h h' : H} {v : LV} (hc : clOp P o = .q) (ho : opL P C s o h = some (v, h')) : h' = h ∧ ∀ g, opL P C s o g = some (v, g) := by
  cases o <;> simp only [clOp] at hc <;> try (cases hc; done)
  case call c =>
    simp only [opL, callL] at ho ⊢
    obtain ⟨callee, args, ats⟩ := c
    cases callee with
    | builtin b =>
      cases b <;> simp only at hc ho ⊢ <;> first
        | (cases hc; done)
        | (cases ho; done)
        | (split at ho
           · exact map_q ho
           · cases ho)
    | value f => cases hc
    | invoke r n => cases hc
  case convert a b x =>
    simp only [opL] at ho ⊢
    split at ho
    · simp only [convL] at ho ⊢
      split at ho
      · cases ho
      · split at ho <;> rename_i hb <;> (try rw [hb] at hc)
        · split at ho
          · cases ho; exact ⟨rfl, fun g => rfl⟩
          · cases ho
        · repeat' split at ho
          all_goals first
            | (cases ho; done)
            | (cases ho; exact ⟨rfl, fun g => rfl⟩)
            | (rw [Option.map_eq_some_iff] at ho
               obtain ⟨l, hl, he⟩ := ho
               cases he
               exact ⟨rfl, fun g => by simp_all⟩)
        · exfalso; split at hc <;> simp_all
        · cases ho
    · cases ho
  case slice t x lo hi mx =>
    cases mx with
    | some m => simp only [opL] at ho; cases ho
    | none =>
      simp only [opL] at ho ⊢
      split at ho
      · simp only [sliceL] at ho ⊢
        split at ho <;> rename_i hb <;> (try rw [hb] at hc)
        · repeat' split at ho
          all_goals first
            | (cases ho; done)
            | (cases ho; refine ⟨rfl, fun g => ?_⟩; first | (simp_all; done) | (simp_all; intros; omega))
        · repeat' split at ho
          all_goals first
            | (cases ho; done)
            | (cases ho; exact ⟨rfl, fun g => by simp_all⟩)
        · cases hc
        · cases ho
      · cases ho
  case makeFunc fn a b =>
    cases fn <;> simp only [opL] at ho ⊢ <;> try (cases ho; done)
    split at ho
    · cases ho; exact ⟨rfl, fun g => rfl⟩
    · cases ho
  all_goals (simp only [opL] at ho ⊢)
  all_goals first
    | (exact map_q ho)
    | (split at ho <;> first
        | (cases ho; done)
        | (exact map_q ho)
        | (cases ho; exact ⟨rfl, fun g => rfl⟩))
theorem opL_a {C : Callee'} {s : S} {o : Op} {h h' : H} {v : LV} (hc : clOp P o = .a) (ho : opL P C s o h = some (v, h')) :
    ∃ lb lr, h' = { h with box := h.box ++ lb, row := h.row ++ lr } ∧ (lb = [] ∨ lb.length = 1 ∧ v = .ptr h.box.length 0) ∧ (lr = [] ∨ lr.length = 1 ∧ ∃ hi sz xs, v = .sl h.row.length hi sz xs) ∧
      ∀ g, g.box.length = h.box.length → g.row.length = h.row.length → opL P C s o g = some (v, { g with box := g.box ++ lb, row := g.row ++ lr }) := by
  cases o <;> simp only [clOp] at hc <;> try (cases hc; done)
  case alloc t =>
    simp only [opL] at ho ⊢
    split at ho
    · split at ho
      · rename_i hk
        simp only [newBoxL, Option.some.injEq, Prod.mk.injEq] at ho
        obtain ⟨rfl, rfl⟩ := ho
        exact ⟨_, [], by simp; rfl, .inr ⟨rfl, rfl⟩, .inl rfl, fun g g1 g2 => by rw [if_pos hk]; simp [newBoxL, g1]⟩
      · cases ho
    · cases ho
  case box t x =>
    simp only [opL] at ho ⊢
    split at ho
    · split at ho
      · rename_i hk
        simp only [newBoxL, Option.some.injEq, Prod.mk.injEq] at ho
        obtain ⟨rfl, rfl⟩ := ho
        exact ⟨_, [], by simp; rfl, .inr ⟨rfl, rfl⟩, .inl rfl, fun g g1 g2 => by rw [if_pos hk]; simp [newBoxL, g1]⟩
      · cases ho
    · cases ho
  case buildSlice t n ps =>
    simp only [opL] at ho ⊢
    split at ho
    · simp only [buildSliceL] at ho ⊢
      repeat' split at ho
      all_goals first
        | (cases ho; done)
        | (simp only [newRowL, Option.some.injEq, Prod.mk.injEq] at ho
           obtain ⟨rfl, rfl⟩ := ho
           exact ⟨[], _, by simp; rfl, .inl rfl, .inr ⟨rfl, _, _, _, rfl⟩, fun g g1 g2 => by simp_all [newRowL]⟩)
    · cases ho
  case convert a b x =>
    simp only [opL] at ho ⊢
    split at ho
    · simp only [convL] at ho ⊢
      split at ho
      · cases ho
      · split at ho <;> rename_i hb <;> (try rw [hb] at hc)
        · exfalso; split at hc <;> simp_all
        · exfalso; split at hc <;> simp_all
        · split at ho
          · split at ho
            · simp only [newRowL, Option.some.injEq, Prod.mk.injEq] at ho
              obtain ⟨rfl, rfl⟩ := ho
              exact ⟨[], _, by simp; rfl, .inl rfl, .inr ⟨rfl, _, _, _, rfl⟩, fun g g1 g2 => by simp_all [newRowL]⟩
            · cases ho
          · split at ho
            · split at ho
              · rename_i hcnd
                obtain ⟨rfl, _⟩ := hcnd
                rw [hb] at hc
                cases hc
              · cases ho
            · cases ho
          · cases ho
        · cases ho
    · cases ho
  case slice t x lo hi mx =>
    split at hc <;> cases hc
  case call c =>
    split at hc <;> cases hc
theorem opL_l {C : Callee'} {s : S} {o : Op} {h h' : H} {v : LV} (hc : clOp P o = .l) (ho : opL P C s o h = some (v, h')) :
    h' = h ∧ ((∃ b off, (addrO o).bind (opr s) = some (.ptr b off) ∧ ∀ g, g.box[b]? = h.box[b]? → opL P C s o g = some (v, g)) ∨
      ((∃ c, (addrO o).bind (opr s) = some (.cptr c)) ∧ ∀ g, opL P C s o g = some (v, g))) := by
  cases o <;> simp only [clOp] at hc <;> try (cases hc; done)
  case load t x =>
    simp only [opL, addrO, Option.bind_some] at ho ⊢
    cases hx : opr s x with
    | none => rw [hx] at ho; cases ho
    | some p =>
      rw [hx] at ho
      dsimp only at ho ⊢
      refine ⟨map_same ho, ?_⟩
      cases p <;> simp only [loadL] at ho ⊢ <;> try (cases ho; done)
      case ptr b off =>
        refine .inl ⟨b, off, rfl, fun g hg => ?_⟩
        rw [hg]
        exact (map_q ho).2 g
      case cptr c =>
        exact .inr ⟨⟨c, rfl⟩, fun g => (map_q ho).2 g⟩
  case convert a b x => exfalso; split at hc <;> cases hc
  case slice t x lo hi mx => split at hc <;> cases hc
  case call c => split at hc <;> cases hc
theorem opL_s {C : Callee'} {s : S} {o : Op} {h h' : H} {v : LV} (hc : clOp P o = .s) (ho : opL P C s o h = some (v, h')) :
    ∃ b off B', (addrO o).bind (opr s) = some (.ptr b off) ∧ b < h.box.length ∧ h' = { h with box := h.box.set b B' } ∧
      ∀ g, g.box[b]? = h.box[b]? → g.lob = h.lob → opL P C s o g = some (v, { g with box := g.box.set b B' }) := by
  cases o <;> simp only [clOp] at hc <;> try (cases hc; done)
  case store t x y =>
    simp only [opL, addrO, Option.bind_some] at ho ⊢
    cases hx : opr s x with
    | none => rw [hx] at ho; cases ho
    | some p =>
      cases hy : opr s y with
      | none => rw [hx, hy] at ho; cases ho
      | some z =>
        rw [hx, hy] at ho
        cases p <;> simp only [storeL] at ho ⊢ <;> try (cases ho; done)
        rename_i b off
        cases hB : h.box[b]? with
        | none => rw [hB] at ho; cases ho
        | some B =>
          rw [hB] at ho
          dsimp only at ho
          split at ho
          · rename_i hcnd
            cases ho
            refine ⟨b, off, _, rfl, (List.getElem?_eq_some_iff.1 hB).1, rfl, fun g hg hl => ?_⟩
            rw [hg, hB]
            dsimp only
            rw [hl, if_pos hcnd]; rfl
          · cases ho
  case convert a b x => exfalso; split at hc <;> cases hc
  case slice t x lo hi mx => split at hc <;> cases hc
  case call c => split at hc <;> cases hc
theorem opL_p {C : Callee'} {s : S} {o : Op} {h h' : H} {v : LV} (hc : clOp P o = .p) (ho : opL P C s o h = some (v, h')) :
    (h' = h ∧ ∀ g, opL P C s o g = some (v, g)) ∨
    (∃ n, h' = { h with row := h.row ++ [n] } ∧ ∀ g, g.row.length = h.row.length → opL P C s o g = some (v, { g with row := g.row ++ [n] })) ∨
    (∃ r n, r ≠ 0 ∧ r < h.row.length ∧ (∃ x ∈ o.operands, ∃ hi sz xs, opr s x = some (.sl r hi sz xs)) ∧ h' = { h with row := h.row.set r n } ∧
      ∀ g, g.row[r]? = h.row[r]? → g.lor = h.lor → opL P C s o g = some (v, { g with row := g.row.set r n })) := by
  cases o <;> simp only [clOp] at hc <;> try (cases hc; done)
  case convert a b x =>
    simp only [opL] at ho ⊢
    split at ho
    case h_2 => cases ho
    rename_i z hz
    split at hc
    · rename_i e1 e2 ha hb
      simp only [convL, ha, hb] at ho ⊢
      split at ho
      · split at ho
        · rename_i he
          simp only [newRowL, Option.some.injEq, Prod.mk.injEq] at ho
          obtain ⟨rfl, rfl⟩ := ho
          refine .inr (.inl ⟨_, rfl, fun g hg => ?_⟩)
          simp only [newRowL, hg]
        · cases ho
      · split at ho
        · rename_i he
          split at ho
          · rename_i hcnd
            simp only [Option.some.injEq, Prod.mk.injEq] at ho
            obtain ⟨rfl, rfl⟩ := ho
            obtain ⟨a1, a2, a3, a4⟩ := hcnd
            refine .inr (.inr ⟨_, _, a2, (List.getElem?_eq_some_iff.1 a4).1, ⟨x, by simp [Op.operands], _, _, _, hz⟩, rfl, fun g hg hl => ?_⟩)
            rw [if_pos ⟨a1, a2, by rw [hl]; exact a3, by rw [hg]; exact a4⟩]
          · cases ho
        · cases ho
      · cases ho
    · cases hc
    · cases hc
  case slice t x lo hi mx => split at hc <;> cases hc
  case call c =>
    obtain ⟨callee, args, ats⟩ := c
    cases callee with
    | value f => cases hc
    | invoke r n => cases hc
    | builtin b =>
      cases b <;> simp only at hc <;> try (cases hc; done)
      simp only [opL, callL] at ho ⊢
      split at ho
      · rename_i x y t u ha ht
        simp only [appendL] at ho ⊢
        split at ho
        case h_2 => cases ho
        rename_i e hu hu2
        split at ho
        case h_2 => cases ho
        rename_i sz by_ z h1 h2 h3
        split at ho
        case isFalse => cases ho
        rename_i hz
        split at ho
        case h_3 => cases ho
        · rename_i hel
          refine .inl ?_
          split at ho
          · cases ho; exact ⟨rfl, fun g => by rw [if_pos hz]⟩
          · cases ho; exact ⟨rfl, fun g => by rw [if_pos hz]⟩
          · cases ho
        · rename_i ys hne hel
          split at ho
          · split at ho
            · rename_i hb
              simp only [newRowL, Option.some.injEq, Prod.mk.injEq] at ho
              obtain ⟨rfl, rfl⟩ := ho
              refine .inr (.inl ⟨_, rfl, fun g hg => ?_⟩)
              rw [if_pos hz, if_pos hb]; simp only [newRowL, hg]
            · cases ho
          · split at ho
            · rename_i hb
              simp only [Option.some.injEq, Prod.mk.injEq] at ho
              obtain ⟨rfl, rfl⟩ := ho
              obtain ⟨a1, a2, a3, a4, a5⟩ := hb
              refine .inr (.inr ⟨_, _, a2, (List.getElem?_eq_some_iff.1 a4).1, ?_, rfl, fun g hg hl => ?_⟩)
              · obtain ⟨x0, x1, hx0⟩ : ∃ x0 x1, args.toList = [x0, x1] ∨ True := ⟨.func 0, .func 0, .inr trivial⟩
                cases hA : args.toList with
                | nil => rw [hA] at ha; simp [oprs] at ha
                | cons q qs =>
                  rw [hA] at ha
                  simp only [oprs] at ha
                  cases hq : opr s q with
                  | none => rw [hq] at ha; cases ha
                  | some q' =>
                    rw [hq] at ha
                    cases hqs : oprs s qs with
                    | none => rw [hqs] at ha; cases ha
                    | some q'' =>
                      rw [hqs] at ha
                      simp only [Option.some.injEq, List.cons.injEq] at ha
                      refine ⟨q, ?_, _, _, _, by rw [hq, ha.1]⟩
                      have : q ∈ args.toList := by rw [hA]; simp
                      simpa [Op.operands, Call.operands] using this
              · rw [if_pos hz, if_pos ⟨a1, a2, by rw [hl]; exact a3, by rw [hg]; exact a4, a5⟩]
            · cases ho
          · cases ho
      · cases ho
end Go.LM
