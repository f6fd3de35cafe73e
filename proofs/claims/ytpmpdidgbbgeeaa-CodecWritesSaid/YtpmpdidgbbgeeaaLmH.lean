import Derived.Test.YtpmpdidgbbgeeaaLmG
namespace Go.LM
variable {P : Program} {G : Gh} {w : World}

theorem bin_ok {op : BinOp} {t : TypeId} {x y v : LV} {x' y' : Value} (ox oy : Operand) (h : binL P op t x y = some v) (vx : VR G w x x') (vy : VR G w y y') :
    ∃ u, (do eqGuard op t ox oy x' y'; binOp op t x' y' : Sem Value).run P w = .ok u w ∧ VR G w v u := by
  have hg : ∀ x' y', (∀ a b, x' = .agg a → y' = .agg b → P.eqGuardType P.depth t = false) → (x' = .nilIface → y' = .nilIface → False) →
      (eqGuard op t ox oy x' y').run P w = .ok () w := by
    intro x' y' h1 h2
    cases op <;> first
      | (simp [eqGuard]; done)
      | (unfold eqGuard
         simp only [Bool.not_true, Bool.false_eq_true, if_false]
         split
         · exact (h2 rfl rfl).elim
         · have := h1 _ _ rfl rfl
           simp [this]
         · rfl)
  unfold binL at h
  split at h
  · rename_i k a k' b
    cases vx; cases vy
    obtain ⟨u, hu, hv⟩ : ∃ u, (binOp op t (.int k a) (.int k' b)).run P w = .ok u w ∧ VR G w v u := by
      split at h
      · exact shift_ok (by
          rename_i hs
          exact h)
      · split at h
        · rename_i hs hk; subst hk
          exact int_ok (by simpa using hs) h
        · cases h
    exact ⟨u, by simp only [Sem.run_bind]; rw [hg _ _ (by intro a b h; cases h) (by intro h; cases h)]; exact hu, hv⟩
  · cases vx; cases vy
    obtain ⟨u, hu, hv⟩ := str_ok (P := P) (G := G) (w := w) (t := t) h
    exact ⟨u, by simp only [Sem.run_bind]; rw [hg _ _ (by intro a b h; cases h) (by intro h; cases h)]; exact hu, hv⟩
  · split at h
    case isFalse => cases h
    rename_i hq
    have key : ∀ b, eqTopL P t x y = some b → (eqGuard op t ox oy x' y').run P w = .ok () w := by
      intro b he
      refine hg _ _ ?_ ?_
      · rintro a b rfl rfl
        cases vx <;> cases vy <;> first
          | (cases hq; done)
          | (simp only [eqTopL] at he
             split at he
             · cases he
             · rename_i hq; simpa using hq)
      · rintro rfl rfl
        cases vx <;> cases vy <;> cases hq
    split at h
    · cases he : eqTopL P t x y with
      | none => rw [he] at h; cases h
      | some b =>
        rw [he] at h; cases h
        refine ⟨.bool b, ?_, .bool _⟩
        simp only [Sem.run_bind, key b he, Result.andThen_ok]
        exact binTop_ok (.inl rfl) he vx vy hq
    · cases he : eqTopL P t x y with
      | none => rw [he] at h; cases h
      | some b =>
        rw [he] at h; cases h
        refine ⟨.bool (!b), ?_, .bool _⟩
        simp only [Sem.run_bind, key b he, Result.andThen_ok]
        exact binTop_ok (.inr rfl) he vx vy hq
    · cases h

end Go.LM
