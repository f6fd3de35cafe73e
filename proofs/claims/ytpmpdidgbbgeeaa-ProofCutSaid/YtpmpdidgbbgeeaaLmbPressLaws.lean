import Derived.Test.YtpmpdidgbbgeeaaLmTrbR1
import Derived.Test.YtpmpdidgbbgeeaaLmbPress4
namespace Go.LM
open Go.Proofs
set_option maxRecDepth 8000
set_option maxHeartbeats 1600000
set_option linter.unusedSimpArgs false

/-! ### are pages too many? -/
def SmallL (l : List LaneR) : Prop := ∀ x ∈ l, x.puts.length ≤ 100
def FewP (p : PageR) : Prop := p.lanes.length ≤ 20 ∧ SmallL p.lanes
def FewL (l : List PageR) : Prop := ∀ p ∈ l, FewP p
def LargeP (l : List PageR) (u : LV) : Prop := ∃ v, u = .bool v ∧ (v = false → l.length ≤ 40 ∧ ∀ p ∈ l, FewP p)
theorem all_take {α : Type} {R : α → Prop} {l : List α} {i : Nat} {x : α} (hx : l[i]? = some x) (h : ∀ y ∈ l.take i, R y) (h2 : R x) : ∀ y ∈ l.take (i + 1), R y := by
  intro y hy
  obtain ⟨hlt, rfl⟩ := List.getElem?_eq_some_iff.1 hx
  rw [← List.take_append_getElem hlt] at hy
  rcases List.mem_append.1 hy with hy | hy
  · exact h y hy
  · rw [List.mem_singleton.1 hy]; exact h2
def Le40 (i : Nat) : Prop := i ≤ 40
def ILG (o : Option (Nat × Nat)) (l : List PageR) (h0 : H) (i : Nat) (s : S) (h : H) : Prop :=
  s 0 = mkS o 4 (l.map PageR.e) ∧ s 3 = .int .i64 i ∧ i ≤ l.length ∧ Le40 i ∧ FewL (l.take i) ∧ Keep h0 h
def ILG2 (o : Option (Nat × Nat)) (l : List PageR) (p : PageR) (h0 : H) (i k : Nat) (s : S) (h : H) : Prop :=
  s 0 = mkS o 4 (l.map PageR.e) ∧ s 3 = .int .i64 i ∧ s 4 = .int .i64 k ∧ k ≤ p.lanes.length ∧ SmallL (p.lanes.take k) ∧ Keep h0 h
theorem cLarge (o : Option (Nat × Nat)) (l : List PageR) (h : H) : ∃ v, runI Try.prog TA 19 [mkS o 4 (l.map PageR.e)] h = some (.bool v, hp Try.prog TA 19 [mkS o 4 (l.map PageR.e)] h) ∧ (v = false → l.length ≤ 40 ∧ ∀ p ∈ l, FewP p) := by
  have key : ∃ u h', runI Try.prog TA 19 [mkS o 4 (l.map PageR.e)] h = some (u, h') ∧ LargeP l u ∧ Keep h h' := by
    refine calls_of rfl res19 rfl ?_
    simp (maxSteps := 10000000) (maxDischargeDepth := 30) only [q19, r19, go_sem, Nat.reduceEqDiff, ↓reduceIte, Nat.reduceAdd, Nat.reduceMul, Nat.reduceLeDiff, Nat.reduceLT, reduceCtorEq, Int.reduceToNat, Int.reduceLE, Int.reduceLT, Int.reduceEq, Int.reduceNeg, Int.reduceNe, Int.reducePow, Nat.reducePow, Nat.reduceSub, IntKind.bits]
    refine ru_loop (fun i => l.length - i) (ILG o l h) 0 ?_ ?_
    · unfold ILG
      simp (maxSteps := 10000000) (maxDischargeDepth := 30) only [Int.natCast_zero, List.take_zero, go_sem, Nat.reduceEqDiff, ↓reduceIte, Nat.reduceAdd, Nat.reduceMul, Nat.reduceLeDiff, Nat.reduceLT, reduceCtorEq, Int.reduceToNat, Int.reduceLE, Int.reduceLT, Int.reduceEq, Int.reduceNeg, Int.reduceNe, Int.reducePow, Nat.reducePow, Nat.reduceSub, IntKind.bits]
      exact ⟨Nat.zero_le _, fun p hp => by cases hp⟩
    · rintro i s h1 ⟨e0, e3, hi, hi4, hf, k1⟩
      have hex : LargeP l (.bool (decide ((40 : Int) < l.length))) ∨ (i < l.length ∧ i < 40) := by
        by_cases c : i < l.length ∧ i < 40
        · exact .inr c
        · refine .inl ⟨_, rfl, fun hv => ?_⟩
          have hv := of_decide_eq_false hv
          obtain rfl : i = l.length := by omega
          rw [List.take_length] at hf
          exact ⟨by omega, hf⟩
      by_cases c1 : (i : Int) < l.length
      rotate_left
      · have hx := hex.resolve_right (by omega)
        simp (maxSteps := 10000000) (maxDischargeDepth := 30) only [e0, e3, c1, hx, k1, go_sem, Nat.reduceEqDiff, ↓reduceIte, Nat.reduceAdd, Nat.reduceMul, Nat.reduceLeDiff, Nat.reduceLT, reduceCtorEq, Int.reduceToNat, Int.reduceLE, Int.reduceLT, Int.reduceEq, Int.reduceNeg, Int.reduceNe, Int.reducePow, Nat.reducePow, Nat.reduceSub, IntKind.bits]
      by_cases c2 : (i : Int) < 40
      rotate_left
      · have hx := hex.resolve_right (by omega)
        simp (maxSteps := 10000000) (maxDischargeDepth := 30) only [e0, e3, c1, c2, hx, k1, go_sem, Nat.reduceEqDiff, ↓reduceIte, Nat.reduceAdd, Nat.reduceMul, Nat.reduceLeDiff, Nat.reduceLT, reduceCtorEq, Int.reduceToNat, Int.reduceLE, Int.reduceLT, Int.reduceEq, Int.reduceNeg, Int.reduceNe, Int.reducePow, Nat.reducePow, Nat.reduceSub, IntKind.bits]
      clear hex
      have hlt : i < l.length := by omega
      obtain ⟨p, hp⟩ : ∃ n, l[i]? = some n := ⟨l[i], List.getElem?_eq_getElem hlt⟩
      have ea : iaS (l.map PageR.e) (i : Int) = some (.cptr p.e) := iaS_map (Int.natCast_nonneg i) (by simpa using hp)
      have ew : IntKind.i64.wrap ((i : Int) + 1) = ((i + 1 : Nat) : Int) := by rw [wrap64 (by omega) (by omega)]; omega
      have hT : LargeP l (.bool true) := ⟨true, rfl, fun h => by cases h⟩
      by_cases c3 : (20 : Int) < p.lanes.length
      · simp (maxSteps := 10000000) (maxDischargeDepth := 30) only [e0, e3, c1, c2, ea, PageR.e, c3, hT, k1, go_sem, Nat.reduceEqDiff, ↓reduceIte, Nat.reduceAdd, Nat.reduceMul, Nat.reduceLeDiff, Nat.reduceLT, reduceCtorEq, Int.reduceToNat, Int.reduceLE, Int.reduceLT, Int.reduceEq, Int.reduceNeg, Int.reduceNe, Int.reducePow, Nat.reducePow, Nat.reduceSub, IntKind.bits]
      simp (maxSteps := 10000000) (maxDischargeDepth := 30) only [e0, e3, c1, c2, ea, PageR.e, c3, go_sem, Nat.reduceEqDiff, ↓reduceIte, Nat.reduceAdd, Nat.reduceMul, Nat.reduceLeDiff, Nat.reduceLT, reduceCtorEq, Int.reduceToNat, Int.reduceLE, Int.reduceLT, Int.reduceEq, Int.reduceNeg, Int.reduceNe, Int.reducePow, Nat.reducePow, Nat.reduceSub, IntKind.bits]
      refine ru_loop (fun k => p.lanes.length - k) (ILG2 o l p h i) 0 ?_ ?_
      · unfold ILG2
        simp (maxSteps := 10000000) (maxDischargeDepth := 30) only [e0, e3, Int.natCast_zero, List.take_zero, k1, go_sem, Nat.reduceEqDiff, ↓reduceIte, Nat.reduceAdd, Nat.reduceMul, Nat.reduceLeDiff, Nat.reduceLT, reduceCtorEq, Int.reduceToNat, Int.reduceLE, Int.reduceLT, Int.reduceEq, Int.reduceNeg, Int.reduceNe, Int.reducePow, Nat.reducePow, Nat.reduceSub, IntKind.bits]
        exact fun x hx => by cases hx
      · rintro k s2 h2 ⟨f0, f3, f4, hk, hg, k2⟩
        by_cases c4 : (k : Int) < p.lanes.length
        rotate_left
        · obtain rfl : k = p.lanes.length := by omega
          simp (maxSteps := 10000000) (maxDischargeDepth := 30) only [f0, f3, f4, ea, PageR.e, c4, ew, go_sem, Nat.reduceEqDiff, ↓reduceIte, Nat.reduceAdd, Nat.reduceMul, Nat.reduceLeDiff, Nat.reduceLT, reduceCtorEq, Int.reduceToNat, Int.reduceLE, Int.reduceLT, Int.reduceEq, Int.reduceNeg, Int.reduceNe, Int.reducePow, Nat.reducePow, Nat.reduceSub, IntKind.bits]
          refine ⟨i + 1, by omega, ?_⟩
          unfold ILG
          simp (maxSteps := 10000000) (maxDischargeDepth := 30) only [f0, f3, f4, k2, go_sem, Nat.reduceEqDiff, ↓reduceIte, Nat.reduceAdd, Nat.reduceMul, Nat.reduceLeDiff, Nat.reduceLT, reduceCtorEq, Int.reduceToNat, Int.reduceLE, Int.reduceLT, Int.reduceEq, Int.reduceNeg, Int.reduceNe, Int.reducePow, Nat.reducePow, Nat.reduceSub, IntKind.bits]
          refine ⟨by omega, show i + 1 ≤ 40 by omega, ?_⟩
          rw [List.take_length] at hg
          have hp20 : p.lanes.length ≤ 20 := by omega
          exact all_take (R := FewP) hp hf ⟨hp20, hg⟩
        obtain ⟨x, hx⟩ : ∃ n, p.lanes[k]? = some n := ⟨p.lanes[k]'(by omega), List.getElem?_eq_getElem (by omega)⟩
        have eb : iaS (p.lanes.map LaneR.e) (k : Int) = some (.cptr x.e) := iaS_map (Int.natCast_nonneg k) (by simpa using hx)
        have ew2 : IntKind.i64.wrap ((k : Int) + 1) = ((k + 1 : Nat) : Int) := by rw [wrap64 (by omega) (by omega)]; omega
        by_cases c5 : (100 : Int) < x.puts.length
        · simp (maxSteps := 10000000) (maxDischargeDepth := 30) only [f0, f3, f4, ea, PageR.e, c4, eb, LaneR.e, c5, hT, k2, go_sem, Nat.reduceEqDiff, ↓reduceIte, Nat.reduceAdd, Nat.reduceMul, Nat.reduceLeDiff, Nat.reduceLT, reduceCtorEq, Int.reduceToNat, Int.reduceLE, Int.reduceLT, Int.reduceEq, Int.reduceNeg, Int.reduceNe, Int.reducePow, Nat.reducePow, Nat.reduceSub, IntKind.bits]
        · simp (maxSteps := 10000000) (maxDischargeDepth := 30) only [f0, f3, f4, ea, PageR.e, c4, eb, LaneR.e, c5, ew2, go_sem, Nat.reduceEqDiff, ↓reduceIte, Nat.reduceAdd, Nat.reduceMul, Nat.reduceLeDiff, Nat.reduceLT, reduceCtorEq, Int.reduceToNat, Int.reduceLE, Int.reduceLT, Int.reduceEq, Int.reduceNeg, Int.reduceNe, Int.reducePow, Nat.reducePow, Nat.reduceSub, IntKind.bits]
          refine ⟨k + 1, by omega, ?_⟩
          unfold ILG2
          simp (maxSteps := 10000000) (maxDischargeDepth := 30) only [f0, f3, f4, k2, go_sem, Nat.reduceEqDiff, ↓reduceIte, Nat.reduceAdd, Nat.reduceMul, Nat.reduceLeDiff, Nat.reduceLT, reduceCtorEq, Int.reduceToNat, Int.reduceLE, Int.reduceLT, Int.reduceEq, Int.reduceNeg, Int.reduceNe, Int.reducePow, Nat.reducePow, Nat.reduceSub, IntKind.bits]
          have hk1 : k + 1 ≤ p.lanes.length := by omega
          have hx1 : x.puts.length ≤ 100 := by omega
          refine ⟨hk1, ?_⟩
          unfold SmallL at hg ⊢
          exact all_take (R := fun x : LaneR => x.puts.length ≤ 100) hx hg hx1
  obtain ⟨u, h', h1, ⟨v, rfl, hv⟩, k⟩ := key
  exact ⟨v, hp_eq h1 k, hv⟩

theorem lob0 : H0.lob = 0 := rfl
theorem awAwake39 (h : H) : runI Try.prog TA 20 [] h = some (.bool true, h) := runI_known rfl
theorem okOf {l : List PageR} (h1 : ∀ p ∈ l, FewP p) (h2 : ∀ p ∈ l, (∀ n ∈ [p.top, p.first, p.last], I64 n) ∧ ∀ x ∈ p.lanes, I64 x.x ∧ ∀ y ∈ x.puts, y.ok) : ∀ p ∈ l, p.ok := fun p hp =>
  ⟨(h2 p hp).1, Nat.le_trans (h1 p hp).1 (by decide), fun x hx => ⟨((h2 p hp).2 x hx).1, Nat.le_trans ((h1 p hp).2 x hx) (by decide), ((h2 p hp).2 x hx).2⟩⟩
abbrev Num (l : List PageR) : Prop := ∀ p ∈ l, (∀ n ∈ [p.top, p.first, p.last], I64 n) ∧ ∀ x ∈ p.lanes, I64 x.x ∧ ∀ y ∈ x.puts, y.ok
theorem pagesB_big {l : List PageR} (hl : l.length ≤ 2000) (h : ∀ x ∈ l, x.ok) : (pagesB l).length ≤ 1000000000000 := by have := pagesB_len hl h; omega
theorem lPressPages (o : Option (Nat × Nat)) (l : List PageR) (hn : Num l) : ∃ h', runI Try.prog TA 3 [mkS o 4 (l.map PageR.e)] H0 = some (.bool true, h') := by
  refine true_of rfl res3 rfl ?_
  obtain ⟨v, e1, hv⟩ := cLarge o l H0
  cases v
  · obtain ⟨la0, hf⟩ := hv rfl; have la := Nat.le_trans la0 (show 40 ≤ 2000 by decide)
    have hx := okOf hf hn
    simp (maxSteps := 10000000) (maxDischargeDepth := 30) only [q3, r3, e1, go_sem, Nat.reduceEqDiff, ↓reduceIte, Nat.reduceAdd, Nat.reduceMul, Nat.reduceLeDiff, Nat.reduceLT, reduceCtorEq, Int.reduceToNat, Int.reduceLE, Int.reduceLT, Int.reduceEq, Int.reduceNeg, Int.reduceNe, Int.reducePow, Nat.reducePow, Nat.reduceSub, IntKind.bits]
    have w1 : WF (hp Try.prog TA 19 [mkS o 4 (l.map PageR.e)] H0) := wf0.keep ((Keep.refl _).hp _ _)
    generalize hp Try.prog TA 19 [mkS o 4 (l.map PageR.e)] H0 = g1 at *
    refine ro_kcall (cPPages o l g1 w1 la hx) w1 (fun h2 k2 w2 => ?_)
    simp (maxSteps := 10000000) (maxDischargeDepth := 30) only [go_sem, Nat.reduceEqDiff, ↓reduceIte, Nat.reduceAdd, Nat.reduceMul, Nat.reduceLeDiff, Nat.reduceLT, reduceCtorEq, Int.reduceToNat, Int.reduceLE, Int.reduceLT, Int.reduceEq, Int.reduceNeg, Int.reduceNe, Int.reducePow, Nat.reducePow, Nat.reduceSub, IntKind.bits]
    refine ro_kcall (cRPPages o l h2 w2 la hx) w2 (fun h3 k3 w3 => ?_)
    simp (maxSteps := 10000000) (maxDischargeDepth := 30) only [go_sem, Nat.reduceEqDiff, ↓reduceIte, Nat.reduceAdd, Nat.reduceMul, Nat.reduceLeDiff, Nat.reduceLT, reduceCtorEq, Int.reduceToNat, Int.reduceLE, Int.reduceLT, Int.reduceEq, Int.reduceNeg, Int.reduceNe, Int.reducePow, Nat.reducePow, Nat.reduceSub, IntKind.bits]
    refine ro_kcall (cSameG _ _ (pagesB l) (pagesB l) (pagesB_big la hx) h3 w3) w3 (fun h4 k4 w4 => ?_)
    simp (maxSteps := 10000000) (maxDischargeDepth := 30) only [awAwake39, go_sem, Nat.reduceEqDiff, ↓reduceIte, Nat.reduceAdd, Nat.reduceMul, Nat.reduceLeDiff, Nat.reduceLT, reduceCtorEq, Int.reduceToNat, Int.reduceLE, Int.reduceLT, Int.reduceEq, Int.reduceNeg, Int.reduceNe, Int.reducePow, Nat.reducePow, Nat.reduceSub, IntKind.bits]
  · simp (maxSteps := 10000000) (maxDischargeDepth := 30) only [q3, r3, e1, awAwake39, go_sem, Nat.reduceEqDiff, ↓reduceIte, Nat.reduceAdd, Nat.reduceMul, Nat.reduceLeDiff, Nat.reduceLT, reduceCtorEq, Int.reduceToNat, Int.reduceLE, Int.reduceLT, Int.reduceEq, Int.reduceNeg, Int.reduceNe, Int.reducePow, Nat.reducePow, Nat.reduceSub, IntKind.bits]
theorem lPressPut (p q : PutR) (hp : p.ok) (hq : q.ok) : ∃ h', runI Try.prog TA 4 [p.e, q.e] H0 = some (.bool true, h') := by
  refine true_of rfl res4 rfl ?_
  have pe := put_eq p q
  have lp := putB_len hp
  have hd : decide (putB p = putB q) = decide (p = q) := by rw [Bool.eq_iff_iff]; simpa using putB_iff hp hq
  have k0 : Keep H0 ((H0.alloc p.e.cells).alloc q.e.cells) := ((Keep.refl H0).alloc _).alloc _
  have w0 := wf0.keep k0
  have gp : ((H0.alloc p.e.cells).alloc q.e.cells).get H0.len = some ⟨false, p.e.cells⟩ := by simp (maxSteps := 10000000) (maxDischargeDepth := 30) only [go_sem, Nat.reduceEqDiff, ↓reduceIte, Nat.reduceAdd, Nat.reduceMul, Nat.reduceLeDiff, Nat.reduceLT, reduceCtorEq, Int.reduceToNat, Int.reduceLE, Int.reduceLT, Int.reduceEq, Int.reduceNeg, Int.reduceNe, Int.reducePow, Nat.reducePow, Nat.reduceSub, IntKind.bits]
  have gq : ((H0.alloc p.e.cells).alloc q.e.cells).get (H0.len + 1) = some ⟨false, q.e.cells⟩ := by simp (maxSteps := 10000000) (maxDischargeDepth := 30) only [go_sem, Nat.reduceEqDiff, ↓reduceIte, Nat.reduceAdd, Nat.reduceMul, Nat.reduceLeDiff, Nat.reduceLT, reduceCtorEq, Int.reduceToNat, Int.reduceLE, Int.reduceLT, Int.reduceEq, Int.reduceNeg, Int.reduceNe, Int.reducePow, Nat.reducePow, Nat.reduceSub, IntKind.bits]
  have c1 := fun h w => cPPut p h w hp
  have c2 := fun h w => cRPPut p h w hp
  have c3 := fun h w => cPPut q h w hq
  have ip := lt_of_get gp
  have iq := lt_of_get gq
  simp only [PutR.e, cells_agg] at *
  simp (maxSteps := 10000000) (maxDischargeDepth := 30) only [q4, r4, lob0, go_sem, Nat.reduceEqDiff, ↓reduceIte, Nat.reduceAdd, Nat.reduceMul, Nat.reduceLeDiff, Nat.reduceLT, reduceCtorEq, Int.reduceToNat, Int.reduceLE, Int.reduceLT, Int.reduceEq, Int.reduceNeg, Int.reduceNe, Int.reducePow, Nat.reducePow, Nat.reduceSub, IntKind.bits]
  generalize (H0.alloc _).alloc _ = g at *
  first
  | refine rw_kcallD (c1 _ (wf_up w0)) w0 (fun h1 k1 w1 => ?_)
  | refine rw_kcall (c1 _ w0) w0 (fun h1 k1 w1 => ?_)
  have gp1 := (k1.get ip).trans gp
  simp (maxSteps := 10000000) (maxDischargeDepth := 30) only [gp1, go_sem, Nat.reduceEqDiff, ↓reduceIte, Nat.reduceAdd, Nat.reduceMul, Nat.reduceLeDiff, Nat.reduceLT, reduceCtorEq, Int.reduceToNat, Int.reduceLE, Int.reduceLT, Int.reduceEq, Int.reduceNeg, Int.reduceNe, Int.reducePow, Nat.reducePow, Nat.reduceSub, IntKind.bits]
  first
  | refine rw_kcallD (c2 _ (wf_up w1)) w1 (fun h2 k2 w2 => ?_)
  | refine rw_kcall (c2 _ w1) w1 (fun h2 k2 w2 => ?_)
  have k12 := k1.trans k2
  have gp2 := (k12.get ip).trans gp
  simp (maxSteps := 10000000) (maxDischargeDepth := 30) only [gp2, go_sem, Nat.reduceEqDiff, ↓reduceIte, Nat.reduceAdd, Nat.reduceMul, Nat.reduceLeDiff, Nat.reduceLT, reduceCtorEq, Int.reduceToNat, Int.reduceLE, Int.reduceLT, Int.reduceEq, Int.reduceNeg, Int.reduceNe, Int.reducePow, Nat.reducePow, Nat.reduceSub, IntKind.bits]
  first
  | refine rw_kcallD (cSameG _ _ (putB p) (putB p) (by omega) _ (wf_up w2)) w2 (fun h3 k3 w3 => ?_)
  | refine rw_kcall (cSameG _ _ (putB p) (putB p) (by omega) _ w2) w2 (fun h3 k3 w3 => ?_)
  have k13 := k12.trans k3
  have gp3 := (k13.get ip).trans gp
  simp (maxSteps := 10000000) (maxDischargeDepth := 30) only [gp3, go_sem, Nat.reduceEqDiff, ↓reduceIte, Nat.reduceAdd, Nat.reduceMul, Nat.reduceLeDiff, Nat.reduceLT, reduceCtorEq, Int.reduceToNat, Int.reduceLE, Int.reduceLT, Int.reduceEq, Int.reduceNeg, Int.reduceNe, Int.reducePow, Nat.reducePow, Nat.reduceSub, IntKind.bits]
  first
  | refine rw_kcallD (c1 _ (wf_up w3)) w3 (fun h4 k4 w4 => ?_)
  | refine rw_kcall (c1 _ w3) w3 (fun h4 k4 w4 => ?_)
  have k14 := k13.trans k4
  have gp4 := (k14.get ip).trans gp
  have gq4 := (k14.get iq).trans gq
  simp (maxSteps := 10000000) (maxDischargeDepth := 30) only [gp4, gq4, go_sem, Nat.reduceEqDiff, ↓reduceIte, Nat.reduceAdd, Nat.reduceMul, Nat.reduceLeDiff, Nat.reduceLT, reduceCtorEq, Int.reduceToNat, Int.reduceLE, Int.reduceLT, Int.reduceEq, Int.reduceNeg, Int.reduceNe, Int.reducePow, Nat.reducePow, Nat.reduceSub, IntKind.bits]
  first
  | refine rw_kcallD (c3 _ (wf_up w4)) w4 (fun h5 k5 w5 => ?_)
  | refine rw_kcall (c3 _ w4) w4 (fun h5 k5 w5 => ?_)
  have k15 := k14.trans k5
  have gp5 := (k15.get ip).trans gp
  have gq5 := (k15.get iq).trans gq
  simp (maxSteps := 10000000) (maxDischargeDepth := 30) only [gp5, gq5, go_sem, Nat.reduceEqDiff, ↓reduceIte, Nat.reduceAdd, Nat.reduceMul, Nat.reduceLeDiff, Nat.reduceLT, reduceCtorEq, Int.reduceToNat, Int.reduceLE, Int.reduceLT, Int.reduceEq, Int.reduceNeg, Int.reduceNe, Int.reducePow, Nat.reducePow, Nat.reduceSub, IntKind.bits]
  first
  | refine rw_kcallD (cSameG _ _ (putB p) (putB q) (by omega) _ (wf_up w5)) w5 (fun h6 k6 w6 => ?_)
  | refine rw_kcall (cSameG _ _ (putB p) (putB q) (by omega) _ w5) w5 (fun h6 k6 w6 => ?_)
  have k16 := k15.trans k6
  have gp6 := (k16.get ip).trans gp
  have gq6 := (k16.get iq).trans gq
  rw [hd]
  generalize decide (p = q) = z at pe ⊢
  cases z <;> simp (maxSteps := 10000000) (maxDischargeDepth := 30) only [gp6, gq6, pe, awAwake39, go_sem, Nat.reduceEqDiff, ↓reduceIte, Nat.reduceAdd, Nat.reduceMul, Nat.reduceLeDiff, Nat.reduceLT, reduceCtorEq, Int.reduceToNat, Int.reduceLE, Int.reduceLT, Int.reduceEq, Int.reduceNeg, Int.reduceNe, Int.reducePow, Nat.reducePow, Nat.reduceSub, IntKind.bits]
theorem lPressApart (o1 o2 : Option (Nat × Nat)) (a b : List PageR) (ha : Num a) (hb : Num b) : ∃ h', runI Try.prog TA 5 [mkS o1 4 (a.map PageR.e), mkS o2 4 (b.map PageR.e)] H0 = some (.bool true, h') := by
  refine true_of rfl res5 rfl ?_
  obtain ⟨v, e1, hv⟩ := cLarge o1 a H0
  obtain ⟨u, e2, hu⟩ := cLarge o2 b (hp Try.prog TA 19 [mkS o1 4 (a.map PageR.e)] H0)
  cases v
  rotate_left
  · simp (maxSteps := 10000000) (maxDischargeDepth := 30) only [q5, r5, e1, awAwake39, go_sem, Nat.reduceEqDiff, ↓reduceIte, Nat.reduceAdd, Nat.reduceMul, Nat.reduceLeDiff, Nat.reduceLT, reduceCtorEq, Int.reduceToNat, Int.reduceLE, Int.reduceLT, Int.reduceEq, Int.reduceNeg, Int.reduceNe, Int.reducePow, Nat.reducePow, Nat.reduceSub, IntKind.bits]
  cases u
  rotate_left
  · simp (maxSteps := 10000000) (maxDischargeDepth := 30) only [q5, r5, e1, e2, awAwake39, go_sem, Nat.reduceEqDiff, ↓reduceIte, Nat.reduceAdd, Nat.reduceMul, Nat.reduceLeDiff, Nat.reduceLT, reduceCtorEq, Int.reduceToNat, Int.reduceLE, Int.reduceLT, Int.reduceEq, Int.reduceNeg, Int.reduceNe, Int.reducePow, Nat.reducePow, Nat.reduceSub, IntKind.bits]
  obtain ⟨la0, hf⟩ := hv rfl; have la := Nat.le_trans la0 (show 40 ≤ 2000 by decide)
  obtain ⟨lb0, hg⟩ := hu rfl; have lb := Nat.le_trans lb0 (show 40 ≤ 2000 by decide)
  have hx := okOf hf ha
  have hy := okOf hg hb
  have hd : decide (pagesB a = pagesB b) = decide (a.map PageR.plain = b.map PageR.plain) := by rw [Bool.eq_iff_iff]; simpa using pagesB_iff la lb hx hy
  have w1 : WF (hp Try.prog TA 19 [mkS o2 4 (b.map PageR.e)] (hp Try.prog TA 19 [mkS o1 4 (a.map PageR.e)] H0)) := (wf0.keep ((Keep.refl _).hp _ _)).keep ((Keep.refl _).hp _ _)
  simp (maxSteps := 10000000) (maxDischargeDepth := 30) only [q5, r5, e1, e2, go_sem, Nat.reduceEqDiff, ↓reduceIte, Nat.reduceAdd, Nat.reduceMul, Nat.reduceLeDiff, Nat.reduceLT, reduceCtorEq, Int.reduceToNat, Int.reduceLE, Int.reduceLT, Int.reduceEq, Int.reduceNeg, Int.reduceNe, Int.reducePow, Nat.reducePow, Nat.reduceSub, IntKind.bits]
  generalize hp Try.prog TA 19 [mkS o2 4 (b.map PageR.e)] (hp Try.prog TA 19 [mkS o1 4 (a.map PageR.e)] H0) = g1 at *
  refine ro_kcall (cPPages o1 a g1 w1 la hx) w1 (fun h2 k2 w2 => ?_)
  simp (maxSteps := 10000000) (maxDischargeDepth := 30) only [go_sem, Nat.reduceEqDiff, ↓reduceIte, Nat.reduceAdd, Nat.reduceMul, Nat.reduceLeDiff, Nat.reduceLT, reduceCtorEq, Int.reduceToNat, Int.reduceLE, Int.reduceLT, Int.reduceEq, Int.reduceNeg, Int.reduceNe, Int.reducePow, Nat.reducePow, Nat.reduceSub, IntKind.bits]
  refine ro_kcall (cPPages o2 b h2 w2 lb hy) w2 (fun h3 k3 w3 => ?_)
  simp (maxSteps := 10000000) (maxDischargeDepth := 30) only [go_sem, Nat.reduceEqDiff, ↓reduceIte, Nat.reduceAdd, Nat.reduceMul, Nat.reduceLeDiff, Nat.reduceLT, reduceCtorEq, Int.reduceToNat, Int.reduceLE, Int.reduceLT, Int.reduceEq, Int.reduceNeg, Int.reduceNe, Int.reducePow, Nat.reducePow, Nat.reduceSub, IntKind.bits]
  refine ro_kcall (cSameG _ _ (pagesB a) (pagesB b) (pagesB_big la hx) h3 w3) w3 (fun h4 k4 w4 => ?_)
  simp (maxSteps := 10000000) (maxDischargeDepth := 30) only [go_sem, Nat.reduceEqDiff, ↓reduceIte, Nat.reduceAdd, Nat.reduceMul, Nat.reduceLeDiff, Nat.reduceLT, reduceCtorEq, Int.reduceToNat, Int.reduceLE, Int.reduceLT, Int.reduceEq, Int.reduceNeg, Int.reduceNe, Int.reducePow, Nat.reducePow, Nat.reduceSub, IntKind.bits]
  refine ro_kcall (cSame38 o1 o2 a b la hx h4 w4) w4 (fun h5 k5 w5 => ?_)
  rw [hd]
  cases decide (a.map PageR.plain = b.map PageR.plain) <;> simp (maxSteps := 10000000) (maxDischargeDepth := 30) only [awAwake39, go_sem, Nat.reduceEqDiff, ↓reduceIte, Nat.reduceAdd, Nat.reduceMul, Nat.reduceLeDiff, Nat.reduceLT, reduceCtorEq, Int.reduceToNat, Int.reduceLE, Int.reduceLT, Int.reduceEq, Int.reduceNeg, Int.reduceNe, Int.reducePow, Nat.reducePow, Nat.reduceSub, IntKind.bits]
end Go.LM
