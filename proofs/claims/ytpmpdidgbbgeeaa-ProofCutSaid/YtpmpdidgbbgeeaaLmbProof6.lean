import Derived.Test.YtpmpdidgbbgeeaaLmTrbR1
import Derived.Test.YtpmpdidgbbgeeaaLmbProof5
namespace Go.LM
open Go.Proofs
set_option maxRecDepth 8000
set_option maxHeartbeats 4000000
set_option linter.unusedSimpArgs false

theorem awAwake40 (h : H) : runI Try.prog TA 49 [] h = some (.bool true, h) := runI_known rfl
theorem lProofReads (o : Option (Nat × Nat)) (b : List Int) (hb : ∀ c ∈ b, 0 ≤ c ∧ c < 256) : ∃ h', runI Try.prog TA 11 [byts o b] H0 = some (.bool true, h') := by
  refine true_of rfl res11 rfl ?_
  by_cases c0 : (2000 : Int) < b.length
  · simp (maxSteps := 10000000) (maxDischargeDepth := 30) only [q11, r11, awAwake40, c0, List.length_map, go_sem, Nat.reduceEqDiff, ↓reduceIte, Nat.reduceAdd, Nat.reduceMul, Nat.reduceLeDiff, Nat.reduceLT, reduceCtorEq, Int.reduceToNat, Int.reduceLE, Int.reduceLT, Int.reduceEq, Int.reduceNeg, Int.reduceNe, Int.reducePow, Nat.reducePow, Nat.reduceSub, IntKind.bits]
  simp (maxSteps := 10000000) (maxDischargeDepth := 30) only [q11, r11, c0, List.length_map, go_sem, Nat.reduceEqDiff, ↓reduceIte, Nat.reduceAdd, Nat.reduceMul, Nat.reduceLeDiff, Nat.reduceLT, reduceCtorEq, Int.reduceToNat, Int.reduceLE, Int.reduceLT, Int.reduceEq, Int.reduceNeg, Int.reduceNe, Int.reducePow, Nat.reducePow, Nat.reduceSub, IntKind.bits]
  have hl : b.length ≤ 1000000000000 := by omega
  refine ro_vcall (cPrPages o b hb hl H0 wf0) (fun v h1 J => ?_)
  obtain ⟨J, k1⟩ := J
  have w1 := wf0.keep k1
  unfold okPages at J
  cases hp : pagesRd b with
  | none =>
    rw [hp] at J
    dsimp only at J
    subst J
    simp (maxSteps := 10000000) (maxDischargeDepth := 30) only [go_sem, Nat.reduceEqDiff, ↓reduceIte, Nat.reduceAdd, Nat.reduceMul, Nat.reduceLeDiff, Nat.reduceLT, reduceCtorEq, Int.reduceToNat, Int.reduceLE, Int.reduceLT, Int.reduceEq, Int.reduceNeg, Int.reduceNe, Int.reducePow, Nat.reducePow, Nat.reduceSub, IntKind.bits]
    refine ro_vcall (cRPages40 o b hb (by omega) h1 w1) (fun v h2 J => ?_)
    obtain ⟨J, k2⟩ := J
    have w2 := w1.keep k2
    unfold okPagesX at J
    rw [pagesX_eq hb, hp] at J
    dsimp only at J
    subst J
    have lo2 := w2.1
    simp (maxSteps := 10000000) (maxDischargeDepth := 30) only [lo2, go_sem, Nat.reduceEqDiff, ↓reduceIte, Nat.reduceAdd, Nat.reduceMul, Nat.reduceLeDiff, Nat.reduceLT, reduceCtorEq, Int.reduceToNat, Int.reduceLE, Int.reduceLT, Int.reduceEq, Int.reduceNeg, Int.reduceNe, Int.reducePow, Nat.reducePow, Nat.reduceSub, IntKind.bits]
    generalize hgg : (h2.alloc _).put _ _ = g
    have kg : Keep h2 g := by rw [← hgg]; exact ((Keep.refl h2).alloc _).put (Nat.le_refl _) _
    have gg : g.get h2.len = some ⟨false, [.nils, .bool false]⟩ := by rw [← hgg]; simp (maxSteps := 10000000) (maxDischargeDepth := 30) only [go_sem, Nat.reduceEqDiff, ↓reduceIte, Nat.reduceAdd, Nat.reduceMul, Nat.reduceLeDiff, Nat.reduceLT, reduceCtorEq, Int.reduceToNat, Int.reduceLE, Int.reduceLT, Int.reduceEq, Int.reduceNeg, Int.reduceNe, Int.reducePow, Nat.reducePow, Nat.reduceSub, IntKind.bits]
    have wg := w2.keep kg
    have lg := lt_of_get gg
    refine rw_kcall (cSame38 none none [] [] (by simp) (by simp) g wg) wg (fun h3 k3 w3 => ?_)
    have g3 := (k3.get lg).trans gg
    simp (maxSteps := 10000000) (maxDischargeDepth := 30) only [List.map_nil, go_sem, Nat.reduceEqDiff, ↓reduceIte, Nat.reduceAdd, Nat.reduceMul, Nat.reduceLeDiff, Nat.reduceLT, reduceCtorEq, Int.reduceToNat, Int.reduceLE, Int.reduceLT, Int.reduceEq, Int.reduceNeg, Int.reduceNe, Int.reducePow, Nat.reducePow, Nat.reduceSub, IntKind.bits]
    have e1 := cPrIs o b hb hl h3.up (wf_up w3)
    rw [hp] at e1
    refine rw_kcallD e1 w3 (fun h4 k4 w4 => ?_)
    have l3 := lt_of_get g3
    have g4 := (k4.get l3).trans g3
    simp (maxSteps := 10000000) (maxDischargeDepth := 30) only [g4, Option.isSome, go_sem, Nat.reduceEqDiff, ↓reduceIte, Nat.reduceAdd, Nat.reduceMul, Nat.reduceLeDiff, Nat.reduceLT, reduceCtorEq, Int.reduceToNat, Int.reduceLE, Int.reduceLT, Int.reduceEq, Int.reduceNeg, Int.reduceNe, Int.reducePow, Nat.reducePow, Nat.reduceSub, IntKind.bits]
    have e2 := cPrCount o b hb hl h4 w4
    have hn : pagesN b = -1 := by unfold pagesN; rw [hp]
    rw [hn] at e2
    refine rw_kcall e2 w4 (fun h5 k5 w5 => ?_)
    simp (maxSteps := 10000000) (maxDischargeDepth := 30) only [awAwake40, go_sem, Nat.reduceEqDiff, ↓reduceIte, Nat.reduceAdd, Nat.reduceMul, Nat.reduceLeDiff, Nat.reduceLT, reduceCtorEq, Int.reduceToNat, Int.reduceLE, Int.reduceLT, Int.reduceEq, Int.reduceNeg, Int.reduceNe, Int.reducePow, Nat.reducePow, Nat.reduceSub, IntKind.bits]
  | some l =>
    rw [hp] at J
    obtain ⟨o2, zs, rfl, hz⟩ := J
    obtain ⟨hb1, hb2, hb3⟩ := pagesRd_some hb hp
    have hzl : zs.length = l.length := by rw [← hz, List.length_map]
    have hzk : ∀ x ∈ zs, x.ok := fun x hx => PageR.ok_of (m := b.length) (by omega) (hb3 _ (by rw [← hz]; exact List.mem_map.2 ⟨x, hx, rfl⟩))
    simp (maxSteps := 10000000) (maxDischargeDepth := 30) only [go_sem, Nat.reduceEqDiff, ↓reduceIte, Nat.reduceAdd, Nat.reduceMul, Nat.reduceLeDiff, Nat.reduceLT, reduceCtorEq, Int.reduceToNat, Int.reduceLE, Int.reduceLT, Int.reduceEq, Int.reduceNeg, Int.reduceNe, Int.reducePow, Nat.reducePow, Nat.reduceSub, IntKind.bits]
    refine ro_vcall (cRPages40 o b hb (by omega) h1 w1) (fun v h2 J => ?_)
    obtain ⟨J, k2⟩ := J
    have w2 := w1.keep k2
    unfold okPagesX at J
    rw [pagesX_eq hb, hp] at J
    dsimp only at J
    obtain ⟨o3, ys, rfl, hy⟩ := J
    have hyl : ys.length = l.length := by rw [← hy, List.length_map]
    have lo2 := w2.1
    simp (maxSteps := 10000000) (maxDischargeDepth := 30) only [lo2, go_sem, Nat.reduceEqDiff, ↓reduceIte, Nat.reduceAdd, Nat.reduceMul, Nat.reduceLeDiff, Nat.reduceLT, reduceCtorEq, Int.reduceToNat, Int.reduceLE, Int.reduceLT, Int.reduceEq, Int.reduceNeg, Int.reduceNe, Int.reducePow, Nat.reducePow, Nat.reduceSub, IntKind.bits]
    generalize hgg : (h2.alloc _).put _ _ = g
    have kg : Keep h2 g := by rw [← hgg]; exact ((Keep.refl h2).alloc _).put (Nat.le_refl _) _
    have gg : g.get h2.len = some ⟨false, [mkS o3 4 (ys.map PageR.e), .bool true]⟩ := by rw [← hgg]; simp (maxSteps := 10000000) (maxDischargeDepth := 30) only [go_sem, Nat.reduceEqDiff, ↓reduceIte, Nat.reduceAdd, Nat.reduceMul, Nat.reduceLeDiff, Nat.reduceLT, reduceCtorEq, Int.reduceToNat, Int.reduceLE, Int.reduceLT, Int.reduceEq, Int.reduceNeg, Int.reduceNe, Int.reducePow, Nat.reducePow, Nat.reduceSub, IntKind.bits]
    have wg := w2.keep kg
    have lg := lt_of_get gg
    refine rw_kcall (cSame38 o2 o3 zs ys (by omega) hzk g wg) wg (fun h3 k3 w3 => ?_)
    have g3 := (k3.get lg).trans gg
    rw [hz, hy]
    simp (maxSteps := 10000000) (maxDischargeDepth := 30) only [go_sem, Nat.reduceEqDiff, ↓reduceIte, Nat.reduceAdd, Nat.reduceMul, Nat.reduceLeDiff, Nat.reduceLT, reduceCtorEq, Int.reduceToNat, Int.reduceLE, Int.reduceLT, Int.reduceEq, Int.reduceNeg, Int.reduceNe, Int.reducePow, Nat.reducePow, Nat.reduceSub, IntKind.bits]
    have e1 := cPrIs o b hb hl h3.up (wf_up w3)
    rw [hp] at e1
    refine rw_kcallD e1 w3 (fun h4 k4 w4 => ?_)
    have l3 := lt_of_get g3
    have g4 := (k4.get l3).trans g3
    simp (maxSteps := 10000000) (maxDischargeDepth := 30) only [g4, Option.isSome, go_sem, Nat.reduceEqDiff, ↓reduceIte, Nat.reduceAdd, Nat.reduceMul, Nat.reduceLeDiff, Nat.reduceLT, reduceCtorEq, Int.reduceToNat, Int.reduceLE, Int.reduceLT, Int.reduceEq, Int.reduceNeg, Int.reduceNe, Int.reducePow, Nat.reducePow, Nat.reduceSub, IntKind.bits]
    have e2 := cPrCount o b hb hl h4 w4
    have hn : pagesN b = l.length := by unfold pagesN; rw [hp]
    rw [hn] at e2
    refine rw_kcall e2 w4 (fun h5 k5 w5 => ?_)
    simp (maxSteps := 10000000) (maxDischargeDepth := 30) only [awAwake40, List.length_map, hyl, go_sem, Nat.reduceEqDiff, ↓reduceIte, Nat.reduceAdd, Nat.reduceMul, Nat.reduceLeDiff, Nat.reduceLT, reduceCtorEq, Int.reduceToNat, Int.reduceLE, Int.reduceLT, Int.reduceEq, Int.reduceNeg, Int.reduceNe, Int.reducePow, Nat.reducePow, Nat.reduceSub, IntKind.bits]

theorem okOf' {l : List PageR} (h1 : ∀ p ∈ l, FewP p) (h2 : Num l) : ∀ p ∈ l.map PageR.plain, okP 2000 p := by
  intro p hp
  obtain ⟨x, hx, rfl⟩ := List.mem_map.1 hp
  exact PageR.of_ok (okOf h1 h2 x hx)
theorem lProofBack (o o2 : Option (Nat × Nat)) (l : List PageR) (b : List Int) (hn : Num l) (hb : ∀ c ∈ b, 0 ≤ c ∧ c < 256) : ∃ h', runI Try.prog TA 14 [mkS o 4 (l.map PageR.e), byts o2 b] H0 = some (.bool true, h') := by
  refine true_of rfl res14 rfl ?_
  obtain ⟨v, e1, hv⟩ := cLarge o l H0
  cases v
  rotate_left
  · simp (maxSteps := 10000000) (maxDischargeDepth := 30) only [q14, r14, e1, awAwake40, go_sem, Nat.reduceEqDiff, ↓reduceIte, Nat.reduceAdd, Nat.reduceMul, Nat.reduceLeDiff, Nat.reduceLT, reduceCtorEq, Int.reduceToNat, Int.reduceLE, Int.reduceLT, Int.reduceEq, Int.reduceNeg, Int.reduceNe, Int.reducePow, Nat.reducePow, Nat.reduceSub, IntKind.bits]
  obtain ⟨la0, hf⟩ := hv rfl
  have la := Nat.le_trans la0 (show 40 ≤ 2000 by decide)
  have hx := okOf hf hn
  by_cases c0 : (2000 : Int) < b.length
  · simp (maxSteps := 10000000) (maxDischargeDepth := 30) only [q14, r14, e1, awAwake40, c0, List.length_map, go_sem, Nat.reduceEqDiff, ↓reduceIte, Nat.reduceAdd, Nat.reduceMul, Nat.reduceLeDiff, Nat.reduceLT, reduceCtorEq, Int.reduceToNat, Int.reduceLE, Int.reduceLT, Int.reduceEq, Int.reduceNeg, Int.reduceNe, Int.reducePow, Nat.reducePow, Nat.reduceSub, IntKind.bits]
  simp (maxSteps := 10000000) (maxDischargeDepth := 30) only [q14, r14, e1, c0, List.length_map, go_sem, Nat.reduceEqDiff, ↓reduceIte, Nat.reduceAdd, Nat.reduceMul, Nat.reduceLeDiff, Nat.reduceLT, reduceCtorEq, Int.reduceToNat, Int.reduceLE, Int.reduceLT, Int.reduceEq, Int.reduceNeg, Int.reduceNe, Int.reducePow, Nat.reducePow, Nat.reduceSub, IntKind.bits]
  have w1 : WF (hp Try.prog TA 19 [mkS o 4 (l.map PageR.e)] H0) := wf0.keep ((Keep.refl _).hp _ _)
  generalize hp Try.prog TA 19 [mkS o 4 (l.map PageR.e)] H0 = g1 at *
  refine ro_kcall (cPPages o l g1 w1 la hx) w1 (fun h2 k2 w2 => ?_)
  simp (maxSteps := 10000000) (maxDischargeDepth := 30) only [go_sem, Nat.reduceEqDiff, ↓reduceIte, Nat.reduceAdd, Nat.reduceMul, Nat.reduceLeDiff, Nat.reduceLT, reduceCtorEq, Int.reduceToNat, Int.reduceLE, Int.reduceLT, Int.reduceEq, Int.reduceNeg, Int.reduceNe, Int.reducePow, Nat.reducePow, Nat.reduceSub, IntKind.bits]
  have hbig := pagesB_big la hx
  have hBb : ∀ c ∈ pagesB l, 0 ≤ c ∧ c < 256 := by rw [pagesB_plain]; exact pagesBP_bytes _
  refine ro_vcall (cPrPages _ (pagesB l) hBb hbig h2 w2) (fun v h3 J => ?_)
  obtain ⟨J, k3⟩ := J
  have w3 := w2.keep k3
  have hr : pagesRd (pagesB l) = some (l.map PageR.plain) := by
    rw [pagesB_plain]
    exact pagesRd_of (m := 2000) (by decide) (by rw [List.length_map]; exact la) (okOf' hf hn)
  unfold okPages at J
  rw [hr] at J
  dsimp only at J
  obtain ⟨o3, zs, rfl, hz⟩ := J
  have hzl : zs.length = l.length := by have := congrArg List.length hz; simpa using this
  have hzk : ∀ x ∈ zs, x.ok := fun x hx => PageR.ok_of (m := 2000) (Nat.le_refl _) (okOf' hf hn _ (by rw [← hz]; exact List.mem_map.2 ⟨x, hx, rfl⟩))
  simp (maxSteps := 10000000) (maxDischargeDepth := 30) only [go_sem, Nat.reduceEqDiff, ↓reduceIte, Nat.reduceAdd, Nat.reduceMul, Nat.reduceLeDiff, Nat.reduceLT, reduceCtorEq, Int.reduceToNat, Int.reduceLE, Int.reduceLT, Int.reduceEq, Int.reduceNeg, Int.reduceNe, Int.reducePow, Nat.reducePow, Nat.reduceSub, IntKind.bits]
  refine ro_kcall (cSame38 o3 o zs l (by omega) hzk h3 w3) w3 (fun h4 k4 w4 => ?_)
  rw [hz]
  simp (maxSteps := 10000000) (maxDischargeDepth := 30) only [go_sem, Nat.reduceEqDiff, ↓reduceIte, Nat.reduceAdd, Nat.reduceMul, Nat.reduceLeDiff, Nat.reduceLT, reduceCtorEq, Int.reduceToNat, Int.reduceLE, Int.reduceLT, Int.reduceEq, Int.reduceNeg, Int.reduceNe, Int.reducePow, Nat.reducePow, Nat.reduceSub, IntKind.bits]
  refine ro_vcall (cPrPages o2 b hb (by omega) h4 w4) (fun v h5 J => ?_)
  obtain ⟨J, k5⟩ := J
  have w5 := w4.keep k5
  unfold okPages at J
  cases hp : pagesRd b with
  | none =>
    rw [hp] at J
    dsimp only at J
    subst J
    simp (maxSteps := 10000000) (maxDischargeDepth := 30) only [awAwake40, go_sem, Nat.reduceEqDiff, ↓reduceIte, Nat.reduceAdd, Nat.reduceMul, Nat.reduceLeDiff, Nat.reduceLT, reduceCtorEq, Int.reduceToNat, Int.reduceLE, Int.reduceLT, Int.reduceEq, Int.reduceNeg, Int.reduceNe, Int.reducePow, Nat.reducePow, Nat.reduceSub, IntKind.bits]
  | some m =>
    rw [hp] at J
    dsimp only at J
    obtain ⟨o4, ys, rfl, hy⟩ := J
    obtain ⟨hb1, hb2, hb3⟩ := pagesRd_some hb hp
    have hyl : ys.length = m.length := by rw [← hy, List.length_map]
    have hyk : ∀ x ∈ ys, x.ok := fun x hx => PageR.ok_of (m := b.length) (by omega) (hb3 _ (by rw [← hy]; exact List.mem_map.2 ⟨x, hx, rfl⟩))
    simp (maxSteps := 10000000) (maxDischargeDepth := 30) only [go_sem, Nat.reduceEqDiff, ↓reduceIte, Nat.reduceAdd, Nat.reduceMul, Nat.reduceLeDiff, Nat.reduceLT, reduceCtorEq, Int.reduceToNat, Int.reduceLE, Int.reduceLT, Int.reduceEq, Int.reduceNeg, Int.reduceNe, Int.reducePow, Nat.reducePow, Nat.reduceSub, IntKind.bits]
    refine ro_kcall (cPPages o4 ys h5 w5 (by omega) hyk) w5 (fun h6 k6 w6 => ?_)
    simp (maxSteps := 10000000) (maxDischargeDepth := 30) only [go_sem, Nat.reduceEqDiff, ↓reduceIte, Nat.reduceAdd, Nat.reduceMul, Nat.reduceLeDiff, Nat.reduceLT, reduceCtorEq, Int.reduceToNat, Int.reduceLE, Int.reduceLT, Int.reduceEq, Int.reduceNeg, Int.reduceNe, Int.reducePow, Nat.reducePow, Nat.reduceSub, IntKind.bits]
    refine ro_kcall (cSameG _ o2 (pagesB ys) b (pagesB_big (by omega) hyk) h6 w6) w6 (fun h7 k7 w7 => ?_)
    have eb : pagesB ys = b := by rw [pagesB_plain, hy]; exact hb1.symm
    simp (maxSteps := 10000000) (maxDischargeDepth := 30) only [awAwake40, eb, go_sem, Nat.reduceEqDiff, ↓reduceIte, Nat.reduceAdd, Nat.reduceMul, Nat.reduceLeDiff, Nat.reduceLT, reduceCtorEq, Int.reduceToNat, Int.reduceLE, Int.reduceLT, Int.reduceEq, Int.reduceNeg, Int.reduceNe, Int.reducePow, Nat.reducePow, Nat.reduceSub, IntKind.bits]

theorem lProofCut (o o2 : Option (Nat × Nat)) (l : List PageR) (n : Int) (b : List Int) (hn : Num l) (h64 : I64 n) (hb : ∀ c ∈ b, 0 ≤ c ∧ c < 256) : ∃ h', runI Try.prog TA 15 [mkS o 4 (l.map PageR.e), .int .i64 n, byts o2 b] H0 = some (.bool true, h') := by
  refine true_of rfl res15 rfl ?_
  obtain ⟨v, e1, hv⟩ := cLarge o l H0
  cases v
  rotate_left
  · simp (maxSteps := 10000000) (maxDischargeDepth := 30) only [q15, r15, e1, awAwake40, go_sem, Nat.reduceEqDiff, ↓reduceIte, Nat.reduceAdd, Nat.reduceMul, Nat.reduceLeDiff, Nat.reduceLT, reduceCtorEq, Int.reduceToNat, Int.reduceLE, Int.reduceLT, Int.reduceEq, Int.reduceNeg, Int.reduceNe, Int.reducePow, Nat.reducePow, Nat.reduceSub, IntKind.bits]
  obtain ⟨la0, hf⟩ := hv rfl
  have la := Nat.le_trans la0 (show 40 ≤ 2000 by decide)
  have hx := okOf hf hn
  by_cases c0 : (100 : Int) < b.length
  · simp (maxSteps := 10000000) (maxDischargeDepth := 30) only [q15, r15, e1, awAwake40, c0, List.length_map, go_sem, Nat.reduceEqDiff, ↓reduceIte, Nat.reduceAdd, Nat.reduceMul, Nat.reduceLeDiff, Nat.reduceLT, reduceCtorEq, Int.reduceToNat, Int.reduceLE, Int.reduceLT, Int.reduceEq, Int.reduceNeg, Int.reduceNe, Int.reducePow, Nat.reducePow, Nat.reduceSub, IntKind.bits]
  simp (maxSteps := 10000000) (maxDischargeDepth := 30) only [q15, r15, e1, c0, List.length_map, go_sem, Nat.reduceEqDiff, ↓reduceIte, Nat.reduceAdd, Nat.reduceMul, Nat.reduceLeDiff, Nat.reduceLT, reduceCtorEq, Int.reduceToNat, Int.reduceLE, Int.reduceLT, Int.reduceEq, Int.reduceNeg, Int.reduceNe, Int.reducePow, Nat.reducePow, Nat.reduceSub, IntKind.bits]
  have w1 : WF (hp Try.prog TA 19 [mkS o 4 (l.map PageR.e)] H0) := wf0.keep ((Keep.refl _).hp _ _)
  generalize hp Try.prog TA 19 [mkS o 4 (l.map PageR.e)] H0 = g1 at *
  refine ro_kcall (cPPages o l g1 w1 la hx) w1 (fun h2 k2 w2 => ?_)
  have hbig := pagesB_big la hx
  have hpl := pagesB_plain l
  have hBb : ∀ c ∈ pagesB l, 0 ≤ c ∧ c < 256 := by rw [hpl]; exact pagesBP_bytes _
  have hll : (l.map PageR.plain).length ≤ 2000 := by rw [List.length_map]; exact la
  have hok := okOf' hf hn
  generalize tk Try.prog TA 22 [mkS o 4 (l.map PageR.e)] g1 = oB
  have A0 : Acc h2 (some (h2.rlen, 0)) [] (h2.nrow 0) := by
    have := w2.2.1
    have := w2.2.2
    refine ⟨⟨by omega, by rw [lor_nrow]; omega, by rw [rlen_nrow]; omega, by rw [rget_nrow_eq]⟩, Nat.le_refl _, (Keep.refl _).nrow _, wf_nrow w2⟩
  obtain ⟨oa, h3, ap1, A1, -⟩ := A0.app (pagesB l) (by simp only [List.length_nil]; omega)
  rw [List.nil_append] at ap1 A1
  obtain ⟨ob, h4, ap2, A2, -⟩ := A1.app b (by omega)
  have ap1' : appS 1 1 (mkS (some (h2.rlen, 0)) 1 []) (h2.nrow 0) (some ((pagesB l).map (LV.int .u8))) = some (mkS oa 1 ((pagesB l).map (LV.int .u8)), h3) := ap1
  have hAb : ∀ c ∈ pagesB l ++ b, 0 ≤ c ∧ c < 256 := by
    intro c hc
    rcases List.mem_append.1 hc with hc | hc
    · exact hBb c hc
    · exact hb c hc
  have hAl : (pagesB l ++ b).length ≤ 1000000000000 := by
    rw [List.length_append]
    have := pagesB_len la hx
    omega
  have w4 := A2.wf
  have hend : ∀ hh, WF hh → runI Try.prog TA 52 [byts ob (pagesB l ++ b)] hh = some (.bool (decide (b.length = 0)), hp Try.prog TA 52 [byts ob (pagesB l ++ b)] hh) := by
    intro hh ww
    have e := cPrIs ob (pagesB l ++ b) hAb hAl hh ww
    rw [hpl, pages_more (m := 2000) (by decide) hll hok hb] at e
    rw [hpl]; exact e
  have ez : decide (b.length = 0) = decide ((b.length : Int) = 0) := by congr 1; exact propext ⟨fun h => by omega, fun h => by omega⟩
  have eb : ∀ x : Bool, (x == x) = true := fun x => by cases x <;> rfl
  by_cases n0 : 0 ≤ n
  · by_cases n1 : n < (pagesB l).length
    · have hb1 : boundL (some (.int .i64 n)) (pagesB l).length (pagesB l).length = some n.toNat := by rw [bound_some, if_pos ⟨n0, by omega⟩]
      have ed : (((pagesB l).map (LV.int .u8)).take n.toNat).drop 0 = ((pagesB l).take n.toNat).map (LV.int .u8) := by rw [List.drop_zero, List.map_take]
      have hcut : pagesRd ((pagesB l).take n.toNat) = none := by
        rw [hpl]
        have := pagesB_len la hx
        rw [hpl] at n1 this
        exact pages_cut (m := 2000) (by decide) hll hok (by omega) (by omega)
      simp (maxSteps := 10000000) (maxDischargeDepth := 30) only [ap1', ap2, n0, n1, List.length_map, hb1, slM_some (bound_none 0 n.toNat), ed, go_sem, Nat.reduceEqDiff, ↓reduceIte, Nat.reduceAdd, Nat.reduceMul, Nat.reduceLeDiff, Nat.reduceLT, reduceCtorEq, Int.reduceToNat, Int.reduceLE, Int.reduceLT, Int.reduceEq, Int.reduceNeg, Int.reduceNe, Int.reducePow, Nat.reducePow, Nat.reduceSub, IntKind.bits]
      have e := fun o => cPrIs o ((pagesB l).take n.toNat) (fun c hc => hBb c (List.mem_of_mem_take hc)) (by rw [List.length_take]; omega) h4 w4
      simp only [hcut] at e
      refine ro_kcall (e _) w4 (fun h5 k5 w5 => ?_)
      simp (maxSteps := 10000000) (maxDischargeDepth := 30) only [Option.isSome, go_sem, Nat.reduceEqDiff, ↓reduceIte, Nat.reduceAdd, Nat.reduceMul, Nat.reduceLeDiff, Nat.reduceLT, reduceCtorEq, Int.reduceToNat, Int.reduceLE, Int.reduceLT, Int.reduceEq, Int.reduceNeg, Int.reduceNe, Int.reducePow, Nat.reducePow, Nat.reduceSub, IntKind.bits]
      refine ro_kcall (hend h5 w5) w5 (fun h6 k6 w6 => ?_)
      rw [ez]
      simp (maxSteps := 10000000) (maxDischargeDepth := 30) only [List.length_map, eb, awAwake40, go_sem, Nat.reduceEqDiff, ↓reduceIte, Nat.reduceAdd, Nat.reduceMul, Nat.reduceLeDiff, Nat.reduceLT, reduceCtorEq, Int.reduceToNat, Int.reduceLE, Int.reduceLT, Int.reduceEq, Int.reduceNeg, Int.reduceNe, Int.reducePow, Nat.reducePow, Nat.reduceSub, IntKind.bits]
    · simp (maxSteps := 10000000) (maxDischargeDepth := 30) only [ap1', ap2, n0, n1, List.length_map, go_sem, Nat.reduceEqDiff, ↓reduceIte, Nat.reduceAdd, Nat.reduceMul, Nat.reduceLeDiff, Nat.reduceLT, reduceCtorEq, Int.reduceToNat, Int.reduceLE, Int.reduceLT, Int.reduceEq, Int.reduceNeg, Int.reduceNe, Int.reducePow, Nat.reducePow, Nat.reduceSub, IntKind.bits]
      refine ro_kcall (hend h4 w4) w4 (fun h6 k6 w6 => ?_)
      rw [ez]
      simp (maxSteps := 10000000) (maxDischargeDepth := 30) only [List.length_map, eb, awAwake40, go_sem, Nat.reduceEqDiff, ↓reduceIte, Nat.reduceAdd, Nat.reduceMul, Nat.reduceLeDiff, Nat.reduceLT, reduceCtorEq, Int.reduceToNat, Int.reduceLE, Int.reduceLT, Int.reduceEq, Int.reduceNeg, Int.reduceNe, Int.reducePow, Nat.reducePow, Nat.reduceSub, IntKind.bits]
  · simp (maxSteps := 10000000) (maxDischargeDepth := 30) only [ap1', ap2, n0, go_sem, Nat.reduceEqDiff, ↓reduceIte, Nat.reduceAdd, Nat.reduceMul, Nat.reduceLeDiff, Nat.reduceLT, reduceCtorEq, Int.reduceToNat, Int.reduceLE, Int.reduceLT, Int.reduceEq, Int.reduceNeg, Int.reduceNe, Int.reducePow, Nat.reducePow, Nat.reduceSub, IntKind.bits]
    refine ro_kcall (hend h4 w4) w4 (fun h6 k6 w6 => ?_)
    rw [ez]
    simp (maxSteps := 10000000) (maxDischargeDepth := 30) only [List.length_map, eb, awAwake40, go_sem, Nat.reduceEqDiff, ↓reduceIte, Nat.reduceAdd, Nat.reduceMul, Nat.reduceLeDiff, Nat.reduceLT, reduceCtorEq, Int.reduceToNat, Int.reduceLE, Int.reduceLT, Int.reduceEq, Int.reduceNeg, Int.reduceNe, Int.reducePow, Nat.reducePow, Nat.reduceSub, IntKind.bits]
end Go.LM
