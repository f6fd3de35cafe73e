import Derived.Test.YtpmpdidgbbgeeaaLmTrbR1
import Derived.Test.YtpmpdidgbbgeeaaLmbDecode7
namespace Go.LM
open Go.Proofs
set_option maxRecDepth 8000
set_option maxHeartbeats 8000000
set_option linter.unusedSimpArgs false
theorem okJob_none {b : List Int} {v : LV} (h : jobRd b = none) (J : okJob b v) : v = .tup [jobZ.e, .int .i64 2] := by
  unfold okJob at J; rw [h] at J; exact J
theorem lDecodeCut (j : JobR) (o : Option (Nat × Nat)) (n : Int) (b : List Int) (hn : j.num) (h64 : I64 n) (hbb : ∀ c ∈ b, 0 ≤ c ∧ c < 256) : ∃ h', runI Try.prog TA 18 [j.e, .int .i64 n, byts o b] H0 = some (.bool true, h') := by
  refine true_of rfl res18 rfl ?_
  simp (maxSteps := 10000000) (maxDischargeDepth := 30) only [q18, r18, JobR.e, JobR.cells, go_sem, Nat.reduceEqDiff, ↓reduceIte, Nat.reduceAdd, Nat.reduceMul, Nat.reduceLeDiff, Nat.reduceLT, reduceCtorEq, Int.reduceToNat, Int.reduceLE, Int.reduceLT, Int.reduceEq, Int.reduceNeg, Int.reduceNe, Int.reducePow, Nat.reducePow, Nat.reduceSub, IntKind.bits]
  generalize hgg : H0.alloc _ = g0
  have k0 : Keep H0 g0 := by rw [← hgg]; exact (Keep.refl H0).alloc _
  have gj : g0.get H0.len = some ⟨false, j.cells⟩ := by rw [← hgg]; exact get_alloc_eq _ _
  have w0 := wf0.keep k0
  clear hgg
  obtain ⟨v, e1, hv⟩ := cLarge14 j g0
  cases v
  rotate_left
  · refine ro_kcall e1 w0 (fun h1 k1 w1 => ?_)
    simp (maxSteps := 10000000) (maxDischargeDepth := 30) only [awAwake17, go_sem, Nat.reduceEqDiff, ↓reduceIte, Nat.reduceAdd, Nat.reduceMul, Nat.reduceLeDiff, Nat.reduceLT, reduceCtorEq, Int.reduceToNat, Int.reduceLE, Int.reduceLT, Int.reduceEq, Int.reduceNeg, Int.reduceNe, Int.reducePow, Nat.reducePow, Nat.reduceSub, IntKind.bits]
  have oj := okJ_of hn (hv rfl)
  have hjl := jobBP_len oj
  refine ro_kcall e1 w0 (fun h1 k1 w1 => ?_)
  have gj1 := (k1.get (lt_of_get gj)).trans gj
  by_cases c0 : (100 : Int) < b.length
  · simp (maxSteps := 10000000) (maxDischargeDepth := 30) only [c0, List.length_map, awAwake17, go_sem, Nat.reduceEqDiff, ↓reduceIte, Nat.reduceAdd, Nat.reduceMul, Nat.reduceLeDiff, Nat.reduceLT, reduceCtorEq, Int.reduceToNat, Int.reduceLE, Int.reduceLT, Int.reduceEq, Int.reduceNeg, Int.reduceNe, Int.reducePow, Nat.reducePow, Nat.reduceSub, IntKind.bits]
  simp (maxSteps := 10000000) (maxDischargeDepth := 30) only [gj1, c0, List.length_map, JobR.cells, go_sem, Nat.reduceEqDiff, ↓reduceIte, Nat.reduceAdd, Nat.reduceMul, Nat.reduceLeDiff, Nat.reduceLT, reduceCtorEq, Int.reduceToNat, Int.reduceLE, Int.reduceLT, Int.reduceEq, Int.reduceNeg, Int.reduceNe, Int.reducePow, Nat.reducePow, Nat.reduceSub, IntKind.bits]
  refine ro_vcall (cEnJob j h1 w1 oj) (fun v h2 J => ?_)
  obtain ⟨⟨o2, rfl⟩, k2⟩ := J
  have w2 := w1.keep k2
  cases hbr : bareL j.items
  · simp (maxSteps := 10000000) (maxDischargeDepth := 30) only [awAwake17, go_sem, Nat.reduceEqDiff, ↓reduceIte, Nat.reduceAdd, Nat.reduceMul, Nat.reduceLeDiff, Nat.reduceLT, reduceCtorEq, Int.reduceToNat, Int.reduceLE, Int.reduceLT, Int.reduceEq, Int.reduceNeg, Int.reduceNe, Int.reducePow, Nat.reducePow, Nat.reduceSub, IntKind.bits]
  by_cases n0 : 0 ≤ n
  rotate_left
  · have n0' : n < 0 := by omega
    simp (maxSteps := 10000000) (maxDischargeDepth := 30) only [n0, n0', awAwake17, go_sem, Nat.reduceEqDiff, ↓reduceIte, Nat.reduceAdd, Nat.reduceMul, Nat.reduceLeDiff, Nat.reduceLT, reduceCtorEq, Int.reduceToNat, Int.reduceLE, Int.reduceLT, Int.reduceEq, Int.reduceNeg, Int.reduceNe, Int.reducePow, Nat.reducePow, Nat.reduceSub, IntKind.bits]
  by_cases n1 : n < (jobBP j.plain).length
  rotate_left
  · have n0' : ¬ n < 0 := by omega
    have n1' : ((jobBP j.plain).length : Int) ≤ n := by omega
    simp (maxSteps := 10000000) (maxDischargeDepth := 30) only [n0, n0', n1, n1', List.length_map, awAwake17, go_sem, Nat.reduceEqDiff, ↓reduceIte, Nat.reduceAdd, Nat.reduceMul, Nat.reduceLeDiff, Nat.reduceLT, reduceCtorEq, Int.reduceToNat, Int.reduceLE, Int.reduceLT, Int.reduceEq, Int.reduceNeg, Int.reduceNe, Int.reducePow, Nat.reducePow, Nat.reduceSub, IntKind.bits]
  have hBb := jobBP_bytes j.plain
  have hb1 : boundL (some (.int .i64 n)) (jobBP j.plain).length (jobBP j.plain).length = some n.toNat := by rw [bound_some, if_pos ⟨n0, by omega⟩]
  have ed : (((jobBP j.plain).map (LV.int .u8)).take n.toNat).drop 0 = ((jobBP j.plain).take n.toNat).map (LV.int .u8) := by rw [List.drop_zero, List.map_take]
  have hcut := jobRd_cut (n := n.toNat) (by omega) oj hbr (by omega) (by omega)
  have hcut2 := job_cut (n := n.toNat) (by omega) oj hbr (by omega) (by omega)
  have hlt : ((jobBP j.plain).take n.toNat).length ≤ 1000000000000 := by rw [List.length_take]; omega
  have hbt : ∀ c ∈ (jobBP j.plain).take n.toNat, 0 ≤ c ∧ c < 256 := fun c hc => hBb c (List.mem_of_mem_take hc)
  have n0' : ¬ n < 0 := by omega
  have n1' : ¬ ((jobBP j.plain).length : Int) ≤ n := by omega
  simp (maxSteps := 10000000) (maxDischargeDepth := 30) only [n0, n0', n1, n1', List.length_map, hb1, slM_some (bound_none 0 n.toNat), ed, go_sem, Nat.reduceEqDiff, ↓reduceIte, Nat.reduceAdd, Nat.reduceMul, Nat.reduceLeDiff, Nat.reduceLT, reduceCtorEq, Int.reduceToNat, Int.reduceLE, Int.reduceLT, Int.reduceEq, Int.reduceNeg, Int.reduceNe, Int.reducePow, Nat.reducePow, Nat.reduceSub, IntKind.bits]
  have e := fun o => cDeJob o ((jobBP j.plain).take n.toNat) hbt hlt h2 w2
  refine ro_vcall (e _) (fun v h3 J => ?_)
  clear e
  obtain ⟨J, k3⟩ := J
  obtain rfl := okJob_none hcut J
  have w3 := w2.keep k3
  have lo3 := w3.1
  simp (maxSteps := 10000000) (maxDischargeDepth := 30) only [lo3, JobR.e, JobR.cells, jobZ, go_sem, Nat.reduceEqDiff, ↓reduceIte, Nat.reduceAdd, Nat.reduceMul, Nat.reduceLeDiff, Nat.reduceLT, reduceCtorEq, Int.reduceToNat, Int.reduceLE, Int.reduceLT, Int.reduceEq, Int.reduceNeg, Int.reduceNe, Int.reducePow, Nat.reducePow, Nat.reduceSub, IntKind.bits]
  generalize hgg : H.put _ _ _ = g
  have kg : Keep h3 g := by rw [← hgg]; exact ((Keep.refl h3).alloc _).put (Nat.le_refl _) _
  have wg := w3.keep kg
  clear hgg
  have hif : (if 0 ≤ n ∧ n ≤ ((jobBP j.plain).length : Int) then some n.toNat else none) = some n.toNat := if_pos ⟨n0, by omega⟩
  simp (maxSteps := 10000000) (maxDischargeDepth := 30) only [hif, slM_some (bound_none 0 n.toNat), ed, go_sem, Nat.reduceEqDiff, ↓reduceIte, Nat.reduceAdd, Nat.reduceMul, Nat.reduceLeDiff, Nat.reduceLT, reduceCtorEq, Int.reduceToNat, Int.reduceLE, Int.reduceLT, Int.reduceEq, Int.reduceNeg, Int.reduceNe, Int.reducePow, Nat.reducePow, Nat.reduceSub, IntKind.bits]
  have e := fun o => cDeWhere o ((jobBP j.plain).take n.toNat) hbt hlt g wg
  refine ro_vcall (e _) (fun v h4 J => ?_)
  clear e
  obtain ⟨rfl, k4⟩ := J
  have w4 := wg.keep k4
  have hp := partN_lt hcut2
  have hq : ¬ partS (partN ((jobBP j.plain).take n.toNat)) = ⟨#[101, 110, 100]⟩ := by rw [partS_end (partN_le _)]; exact hp
  generalize partS (partN ((jobBP j.plain).take n.toNat)) = pn at *
  have A0 : Acc h4 (some (h4.rlen, 0)) [] (h4.nrow 0) := by
    have := w4.2.1
    have := w4.2.2
    refine ⟨⟨by omega, by rw [lor_nrow]; omega, by rw [rlen_nrow]; omega, by rw [rget_nrow_eq]⟩, Nat.le_refl _, (Keep.refl _).nrow _, wf_nrow w4⟩
  obtain ⟨oa, h5, ap1, A1, -⟩ := A0.app (jobBP j.plain) (by simp only [List.length_nil]; omega)
  rw [List.nil_append] at ap1 A1
  obtain ⟨ob, h6, ap2, A2, -⟩ := A1.app b (by omega)
  have ap1' : appS 1 1 (mkS (some (h4.rlen, 0)) 1 []) (h4.nrow 0) (some ((jobBP j.plain).map (LV.int .u8))) = some (mkS oa 1 ((jobBP j.plain).map (LV.int .u8)), h5) := ap1
  have hAb : ∀ c ∈ jobBP j.plain ++ b, 0 ≤ c ∧ c < 256 := by
    intro c hc
    rcases List.mem_append.1 hc with hc | hc
    · exact hBb c hc
    · exact hbb c hc
  have hAl : (jobBP j.plain ++ b).length ≤ 1000000000000 := by rw [List.length_append]; omega
  have w6 := A2.wf
  have hmore := jobRd_more (more := b) (by omega) oj hbr hbb
  have hend := (job_read (more := b) (by omega) oj hbr hbb).2
  simp (maxSteps := 10000000) (maxDischargeDepth := 30) only [ap1', ap2, go_sem, Nat.reduceEqDiff, ↓reduceIte, Nat.reduceAdd, Nat.reduceMul, Nat.reduceLeDiff, Nat.reduceLT, reduceCtorEq, Int.reduceToNat, Int.reduceLE, Int.reduceLT, Int.reduceEq, Int.reduceNeg, Int.reduceNe, Int.reducePow, Nat.reducePow, Nat.reduceSub, IntKind.bits]
  refine ro_vcall (cDeJob ob (jobBP j.plain ++ b) hAb hAl h6 w6) (fun v h7 J => ?_)
  obtain ⟨J, k7⟩ := J
  have w7 := w6.keep k7
  have lo7 := w7.1
  have he := partN_end (b := jobBP j.plain ++ b) (by rw [hend])
  have hq2 : partS (partN (jobBP j.plain ++ b)) = ⟨#[101, 110, 100]⟩ := by rw [he]; rfl
  have hat : (jS5 (jobBP j.plain ++ b)).2.at_ = ((jobBP j.plain).length : Int) := by rw [hend]
  unfold okJob at J
  rw [hmore] at J
  by_cases hz : b = []
  · rw [if_pos hz] at J
    dsimp only at J
    obtain ⟨x, rfl, -⟩ := J
    have hbl : (b.length : Int) = 0 := by rw [hz]; rfl
    simp (maxSteps := 10000000) (maxDischargeDepth := 30) only [lo7, JobR.e, JobR.cells, go_sem, Nat.reduceEqDiff, ↓reduceIte, Nat.reduceAdd, Nat.reduceMul, Nat.reduceLeDiff, Nat.reduceLT, reduceCtorEq, Int.reduceToNat, Int.reduceLE, Int.reduceLT, Int.reduceEq, Int.reduceNeg, Int.reduceNe, Int.reducePow, Nat.reducePow, Nat.reduceSub, IntKind.bits]
    generalize hgg : H.put _ _ _ = g2
    have kg2 : Keep h7 g2 := by rw [← hgg]; exact ((Keep.refl h7).alloc _).put (Nat.le_refl _) _
    have wg2 := w7.keep kg2
    clear hgg
    try (simp (maxSteps := 10000000) (maxDischargeDepth := 30) only [go_sem, Nat.reduceEqDiff, ↓reduceIte, Nat.reduceAdd, Nat.reduceMul, Nat.reduceLeDiff, Nat.reduceLT, reduceCtorEq, Int.reduceToNat, Int.reduceLE, Int.reduceLT, Int.reduceEq, Int.reduceNeg, Int.reduceNe, Int.reducePow, Nat.reducePow, Nat.reduceSub, IntKind.bits])
    refine ro_vcall (cDeWhere ob (jobBP j.plain ++ b) hAb hAl g2 wg2) (fun v h8 J => ?_)
    obtain ⟨rfl, k8⟩ := J
    simp (maxSteps := 10000000) (maxDischargeDepth := 30) only [hq2, hat, hq, bin_neq_str, bin_eql_str, List.length_map, hbl, awAwake17, go_sem, Nat.reduceEqDiff, ↓reduceIte, Nat.reduceAdd, Nat.reduceMul, Nat.reduceLeDiff, Nat.reduceLT, reduceCtorEq, Int.reduceToNat, Int.reduceLE, Int.reduceLT, Int.reduceEq, Int.reduceNeg, Int.reduceNe, Int.reducePow, Nat.reducePow, Nat.reduceSub, IntKind.bits]
  · rw [if_neg hz] at J
    dsimp only at J
    subst J
    have hbl : ((b.length : Int) = 0) = False := eq_false (by have := List.length_pos_iff.2 hz; omega)
    simp (maxSteps := 10000000) (maxDischargeDepth := 30) only [lo7, JobR.e, JobR.cells, jobZ, go_sem, Nat.reduceEqDiff, ↓reduceIte, Nat.reduceAdd, Nat.reduceMul, Nat.reduceLeDiff, Nat.reduceLT, reduceCtorEq, Int.reduceToNat, Int.reduceLE, Int.reduceLT, Int.reduceEq, Int.reduceNeg, Int.reduceNe, Int.reducePow, Nat.reducePow, Nat.reduceSub, IntKind.bits]
    generalize hgg : H.put _ _ _ = g2
    have kg2 : Keep h7 g2 := by rw [← hgg]; exact ((Keep.refl h7).alloc _).put (Nat.le_refl _) _
    have wg2 := w7.keep kg2
    clear hgg
    try (simp (maxSteps := 10000000) (maxDischargeDepth := 30) only [go_sem, Nat.reduceEqDiff, ↓reduceIte, Nat.reduceAdd, Nat.reduceMul, Nat.reduceLeDiff, Nat.reduceLT, reduceCtorEq, Int.reduceToNat, Int.reduceLE, Int.reduceLT, Int.reduceEq, Int.reduceNeg, Int.reduceNe, Int.reducePow, Nat.reducePow, Nat.reduceSub, IntKind.bits])
    refine ro_vcall (cDeWhere ob (jobBP j.plain ++ b) hAb hAl g2 wg2) (fun v h8 J => ?_)
    obtain ⟨rfl, k8⟩ := J
    simp (maxSteps := 10000000) (maxDischargeDepth := 30) only [hq2, hat, hq, bin_neq_str, bin_eql_str, List.length_map, hbl, awAwake17, go_sem, Nat.reduceEqDiff, ↓reduceIte, Nat.reduceAdd, Nat.reduceMul, Nat.reduceLeDiff, Nat.reduceLT, reduceCtorEq, Int.reduceToNat, Int.reduceLE, Int.reduceLT, Int.reduceEq, Int.reduceNeg, Int.reduceNe, Int.reducePow, Nat.reducePow, Nat.reduceSub, IntKind.bits]
end Go.LM
