import Derived.Test.YtpmpdidgbbgeeaaLmTrbR1
import Derived.Test.YtpmpdidgbbgeeaaLmTrbR2
import Derived.Test.YtpmpdidgbbgeeaaLmTrbR3
import Derived.Test.YtpmpdidgbbgeeaaLmbTa
import Derived.Test.YtpmpdidgbbgeeaaLmY
namespace Go.LM
open Go.Proofs
set_option maxRecDepth 4000
set_option maxHeartbeats 1000000
set_option linter.unusedSimpArgs false


theorem cRFold (n : Int) (h1 : -9223372036854775808 ≤ n) (h2 : n < 9223372036854775808) (h : H) : runI Try.prog TA 109 [.int .i64 n] h = some (.int .u64 (foldN n), hp Try.prog TA 109 [.int .i64 n] h) := by
  refine pure_of rfl res109 rfl ?_
  by_cases h0 : n < 0
  · have e1 : IntKind.i64.wrap (n + 1) = n + 1 := wrapI64 (by omega) (by omega)
    have e2 : IntKind.i64.wrap (0 - (n + 1)) = -n - 1 := by rw [wrapI64 (by omega) (by omega)]; omega
    have e3 : IntKind.u64.wrap (-n - 1) = -n - 1 := wrapU64 (by omega) (by omega)
    have e4 : IntKind.u64.wrap (2 * (-n - 1)) = 2 * (-n - 1) := wrapU64 (by omega) (by omega)
    have e5 : IntKind.u64.wrap (2 * (-n - 1) + 1) = foldN n := by rw [wrapU64 (by omega) (by omega)]; unfold foldN; rw [if_pos h0]; omega
    simp (maxSteps := 10000000) (maxDischargeDepth := 30) only [q109, r109, h0, e1, e2, e3, e4, e5, go_sem, Nat.reduceEqDiff, ↓reduceIte, Nat.reduceAdd, Nat.reduceMul, Nat.reduceLeDiff, Nat.reduceLT, reduceCtorEq, Int.reduceToNat, Int.reduceLE, Int.reduceLT, Int.reduceEq, Int.reduceNeg, Int.reduceNe, Int.reducePow, Nat.reducePow, Nat.reduceSub, IntKind.bits]
  · have e1 : IntKind.u64.wrap n = n := wrapU64 (by omega) (by omega)
    have e2 : IntKind.u64.wrap (2 * n) = foldN n := by rw [wrapU64 (by omega) (by omega)]; unfold foldN; rw [if_neg h0]
    simp (maxSteps := 10000000) (maxDischargeDepth := 30) only [q109, r109, h0, e1, e2, go_sem, Nat.reduceEqDiff, ↓reduceIte, Nat.reduceAdd, Nat.reduceMul, Nat.reduceLeDiff, Nat.reduceLT, reduceCtorEq, Int.reduceToNat, Int.reduceLE, Int.reduceLT, Int.reduceEq, Int.reduceNeg, Int.reduceNe, Int.reducePow, Nat.reducePow, Nat.reduceSub, IntKind.bits]
theorem cUnfold (u : Int) (h1 : 0 ≤ u) (h2 : u < 18446744073709551616) (h : H) : runI Try.prog TA 119 [.int .u64 u] h = some (.int .i64 (unfoldN u), hp Try.prog TA 119 [.int .u64 u] h) := by
  refine pure_of rfl res119 rfl ?_
  have e1 : shrI .u64 u 1 = u / 2 := Int.fdiv_eq_ediv_of_nonneg _ (by decide)
  have e2 : IntKind.i64.wrap (u / 2) = u / 2 := wrapI64 (by omega) (by omega)
  have e3 := and_u64_1 h1 h2
  by_cases h0 : u % 2 = 1
  · have e4 : IntKind.i64.wrap 1 = 1 := by decide
    have e5 : IntKind.i64.wrap (0 - 1) = -1 := by decide
    have e6 := xor_i64_m1 (x := u / 2) (by omega) (by omega)
    have e7 : -(u / 2) - 1 = unfoldN u := by unfold unfoldN; rw [if_pos h0]
    simp (maxSteps := 10000000) (maxDischargeDepth := 30) only [q119, r119, e1, e2, e3, h0, e4, e5, e6, e7, go_sem, Nat.reduceEqDiff, ↓reduceIte, Nat.reduceAdd, Nat.reduceMul, Nat.reduceLeDiff, Nat.reduceLT, reduceCtorEq, Int.reduceToNat, Int.reduceLE, Int.reduceLT, Int.reduceEq, Int.reduceNeg, Int.reduceNe, Int.reducePow, Nat.reducePow, Nat.reduceSub, IntKind.bits]
  · have h0' : u % 2 = 0 := by omega
    have e4 : IntKind.i64.wrap 0 = 0 := by decide
    have e5 : IntKind.i64.wrap (0 - 0) = 0 := by decide
    have e6 := xor_i64_0 (x := u / 2) (by omega) (by omega)
    have e7 : u / 2 = unfoldN u := by unfold unfoldN; rw [if_neg h0]
    have e8 : xorI .i64 (u / 2) 0 = unfoldN u := by rw [e6, e7]
    simp (maxSteps := 10000000) (maxDischargeDepth := 30) only [q119, r119, e1, e2, e3, h0', e4, e5, e8, go_sem, Nat.reduceEqDiff, ↓reduceIte, Nat.reduceAdd, Nat.reduceMul, Nat.reduceLeDiff, Nat.reduceLT, reduceCtorEq, Int.reduceToNat, Int.reduceLE, Int.reduceLT, Int.reduceEq, Int.reduceNeg, Int.reduceNe, Int.reducePow, Nat.reducePow, Nat.reduceSub, IntKind.bits]
theorem cRUnfold (u : Int) (h1 : 0 ≤ u) (h2 : u < 18446744073709551616) (h : H) : runI Try.prog TA 128 [.int .u64 u] h = some (.int .i64 (unfoldN u), hp Try.prog TA 128 [.int .u64 u] h) := by
  refine pure_of rfl res128 rfl ?_
  have e1 : u.tmod 2 = u % 2 := Int.tmod_eq_emod_of_nonneg h1
  have e2 : u.tdiv 2 = u / 2 := Int.tdiv_eq_ediv_of_nonneg h1
  have e3 : IntKind.u64.wrap (u / 2) = u / 2 := wrapU64 (by omega) (by omega)
  have e4 : IntKind.i64.wrap (u / 2) = u / 2 := wrapI64 (by omega) (by omega)
  by_cases h0 : u % 2 = 1
  · have e5 : IntKind.i64.wrap (0 - u / 2) = -(u / 2) := by rw [wrapI64 (by omega) (by omega)]; omega
    have e6 : IntKind.i64.wrap (-(u / 2) - 1) = unfoldN u := by rw [wrapI64 (by omega) (by omega)]; unfold unfoldN; rw [if_pos h0]
    simp (maxSteps := 10000000) (maxDischargeDepth := 30) only [q128, r128, e1, e2, e3, e4, h0, e5, e6, go_sem, Nat.reduceEqDiff, ↓reduceIte, Nat.reduceAdd, Nat.reduceMul, Nat.reduceLeDiff, Nat.reduceLT, reduceCtorEq, Int.reduceToNat, Int.reduceLE, Int.reduceLT, Int.reduceEq, Int.reduceNeg, Int.reduceNe, Int.reducePow, Nat.reducePow, Nat.reduceSub, IntKind.bits]
  · have e7 : unfoldN u = u / 2 := by unfold unfoldN; rw [if_neg h0]
    simp (maxSteps := 10000000) (maxDischargeDepth := 30) only [q128, r128, e1, e2, e3, e4, h0, e7, go_sem, Nat.reduceEqDiff, ↓reduceIte, Nat.reduceAdd, Nat.reduceMul, Nat.reduceLeDiff, Nat.reduceLT, reduceCtorEq, Int.reduceToNat, Int.reduceLE, Int.reduceLT, Int.reduceEq, Int.reduceNeg, Int.reduceNe, Int.reducePow, Nat.reducePow, Nat.reduceSub, IntKind.bits]

/-! chains -/
abbrev byts (o : Option (Nat × Nat)) (l : List Int) : LV := mkS o 1 (l.map (LV.int .u8))
theorem cCloneB (o : Option (Nat × Nat)) (l : List Int) (hl : l.length ≤ 10000000000000) (h : H) (w : WF h) :
    runI Try.prog TA 89 [byts o l] h = some (byts (tk Try.prog TA 89 [byts o l] h) l, hp Try.prog TA 89 [byts o l] h) ∧
      okTok (tk Try.prog TA 89 [byts o l] h) l.length (hp Try.prog TA 89 [byts o l] h) ∧ newTok (tk Try.prog TA 89 [byts o l] h) h := by
  have hr := pureO_of (P := Try.prog) (T := TA) (f := 89) (args := [byts o l]) (h := h) (sz := 1) (xs := l.map (LV.int .u8)) rfl res89 rfl ?_
  · rw [List.length_map] at hr; exact hr
  by_cases hn : o = none ∧ l.map (LV.int .u8) = []
  · obtain ⟨rfl, he⟩ := hn
    simp (maxSteps := 10000000) (maxDischargeDepth := 30) only [q89, r89, he, and_self, go_sem, Nat.reduceEqDiff, ↓reduceIte, Nat.reduceAdd, Nat.reduceMul, Nat.reduceLeDiff, Nat.reduceLT, reduceCtorEq, Int.reduceToNat, Int.reduceLE, Int.reduceLT, Int.reduceEq, Int.reduceNeg, Int.reduceNe, Int.reducePow, Nat.reducePow, Nat.reduceSub, IntKind.bits]
    exact ⟨none, rfl, rfl, trivial⟩
  · have w1 : WF (h.nrow 0) := wf_nrow w
    have t1 : okTok (some (h.rlen, 0)) 0 (h.nrow 0) := ⟨by have := w.2.2; omega, by simp; exact w.2.1, by simp, by simp⟩
    have ap := append_mk (sz := 1) (by_ := 1) (xs := []) (ys := l.map (LV.int .u8)) t1 (by simp; omega)
    have n1 : newTok (some (h.rlen, 0)) h := Nat.le_refl _
    simp (maxSteps := 10000000) (maxDischargeDepth := 30) only [q89, r89, hn, ap, List.nil_append, go_sem, Nat.reduceEqDiff, ↓reduceIte, Nat.reduceAdd, Nat.reduceMul, Nat.reduceLeDiff, Nat.reduceLT, reduceCtorEq, Int.reduceToNat, Int.reduceLE, Int.reduceLT, Int.reduceEq, Int.reduceNeg, Int.reduceNe, Int.reducePow, Nat.reducePow, Nat.reduceSub, IntKind.bits]
    have k1 : Keep h (h.nrow 0) := (Keep.refl h).nrow 0
    refine ⟨_, rfl, keep_ap k1 n1, ?_, newTok_ap k1 n1⟩
    have := okTok_ap (m := (l.map (LV.int .u8)).length) w1 t1
    simpa using this


/-- A chain is being put: what is out, and what is left. -/
def putI (l : List Int) (u0 : Nat) (u : Nat) (pre : List Int) : Prop := l ++ chainU u0 = pre ++ chainU u ∧ u < 18446744073709551616
theorem put_len {l pre : List Int} {u0 u : Nat} (h0 : u0 < 18446744073709551616) (h : putI l u0 u pre) : pre.length ≤ l.length + 10 := by
  have := congrArg List.length h.1
  simp only [List.length_append] at this
  have := chainU_len10 h0
  omega
def IChain (u0 : Nat) (h0 : H) (u : Nat) (s : S) (h : H) : Prop :=
  s 4 = .int .u64 u ∧ Keep h0 h ∧ WF h ∧ ∃ o pre, s 3 = byts o pre ∧ putI [] u0 u pre ∧ okTok o pre.length h ∧ newTok o h0
theorem cChain (n : Int) (h1 : -9223372036854775808 ≤ n) (h2 : n < 9223372036854775808) (h : H) (w : WF h) :
    runI Try.prog TA 82 [.int .i64 n] h = some (byts (tk Try.prog TA 82 [.int .i64 n] h) (chainU (foldN n).toNat), hp Try.prog TA 82 [.int .i64 n] h) := by
  refine pureS_of rfl res82 rfl ?_
  have e29 := cRFold n h1 h2
  have hf := fold_range h1 h2
  simp (maxSteps := 10000000) (maxDischargeDepth := 30) only [q82, r82, e29, w, go_sem, Nat.reduceEqDiff, ↓reduceIte, Nat.reduceAdd, Nat.reduceMul, Nat.reduceLeDiff, Nat.reduceLT, reduceCtorEq, Int.reduceToNat, Int.reduceLE, Int.reduceLT, Int.reduceEq, Int.reduceNeg, Int.reduceNe, Int.reducePow, Nat.reducePow, Nat.reduceSub, IntKind.bits]
  refine ru_loop (fun u => u) (IChain (foldN n).toNat h) (foldN n).toNat ?_ ?_
  · unfold IChain
    have e0 : ((foldN n).toNat : Int) = foldN n := Int.toNat_of_nonneg hf.1
    simp (maxSteps := 10000000) (maxDischargeDepth := 30) only [e0, w, go_sem, Nat.reduceEqDiff, ↓reduceIte, Nat.reduceAdd, Nat.reduceMul, Nat.reduceLeDiff, Nat.reduceLT, reduceCtorEq, Int.reduceToNat, Int.reduceLE, Int.reduceLT, Int.reduceEq, Int.reduceNeg, Int.reduceNe, Int.reducePow, Nat.reducePow, Nat.reduceSub, IntKind.bits]
    exact ⟨none, [], rfl, ⟨rfl, by omega⟩, rfl, trivial⟩
  · rintro u s hh ⟨e6, k1, w1, o2, pre, e5, hp1, t1, n1⟩
    have hpl := put_len (l := []) (u0 := (foldN n).toNat) (by omega) hp1
    simp only [List.length_nil] at hpl
    have hu := hp1.2
    have k2 : Keep hh (hh.nrow 1) := (Keep.refl hh).nrow 1
    have w2 : WF (hh.nrow 1) := wf_nrow w1
    have t2 := okTok_keep k2 t1
    by_cases hge : u < 128
    · have c1 : ¬ (127 : Int) < u := by omega
      have e8 : IntKind.u8.wrap (u : Int) = (u : Int) := by rw [wrapU8]; omega
      have ap := append_mk (sz := 1) (by_ := 1) (ys := [LV.int .u8 (u : Int)]) (xs := pre.map (LV.int .u8)) (o := o2) (h := hh.nrow 1) (by simpa using t2) (by simp; omega)
      simp (maxSteps := 10000000) (maxDischargeDepth := 30) only [e5, e6, c1, e8, ap, go_sem, Nat.reduceEqDiff, ↓reduceIte, Nat.reduceAdd, Nat.reduceMul, Nat.reduceLeDiff, Nat.reduceLT, reduceCtorEq, Int.reduceToNat, Int.reduceLE, Int.reduceLT, Int.reduceEq, Int.reduceNeg, Int.reduceNe, Int.reducePow, Nat.reducePow, Nat.reduceSub, IntKind.bits]
      have hfin : chainU (foldN n).toNat = pre ++ [(u : Int)] := by have := hp1.1; rw [chainU_lt hge] at this; simpa using this
      refine ⟨⟨apO o2 1 (hh.nrow 1), ?_⟩, keep_ap (k1.nrow 1) n1⟩
      rw [hfin]; simp only [List.map_append, List.map_cons, List.map_nil]
    · have c1 : (127 : Int) < u := by omega
      have e7 : (u : Int).tmod 128 = (u : Int) % 128 := Int.tmod_eq_emod_of_nonneg (by omega)
      have e7' : IntKind.u64.wrap ((u : Int) % 128 + 128) = ((u % 128 + 128 : Nat) : Int) := by rw [wrapU64 (by omega) (by omega)]; omega
      have e8 : IntKind.u8.wrap (((u % 128 + 128 : Nat)) : Int) = ((u % 128 + 128 : Nat) : Int) := by rw [wrapU8]; omega
      have e9 : (u : Int).tdiv 128 = ((u / 128 : Nat) : Int) := by rw [Int.tdiv_eq_ediv_of_nonneg (by omega)]; omega
      have e10 : IntKind.u64.wrap ((u / 128 : Nat) : Int) = ((u / 128 : Nat) : Int) := wrapU64 (by omega) (by omega)
      have ap := append_mk (sz := 1) (by_ := 1) (ys := [LV.int .u8 ((u % 128 + 128 : Nat) : Int)]) (xs := pre.map (LV.int .u8)) (o := o2) (h := hh.nrow 1) (by simpa using t2) (by simp; omega)
      simp (maxSteps := 10000000) (maxDischargeDepth := 30) only [e5, e6, c1, e7, e7', e8, e9, e10, ap, go_sem, Nat.reduceEqDiff, ↓reduceIte, Nat.reduceAdd, Nat.reduceMul, Nat.reduceLeDiff, Nat.reduceLT, reduceCtorEq, Int.reduceToNat, Int.reduceLE, Int.reduceLT, Int.reduceEq, Int.reduceNeg, Int.reduceNe, Int.reducePow, Nat.reducePow, Nat.reduceSub, IntKind.bits]
      have t3 := okTok_ap (m := 1) w2 t2
      refine ⟨u / 128, by omega, ?_⟩
      unfold IChain
      simp (maxSteps := 10000000) (maxDischargeDepth := 30) only [e5, e6, go_sem, Nat.reduceEqDiff, ↓reduceIte, Nat.reduceAdd, Nat.reduceMul, Nat.reduceLeDiff, Nat.reduceLT, reduceCtorEq, Int.reduceToNat, Int.reduceLE, Int.reduceLT, Int.reduceEq, Int.reduceNeg, Int.reduceNe, Int.reducePow, Nat.reducePow, Nat.reduceSub, IntKind.bits]
      refine ⟨keep_ap (k1.nrow 1) n1, wf_ap w2, apO o2 1 _, pre ++ [((u % 128 + 128 : Nat) : Int)], by simp only [byts, List.map_append, List.map_cons, List.map_nil], ⟨?_, by omega⟩, by simpa using t3, newTok_ap (k1.nrow 1) n1⟩
      rw [hp1.1, chainU_ge hge]; simp

theorem byt_at {l : List Int} {i : Nat} {n : Int} (h : l[i]? = some n) : iaS (l.map (LV.int .u8)) (i : Int) = some (.cptr (.int .u8 n)) := iaS_map (Int.natCast_nonneg i) (by simpa using h)
end Go.LM
