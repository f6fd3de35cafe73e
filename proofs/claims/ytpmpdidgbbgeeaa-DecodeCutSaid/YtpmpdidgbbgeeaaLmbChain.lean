import Derived.Test.YtpmpdidgbbgeeaaLmTrbR1
import Derived.Test.YtpmpdidgbbgeeaaLmTrbR2
import Derived.Test.YtpmpdidgbbgeeaaLmTrbR3
import Derived.Test.YtpmpdidgbbgeeaaLmbTa
import Derived.Test.YtpmpdidgbbgeeaaLmY
namespace Go.LM
open Go.Proofs
set_option maxRecDepth 4000
set_option maxHeartbeats 1000000
set_option linter.unusedSimpArgs false


theorem cFold (n : Int) (h1 : -9223372036854775808 ≤ n) (h2 : n < 9223372036854775808) (h : H) : runI Try.prog TA 117 [.int .i64 n] h = some (.int .u64 (foldN n), hp Try.prog TA 117 [.int .i64 n] h) := by
  refine pure_of rfl res117 rfl ?_
  by_cases h0 : n < 0
  · have e1 : IntKind.u64.wrap n = n + 18446744073709551616 := wrapU64_neg (by omega) h0
    have e2 : shlI .u64 (n + 18446744073709551616) 1 = 2 * n + 18446744073709551616 := by
      show IntKind.u64.wrap ((n + 18446744073709551616) * 2) = _
      rw [show (n + 18446744073709551616) * 2 = (2 * n + 18446744073709551616) + 18446744073709551616 by omega, wrapU64_big (by omega) (by omega)]; omega
    have e3 : shrI .i64 n 63 = -1 := by show n.fdiv 9223372036854775808 = -1; rw [Int.fdiv_eq_ediv_of_nonneg _ (by decide)]; omega
    have e4 : IntKind.u64.wrap (-1) = 18446744073709551615 := by decide
    have e5 := xor_u64_all (x := 2 * n + 18446744073709551616) (by omega) (by omega)
    have e6 : 18446744073709551615 - (2 * n + 18446744073709551616) = foldN n := by unfold foldN; rw [if_pos h0]; omega
    simp (maxSteps := 10000000) (maxDischargeDepth := 30) only [q117, r117, e1, e2, e3, e4, e5, e6, go_sem, Nat.reduceEqDiff, ↓reduceIte, Nat.reduceAdd, Nat.reduceMul, Nat.reduceLeDiff, Nat.reduceLT, reduceCtorEq, Int.reduceToNat, Int.reduceLE, Int.reduceLT, Int.reduceEq, Int.reduceNeg, Int.reduceNe, Int.reducePow, Nat.reducePow, Nat.reduceSub, IntKind.bits]
  · have e1 : IntKind.u64.wrap n = n := wrapU64 (by omega) (by omega)
    have e2 : shlI .u64 n 1 = 2 * n := by show IntKind.u64.wrap (n * 2) = _; rw [wrapU64 (by omega) (by omega)]; omega
    have e3 : shrI .i64 n 63 = 0 := by show n.fdiv 9223372036854775808 = 0; rw [Int.fdiv_eq_ediv_of_nonneg _ (by decide)]; omega
    have e4 : IntKind.u64.wrap 0 = 0 := by decide
    have e6 : foldN n = 2 * n := by unfold foldN; rw [if_neg h0]
    have e5 := xor_u64_0 (x := 2 * n) (by omega) (by omega)
    simp (maxSteps := 10000000) (maxDischargeDepth := 30) only [q117, r117, e1, e2, e3, e4, e5, e6, go_sem, Nat.reduceEqDiff, ↓reduceIte, Nat.reduceAdd, Nat.reduceMul, Nat.reduceLeDiff, Nat.reduceLT, reduceCtorEq, Int.reduceToNat, Int.reduceLE, Int.reduceLT, Int.reduceEq, Int.reduceNeg, Int.reduceNe, Int.reducePow, Nat.reducePow, Nat.reduceSub, IntKind.bits]
theorem cUnfold (u : Int) (h1 : 0 ≤ u) (h2 : u < 18446744073709551616) (h : H) : runI Try.prog TA 119 [.int .u64 u] h = some (.int .i64 (unfoldN u), hp Try.prog TA 119 [.int .u64 u] h) := by
  refine pure_of rfl res119 rfl ?_
  have e1 : shrI .u64 u 1 = u / 2 := Int.fdiv_eq_ediv_of_nonneg _ (by decide)
  have e2 : IntKind.i64.wrap (u / 2) = u / 2 := wrapI64 (by omega) (by omega)
  have e3 := and_u64_1 h1 h2
  by_cases h0 : u % 2 = 1
  · have e4 : IntKind.i64.wrap 1 = 1 := by decide
    have e5 : IntKind.i64.wrap (0 - 1) = -1 := by decide
    have e6 := xor_i64_m1 (x := u / 2) (by omega) (by omega)
    have e7 : -(u / 2) - 1 = unfoldN u := by unfold unfoldN; rw [if_pos h0]
    simp (maxSteps := 10000000) (maxDischargeDepth := 30) only [q119, r119, e1, e2, e3, h0, e4, e5, e6, e7, go_sem, Nat.reduceEqDiff, ↓reduceIte, Nat.reduceAdd, Nat.reduceMul, Nat.reduceLeDiff, Nat.reduceLT, reduceCtorEq, Int.reduceToNat, Int.reduceLE, Int.reduceLT, Int.reduceEq, Int.reduceNeg, Int.reduceNe, Int.reducePow, Nat.reducePow, Nat.reduceSub, IntKind.bits]
  · have h0' : u % 2 = 0 := by omega
    have e4 : IntKind.i64.wrap 0 = 0 := by decide
    have e5 : IntKind.i64.wrap (0 - 0) = 0 := by decide
    have e6 := xor_i64_0 (x := u / 2) (by omega) (by omega)
    have e7 : u / 2 = unfoldN u := by unfold unfoldN; rw [if_neg h0]
    have e8 : xorI .i64 (u / 2) 0 = unfoldN u := by rw [e6, e7]
    simp (maxSteps := 10000000) (maxDischargeDepth := 30) only [q119, r119, e1, e2, e3, h0', e4, e5, e8, go_sem, Nat.reduceEqDiff, ↓reduceIte, Nat.reduceAdd, Nat.reduceMul, Nat.reduceLeDiff, Nat.reduceLT, reduceCtorEq, Int.reduceToNat, Int.reduceLE, Int.reduceLT, Int.reduceEq, Int.reduceNeg, Int.reduceNe, Int.reducePow, Nat.reducePow, Nat.reduceSub, IntKind.bits]
abbrev byts (o : Option (Nat × Nat)) (l : List Int) : LV := mkS o 1 (l.map (LV.int .u8))
theorem cCloneB (o : Option (Nat × Nat)) (l : List Int) (hl : l.length ≤ 10000000000000) (h : H) (w : WF h) :
    runI Try.prog TA 89 [byts o l] h = some (byts (tk Try.prog TA 89 [byts o l] h) l, hp Try.prog TA 89 [byts o l] h) ∧
      okTok (tk Try.prog TA 89 [byts o l] h) l.length (hp Try.prog TA 89 [byts o l] h) ∧ newTok (tk Try.prog TA 89 [byts o l] h) h := by
  have hr := pureO_of (P := Try.prog) (T := TA) (f := 89) (args := [byts o l]) (h := h) (sz := 1) (xs := l.map (LV.int .u8)) rfl res89 rfl ?_
  · rw [List.length_map] at hr; exact hr
  by_cases hn : o = none ∧ l.map (LV.int .u8) = []
  · obtain ⟨rfl, he⟩ := hn
    simp (maxSteps := 10000000) (maxDischargeDepth := 30) only [q89, r89, he, and_self, go_sem, Nat.reduceEqDiff, ↓reduceIte, Nat.reduceAdd, Nat.reduceMul, Nat.reduceLeDiff, Nat.reduceLT, reduceCtorEq, Int.reduceToNat, Int.reduceLE, Int.reduceLT, Int.reduceEq, Int.reduceNeg, Int.reduceNe, Int.reducePow, Nat.reducePow, Nat.reduceSub, IntKind.bits]
    exact ⟨none, rfl, rfl, trivial⟩
  · have w1 : WF (h.nrow 0) := wf_nrow w
    have t1 : okTok (some (h.rlen, 0)) 0 (h.nrow 0) := ⟨by have := w.2.2; omega, by simp; exact w.2.1, by simp, by simp⟩
    have ap := append_mk (sz := 1) (by_ := 1) (xs := []) (ys := l.map (LV.int .u8)) t1 (by simp; omega)
    have n1 : newTok (some (h.rlen, 0)) h := Nat.le_refl _
    simp (maxSteps := 10000000) (maxDischargeDepth := 30) only [q89, r89, hn, ap, List.nil_append, go_sem, Nat.reduceEqDiff, ↓reduceIte, Nat.reduceAdd, Nat.reduceMul, Nat.reduceLeDiff, Nat.reduceLT, reduceCtorEq, Int.reduceToNat, Int.reduceLE, Int.reduceLT, Int.reduceEq, Int.reduceNeg, Int.reduceNe, Int.reducePow, Nat.reducePow, Nat.reduceSub, IntKind.bits]
    have k1 : Keep h (h.nrow 0) := (Keep.refl h).nrow 0
    refine ⟨_, rfl, keep_ap k1 n1, ?_, newTok_ap k1 n1⟩
    have := okTok_ap (m := (l.map (LV.int .u8)).length) w1 t1
    simpa using this


theorem low8 {u : Nat} : (u : Int) % 256 % 128 + 128 = ((u % 128 + 128 : Nat) : Int) := by omega
/-- A chain is being put: what is out, and what is left. -/
def putI (l : List Int) (u0 : Nat) (u : Nat) (pre : List Int) : Prop := l ++ chainU u0 = pre ++ chainU u ∧ u < 18446744073709551616
def IPut (l : List Int) (u0 : Nat) (h0 : H) (u : Nat) (s : S) (h : H) : Prop :=
  s 6 = .int .u64 u ∧ Keep h0 h ∧ WF h ∧ ∃ o pre, s 5 = byts o pre ∧ putI l u0 u pre ∧ okTok o pre.length h ∧ newTok o h0
theorem put_len {l pre : List Int} {u0 u : Nat} (h0 : u0 < 18446744073709551616) (h : putI l u0 u pre) : pre.length ≤ l.length + 10 := by
  have := congrArg List.length h.1
  simp only [List.length_append] at this
  have := chainU_len10 h0
  omega
theorem cPut (o : Option (Nat × Nat)) (l : List Int) (n : Int) (hl : l.length ≤ 100000) (h1 : -9223372036854775808 ≤ n) (h2 : n < 9223372036854775808) (h : H) (w : WF h) :
    runI Try.prog TA 98 [byts o l, .int .i64 n] h = some (byts (tk Try.prog TA 98 [byts o l, .int .i64 n] h) (l ++ chainU (foldN n).toNat), hp Try.prog TA 98 [byts o l, .int .i64 n] h) ∧
      okTok (tk Try.prog TA 98 [byts o l, .int .i64 n] h) (l ++ chainU (foldN n).toNat).length (hp Try.prog TA 98 [byts o l, .int .i64 n] h) ∧ newTok (tk Try.prog TA 98 [byts o l, .int .i64 n] h) h := by
  have hr := pureO_of (P := Try.prog) (T := TA) (f := 98) (args := [byts o l, .int .i64 n]) (h := h) (sz := 1) (xs := (l ++ chainU (foldN n).toNat).map (LV.int .u8)) rfl res98 rfl ?_
  · rw [List.length_map] at hr; exact hr
  obtain ⟨e65, t65, n65⟩ := cCloneB o l (by omega) h w
  have e28 := cFold n h1 h2
  have hf := fold_range h1 h2
  simp (maxSteps := 10000000) (maxDischargeDepth := 30) only [q98, r98, e65, e28, w, go_sem, Nat.reduceEqDiff, ↓reduceIte, Nat.reduceAdd, Nat.reduceMul, Nat.reduceLeDiff, Nat.reduceLT, reduceCtorEq, Int.reduceToNat, Int.reduceLE, Int.reduceLT, Int.reduceEq, Int.reduceNeg, Int.reduceNe, Int.reducePow, Nat.reducePow, Nat.reduceSub, IntKind.bits]
  generalize ho : tk Try.prog TA 89 [byts o l] h = o1 at *
  refine ru_loop (fun u => u) (IPut l (foldN n).toNat h) (foldN n).toNat ?_ ?_
  · unfold IPut
    have e0 : ((foldN n).toNat : Int) = foldN n := Int.toNat_of_nonneg hf.1
    simp (maxSteps := 10000000) (maxDischargeDepth := 30) only [e0, w, List.length_append, go_sem, Nat.reduceEqDiff, ↓reduceIte, Nat.reduceAdd, Nat.reduceMul, Nat.reduceLeDiff, Nat.reduceLT, reduceCtorEq, Int.reduceToNat, Int.reduceLE, Int.reduceLT, Int.reduceEq, Int.reduceNeg, Int.reduceNe, Int.reducePow, Nat.reducePow, Nat.reduceSub, IntKind.bits]
    exact ⟨o1, l, rfl, ⟨rfl, by omega⟩, okTok_keep (hp_keep _ _ _) t65, n65⟩
  · rintro u s hh ⟨e6, k1, w1, o2, pre, e5, hp1, t1, n1⟩
    have hpl := put_len (u0 := (foldN n).toNat) (by omega) hp1
    have hu := hp1.2
    have k2 : Keep hh (hh.nrow 1) := (Keep.refl hh).nrow 1
    have w2 : WF (hh.nrow 1) := wf_nrow w1
    have t2 := okTok_keep k2 t1
    by_cases hge : u < 128
    · have c1 : ¬ (128 : Int) ≤ u := by omega
      have e8 : IntKind.u8.wrap (u : Int) = (u : Int) := by rw [wrapU8]; omega
      have ap := append_mk (sz := 1) (by_ := 1) (ys := [LV.int .u8 (u : Int)]) (xs := pre.map (LV.int .u8)) (o := o2) (h := hh.nrow 1) (by simpa using t2) (by simp; omega)
      simp (maxSteps := 10000000) (maxDischargeDepth := 30) only [e5, e6, c1, e8, ap, go_sem, Nat.reduceEqDiff, ↓reduceIte, Nat.reduceAdd, Nat.reduceMul, Nat.reduceLeDiff, Nat.reduceLT, reduceCtorEq, Int.reduceToNat, Int.reduceLE, Int.reduceLT, Int.reduceEq, Int.reduceNeg, Int.reduceNe, Int.reducePow, Nat.reducePow, Nat.reduceSub, IntKind.bits]
      have t3 := okTok_ap (m := 1) w2 t2
      have hfin : l ++ chainU (foldN n).toNat = pre ++ [(u : Int)] := by rw [hp1.1, chainU_lt hge]
      refine ⟨apO o2 1 _, ?_, keep_ap (k1.nrow 1) n1, ?_, newTok_ap (k1.nrow 1) n1⟩
      · rw [hfin]; simp
      · rw [hfin]; simpa using t3
    · have c1 : (128 : Int) ≤ u := by omega
      have e8 : IntKind.u8.wrap (u : Int) = (u : Int) % 256 := wrapU8
      have e9 : orI .u8 ((u : Int) % 256) 128 = ((u % 128 + 128 : Nat) : Int) := by rw [or_u8 (by omega) (by omega)]; exact low8
      have e10 : shrI .u64 (u : Int) 7 = ((u / 128 : Nat) : Int) := by show (u : Int).fdiv 128 = _; rw [Int.fdiv_eq_ediv_of_nonneg _ (by decide)]; omega
      have ap := append_mk (sz := 1) (by_ := 1) (ys := [LV.int .u8 ((u % 128 + 128 : Nat) : Int)]) (xs := pre.map (LV.int .u8)) (o := o2) (h := hh.nrow 1) (by simpa using t2) (by simp; omega)
      simp (maxSteps := 10000000) (maxDischargeDepth := 30) only [e5, e6, c1, e8, e9, e10, ap, go_sem, Nat.reduceEqDiff, ↓reduceIte, Nat.reduceAdd, Nat.reduceMul, Nat.reduceLeDiff, Nat.reduceLT, reduceCtorEq, Int.reduceToNat, Int.reduceLE, Int.reduceLT, Int.reduceEq, Int.reduceNeg, Int.reduceNe, Int.reducePow, Nat.reducePow, Nat.reduceSub, IntKind.bits]
      have t3 := okTok_ap (m := 1) w2 t2
      refine ⟨u / 128, by omega, ?_⟩
      unfold IPut
      simp (maxSteps := 10000000) (maxDischargeDepth := 30) only [e5, e6, go_sem, Nat.reduceEqDiff, ↓reduceIte, Nat.reduceAdd, Nat.reduceMul, Nat.reduceLeDiff, Nat.reduceLT, reduceCtorEq, Int.reduceToNat, Int.reduceLE, Int.reduceLT, Int.reduceEq, Int.reduceNeg, Int.reduceNe, Int.reducePow, Nat.reducePow, Nat.reduceSub, IntKind.bits]
      refine ⟨keep_ap (k1.nrow 1) n1, wf_ap w2, apO o2 1 _, pre ++ [((u % 128 + 128 : Nat) : Int)], by simp only [byts, List.map_append, List.map_cons, List.map_nil], ⟨?_, by omega⟩, by simpa using t3, newTok_ap (k1.nrow 1) n1⟩
      rw [hp1.1, chainU_ge hge]; simp

/-! the document's chain -/
theorem byts_nil : LV.nils = byts none [] := rfl
theorem byt_at {l : List Int} {i : Nat} {n : Int} (h : l[i]? = some n) : iaS (l.map (LV.int .u8)) (i : Int) = some (.cptr (.int .u8 n)) := iaS_map (Int.natCast_nonneg i) (by simpa using h)
end Go.LM
