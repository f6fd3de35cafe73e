import Derived.Test.YtmanbekgnooocaaLmC9
namespace Go.LM
open Go.Proofs
set_option maxRecDepth 4000
set_option maxHeartbeats 1000000
set_option linter.unusedSimpArgs false

theorem low8 {u : Nat} : (u : Int) % 256 % 128 + 128 = ((u % 128 + 128 : Nat) : Int) := by omega
/-- A chain is being put: what is out, and what is left. -/
def putI (l : List Int) (u0 : Nat) (u : Nat) (pre : List Int) : Prop := l ++ chainU u0 = pre ++ chainU u ∧ u < 18446744073709551616
def I33 (l : List Int) (u0 : Nat) (h0 : H) (u : Nat) (s : S) (h : H) : Prop :=
  s 6 = .int .u64 u ∧ Keep h0 h ∧ WF h ∧ ∃ o pre, s 5 = byts o pre ∧ putI l u0 u pre ∧ okTok o pre.length h ∧ newTok o h0
theorem put_len {l pre : List Int} {u0 u : Nat} (h0 : u0 < 18446744073709551616) (h : putI l u0 u pre) : pre.length ≤ l.length + 10 := by
  have := congrArg List.length h.1
  simp only [List.length_append] at this
  have := chainU_len10 h0
  omega
theorem c33 (o : Option (Nat × Nat)) (l : List Int) (n : Int) (hl : l.length ≤ 100000) (h1 : -9223372036854775808 ≤ n) (h2 : n < 9223372036854775808) (h : H) (w : WF h) :
    runI Try.prog TA 33 [byts o l, .int .i64 n] h = some (byts (tk Try.prog TA 33 [byts o l, .int .i64 n] h) (l ++ chainU (foldN n).toNat), hp Try.prog TA 33 [byts o l, .int .i64 n] h) ∧
      okTok (tk Try.prog TA 33 [byts o l, .int .i64 n] h) (l ++ chainU (foldN n).toNat).length (hp Try.prog TA 33 [byts o l, .int .i64 n] h) ∧ newTok (tk Try.prog TA 33 [byts o l, .int .i64 n] h) h := by
  have hr := pureO_of (P := Try.prog) (T := TA) (f := 33) (args := [byts o l, .int .i64 n]) (h := h) (sz := 1) (xs := (l ++ chainU (foldN n).toNat).map (LV.int .u8)) rfl res33 rfl ?_
  · rw [List.length_map] at hr; exact hr
  obtain ⟨e65, t65, n65⟩ := c65 o l hl h w
  have e28 := c28 n h1 h2
  have hf := fold_range h1 h2
  simp (maxSteps := 10000000) (maxDischargeDepth := 30) only [q33, r33, e65, e28, w, go_sem, Nat.reduceEqDiff, ↓reduceIte, Nat.reduceAdd, Nat.reduceMul, Nat.reduceLeDiff, Nat.reduceLT, reduceCtorEq, Int.reduceToNat, Int.reduceLE, Int.reduceLT, Int.reduceEq, Int.reduceNeg, Int.reduceNe, Int.reducePow, Nat.reducePow, Nat.reduceSub, IntKind.bits]
  generalize ho : tk Try.prog TA 65 [byts o l] h = o1 at *
  refine ru_loop (fun u => u) (I33 l (foldN n).toNat h) (foldN n).toNat ?_ ?_
  · unfold I33
    have e0 : ((foldN n).toNat : Int) = foldN n := Int.toNat_of_nonneg hf.1
    simp (maxSteps := 10000000) (maxDischargeDepth := 30) only [e0, w, List.length_append, go_sem, Nat.reduceEqDiff, ↓reduceIte, Nat.reduceAdd, Nat.reduceMul, Nat.reduceLeDiff, Nat.reduceLT, reduceCtorEq, Int.reduceToNat, Int.reduceLE, Int.reduceLT, Int.reduceEq, Int.reduceNeg, Int.reduceNe, Int.reducePow, Nat.reducePow, Nat.reduceSub, IntKind.bits]
    exact ⟨o1, l, rfl, ⟨rfl, by omega⟩, okTok_keep (hp_keep _ _ _) t65, n65⟩
  · rintro u s hh ⟨e6, k1, w1, o2, pre, e5, hp1, t1, n1⟩
    have hpl := put_len (u0 := (foldN n).toNat) (by omega) hp1
    have hu := hp1.2
    have k2 : Keep hh (hh.nrow 1) := (Keep.refl hh).nrow 1
    have w2 : WF (hh.nrow 1) := wf_nrow w1
    have t2 := okTok_keep k2 t1
    by_cases hge : u < 128
    · have c1 : ¬ (128 : Int) ≤ u := by omega
      have e8 : IntKind.u8.wrap (u : Int) = (u : Int) := by rw [wrapU8]; omega
      have ap := append_mk (sz := 1) (by_ := 1) (ys := [LV.int .u8 (u : Int)]) (xs := pre.map (LV.int .u8)) (o := o2) (h := hh.nrow 1) (by simpa using t2) (by simp; omega)
      simp (maxSteps := 10000000) (maxDischargeDepth := 30) only [e5, e6, c1, e8, ap, go_sem, Nat.reduceEqDiff, ↓reduceIte, Nat.reduceAdd, Nat.reduceMul, Nat.reduceLeDiff, Nat.reduceLT, reduceCtorEq, Int.reduceToNat, Int.reduceLE, Int.reduceLT, Int.reduceEq, Int.reduceNeg, Int.reduceNe, Int.reducePow, Nat.reducePow, Nat.reduceSub, IntKind.bits]
      have t3 := okTok_ap (m := 1) w2 t2
      have hfin : l ++ chainU (foldN n).toNat = pre ++ [(u : Int)] := by rw [hp1.1, chainU_lt hge]
      refine ⟨apO o2 1 _, ?_, keep_ap (k1.nrow 1) n1, ?_, newTok_ap (k1.nrow 1) n1⟩
      · rw [hfin]; simp
      · rw [hfin]; simpa using t3
    · have c1 : (128 : Int) ≤ u := by omega
      have e8 : IntKind.u8.wrap (u : Int) = (u : Int) % 256 := wrapU8
      have e9 : orI .u8 ((u : Int) % 256) 128 = ((u % 128 + 128 : Nat) : Int) := by rw [or_u8 (by omega) (by omega)]; exact low8
      have e10 : (u : Int).fdiv 128 = ((u / 128 : Nat) : Int) := by rw [Int.fdiv_eq_ediv_of_nonneg _ (by decide)]; omega
      have ap := append_mk (sz := 1) (by_ := 1) (ys := [LV.int .u8 ((u % 128 + 128 : Nat) : Int)]) (xs := pre.map (LV.int .u8)) (o := o2) (h := hh.nrow 1) (by simpa using t2) (by simp; omega)
      simp (maxSteps := 10000000) (maxDischargeDepth := 30) only [e5, e6, c1, e8, e9, e10, ap, go_sem, Nat.reduceEqDiff, ↓reduceIte, Nat.reduceAdd, Nat.reduceMul, Nat.reduceLeDiff, Nat.reduceLT, reduceCtorEq, Int.reduceToNat, Int.reduceLE, Int.reduceLT, Int.reduceEq, Int.reduceNeg, Int.reduceNe, Int.reducePow, Nat.reducePow, Nat.reduceSub, IntKind.bits]
      have t3 := okTok_ap (m := 1) w2 t2
      refine ⟨u / 128, by omega, ?_⟩
      unfold I33
      simp (maxSteps := 10000000) (maxDischargeDepth := 30) only [e5, e6, go_sem, Nat.reduceEqDiff, ↓reduceIte, Nat.reduceAdd, Nat.reduceMul, Nat.reduceLeDiff, Nat.reduceLT, reduceCtorEq, Int.reduceToNat, Int.reduceLE, Int.reduceLT, Int.reduceEq, Int.reduceNeg, Int.reduceNe, Int.reducePow, Nat.reducePow, Nat.reduceSub, IntKind.bits]
      refine ⟨keep_ap (k1.nrow 1) n1, wf_ap w2, apO o2 1 _, pre ++ [((u % 128 + 128 : Nat) : Int)], by simp only [byts, List.map_append, List.map_cons, List.map_nil], ⟨?_, by omega⟩, by simpa using t3, newTok_ap (k1.nrow 1) n1⟩
      rw [hp1.1, chainU_ge hge]; simp

/-! the document's chain -/
def I34 (u0 : Nat) (h0 : H) (u : Nat) (s : S) (h : H) : Prop :=
  s 4 = .int .u64 u ∧ Keep h0 h ∧ WF h ∧ ∃ o pre, s 3 = byts o pre ∧ putI [] u0 u pre ∧ okTok o pre.length h ∧ newTok o h0
theorem c34 (n : Int) (h1 : -9223372036854775808 ≤ n) (h2 : n < 9223372036854775808) (h : H) (w : WF h) :
    runI Try.prog TA 34 [.int .i64 n] h = some (byts (tk Try.prog TA 34 [.int .i64 n] h) (chainU (foldN n).toNat), hp Try.prog TA 34 [.int .i64 n] h) := by
  refine pureS_of rfl res34 rfl ?_
  have e29 := c29 n h1 h2
  have hf := fold_range h1 h2
  simp (maxSteps := 10000000) (maxDischargeDepth := 30) only [q34, r34, e29, w, go_sem, Nat.reduceEqDiff, ↓reduceIte, Nat.reduceAdd, Nat.reduceMul, Nat.reduceLeDiff, Nat.reduceLT, reduceCtorEq, Int.reduceToNat, Int.reduceLE, Int.reduceLT, Int.reduceEq, Int.reduceNeg, Int.reduceNe, Int.reducePow, Nat.reducePow, Nat.reduceSub, IntKind.bits]
  refine ru_loop (fun u => u) (I34 (foldN n).toNat h) (foldN n).toNat ?_ ?_
  · unfold I34
    have e0 : ((foldN n).toNat : Int) = foldN n := Int.toNat_of_nonneg hf.1
    simp (maxSteps := 10000000) (maxDischargeDepth := 30) only [e0, w, go_sem, Nat.reduceEqDiff, ↓reduceIte, Nat.reduceAdd, Nat.reduceMul, Nat.reduceLeDiff, Nat.reduceLT, reduceCtorEq, Int.reduceToNat, Int.reduceLE, Int.reduceLT, Int.reduceEq, Int.reduceNeg, Int.reduceNe, Int.reducePow, Nat.reducePow, Nat.reduceSub, IntKind.bits]
    exact ⟨none, [], rfl, ⟨rfl, by omega⟩, rfl, trivial⟩
  · rintro u s hh ⟨e6, k1, w1, o2, pre, e5, hp1, t1, n1⟩
    have hpl := put_len (l := []) (u0 := (foldN n).toNat) (by omega) hp1
    simp only [List.length_nil] at hpl
    have hu := hp1.2
    have k2 : Keep hh (hh.nrow 1) := (Keep.refl hh).nrow 1
    have w2 : WF (hh.nrow 1) := wf_nrow w1
    have t2 := okTok_keep k2 t1
    by_cases hge : u < 128
    · have c1 : ¬ (127 : Int) < u := by omega
      have e8 : IntKind.u8.wrap (u : Int) = (u : Int) := by rw [wrapU8]; omega
      have ap := append_mk (sz := 1) (by_ := 1) (ys := [LV.int .u8 (u : Int)]) (xs := pre.map (LV.int .u8)) (o := o2) (h := hh.nrow 1) (by simpa using t2) (by simp; omega)
      simp (maxSteps := 10000000) (maxDischargeDepth := 30) only [e5, e6, c1, e8, ap, go_sem, Nat.reduceEqDiff, ↓reduceIte, Nat.reduceAdd, Nat.reduceMul, Nat.reduceLeDiff, Nat.reduceLT, reduceCtorEq, Int.reduceToNat, Int.reduceLE, Int.reduceLT, Int.reduceEq, Int.reduceNeg, Int.reduceNe, Int.reducePow, Nat.reducePow, Nat.reduceSub, IntKind.bits]
      have hfin : chainU (foldN n).toNat = pre ++ [(u : Int)] := by have := hp1.1; rw [chainU_lt hge] at this; simpa using this
      refine ⟨⟨apO o2 1 (hh.nrow 1), ?_⟩, keep_ap (k1.nrow 1) n1⟩
      rw [hfin]; simp only [List.map_append, List.map_cons, List.map_nil]
    · have c1 : (127 : Int) < u := by omega
      have e7 : (u : Int).tmod 128 = (u : Int) % 128 := Int.tmod_eq_emod_of_nonneg (by omega)
      have e7' : IntKind.u64.wrap ((u : Int) % 128 + 128) = ((u % 128 + 128 : Nat) : Int) := by rw [wrapU64 (by omega) (by omega)]; omega
      have e8 : IntKind.u8.wrap (((u % 128 + 128 : Nat)) : Int) = ((u % 128 + 128 : Nat) : Int) := by rw [wrapU8]; omega
      have e9 : (u : Int).tdiv 128 = ((u / 128 : Nat) : Int) := by rw [Int.tdiv_eq_ediv_of_nonneg (by omega)]; omega
      have e10 : IntKind.u64.wrap ((u / 128 : Nat) : Int) = ((u / 128 : Nat) : Int) := wrapU64 (by omega) (by omega)
      have ap := append_mk (sz := 1) (by_ := 1) (ys := [LV.int .u8 ((u % 128 + 128 : Nat) : Int)]) (xs := pre.map (LV.int .u8)) (o := o2) (h := hh.nrow 1) (by simpa using t2) (by simp; omega)
      simp (maxSteps := 10000000) (maxDischargeDepth := 30) only [e5, e6, c1, e7, e7', e8, e9, e10, ap, go_sem, Nat.reduceEqDiff, ↓reduceIte, Nat.reduceAdd, Nat.reduceMul, Nat.reduceLeDiff, Nat.reduceLT, reduceCtorEq, Int.reduceToNat, Int.reduceLE, Int.reduceLT, Int.reduceEq, Int.reduceNeg, Int.reduceNe, Int.reducePow, Nat.reducePow, Nat.reduceSub, IntKind.bits]
      have t3 := okTok_ap (m := 1) w2 t2
      refine ⟨u / 128, by omega, ?_⟩
      unfold I34
      simp (maxSteps := 10000000) (maxDischargeDepth := 30) only [e5, e6, go_sem, Nat.reduceEqDiff, ↓reduceIte, Nat.reduceAdd, Nat.reduceMul, Nat.reduceLeDiff, Nat.reduceLT, reduceCtorEq, Int.reduceToNat, Int.reduceLE, Int.reduceLT, Int.reduceEq, Int.reduceNeg, Int.reduceNe, Int.reducePow, Nat.reducePow, Nat.reduceSub, IntKind.bits]
      refine ⟨keep_ap (k1.nrow 1) n1, wf_ap w2, apO o2 1 _, pre ++ [((u % 128 + 128 : Nat) : Int)], by simp only [byts, List.map_append, List.map_cons, List.map_nil], ⟨?_, by omega⟩, by simpa using t3, newTok_ap (k1.nrow 1) n1⟩
      rw [hp1.1, chainU_ge hge]; simp

theorem byts_nil : LV.nils = byts none [] := rfl
theorem c35 (n : Int) (h1 : -9223372036854775808 ≤ n) (h2 : n < 9223372036854775808) (h : H) (w : WF h) :
    runI Try.prog TA 35 [.int .i64 n] h = some (.int .i64 ((chainU (foldN n).toNat).length : Int), hp Try.prog TA 35 [.int .i64 n] h) := by
  refine pure_of rfl res35 rfl ?_
  have e33 := fun h w => (c33 none [] n (by simp) h1 h2 h w).1
  simp only [List.nil_append] at e33
  rw [← byts_nil] at e33
  simp (maxSteps := 10000000) (maxDischargeDepth := 30) only [q35, r35, e33, w, go_sem, Nat.reduceEqDiff, ↓reduceIte, Nat.reduceAdd, Nat.reduceMul, Nat.reduceLeDiff, Nat.reduceLT, reduceCtorEq, Int.reduceToNat, Int.reduceLE, Int.reduceLT, Int.reduceEq, Int.reduceNeg, Int.reduceNe, Int.reducePow, Nat.reducePow, Nat.reduceSub, IntKind.bits]

def I32 (o o2 : Option (Nat × Nat)) (a b : List Int) (h0 : H) (i : Nat) (s : S) (h : H) : Prop :=
  s 0 = byts o a ∧ s 1 = byts o2 b ∧ s 5 = .int .i64 i ∧ i ≤ a.length ∧ Keep h0 h ∧ WF h
theorem byt_at {l : List Int} {i : Nat} {n : Int} (h : l[i]? = some n) : iaS (l.map (LV.int .u8)) (i : Int) = some (.cptr (.int .u8 n)) := iaS_map (Int.natCast_nonneg i) (by simpa using h)
theorem c32 (o o2 : Option (Nat × Nat)) (a : List Int) (hl : a.length ≤ 100000) (h : H) (w : WF h) :
    runI Try.prog TA 32 [byts o a, byts o2 a] h = some (.bool true, hp Try.prog TA 32 [byts o a, byts o2 a] h) := by
  refine pure_of rfl res32 rfl ?_
  simp (maxSteps := 10000000) (maxDischargeDepth := 30) only [q32, r32, go_sem, Nat.reduceEqDiff, ↓reduceIte, Nat.reduceAdd, Nat.reduceMul, Nat.reduceLeDiff, Nat.reduceLT, reduceCtorEq, Int.reduceToNat, Int.reduceLE, Int.reduceLT, Int.reduceEq, Int.reduceNeg, Int.reduceNe, Int.reducePow, Nat.reducePow, Nat.reduceSub, IntKind.bits]
  refine ru_loop (fun i => a.length - i) (I32 o o2 a a h) 0 ?_ ?_
  · unfold I32
    simp (maxSteps := 10000000) (maxDischargeDepth := 30) only [w, Int.natCast_zero, go_sem, Nat.reduceEqDiff, ↓reduceIte, Nat.reduceAdd, Nat.reduceMul, Nat.reduceLeDiff, Nat.reduceLT, reduceCtorEq, Int.reduceToNat, Int.reduceLE, Int.reduceLT, Int.reduceEq, Int.reduceNeg, Int.reduceNe, Int.reducePow, Nat.reducePow, Nat.reduceSub, IntKind.bits]
  · rintro i s h1 ⟨e0, e1, e5, hi, k1, w1⟩
    by_cases hlt : i < a.length
    · obtain ⟨n, hn⟩ : ∃ n, a[i]? = some n := ⟨a[i], List.getElem?_eq_getElem hlt⟩
      have ea := byt_at hn
      have c1 : (i : Int) < a.length := by omega
      have ew : IntKind.i64.wrap ((i : Int) + 1) = ((i + 1 : Nat) : Int) := by rw [wrap64 (by omega) (by omega)]; omega
      simp (maxSteps := 10000000) (maxDischargeDepth := 30) only [e0, e1, e5, ea, c1, ew, go_sem, Nat.reduceEqDiff, ↓reduceIte, Nat.reduceAdd, Nat.reduceMul, Nat.reduceLeDiff, Nat.reduceLT, reduceCtorEq, Int.reduceToNat, Int.reduceLE, Int.reduceLT, Int.reduceEq, Int.reduceNeg, Int.reduceNe, Int.reducePow, Nat.reducePow, Nat.reduceSub, IntKind.bits]
      refine ⟨i + 1, by omega, ?_⟩
      unfold I32
      simp (maxSteps := 10000000) (maxDischargeDepth := 30) only [e0, e1, e5, k1, w1, ew, go_sem, Nat.reduceEqDiff, ↓reduceIte, Nat.reduceAdd, Nat.reduceMul, Nat.reduceLeDiff, Nat.reduceLT, reduceCtorEq, Int.reduceToNat, Int.reduceLE, Int.reduceLT, Int.reduceEq, Int.reduceNeg, Int.reduceNe, Int.reducePow, Nat.reducePow, Nat.reduceSub, IntKind.bits]
      omega
    · have c1 : ¬ (i : Int) < a.length := by omega
      simp (maxSteps := 10000000) (maxDischargeDepth := 30) only [e0, e1, e5, c1, k1, go_sem, Nat.reduceEqDiff, ↓reduceIte, Nat.reduceAdd, Nat.reduceMul, Nat.reduceLeDiff, Nat.reduceLT, reduceCtorEq, Int.reduceToNat, Int.reduceLE, Int.reduceLT, Int.reduceEq, Int.reduceNeg, Int.reduceNe, Int.reducePow, Nat.reducePow, Nat.reduceSub, IntKind.bits]
end Go.LM
