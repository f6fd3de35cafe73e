import Derived.Test.YtmanbekgnooocaaLmTraR2
import Derived.Test.YtmanbekgnooocaaLmaAnchor3
namespace Go.LM
open Go.Proofs
set_option maxRecDepth 8000
set_option maxHeartbeats 8000000
set_option linter.unusedSimpArgs false

theorem flo_atA {fl : List FloatR} {n : Int} {f : FloatR} (h : flAt fl n = some f) : 0 ≤ n ∧ n < fl.length ∧ iaS (fl.map FloatR.e) n = some (.cptr f.e) := by
  unfold flAt at h
  split at h
  · rename_i h0
    obtain ⟨h1, -⟩ := List.getElem?_eq_some_iff.1 h
    exact ⟨h0, by omega, iaS_map h0 (by simpa using h)⟩
  · cases h
theorem flAt_none {fl : List FloatR} {n : Int} (h : flAt fl n = none) : n < 0 ∨ (fl.length : Int) ≤ n := by
  unfold flAt at h
  split at h
  · rw [List.getElem?_eq_none_iff] at h; omega
  · omega
theorem aStep_k {fl : List FloatR} {x : ItemR} {s : Cnt} (h : ¬ x.k = 6) : aStep fl x s = s := by unfold aStep; rw [if_neg h]
theorem aStep_n {fl : List FloatR} {x : ItemR} {s : Cnt} (h : flAt fl x.n = none) : aStep fl x s = s := by
  unfold aStep; rw [h]; simp
theorem aStep_c {fl : List FloatR} {x : ItemR} {s : Cnt} {f : FloatR} (h : flAt fl x.n = some f) (hc : ¬ (0 ≤ f.c ∧ f.c < 3)) : aStep fl x s = s := by
  unfold aStep; rw [h]; simp only [if_neg hc, ite_self]
theorem aStep_i {fl : List FloatR} {x : ItemR} {s : Cnt} {f : FloatR} (hk : x.k = 6) (h : flAt fl x.n = some f) (hc : 0 ≤ f.c ∧ f.c < 3) : aStep fl x s = s.inc f.c := by
  unfold aStep; rw [if_pos hk, h]; simp only [if_pos hc]
def IRAhead (o o2 : Option (Nat × Nat)) (l : List ItemR) (fl : List FloatR) (n : Int) (h0 : H) (i : Nat) (s : S) (hh : H) : Prop :=
  s 0 = mkS o 7 (l.map ItemR.e) ∧ s 1 = mkS o2 3 (fl.map FloatR.e) ∧ s 2 = .int .i64 n ∧ s 6 = .ptr h0.len 0 ∧ s 7 = .ptr (h0.len + 1) 0 ∧ s 8 = .int .i64 i ∧ i ≤ l.length ∧
    hh.get h0.len = some ⟨false, [.int .i64 0, .int .i64 0, .int .i64 0]⟩ ∧ hh.get (h0.len + 1) = some ⟨false, [.int .i64 (aheadD l fl n i).a, .int .i64 (aheadD l fl n i).b, .int .i64 (aheadD l fl n i).c]⟩ ∧ Keep h0 hh ∧ WF hh
theorem aheadD_ok {l : List ItemR} {fl : List FloatR} (n : Int) {i : Nat} (hi : i ≤ l.length) : cnt0.le (aheadD l fl n i) ∧ (aheadD l fl n i).a ≤ i ∧ (aheadD l fl n i).b ≤ i ∧ (aheadD l fl n i).c ≤ i := by
  rw [aheadD_eq n i hi]
  obtain ⟨h1, h2, h3, h4⟩ := aheadN_ok (l := l) (fl := fl) (min i (placeN l n))
  have : ((min i (placeN l n) : Nat) : Int) ≤ i := by omega
  exact ⟨h1, by omega, by omega, by omega⟩
theorem cRAhead21 (o o2 : Option (Nat × Nat)) (l : List ItemR) (fl : List FloatR) (n : Int) (hl : l.length ≤ 1000) (h : H) (w : WF h) :
    runI Try.prog TA 57 [mkS o 7 (l.map ItemR.e), mkS o2 3 (fl.map FloatR.e), .int .i64 n] h = some ((aheadD l fl n l.length).e, hp Try.prog TA 57 [mkS o 7 (l.map ItemR.e), mkS o2 3 (fl.map FloatR.e), .int .i64 n] h) := by
  refine pure_of rfl res57 rfl ?_
  have lo := w.1
  simp (maxSteps := 10000000) (maxDischargeDepth := 30) only [q57, r57, go_sem, Nat.reduceEqDiff, ↓reduceIte, Nat.reduceAdd, Nat.reduceMul, Nat.reduceLeDiff, Nat.reduceLT, reduceCtorEq, Int.reduceToNat, Int.reduceLE, Int.reduceLT, Int.reduceEq, Int.reduceNeg, Int.reduceNe, Int.reducePow, Nat.reducePow, Nat.reduceSub, IntKind.bits]
  generalize hgg : H.alloc _ _ = g
  have k0 : Keep h g := by rw [← hgg]; exact ((Keep.refl h).alloc _).alloc _
  have g1 : g.get h.len = some ⟨false, [.int .i64 0, .int .i64 0, .int .i64 0]⟩ := by rw [← hgg]; simp (maxSteps := 10000000) (maxDischargeDepth := 30) only [go_sem, Nat.reduceEqDiff, ↓reduceIte, Nat.reduceAdd, Nat.reduceMul, Nat.reduceLeDiff, Nat.reduceLT, reduceCtorEq, Int.reduceToNat, Int.reduceLE, Int.reduceLT, Int.reduceEq, Int.reduceNeg, Int.reduceNe, Int.reducePow, Nat.reducePow, Nat.reduceSub, IntKind.bits]
  have g2 : g.get (h.len + 1) = some ⟨false, [.int .i64 0, .int .i64 0, .int .i64 0]⟩ := by rw [← hgg]; simp (maxSteps := 10000000) (maxDischargeDepth := 30) only [go_sem, Nat.reduceEqDiff, ↓reduceIte, Nat.reduceAdd, Nat.reduceMul, Nat.reduceLeDiff, Nat.reduceLT, reduceCtorEq, Int.reduceToNat, Int.reduceLE, Int.reduceLT, Int.reduceEq, Int.reduceNeg, Int.reduceNe, Int.reducePow, Nat.reducePow, Nat.reduceSub, IntKind.bits]
  clear hgg
  have w0 := w.keep k0
  refine ru_loop (fun i => l.length - i) (IRAhead o o2 l fl n h) 0 ?_ ?_
  · unfold IRAhead
    simp (maxSteps := 10000000) (maxDischargeDepth := 30) only [Int.natCast_zero, go_sem, Nat.reduceEqDiff, ↓reduceIte, Nat.reduceAdd, Nat.reduceMul, Nat.reduceLeDiff, Nat.reduceLT, reduceCtorEq, Int.reduceToNat, Int.reduceLE, Int.reduceLT, Int.reduceEq, Int.reduceNeg, Int.reduceNe, Int.reducePow, Nat.reducePow, Nat.reduceSub, IntKind.bits]
    exact ⟨g1, g2, k0, w0⟩
  · rintro i s hh ⟨e0, e1, e2, e6, e7, e8, hi, g1, g2, kk, ww⟩
    have l1 := lt_of_get g1
    have l2 := lt_of_get g2
    have lo1 : hh.lob ≤ h.len := by rw [kk.lob]; exact lo
    have lo2 : hh.lob ≤ h.len + 1 := by omega
    by_cases c1 : (i : Int) < l.length
    rotate_left
    · obtain rfl : i = l.length := by omega
      have kf := kk.put (Nat.le_refl h.len) ⟨false, [.int .i64 (aheadD l fl n l.length).a, .int .i64 (aheadD l fl n l.length).b, .int .i64 (aheadD l fl n l.length).c]⟩
      simp (maxSteps := 10000000) (maxDischargeDepth := 30) only [e0, e1, e2, e6, e7, e8, c1, List.length_map, g2, g1, l1, lo1, kf, go_sem, Nat.reduceEqDiff, ↓reduceIte, Nat.reduceAdd, Nat.reduceMul, Nat.reduceLeDiff, Nat.reduceLT, reduceCtorEq, Int.reduceToNat, Int.reduceLE, Int.reduceLT, Int.reduceEq, Int.reduceNeg, Int.reduceNe, Int.reducePow, Nat.reducePow, Nat.reduceSub, IntKind.bits]
      rfl
    refine ru_step ?_
    obtain ⟨x, hx⟩ := at_lt (l := l) (i := i) (by omega)
    have hs := aheadD_s (fl := fl) (n := n) hx
    obtain ⟨b0, b1, b2, b3⟩ := aheadD_ok (l := l) (fl := fl) n (i := i) (by omega)
    have ia := item_atA hx
    have ew : IntKind.i64.wrap ((i : Int) + 1) = ((i + 1 : Nat) : Int) := by rw [wrap64 (by omega) (by omega)]; omega
    have fin : ∀ hh : H, aheadD l fl n (i + 1) = aheadD l fl n i → hh.get (h.len + 1) = some ⟨false, [.int .i64 (aheadD l fl n i).a, .int .i64 (aheadD l fl n i).b, .int .i64 (aheadD l fl n i).c]⟩ → hh.get (h.len + 1) = some ⟨false, [.int .i64 (aheadD l fl n (i + 1)).a, .int .i64 (aheadD l fl n (i + 1)).b, .int .i64 (aheadD l fl n (i + 1)).c]⟩ := fun hh e g => by rw [e]; exact g
    by_cases c2 : (i : Int) < n
    rotate_left
    · rw [if_neg c2] at hs
      simp (maxSteps := 10000000) (maxDischargeDepth := 30) only [e0, e1, e2, e6, e7, e8, c1, List.length_map, c2, ew, go_sem, Nat.reduceEqDiff, ↓reduceIte, Nat.reduceAdd, Nat.reduceMul, Nat.reduceLeDiff, Nat.reduceLT, reduceCtorEq, Int.reduceToNat, Int.reduceLE, Int.reduceLT, Int.reduceEq, Int.reduceNeg, Int.reduceNe, Int.reducePow, Nat.reducePow, Nat.reduceSub, IntKind.bits]
      refine ⟨i + 1, by omega, ?_⟩
      unfold IRAhead
      simp (maxSteps := 10000000) (maxDischargeDepth := 30) only [e0, e1, e2, e6, e7, go_sem, Nat.reduceEqDiff, ↓reduceIte, Nat.reduceAdd, Nat.reduceMul, Nat.reduceLeDiff, Nat.reduceLT, reduceCtorEq, Int.reduceToNat, Int.reduceLE, Int.reduceLT, Int.reduceEq, Int.reduceNeg, Int.reduceNe, Int.reducePow, Nat.reducePow, Nat.reduceSub, IntKind.bits]
      exact ⟨by omega, g1, fin hh hs g2, kk, ww⟩
    rw [if_pos c2] at hs
    by_cases c3 : x.k = 6
    rotate_left
    · rw [aStep_k c3] at hs
      simp (maxSteps := 10000000) (maxDischargeDepth := 30) only [e0, e1, e2, e6, e7, e8, c1, List.length_map, c2, c3, ia, ItemR.e, ew, go_sem, Nat.reduceEqDiff, ↓reduceIte, Nat.reduceAdd, Nat.reduceMul, Nat.reduceLeDiff, Nat.reduceLT, reduceCtorEq, Int.reduceToNat, Int.reduceLE, Int.reduceLT, Int.reduceEq, Int.reduceNeg, Int.reduceNe, Int.reducePow, Nat.reducePow, Nat.reduceSub, IntKind.bits]
      refine ⟨i + 1, by omega, ?_⟩
      unfold IRAhead
      simp (maxSteps := 10000000) (maxDischargeDepth := 30) only [e0, e1, e2, e6, e7, go_sem, Nat.reduceEqDiff, ↓reduceIte, Nat.reduceAdd, Nat.reduceMul, Nat.reduceLeDiff, Nat.reduceLT, reduceCtorEq, Int.reduceToNat, Int.reduceLE, Int.reduceLT, Int.reduceEq, Int.reduceNeg, Int.reduceNe, Int.reducePow, Nat.reducePow, Nat.reduceSub, IntKind.bits]
      exact ⟨by omega, g1, fin hh hs g2, kk, ww⟩
    cases hf : flAt fl x.n with
    | none =>
      rw [aStep_n hf] at hs
      by_cases c4 : 0 ≤ x.n
      · have c5 : ¬ x.n < fl.length := by have := flAt_none hf; omega
        simp (maxSteps := 10000000) (maxDischargeDepth := 30) only [e0, e1, e2, e6, e7, e8, c1, List.length_map, c2, c3, ia, ItemR.e, c4, c5, ew, go_sem, Nat.reduceEqDiff, ↓reduceIte, Nat.reduceAdd, Nat.reduceMul, Nat.reduceLeDiff, Nat.reduceLT, reduceCtorEq, Int.reduceToNat, Int.reduceLE, Int.reduceLT, Int.reduceEq, Int.reduceNeg, Int.reduceNe, Int.reducePow, Nat.reducePow, Nat.reduceSub, IntKind.bits]
        refine ⟨i + 1, by omega, ?_⟩
        unfold IRAhead
        simp (maxSteps := 10000000) (maxDischargeDepth := 30) only [e0, e1, e2, e6, e7, go_sem, Nat.reduceEqDiff, ↓reduceIte, Nat.reduceAdd, Nat.reduceMul, Nat.reduceLeDiff, Nat.reduceLT, reduceCtorEq, Int.reduceToNat, Int.reduceLE, Int.reduceLT, Int.reduceEq, Int.reduceNeg, Int.reduceNe, Int.reducePow, Nat.reducePow, Nat.reduceSub, IntKind.bits]
        exact ⟨by omega, g1, fin hh hs g2, kk, ww⟩
      · simp (maxSteps := 10000000) (maxDischargeDepth := 30) only [e0, e1, e2, e6, e7, e8, c1, List.length_map, c2, c3, ia, ItemR.e, c4, ew, go_sem, Nat.reduceEqDiff, ↓reduceIte, Nat.reduceAdd, Nat.reduceMul, Nat.reduceLeDiff, Nat.reduceLT, reduceCtorEq, Int.reduceToNat, Int.reduceLE, Int.reduceLT, Int.reduceEq, Int.reduceNeg, Int.reduceNe, Int.reducePow, Nat.reducePow, Nat.reduceSub, IntKind.bits]
        refine ⟨i + 1, by omega, ?_⟩
        unfold IRAhead
        simp (maxSteps := 10000000) (maxDischargeDepth := 30) only [e0, e1, e2, e6, e7, go_sem, Nat.reduceEqDiff, ↓reduceIte, Nat.reduceAdd, Nat.reduceMul, Nat.reduceLeDiff, Nat.reduceLT, reduceCtorEq, Int.reduceToNat, Int.reduceLE, Int.reduceLT, Int.reduceEq, Int.reduceNeg, Int.reduceNe, Int.reducePow, Nat.reducePow, Nat.reduceSub, IntKind.bits]
        exact ⟨by omega, g1, fin hh hs g2, kk, ww⟩
    | some f =>
      obtain ⟨c4, c5, ifl⟩ := flo_atA hf
      by_cases c6 : 0 ≤ f.c
      rotate_left
      · rw [aStep_c hf (fun q => c6 q.1)] at hs
        simp (maxSteps := 10000000) (maxDischargeDepth := 30) only [e0, e1, e2, e6, e7, e8, c1, List.length_map, c2, c3, ia, ItemR.e, c4, c5, ifl, FloatR.e, c6, ew, go_sem, Nat.reduceEqDiff, ↓reduceIte, Nat.reduceAdd, Nat.reduceMul, Nat.reduceLeDiff, Nat.reduceLT, reduceCtorEq, Int.reduceToNat, Int.reduceLE, Int.reduceLT, Int.reduceEq, Int.reduceNeg, Int.reduceNe, Int.reducePow, Nat.reducePow, Nat.reduceSub, IntKind.bits]
        refine ⟨i + 1, by omega, ?_⟩
        unfold IRAhead
        simp (maxSteps := 10000000) (maxDischargeDepth := 30) only [e0, e1, e2, e6, e7, go_sem, Nat.reduceEqDiff, ↓reduceIte, Nat.reduceAdd, Nat.reduceMul, Nat.reduceLeDiff, Nat.reduceLT, reduceCtorEq, Int.reduceToNat, Int.reduceLE, Int.reduceLT, Int.reduceEq, Int.reduceNeg, Int.reduceNe, Int.reducePow, Nat.reducePow, Nat.reduceSub, IntKind.bits]
        exact ⟨by omega, g1, fin hh hs g2, kk, ww⟩
      by_cases c7 : f.c < 3
      rotate_left
      · rw [aStep_c hf (fun q => c7 q.2)] at hs
        simp (maxSteps := 10000000) (maxDischargeDepth := 30) only [e0, e1, e2, e6, e7, e8, c1, List.length_map, c2, c3, ia, ItemR.e, c4, c5, ifl, FloatR.e, c6, c7, ew, go_sem, Nat.reduceEqDiff, ↓reduceIte, Nat.reduceAdd, Nat.reduceMul, Nat.reduceLeDiff, Nat.reduceLT, reduceCtorEq, Int.reduceToNat, Int.reduceLE, Int.reduceLT, Int.reduceEq, Int.reduceNeg, Int.reduceNe, Int.reducePow, Nat.reducePow, Nat.reduceSub, IntKind.bits]
        refine ⟨i + 1, by omega, ?_⟩
        unfold IRAhead
        simp (maxSteps := 10000000) (maxDischargeDepth := 30) only [e0, e1, e2, e6, e7, go_sem, Nat.reduceEqDiff, ↓reduceIte, Nat.reduceAdd, Nat.reduceMul, Nat.reduceLeDiff, Nat.reduceLT, reduceCtorEq, Int.reduceToNat, Int.reduceLE, Int.reduceLT, Int.reduceEq, Int.reduceNeg, Int.reduceNe, Int.reducePow, Nat.reducePow, Nat.reduceSub, IntKind.bits]
        exact ⟨by omega, g1, fin hh hs g2, kk, ww⟩
      rw [aStep_i c3 hf ⟨c6, c7⟩] at hs
      obtain h0 | h0 | h0 : f.c = 0 ∨ f.c = 1 ∨ f.c = 2 := by omega
      · have hi2 : aheadD l fl n (i + 1) = ⟨(aheadD l fl n i).a + 1, (aheadD l fl n i).b, (aheadD l fl n i).c⟩ := by rw [hs, h0]; rfl
        have ew2 : IntKind.i64.wrap ((aheadD l fl n i).a + 1) = (aheadD l fl n i).a + 1 := wrap64 (by have := b0.1; have := b0.2.1; have := b0.2.2; simp only [cnt0] at *; omega) (by omega)
        have g2' : (hh.put (h.len + 1) ⟨false, [.int .i64 ((aheadD l fl n i).a + 1), .int .i64 (aheadD l fl n i).b, .int .i64 (aheadD l fl n i).c]⟩).get (h.len + 1) = some ⟨false, [.int .i64 (aheadD l fl n (i + 1)).a, .int .i64 (aheadD l fl n (i + 1)).b, .int .i64 (aheadD l fl n (i + 1)).c]⟩ := by rw [hi2]; exact get_put_eq l2
        have g1' : (hh.put (h.len + 1) ⟨false, [.int .i64 ((aheadD l fl n i).a + 1), .int .i64 (aheadD l fl n i).b, .int .i64 (aheadD l fl n i).c]⟩).get h.len = _ := (get_put_ne (by omega)).trans g1
        have kk2 := kk.put (show h.len ≤ h.len + 1 by omega) ⟨false, [.int .i64 ((aheadD l fl n i).a + 1), .int .i64 (aheadD l fl n i).b, .int .i64 (aheadD l fl n i).c]⟩
        have ww2 : WF (hh.put (h.len + 1) ⟨false, [.int .i64 ((aheadD l fl n i).a + 1), .int .i64 (aheadD l fl n i).b, .int .i64 (aheadD l fl n i).c]⟩) := wf_put ww
        generalize hge : hh.put (h.len + 1) ⟨false, [.int .i64 ((aheadD l fl n i).a + 1), .int .i64 (aheadD l fl n i).b, .int .i64 (aheadD l fl n i).c]⟩ = g3 at g1' g2' kk2 ww2
        simp (maxSteps := 10000000) (maxDischargeDepth := 30) only [e0, e1, e2, e6, e7, e8, c1, List.length_map, c2, c3, ia, ItemR.e, c4, c5, ifl, FloatR.e, h0, g2, l2, lo2, ew2, ew, hge, go_sem, Nat.reduceEqDiff, ↓reduceIte, Nat.reduceAdd, Nat.reduceMul, Nat.reduceLeDiff, Nat.reduceLT, reduceCtorEq, Int.reduceToNat, Int.reduceLE, Int.reduceLT, Int.reduceEq, Int.reduceNeg, Int.reduceNe, Int.reducePow, Nat.reducePow, Nat.reduceSub, IntKind.bits]
        refine ⟨i + 1, by omega, ?_⟩
        unfold IRAhead
        simp (maxSteps := 10000000) (maxDischargeDepth := 30) only [e0, e1, e2, e6, e7, go_sem, Nat.reduceEqDiff, ↓reduceIte, Nat.reduceAdd, Nat.reduceMul, Nat.reduceLeDiff, Nat.reduceLT, reduceCtorEq, Int.reduceToNat, Int.reduceLE, Int.reduceLT, Int.reduceEq, Int.reduceNeg, Int.reduceNe, Int.reducePow, Nat.reducePow, Nat.reduceSub, IntKind.bits]
        exact ⟨by omega, g1', g2', kk2, ww2⟩
      · have hi2 : aheadD l fl n (i + 1) = ⟨(aheadD l fl n i).a, (aheadD l fl n i).b + 1, (aheadD l fl n i).c⟩ := by rw [hs, h0]; rfl
        have ew2 : IntKind.i64.wrap ((aheadD l fl n i).b + 1) = (aheadD l fl n i).b + 1 := wrap64 (by have := b0.1; have := b0.2.1; have := b0.2.2; simp only [cnt0] at *; omega) (by omega)
        have g2' : (hh.put (h.len + 1) ⟨false, [.int .i64 (aheadD l fl n i).a, .int .i64 ((aheadD l fl n i).b + 1), .int .i64 (aheadD l fl n i).c]⟩).get (h.len + 1) = some ⟨false, [.int .i64 (aheadD l fl n (i + 1)).a, .int .i64 (aheadD l fl n (i + 1)).b, .int .i64 (aheadD l fl n (i + 1)).c]⟩ := by rw [hi2]; exact get_put_eq l2
        have g1' : (hh.put (h.len + 1) ⟨false, [.int .i64 (aheadD l fl n i).a, .int .i64 ((aheadD l fl n i).b + 1), .int .i64 (aheadD l fl n i).c]⟩).get h.len = _ := (get_put_ne (by omega)).trans g1
        have kk2 := kk.put (show h.len ≤ h.len + 1 by omega) ⟨false, [.int .i64 (aheadD l fl n i).a, .int .i64 ((aheadD l fl n i).b + 1), .int .i64 (aheadD l fl n i).c]⟩
        have ww2 : WF (hh.put (h.len + 1) ⟨false, [.int .i64 (aheadD l fl n i).a, .int .i64 ((aheadD l fl n i).b + 1), .int .i64 (aheadD l fl n i).c]⟩) := wf_put ww
        generalize hge : hh.put (h.len + 1) ⟨false, [.int .i64 (aheadD l fl n i).a, .int .i64 ((aheadD l fl n i).b + 1), .int .i64 (aheadD l fl n i).c]⟩ = g3 at g1' g2' kk2 ww2
        simp (maxSteps := 10000000) (maxDischargeDepth := 30) only [e0, e1, e2, e6, e7, e8, c1, List.length_map, c2, c3, ia, ItemR.e, c4, c5, ifl, FloatR.e, h0, g2, l2, lo2, ew2, ew, hge, go_sem, Nat.reduceEqDiff, ↓reduceIte, Nat.reduceAdd, Nat.reduceMul, Nat.reduceLeDiff, Nat.reduceLT, reduceCtorEq, Int.reduceToNat, Int.reduceLE, Int.reduceLT, Int.reduceEq, Int.reduceNeg, Int.reduceNe, Int.reducePow, Nat.reducePow, Nat.reduceSub, IntKind.bits]
        refine ⟨i + 1, by omega, ?_⟩
        unfold IRAhead
        simp (maxSteps := 10000000) (maxDischargeDepth := 30) only [e0, e1, e2, e6, e7, go_sem, Nat.reduceEqDiff, ↓reduceIte, Nat.reduceAdd, Nat.reduceMul, Nat.reduceLeDiff, Nat.reduceLT, reduceCtorEq, Int.reduceToNat, Int.reduceLE, Int.reduceLT, Int.reduceEq, Int.reduceNeg, Int.reduceNe, Int.reducePow, Nat.reducePow, Nat.reduceSub, IntKind.bits]
        exact ⟨by omega, g1', g2', kk2, ww2⟩
      · have hi2 : aheadD l fl n (i + 1) = ⟨(aheadD l fl n i).a, (aheadD l fl n i).b, (aheadD l fl n i).c + 1⟩ := by rw [hs, h0]; rfl
        have ew2 : IntKind.i64.wrap ((aheadD l fl n i).c + 1) = (aheadD l fl n i).c + 1 := wrap64 (by have := b0.1; have := b0.2.1; have := b0.2.2; simp only [cnt0] at *; omega) (by omega)
        have g2' : (hh.put (h.len + 1) ⟨false, [.int .i64 (aheadD l fl n i).a, .int .i64 (aheadD l fl n i).b, .int .i64 ((aheadD l fl n i).c + 1)]⟩).get (h.len + 1) = some ⟨false, [.int .i64 (aheadD l fl n (i + 1)).a, .int .i64 (aheadD l fl n (i + 1)).b, .int .i64 (aheadD l fl n (i + 1)).c]⟩ := by rw [hi2]; exact get_put_eq l2
        have g1' : (hh.put (h.len + 1) ⟨false, [.int .i64 (aheadD l fl n i).a, .int .i64 (aheadD l fl n i).b, .int .i64 ((aheadD l fl n i).c + 1)]⟩).get h.len = _ := (get_put_ne (by omega)).trans g1
        have kk2 := kk.put (show h.len ≤ h.len + 1 by omega) ⟨false, [.int .i64 (aheadD l fl n i).a, .int .i64 (aheadD l fl n i).b, .int .i64 ((aheadD l fl n i).c + 1)]⟩
        have ww2 : WF (hh.put (h.len + 1) ⟨false, [.int .i64 (aheadD l fl n i).a, .int .i64 (aheadD l fl n i).b, .int .i64 ((aheadD l fl n i).c + 1)]⟩) := wf_put ww
        generalize hge : hh.put (h.len + 1) ⟨false, [.int .i64 (aheadD l fl n i).a, .int .i64 (aheadD l fl n i).b, .int .i64 ((aheadD l fl n i).c + 1)]⟩ = g3 at g1' g2' kk2 ww2
        simp (maxSteps := 10000000) (maxDischargeDepth := 30) only [e0, e1, e2, e6, e7, e8, c1, List.length_map, c2, c3, ia, ItemR.e, c4, c5, ifl, FloatR.e, h0, g2, l2, lo2, ew2, ew, hge, go_sem, Nat.reduceEqDiff, ↓reduceIte, Nat.reduceAdd, Nat.reduceMul, Nat.reduceLeDiff, Nat.reduceLT, reduceCtorEq, Int.reduceToNat, Int.reduceLE, Int.reduceLT, Int.reduceEq, Int.reduceNeg, Int.reduceNe, Int.reducePow, Nat.reducePow, Nat.reduceSub, IntKind.bits]
        refine ⟨i + 1, by omega, ?_⟩
        unfold IRAhead
        simp (maxSteps := 10000000) (maxDischargeDepth := 30) only [e0, e1, e2, e6, e7, go_sem, Nat.reduceEqDiff, ↓reduceIte, Nat.reduceAdd, Nat.reduceMul, Nat.reduceLeDiff, Nat.reduceLT, reduceCtorEq, Int.reduceToNat, Int.reduceLE, Int.reduceLT, Int.reduceEq, Int.reduceNeg, Int.reduceNe, Int.reducePow, Nat.reducePow, Nat.reduceSub, IntKind.bits]
        exact ⟨by omega, g1', g2', kk2, ww2⟩

def IRDue (o o2 : Option (Nat × Nat)) (l : List ItemR) (fl : List FloatR) (n : Int) (h0 : H) (i : Nat) (s : S) (hh : H) : Prop :=
  s 0 = mkS o 7 (l.map ItemR.e) ∧ s 1 = mkS o2 3 (fl.map FloatR.e) ∧ s 2 = .int .i64 n ∧ s 6 = .ptr h0.len 0 ∧ s 7 = .ptr (h0.len + 1) 0 ∧ s 8 = .int .i64 i ∧ i ≤ l.length ∧
    hh.get h0.len = some ⟨false, [.int .i64 0, .int .i64 0, .int .i64 0]⟩ ∧ hh.get (h0.len + 1) = some ⟨false, [.int .i64 (dueD l fl n i).a, .int .i64 (dueD l fl n i).b, .int .i64 (dueD l fl n i).c]⟩ ∧ Keep h0 hh ∧ WF hh
theorem cRDue21 (o o2 : Option (Nat × Nat)) (l : List ItemR) (fl : List FloatR) (n : Int) (hl : l.length ≤ 1000) (h : H) (w : WF h) :
    runI Try.prog TA 59 [mkS o 7 (l.map ItemR.e), mkS o2 3 (fl.map FloatR.e), .int .i64 n] h = some ((dueD l fl n l.length).e, hp Try.prog TA 59 [mkS o 7 (l.map ItemR.e), mkS o2 3 (fl.map FloatR.e), .int .i64 n] h) := by
  refine pure_of rfl res59 rfl ?_
  have lo := w.1
  simp (maxSteps := 10000000) (maxDischargeDepth := 30) only [q59, r59, go_sem, Nat.reduceEqDiff, ↓reduceIte, Nat.reduceAdd, Nat.reduceMul, Nat.reduceLeDiff, Nat.reduceLT, reduceCtorEq, Int.reduceToNat, Int.reduceLE, Int.reduceLT, Int.reduceEq, Int.reduceNeg, Int.reduceNe, Int.reducePow, Nat.reducePow, Nat.reduceSub, IntKind.bits]
  generalize hgg : H.alloc _ _ = g
  have k0 : Keep h g := by rw [← hgg]; exact ((Keep.refl h).alloc _).alloc _
  have g1 : g.get h.len = some ⟨false, [.int .i64 0, .int .i64 0, .int .i64 0]⟩ := by rw [← hgg]; simp (maxSteps := 10000000) (maxDischargeDepth := 30) only [go_sem, Nat.reduceEqDiff, ↓reduceIte, Nat.reduceAdd, Nat.reduceMul, Nat.reduceLeDiff, Nat.reduceLT, reduceCtorEq, Int.reduceToNat, Int.reduceLE, Int.reduceLT, Int.reduceEq, Int.reduceNeg, Int.reduceNe, Int.reducePow, Nat.reducePow, Nat.reduceSub, IntKind.bits]
  have g2 : g.get (h.len + 1) = some ⟨false, [.int .i64 0, .int .i64 0, .int .i64 0]⟩ := by rw [← hgg]; simp (maxSteps := 10000000) (maxDischargeDepth := 30) only [go_sem, Nat.reduceEqDiff, ↓reduceIte, Nat.reduceAdd, Nat.reduceMul, Nat.reduceLeDiff, Nat.reduceLT, reduceCtorEq, Int.reduceToNat, Int.reduceLE, Int.reduceLT, Int.reduceEq, Int.reduceNeg, Int.reduceNe, Int.reducePow, Nat.reducePow, Nat.reduceSub, IntKind.bits]
  clear hgg
  have w0 := w.keep k0
  refine ru_loop (fun i => l.length - i) (IRDue o o2 l fl n h) 0 ?_ ?_
  · unfold IRDue
    simp (maxSteps := 10000000) (maxDischargeDepth := 30) only [Int.natCast_zero, go_sem, Nat.reduceEqDiff, ↓reduceIte, Nat.reduceAdd, Nat.reduceMul, Nat.reduceLeDiff, Nat.reduceLT, reduceCtorEq, Int.reduceToNat, Int.reduceLE, Int.reduceLT, Int.reduceEq, Int.reduceNeg, Int.reduceNe, Int.reducePow, Nat.reducePow, Nat.reduceSub, IntKind.bits]
    exact ⟨g1, g2, k0, w0⟩
  · rintro i s hh ⟨e0, e1, e2, e6, e7, e8, hi, g1, g2, kk, ww⟩
    have l1 := lt_of_get g1
    have l2 := lt_of_get g2
    have lo1 : hh.lob ≤ h.len := by rw [kk.lob]; exact lo
    have lo2 : hh.lob ≤ h.len + 1 := by omega
    by_cases c1 : (i : Int) < l.length
    rotate_left
    · obtain rfl : i = l.length := by omega
      have kf := kk.put (Nat.le_refl h.len) ⟨false, [.int .i64 (dueD l fl n l.length).a, .int .i64 (dueD l fl n l.length).b, .int .i64 (dueD l fl n l.length).c]⟩
      simp (maxSteps := 10000000) (maxDischargeDepth := 30) only [e0, e1, e2, e6, e7, e8, c1, List.length_map, g2, g1, l1, lo1, kf, go_sem, Nat.reduceEqDiff, ↓reduceIte, Nat.reduceAdd, Nat.reduceMul, Nat.reduceLeDiff, Nat.reduceLT, reduceCtorEq, Int.reduceToNat, Int.reduceLE, Int.reduceLT, Int.reduceEq, Int.reduceNeg, Int.reduceNe, Int.reducePow, Nat.reducePow, Nat.reduceSub, IntKind.bits]
      rfl
    refine ru_step ?_
    obtain ⟨x, hx⟩ := at_lt (l := l) (i := i) (by omega)
    have hs := dueD_s (fl := fl) (n := n) hx
    have ia := item_atA hx
    have ew : IntKind.i64.wrap ((i : Int) + 1) = ((i + 1 : Nat) : Int) := by rw [wrap64 (by omega) (by omega)]; omega
    have fin : ∀ hh : H, dueD l fl n (i + 1) = dueD l fl n i → hh.get (h.len + 1) = some ⟨false, [.int .i64 (dueD l fl n i).a, .int .i64 (dueD l fl n i).b, .int .i64 (dueD l fl n i).c]⟩ → hh.get (h.len + 1) = some ⟨false, [.int .i64 (dueD l fl n (i + 1)).a, .int .i64 (dueD l fl n (i + 1)).b, .int .i64 (dueD l fl n (i + 1)).c]⟩ := fun hh e g => by rw [e]; exact g
    by_cases c2 : (i : Int) < n
    rotate_left
    · rw [if_neg (fun q => c2 q.1)] at hs
      simp (maxSteps := 10000000) (maxDischargeDepth := 30) only [e0, e1, e2, e6, e7, e8, c1, List.length_map, c2, ew, go_sem, Nat.reduceEqDiff, ↓reduceIte, Nat.reduceAdd, Nat.reduceMul, Nat.reduceLeDiff, Nat.reduceLT, reduceCtorEq, Int.reduceToNat, Int.reduceLE, Int.reduceLT, Int.reduceEq, Int.reduceNeg, Int.reduceNe, Int.reducePow, Nat.reducePow, Nat.reduceSub, IntKind.bits]
      refine ⟨i + 1, by omega, ?_⟩
      unfold IRDue
      simp (maxSteps := 10000000) (maxDischargeDepth := 30) only [e0, e1, e2, e6, e7, go_sem, Nat.reduceEqDiff, ↓reduceIte, Nat.reduceAdd, Nat.reduceMul, Nat.reduceLeDiff, Nat.reduceLT, reduceCtorEq, Int.reduceToNat, Int.reduceLE, Int.reduceLT, Int.reduceEq, Int.reduceNeg, Int.reduceNe, Int.reducePow, Nat.reducePow, Nat.reduceSub, IntKind.bits]
      exact ⟨by omega, g1, fin hh hs g2, kk, ww⟩
    by_cases c3 : x.k = 7
    rotate_left
    · rw [if_neg (fun q => c3 q.2)] at hs
      simp (maxSteps := 10000000) (maxDischargeDepth := 30) only [e0, e1, e2, e6, e7, e8, c1, List.length_map, c2, c3, ia, ItemR.e, ew, go_sem, Nat.reduceEqDiff, ↓reduceIte, Nat.reduceAdd, Nat.reduceMul, Nat.reduceLeDiff, Nat.reduceLT, reduceCtorEq, Int.reduceToNat, Int.reduceLE, Int.reduceLT, Int.reduceEq, Int.reduceNeg, Int.reduceNe, Int.reducePow, Nat.reducePow, Nat.reduceSub, IntKind.bits]
      refine ⟨i + 1, by omega, ?_⟩
      unfold IRDue
      simp (maxSteps := 10000000) (maxDischargeDepth := 30) only [e0, e1, e2, e6, e7, go_sem, Nat.reduceEqDiff, ↓reduceIte, Nat.reduceAdd, Nat.reduceMul, Nat.reduceLeDiff, Nat.reduceLT, reduceCtorEq, Int.reduceToNat, Int.reduceLE, Int.reduceLT, Int.reduceEq, Int.reduceNeg, Int.reduceNe, Int.reducePow, Nat.reducePow, Nat.reduceSub, IntKind.bits]
      exact ⟨by omega, g1, fin hh hs g2, kk, ww⟩
    rw [if_pos ⟨c2, c3⟩] at hs
    simp (maxSteps := 10000000) (maxDischargeDepth := 30) only [e0, e1, e2, e6, e7, e8, c1, List.length_map, c2, c3, ia, ItemR.e, go_sem, Nat.reduceEqDiff, ↓reduceIte, Nat.reduceAdd, Nat.reduceMul, Nat.reduceLeDiff, Nat.reduceLT, reduceCtorEq, Int.reduceToNat, Int.reduceLE, Int.reduceLT, Int.reduceEq, Int.reduceNeg, Int.reduceNe, Int.reducePow, Nat.reducePow, Nat.reduceSub, IntKind.bits]
    refine ro_kcall (cRAhead21 o o2 l fl i hl hh ww) ww (fun h3 k3 w3 => ?_)
    have g13 := (k3.get l1).trans g1
    have g23 := (k3.get l2).trans g2
    have l23 := lt_of_get g23
    have lo3 : h3.lob ≤ h.len + 1 := by rw [k3.lob]; exact lo2
    have g2' : (h3.put (h.len + 1) ⟨false, [.int .i64 (aheadD l fl i l.length).a, .int .i64 (aheadD l fl i l.length).b, .int .i64 (aheadD l fl i l.length).c]⟩).get (h.len + 1) = some ⟨false, [.int .i64 (dueD l fl n (i + 1)).a, .int .i64 (dueD l fl n (i + 1)).b, .int .i64 (dueD l fl n (i + 1)).c]⟩ := by rw [hs]; exact get_put_eq l23
    have g1' : (h3.put (h.len + 1) ⟨false, [.int .i64 (aheadD l fl i l.length).a, .int .i64 (aheadD l fl i l.length).b, .int .i64 (aheadD l fl i l.length).c]⟩).get h.len = _ := (get_put_ne (by omega)).trans g13
    have kk2 := (kk.trans k3).put (show h.len ≤ h.len + 1 by omega) ⟨false, [.int .i64 (aheadD l fl i l.length).a, .int .i64 (aheadD l fl i l.length).b, .int .i64 (aheadD l fl i l.length).c]⟩
    have ww2 : WF (h3.put (h.len + 1) ⟨false, [.int .i64 (aheadD l fl i l.length).a, .int .i64 (aheadD l fl i l.length).b, .int .i64 (aheadD l fl i l.length).c]⟩) := wf_put w3
    generalize hge : h3.put (h.len + 1) ⟨false, [.int .i64 (aheadD l fl i l.length).a, .int .i64 (aheadD l fl i l.length).b, .int .i64 (aheadD l fl i l.length).c]⟩ = g3 at g1' g2' kk2 ww2
    simp (maxSteps := 10000000) (maxDischargeDepth := 30) only [e7, e8, g23, l23, lo3, Cnt.e, ew, hge, go_sem, Nat.reduceEqDiff, ↓reduceIte, Nat.reduceAdd, Nat.reduceMul, Nat.reduceLeDiff, Nat.reduceLT, reduceCtorEq, Int.reduceToNat, Int.reduceLE, Int.reduceLT, Int.reduceEq, Int.reduceNeg, Int.reduceNe, Int.reducePow, Nat.reducePow, Nat.reduceSub, IntKind.bits]
    refine ⟨i + 1, by omega, ?_⟩
    unfold IRDue
    simp (maxSteps := 10000000) (maxDischargeDepth := 30) only [e0, e1, e2, e6, e7, go_sem, Nat.reduceEqDiff, ↓reduceIte, Nat.reduceAdd, Nat.reduceMul, Nat.reduceLeDiff, Nat.reduceLT, reduceCtorEq, Int.reduceToNat, Int.reduceLE, Int.reduceLT, Int.reduceEq, Int.reduceNeg, Int.reduceNe, Int.reducePow, Nat.reducePow, Nat.reduceSub, IntKind.bits]
    exact ⟨by omega, g1', g2', kk2, ww2⟩
end Go.LM
