import Derived.Test.YtmanbekgnooocaaLmTraR1
import Derived.Test.YtmanbekgnooocaaLmTraR2
import Derived.Test.YtmanbekgnooocaaLmaAnchor4
namespace Go.LM
open Go.Proofs
set_option maxRecDepth 8000
set_option maxHeartbeats 8000000
set_option linter.unusedSimpArgs false

def floZ : FloatR := ⟨0, 0, 0⟩
theorem cFAt (o : Option (Nat × Nat)) (fl : List FloatR) (n : Int) (h : H) (w : WF h) :
    runI Try.prog TA 20 [mkS o 3 (fl.map FloatR.e), .int .i64 n] h = some (.tup [((flAt fl n).getD floZ).e, .bool (flAt fl n).isSome], hp Try.prog TA 20 [mkS o 3 (fl.map FloatR.e), .int .i64 n] h) := by
  refine pure_of rfl res20 rfl ?_
  have hlo := le_hp0 w
  cases hf : flAt fl n with
  | none =>
    have := flAt_none hf
    by_cases h0 : n < 0
    · simp (maxSteps := 10000000) (maxDischargeDepth := 30) only [q20, r20, h0, hlo, floZ, FloatR.e, Option.getD_none, Option.isSome_none, go_sem, Nat.reduceEqDiff, ↓reduceIte, Nat.reduceAdd, Nat.reduceMul, Nat.reduceLeDiff, Nat.reduceLT, reduceCtorEq, Int.reduceToNat, Int.reduceLE, Int.reduceLT, Int.reduceEq, Int.reduceNeg, Int.reduceNe, Int.reducePow, Nat.reducePow, Nat.reduceSub, IntKind.bits]
    · have h1 : (fl.length : Int) ≤ n := by omega
      simp (maxSteps := 10000000) (maxDischargeDepth := 30) only [q20, r20, h0, h1, hlo, List.length_map, floZ, FloatR.e, Option.getD_none, Option.isSome_none, go_sem, Nat.reduceEqDiff, ↓reduceIte, Nat.reduceAdd, Nat.reduceMul, Nat.reduceLeDiff, Nat.reduceLT, reduceCtorEq, Int.reduceToNat, Int.reduceLE, Int.reduceLT, Int.reduceEq, Int.reduceNeg, Int.reduceNe, Int.reducePow, Nat.reducePow, Nat.reduceSub, IntKind.bits]
  | some f =>
    obtain ⟨h0, h1, h2⟩ := flo_atA hf
    have h0' : ¬ n < 0 := by omega
    have h1' : ¬ (fl.length : Int) ≤ n := by omega
    simp (maxSteps := 10000000) (maxDischargeDepth := 30) only [q20, r20, h0', h1', h2, hlo, List.length_map, FloatR.e, Option.getD_some, Option.isSome_some, go_sem, Nat.reduceEqDiff, ↓reduceIte, Nat.reduceAdd, Nat.reduceMul, Nat.reduceLeDiff, Nat.reduceLT, reduceCtorEq, Int.reduceToNat, Int.reduceLE, Int.reduceLT, Int.reduceEq, Int.reduceNeg, Int.reduceNe, Int.reducePow, Nat.reducePow, Nat.reduceSub, IntKind.bits]
theorem cCloneI (o : Option (Nat × Nat)) (l : List ItemR) (hl : l.length ≤ 1000) (h : H) (w : WF h) :
    ∃ v h', runI Try.prog TA 68 [mkS o 7 (l.map ItemR.e)] h = some (v, h') ∧ (∃ o2, v = mkS o2 7 (l.map ItemR.e)) ∧ Keep h h' := by
  refine calls_of rfl res68 rfl ?_
  by_cases hn : o = none ∧ l.map ItemR.e = []
  · obtain ⟨rfl, he⟩ := hn
    have k0 := Keep.refl h
    simp (maxSteps := 10000000) (maxDischargeDepth := 30) only [q68, r68, he, and_self, k0, go_sem, Nat.reduceEqDiff, ↓reduceIte, Nat.reduceAdd, Nat.reduceMul, Nat.reduceLeDiff, Nat.reduceLT, reduceCtorEq, Int.reduceToNat, Int.reduceLE, Int.reduceLT, Int.reduceEq, Int.reduceNeg, Int.reduceNe, Int.reducePow, Nat.reducePow, Nat.reduceSub, IntKind.bits]
    exact ⟨none, rfl⟩
  · have w1 : WF (h.nrow 0) := wf_nrow w
    have t1 : okTok (some (h.rlen, 0)) 0 (h.nrow 0) := ⟨by have := w.2.2; omega, by simp; exact w.2.1, by simp, by simp⟩
    have ap := append_mk (sz := 7) (by_ := 56) (xs := []) (ys := l.map ItemR.e) t1 (by simp; omega)
    have n1 : newTok (some (h.rlen, 0)) h := Nat.le_refl _
    simp (maxSteps := 10000000) (maxDischargeDepth := 30) only [q68, r68, hn, ap, List.nil_append, go_sem, Nat.reduceEqDiff, ↓reduceIte, Nat.reduceAdd, Nat.reduceMul, Nat.reduceLeDiff, Nat.reduceLT, reduceCtorEq, Int.reduceToNat, Int.reduceLE, Int.reduceLT, Int.reduceEq, Int.reduceNeg, Int.reduceNe, Int.reducePow, Nat.reducePow, Nat.reduceSub, IntKind.bits]
    have k1 : Keep h (h.nrow 0) := (Keep.refl h).nrow 0
    exact ⟨⟨_, rfl⟩, keep_ap k1 n1⟩
def INew (o o2 oc : Option (Nat × Nat)) (l : List ItemR) (fl : List FloatR) (p r1 r2 r3 : Nat) (h0 : H) (i : Nat) (s : S) (hh : H) : Prop :=
  s 0 = mkS o 7 (l.map ItemR.e) ∧ s 1 = mkS o2 3 (fl.map FloatR.e) ∧ s 5 = .ptr p 0 ∧ s 22 = mkS o 7 (l.map ItemR.e) ∧ s 23 = .int .i64 l.length ∧ s 24 = .int .i64 i ∧ i ≤ l.length ∧
    hh.get p = some ⟨false, mapL oc (some (r1, i + 1)) (some (r2, i + 1)) (some (r3, i + 1)) l fl i⟩ ∧ A3 h0 r1 r2 r3 (i + 1) (i + 1) (i + 1) hh ∧ h0.len ≤ p ∧ hh.lob ≤ p
theorem cANew (o o2 : Option (Nat × Nat)) (l : List ItemR) (fl : List FloatR) (hl : l.length ≤ 1000) (h : H) (w : WF h) :
    ∃ v h', runI Try.prog TA 51 [mkS o 7 (l.map ItemR.e), mkS o2 3 (fl.map FloatR.e)] h = some (v, h') ∧ (∃ p, v = .ptr p 0 ∧ IsMap p l fl h') ∧ Keep h h' := by
  refine calls_of rfl res51 rfl ?_
  have lo := w.1
  simp (maxSteps := 10000000) (maxDischargeDepth := 30) only [q51, r51, go_sem, Nat.reduceEqDiff, ↓reduceIte, Nat.reduceAdd, Nat.reduceMul, Nat.reduceLeDiff, Nat.reduceLT, reduceCtorEq, Int.reduceToNat, Int.reduceLE, Int.reduceLT, Int.reduceEq, Int.reduceNeg, Int.reduceNe, Int.reducePow, Nat.reducePow, Nat.reduceSub, IntKind.bits]
  refine ro_vcall (cCloneI o l hl h w) (fun v h1 J => ?_)
  obtain ⟨⟨oc, rfl⟩, k1⟩ := J
  have w1 := w.keep k1
  have lo1 := w1.1
  have a1 := (AccN.fresh k1 w1 1).next (((Keep.refl _).nrow 1).nrow 1)
  have k2 := k1.nrow 1
  have w2 := wf_nrow (n := 1) w1
  have a2 := (AccN.fresh k2 w2 1).next ((Keep.refl _).nrow 1)
  have k3 := k2.nrow 1
  have w3 := wf_nrow (n := 1) w2
  have a3 := AccN.fresh k3 w3 1
  rw [rlen_nrow] at a2 a3
  rw [rlen_nrow] at a3
  have W0 : A3 h h1.rlen (h1.rlen + 1) (h1.rlen + 1 + 1) 1 1 1 (((h1.nrow 1).nrow 1).nrow 1) := ⟨a1, a2, a3, by omega, by omega, by omega⟩
  clear a1 a2 a3
  simp (maxSteps := 10000000) (maxDischargeDepth := 30) only [go_sem, Nat.reduceEqDiff, ↓reduceIte, Nat.reduceAdd, Nat.reduceMul, Nat.reduceLeDiff, Nat.reduceLT, reduceCtorEq, Int.reduceToNat, Int.reduceLE, Int.reduceLT, Int.reduceEq, Int.reduceNeg, Int.reduceNe, Int.reducePow, Nat.reducePow, Nat.reduceSub, IntKind.bits]
  generalize hgg : H.alloc _ _ = g
  have kg : Keep (((h1.nrow 1).nrow 1).nrow 1) g := by rw [← hgg]; exact (Keep.refl _).alloc _
  have gp : g.get h1.len = some ⟨false, mapL oc (some (h1.rlen, 1)) (some (h1.rlen + 1, 1)) (some (h1.rlen + 1 + 1, 1)) l fl 0⟩ := by rw [← hgg]; simp (maxSteps := 10000000) (maxDischargeDepth := 30) only [go_sem, Nat.reduceEqDiff, ↓reduceIte, Nat.reduceAdd, Nat.reduceMul, Nat.reduceLeDiff, Nat.reduceLT, reduceCtorEq, Int.reduceToNat, Int.reduceLE, Int.reduceLT, Int.reduceEq, Int.reduceNeg, Int.reduceNe, Int.reducePow, Nat.reducePow, Nat.reduceSub, IntKind.bits]; rfl
  have glob : g.lob = h1.lob := by rw [← hgg]; simp (maxSteps := 10000000) (maxDischargeDepth := 30) only [go_sem, Nat.reduceEqDiff, ↓reduceIte, Nat.reduceAdd, Nat.reduceMul, Nat.reduceLeDiff, Nat.reduceLT, reduceCtorEq, Int.reduceToNat, Int.reduceLE, Int.reduceLT, Int.reduceEq, Int.reduceNeg, Int.reduceNe, Int.reducePow, Nat.reducePow, Nat.reduceSub, IntKind.bits]
  clear hgg
  have W := W0.next kg
  have hp : h.len ≤ h1.len := k1.len
  have lop : g.lob ≤ h1.len := by omega
  generalize h1.len = p at *
  generalize h1.rlen = r1 at *
  generalize r1 + 1 = r2 at *
  generalize r2 + 1 = r3 at *
  refine ru_loop (fun i => l.length - i) (INew o o2 oc l fl p r1 r2 r3 h) 0 ?_ ?_
  · unfold INew
    simp (maxSteps := 10000000) (maxDischargeDepth := 30) only [Int.natCast_zero, go_sem, Nat.reduceEqDiff, ↓reduceIte, Nat.reduceAdd, Nat.reduceMul, Nat.reduceLeDiff, Nat.reduceLT, reduceCtorEq, Int.reduceToNat, Int.reduceLE, Int.reduceLT, Int.reduceEq, Int.reduceNeg, Int.reduceNe, Int.reducePow, Nat.reducePow, Nat.reduceSub, IntKind.bits]
    exact ⟨gp, W, hp, lop⟩
  · clear W0 W gp kg glob lop
    rintro i s hh ⟨e0, e1, e5, e22, e23, e24, hi, gp, W, hp, lop⟩
    by_cases c1 : (i : Int) < l.length
    rotate_left
    · obtain rfl : i = l.length := by omega
      have kA := W.keep
      simp (maxSteps := 10000000) (maxDischargeDepth := 30) only [e5, e23, e24, c1, kA, go_sem, Nat.reduceEqDiff, ↓reduceIte, Nat.reduceAdd, Nat.reduceMul, Nat.reduceLeDiff, Nat.reduceLT, reduceCtorEq, Int.reduceToNat, Int.reduceLE, Int.reduceLT, Int.reduceEq, Int.reduceNeg, Int.reduceNe, Int.reducePow, Nat.reducePow, Nat.reduceSub, IntKind.bits]
      exact ⟨p, rfl, ⟨_, _, _, _, gp⟩⟩
    refine ru_step ?_
    obtain ⟨x, hx⟩ := at_lt (l := l) (i := i) (by omega)
    have hsb := begunN_s hx
    have hsa := aheadN_s (fl := fl) hx
    have hsd := dueN_s (fl := fl) hx
    have bb := begunN_ok (l := l) i
    obtain ⟨b0, b1, b2, b3⟩ := aheadN_ok (l := l) (fl := fl) i
    have ia := item_atA hx
    have ew : IntKind.i64.wrap ((i : Int) + 1) = ((i + 1 : Nat) : Int) := by rw [wrap64 (by omega) (by omega)]; omega
    have ib := range_at (f := begunN l) (n := i) (k := i) (Nat.le_refl i)
    have iah : iaS (ups (fun k => (aheadN l fl k).e) i) (i : Int) = some (.cptr (.agg [.int .i64 (aheadN l fl i).a, .int .i64 (aheadN l fl i).b, .int .i64 (aheadN l fl i).c])) := range_at' (g := fun k => (aheadN l fl k).e) (Nat.le_refl i)
    have idu : iaS (ups (fun k => (dueN l fl k).e) i) (i : Int) = some (.cptr (.agg [.int .i64 (dueN l fl i).a, .int .i64 (dueN l fl i).b, .int .i64 (dueN l fl i).c])) := range_at' (g := fun k => (dueN l fl k).e) (Nat.le_refl i)
    have lp := lt_of_get gp
    have lohh := W.wf.1
    simp (maxSteps := 10000000) (maxDischargeDepth := 30) only [e0, e5, e22, e23, e24, c1, ia, ItemR.e, lohh, go_sem, Nat.reduceEqDiff, ↓reduceIte, Nat.reduceAdd, Nat.reduceMul, Nat.reduceLeDiff, Nat.reduceLT, reduceCtorEq, Int.reduceToNat, Int.reduceLE, Int.reduceLT, Int.reduceEq, Int.reduceNeg, Int.reduceNe, Int.reducePow, Nat.reducePow, Nat.reduceSub, IntKind.bits]
    generalize hgg : H.put _ _ _ = g
    have kg : Keep hh g := by rw [← hgg]; exact ((Keep.refl hh).alloc _).put (Nat.le_refl _) _
    have gi : g.get hh.len = some ⟨false, [.int .i64 x.k, .int .i64 x.h, .int .i64 x.f, .int .i64 x.str, .int .i64 x.ord, .int .i64 x.shr, .int .i64 x.n]⟩ := by rw [← hgg]; exact get_put_eq (by rw [len_alloc]; omega)
    have lg : g.len = hh.len + 1 := by rw [← hgg, len_put, len_alloc]
    clear hgg
    have gpg := (kg.get lp).trans gp
    have log : g.lob ≤ g.len := (W.wf.keep kg).1
    try (simp (maxSteps := 10000000) (maxDischargeDepth := 30) only [e0, e5, e24, go_sem, Nat.reduceEqDiff, ↓reduceIte, Nat.reduceAdd, Nat.reduceMul, Nat.reduceLeDiff, Nat.reduceLT, reduceCtorEq, Int.reduceToNat, Int.reduceLE, Int.reduceLT, Int.reduceEq, Int.reduceNeg, Int.reduceNe, Int.reducePow, Nat.reducePow, Nat.reduceSub, IntKind.bits])
    have hpg : p ≠ g.len := by omega
    have hpg1 : p ≠ g.len + 1 := by omega
    simp (maxSteps := 10000000) (maxDischargeDepth := 30) only [e5, gpg, mapL, ib, iah, idu, log, hpg, hpg1, go_sem, Nat.reduceEqDiff, ↓reduceIte, Nat.reduceAdd, Nat.reduceMul, Nat.reduceLeDiff, Nat.reduceLT, reduceCtorEq, Int.reduceToNat, Int.reduceLE, Int.reduceLT, Int.reduceEq, Int.reduceNeg, Int.reduceNe, Int.reducePow, Nat.reducePow, Nat.reduceSub, IntKind.bits]
    generalize hgg : H.put _ _ _ = m
    have km : Keep g m := by rw [← hgg]; exact ((((Keep.refl g).alloc _).alloc _).put (Nat.le_refl _) _).put (Nat.le_succ _) _
    have lm : m.len = g.len + 1 + 1 := by rw [← hgg]; simp only [len_put, len_alloc]
    have g9 : m.get g.len = some ⟨false, [.int .i64 (aheadN l fl i).a, .int .i64 (aheadN l fl i).b, .int .i64 (aheadN l fl i).c]⟩ := by rw [← hgg]; simp (maxSteps := 10000000) (maxDischargeDepth := 30) only [go_sem, Nat.reduceEqDiff, ↓reduceIte, Nat.reduceAdd, Nat.reduceMul, Nat.reduceLeDiff, Nat.reduceLT, reduceCtorEq, Int.reduceToNat, Int.reduceLE, Int.reduceLT, Int.reduceEq, Int.reduceNeg, Int.reduceNe, Int.reducePow, Nat.reducePow, Nat.reduceSub, IntKind.bits]
    have g10 : m.get (g.len + 1) = some ⟨false, [.int .i64 (dueN l fl i).a, .int .i64 (dueN l fl i).b, .int .i64 (dueN l fl i).c]⟩ := by rw [← hgg]; simp (maxSteps := 10000000) (maxDischargeDepth := 30) only [go_sem, Nat.reduceEqDiff, ↓reduceIte, Nat.reduceAdd, Nat.reduceMul, Nat.reduceLeDiff, Nat.reduceLT, reduceCtorEq, Int.reduceToNat, Int.reduceLE, Int.reduceLT, Int.reduceEq, Int.reduceNeg, Int.reduceNe, Int.reducePow, Nat.reducePow, Nat.reduceSub, IntKind.bits]
    clear hgg
    have gim := (km.get (lt_of_get gi)).trans gi
    have gpm0 := (km.get (lt_of_get gpg)).trans gpg
    have K0 := kg.trans km
    have lom : m.lob ≤ m.len := (W.wf.keep K0).1
    try (simp (maxSteps := 10000000) (maxDischargeDepth := 30) only [gim, go_sem, Nat.reduceEqDiff, ↓reduceIte, Nat.reduceAdd, Nat.reduceMul, Nat.reduceLeDiff, Nat.reduceLT, reduceCtorEq, Int.reduceToNat, Int.reduceLE, Int.reduceLT, Int.reduceEq, Int.reduceNeg, Int.reduceNe, Int.reducePow, Nat.reducePow, Nat.reduceSub, IntKind.bits])
    by_cases k5 : x.k = 5
    · have k6 : ¬ x.k = 6 := by omega
      have k7 : ¬ x.k = 7 := by omega
      rw [if_pos k5] at hsb
      rw [aStep_k k6] at hsa
      rw [if_neg k7] at hsd
      have ewb : IntKind.i64.wrap (begunN l i + 1) = begunN l i + 1 := wrap64 (by omega) (by omega)
      simp (maxSteps := 10000000) (maxDischargeDepth := 30) only [gim, k5, ewb, go_sem, Nat.reduceEqDiff, ↓reduceIte, Nat.reduceAdd, Nat.reduceMul, Nat.reduceLeDiff, Nat.reduceLT, reduceCtorEq, Int.reduceToNat, Int.reduceLE, Int.reduceLT, Int.reduceEq, Int.reduceNeg, Int.reduceNe, Int.reducePow, Nat.reducePow, Nat.reduceSub, IntKind.bits]
      have W9 := W.next K0
      have X1 := W9.next ((Keep.refl _).nrow 1)
      have ap1 := X1.a1.ap1 (sz := 1) (by_ := 8) (xs := (ups (begunN l) i).map (LV.int .i64)) (.int .i64 (begunN l i + 1)) (by rw [List.length_map, ups_len]) (by rw [List.length_map, ups_len]; omega)
      have Y1 := X1.g1
      have q1 : (m.nrow 1).srow r1 (i + 1 + 1) = (m.nrow 1).srow r1 (i + 1 + 1) := rfl
      generalize hs1 : (m.nrow 1).srow r1 (i + 1 + 1) = m1 at ap1 Y1 q1
      have X2 := Y1.next ((Keep.refl _).nrow 1)
      have ap2 := X2.a2.ap1 (sz := 3) (by_ := 24) (xs := ups (fun k => (aheadN l fl k).e) i) (.agg [.int .i64 (aheadN l fl i).a, .int .i64 (aheadN l fl i).b, .int .i64 (aheadN l fl i).c]) (by rw [ups_len]) (by rw [ups_len]; omega)
      have Y2 := X2.g2
      generalize hs2 : (m1.nrow 1).srow r2 (i + 1 + 1) = m2 at ap2 Y2
      have X3 := Y2.next ((Keep.refl _).nrow 1)
      have ap3 := X3.a3.ap1 (sz := 3) (by_ := 24) (xs := ups (fun k => (dueN l fl k).e) i) (.agg [.int .i64 (dueN l fl i).a, .int .i64 (dueN l fl i).b, .int .i64 (dueN l fl i).c]) (by rw [ups_len]) (by rw [ups_len]; omega)
      have Y3 := X3.g3
      generalize hs3 : (m2.nrow 1).srow r3 (i + 1 + 1) = m3 at ap3 Y3
      have eg : ∀ c, m3.get c = m.get c := fun c => by rw [← hs3, ← hs2, ← hs1]; simp only [get_srow, get_nrow]
      have eg1 : ∀ c, m1.get c = m.get c := fun c => by rw [← hs1]; simp only [get_srow, get_nrow]
      have eg2 : ∀ c, m2.get c = m.get c := fun c => by rw [← hs2, ← hs1]; simp only [get_srow, get_nrow]
      have gq9 := (eg1 _).trans g9
      have gq10 := (eg2 _).trans g10
      have gpm := (eg p).trans gpm0
      have gpm1 := (eg1 p).trans gpm0
      have gpm2 := (eg2 p).trans gpm0
      have lob3 : m3.lob ≤ p := by rw [← hs3, ← hs2, ← hs1]; simp only [lob_srow, lob_nrow]; rw [K0.lob]; exact lop
      have lpm := lt_of_get gpm
      have ub : (ups (begunN l) i).map (LV.int .i64) ++ [.int .i64 (begunN l i + 1)] = (ups (begunN l) (i + 1)).map (LV.int .i64) := by rw [ups_s, hsb, List.map_append]; rfl
      have ua : ups (fun k => (aheadN l fl k).e) i ++ [.agg [.int .i64 (aheadN l fl i).a, .int .i64 (aheadN l fl i).b, .int .i64 (aheadN l fl i).c]] = ups (fun k => (aheadN l fl k).e) (i + 1) := by rw [ups_s, hsa]; rfl
      have ud : ups (fun k => (dueN l fl k).e) i ++ [.agg [.int .i64 (dueN l fl i).a, .int .i64 (dueN l fl i).b, .int .i64 (dueN l fl i).c]] = ups (fun k => (dueN l fl k).e) (i + 1) := by rw [ups_s, hsd]; rfl
      rw [ub] at ap1
      rw [ua] at ap2
      rw [ud] at ap3
      simp (maxSteps := 10000000) (maxDischargeDepth := 30) only [e5, gpm0, mapL, ap1, gpm1, gq9, ap2, gpm2, gq10, ap3, gpm, lob3, lpm, e24, ew, go_sem, Nat.reduceEqDiff, ↓reduceIte, Nat.reduceAdd, Nat.reduceMul, Nat.reduceLeDiff, Nat.reduceLT, reduceCtorEq, Int.reduceToNat, Int.reduceLE, Int.reduceLT, Int.reduceEq, Int.reduceNeg, Int.reduceNe, Int.reducePow, Nat.reducePow, Nat.reduceSub, IntKind.bits]
      generalize hgg : H.put _ _ _ = f
      have gpf : f.get p = some ⟨false, mapL oc (some (r1, i + 1 + 1)) (some (r2, i + 1 + 1)) (some (r3, i + 1 + 1)) l fl (i + 1)⟩ := by rw [← hgg]; exact get_put_eq (by simp only [len_put]; exact lpm)
      have Wf : A3 h r1 r2 r3 (i + 1 + 1) (i + 1 + 1) (i + 1 + 1) f := by rw [← hgg]; exact ((Y3.put hp _).put hp _).put hp _
      have lof : f.lob ≤ p := by rw [← hgg]; simp only [lob_put]; exact lob3
      clear hgg
      refine ⟨i + 1, by omega, ?_⟩
      unfold INew
      simp (maxSteps := 10000000) (maxDischargeDepth := 30) only [e0, e1, e5, e22, e23, go_sem, Nat.reduceEqDiff, ↓reduceIte, Nat.reduceAdd, Nat.reduceMul, Nat.reduceLeDiff, Nat.reduceLT, reduceCtorEq, Int.reduceToNat, Int.reduceLE, Int.reduceLT, Int.reduceEq, Int.reduceNeg, Int.reduceNe, Int.reducePow, Nat.reducePow, Nat.reduceSub, IntKind.bits]
      exact ⟨by omega, gpf, Wf, hp, lof⟩
    rw [if_neg k5] at hsb
    by_cases k6 : x.k = 6
    · have k7 : ¬ x.k = 7 := by omega
      rw [if_neg k7] at hsd
      simp (maxSteps := 10000000) (maxDischargeDepth := 30) only [gim, k5, k6, e1, go_sem, Nat.reduceEqDiff, ↓reduceIte, Nat.reduceAdd, Nat.reduceMul, Nat.reduceLeDiff, Nat.reduceLT, reduceCtorEq, Int.reduceToNat, Int.reduceLE, Int.reduceLT, Int.reduceEq, Int.reduceNeg, Int.reduceNe, Int.reducePow, Nat.reducePow, Nat.reduceSub, IntKind.bits]
      refine ro_kcall (cFAt o2 fl x.n m (W.wf.keep K0)) (W.wf.keep K0) (fun n kn wn => ?_)
      have gin := (kn.get (lt_of_get gim)).trans gim
      have gpn := (kn.get (lt_of_get gpm0)).trans gpm0
      have g9n := (kn.get (lt_of_get g9)).trans g9
      have g10n := (kn.get (lt_of_get g10)).trans g10
      have Kn := K0.trans kn
      have lon := wn.1
      cases hf : flAt fl x.n with
      | none =>
        rw [aStep_n hf] at hsa
        simp (maxSteps := 10000000) (maxDischargeDepth := 30) only [lon, Option.getD_none, Option.isSome_none, floZ, FloatR.e, go_sem, Nat.reduceEqDiff, ↓reduceIte, Nat.reduceAdd, Nat.reduceMul, Nat.reduceLeDiff, Nat.reduceLT, reduceCtorEq, Int.reduceToNat, Int.reduceLE, Int.reduceLT, Int.reduceEq, Int.reduceNeg, Int.reduceNe, Int.reducePow, Nat.reducePow, Nat.reduceSub, IntKind.bits]
        generalize hgg : H.put _ _ _ = q
        have kq : Keep n q := by rw [← hgg]; exact ((Keep.refl n).alloc _).put (Nat.le_refl _) _
        clear hgg
        have gpq := (kq.get (lt_of_get gpn)).trans gpn
        have g9q := (kq.get (lt_of_get g9n)).trans g9n
        have g10q := (kq.get (lt_of_get g10n)).trans g10n
        have Kq := Kn.trans kq
        try (simp (maxSteps := 10000000) (maxDischargeDepth := 30) only [go_sem, Nat.reduceEqDiff, ↓reduceIte, Nat.reduceAdd, Nat.reduceMul, Nat.reduceLeDiff, Nat.reduceLT, reduceCtorEq, Int.reduceToNat, Int.reduceLE, Int.reduceLT, Int.reduceEq, Int.reduceNeg, Int.reduceNe, Int.reducePow, Nat.reducePow, Nat.reduceSub, IntKind.bits])
        have W9 := W.next Kq
        have X1 := W9.next ((Keep.refl _).nrow 1)
        have ap1 := X1.a1.ap1 (sz := 1) (by_ := 8) (xs := (ups (begunN l) i).map (LV.int .i64)) (.int .i64 (begunN l i)) (by rw [List.length_map, ups_len]) (by rw [List.length_map, ups_len]; omega)
        have Y1 := X1.g1
        have q1 : (q.nrow 1).srow r1 (i + 1 + 1) = (q.nrow 1).srow r1 (i + 1 + 1) := rfl
        generalize hs1 : (q.nrow 1).srow r1 (i + 1 + 1) = m1 at ap1 Y1 q1
        have X2 := Y1.next ((Keep.refl _).nrow 1)
        have ap2 := X2.a2.ap1 (sz := 3) (by_ := 24) (xs := ups (fun k => (aheadN l fl k).e) i) (.agg [.int .i64 (aheadN l fl i).a, .int .i64 (aheadN l fl i).b, .int .i64 (aheadN l fl i).c]) (by rw [ups_len]) (by rw [ups_len]; omega)
        have Y2 := X2.g2
        generalize hs2 : (m1.nrow 1).srow r2 (i + 1 + 1) = m2 at ap2 Y2
        have X3 := Y2.next ((Keep.refl _).nrow 1)
        have ap3 := X3.a3.ap1 (sz := 3) (by_ := 24) (xs := ups (fun k => (dueN l fl k).e) i) (.agg [.int .i64 (dueN l fl i).a, .int .i64 (dueN l fl i).b, .int .i64 (dueN l fl i).c]) (by rw [ups_len]) (by rw [ups_len]; omega)
        have Y3 := X3.g3
        generalize hs3 : (m2.nrow 1).srow r3 (i + 1 + 1) = m3 at ap3 Y3
        have eg : ∀ c, m3.get c = q.get c := fun c => by rw [← hs3, ← hs2, ← hs1]; simp only [get_srow, get_nrow]
        have eg1 : ∀ c, m1.get c = q.get c := fun c => by rw [← hs1]; simp only [get_srow, get_nrow]
        have eg2 : ∀ c, m2.get c = q.get c := fun c => by rw [← hs2, ← hs1]; simp only [get_srow, get_nrow]
        have gq9 := (eg1 _).trans g9q
        have gq10 := (eg2 _).trans g10q
        have gpm := (eg p).trans gpq
        have gpm1 := (eg1 p).trans gpq
        have gpm2 := (eg2 p).trans gpq
        have lob3 : m3.lob ≤ p := by rw [← hs3, ← hs2, ← hs1]; simp only [lob_srow, lob_nrow]; rw [Kq.lob]; exact lop
        have lpm := lt_of_get gpm
        have ub : (ups (begunN l) i).map (LV.int .i64) ++ [.int .i64 (begunN l i)] = (ups (begunN l) (i + 1)).map (LV.int .i64) := by rw [ups_s, hsb, List.map_append]; rfl
        have ua : ups (fun k => (aheadN l fl k).e) i ++ [.agg [.int .i64 (aheadN l fl i).a, .int .i64 (aheadN l fl i).b, .int .i64 (aheadN l fl i).c]] = ups (fun k => (aheadN l fl k).e) (i + 1) := by rw [ups_s, hsa]; rfl
        have ud : ups (fun k => (dueN l fl k).e) i ++ [.agg [.int .i64 (dueN l fl i).a, .int .i64 (dueN l fl i).b, .int .i64 (dueN l fl i).c]] = ups (fun k => (dueN l fl k).e) (i + 1) := by rw [ups_s, hsd]; rfl
        rw [ub] at ap1
        rw [ua] at ap2
        rw [ud] at ap3
        simp (maxSteps := 10000000) (maxDischargeDepth := 30) only [e5, gpq, mapL, ap1, gpm1, gq9, ap2, gpm2, gq10, ap3, gpm, lob3, lpm, e24, ew, go_sem, Nat.reduceEqDiff, ↓reduceIte, Nat.reduceAdd, Nat.reduceMul, Nat.reduceLeDiff, Nat.reduceLT, reduceCtorEq, Int.reduceToNat, Int.reduceLE, Int.reduceLT, Int.reduceEq, Int.reduceNeg, Int.reduceNe, Int.reducePow, Nat.reducePow, Nat.reduceSub, IntKind.bits]
        generalize hgg : H.put _ _ _ = f
        have gpf : f.get p = some ⟨false, mapL oc (some (r1, i + 1 + 1)) (some (r2, i + 1 + 1)) (some (r3, i + 1 + 1)) l fl (i + 1)⟩ := by rw [← hgg]; exact get_put_eq (by simp only [len_put]; exact lpm)
        have Wf : A3 h r1 r2 r3 (i + 1 + 1) (i + 1 + 1) (i + 1 + 1) f := by rw [← hgg]; exact ((Y3.put hp _).put hp _).put hp _
        have lof : f.lob ≤ p := by rw [← hgg]; simp only [lob_put]; exact lob3
        clear hgg
        refine ⟨i + 1, by omega, ?_⟩
        unfold INew
        simp (maxSteps := 10000000) (maxDischargeDepth := 30) only [e0, e1, e5, e22, e23, go_sem, Nat.reduceEqDiff, ↓reduceIte, Nat.reduceAdd, Nat.reduceMul, Nat.reduceLeDiff, Nat.reduceLT, reduceCtorEq, Int.reduceToNat, Int.reduceLE, Int.reduceLT, Int.reduceEq, Int.reduceNeg, Int.reduceNe, Int.reducePow, Nat.reducePow, Nat.reduceSub, IntKind.bits]
        exact ⟨by omega, gpf, Wf, hp, lof⟩
      | some f =>
        simp (maxSteps := 10000000) (maxDischargeDepth := 30) only [lon, Option.getD_some, Option.isSome_some, FloatR.e, go_sem, Nat.reduceEqDiff, ↓reduceIte, Nat.reduceAdd, Nat.reduceMul, Nat.reduceLeDiff, Nat.reduceLT, reduceCtorEq, Int.reduceToNat, Int.reduceLE, Int.reduceLT, Int.reduceEq, Int.reduceNeg, Int.reduceNe, Int.reducePow, Nat.reducePow, Nat.reduceSub, IntKind.bits]
        generalize hgg : H.put _ _ _ = q
        have kq : Keep n q := by rw [← hgg]; exact ((Keep.refl n).alloc _).put (Nat.le_refl _) _
        have gfq : q.get n.len = some ⟨false, [.int .i64 f.c, .int .i64 f.h, .int .i64 f.w]⟩ := by rw [← hgg]; exact get_put_eq (by rw [len_alloc]; omega)
        clear hgg
        have gpq := (kq.get (lt_of_get gpn)).trans gpn
        have g9q := (kq.get (lt_of_get g9n)).trans g9n
        have g10q := (kq.get (lt_of_get g10n)).trans g10n
        have Kq := Kn.trans kq
        try (simp (maxSteps := 10000000) (maxDischargeDepth := 30) only [go_sem, Nat.reduceEqDiff, ↓reduceIte, Nat.reduceAdd, Nat.reduceMul, Nat.reduceLeDiff, Nat.reduceLT, reduceCtorEq, Int.reduceToNat, Int.reduceLE, Int.reduceLT, Int.reduceEq, Int.reduceNeg, Int.reduceNe, Int.reducePow, Nat.reducePow, Nat.reduceSub, IntKind.bits])
        by_cases c6 : 0 ≤ f.c
        rotate_left
        · rw [aStep_c hf (fun q => c6 q.1)] at hsa
          simp (maxSteps := 10000000) (maxDischargeDepth := 30) only [gfq, c6, go_sem, Nat.reduceEqDiff, ↓reduceIte, Nat.reduceAdd, Nat.reduceMul, Nat.reduceLeDiff, Nat.reduceLT, reduceCtorEq, Int.reduceToNat, Int.reduceLE, Int.reduceLT, Int.reduceEq, Int.reduceNeg, Int.reduceNe, Int.reducePow, Nat.reducePow, Nat.reduceSub, IntKind.bits]
          have W9 := W.next Kq
          have X1 := W9.next ((Keep.refl _).nrow 1)
          have ap1 := X1.a1.ap1 (sz := 1) (by_ := 8) (xs := (ups (begunN l) i).map (LV.int .i64)) (.int .i64 (begunN l i)) (by rw [List.length_map, ups_len]) (by rw [List.length_map, ups_len]; omega)
          have Y1 := X1.g1
          have q1 : (q.nrow 1).srow r1 (i + 1 + 1) = (q.nrow 1).srow r1 (i + 1 + 1) := rfl
          generalize hs1 : (q.nrow 1).srow r1 (i + 1 + 1) = m1 at ap1 Y1 q1
          have X2 := Y1.next ((Keep.refl _).nrow 1)
          have ap2 := X2.a2.ap1 (sz := 3) (by_ := 24) (xs := ups (fun k => (aheadN l fl k).e) i) (.agg [.int .i64 (aheadN l fl i).a, .int .i64 (aheadN l fl i).b, .int .i64 (aheadN l fl i).c]) (by rw [ups_len]) (by rw [ups_len]; omega)
          have Y2 := X2.g2
          generalize hs2 : (m1.nrow 1).srow r2 (i + 1 + 1) = m2 at ap2 Y2
          have X3 := Y2.next ((Keep.refl _).nrow 1)
          have ap3 := X3.a3.ap1 (sz := 3) (by_ := 24) (xs := ups (fun k => (dueN l fl k).e) i) (.agg [.int .i64 (dueN l fl i).a, .int .i64 (dueN l fl i).b, .int .i64 (dueN l fl i).c]) (by rw [ups_len]) (by rw [ups_len]; omega)
          have Y3 := X3.g3
          generalize hs3 : (m2.nrow 1).srow r3 (i + 1 + 1) = m3 at ap3 Y3
          have eg : ∀ c, m3.get c = q.get c := fun c => by rw [← hs3, ← hs2, ← hs1]; simp only [get_srow, get_nrow]
          have eg1 : ∀ c, m1.get c = q.get c := fun c => by rw [← hs1]; simp only [get_srow, get_nrow]
          have eg2 : ∀ c, m2.get c = q.get c := fun c => by rw [← hs2, ← hs1]; simp only [get_srow, get_nrow]
          have gq9 := (eg1 _).trans g9q
          have gq10 := (eg2 _).trans g10q
          have gpm := (eg p).trans gpq
          have gpm1 := (eg1 p).trans gpq
          have gpm2 := (eg2 p).trans gpq
          have lob3 : m3.lob ≤ p := by rw [← hs3, ← hs2, ← hs1]; simp only [lob_srow, lob_nrow]; rw [Kq.lob]; exact lop
          have lpm := lt_of_get gpm
          have ub : (ups (begunN l) i).map (LV.int .i64) ++ [.int .i64 (begunN l i)] = (ups (begunN l) (i + 1)).map (LV.int .i64) := by rw [ups_s, hsb, List.map_append]; rfl
          have ua : ups (fun k => (aheadN l fl k).e) i ++ [.agg [.int .i64 (aheadN l fl i).a, .int .i64 (aheadN l fl i).b, .int .i64 (aheadN l fl i).c]] = ups (fun k => (aheadN l fl k).e) (i + 1) := by rw [ups_s, hsa]; rfl
          have ud : ups (fun k => (dueN l fl k).e) i ++ [.agg [.int .i64 (dueN l fl i).a, .int .i64 (dueN l fl i).b, .int .i64 (dueN l fl i).c]] = ups (fun k => (dueN l fl k).e) (i + 1) := by rw [ups_s, hsd]; rfl
          rw [ub] at ap1
          rw [ua] at ap2
          rw [ud] at ap3
          simp (maxSteps := 10000000) (maxDischargeDepth := 30) only [e5, gpq, mapL, ap1, gpm1, gq9, ap2, gpm2, gq10, ap3, gpm, lob3, lpm, e24, ew, go_sem, Nat.reduceEqDiff, ↓reduceIte, Nat.reduceAdd, Nat.reduceMul, Nat.reduceLeDiff, Nat.reduceLT, reduceCtorEq, Int.reduceToNat, Int.reduceLE, Int.reduceLT, Int.reduceEq, Int.reduceNeg, Int.reduceNe, Int.reducePow, Nat.reducePow, Nat.reduceSub, IntKind.bits]
          generalize hgg : H.put _ _ _ = f
          have gpf : f.get p = some ⟨false, mapL oc (some (r1, i + 1 + 1)) (some (r2, i + 1 + 1)) (some (r3, i + 1 + 1)) l fl (i + 1)⟩ := by rw [← hgg]; exact get_put_eq (by simp only [len_put]; exact lpm)
          have Wf : A3 h r1 r2 r3 (i + 1 + 1) (i + 1 + 1) (i + 1 + 1) f := by rw [← hgg]; exact ((Y3.put hp _).put hp _).put hp _
          have lof : f.lob ≤ p := by rw [← hgg]; simp only [lob_put]; exact lob3
          clear hgg
          refine ⟨i + 1, by omega, ?_⟩
          unfold INew
          simp (maxSteps := 10000000) (maxDischargeDepth := 30) only [e0, e1, e5, e22, e23, go_sem, Nat.reduceEqDiff, ↓reduceIte, Nat.reduceAdd, Nat.reduceMul, Nat.reduceLeDiff, Nat.reduceLT, reduceCtorEq, Int.reduceToNat, Int.reduceLE, Int.reduceLT, Int.reduceEq, Int.reduceNeg, Int.reduceNe, Int.reducePow, Nat.reducePow, Nat.reduceSub, IntKind.bits]
          exact ⟨by omega, gpf, Wf, hp, lof⟩
        by_cases c7 : f.c < 3
        rotate_left
        · rw [aStep_c hf (fun q => c7 q.2)] at hsa
          simp (maxSteps := 10000000) (maxDischargeDepth := 30) only [gfq, c6, c7, go_sem, Nat.reduceEqDiff, ↓reduceIte, Nat.reduceAdd, Nat.reduceMul, Nat.reduceLeDiff, Nat.reduceLT, reduceCtorEq, Int.reduceToNat, Int.reduceLE, Int.reduceLT, Int.reduceEq, Int.reduceNeg, Int.reduceNe, Int.reducePow, Nat.reducePow, Nat.reduceSub, IntKind.bits]
          have W9 := W.next Kq
          have X1 := W9.next ((Keep.refl _).nrow 1)
          have ap1 := X1.a1.ap1 (sz := 1) (by_ := 8) (xs := (ups (begunN l) i).map (LV.int .i64)) (.int .i64 (begunN l i)) (by rw [List.length_map, ups_len]) (by rw [List.length_map, ups_len]; omega)
          have Y1 := X1.g1
          have q1 : (q.nrow 1).srow r1 (i + 1 + 1) = (q.nrow 1).srow r1 (i + 1 + 1) := rfl
          generalize hs1 : (q.nrow 1).srow r1 (i + 1 + 1) = m1 at ap1 Y1 q1
          have X2 := Y1.next ((Keep.refl _).nrow 1)
          have ap2 := X2.a2.ap1 (sz := 3) (by_ := 24) (xs := ups (fun k => (aheadN l fl k).e) i) (.agg [.int .i64 (aheadN l fl i).a, .int .i64 (aheadN l fl i).b, .int .i64 (aheadN l fl i).c]) (by rw [ups_len]) (by rw [ups_len]; omega)
          have Y2 := X2.g2
          generalize hs2 : (m1.nrow 1).srow r2 (i + 1 + 1) = m2 at ap2 Y2
          have X3 := Y2.next ((Keep.refl _).nrow 1)
          have ap3 := X3.a3.ap1 (sz := 3) (by_ := 24) (xs := ups (fun k => (dueN l fl k).e) i) (.agg [.int .i64 (dueN l fl i).a, .int .i64 (dueN l fl i).b, .int .i64 (dueN l fl i).c]) (by rw [ups_len]) (by rw [ups_len]; omega)
          have Y3 := X3.g3
          generalize hs3 : (m2.nrow 1).srow r3 (i + 1 + 1) = m3 at ap3 Y3
          have eg : ∀ c, m3.get c = q.get c := fun c => by rw [← hs3, ← hs2, ← hs1]; simp only [get_srow, get_nrow]
          have eg1 : ∀ c, m1.get c = q.get c := fun c => by rw [← hs1]; simp only [get_srow, get_nrow]
          have eg2 : ∀ c, m2.get c = q.get c := fun c => by rw [← hs2, ← hs1]; simp only [get_srow, get_nrow]
          have gq9 := (eg1 _).trans g9q
          have gq10 := (eg2 _).trans g10q
          have gpm := (eg p).trans gpq
          have gpm1 := (eg1 p).trans gpq
          have gpm2 := (eg2 p).trans gpq
          have lob3 : m3.lob ≤ p := by rw [← hs3, ← hs2, ← hs1]; simp only [lob_srow, lob_nrow]; rw [Kq.lob]; exact lop
          have lpm := lt_of_get gpm
          have ub : (ups (begunN l) i).map (LV.int .i64) ++ [.int .i64 (begunN l i)] = (ups (begunN l) (i + 1)).map (LV.int .i64) := by rw [ups_s, hsb, List.map_append]; rfl
          have ua : ups (fun k => (aheadN l fl k).e) i ++ [.agg [.int .i64 (aheadN l fl i).a, .int .i64 (aheadN l fl i).b, .int .i64 (aheadN l fl i).c]] = ups (fun k => (aheadN l fl k).e) (i + 1) := by rw [ups_s, hsa]; rfl
          have ud : ups (fun k => (dueN l fl k).e) i ++ [.agg [.int .i64 (dueN l fl i).a, .int .i64 (dueN l fl i).b, .int .i64 (dueN l fl i).c]] = ups (fun k => (dueN l fl k).e) (i + 1) := by rw [ups_s, hsd]; rfl
          rw [ub] at ap1
          rw [ua] at ap2
          rw [ud] at ap3
          simp (maxSteps := 10000000) (maxDischargeDepth := 30) only [e5, gpq, mapL, ap1, gpm1, gq9, ap2, gpm2, gq10, ap3, gpm, lob3, lpm, e24, ew, go_sem, Nat.reduceEqDiff, ↓reduceIte, Nat.reduceAdd, Nat.reduceMul, Nat.reduceLeDiff, Nat.reduceLT, reduceCtorEq, Int.reduceToNat, Int.reduceLE, Int.reduceLT, Int.reduceEq, Int.reduceNeg, Int.reduceNe, Int.reducePow, Nat.reducePow, Nat.reduceSub, IntKind.bits]
          generalize hgg : H.put _ _ _ = f
          have gpf : f.get p = some ⟨false, mapL oc (some (r1, i + 1 + 1)) (some (r2, i + 1 + 1)) (some (r3, i + 1 + 1)) l fl (i + 1)⟩ := by rw [← hgg]; exact get_put_eq (by simp only [len_put]; exact lpm)
          have Wf : A3 h r1 r2 r3 (i + 1 + 1) (i + 1 + 1) (i + 1 + 1) f := by rw [← hgg]; exact ((Y3.put hp _).put hp _).put hp _
          have lof : f.lob ≤ p := by rw [← hgg]; simp only [lob_put]; exact lob3
          clear hgg
          refine ⟨i + 1, by omega, ?_⟩
          unfold INew
          simp (maxSteps := 10000000) (maxDischargeDepth := 30) only [e0, e1, e5, e22, e23, go_sem, Nat.reduceEqDiff, ↓reduceIte, Nat.reduceAdd, Nat.reduceMul, Nat.reduceLeDiff, Nat.reduceLT, reduceCtorEq, Int.reduceToNat, Int.reduceLE, Int.reduceLT, Int.reduceEq, Int.reduceNeg, Int.reduceNe, Int.reducePow, Nat.reducePow, Nat.reduceSub, IntKind.bits]
          exact ⟨by omega, gpf, Wf, hp, lof⟩
        rw [aStep_i k6 hf ⟨c6, c7⟩] at hsa
        have l9q := lt_of_get g9q
        have lo9q : q.lob ≤ g.len := by rw [Kq.lob]; have := W.wf.1; omega
        obtain c0 | c0 | c0 : f.c = 0 ∨ f.c = 1 ∨ f.c = 2 := by omega
        · rw [c0] at hsa
          have ewc : IntKind.i64.wrap ((aheadN l fl i).a + 1) = (aheadN l fl i).a + 1 := wrap64 (by have := b0.1; have := b0.2.1; have := b0.2.2; simp only [cnt0] at *; omega) (by omega)
          simp (maxSteps := 10000000) (maxDischargeDepth := 30) only [gfq, c0, g9q, l9q, lo9q, ewc, go_sem, Nat.reduceEqDiff, ↓reduceIte, Nat.reduceAdd, Nat.reduceMul, Nat.reduceLeDiff, Nat.reduceLT, reduceCtorEq, Int.reduceToNat, Int.reduceLE, Int.reduceLT, Int.reduceEq, Int.reduceNeg, Int.reduceNe, Int.reducePow, Nat.reducePow, Nat.reduceSub, IntKind.bits]
          generalize hgg : H.put _ _ _ = u
          have ku : Keep hh u := by rw [← hgg]; exact Kq.put (show hh.len ≤ g.len by omega) _
          have g9u : u.get g.len = some ⟨false, [.int .i64 ((aheadN l fl i).a + 1), .int .i64 (aheadN l fl i).b, .int .i64 (aheadN l fl i).c]⟩ := by rw [← hgg]; exact get_put_eq l9q
          have g10u : u.get (g.len + 1) = some ⟨false, [.int .i64 (dueN l fl i).a, .int .i64 (dueN l fl i).b, .int .i64 (dueN l fl i).c]⟩ := by rw [← hgg]; exact (get_put_ne (by omega)).trans g10q
          have gpu : u.get p = _ := (ku.get lp).trans gp
          clear hgg
          try (simp (maxSteps := 10000000) (maxDischargeDepth := 30) only [go_sem, Nat.reduceEqDiff, ↓reduceIte, Nat.reduceAdd, Nat.reduceMul, Nat.reduceLeDiff, Nat.reduceLT, reduceCtorEq, Int.reduceToNat, Int.reduceLE, Int.reduceLT, Int.reduceEq, Int.reduceNeg, Int.reduceNe, Int.reducePow, Nat.reducePow, Nat.reduceSub, IntKind.bits])
          have W9 := W.next ku
          have X1 := W9.next ((Keep.refl _).nrow 1)
          have ap1 := X1.a1.ap1 (sz := 1) (by_ := 8) (xs := (ups (begunN l) i).map (LV.int .i64)) (.int .i64 (begunN l i)) (by rw [List.length_map, ups_len]) (by rw [List.length_map, ups_len]; omega)
          have Y1 := X1.g1
          have q1 : (u.nrow 1).srow r1 (i + 1 + 1) = (u.nrow 1).srow r1 (i + 1 + 1) := rfl
          generalize hs1 : (u.nrow 1).srow r1 (i + 1 + 1) = m1 at ap1 Y1 q1
          have X2 := Y1.next ((Keep.refl _).nrow 1)
          have ap2 := X2.a2.ap1 (sz := 3) (by_ := 24) (xs := ups (fun k => (aheadN l fl k).e) i) (.agg [.int .i64 ((aheadN l fl i).a + 1), .int .i64 (aheadN l fl i).b, .int .i64 (aheadN l fl i).c]) (by rw [ups_len]) (by rw [ups_len]; omega)
          have Y2 := X2.g2
          generalize hs2 : (m1.nrow 1).srow r2 (i + 1 + 1) = m2 at ap2 Y2
          have X3 := Y2.next ((Keep.refl _).nrow 1)
          have ap3 := X3.a3.ap1 (sz := 3) (by_ := 24) (xs := ups (fun k => (dueN l fl k).e) i) (.agg [.int .i64 (dueN l fl i).a, .int .i64 (dueN l fl i).b, .int .i64 (dueN l fl i).c]) (by rw [ups_len]) (by rw [ups_len]; omega)
          have Y3 := X3.g3
          generalize hs3 : (m2.nrow 1).srow r3 (i + 1 + 1) = m3 at ap3 Y3
          have eg : ∀ c, m3.get c = u.get c := fun c => by rw [← hs3, ← hs2, ← hs1]; simp only [get_srow, get_nrow]
          have eg1 : ∀ c, m1.get c = u.get c := fun c => by rw [← hs1]; simp only [get_srow, get_nrow]
          have eg2 : ∀ c, m2.get c = u.get c := fun c => by rw [← hs2, ← hs1]; simp only [get_srow, get_nrow]
          have gq9 := (eg1 _).trans g9u
          have gq10 := (eg2 _).trans g10u
          have gpm := (eg p).trans gpu
          have gpm1 := (eg1 p).trans gpu
          have gpm2 := (eg2 p).trans gpu
          have lob3 : m3.lob ≤ p := by rw [← hs3, ← hs2, ← hs1]; simp only [lob_srow, lob_nrow]; rw [ku.lob]; exact lop
          have lpm := lt_of_get gpm
          have ub : (ups (begunN l) i).map (LV.int .i64) ++ [.int .i64 (begunN l i)] = (ups (begunN l) (i + 1)).map (LV.int .i64) := by rw [ups_s, hsb, List.map_append]; rfl
          have ua : ups (fun k => (aheadN l fl k).e) i ++ [.agg [.int .i64 ((aheadN l fl i).a + 1), .int .i64 (aheadN l fl i).b, .int .i64 (aheadN l fl i).c]] = ups (fun k => (aheadN l fl k).e) (i + 1) := by rw [ups_s, hsa]; rfl
          have ud : ups (fun k => (dueN l fl k).e) i ++ [.agg [.int .i64 (dueN l fl i).a, .int .i64 (dueN l fl i).b, .int .i64 (dueN l fl i).c]] = ups (fun k => (dueN l fl k).e) (i + 1) := by rw [ups_s, hsd]; rfl
          rw [ub] at ap1
          rw [ua] at ap2
          rw [ud] at ap3
          simp (maxSteps := 10000000) (maxDischargeDepth := 30) only [e5, gpu, mapL, ap1, gpm1, gq9, ap2, gpm2, gq10, ap3, gpm, lob3, lpm, e24, ew, go_sem, Nat.reduceEqDiff, ↓reduceIte, Nat.reduceAdd, Nat.reduceMul, Nat.reduceLeDiff, Nat.reduceLT, reduceCtorEq, Int.reduceToNat, Int.reduceLE, Int.reduceLT, Int.reduceEq, Int.reduceNeg, Int.reduceNe, Int.reducePow, Nat.reducePow, Nat.reduceSub, IntKind.bits]
          generalize hgg : H.put _ _ _ = f
          have gpf : f.get p = some ⟨false, mapL oc (some (r1, i + 1 + 1)) (some (r2, i + 1 + 1)) (some (r3, i + 1 + 1)) l fl (i + 1)⟩ := by rw [← hgg]; exact get_put_eq (by simp only [len_put]; exact lpm)
          have Wf : A3 h r1 r2 r3 (i + 1 + 1) (i + 1 + 1) (i + 1 + 1) f := by rw [← hgg]; exact ((Y3.put hp _).put hp _).put hp _
          have lof : f.lob ≤ p := by rw [← hgg]; simp only [lob_put]; exact lob3
          clear hgg
          refine ⟨i + 1, by omega, ?_⟩
          unfold INew
          simp (maxSteps := 10000000) (maxDischargeDepth := 30) only [e0, e1, e5, e22, e23, go_sem, Nat.reduceEqDiff, ↓reduceIte, Nat.reduceAdd, Nat.reduceMul, Nat.reduceLeDiff, Nat.reduceLT, reduceCtorEq, Int.reduceToNat, Int.reduceLE, Int.reduceLT, Int.reduceEq, Int.reduceNeg, Int.reduceNe, Int.reducePow, Nat.reducePow, Nat.reduceSub, IntKind.bits]
          exact ⟨by omega, gpf, Wf, hp, lof⟩
        · rw [c0] at hsa
          have ewc : IntKind.i64.wrap ((aheadN l fl i).b + 1) = (aheadN l fl i).b + 1 := wrap64 (by have := b0.1; have := b0.2.1; have := b0.2.2; simp only [cnt0] at *; omega) (by omega)
          simp (maxSteps := 10000000) (maxDischargeDepth := 30) only [gfq, c0, g9q, l9q, lo9q, ewc, go_sem, Nat.reduceEqDiff, ↓reduceIte, Nat.reduceAdd, Nat.reduceMul, Nat.reduceLeDiff, Nat.reduceLT, reduceCtorEq, Int.reduceToNat, Int.reduceLE, Int.reduceLT, Int.reduceEq, Int.reduceNeg, Int.reduceNe, Int.reducePow, Nat.reducePow, Nat.reduceSub, IntKind.bits]
          generalize hgg : H.put _ _ _ = u
          have ku : Keep hh u := by rw [← hgg]; exact Kq.put (show hh.len ≤ g.len by omega) _
          have g9u : u.get g.len = some ⟨false, [.int .i64 (aheadN l fl i).a, .int .i64 ((aheadN l fl i).b + 1), .int .i64 (aheadN l fl i).c]⟩ := by rw [← hgg]; exact get_put_eq l9q
          have g10u : u.get (g.len + 1) = some ⟨false, [.int .i64 (dueN l fl i).a, .int .i64 (dueN l fl i).b, .int .i64 (dueN l fl i).c]⟩ := by rw [← hgg]; exact (get_put_ne (by omega)).trans g10q
          have gpu : u.get p = _ := (ku.get lp).trans gp
          clear hgg
          try (simp (maxSteps := 10000000) (maxDischargeDepth := 30) only [go_sem, Nat.reduceEqDiff, ↓reduceIte, Nat.reduceAdd, Nat.reduceMul, Nat.reduceLeDiff, Nat.reduceLT, reduceCtorEq, Int.reduceToNat, Int.reduceLE, Int.reduceLT, Int.reduceEq, Int.reduceNeg, Int.reduceNe, Int.reducePow, Nat.reducePow, Nat.reduceSub, IntKind.bits])
          have W9 := W.next ku
          have X1 := W9.next ((Keep.refl _).nrow 1)
          have ap1 := X1.a1.ap1 (sz := 1) (by_ := 8) (xs := (ups (begunN l) i).map (LV.int .i64)) (.int .i64 (begunN l i)) (by rw [List.length_map, ups_len]) (by rw [List.length_map, ups_len]; omega)
          have Y1 := X1.g1
          have q1 : (u.nrow 1).srow r1 (i + 1 + 1) = (u.nrow 1).srow r1 (i + 1 + 1) := rfl
          generalize hs1 : (u.nrow 1).srow r1 (i + 1 + 1) = m1 at ap1 Y1 q1
          have X2 := Y1.next ((Keep.refl _).nrow 1)
          have ap2 := X2.a2.ap1 (sz := 3) (by_ := 24) (xs := ups (fun k => (aheadN l fl k).e) i) (.agg [.int .i64 (aheadN l fl i).a, .int .i64 ((aheadN l fl i).b + 1), .int .i64 (aheadN l fl i).c]) (by rw [ups_len]) (by rw [ups_len]; omega)
          have Y2 := X2.g2
          generalize hs2 : (m1.nrow 1).srow r2 (i + 1 + 1) = m2 at ap2 Y2
          have X3 := Y2.next ((Keep.refl _).nrow 1)
          have ap3 := X3.a3.ap1 (sz := 3) (by_ := 24) (xs := ups (fun k => (dueN l fl k).e) i) (.agg [.int .i64 (dueN l fl i).a, .int .i64 (dueN l fl i).b, .int .i64 (dueN l fl i).c]) (by rw [ups_len]) (by rw [ups_len]; omega)
          have Y3 := X3.g3
          generalize hs3 : (m2.nrow 1).srow r3 (i + 1 + 1) = m3 at ap3 Y3
          have eg : ∀ c, m3.get c = u.get c := fun c => by rw [← hs3, ← hs2, ← hs1]; simp only [get_srow, get_nrow]
          have eg1 : ∀ c, m1.get c = u.get c := fun c => by rw [← hs1]; simp only [get_srow, get_nrow]
          have eg2 : ∀ c, m2.get c = u.get c := fun c => by rw [← hs2, ← hs1]; simp only [get_srow, get_nrow]
          have gq9 := (eg1 _).trans g9u
          have gq10 := (eg2 _).trans g10u
          have gpm := (eg p).trans gpu
          have gpm1 := (eg1 p).trans gpu
          have gpm2 := (eg2 p).trans gpu
          have lob3 : m3.lob ≤ p := by rw [← hs3, ← hs2, ← hs1]; simp only [lob_srow, lob_nrow]; rw [ku.lob]; exact lop
          have lpm := lt_of_get gpm
          have ub : (ups (begunN l) i).map (LV.int .i64) ++ [.int .i64 (begunN l i)] = (ups (begunN l) (i + 1)).map (LV.int .i64) := by rw [ups_s, hsb, List.map_append]; rfl
          have ua : ups (fun k => (aheadN l fl k).e) i ++ [.agg [.int .i64 (aheadN l fl i).a, .int .i64 ((aheadN l fl i).b + 1), .int .i64 (aheadN l fl i).c]] = ups (fun k => (aheadN l fl k).e) (i + 1) := by rw [ups_s, hsa]; rfl
          have ud : ups (fun k => (dueN l fl k).e) i ++ [.agg [.int .i64 (dueN l fl i).a, .int .i64 (dueN l fl i).b, .int .i64 (dueN l fl i).c]] = ups (fun k => (dueN l fl k).e) (i + 1) := by rw [ups_s, hsd]; rfl
          rw [ub] at ap1
          rw [ua] at ap2
          rw [ud] at ap3
          simp (maxSteps := 10000000) (maxDischargeDepth := 30) only [e5, gpu, mapL, ap1, gpm1, gq9, ap2, gpm2, gq10, ap3, gpm, lob3, lpm, e24, ew, go_sem, Nat.reduceEqDiff, ↓reduceIte, Nat.reduceAdd, Nat.reduceMul, Nat.reduceLeDiff, Nat.reduceLT, reduceCtorEq, Int.reduceToNat, Int.reduceLE, Int.reduceLT, Int.reduceEq, Int.reduceNeg, Int.reduceNe, Int.reducePow, Nat.reducePow, Nat.reduceSub, IntKind.bits]
          generalize hgg : H.put _ _ _ = f
          have gpf : f.get p = some ⟨false, mapL oc (some (r1, i + 1 + 1)) (some (r2, i + 1 + 1)) (some (r3, i + 1 + 1)) l fl (i + 1)⟩ := by rw [← hgg]; exact get_put_eq (by simp only [len_put]; exact lpm)
          have Wf : A3 h r1 r2 r3 (i + 1 + 1) (i + 1 + 1) (i + 1 + 1) f := by rw [← hgg]; exact ((Y3.put hp _).put hp _).put hp _
          have lof : f.lob ≤ p := by rw [← hgg]; simp only [lob_put]; exact lob3
          clear hgg
          refine ⟨i + 1, by omega, ?_⟩
          unfold INew
          simp (maxSteps := 10000000) (maxDischargeDepth := 30) only [e0, e1, e5, e22, e23, go_sem, Nat.reduceEqDiff, ↓reduceIte, Nat.reduceAdd, Nat.reduceMul, Nat.reduceLeDiff, Nat.reduceLT, reduceCtorEq, Int.reduceToNat, Int.reduceLE, Int.reduceLT, Int.reduceEq, Int.reduceNeg, Int.reduceNe, Int.reducePow, Nat.reducePow, Nat.reduceSub, IntKind.bits]
          exact ⟨by omega, gpf, Wf, hp, lof⟩
        · rw [c0] at hsa
          have ewc : IntKind.i64.wrap ((aheadN l fl i).c + 1) = (aheadN l fl i).c + 1 := wrap64 (by have := b0.1; have := b0.2.1; have := b0.2.2; simp only [cnt0] at *; omega) (by omega)
          simp (maxSteps := 10000000) (maxDischargeDepth := 30) only [gfq, c0, g9q, l9q, lo9q, ewc, go_sem, Nat.reduceEqDiff, ↓reduceIte, Nat.reduceAdd, Nat.reduceMul, Nat.reduceLeDiff, Nat.reduceLT, reduceCtorEq, Int.reduceToNat, Int.reduceLE, Int.reduceLT, Int.reduceEq, Int.reduceNeg, Int.reduceNe, Int.reducePow, Nat.reducePow, Nat.reduceSub, IntKind.bits]
          generalize hgg : H.put _ _ _ = u
          have ku : Keep hh u := by rw [← hgg]; exact Kq.put (show hh.len ≤ g.len by omega) _
          have g9u : u.get g.len = some ⟨false, [.int .i64 (aheadN l fl i).a, .int .i64 (aheadN l fl i).b, .int .i64 ((aheadN l fl i).c + 1)]⟩ := by rw [← hgg]; exact get_put_eq l9q
          have g10u : u.get (g.len + 1) = some ⟨false, [.int .i64 (dueN l fl i).a, .int .i64 (dueN l fl i).b, .int .i64 (dueN l fl i).c]⟩ := by rw [← hgg]; exact (get_put_ne (by omega)).trans g10q
          have gpu : u.get p = _ := (ku.get lp).trans gp
          clear hgg
          try (simp (maxSteps := 10000000) (maxDischargeDepth := 30) only [go_sem, Nat.reduceEqDiff, ↓reduceIte, Nat.reduceAdd, Nat.reduceMul, Nat.reduceLeDiff, Nat.reduceLT, reduceCtorEq, Int.reduceToNat, Int.reduceLE, Int.reduceLT, Int.reduceEq, Int.reduceNeg, Int.reduceNe, Int.reducePow, Nat.reducePow, Nat.reduceSub, IntKind.bits])
          have W9 := W.next ku
          have X1 := W9.next ((Keep.refl _).nrow 1)
          have ap1 := X1.a1.ap1 (sz := 1) (by_ := 8) (xs := (ups (begunN l) i).map (LV.int .i64)) (.int .i64 (begunN l i)) (by rw [List.length_map, ups_len]) (by rw [List.length_map, ups_len]; omega)
          have Y1 := X1.g1
          have q1 : (u.nrow 1).srow r1 (i + 1 + 1) = (u.nrow 1).srow r1 (i + 1 + 1) := rfl
          generalize hs1 : (u.nrow 1).srow r1 (i + 1 + 1) = m1 at ap1 Y1 q1
          have X2 := Y1.next ((Keep.refl _).nrow 1)
          have ap2 := X2.a2.ap1 (sz := 3) (by_ := 24) (xs := ups (fun k => (aheadN l fl k).e) i) (.agg [.int .i64 (aheadN l fl i).a, .int .i64 (aheadN l fl i).b, .int .i64 ((aheadN l fl i).c + 1)]) (by rw [ups_len]) (by rw [ups_len]; omega)
          have Y2 := X2.g2
          generalize hs2 : (m1.nrow 1).srow r2 (i + 1 + 1) = m2 at ap2 Y2
          have X3 := Y2.next ((Keep.refl _).nrow 1)
          have ap3 := X3.a3.ap1 (sz := 3) (by_ := 24) (xs := ups (fun k => (dueN l fl k).e) i) (.agg [.int .i64 (dueN l fl i).a, .int .i64 (dueN l fl i).b, .int .i64 (dueN l fl i).c]) (by rw [ups_len]) (by rw [ups_len]; omega)
          have Y3 := X3.g3
          generalize hs3 : (m2.nrow 1).srow r3 (i + 1 + 1) = m3 at ap3 Y3
          have eg : ∀ c, m3.get c = u.get c := fun c => by rw [← hs3, ← hs2, ← hs1]; simp only [get_srow, get_nrow]
          have eg1 : ∀ c, m1.get c = u.get c := fun c => by rw [← hs1]; simp only [get_srow, get_nrow]
          have eg2 : ∀ c, m2.get c = u.get c := fun c => by rw [← hs2, ← hs1]; simp only [get_srow, get_nrow]
          have gq9 := (eg1 _).trans g9u
          have gq10 := (eg2 _).trans g10u
          have gpm := (eg p).trans gpu
          have gpm1 := (eg1 p).trans gpu
          have gpm2 := (eg2 p).trans gpu
          have lob3 : m3.lob ≤ p := by rw [← hs3, ← hs2, ← hs1]; simp only [lob_srow, lob_nrow]; rw [ku.lob]; exact lop
          have lpm := lt_of_get gpm
          have ub : (ups (begunN l) i).map (LV.int .i64) ++ [.int .i64 (begunN l i)] = (ups (begunN l) (i + 1)).map (LV.int .i64) := by rw [ups_s, hsb, List.map_append]; rfl
          have ua : ups (fun k => (aheadN l fl k).e) i ++ [.agg [.int .i64 (aheadN l fl i).a, .int .i64 (aheadN l fl i).b, .int .i64 ((aheadN l fl i).c + 1)]] = ups (fun k => (aheadN l fl k).e) (i + 1) := by rw [ups_s, hsa]; rfl
          have ud : ups (fun k => (dueN l fl k).e) i ++ [.agg [.int .i64 (dueN l fl i).a, .int .i64 (dueN l fl i).b, .int .i64 (dueN l fl i).c]] = ups (fun k => (dueN l fl k).e) (i + 1) := by rw [ups_s, hsd]; rfl
          rw [ub] at ap1
          rw [ua] at ap2
          rw [ud] at ap3
          simp (maxSteps := 10000000) (maxDischargeDepth := 30) only [e5, gpu, mapL, ap1, gpm1, gq9, ap2, gpm2, gq10, ap3, gpm, lob3, lpm, e24, ew, go_sem, Nat.reduceEqDiff, ↓reduceIte, Nat.reduceAdd, Nat.reduceMul, Nat.reduceLeDiff, Nat.reduceLT, reduceCtorEq, Int.reduceToNat, Int.reduceLE, Int.reduceLT, Int.reduceEq, Int.reduceNeg, Int.reduceNe, Int.reducePow, Nat.reducePow, Nat.reduceSub, IntKind.bits]
          generalize hgg : H.put _ _ _ = f
          have gpf : f.get p = some ⟨false, mapL oc (some (r1, i + 1 + 1)) (some (r2, i + 1 + 1)) (some (r3, i + 1 + 1)) l fl (i + 1)⟩ := by rw [← hgg]; exact get_put_eq (by simp only [len_put]; exact lpm)
          have Wf : A3 h r1 r2 r3 (i + 1 + 1) (i + 1 + 1) (i + 1 + 1) f := by rw [← hgg]; exact ((Y3.put hp _).put hp _).put hp _
          have lof : f.lob ≤ p := by rw [← hgg]; simp only [lob_put]; exact lob3
          clear hgg
          refine ⟨i + 1, by omega, ?_⟩
          unfold INew
          simp (maxSteps := 10000000) (maxDischargeDepth := 30) only [e0, e1, e5, e22, e23, go_sem, Nat.reduceEqDiff, ↓reduceIte, Nat.reduceAdd, Nat.reduceMul, Nat.reduceLeDiff, Nat.reduceLT, reduceCtorEq, Int.reduceToNat, Int.reduceLE, Int.reduceLT, Int.reduceEq, Int.reduceNeg, Int.reduceNe, Int.reducePow, Nat.reducePow, Nat.reduceSub, IntKind.bits]
          exact ⟨by omega, gpf, Wf, hp, lof⟩
    rw [aStep_k k6] at hsa
    by_cases k7 : x.k = 7
    · rw [if_pos k7] at hsd
      have l10 := lt_of_get g10
      have lo10 : m.lob ≤ g.len + 1 := by rw [K0.lob]; have := W.wf.1; omega
      by_cases hq : dueN l fl i = aheadN l fl i
      · have q1 : ((dueN l fl i).a == (aheadN l fl i).a) = true := by rw [hq]; simp
        have q2 : ((dueN l fl i).b == (aheadN l fl i).b) = true := by rw [hq]; simp
        have q3 : ((dueN l fl i).c == (aheadN l fl i).c) = true := by rw [hq]; simp
        rw [← hq] at hsd
        simp (maxSteps := 10000000) (maxDischargeDepth := 30) only [gim, k5, k6, k7, g9, g10, q1, q2, q3, go_sem, Nat.reduceEqDiff, ↓reduceIte, Nat.reduceAdd, Nat.reduceMul, Nat.reduceLeDiff, Nat.reduceLT, reduceCtorEq, Int.reduceToNat, Int.reduceLE, Int.reduceLT, Int.reduceEq, Int.reduceNeg, Int.reduceNe, Int.reducePow, Nat.reducePow, Nat.reduceSub, IntKind.bits]
        have W9 := W.next K0
        have X1 := W9.next ((Keep.refl _).nrow 1)
        have ap1 := X1.a1.ap1 (sz := 1) (by_ := 8) (xs := (ups (begunN l) i).map (LV.int .i64)) (.int .i64 (begunN l i)) (by rw [List.length_map, ups_len]) (by rw [List.length_map, ups_len]; omega)
        have Y1 := X1.g1
        have q1 : (m.nrow 1).srow r1 (i + 1 + 1) = (m.nrow 1).srow r1 (i + 1 + 1) := rfl
        generalize hs1 : (m.nrow 1).srow r1 (i + 1 + 1) = m1 at ap1 Y1 q1
        have X2 := Y1.next ((Keep.refl _).nrow 1)
        have ap2 := X2.a2.ap1 (sz := 3) (by_ := 24) (xs := ups (fun k => (aheadN l fl k).e) i) (.agg [.int .i64 (aheadN l fl i).a, .int .i64 (aheadN l fl i).b, .int .i64 (aheadN l fl i).c]) (by rw [ups_len]) (by rw [ups_len]; omega)
        have Y2 := X2.g2
        generalize hs2 : (m1.nrow 1).srow r2 (i + 1 + 1) = m2 at ap2 Y2
        have X3 := Y2.next ((Keep.refl _).nrow 1)
        have ap3 := X3.a3.ap1 (sz := 3) (by_ := 24) (xs := ups (fun k => (dueN l fl k).e) i) (.agg [.int .i64 (dueN l fl i).a, .int .i64 (dueN l fl i).b, .int .i64 (dueN l fl i).c]) (by rw [ups_len]) (by rw [ups_len]; omega)
        have Y3 := X3.g3
        generalize hs3 : (m2.nrow 1).srow r3 (i + 1 + 1) = m3 at ap3 Y3
        have eg : ∀ c, m3.get c = m.get c := fun c => by rw [← hs3, ← hs2, ← hs1]; simp only [get_srow, get_nrow]
        have eg1 : ∀ c, m1.get c = m.get c := fun c => by rw [← hs1]; simp only [get_srow, get_nrow]
        have eg2 : ∀ c, m2.get c = m.get c := fun c => by rw [← hs2, ← hs1]; simp only [get_srow, get_nrow]
        have gq9 := (eg1 _).trans g9
        have gq10 := (eg2 _).trans g10
        have gpm := (eg p).trans gpm0
        have gpm1 := (eg1 p).trans gpm0
        have gpm2 := (eg2 p).trans gpm0
        have lob3 : m3.lob ≤ p := by rw [← hs3, ← hs2, ← hs1]; simp only [lob_srow, lob_nrow]; rw [K0.lob]; exact lop
        have lpm := lt_of_get gpm
        have ub : (ups (begunN l) i).map (LV.int .i64) ++ [.int .i64 (begunN l i)] = (ups (begunN l) (i + 1)).map (LV.int .i64) := by rw [ups_s, hsb, List.map_append]; rfl
        have ua : ups (fun k => (aheadN l fl k).e) i ++ [.agg [.int .i64 (aheadN l fl i).a, .int .i64 (aheadN l fl i).b, .int .i64 (aheadN l fl i).c]] = ups (fun k => (aheadN l fl k).e) (i + 1) := by rw [ups_s, hsa]; rfl
        have ud : ups (fun k => (dueN l fl k).e) i ++ [.agg [.int .i64 (dueN l fl i).a, .int .i64 (dueN l fl i).b, .int .i64 (dueN l fl i).c]] = ups (fun k => (dueN l fl k).e) (i + 1) := by rw [ups_s, hsd]; rfl
        rw [ub] at ap1
        rw [ua] at ap2
        rw [ud] at ap3
        simp (maxSteps := 10000000) (maxDischargeDepth := 30) only [e5, gpm0, mapL, ap1, gpm1, gq9, ap2, gpm2, gq10, ap3, gpm, lob3, lpm, e24, ew, go_sem, Nat.reduceEqDiff, ↓reduceIte, Nat.reduceAdd, Nat.reduceMul, Nat.reduceLeDiff, Nat.reduceLT, reduceCtorEq, Int.reduceToNat, Int.reduceLE, Int.reduceLT, Int.reduceEq, Int.reduceNeg, Int.reduceNe, Int.reducePow, Nat.reducePow, Nat.reduceSub, IntKind.bits]
        generalize hgg : H.put _ _ _ = f
        have gpf : f.get p = some ⟨false, mapL oc (some (r1, i + 1 + 1)) (some (r2, i + 1 + 1)) (some (r3, i + 1 + 1)) l fl (i + 1)⟩ := by rw [← hgg]; exact get_put_eq (by simp only [len_put]; exact lpm)
        have Wf : A3 h r1 r2 r3 (i + 1 + 1) (i + 1 + 1) (i + 1 + 1) f := by rw [← hgg]; exact ((Y3.put hp _).put hp _).put hp _
        have lof : f.lob ≤ p := by rw [← hgg]; simp only [lob_put]; exact lob3
        clear hgg
        refine ⟨i + 1, by omega, ?_⟩
        unfold INew
        simp (maxSteps := 10000000) (maxDischargeDepth := 30) only [e0, e1, e5, e22, e23, go_sem, Nat.reduceEqDiff, ↓reduceIte, Nat.reduceAdd, Nat.reduceMul, Nat.reduceLeDiff, Nat.reduceLT, reduceCtorEq, Int.reduceToNat, Int.reduceLE, Int.reduceLT, Int.reduceEq, Int.reduceNeg, Int.reduceNe, Int.reducePow, Nat.reducePow, Nat.reduceSub, IntKind.bits]
        exact ⟨by omega, gpf, Wf, hp, lof⟩
      · have q0 : ((dueN l fl i).a == (aheadN l fl i).a && ((dueN l fl i).b == (aheadN l fl i).b && (dueN l fl i).c == (aheadN l fl i).c)) = false := by
          rw [Bool.eq_false_iff]
          intro e
          simp only [Bool.and_eq_true, beq_iff_eq] at e
          exact hq (by cases h1 : dueN l fl i; cases h2 : aheadN l fl i; rw [h1, h2] at e; simp_all)
        have q1 : eqSeq [some ((dueN l fl i).a == (aheadN l fl i).a), some ((dueN l fl i).b == (aheadN l fl i).b), some ((dueN l fl i).c == (aheadN l fl i).c)] = some false := by rw [eqSeq_3, q0]
        simp (maxSteps := 10000000) (maxDischargeDepth := 30) only [gim, k5, k6, k7, g9, g10, q1, l10, lo10, go_sem, Nat.reduceEqDiff, ↓reduceIte, Nat.reduceAdd, Nat.reduceMul, Nat.reduceLeDiff, Nat.reduceLT, reduceCtorEq, Int.reduceToNat, Int.reduceLE, Int.reduceLT, Int.reduceEq, Int.reduceNeg, Int.reduceNe, Int.reducePow, Nat.reducePow, Nat.reduceSub, IntKind.bits]
        generalize hgg : H.put _ _ _ = u
        have ku : Keep hh u := by rw [← hgg]; exact K0.put (show hh.len ≤ g.len + 1 by omega) _
        have g10u : u.get (g.len + 1) = some ⟨false, [.int .i64 (aheadN l fl i).a, .int .i64 (aheadN l fl i).b, .int .i64 (aheadN l fl i).c]⟩ := by rw [← hgg]; exact get_put_eq l10
        have g9u : u.get g.len = some ⟨false, [.int .i64 (aheadN l fl i).a, .int .i64 (aheadN l fl i).b, .int .i64 (aheadN l fl i).c]⟩ := by rw [← hgg]; exact (get_put_ne (by omega)).trans g9
        have gpu : u.get p = _ := (ku.get lp).trans gp
        clear hgg
        try (simp (maxSteps := 10000000) (maxDischargeDepth := 30) only [go_sem, Nat.reduceEqDiff, ↓reduceIte, Nat.reduceAdd, Nat.reduceMul, Nat.reduceLeDiff, Nat.reduceLT, reduceCtorEq, Int.reduceToNat, Int.reduceLE, Int.reduceLT, Int.reduceEq, Int.reduceNeg, Int.reduceNe, Int.reducePow, Nat.reducePow, Nat.reduceSub, IntKind.bits])
        have W9 := W.next ku
        have X1 := W9.next ((Keep.refl _).nrow 1)
        have ap1 := X1.a1.ap1 (sz := 1) (by_ := 8) (xs := (ups (begunN l) i).map (LV.int .i64)) (.int .i64 (begunN l i)) (by rw [List.length_map, ups_len]) (by rw [List.length_map, ups_len]; omega)
        have Y1 := X1.g1
        have q1 : (u.nrow 1).srow r1 (i + 1 + 1) = (u.nrow 1).srow r1 (i + 1 + 1) := rfl
        generalize hs1 : (u.nrow 1).srow r1 (i + 1 + 1) = m1 at ap1 Y1 q1
        have X2 := Y1.next ((Keep.refl _).nrow 1)
        have ap2 := X2.a2.ap1 (sz := 3) (by_ := 24) (xs := ups (fun k => (aheadN l fl k).e) i) (.agg [.int .i64 (aheadN l fl i).a, .int .i64 (aheadN l fl i).b, .int .i64 (aheadN l fl i).c]) (by rw [ups_len]) (by rw [ups_len]; omega)
        have Y2 := X2.g2
        generalize hs2 : (m1.nrow 1).srow r2 (i + 1 + 1) = m2 at ap2 Y2
        have X3 := Y2.next ((Keep.refl _).nrow 1)
        have ap3 := X3.a3.ap1 (sz := 3) (by_ := 24) (xs := ups (fun k => (dueN l fl k).e) i) (.agg [.int .i64 (aheadN l fl i).a, .int .i64 (aheadN l fl i).b, .int .i64 (aheadN l fl i).c]) (by rw [ups_len]) (by rw [ups_len]; omega)
        have Y3 := X3.g3
        generalize hs3 : (m2.nrow 1).srow r3 (i + 1 + 1) = m3 at ap3 Y3
        have eg : ∀ c, m3.get c = u.get c := fun c => by rw [← hs3, ← hs2, ← hs1]; simp only [get_srow, get_nrow]
        have eg1 : ∀ c, m1.get c = u.get c := fun c => by rw [← hs1]; simp only [get_srow, get_nrow]
        have eg2 : ∀ c, m2.get c = u.get c := fun c => by rw [← hs2, ← hs1]; simp only [get_srow, get_nrow]
        have gq9 := (eg1 _).trans g9u
        have gq10 := (eg2 _).trans g10u
        have gpm := (eg p).trans gpu
        have gpm1 := (eg1 p).trans gpu
        have gpm2 := (eg2 p).trans gpu
        have lob3 : m3.lob ≤ p := by rw [← hs3, ← hs2, ← hs1]; simp only [lob_srow, lob_nrow]; rw [ku.lob]; exact lop
        have lpm := lt_of_get gpm
        have ub : (ups (begunN l) i).map (LV.int .i64) ++ [.int .i64 (begunN l i)] = (ups (begunN l) (i + 1)).map (LV.int .i64) := by rw [ups_s, hsb, List.map_append]; rfl
        have ua : ups (fun k => (aheadN l fl k).e) i ++ [.agg [.int .i64 (aheadN l fl i).a, .int .i64 (aheadN l fl i).b, .int .i64 (aheadN l fl i).c]] = ups (fun k => (aheadN l fl k).e) (i + 1) := by rw [ups_s, hsa]; rfl
        have ud : ups (fun k => (dueN l fl k).e) i ++ [.agg [.int .i64 (aheadN l fl i).a, .int .i64 (aheadN l fl i).b, .int .i64 (aheadN l fl i).c]] = ups (fun k => (dueN l fl k).e) (i + 1) := by rw [ups_s, hsd]; rfl
        rw [ub] at ap1
        rw [ua] at ap2
        rw [ud] at ap3
        simp (maxSteps := 10000000) (maxDischargeDepth := 30) only [e5, gpu, mapL, ap1, gpm1, gq9, ap2, gpm2, gq10, ap3, gpm, lob3, lpm, e24, ew, go_sem, Nat.reduceEqDiff, ↓reduceIte, Nat.reduceAdd, Nat.reduceMul, Nat.reduceLeDiff, Nat.reduceLT, reduceCtorEq, Int.reduceToNat, Int.reduceLE, Int.reduceLT, Int.reduceEq, Int.reduceNeg, Int.reduceNe, Int.reducePow, Nat.reducePow, Nat.reduceSub, IntKind.bits]
        generalize hgg : H.put _ _ _ = f
        have gpf : f.get p = some ⟨false, mapL oc (some (r1, i + 1 + 1)) (some (r2, i + 1 + 1)) (some (r3, i + 1 + 1)) l fl (i + 1)⟩ := by rw [← hgg]; exact get_put_eq (by simp only [len_put]; exact lpm)
        have Wf : A3 h r1 r2 r3 (i + 1 + 1) (i + 1 + 1) (i + 1 + 1) f := by rw [← hgg]; exact ((Y3.put hp _).put hp _).put hp _
        have lof : f.lob ≤ p := by rw [← hgg]; simp only [lob_put]; exact lob3
        clear hgg
        refine ⟨i + 1, by omega, ?_⟩
        unfold INew
        simp (maxSteps := 10000000) (maxDischargeDepth := 30) only [e0, e1, e5, e22, e23, go_sem, Nat.reduceEqDiff, ↓reduceIte, Nat.reduceAdd, Nat.reduceMul, Nat.reduceLeDiff, Nat.reduceLT, reduceCtorEq, Int.reduceToNat, Int.reduceLE, Int.reduceLT, Int.reduceEq, Int.reduceNeg, Int.reduceNe, Int.reducePow, Nat.reducePow, Nat.reduceSub, IntKind.bits]
        exact ⟨by omega, gpf, Wf, hp, lof⟩
    · rw [if_neg k7] at hsd
      simp (maxSteps := 10000000) (maxDischargeDepth := 30) only [gim, k5, k6, k7, go_sem, Nat.reduceEqDiff, ↓reduceIte, Nat.reduceAdd, Nat.reduceMul, Nat.reduceLeDiff, Nat.reduceLT, reduceCtorEq, Int.reduceToNat, Int.reduceLE, Int.reduceLT, Int.reduceEq, Int.reduceNeg, Int.reduceNe, Int.reducePow, Nat.reducePow, Nat.reduceSub, IntKind.bits]
      have W9 := W.next K0
      have X1 := W9.next ((Keep.refl _).nrow 1)
      have ap1 := X1.a1.ap1 (sz := 1) (by_ := 8) (xs := (ups (begunN l) i).map (LV.int .i64)) (.int .i64 (begunN l i)) (by rw [List.length_map, ups_len]) (by rw [List.length_map, ups_len]; omega)
      have Y1 := X1.g1
      have q1 : (m.nrow 1).srow r1 (i + 1 + 1) = (m.nrow 1).srow r1 (i + 1 + 1) := rfl
      generalize hs1 : (m.nrow 1).srow r1 (i + 1 + 1) = m1 at ap1 Y1 q1
      have X2 := Y1.next ((Keep.refl _).nrow 1)
      have ap2 := X2.a2.ap1 (sz := 3) (by_ := 24) (xs := ups (fun k => (aheadN l fl k).e) i) (.agg [.int .i64 (aheadN l fl i).a, .int .i64 (aheadN l fl i).b, .int .i64 (aheadN l fl i).c]) (by rw [ups_len]) (by rw [ups_len]; omega)
      have Y2 := X2.g2
      generalize hs2 : (m1.nrow 1).srow r2 (i + 1 + 1) = m2 at ap2 Y2
      have X3 := Y2.next ((Keep.refl _).nrow 1)
      have ap3 := X3.a3.ap1 (sz := 3) (by_ := 24) (xs := ups (fun k => (dueN l fl k).e) i) (.agg [.int .i64 (dueN l fl i).a, .int .i64 (dueN l fl i).b, .int .i64 (dueN l fl i).c]) (by rw [ups_len]) (by rw [ups_len]; omega)
      have Y3 := X3.g3
      generalize hs3 : (m2.nrow 1).srow r3 (i + 1 + 1) = m3 at ap3 Y3
      have eg : ∀ c, m3.get c = m.get c := fun c => by rw [← hs3, ← hs2, ← hs1]; simp only [get_srow, get_nrow]
      have eg1 : ∀ c, m1.get c = m.get c := fun c => by rw [← hs1]; simp only [get_srow, get_nrow]
      have eg2 : ∀ c, m2.get c = m.get c := fun c => by rw [← hs2, ← hs1]; simp only [get_srow, get_nrow]
      have gq9 := (eg1 _).trans g9
      have gq10 := (eg2 _).trans g10
      have gpm := (eg p).trans gpm0
      have gpm1 := (eg1 p).trans gpm0
      have gpm2 := (eg2 p).trans gpm0
      have lob3 : m3.lob ≤ p := by rw [← hs3, ← hs2, ← hs1]; simp only [lob_srow, lob_nrow]; rw [K0.lob]; exact lop
      have lpm := lt_of_get gpm
      have ub : (ups (begunN l) i).map (LV.int .i64) ++ [.int .i64 (begunN l i)] = (ups (begunN l) (i + 1)).map (LV.int .i64) := by rw [ups_s, hsb, List.map_append]; rfl
      have ua : ups (fun k => (aheadN l fl k).e) i ++ [.agg [.int .i64 (aheadN l fl i).a, .int .i64 (aheadN l fl i).b, .int .i64 (aheadN l fl i).c]] = ups (fun k => (aheadN l fl k).e) (i + 1) := by rw [ups_s, hsa]; rfl
      have ud : ups (fun k => (dueN l fl k).e) i ++ [.agg [.int .i64 (dueN l fl i).a, .int .i64 (dueN l fl i).b, .int .i64 (dueN l fl i).c]] = ups (fun k => (dueN l fl k).e) (i + 1) := by rw [ups_s, hsd]; rfl
      rw [ub] at ap1
      rw [ua] at ap2
      rw [ud] at ap3
      simp (maxSteps := 10000000) (maxDischargeDepth := 30) only [e5, gpm0, mapL, ap1, gpm1, gq9, ap2, gpm2, gq10, ap3, gpm, lob3, lpm, e24, ew, go_sem, Nat.reduceEqDiff, ↓reduceIte, Nat.reduceAdd, Nat.reduceMul, Nat.reduceLeDiff, Nat.reduceLT, reduceCtorEq, Int.reduceToNat, Int.reduceLE, Int.reduceLT, Int.reduceEq, Int.reduceNeg, Int.reduceNe, Int.reducePow, Nat.reducePow, Nat.reduceSub, IntKind.bits]
      generalize hgg : H.put _ _ _ = f
      have gpf : f.get p = some ⟨false, mapL oc (some (r1, i + 1 + 1)) (some (r2, i + 1 + 1)) (some (r3, i + 1 + 1)) l fl (i + 1)⟩ := by rw [← hgg]; exact get_put_eq (by simp only [len_put]; exact lpm)
      have Wf : A3 h r1 r2 r3 (i + 1 + 1) (i + 1 + 1) (i + 1 + 1) f := by rw [← hgg]; exact ((Y3.put hp _).put hp _).put hp _
      have lof : f.lob ≤ p := by rw [← hgg]; simp only [lob_put]; exact lob3
      clear hgg
      refine ⟨i + 1, by omega, ?_⟩
      unfold INew
      simp (maxSteps := 10000000) (maxDischargeDepth := 30) only [e0, e1, e5, e22, e23, go_sem, Nat.reduceEqDiff, ↓reduceIte, Nat.reduceAdd, Nat.reduceMul, Nat.reduceLeDiff, Nat.reduceLT, reduceCtorEq, Int.reduceToNat, Int.reduceLE, Int.reduceLT, Int.reduceEq, Int.reduceNeg, Int.reduceNe, Int.reducePow, Nat.reducePow, Nat.reduceSub, IntKind.bits]
      exact ⟨by omega, gpf, Wf, hp, lof⟩
end Go.LM
