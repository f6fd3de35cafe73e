import Derived.Test.YtpmpdidgbbgeeaaLmTrbR1
import Derived.Test.YtpmpdidgbbgeeaaLmbCodecW
namespace Go.LM
open Go.Proofs
set_option maxRecDepth 8000
set_option maxHeartbeats 2000000
set_option linter.unusedSimpArgs false

def IR06 (o : Option (Nat × Nat)) (l : List OpR) (h0 : H) (i : Nat) (s : S) (hh : H) : Prop :=
  s 0 = mkS o 5 (l.map OpR.e) ∧ s 4 = .int .i64 i ∧ i ≤ l.length ∧ ∃ o2, s 3 = byts o2 ((l.take i).flatMap opB) ∧ Acc h0 o2 ((l.take i).flatMap opB) hh
theorem cRWrite06 (o : Option (Nat × Nat)) (l : List OpR) (h : H) (w : WF h) (hl : l.length ≤ 60) (hn : ∀ x ∈ l, x.num) (hf : ∀ x ∈ l, x.few) :
    runI Try.prog TA 35 [mkS o 5 (l.map OpR.e)] h = some (byts (tk Try.prog TA 35 [mkS o 5 (l.map OpR.e)] h) (l.flatMap opB), hp Try.prog TA 35 [mkS o 5 (l.map OpR.e)] h) := by
  refine pureS_of rfl res35 rfl ?_
  simp (maxSteps := 10000000) (maxDischargeDepth := 30) only [q35, r35, go_sem, Nat.reduceEqDiff, ↓reduceIte, Nat.reduceAdd, Nat.reduceMul, Nat.reduceLeDiff, Nat.reduceLT, reduceCtorEq, Int.reduceToNat, Int.reduceLE, Int.reduceLT, Int.reduceEq, Int.reduceNeg, Int.reduceNe, Int.reducePow, Nat.reducePow, Nat.reduceSub, IntKind.bits]
  refine ru_loop (fun i => l.length - i) (IR06 o l h) 0 ?_ ?_
  · unfold IR06
    simp (maxSteps := 10000000) (maxDischargeDepth := 30) only [Int.natCast_zero, go_sem, Nat.reduceEqDiff, ↓reduceIte, Nat.reduceAdd, Nat.reduceMul, Nat.reduceLeDiff, Nat.reduceLT, reduceCtorEq, Int.reduceToNat, Int.reduceLE, Int.reduceLT, Int.reduceEq, Int.reduceNeg, Int.reduceNe, Int.reducePow, Nat.reducePow, Nat.reduceSub, IntKind.bits]
    exact ⟨none, rfl, .start (.refl _) w⟩
  · rintro i s hh ⟨e0, e4, hil, o2, e3, A⟩
    have hlen := ops_len hn hf hl i
    by_cases hlt : i < l.length
    rotate_left
    · have c1 : ¬ (i : Int) < l.length := by omega
      obtain rfl : i = l.length := by omega
      rw [List.take_length] at A e3
      simp (maxSteps := 10000000) (maxDischargeDepth := 30) only [e0, e3, e4, c1, go_sem, Nat.reduceEqDiff, ↓reduceIte, Nat.reduceAdd, Nat.reduceMul, Nat.reduceLeDiff, Nat.reduceLT, reduceCtorEq, Int.reduceToNat, Int.reduceLE, Int.reduceLT, Int.reduceEq, Int.reduceNeg, Int.reduceNe, Int.reducePow, Nat.reducePow, Nat.reduceSub, IntKind.bits]
      exact ⟨⟨o2, rfl⟩, A.keep⟩
    refine ru_step ?_
    obtain ⟨x, hx⟩ : ∃ x, l[i]? = some x := ⟨l[i], List.getElem?_eq_getElem hlt⟩
    have ia : iaS (l.map OpR.e) (i : Int) = some (.cptr x.e) := iaS_map (Int.natCast_nonneg i) (by simpa using hx)
    have c1 : (i : Int) < l.length := by omega
    have ew : IntKind.i64.wrap ((i : Int) + 1) = ((i + 1 : Nat) : Int) := by rw [wrap64 (by omega) (by omega)]; omega
    have hxn := hn x (List.mem_of_getElem? hx)
    have hxf := hf x (List.mem_of_getElem? hx)
    have hxs := hxf.1
    have hxl := hxf.2
    have hft := flat_take opB hx
    have hop := opB_len hxn hxf
    by_cases d0 : x.k = 0
    · have hb : opB x = strB x.s := by unfold opB; rw [if_pos d0]
      rw [hb] at hop
      have k2 : Keep hh (hh.nrow (strB x.s).length) := (Keep.refl hh).nrow _
      obtain ⟨o3, h3, ap, A3, _⟩ := (A.next k2).app (strB x.s) (by omega)
      simp (maxSteps := 10000000) (maxDischargeDepth := 30) only [e0, e3, e4, c1, ia, OpR.e, d0, bytesL_eq, List.length_map, ap, ew, go_sem, Nat.reduceEqDiff, ↓reduceIte, Nat.reduceAdd, Nat.reduceMul, Nat.reduceLeDiff, Nat.reduceLT, reduceCtorEq, Int.reduceToNat, Int.reduceLE, Int.reduceLT, Int.reduceEq, Int.reduceNeg, Int.reduceNe, Int.reducePow, Nat.reducePow, Nat.reduceSub, IntKind.bits]
      refine ⟨i + 1, by omega, ?_⟩
      unfold IR06
      simp (maxSteps := 10000000) (maxDischargeDepth := 30) only [e0, e4, go_sem, Nat.reduceEqDiff, ↓reduceIte, Nat.reduceAdd, Nat.reduceMul, Nat.reduceLeDiff, Nat.reduceLT, reduceCtorEq, Int.reduceToNat, Int.reduceLE, Int.reduceLT, Int.reduceEq, Int.reduceNeg, Int.reduceNe, Int.reducePow, Nat.reducePow, Nat.reduceSub, IntKind.bits]
      rw [hft, hb]
      exact ⟨by omega, o3, rfl, A3⟩
    by_cases d1 : x.k = 1
    · have hb : opB x = chn x.n := by unfold opB; rw [if_neg d0, if_pos d1]
      rw [hb] at hop
      have hk := cChain x.n hxn.1.1 hxn.1.2 hh A.wf
      rw [show chainU (foldN x.n).toNat = chn x.n from rfl] at hk
      simp (maxSteps := 10000000) (maxDischargeDepth := 30) only [e0, e3, e4, c1, ia, OpR.e, d1, go_sem, Nat.reduceEqDiff, ↓reduceIte, Nat.reduceAdd, Nat.reduceMul, Nat.reduceLeDiff, Nat.reduceLT, reduceCtorEq, Int.reduceToNat, Int.reduceLE, Int.reduceLT, Int.reduceEq, Int.reduceNeg, Int.reduceNe, Int.reducePow, Nat.reducePow, Nat.reduceSub, IntKind.bits]
      refine ro_kcall hk A.wf (fun h1 k1 w1 => ?_)
      obtain ⟨o3, h3, ap, A3, _⟩ := (A.next k1).app (chn x.n) (by omega)
      simp (maxSteps := 10000000) (maxDischargeDepth := 30) only [e0, e3, e4, ap, ew, go_sem, Nat.reduceEqDiff, ↓reduceIte, Nat.reduceAdd, Nat.reduceMul, Nat.reduceLeDiff, Nat.reduceLT, reduceCtorEq, Int.reduceToNat, Int.reduceLE, Int.reduceLT, Int.reduceEq, Int.reduceNeg, Int.reduceNe, Int.reducePow, Nat.reducePow, Nat.reduceSub, IntKind.bits]
      refine ⟨i + 1, by omega, ?_⟩
      unfold IR06
      simp (maxSteps := 10000000) (maxDischargeDepth := 30) only [e0, e4, go_sem, Nat.reduceEqDiff, ↓reduceIte, Nat.reduceAdd, Nat.reduceMul, Nat.reduceLeDiff, Nat.reduceLT, reduceCtorEq, Int.reduceToNat, Int.reduceLE, Int.reduceLT, Int.reduceEq, Int.reduceNeg, Int.reduceNe, Int.reducePow, Nat.reducePow, Nat.reduceSub, IntKind.bits]
      rw [hft, hb]
      exact ⟨by omega, o3, rfl, A3⟩
    by_cases d2 : x.k = 2
    · have hb : opB x = [if x.b = true then 1 else 0] := by unfold opB; rw [if_neg d0, if_neg d1, if_pos d2]
      have k2 : Keep hh (hh.nrow 1) := (Keep.refl hh).nrow 1
      obtain ⟨o3, h3, ap, A3, _⟩ := (A.next k2).app [if x.b = true then 1 else 0] (by simp only [List.length_cons, List.length_nil]; omega)
      simp only [List.map_cons, List.map_nil] at ap
      cases hxb : x.b
      · simp only [hxb] at ap A3 hb
        simp only [Bool.false_eq_true, ↓reduceIte] at ap A3 hb
        simp (maxSteps := 10000000) (maxDischargeDepth := 30) only [e0, e3, e4, c1, ia, OpR.e, d2, hxb, ap, ew, go_sem, Nat.reduceEqDiff, ↓reduceIte, Nat.reduceAdd, Nat.reduceMul, Nat.reduceLeDiff, Nat.reduceLT, reduceCtorEq, Int.reduceToNat, Int.reduceLE, Int.reduceLT, Int.reduceEq, Int.reduceNeg, Int.reduceNe, Int.reducePow, Nat.reducePow, Nat.reduceSub, IntKind.bits]
        refine ⟨i + 1, by omega, ?_⟩
        unfold IR06
        simp (maxSteps := 10000000) (maxDischargeDepth := 30) only [e0, e4, go_sem, Nat.reduceEqDiff, ↓reduceIte, Nat.reduceAdd, Nat.reduceMul, Nat.reduceLeDiff, Nat.reduceLT, reduceCtorEq, Int.reduceToNat, Int.reduceLE, Int.reduceLT, Int.reduceEq, Int.reduceNeg, Int.reduceNe, Int.reducePow, Nat.reducePow, Nat.reduceSub, IntKind.bits]
        rw [hft, hb]
        exact ⟨by omega, o3, rfl, A3⟩
      · simp only [hxb] at ap A3 hb
        simp only [↓reduceIte] at ap A3 hb
        simp (maxSteps := 10000000) (maxDischargeDepth := 30) only [e0, e3, e4, c1, ia, OpR.e, d2, hxb, ap, ew, go_sem, Nat.reduceEqDiff, ↓reduceIte, Nat.reduceAdd, Nat.reduceMul, Nat.reduceLeDiff, Nat.reduceLT, reduceCtorEq, Int.reduceToNat, Int.reduceLE, Int.reduceLT, Int.reduceEq, Int.reduceNeg, Int.reduceNe, Int.reducePow, Nat.reducePow, Nat.reduceSub, IntKind.bits]
        refine ⟨i + 1, by omega, ?_⟩
        unfold IR06
        simp (maxSteps := 10000000) (maxDischargeDepth := 30) only [e0, e4, go_sem, Nat.reduceEqDiff, ↓reduceIte, Nat.reduceAdd, Nat.reduceMul, Nat.reduceLeDiff, Nat.reduceLT, reduceCtorEq, Int.reduceToNat, Int.reduceLE, Int.reduceLT, Int.reduceEq, Int.reduceNeg, Int.reduceNe, Int.reducePow, Nat.reducePow, Nat.reduceSub, IntKind.bits]
        rw [hft, hb]
        exact ⟨by omega, o3, rfl, A3⟩
    by_cases d3 : x.k = 3
    · have hb : opB x = many chn x.l := by unfold opB; rw [if_neg d0, if_neg d1, if_neg d2, if_pos d3]
      rw [hb] at hop
      simp (maxSteps := 10000000) (maxDischargeDepth := 30) only [e0, e3, e4, c1, ia, OpR.e, d3, go_sem, Nat.reduceEqDiff, ↓reduceIte, Nat.reduceAdd, Nat.reduceMul, Nat.reduceLeDiff, Nat.reduceLT, reduceCtorEq, Int.reduceToNat, Int.reduceLE, Int.reduceLT, Int.reduceEq, Int.reduceNeg, Int.reduceNe, Int.reducePow, Nat.reducePow, Nat.reduceSub, IntKind.bits]
      refine ro_kcall (cRInts06 x.o x.l hh A.wf hxn.2 (by omega)) A.wf (fun h1 k1 w1 => ?_)
      obtain ⟨o3, h3, ap, A3, _⟩ := (A.next k1).app (many chn x.l) (by omega)
      simp (maxSteps := 10000000) (maxDischargeDepth := 30) only [e0, e3, e4, ap, ew, go_sem, Nat.reduceEqDiff, ↓reduceIte, Nat.reduceAdd, Nat.reduceMul, Nat.reduceLeDiff, Nat.reduceLT, reduceCtorEq, Int.reduceToNat, Int.reduceLE, Int.reduceLT, Int.reduceEq, Int.reduceNeg, Int.reduceNe, Int.reducePow, Nat.reducePow, Nat.reduceSub, IntKind.bits]
      refine ⟨i + 1, by omega, ?_⟩
      unfold IR06
      simp (maxSteps := 10000000) (maxDischargeDepth := 30) only [e0, e4, go_sem, Nat.reduceEqDiff, ↓reduceIte, Nat.reduceAdd, Nat.reduceMul, Nat.reduceLeDiff, Nat.reduceLT, reduceCtorEq, Int.reduceToNat, Int.reduceLE, Int.reduceLT, Int.reduceEq, Int.reduceNeg, Int.reduceNe, Int.reducePow, Nat.reducePow, Nat.reduceSub, IntKind.bits]
      rw [hft, hb]
      exact ⟨by omega, o3, rfl, A3⟩
    · have hb : opB x = [] := by unfold opB; rw [if_neg d0, if_neg d1, if_neg d2, if_neg d3]
      simp (maxSteps := 10000000) (maxDischargeDepth := 30) only [e0, e3, e4, c1, ia, OpR.e, d0, d1, d2, d3, ew, go_sem, Nat.reduceEqDiff, ↓reduceIte, Nat.reduceAdd, Nat.reduceMul, Nat.reduceLeDiff, Nat.reduceLT, reduceCtorEq, Int.reduceToNat, Int.reduceLE, Int.reduceLT, Int.reduceEq, Int.reduceNeg, Int.reduceNe, Int.reducePow, Nat.reducePow, Nat.reduceSub, IntKind.bits]
      refine ⟨i + 1, by omega, ?_⟩
      unfold IR06
      simp (maxSteps := 10000000) (maxDischargeDepth := 30) only [e0, e4, go_sem, Nat.reduceEqDiff, ↓reduceIte, Nat.reduceAdd, Nat.reduceMul, Nat.reduceLeDiff, Nat.reduceLT, reduceCtorEq, Int.reduceToNat, Int.reduceLE, Int.reduceLT, Int.reduceEq, Int.reduceNeg, Int.reduceNe, Int.reducePow, Nat.reducePow, Nat.reduceSub, IntKind.bits]
      rw [hft, hb, List.append_nil]
      exact ⟨by omega, o2, e3, A⟩

/-! ### is it more than is gone through? -/
def FewOs (l : List OpR) : Prop := ∀ x ∈ l, x.few
def Lrg06 (l : List OpR) (u : LV) : Prop := ∃ v, u = .bool v ∧ (v = false → l.length ≤ 60 ∧ FewOs l)
def Le60 (i : Nat) : Prop := i ≤ 60
theorem all_take' {α : Type} {R : α → Prop} {l : List α} {i : Nat} {x : α} (hx : l[i]? = some x) (h : ∀ y ∈ l.take i, R y) (h2 : R x) : ∀ y ∈ l.take (i + 1), R y := by
  intro y hy
  obtain ⟨hlt, rfl⟩ := List.getElem?_eq_some_iff.1 hx
  rw [← List.take_append_getElem hlt] at hy
  rcases List.mem_append.1 hy with hy | hy
  · exact h y hy
  · rw [List.mem_singleton.1 hy]; exact h2
def IL06 (o : Option (Nat × Nat)) (l : List OpR) (h0 : H) (i : Nat) (s : S) (h : H) : Prop :=
  s 0 = mkS o 5 (l.map OpR.e) ∧ s 3 = .int .i64 i ∧ i ≤ l.length ∧ Le60 i ∧ FewOs (l.take i) ∧ Keep h0 h
theorem cLarge06 (o : Option (Nat × Nat)) (l : List OpR) (h : H) : ∃ v, runI Try.prog TA 32 [mkS o 5 (l.map OpR.e)] h = some (.bool v, hp Try.prog TA 32 [mkS o 5 (l.map OpR.e)] h) ∧ (v = false → l.length ≤ 60 ∧ FewOs l) := by
  have key : ∃ u h', runI Try.prog TA 32 [mkS o 5 (l.map OpR.e)] h = some (u, h') ∧ Lrg06 l u ∧ Keep h h' := by
    refine calls_of rfl res32 rfl ?_
    simp (maxSteps := 10000000) (maxDischargeDepth := 30) only [q32, r32, go_sem, Nat.reduceEqDiff, ↓reduceIte, Nat.reduceAdd, Nat.reduceMul, Nat.reduceLeDiff, Nat.reduceLT, reduceCtorEq, Int.reduceToNat, Int.reduceLE, Int.reduceLT, Int.reduceEq, Int.reduceNeg, Int.reduceNe, Int.reducePow, Nat.reducePow, Nat.reduceSub, IntKind.bits]
    refine ru_loop (fun i => l.length - i) (IL06 o l h) 0 ?_ ?_
    · unfold IL06
      simp (maxSteps := 10000000) (maxDischargeDepth := 30) only [Int.natCast_zero, List.take_zero, go_sem, Nat.reduceEqDiff, ↓reduceIte, Nat.reduceAdd, Nat.reduceMul, Nat.reduceLeDiff, Nat.reduceLT, reduceCtorEq, Int.reduceToNat, Int.reduceLE, Int.reduceLT, Int.reduceEq, Int.reduceNeg, Int.reduceNe, Int.reducePow, Nat.reducePow, Nat.reduceSub, IntKind.bits]
      exact ⟨Nat.zero_le _, fun p hp => by cases hp⟩
    · rintro i s h1 ⟨e0, e3, hi, hi6, hf, k1⟩
      unfold Le60 at hi6
      have hex : Lrg06 l (.bool (decide ((60 : Int) < l.length))) ∨ (i < l.length ∧ i < 60) := by
        by_cases c : i < l.length ∧ i < 60
        · exact .inr c
        · refine .inl ⟨_, rfl, fun hv => ?_⟩
          have hv := of_decide_eq_false hv
          obtain rfl : i = l.length := by omega
          rw [List.take_length] at hf
          exact ⟨by omega, hf⟩
      by_cases c1 : (i : Int) < l.length
      rotate_left
      · have hx := hex.resolve_right (by omega)
        simp (maxSteps := 10000000) (maxDischargeDepth := 30) only [e0, e3, c1, hx, k1, go_sem, Nat.reduceEqDiff, ↓reduceIte, Nat.reduceAdd, Nat.reduceMul, Nat.reduceLeDiff, Nat.reduceLT, reduceCtorEq, Int.reduceToNat, Int.reduceLE, Int.reduceLT, Int.reduceEq, Int.reduceNeg, Int.reduceNe, Int.reducePow, Nat.reducePow, Nat.reduceSub, IntKind.bits]
      by_cases c2 : (i : Int) < 60
      rotate_left
      · have hx := hex.resolve_right (by omega)
        simp (maxSteps := 10000000) (maxDischargeDepth := 30) only [e0, e3, c1, c2, hx, k1, go_sem, Nat.reduceEqDiff, ↓reduceIte, Nat.reduceAdd, Nat.reduceMul, Nat.reduceLeDiff, Nat.reduceLT, reduceCtorEq, Int.reduceToNat, Int.reduceLE, Int.reduceLT, Int.reduceEq, Int.reduceNeg, Int.reduceNe, Int.reducePow, Nat.reducePow, Nat.reduceSub, IntKind.bits]
      clear hex
      have hlt : i < l.length := by omega
      obtain ⟨x, hx⟩ : ∃ n, l[i]? = some n := ⟨l[i], List.getElem?_eq_getElem hlt⟩
      have ia : iaS (l.map OpR.e) (i : Int) = some (.cptr x.e) := iaS_map (Int.natCast_nonneg i) (by simpa using hx)
      have ew : IntKind.i64.wrap ((i : Int) + 1) = ((i + 1 : Nat) : Int) := by rw [wrap64 (by omega) (by omega)]; omega
      have hT : Lrg06 l (.bool true) := ⟨true, rfl, fun h => by cases h⟩
      by_cases c3 : (100 : Int) < x.s.size
      · simp (maxSteps := 10000000) (maxDischargeDepth := 30) only [e0, e3, c1, c2, ia, OpR.e, c3, hT, k1, go_sem, Nat.reduceEqDiff, ↓reduceIte, Nat.reduceAdd, Nat.reduceMul, Nat.reduceLeDiff, Nat.reduceLT, reduceCtorEq, Int.reduceToNat, Int.reduceLE, Int.reduceLT, Int.reduceEq, Int.reduceNeg, Int.reduceNe, Int.reducePow, Nat.reducePow, Nat.reduceSub, IntKind.bits]
      by_cases c4 : (100 : Int) < x.l.length
      · simp (maxSteps := 10000000) (maxDischargeDepth := 30) only [e0, e3, c1, c2, ia, OpR.e, c3, c4, hT, k1, go_sem, Nat.reduceEqDiff, ↓reduceIte, Nat.reduceAdd, Nat.reduceMul, Nat.reduceLeDiff, Nat.reduceLT, reduceCtorEq, Int.reduceToNat, Int.reduceLE, Int.reduceLT, Int.reduceEq, Int.reduceNeg, Int.reduceNe, Int.reducePow, Nat.reducePow, Nat.reduceSub, IntKind.bits]
      simp (maxSteps := 10000000) (maxDischargeDepth := 30) only [e0, e3, c1, c2, ia, OpR.e, c3, c4, ew, go_sem, Nat.reduceEqDiff, ↓reduceIte, Nat.reduceAdd, Nat.reduceMul, Nat.reduceLeDiff, Nat.reduceLT, reduceCtorEq, Int.reduceToNat, Int.reduceLE, Int.reduceLT, Int.reduceEq, Int.reduceNeg, Int.reduceNe, Int.reducePow, Nat.reducePow, Nat.reduceSub, IntKind.bits]
      refine ⟨i + 1, by omega, ?_⟩
      unfold IL06
      simp (maxSteps := 10000000) (maxDischargeDepth := 30) only [e0, e3, k1, go_sem, Nat.reduceEqDiff, ↓reduceIte, Nat.reduceAdd, Nat.reduceMul, Nat.reduceLeDiff, Nat.reduceLT, reduceCtorEq, Int.reduceToNat, Int.reduceLE, Int.reduceLT, Int.reduceEq, Int.reduceNeg, Int.reduceNe, Int.reducePow, Nat.reducePow, Nat.reduceSub, IntKind.bits]
      have hxf : x.few := ⟨by omega, by omega⟩
      refine ⟨by omega, show i + 1 ≤ 60 by omega, ?_⟩
      unfold FewOs at hf ⊢
      exact all_take' (R := OpR.few) hx hf hxf
  obtain ⟨u, h', h1, ⟨v, rfl, hv⟩, k⟩ := key
  exact ⟨v, hp_eq h1 k, hv⟩
theorem awAwake06 (h : H) : runI Try.prog TA 33 [] h = some (.bool true, h) := runI_known rfl
theorem lCodecWrites (o : Option (Nat × Nat)) (l : List OpR) (hn : ∀ x ∈ l, x.num) : ∃ h', runI Try.prog TA 7 [mkS o 5 (l.map OpR.e)] H0 = some (.bool true, h') := by
  refine true_of rfl res7 rfl ?_
  obtain ⟨v, e1, hv⟩ := cLarge06 o l H0
  cases v
  · obtain ⟨la, hf⟩ := hv rfl
    simp (maxSteps := 10000000) (maxDischargeDepth := 30) only [q7, r7, e1, go_sem, Nat.reduceEqDiff, ↓reduceIte, Nat.reduceAdd, Nat.reduceMul, Nat.reduceLeDiff, Nat.reduceLT, reduceCtorEq, Int.reduceToNat, Int.reduceLE, Int.reduceLT, Int.reduceEq, Int.reduceNeg, Int.reduceNe, Int.reducePow, Nat.reducePow, Nat.reduceSub, IntKind.bits]
    have w1 : WF (hp Try.prog TA 32 [mkS o 5 (l.map OpR.e)] H0) := wf0.keep ((Keep.refl _).hp _ _)
    generalize hp Try.prog TA 32 [mkS o 5 (l.map OpR.e)] H0 = g1 at *
    refine ro_kcall (cLWrite06 o l g1 w1 la hn hf) w1 (fun h2 k2 w2 => ?_)
    simp (maxSteps := 10000000) (maxDischargeDepth := 30) only [go_sem, Nat.reduceEqDiff, ↓reduceIte, Nat.reduceAdd, Nat.reduceMul, Nat.reduceLeDiff, Nat.reduceLT, reduceCtorEq, Int.reduceToNat, Int.reduceLE, Int.reduceLT, Int.reduceEq, Int.reduceNeg, Int.reduceNe, Int.reducePow, Nat.reducePow, Nat.reduceSub, IntKind.bits]
    refine ro_kcall (cRWrite06 o l h2 w2 la hn hf) w2 (fun h3 k3 w3 => ?_)
    simp (maxSteps := 10000000) (maxDischargeDepth := 30) only [go_sem, Nat.reduceEqDiff, ↓reduceIte, Nat.reduceAdd, Nat.reduceMul, Nat.reduceLeDiff, Nat.reduceLT, reduceCtorEq, Int.reduceToNat, Int.reduceLE, Int.reduceLT, Int.reduceEq, Int.reduceNeg, Int.reduceNe, Int.reducePow, Nat.reducePow, Nat.reduceSub, IntKind.bits]
    have hle := ops_len' hn hf la
    refine ro_kcall (cSameG _ _ (l.flatMap opB) (l.flatMap opB) (by omega) h3 w3) w3 (fun h4 k4 w4 => ?_)
    simp (maxSteps := 10000000) (maxDischargeDepth := 30) only [awAwake06, go_sem, Nat.reduceEqDiff, ↓reduceIte, Nat.reduceAdd, Nat.reduceMul, Nat.reduceLeDiff, Nat.reduceLT, reduceCtorEq, Int.reduceToNat, Int.reduceLE, Int.reduceLT, Int.reduceEq, Int.reduceNeg, Int.reduceNe, Int.reducePow, Nat.reducePow, Nat.reduceSub, IntKind.bits]
  · simp (maxSteps := 10000000) (maxDischargeDepth := 30) only [q7, r7, e1, awAwake06, go_sem, Nat.reduceEqDiff, ↓reduceIte, Nat.reduceAdd, Nat.reduceMul, Nat.reduceLeDiff, Nat.reduceLT, reduceCtorEq, Int.reduceToNat, Int.reduceLE, Int.reduceLT, Int.reduceEq, Int.reduceNeg, Int.reduceNe, Int.reducePow, Nat.reducePow, Nat.reduceSub, IntKind.bits]
end Go.LM
