import Derived.Test.YtpmpdidgbbgeeaaLmTrbR1
import Derived.Test.YtpmpdidgbbgeeaaLmTrbR2
import Derived.Test.YtpmpdidgbbgeeaaLmbPress2
import Derived.Test.YtpmpdidgbbgeeaaLmB8
namespace Go.LM
open Go.Proofs
set_option maxRecDepth 8000
set_option maxHeartbeats 2000000
set_option linter.unusedSimpArgs false

theorem cChainO (n : Int) (h1 : -9223372036854775808 ≤ n) (h2 : n < 9223372036854775808) (h : H) (w : WF h) :
    ∃ v h', runI Try.prog TA 82 [.int .i64 n] h = some (v, h') ∧ ∃ o, v = byts o (chn n) ∧ Acc h o (chn n) h' := by
  refine calls_of rfl res82 rfl ?_
  have e29 := cRFold n h1 h2
  have hf := fold_range h1 h2
  simp (maxSteps := 10000000) (maxDischargeDepth := 30) only [q82, r82, e29, w, go_sem, Nat.reduceEqDiff, ↓reduceIte, Nat.reduceAdd, Nat.reduceMul, Nat.reduceLeDiff, Nat.reduceLT, reduceCtorEq, Int.reduceToNat, Int.reduceLE, Int.reduceLT, Int.reduceEq, Int.reduceNeg, Int.reduceNe, Int.reducePow, Nat.reducePow, Nat.reduceSub, IntKind.bits]
  refine ru_loop (fun u => u) (IChain (foldN n).toNat h) (foldN n).toNat ?_ ?_
  · unfold IChain
    have e0 : ((foldN n).toNat : Int) = foldN n := Int.toNat_of_nonneg hf.1
    simp (maxSteps := 10000000) (maxDischargeDepth := 30) only [e0, w, go_sem, Nat.reduceEqDiff, ↓reduceIte, Nat.reduceAdd, Nat.reduceMul, Nat.reduceLeDiff, Nat.reduceLT, reduceCtorEq, Int.reduceToNat, Int.reduceLE, Int.reduceLT, Int.reduceEq, Int.reduceNeg, Int.reduceNe, Int.reducePow, Nat.reducePow, Nat.reduceSub, IntKind.bits]
    exact ⟨none, [], rfl, ⟨rfl, by omega⟩, rfl, trivial⟩
  · rintro u s hh ⟨e6, k1, w1, o2, pre, e5, hp1, t1, n1⟩
    have hpl := put_len (l := []) (u0 := (foldN n).toNat) (by omega) hp1
    simp only [List.length_nil] at hpl
    have hu := hp1.2
    have k2 : Keep hh (hh.nrow 1) := (Keep.refl hh).nrow 1
    have w2 : WF (hh.nrow 1) := wf_nrow w1
    have t2 := okTok_keep k2 t1
    by_cases hge : u < 128
    · have c1 : ¬ (127 : Int) < u := by omega
      have e8 : IntKind.u8.wrap (u : Int) = (u : Int) := by rw [wrapU8]; omega
      have ap := append_mk (sz := 1) (by_ := 1) (ys := [LV.int .u8 (u : Int)]) (xs := pre.map (LV.int .u8)) (o := o2) (h := hh.nrow 1) (by simpa using t2) (by simp; omega)
      simp (maxSteps := 10000000) (maxDischargeDepth := 30) only [e5, e6, c1, e8, ap, go_sem, Nat.reduceEqDiff, ↓reduceIte, Nat.reduceAdd, Nat.reduceMul, Nat.reduceLeDiff, Nat.reduceLT, reduceCtorEq, Int.reduceToNat, Int.reduceLE, Int.reduceLT, Int.reduceEq, Int.reduceNeg, Int.reduceNe, Int.reducePow, Nat.reducePow, Nat.reduceSub, IntKind.bits]
      have hfin : chainU (foldN n).toNat = pre ++ [(u : Int)] := by have := hp1.1; rw [chainU_lt hge] at this; simpa using this
      have t3 := okTok_ap (m := 1) w2 t2
      have hfin' : chn n = pre ++ [(u : Int)] := hfin
      rw [hfin']
      refine ⟨apO o2 1 (hh.nrow 1), by simp only [List.map_append, List.map_cons, List.map_nil, byts], by simpa using t3, newTok_ap (k1.nrow 1) n1, keep_ap (k1.nrow 1) n1, wf_ap w2⟩
    · have c1 : (127 : Int) < u := by omega
      have e7 : (u : Int).tmod 128 = (u : Int) % 128 := Int.tmod_eq_emod_of_nonneg (by omega)
      have e7' : IntKind.u64.wrap ((u : Int) % 128 + 128) = ((u % 128 + 128 : Nat) : Int) := by rw [wrapU64 (by omega) (by omega)]; omega
      have e8 : IntKind.u8.wrap (((u % 128 + 128 : Nat)) : Int) = ((u % 128 + 128 : Nat) : Int) := by rw [wrapU8]; omega
      have e9 : (u : Int).tdiv 128 = ((u / 128 : Nat) : Int) := by rw [Int.tdiv_eq_ediv_of_nonneg (by omega)]; omega
      have e10 : IntKind.u64.wrap ((u / 128 : Nat) : Int) = ((u / 128 : Nat) : Int) := wrapU64 (by omega) (by omega)
      have ap := append_mk (sz := 1) (by_ := 1) (ys := [LV.int .u8 ((u % 128 + 128 : Nat) : Int)]) (xs := pre.map (LV.int .u8)) (o := o2) (h := hh.nrow 1) (by simpa using t2) (by simp; omega)
      simp (maxSteps := 10000000) (maxDischargeDepth := 30) only [e5, e6, c1, e7, e7', e8, e9, e10, ap, go_sem, Nat.reduceEqDiff, ↓reduceIte, Nat.reduceAdd, Nat.reduceMul, Nat.reduceLeDiff, Nat.reduceLT, reduceCtorEq, Int.reduceToNat, Int.reduceLE, Int.reduceLT, Int.reduceEq, Int.reduceNeg, Int.reduceNe, Int.reducePow, Nat.reducePow, Nat.reduceSub, IntKind.bits]
      have t3 := okTok_ap (m := 1) w2 t2
      refine ⟨u / 128, by omega, ?_⟩
      unfold IChain
      simp (maxSteps := 10000000) (maxDischargeDepth := 30) only [e5, e6, go_sem, Nat.reduceEqDiff, ↓reduceIte, Nat.reduceAdd, Nat.reduceMul, Nat.reduceLeDiff, Nat.reduceLT, reduceCtorEq, Int.reduceToNat, Int.reduceLE, Int.reduceLT, Int.reduceEq, Int.reduceNeg, Int.reduceNe, Int.reducePow, Nat.reducePow, Nat.reduceSub, IntKind.bits]
      refine ⟨keep_ap (k1.nrow 1) n1, wf_ap w2, apO o2 1 _, pre ++ [((u % 128 + 128 : Nat) : Int)], by simp only [byts, List.map_append, List.map_cons, List.map_nil], ⟨?_, by omega⟩, by simpa using t3, newTok_ap (k1.nrow 1) n1⟩
      rw [hp1.1, chainU_ge hge]; simp


def IWInts (o : Option (Nat × Nat)) (l : List Int) (h0 : H) (b : Nat) (bs : List Int) (h : H) (i : Nat) (s : S) (hh : H) : Prop :=
  s 4 = .fn 55 [.ptr b 0] [] ∧ s 13 = ints o l ∧ s 14 = .int .i64 l.length ∧ s 15 = .int .i64 i ∧ i ≤ l.length ∧ Wr h0 b (bs ++ chn l.length ++ (l.take i).flatMap chn) hh ∧ Oth b h hh
theorem cWInts (h0 : H) (b : Nat) (bs : List Int) (o : Option (Nat × Nat)) (l : List Int) (h : H) (W : Wr h0 b bs h) (hi : ∀ n ∈ l, I64 n) (hl : l.length ≤ 1000000) (hb : bs.length ≤ 10000000000) :
    ∃ h', runI Try.prog TA 57 [.ptr b 0, ints o l] h = some (.tup [], h') ∧ Wr h0 b (bs ++ many chn l) h' ∧ Oth b h h' := by
  refine calls_ex rfl res57 rfl ?_
  have hl64 : I64 l.length := ⟨by omega, by omega⟩
  simp (maxSteps := 10000000) (maxDischargeDepth := 30) only [q57, r57, go_sem, Nat.reduceEqDiff, ↓reduceIte, Nat.reduceAdd, Nat.reduceMul, Nat.reduceLeDiff, Nat.reduceLT, reduceCtorEq, Int.reduceToNat, Int.reduceLE, Int.reduceLT, Int.reduceEq, Int.reduceNeg, Int.reduceNe, Int.reducePow, Nat.reducePow, Nat.reduceSub, IntKind.bits]
  refine ro_wcall (cWInt h0 b bs l.length h W hl64 (by omega)) (fun h1 J1 => ?_)
  simp (maxSteps := 10000000) (maxDischargeDepth := 30) only [go_sem, Nat.reduceEqDiff, ↓reduceIte, Nat.reduceAdd, Nat.reduceMul, Nat.reduceLeDiff, Nat.reduceLT, reduceCtorEq, Int.reduceToNat, Int.reduceLE, Int.reduceLT, Int.reduceEq, Int.reduceNeg, Int.reduceNe, Int.reducePow, Nat.reducePow, Nat.reduceSub, IntKind.bits]
  refine ru_loop (fun i => l.length - i) (IWInts o l h0 b bs h) 0 ?_ ?_
  · unfold IWInts
    simp (maxSteps := 10000000) (maxDischargeDepth := 30) only [Int.natCast_zero, go_sem, Nat.reduceEqDiff, ↓reduceIte, Nat.reduceAdd, Nat.reduceMul, Nat.reduceLeDiff, Nat.reduceLT, reduceCtorEq, Int.reduceToNat, Int.reduceLE, Int.reduceLT, Int.reduceEq, Int.reduceNeg, Int.reduceNe, Int.reducePow, Nat.reducePow, Nat.reduceSub, IntKind.bits]
    exact ⟨by simpa using J1.1, J1.2⟩
  · rintro i s hh ⟨e4, e13, e14, e15, hil, W1, O1⟩
    by_cases hlt : i < l.length
    · obtain ⟨x, hx⟩ : ∃ x, l[i]? = some x := ⟨l[i], List.getElem?_eq_getElem hlt⟩
      have ia := int_at hx
      have c1 : (i : Int) < l.length := by omega
      have ew : IntKind.i64.wrap ((i : Int) + 1) = ((i + 1 : Nat) : Int) := by rw [wrap64 (by omega) (by omega)]; omega
      have hx64 := hi x (List.mem_of_getElem? hx)
      have ht : (l.take i).length ≤ 1000000 := by rw [List.length_take]; omega
      have hcl := chns_len (l := l.take i) (fun n hn => hi n (List.mem_of_mem_take hn))
      have hct := chn_len hl64
      unfold chns at hcl
      simp (maxSteps := 10000000) (maxDischargeDepth := 30) only [e4, e13, e14, e15, c1, ia, W1.lob, go_sem, Nat.reduceEqDiff, ↓reduceIte, Nat.reduceAdd, Nat.reduceMul, Nat.reduceLeDiff, Nat.reduceLT, reduceCtorEq, Int.reduceToNat, Int.reduceLE, Int.reduceLT, Int.reduceEq, Int.reduceNeg, Int.reduceNe, Int.reducePow, Nat.reducePow, Nat.reduceSub, IntKind.bits]
      refine ro_wcall (cWInt h0 b (bs ++ chn l.length ++ (l.take i).flatMap chn) x hh W1 hx64 (by rw [List.length_append, List.length_append]; omega)) (fun h2 J => ?_)
      simp (maxSteps := 10000000) (maxDischargeDepth := 30) only [e4, e13, e14, e15, ew, go_sem, Nat.reduceEqDiff, ↓reduceIte, Nat.reduceAdd, Nat.reduceMul, Nat.reduceLeDiff, Nat.reduceLT, reduceCtorEq, Int.reduceToNat, Int.reduceLE, Int.reduceLT, Int.reduceEq, Int.reduceNeg, Int.reduceNe, Int.reducePow, Nat.reducePow, Nat.reduceSub, IntKind.bits]
      refine ⟨i + 1, by omega, ?_⟩
      unfold IWInts
      simp (maxSteps := 10000000) (maxDischargeDepth := 30) only [e4, e13, e14, e15, go_sem, Nat.reduceEqDiff, ↓reduceIte, Nat.reduceAdd, Nat.reduceMul, Nat.reduceLeDiff, Nat.reduceLT, reduceCtorEq, Int.reduceToNat, Int.reduceLE, Int.reduceLT, Int.reduceEq, Int.reduceNeg, Int.reduceNe, Int.reducePow, Nat.reducePow, Nat.reduceSub, IntKind.bits]
      refine ⟨by omega, ?_, O1.trans J.2⟩
      rw [flat_take chn hx, ← List.append_assoc]
      exact J.1
    · have c1 : ¬ (i : Int) < l.length := by omega
      obtain rfl : i = l.length := by omega
      rw [List.take_length] at W1
      simp (maxSteps := 10000000) (maxDischargeDepth := 30) only [e4, e13, e14, e15, c1, go_sem, Nat.reduceEqDiff, ↓reduceIte, Nat.reduceAdd, Nat.reduceMul, Nat.reduceLeDiff, Nat.reduceLT, reduceCtorEq, Int.reduceToNat, Int.reduceLE, Int.reduceLT, Int.reduceEq, Int.reduceNeg, Int.reduceNe, Int.reducePow, Nat.reducePow, Nat.reduceSub, IntKind.bits]
      refine ⟨?_, O1⟩
      unfold many
      rw [← List.append_assoc]
      exact W1
def IRInts (o : Option (Nat × Nat)) (l : List Int) (h0 : H) (i : Nat) (s : S) (hh : H) : Prop :=
  s 0 = ints o l ∧ s 4 = .int .i64 i ∧ i ≤ l.length ∧ ∃ o2, s 3 = byts o2 (chn l.length ++ (l.take i).flatMap chn) ∧ Acc h0 o2 (chn l.length ++ (l.take i).flatMap chn) hh
theorem cRInts06 (o : Option (Nat × Nat)) (l : List Int) (h : H) (w : WF h) (hi : ∀ n ∈ l, I64 n) (hl : l.length ≤ 1000) :
    runI Try.prog TA 83 [ints o l] h = some (byts (tk Try.prog TA 83 [ints o l] h) (many chn l), hp Try.prog TA 83 [ints o l] h) := by
  refine pureS_of rfl res83 rfl ?_
  have hl64 : I64 l.length := ⟨by omega, by omega⟩
  simp (maxSteps := 10000000) (maxDischargeDepth := 30) only [q83, r83, go_sem, Nat.reduceEqDiff, ↓reduceIte, Nat.reduceAdd, Nat.reduceMul, Nat.reduceLeDiff, Nat.reduceLT, reduceCtorEq, Int.reduceToNat, Int.reduceLE, Int.reduceLT, Int.reduceEq, Int.reduceNeg, Int.reduceNe, Int.reducePow, Nat.reducePow, Nat.reduceSub, IntKind.bits]
  refine ro_vcall (cChainO l.length hl64.1 hl64.2 h w) (fun v h1 J => ?_)
  obtain ⟨o1, rfl, A1⟩ := J
  simp (maxSteps := 10000000) (maxDischargeDepth := 30) only [go_sem, Nat.reduceEqDiff, ↓reduceIte, Nat.reduceAdd, Nat.reduceMul, Nat.reduceLeDiff, Nat.reduceLT, reduceCtorEq, Int.reduceToNat, Int.reduceLE, Int.reduceLT, Int.reduceEq, Int.reduceNeg, Int.reduceNe, Int.reducePow, Nat.reducePow, Nat.reduceSub, IntKind.bits]
  refine ru_loop (fun i => l.length - i) (IRInts o l h) 0 ?_ ?_
  · unfold IRInts
    simp (maxSteps := 10000000) (maxDischargeDepth := 30) only [Int.natCast_zero, go_sem, Nat.reduceEqDiff, ↓reduceIte, Nat.reduceAdd, Nat.reduceMul, Nat.reduceLeDiff, Nat.reduceLT, reduceCtorEq, Int.reduceToNat, Int.reduceLE, Int.reduceLT, Int.reduceEq, Int.reduceNeg, Int.reduceNe, Int.reducePow, Nat.reducePow, Nat.reduceSub, IntKind.bits]
    exact ⟨o1, by simp [byts], by simpa using A1⟩
  · rintro i s hh ⟨e0, e4, hil, o2, e3, A⟩
    by_cases hlt : i < l.length
    · refine ru_step ?_
      obtain ⟨x, hx⟩ : ∃ x, l[i]? = some x := ⟨l[i], List.getElem?_eq_getElem hlt⟩
      have ia := int_at hx
      have c1 : (i : Int) < l.length := by omega
      have ew : IntKind.i64.wrap ((i : Int) + 1) = ((i + 1 : Nat) : Int) := by rw [wrap64 (by omega) (by omega)]; omega
      have hx64 := hi x (List.mem_of_getElem? hx)
      have ht : (l.take i).length ≤ 1000 := by rw [List.length_take]; omega
      have hcl := chns_len (l := l.take i) (fun n hn => hi n (List.mem_of_mem_take hn))
      have hct := chn_len hl64
      have hcx := chn_len hx64
      unfold chns at hcl
      have hk := cChain x hx64.1 hx64.2 hh A.wf
      rw [show chainU (foldN x).toNat = chn x from rfl] at hk
      simp (maxSteps := 10000000) (maxDischargeDepth := 30) only [e0, e3, e4, c1, ia, go_sem, Nat.reduceEqDiff, ↓reduceIte, Nat.reduceAdd, Nat.reduceMul, Nat.reduceLeDiff, Nat.reduceLT, reduceCtorEq, Int.reduceToNat, Int.reduceLE, Int.reduceLT, Int.reduceEq, Int.reduceNeg, Int.reduceNe, Int.reducePow, Nat.reducePow, Nat.reduceSub, IntKind.bits]
      refine ro_kcall hk A.wf (fun h1 k1 w1 => ?_)
      obtain ⟨o3, h3, ap, A3, _⟩ := (A.next k1).app (chn x) (by rw [List.length_append]; omega)
      simp (maxSteps := 10000000) (maxDischargeDepth := 30) only [e0, e3, e4, ap, ew, go_sem, Nat.reduceEqDiff, ↓reduceIte, Nat.reduceAdd, Nat.reduceMul, Nat.reduceLeDiff, Nat.reduceLT, reduceCtorEq, Int.reduceToNat, Int.reduceLE, Int.reduceLT, Int.reduceEq, Int.reduceNeg, Int.reduceNe, Int.reducePow, Nat.reducePow, Nat.reduceSub, IntKind.bits]
      refine ⟨i + 1, by omega, ?_⟩
      unfold IRInts
      simp (maxSteps := 10000000) (maxDischargeDepth := 30) only [e0, e4, go_sem, Nat.reduceEqDiff, ↓reduceIte, Nat.reduceAdd, Nat.reduceMul, Nat.reduceLeDiff, Nat.reduceLT, reduceCtorEq, Int.reduceToNat, Int.reduceLE, Int.reduceLT, Int.reduceEq, Int.reduceNeg, Int.reduceNe, Int.reducePow, Nat.reducePow, Nat.reduceSub, IntKind.bits]
      rw [flat_take chn hx, ← List.append_assoc]
      exact ⟨by omega, o3, rfl, A3⟩
    · have c1 : ¬ (i : Int) < l.length := by omega
      obtain rfl : i = l.length := by omega
      rw [List.take_length] at e3 A
      simp (maxSteps := 10000000) (maxDischargeDepth := 30) only [e0, e3, e4, c1, go_sem, Nat.reduceEqDiff, ↓reduceIte, Nat.reduceAdd, Nat.reduceMul, Nat.reduceLeDiff, Nat.reduceLT, reduceCtorEq, Int.reduceToNat, Int.reduceLE, Int.reduceLT, Int.reduceEq, Int.reduceNeg, Int.reduceNe, Int.reducePow, Nat.reducePow, Nat.reduceSub, IntKind.bits]
      exact ⟨⟨o2, rfl⟩, A.keep⟩

def IW06 (o : Option (Nat × Nat)) (l : List OpR) (h0 : H) (b : Nat) (i : Nat) (s : S) (hh : H) : Prop :=
  s 0 = mkS o 5 (l.map OpR.e) ∧ s 3 = .ptr b 0 ∧ s 4 = .int .i64 i ∧ i ≤ l.length ∧ Wr h0 b ((l.take i).flatMap opB) hh
theorem cLWrite06 (o : Option (Nat × Nat)) (l : List OpR) (h : H) (w : WF h) (hl : l.length ≤ 60) (hn : ∀ x ∈ l, x.num) (hf : ∀ x ∈ l, x.few) :
    runI Try.prog TA 34 [mkS o 5 (l.map OpR.e)] h = some (byts (tk Try.prog TA 34 [mkS o 5 (l.map OpR.e)] h) (l.flatMap opB), hp Try.prog TA 34 [mkS o 5 (l.map OpR.e)] h) := by
  refine pureS_of rfl res34 rfl ?_
  have W0 := Wr.start w (Keep.refl h)
  have hlo := w.1
  simp (maxSteps := 10000000) (maxDischargeDepth := 30) only [q34, r34, hlo, go_sem, Nat.reduceEqDiff, ↓reduceIte, Nat.reduceAdd, Nat.reduceMul, Nat.reduceLeDiff, Nat.reduceLT, reduceCtorEq, Int.reduceToNat, Int.reduceLE, Int.reduceLT, Int.reduceEq, Int.reduceNeg, Int.reduceNe, Int.reducePow, Nat.reducePow, Nat.reduceSub, IntKind.bits]
  refine ru_loop (fun i => l.length - i) (IW06 o l h h.len) 0 ?_ ?_
  · unfold IW06
    simp (maxSteps := 10000000) (maxDischargeDepth := 30) only [Int.natCast_zero, go_sem, Nat.reduceEqDiff, ↓reduceIte, Nat.reduceAdd, Nat.reduceMul, Nat.reduceLeDiff, Nat.reduceLT, reduceCtorEq, Int.reduceToNat, Int.reduceLE, Int.reduceLT, Int.reduceEq, Int.reduceNeg, Int.reduceNe, Int.reducePow, Nat.reducePow, Nat.reduceSub, IntKind.bits]
    simpa using W0
  · rintro i s hh ⟨e0, e3, e4, hil, W⟩
    have hlen := ops_len hn hf hl i
    by_cases hlt : i < l.length
    rotate_left
    · have c1 : ¬ (i : Int) < l.length := by omega
      obtain rfl : i = l.length := by omega
      rw [List.take_length] at W hlen
      simp (maxSteps := 10000000) (maxDischargeDepth := 30) only [e0, e3, e4, c1, go_sem, Nat.reduceEqDiff, ↓reduceIte, Nat.reduceAdd, Nat.reduceMul, Nat.reduceLeDiff, Nat.reduceLT, reduceCtorEq, Int.reduceToNat, Int.reduceLE, Int.reduceLT, Int.reduceEq, Int.reduceNeg, Int.reduceNe, Int.reducePow, Nat.reducePow, Nat.reduceSub, IntKind.bits]
      refine ro_kcall (cWBytes h h.len _ hh W (by omega)) W.wf (fun h4 k4 w4 => ?_)
      simp (maxSteps := 10000000) (maxDischargeDepth := 30) only [go_sem, Nat.reduceEqDiff, ↓reduceIte, Nat.reduceAdd, Nat.reduceMul, Nat.reduceLeDiff, Nat.reduceLT, reduceCtorEq, Int.reduceToNat, Int.reduceLE, Int.reduceLT, Int.reduceEq, Int.reduceNeg, Int.reduceNe, Int.reducePow, Nat.reducePow, Nat.reduceSub, IntKind.bits]
      exact ⟨⟨_, rfl⟩, W.keep.trans k4⟩
    refine ru_step ?_
    obtain ⟨x, hx⟩ : ∃ x, l[i]? = some x := ⟨l[i], List.getElem?_eq_getElem hlt⟩
    have ia : iaS (l.map OpR.e) (i : Int) = some (.cptr x.e) := iaS_map (Int.natCast_nonneg i) (by simpa using hx)
    have c1 : (i : Int) < l.length := by omega
    have ew : IntKind.i64.wrap ((i : Int) + 1) = ((i + 1 : Nat) : Int) := by rw [wrap64 (by omega) (by omega)]; omega
    have hxn := hn x (List.mem_of_getElem? hx)
    have hxf := hf x (List.mem_of_getElem? hx)
    have hxs := hxf.1
    have hxl := hxf.2
    have hft := flat_take opB hx
    by_cases d0 : x.k = 0
    · have hb : opB x = strB x.s := by unfold opB; rw [if_pos d0]
      simp (maxSteps := 10000000) (maxDischargeDepth := 30) only [e0, e3, e4, c1, ia, OpR.e, d0, go_sem, Nat.reduceEqDiff, ↓reduceIte, Nat.reduceAdd, Nat.reduceMul, Nat.reduceLeDiff, Nat.reduceLT, reduceCtorEq, Int.reduceToNat, Int.reduceLE, Int.reduceLT, Int.reduceEq, Int.reduceNeg, Int.reduceNe, Int.reducePow, Nat.reducePow, Nat.reduceSub, IntKind.bits]
      refine ro_wcall (cWMark h h.len _ x.s hh W (by rw [strB_len]; omega)) (fun h2 J => ?_)
      simp (maxSteps := 10000000) (maxDischargeDepth := 30) only [e0, e3, e4, ew, go_sem, Nat.reduceEqDiff, ↓reduceIte, Nat.reduceAdd, Nat.reduceMul, Nat.reduceLeDiff, Nat.reduceLT, reduceCtorEq, Int.reduceToNat, Int.reduceLE, Int.reduceLT, Int.reduceEq, Int.reduceNeg, Int.reduceNe, Int.reducePow, Nat.reducePow, Nat.reduceSub, IntKind.bits]
      refine ⟨i + 1, by omega, ?_⟩
      unfold IW06
      simp (maxSteps := 10000000) (maxDischargeDepth := 30) only [e0, e3, e4, go_sem, Nat.reduceEqDiff, ↓reduceIte, Nat.reduceAdd, Nat.reduceMul, Nat.reduceLeDiff, Nat.reduceLT, reduceCtorEq, Int.reduceToNat, Int.reduceLE, Int.reduceLT, Int.reduceEq, Int.reduceNeg, Int.reduceNe, Int.reducePow, Nat.reducePow, Nat.reduceSub, IntKind.bits]
      rw [hft, hb]
      exact ⟨by omega, J.1⟩
    by_cases d1 : x.k = 1
    · have hb : opB x = chn x.n := by unfold opB; rw [if_neg d0, if_pos d1]
      simp (maxSteps := 10000000) (maxDischargeDepth := 30) only [e0, e3, e4, c1, ia, OpR.e, d1, go_sem, Nat.reduceEqDiff, ↓reduceIte, Nat.reduceAdd, Nat.reduceMul, Nat.reduceLeDiff, Nat.reduceLT, reduceCtorEq, Int.reduceToNat, Int.reduceLE, Int.reduceLT, Int.reduceEq, Int.reduceNeg, Int.reduceNe, Int.reducePow, Nat.reducePow, Nat.reduceSub, IntKind.bits]
      refine ro_wcall (cWInt h h.len _ x.n hh W hxn.1 (by omega)) (fun h2 J => ?_)
      simp (maxSteps := 10000000) (maxDischargeDepth := 30) only [e0, e3, e4, ew, go_sem, Nat.reduceEqDiff, ↓reduceIte, Nat.reduceAdd, Nat.reduceMul, Nat.reduceLeDiff, Nat.reduceLT, reduceCtorEq, Int.reduceToNat, Int.reduceLE, Int.reduceLT, Int.reduceEq, Int.reduceNeg, Int.reduceNe, Int.reducePow, Nat.reducePow, Nat.reduceSub, IntKind.bits]
      refine ⟨i + 1, by omega, ?_⟩
      unfold IW06
      simp (maxSteps := 10000000) (maxDischargeDepth := 30) only [e0, e3, e4, go_sem, Nat.reduceEqDiff, ↓reduceIte, Nat.reduceAdd, Nat.reduceMul, Nat.reduceLeDiff, Nat.reduceLT, reduceCtorEq, Int.reduceToNat, Int.reduceLE, Int.reduceLT, Int.reduceEq, Int.reduceNeg, Int.reduceNe, Int.reducePow, Nat.reducePow, Nat.reduceSub, IntKind.bits]
      rw [hft, hb]
      exact ⟨by omega, J.1⟩
    by_cases d2 : x.k = 2
    · have hb : opB x = [if x.b = true then 1 else 0] := by unfold opB; rw [if_neg d0, if_neg d1, if_pos d2]
      simp (maxSteps := 10000000) (maxDischargeDepth := 30) only [e0, e3, e4, c1, ia, OpR.e, d2, go_sem, Nat.reduceEqDiff, ↓reduceIte, Nat.reduceAdd, Nat.reduceMul, Nat.reduceLeDiff, Nat.reduceLT, reduceCtorEq, Int.reduceToNat, Int.reduceLE, Int.reduceLT, Int.reduceEq, Int.reduceNeg, Int.reduceNe, Int.reducePow, Nat.reducePow, Nat.reduceSub, IntKind.bits]
      refine ro_wcall (cWBool h h.len _ x.b hh W (by omega)) (fun h2 J => ?_)
      simp (maxSteps := 10000000) (maxDischargeDepth := 30) only [e0, e3, e4, ew, go_sem, Nat.reduceEqDiff, ↓reduceIte, Nat.reduceAdd, Nat.reduceMul, Nat.reduceLeDiff, Nat.reduceLT, reduceCtorEq, Int.reduceToNat, Int.reduceLE, Int.reduceLT, Int.reduceEq, Int.reduceNeg, Int.reduceNe, Int.reducePow, Nat.reducePow, Nat.reduceSub, IntKind.bits]
      refine ⟨i + 1, by omega, ?_⟩
      unfold IW06
      simp (maxSteps := 10000000) (maxDischargeDepth := 30) only [e0, e3, e4, go_sem, Nat.reduceEqDiff, ↓reduceIte, Nat.reduceAdd, Nat.reduceMul, Nat.reduceLeDiff, Nat.reduceLT, reduceCtorEq, Int.reduceToNat, Int.reduceLE, Int.reduceLT, Int.reduceEq, Int.reduceNeg, Int.reduceNe, Int.reducePow, Nat.reducePow, Nat.reduceSub, IntKind.bits]
      rw [hft, hb]
      exact ⟨by omega, J.1⟩
    by_cases d3 : x.k = 3
    · have hb : opB x = many chn x.l := by unfold opB; rw [if_neg d0, if_neg d1, if_neg d2, if_pos d3]
      simp (maxSteps := 10000000) (maxDischargeDepth := 30) only [e0, e3, e4, c1, ia, OpR.e, d3, go_sem, Nat.reduceEqDiff, ↓reduceIte, Nat.reduceAdd, Nat.reduceMul, Nat.reduceLeDiff, Nat.reduceLT, reduceCtorEq, Int.reduceToNat, Int.reduceLE, Int.reduceLT, Int.reduceEq, Int.reduceNeg, Int.reduceNe, Int.reducePow, Nat.reducePow, Nat.reduceSub, IntKind.bits]
      refine ro_wcall (cWInts h h.len _ x.o x.l hh W hxn.2 (by omega) (by omega)) (fun h2 J => ?_)
      simp (maxSteps := 10000000) (maxDischargeDepth := 30) only [e0, e3, e4, ew, go_sem, Nat.reduceEqDiff, ↓reduceIte, Nat.reduceAdd, Nat.reduceMul, Nat.reduceLeDiff, Nat.reduceLT, reduceCtorEq, Int.reduceToNat, Int.reduceLE, Int.reduceLT, Int.reduceEq, Int.reduceNeg, Int.reduceNe, Int.reducePow, Nat.reducePow, Nat.reduceSub, IntKind.bits]
      refine ⟨i + 1, by omega, ?_⟩
      unfold IW06
      simp (maxSteps := 10000000) (maxDischargeDepth := 30) only [e0, e3, e4, go_sem, Nat.reduceEqDiff, ↓reduceIte, Nat.reduceAdd, Nat.reduceMul, Nat.reduceLeDiff, Nat.reduceLT, reduceCtorEq, Int.reduceToNat, Int.reduceLE, Int.reduceLT, Int.reduceEq, Int.reduceNeg, Int.reduceNe, Int.reducePow, Nat.reducePow, Nat.reduceSub, IntKind.bits]
      rw [hft, hb]
      exact ⟨by omega, J.1⟩
    · have hb : opB x = [] := by unfold opB; rw [if_neg d0, if_neg d1, if_neg d2, if_neg d3]
      simp (maxSteps := 10000000) (maxDischargeDepth := 30) only [e0, e3, e4, c1, ia, OpR.e, d0, d1, d2, d3, ew, go_sem, Nat.reduceEqDiff, ↓reduceIte, Nat.reduceAdd, Nat.reduceMul, Nat.reduceLeDiff, Nat.reduceLT, reduceCtorEq, Int.reduceToNat, Int.reduceLE, Int.reduceLT, Int.reduceEq, Int.reduceNeg, Int.reduceNe, Int.reducePow, Nat.reducePow, Nat.reduceSub, IntKind.bits]
      refine ⟨i + 1, by omega, ?_⟩
      unfold IW06
      simp (maxSteps := 10000000) (maxDischargeDepth := 30) only [e0, e3, e4, go_sem, Nat.reduceEqDiff, ↓reduceIte, Nat.reduceAdd, Nat.reduceMul, Nat.reduceLeDiff, Nat.reduceLT, reduceCtorEq, Int.reduceToNat, Int.reduceLE, Int.reduceLT, Int.reduceEq, Int.reduceNeg, Int.reduceNe, Int.reducePow, Nat.reducePow, Nat.reduceSub, IntKind.bits]
      rw [hft, hb, List.append_nil]
      exact ⟨by omega, W⟩
end Go.LM
