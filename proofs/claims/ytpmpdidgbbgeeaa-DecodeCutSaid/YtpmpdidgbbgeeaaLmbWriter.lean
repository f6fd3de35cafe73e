import Derived.Test.YtpmpdidgbbgeeaaLmTrbR2
import Derived.Test.YtpmpdidgbbgeeaaLmTrbR3
import Derived.Test.YtpmpdidgbbgeeaaLmbChain
import Derived.Test.YtpmpdidgbbgeeaaLmB10
namespace Go.LM
open Go.Proofs
set_option maxRecDepth 4000
set_option maxHeartbeats 2000000
set_option linter.unusedSimpArgs false

theorem cWPut (h0 : H) (b : Nat) (bs ys : List Int) (o : Option (Nat × Nat)) (h : H) (W : Wr h0 b bs h) (hl : bs.length + ys.length ≤ 100000000000000) :
    ∃ h', runI Try.prog TA 97 [.ptr b 0, byts o ys] h = some (.tup [], h') ∧ Wr h0 b (bs ++ ys) h' ∧ Oth b h h' := by
  refine calls_ex rfl res97 rfl ?_
  obtain ⟨o1, hg, ht, hn⟩ := W.get
  have ap := append_mk (sz := 1) (by_ := 1) (xs := bs.map (LV.int .u8)) (ys := ys.map (LV.int .u8)) (o := o1) (h := h) (by simpa using ht) (by simp; omega)
  rw [← List.map_append] at ap
  have g2 : ∀ c, (apH o1 (ys.map (LV.int .u8)).length h).get c = h.get c := fun c => get_ap c
  have l2 : (apH o1 (ys.map (LV.int .u8)).length h).len = h.len := len_ap
  have w2 : WF (apH o1 (ys.map (LV.int .u8)).length h) := wf_ap W.wf
  have t2 := okTok_ap (m := (ys.map (LV.int .u8)).length) W.wf ht
  have k2 : Keep h0 (apH o1 (ys.map (LV.int .u8)).length h) := keep_ap W.keep hn
  have n2 : newTok (apO o1 (ys.map (LV.int .u8)).length h) h0 := newTok_ap W.keep hn
  have lb : (apH o1 (ys.map (LV.int .u8)).length h).lob = h.lob := lob_ap
  have lw := W.lob
  have lt := W.lt
  generalize apH o1 (ys.map (LV.int .u8)).length h = g at *
  generalize apO o1 (ys.map (LV.int .u8)).length h = o2 at *
  have hgb := (g2 b).trans hg
  simp (maxSteps := 10000000) (maxDischargeDepth := 30) only [q97, r97, hg, ap, hgb, lb, lw, l2, lt, go_sem, Nat.reduceEqDiff, ↓reduceIte, Nat.reduceAdd, Nat.reduceMul, Nat.reduceLeDiff, Nat.reduceLT, reduceCtorEq, Int.reduceToNat, Int.reduceLE, Int.reduceLT, Int.reduceEq, Int.reduceNeg, Int.reduceNe, Int.reducePow, Nat.reducePow, Nat.reduceSub, IntKind.bits]
  refine ⟨⟨⟨o2, by rw [get_put_eq (by omega)], ?_, n2⟩, by rw [lob_put, lb]; exact lw, W.new, k2.put W.new _, wf_put w2⟩, by rw [len_put]; omega, fun c hc hne => ?_⟩
  · rw [List.length_map] at t2
    rw [List.length_append]
    cases o2 with
    | none => exact t2
    | some p => exact t2
  · rw [get_put_ne (Ne.symm hne)]; exact g2 c
theorem cWInt (h0 : H) (b : Nat) (bs : List Int) (n : Int) (h : H) (W : Wr h0 b bs h) (hi : I64 n) (hl : bs.length + 10 ≤ 100000000000000) :
    ∃ h', runI Try.prog TA 55 [.ptr b 0, .int .i64 n] h = some (.tup [], h') ∧ Wr h0 b (bs ++ chn n) h' ∧ Oth b h h' := by
  refine calls_ex rfl res55 rfl ?_
  have hk := (cPut none [] n (by simp) hi.1 hi.2 h W.wf).1
  simp only [List.nil_append] at hk
  rw [← byts_nil] at hk
  simp (maxSteps := 10000000) (maxDischargeDepth := 30) only [q55, r55, go_sem, Nat.reduceEqDiff, ↓reduceIte, Nat.reduceAdd, Nat.reduceMul, Nat.reduceLeDiff, Nat.reduceLT, reduceCtorEq, Int.reduceToNat, Int.reduceLE, Int.reduceLT, Int.reduceEq, Int.reduceNeg, Int.reduceNe, Int.reducePow, Nat.reducePow, Nat.reduceSub, IntKind.bits]
  refine ro_kcall hk W.wf (fun h1 k1 w1 => ?_)
  simp (maxSteps := 10000000) (maxDischargeDepth := 30) only [go_sem, Nat.reduceEqDiff, ↓reduceIte, Nat.reduceAdd, Nat.reduceMul, Nat.reduceLeDiff, Nat.reduceLT, reduceCtorEq, Int.reduceToNat, Int.reduceLE, Int.reduceLT, Int.reduceEq, Int.reduceNeg, Int.reduceNe, Int.reducePow, Nat.reducePow, Nat.reduceSub, IntKind.bits]
  refine ro_wcall (cWPut h0 b bs (chn n) _ h1 (W.next k1) (by have := chn_len hi; omega)) (fun h2 J => ?_)
  simp (maxSteps := 10000000) (maxDischargeDepth := 30) only [go_sem, Nat.reduceEqDiff, ↓reduceIte, Nat.reduceAdd, Nat.reduceMul, Nat.reduceLeDiff, Nat.reduceLT, reduceCtorEq, Int.reduceToNat, Int.reduceLE, Int.reduceLT, Int.reduceEq, Int.reduceNeg, Int.reduceNe, Int.reducePow, Nat.reducePow, Nat.reduceSub, IntKind.bits]
  exact ⟨J.1, (k1.oth b).trans J.2⟩
theorem cWBool (h0 : H) (b : Nat) (bs : List Int) (x : Bool) (h : H) (W : Wr h0 b bs h) (hl : bs.length + 10 ≤ 100000000000000) :
    ∃ h', runI Try.prog TA 56 [.ptr b 0, .bool x] h = some (.tup [], h') ∧ Wr h0 b (bs ++ [if x = true then 1 else 0]) h' ∧ Oth b h h' := by
  refine calls_ex rfl res56 rfl ?_
  have k1 : Keep h (h.nrow 1) := (Keep.refl h).nrow 1
  cases x
  · simp (maxSteps := 10000000) (maxDischargeDepth := 30) only [q56, r56, go_sem, Nat.reduceEqDiff, ↓reduceIte, Nat.reduceAdd, Nat.reduceMul, Nat.reduceLeDiff, Nat.reduceLT, reduceCtorEq, Int.reduceToNat, Int.reduceLE, Int.reduceLT, Int.reduceEq, Int.reduceNeg, Int.reduceNe, Int.reducePow, Nat.reducePow, Nat.reduceSub, IntKind.bits]
    refine ro_wcall (cWPut h0 b bs [0] _ (h.nrow 1) (W.next k1) (by simp; omega)) (fun h2 J => ?_)
    simp (maxSteps := 10000000) (maxDischargeDepth := 30) only [go_sem, Nat.reduceEqDiff, ↓reduceIte, Nat.reduceAdd, Nat.reduceMul, Nat.reduceLeDiff, Nat.reduceLT, reduceCtorEq, Int.reduceToNat, Int.reduceLE, Int.reduceLT, Int.reduceEq, Int.reduceNeg, Int.reduceNe, Int.reducePow, Nat.reducePow, Nat.reduceSub, IntKind.bits]
    exact ⟨J.1, (k1.oth b).trans J.2⟩
  · simp (maxSteps := 10000000) (maxDischargeDepth := 30) only [q56, r56, go_sem, Nat.reduceEqDiff, ↓reduceIte, Nat.reduceAdd, Nat.reduceMul, Nat.reduceLeDiff, Nat.reduceLT, reduceCtorEq, Int.reduceToNat, Int.reduceLE, Int.reduceLT, Int.reduceEq, Int.reduceNeg, Int.reduceNe, Int.reducePow, Nat.reducePow, Nat.reduceSub, IntKind.bits]
    refine ro_wcall (cWPut h0 b bs [1] _ (h.nrow 1) (W.next k1) (by simp; omega)) (fun h2 J => ?_)
    simp (maxSteps := 10000000) (maxDischargeDepth := 30) only [go_sem, Nat.reduceEqDiff, ↓reduceIte, Nat.reduceAdd, Nat.reduceMul, Nat.reduceLeDiff, Nat.reduceLT, reduceCtorEq, Int.reduceToNat, Int.reduceLE, Int.reduceLT, Int.reduceEq, Int.reduceNeg, Int.reduceNe, Int.reducePow, Nat.reducePow, Nat.reduceSub, IntKind.bits]
    exact ⟨J.1, (k1.oth b).trans J.2⟩
theorem cWBytes (h0 : H) (b : Nat) (bs : List Int) (h : H) (W : Wr h0 b bs h) (hl : bs.length ≤ 10000000000000) :
    runI Try.prog TA 60 [.ptr b 0] h = some (byts (tk Try.prog TA 60 [.ptr b 0] h) bs, hp Try.prog TA 60 [.ptr b 0] h) := by
  refine pureS_of rfl res60 rfl ?_
  obtain ⟨o1, hg, ht, hn⟩ := W.get
  have hk := (cCloneB o1 bs hl h W.wf).1
  simp (maxSteps := 10000000) (maxDischargeDepth := 30) only [q60, r60, hg, go_sem, Nat.reduceEqDiff, ↓reduceIte, Nat.reduceAdd, Nat.reduceMul, Nat.reduceLeDiff, Nat.reduceLT, reduceCtorEq, Int.reduceToNat, Int.reduceLE, Int.reduceLT, Int.reduceEq, Int.reduceNeg, Int.reduceNe, Int.reducePow, Nat.reducePow, Nat.reduceSub, IntKind.bits]
  refine ro_kcall hk W.wf (fun h1 k1 w1 => ?_)
  simp (maxSteps := 10000000) (maxDischargeDepth := 30) only [k1, go_sem, Nat.reduceEqDiff, ↓reduceIte, Nat.reduceAdd, Nat.reduceMul, Nat.reduceLeDiff, Nat.reduceLT, reduceCtorEq, Int.reduceToNat, Int.reduceLE, Int.reduceLT, Int.reduceEq, Int.reduceNeg, Int.reduceNe, Int.reducePow, Nat.reducePow, Nat.reduceSub, IntKind.bits]
  exact ⟨_, rfl⟩
theorem cWMark (h0 : H) (b : Nat) (bs : List Int) (x : ByteArray) (h : H) (W : Wr h0 b bs h) (hl : bs.length + (strB x).length ≤ 100000000000000) :
    ∃ h', runI Try.prog TA 54 [.ptr b 0, .str x] h = some (.tup [], h') ∧ Wr h0 b (bs ++ strB x) h' ∧ Oth b h h' := by
  refine calls_ex rfl res54 rfl ?_
  have k1 : Keep h (h.nrow (bytesL x).length) := (Keep.refl h).nrow _
  rw [bytesL_eq] at k1
  simp (maxSteps := 10000000) (maxDischargeDepth := 30) only [q54, r54, bytesL_eq, go_sem, Nat.reduceEqDiff, ↓reduceIte, Nat.reduceAdd, Nat.reduceMul, Nat.reduceLeDiff, Nat.reduceLT, reduceCtorEq, Int.reduceToNat, Int.reduceLE, Int.reduceLT, Int.reduceEq, Int.reduceNeg, Int.reduceNe, Int.reducePow, Nat.reducePow, Nat.reduceSub, IntKind.bits]
  rw [List.length_map] at k1
  refine ro_wcall (cWPut h0 b bs (strB x) _ (h.nrow (strB x).length) (W.next k1) hl) (fun h2 J => ?_)
  simp (maxSteps := 10000000) (maxDischargeDepth := 30) only [go_sem, Nat.reduceEqDiff, ↓reduceIte, Nat.reduceAdd, Nat.reduceMul, Nat.reduceLeDiff, Nat.reduceLT, reduceCtorEq, Int.reduceToNat, Int.reduceLE, Int.reduceLT, Int.reduceEq, Int.reduceNeg, Int.reduceNe, Int.reducePow, Nat.reducePow, Nat.reduceSub, IntKind.bits]
  exact ⟨J.1, (k1.oth b).trans J.2⟩
end Go.LM
