import Derived.Test.YtpmpdidgbbgeeaaLmTrbR3
import Derived.Test.YtpmpdidgbbgeeaaLmbEncode10
import Derived.Test.YtpmpdidgbbgeeaaLmbCodec7
import Derived.Test.YtpmpdidgbbgeeaaLmB21
namespace Go.LM
open Go.Proofs
set_option maxRecDepth 8000
set_option maxHeartbeats 4000000
set_option linter.unusedSimpArgs false

theorem awAwake17 (h : H) : runI Try.prog TA 65 [] h = some (.bool true, h) := runI_known rfl
theorem e64 {r : RS} (ok : r.ok) : IntKind.i64.wrap r.int.1 = r.int.1 := wrap64 (RS.int_ok ok).2.1.1 (RS.int_ok ok).2.1.2
theorem cDeNum (h0 : H) (q d : Nat) (D : List LV) (r : RS) (h : H) (R : Rdr h0 q r h) (gd : h.get d = some ⟨false, .ptr q 0 :: D⟩) (ok : r.ok) (hl : r.b.length ≤ 1000000000000) :
    ∃ h', runI Try.prog TA 137 [.ptr d 0] h = some (.int .i64 r.int.1, h') ∧ Rdr h0 q r.int.2 h' ∧ Otr q h h' := by
  refine calls_ex rfl res137 rfl ?_
  simp (maxSteps := 10000000) (maxDischargeDepth := 30) only [q137, r137, gd, go_sem, Nat.reduceEqDiff, ↓reduceIte, Nat.reduceAdd, Nat.reduceMul, Nat.reduceLeDiff, Nat.reduceLT, reduceCtorEq, Int.reduceToNat, Int.reduceLE, Int.reduceLT, Int.reduceEq, Int.reduceNeg, Int.reduceNe, Nat.reduceSub, IntKind.bits]
  refine ro_wcall (cRdInt h0 q r h R ok hl) (fun h1 J => ?_)
  have e := e64 ok
  simp (maxSteps := 10000000) (maxDischargeDepth := 30) only [e, go_sem, Nat.reduceEqDiff, ↓reduceIte, Nat.reduceAdd, Nat.reduceMul, Nat.reduceLeDiff, Nat.reduceLT, reduceCtorEq, Int.reduceToNat, Int.reduceLE, Int.reduceLT, Int.reduceEq, Int.reduceNeg, Int.reduceNe, Nat.reduceSub, IntKind.bits]
  exact J
theorem cDeSp (h0 : H) (q d : Nat) (D : List LV) (r : RS) (h : H) (R : Rdr h0 q r h) (gd : h.get d = some ⟨false, .ptr q 0 :: D⟩) (ok : r.ok) (hl : r.b.length ≤ 1000000000000) :
    ∃ h', runI Try.prog TA 138 [.ptr d 0] h = some (.int .i64 r.int.1, h') ∧ Rdr h0 q r.int.2 h' ∧ Otr q h h' := by
  refine calls_ex rfl res138 rfl ?_
  simp (maxSteps := 10000000) (maxDischargeDepth := 30) only [q138, r138, gd, go_sem, Nat.reduceEqDiff, ↓reduceIte, Nat.reduceAdd, Nat.reduceMul, Nat.reduceLeDiff, Nat.reduceLT, reduceCtorEq, Int.reduceToNat, Int.reduceLE, Int.reduceLT, Int.reduceEq, Int.reduceNeg, Int.reduceNe, Nat.reduceSub, IntKind.bits]
  refine ro_wcall (cRdInt h0 q r h R ok hl) (fun h1 J => ?_)
  have e := e64 ok
  simp (maxSteps := 10000000) (maxDischargeDepth := 30) only [e, go_sem, Nat.reduceEqDiff, ↓reduceIte, Nat.reduceAdd, Nat.reduceMul, Nat.reduceLeDiff, Nat.reduceLT, reduceCtorEq, Int.reduceToNat, Int.reduceLE, Int.reduceLT, Int.reduceEq, Int.reduceNeg, Int.reduceNe, Nat.reduceSub, IntKind.bits]
  exact J
theorem cRNum17 (h0 : H) (q d : Nat) (D : List LV) (r : RS) (h : H) (R : Rdr h0 q r h) (gd : h.get d = some ⟨false, .ptr q 0 :: D⟩) (ok : r.ok) (hl : r.b.length ≤ 1000000000000) :
    ∃ h', runI Try.prog TA 124 [.ptr d 0] h = some (.int .i64 r.int.1, h') ∧ Rdr h0 q r.int.2 h' ∧ Otr q h h' := by
  refine calls_ex rfl res124 rfl ?_
  simp (maxSteps := 10000000) (maxDischargeDepth := 30) only [q124, r124, gd, go_sem, Nat.reduceEqDiff, ↓reduceIte, Nat.reduceAdd, Nat.reduceMul, Nat.reduceLeDiff, Nat.reduceLT, reduceCtorEq, Int.reduceToNat, Int.reduceLE, Int.reduceLT, Int.reduceEq, Int.reduceNeg, Int.reduceNe, Nat.reduceSub, IntKind.bits]
  refine ro_wcall (cXInt h0 q r h R ok hl) (fun h1 J => ?_)
  have e := e64 ok
  simp (maxSteps := 10000000) (maxDischargeDepth := 30) only [e, go_sem, Nat.reduceEqDiff, ↓reduceIte, Nat.reduceAdd, Nat.reduceMul, Nat.reduceLeDiff, Nat.reduceLT, reduceCtorEq, Int.reduceToNat, Int.reduceLE, Int.reduceLT, Int.reduceEq, Int.reduceNeg, Int.reduceNe, Nat.reduceSub, IntKind.bits]
  exact J
theorem cRSp17 (h0 : H) (q d : Nat) (D : List LV) (r : RS) (h : H) (R : Rdr h0 q r h) (gd : h.get d = some ⟨false, .ptr q 0 :: D⟩) (ok : r.ok) (hl : r.b.length ≤ 1000000000000) :
    ∃ h', runI Try.prog TA 125 [.ptr d 0] h = some (.int .i64 r.int.1, h') ∧ Rdr h0 q r.int.2 h' ∧ Otr q h h' := by
  refine calls_ex rfl res125 rfl ?_
  simp (maxSteps := 10000000) (maxDischargeDepth := 30) only [q125, r125, gd, go_sem, Nat.reduceEqDiff, ↓reduceIte, Nat.reduceAdd, Nat.reduceMul, Nat.reduceLeDiff, Nat.reduceLT, reduceCtorEq, Int.reduceToNat, Int.reduceLE, Int.reduceLT, Int.reduceEq, Int.reduceNeg, Int.reduceNe, Nat.reduceSub, IntKind.bits]
  refine ro_wcall (cXInt h0 q r h R ok hl) (fun h1 J => ?_)
  have e := e64 ok
  simp (maxSteps := 10000000) (maxDischargeDepth := 30) only [e, go_sem, Nat.reduceEqDiff, ↓reduceIte, Nat.reduceAdd, Nat.reduceMul, Nat.reduceLeDiff, Nat.reduceLT, reduceCtorEq, Int.reduceToNat, Int.reduceLE, Int.reduceLT, Int.reduceEq, Int.reduceNeg, Int.reduceNe, Nat.reduceSub, IntKind.bits]
  exact J
theorem cDeItem (h0 : H) (q d : Nat) (D : List LV) (r : RS) (h : H) (R : Rdr h0 q r h) (gd : h.get d = some ⟨false, .ptr q 0 :: D⟩) (dq : d ≠ q) (ok : r.ok) (hl : r.b.length ≤ 1000000000000) :
    ∃ v h', runI Try.prog TA 140 [.ptr d 0] h = some (v, h') ∧ v = (itemRd r).1.e ∧ Rdr h0 q (itemRd r).2 h' ∧ Otr q h h' := by
  refine calls_of rfl res140 rfl ?_
  have lt := R.lt
  have lo := R.wf.1
  have hk := R.keep.len
  have ld := lt_of_get gd
  simp (maxSteps := 10000000) (maxDischargeDepth := 30) only [q140, r140, go_sem, Nat.reduceEqDiff, ↓reduceIte, Nat.reduceAdd, Nat.reduceMul, Nat.reduceLeDiff, Nat.reduceLT, reduceCtorEq, Int.reduceToNat, Int.reduceLE, Int.reduceLT, Int.reduceEq, Int.reduceNeg, Int.reduceNe, Nat.reduceSub, IntKind.bits]
  refine ro_wcall (cDeNum h0 q d D r _ (R.next ((Keep.refl h).alloc _)) (by rw [get_alloc_lt ld]; exact gd) ok hl) (fun h2 J => ?_)
  obtain ⟨R2, O2⟩ := J
  have o1 := (RS.int_ok ok).1
  have l2 := O2.len
  rw [len_alloc] at l2
  have lo2 := R2.wf.1
  have lq2 := R2.lt
  have gd2 := (O2.get (by rw [len_alloc]; omega) dq).trans ((get_alloc_lt ld).trans gd)
  have ga2 := (O2.get (by rw [len_alloc]; omega) (show h.len ≠ q by omega)).trans (get_alloc_eq _ _)
  have ld2 := lt_of_get gd2
  have key : ∀ g, Keep h2 g → g.get h2.len = some ⟨false, [.int .i64 r.int.1, .int .i64 0, .int .i64 0, .int .i64 0, .int .i64 0, .int .i64 0, .int .i64 0]⟩ → W3 h0 h q d h.len h2.len (.ptr q 0 :: D) [.int .i64 0, .int .i64 0, .int .i64 0, .int .i64 0, .int .i64 0, .int .i64 0, .int .i64 0] [.int .i64 r.int.1, .int .i64 0, .int .i64 0, .int .i64 0, .int .i64 0, .int .i64 0, .int .i64 0] r.int.2 g :=
    fun g kg gc => ⟨R2.next kg, ((((Keep.refl h).alloc _).otr q).trans O2).trans (kg.otr q), (kg.get ld2).trans gd2, (kg.get (by omega)).trans ga2, gc, dq, by omega, by omega, by omega, by omega, by omega, by omega, lo, Nat.le_refl _⟩
  simp (maxSteps := 10000000) (maxDischargeDepth := 30) only [lo2, go_sem, Nat.reduceEqDiff, ↓reduceIte, Nat.reduceAdd, Nat.reduceMul, Nat.reduceLeDiff, Nat.reduceLT, reduceCtorEq, Int.reduceToNat, Int.reduceLE, Int.reduceLT, Int.reduceEq, Int.reduceNeg, Int.reduceNe, Nat.reduceSub, IntKind.bits]
  generalize hgg : (h2.alloc _).put _ _ = g
  have W := key g (by rw [← hgg]; exact ((Keep.refl h2).alloc _).put (Nat.le_refl _) _) (by rw [← hgg]; simp (maxSteps := 10000000) (maxDischargeDepth := 30) only [go_sem, Nat.reduceEqDiff, ↓reduceIte, Nat.reduceAdd, Nat.reduceMul, Nat.reduceLeDiff, Nat.reduceLT, reduceCtorEq, Int.reduceToNat, Int.reduceLE, Int.reduceLT, Int.reduceEq, Int.reduceNeg, Int.reduceNe, Nat.reduceSub, IntKind.bits])
  clear hgg
  have gcK := W.gc
  by_cases d1 : r.int.1 = 1
  · have e : itemRd r = (⟨r.int.1, r.int.2.int.1, r.int.2.int.2.int.1, 0, 0, 0, 0⟩, r.int.2.int.2.int.2) := by unfold itemRd; rw [if_pos d1]
    rw [e]
    have dk : (r.int.1 = 1) = True := eq_true d1
    simp (maxSteps := 10000000) (maxDischargeDepth := 30) only [gcK, dk, go_sem, Nat.reduceEqDiff, ↓reduceIte, Nat.reduceAdd, Nat.reduceMul, Nat.reduceLeDiff, Nat.reduceLT, reduceCtorEq, Int.reduceToNat, Int.reduceLE, Int.reduceLT, Int.reduceEq, Int.reduceNeg, Int.reduceNe, Nat.reduceSub, IntKind.bits]
    clear gcK
    try (simp (maxSteps := 10000000) (maxDischargeDepth := 30) only [go_sem, Nat.reduceEqDiff, ↓reduceIte, Nat.reduceAdd, Nat.reduceMul, Nat.reduceLeDiff, Nat.reduceLT, reduceCtorEq, Int.reduceToNat, Int.reduceLE, Int.reduceLT, Int.reduceEq, Int.reduceNeg, Int.reduceNe, Nat.reduceSub, IntKind.bits])
    refine ro_wcall (cDeSp h0 q d D r.int.2 g W.rdr W.gd o1 (by simp only [RS.int_b]; exact hl)) (fun h3 J => ?_)
    replace W := W.call J.1 J.2
    have o2 := (RS.int_ok o1).1
    try (simp (maxSteps := 10000000) (maxDischargeDepth := 30) only [go_sem, Nat.reduceEqDiff, ↓reduceIte, Nat.reduceAdd, Nat.reduceMul, Nat.reduceLeDiff, Nat.reduceLT, reduceCtorEq, Int.reduceToNat, Int.reduceLE, Int.reduceLT, Int.reduceEq, Int.reduceNeg, Int.reduceNe, Nat.reduceSub, IntKind.bits])
    refine ro_wcall (cDeNum h0 q d D r.int.2.int.2 h3 W.rdr W.gd o2 (by simp only [RS.int_b]; exact hl)) (fun h4 J => ?_)
    replace W := W.call J.1 J.2
    have o3 := (RS.int_ok o2).1
    have gc := W.gc
    have lobc := W.lobc
    have ltc := W.ltc
    have loba := W.loba
    have lta := W.lta
    replace W := (W.put [.int .i64 r.int.1, .int .i64 r.int.2.int.1, .int .i64 0, .int .i64 0, .int .i64 0, .int .i64 0, .int .i64 0]).put [.int .i64 r.int.1, .int .i64 r.int.2.int.1, .int .i64 r.int.2.int.2.int.1, .int .i64 0, .int .i64 0, .int .i64 0, .int .i64 0]
    have gA := W.ga
    have gC := W.gc
    simp (maxSteps := 10000000) (maxDischargeDepth := 30) only [gc, lobc, ltc, gA, gC, loba, lta, go_sem, Nat.reduceEqDiff, ↓reduceIte, Nat.reduceAdd, Nat.reduceMul, Nat.reduceLeDiff, Nat.reduceLT, reduceCtorEq, Int.reduceToNat, Int.reduceLE, Int.reduceLT, Int.reduceEq, Int.reduceNeg, Int.reduceNe, Nat.reduceSub, IntKind.bits]
    exact ⟨rfl, (W.fin (by omega) _).1, (W.fin (by omega) _).2⟩
  by_cases d2 : r.int.1 = 2
  · have e : itemRd r = (⟨r.int.1, r.int.2.int.1, 0, r.int.2.int.2.int.1, r.int.2.int.2.int.2.int.1, r.int.2.int.2.int.2.int.2.int.1, 0⟩, r.int.2.int.2.int.2.int.2.int.2) := by unfold itemRd; rw [if_neg d1, if_pos d2]
    rw [e]
    have dk : (r.int.1 = 1) = False := eq_false d1
    have dk2 : (r.int.1 = 2) = True := eq_true d2
    simp (maxSteps := 10000000) (maxDischargeDepth := 30) only [gcK, dk, dk2, go_sem, Nat.reduceEqDiff, ↓reduceIte, Nat.reduceAdd, Nat.reduceMul, Nat.reduceLeDiff, Nat.reduceLT, reduceCtorEq, Int.reduceToNat, Int.reduceLE, Int.reduceLT, Int.reduceEq, Int.reduceNeg, Int.reduceNe, Nat.reduceSub, IntKind.bits]
    clear gcK
    try (simp (maxSteps := 10000000) (maxDischargeDepth := 30) only [go_sem, Nat.reduceEqDiff, ↓reduceIte, Nat.reduceAdd, Nat.reduceMul, Nat.reduceLeDiff, Nat.reduceLT, reduceCtorEq, Int.reduceToNat, Int.reduceLE, Int.reduceLT, Int.reduceEq, Int.reduceNeg, Int.reduceNe, Nat.reduceSub, IntKind.bits])
    refine ro_wcall (cDeSp h0 q d D r.int.2 g W.rdr W.gd o1 (by simp only [RS.int_b]; exact hl)) (fun h3 J => ?_)
    replace W := W.call J.1 J.2
    have o2 := (RS.int_ok o1).1
    try (simp (maxSteps := 10000000) (maxDischargeDepth := 30) only [go_sem, Nat.reduceEqDiff, ↓reduceIte, Nat.reduceAdd, Nat.reduceMul, Nat.reduceLeDiff, Nat.reduceLT, reduceCtorEq, Int.reduceToNat, Int.reduceLE, Int.reduceLT, Int.reduceEq, Int.reduceNeg, Int.reduceNe, Nat.reduceSub, IntKind.bits])
    refine ro_wcall (cDeSp h0 q d D r.int.2.int.2 h3 W.rdr W.gd o2 (by simp only [RS.int_b]; exact hl)) (fun h4 J => ?_)
    replace W := W.call J.1 J.2
    have o3 := (RS.int_ok o2).1
    try (simp (maxSteps := 10000000) (maxDischargeDepth := 30) only [go_sem, Nat.reduceEqDiff, ↓reduceIte, Nat.reduceAdd, Nat.reduceMul, Nat.reduceLeDiff, Nat.reduceLT, reduceCtorEq, Int.reduceToNat, Int.reduceLE, Int.reduceLT, Int.reduceEq, Int.reduceNeg, Int.reduceNe, Nat.reduceSub, IntKind.bits])
    refine ro_wcall (cDeNum h0 q d D r.int.2.int.2.int.2 h4 W.rdr W.gd o3 (by simp only [RS.int_b]; exact hl)) (fun h5 J => ?_)
    replace W := W.call J.1 J.2
    have o4 := (RS.int_ok o3).1
    try (simp (maxSteps := 10000000) (maxDischargeDepth := 30) only [go_sem, Nat.reduceEqDiff, ↓reduceIte, Nat.reduceAdd, Nat.reduceMul, Nat.reduceLeDiff, Nat.reduceLT, reduceCtorEq, Int.reduceToNat, Int.reduceLE, Int.reduceLT, Int.reduceEq, Int.reduceNeg, Int.reduceNe, Nat.reduceSub, IntKind.bits])
    refine ro_wcall (cDeSp h0 q d D r.int.2.int.2.int.2.int.2 h5 W.rdr W.gd o4 (by simp only [RS.int_b]; exact hl)) (fun h6 J => ?_)
    replace W := W.call J.1 J.2
    have o5 := (RS.int_ok o4).1
    have gc := W.gc
    have lobc := W.lobc
    have ltc := W.ltc
    have loba := W.loba
    have lta := W.lta
    replace W := (((W.put [.int .i64 r.int.1, .int .i64 r.int.2.int.1, .int .i64 0, .int .i64 0, .int .i64 0, .int .i64 0, .int .i64 0]).put [.int .i64 r.int.1, .int .i64 r.int.2.int.1, .int .i64 0, .int .i64 r.int.2.int.2.int.1, .int .i64 0, .int .i64 0, .int .i64 0]).put [.int .i64 r.int.1, .int .i64 r.int.2.int.1, .int .i64 0, .int .i64 r.int.2.int.2.int.1, .int .i64 r.int.2.int.2.int.2.int.1, .int .i64 0, .int .i64 0]).put [.int .i64 r.int.1, .int .i64 r.int.2.int.1, .int .i64 0, .int .i64 r.int.2.int.2.int.1, .int .i64 r.int.2.int.2.int.2.int.1, .int .i64 r.int.2.int.2.int.2.int.2.int.1, .int .i64 0]
    have gA := W.ga
    have gC := W.gc
    simp (maxSteps := 10000000) (maxDischargeDepth := 30) only [gc, lobc, ltc, gA, gC, loba, lta, go_sem, Nat.reduceEqDiff, ↓reduceIte, Nat.reduceAdd, Nat.reduceMul, Nat.reduceLeDiff, Nat.reduceLT, reduceCtorEq, Int.reduceToNat, Int.reduceLE, Int.reduceLT, Int.reduceEq, Int.reduceNeg, Int.reduceNe, Nat.reduceSub, IntKind.bits]
    exact ⟨rfl, (W.fin (by omega) _).1, (W.fin (by omega) _).2⟩
  have dk : (r.int.1 = 1) = False := eq_false d1
  have dk2 : (r.int.1 = 2) = False := eq_false d2
  have e36 : r.int.1 = 3 ∨ r.int.1 = 4 ∨ r.int.1 = 5 ∨ r.int.1 = 6 → itemRd r = (⟨r.int.1, 0, 0, 0, 0, 0, r.int.2.int.1⟩, r.int.2.int.2) := by intro hd; unfold itemRd; rw [if_neg d1, if_neg d2, if_pos hd]
  by_cases d3 : r.int.1 = 3
  · rw [e36 (by omega)]
    have dk3 : (r.int.1 = 3) = True := eq_true d3
    simp (maxSteps := 10000000) (maxDischargeDepth := 30) only [gcK, dk, dk2, dk3, go_sem, Nat.reduceEqDiff, ↓reduceIte, Nat.reduceAdd, Nat.reduceMul, Nat.reduceLeDiff, Nat.reduceLT, reduceCtorEq, Int.reduceToNat, Int.reduceLE, Int.reduceLT, Int.reduceEq, Int.reduceNeg, Int.reduceNe, Nat.reduceSub, IntKind.bits]
    clear gcK
    try (simp (maxSteps := 10000000) (maxDischargeDepth := 30) only [go_sem, Nat.reduceEqDiff, ↓reduceIte, Nat.reduceAdd, Nat.reduceMul, Nat.reduceLeDiff, Nat.reduceLT, reduceCtorEq, Int.reduceToNat, Int.reduceLE, Int.reduceLT, Int.reduceEq, Int.reduceNeg, Int.reduceNe, Nat.reduceSub, IntKind.bits])
    refine ro_wcall (cDeNum h0 q d D r.int.2 g W.rdr W.gd o1 (by simp only [RS.int_b]; exact hl)) (fun h3 J => ?_)
    replace W := W.call J.1 J.2
    have o2 := (RS.int_ok o1).1
    have gc := W.gc
    have lobc := W.lobc
    have ltc := W.ltc
    replace W := W.put [.int .i64 r.int.1, .int .i64 0, .int .i64 0, .int .i64 0, .int .i64 0, .int .i64 0, .int .i64 r.int.2.int.1]
    simp (maxSteps := 10000000) (maxDischargeDepth := 30) only [gc, lobc, ltc, go_sem, Nat.reduceEqDiff, ↓reduceIte, Nat.reduceAdd, Nat.reduceMul, Nat.reduceLeDiff, Nat.reduceLT, reduceCtorEq, Int.reduceToNat, Int.reduceLE, Int.reduceLT, Int.reduceEq, Int.reduceNeg, Int.reduceNe, Nat.reduceSub, IntKind.bits]
    generalize h3.put h2.len ⟨false, [.int .i64 r.int.1, .int .i64 0, .int .i64 0, .int .i64 0, .int .i64 0, .int .i64 0, .int .i64 r.int.2.int.1]⟩ = f4 at *
    clear gc lobc ltc
    have gc := W.gc
    have lobc := W.lobc
    have ltc := W.ltc
    have ga := W.ga
    have loba := W.loba
    have lta := W.lta
    simp (maxSteps := 10000000) (maxDischargeDepth := 30) only [gc, ga, lobc, ltc, loba, lta, go_sem, Nat.reduceEqDiff, ↓reduceIte, Nat.reduceAdd, Nat.reduceMul, Nat.reduceLeDiff, Nat.reduceLT, reduceCtorEq, Int.reduceToNat, Int.reduceLE, Int.reduceLT, Int.reduceEq, Int.reduceNeg, Int.reduceNe, Nat.reduceSub, IntKind.bits]
    exact ⟨rfl, (W.fin (by omega) _).1, (W.fin (by omega) _).2⟩
  have dk3 : (r.int.1 = 3) = False := eq_false d3
  by_cases d4 : r.int.1 = 4
  · rw [e36 (by omega)]
    have dk4 : (r.int.1 = 4) = True := eq_true d4
    simp (maxSteps := 10000000) (maxDischargeDepth := 30) only [gcK, dk, dk2, dk3, dk4, go_sem, Nat.reduceEqDiff, ↓reduceIte, Nat.reduceAdd, Nat.reduceMul, Nat.reduceLeDiff, Nat.reduceLT, reduceCtorEq, Int.reduceToNat, Int.reduceLE, Int.reduceLT, Int.reduceEq, Int.reduceNeg, Int.reduceNe, Nat.reduceSub, IntKind.bits]
    clear gcK
    try (simp (maxSteps := 10000000) (maxDischargeDepth := 30) only [go_sem, Nat.reduceEqDiff, ↓reduceIte, Nat.reduceAdd, Nat.reduceMul, Nat.reduceLeDiff, Nat.reduceLT, reduceCtorEq, Int.reduceToNat, Int.reduceLE, Int.reduceLT, Int.reduceEq, Int.reduceNeg, Int.reduceNe, Nat.reduceSub, IntKind.bits])
    refine ro_wcall (cDeNum h0 q d D r.int.2 g W.rdr W.gd o1 (by simp only [RS.int_b]; exact hl)) (fun h3 J => ?_)
    replace W := W.call J.1 J.2
    have o2 := (RS.int_ok o1).1
    have gc := W.gc
    have lobc := W.lobc
    have ltc := W.ltc
    replace W := W.put [.int .i64 r.int.1, .int .i64 0, .int .i64 0, .int .i64 0, .int .i64 0, .int .i64 0, .int .i64 r.int.2.int.1]
    simp (maxSteps := 10000000) (maxDischargeDepth := 30) only [gc, lobc, ltc, go_sem, Nat.reduceEqDiff, ↓reduceIte, Nat.reduceAdd, Nat.reduceMul, Nat.reduceLeDiff, Nat.reduceLT, reduceCtorEq, Int.reduceToNat, Int.reduceLE, Int.reduceLT, Int.reduceEq, Int.reduceNeg, Int.reduceNe, Nat.reduceSub, IntKind.bits]
    generalize h3.put h2.len ⟨false, [.int .i64 r.int.1, .int .i64 0, .int .i64 0, .int .i64 0, .int .i64 0, .int .i64 0, .int .i64 r.int.2.int.1]⟩ = f4 at *
    clear gc lobc ltc
    have gc := W.gc
    have lobc := W.lobc
    have ltc := W.ltc
    have ga := W.ga
    have loba := W.loba
    have lta := W.lta
    simp (maxSteps := 10000000) (maxDischargeDepth := 30) only [gc, ga, lobc, ltc, loba, lta, go_sem, Nat.reduceEqDiff, ↓reduceIte, Nat.reduceAdd, Nat.reduceMul, Nat.reduceLeDiff, Nat.reduceLT, reduceCtorEq, Int.reduceToNat, Int.reduceLE, Int.reduceLT, Int.reduceEq, Int.reduceNeg, Int.reduceNe, Nat.reduceSub, IntKind.bits]
    exact ⟨rfl, (W.fin (by omega) _).1, (W.fin (by omega) _).2⟩
  have dk4 : (r.int.1 = 4) = False := eq_false d4
  by_cases d5 : r.int.1 = 5
  · rw [e36 (by omega)]
    have dk5 : (r.int.1 = 5) = True := eq_true d5
    simp (maxSteps := 10000000) (maxDischargeDepth := 30) only [gcK, dk, dk2, dk3, dk4, dk5, go_sem, Nat.reduceEqDiff, ↓reduceIte, Nat.reduceAdd, Nat.reduceMul, Nat.reduceLeDiff, Nat.reduceLT, reduceCtorEq, Int.reduceToNat, Int.reduceLE, Int.reduceLT, Int.reduceEq, Int.reduceNeg, Int.reduceNe, Nat.reduceSub, IntKind.bits]
    clear gcK
    try (simp (maxSteps := 10000000) (maxDischargeDepth := 30) only [go_sem, Nat.reduceEqDiff, ↓reduceIte, Nat.reduceAdd, Nat.reduceMul, Nat.reduceLeDiff, Nat.reduceLT, reduceCtorEq, Int.reduceToNat, Int.reduceLE, Int.reduceLT, Int.reduceEq, Int.reduceNeg, Int.reduceNe, Nat.reduceSub, IntKind.bits])
    refine ro_wcall (cDeNum h0 q d D r.int.2 g W.rdr W.gd o1 (by simp only [RS.int_b]; exact hl)) (fun h3 J => ?_)
    replace W := W.call J.1 J.2
    have o2 := (RS.int_ok o1).1
    have gc := W.gc
    have lobc := W.lobc
    have ltc := W.ltc
    replace W := W.put [.int .i64 r.int.1, .int .i64 0, .int .i64 0, .int .i64 0, .int .i64 0, .int .i64 0, .int .i64 r.int.2.int.1]
    simp (maxSteps := 10000000) (maxDischargeDepth := 30) only [gc, lobc, ltc, go_sem, Nat.reduceEqDiff, ↓reduceIte, Nat.reduceAdd, Nat.reduceMul, Nat.reduceLeDiff, Nat.reduceLT, reduceCtorEq, Int.reduceToNat, Int.reduceLE, Int.reduceLT, Int.reduceEq, Int.reduceNeg, Int.reduceNe, Nat.reduceSub, IntKind.bits]
    generalize h3.put h2.len ⟨false, [.int .i64 r.int.1, .int .i64 0, .int .i64 0, .int .i64 0, .int .i64 0, .int .i64 0, .int .i64 r.int.2.int.1]⟩ = f4 at *
    clear gc lobc ltc
    have gc := W.gc
    have lobc := W.lobc
    have ltc := W.ltc
    have ga := W.ga
    have loba := W.loba
    have lta := W.lta
    simp (maxSteps := 10000000) (maxDischargeDepth := 30) only [gc, ga, lobc, ltc, loba, lta, go_sem, Nat.reduceEqDiff, ↓reduceIte, Nat.reduceAdd, Nat.reduceMul, Nat.reduceLeDiff, Nat.reduceLT, reduceCtorEq, Int.reduceToNat, Int.reduceLE, Int.reduceLT, Int.reduceEq, Int.reduceNeg, Int.reduceNe, Nat.reduceSub, IntKind.bits]
    exact ⟨rfl, (W.fin (by omega) _).1, (W.fin (by omega) _).2⟩
  have dk5 : (r.int.1 = 5) = False := eq_false d5
  by_cases d6 : r.int.1 = 6
  · rw [e36 (by omega)]
    have dk6 : (r.int.1 = 6) = True := eq_true d6
    simp (maxSteps := 10000000) (maxDischargeDepth := 30) only [gcK, dk, dk2, dk3, dk4, dk5, dk6, go_sem, Nat.reduceEqDiff, ↓reduceIte, Nat.reduceAdd, Nat.reduceMul, Nat.reduceLeDiff, Nat.reduceLT, reduceCtorEq, Int.reduceToNat, Int.reduceLE, Int.reduceLT, Int.reduceEq, Int.reduceNeg, Int.reduceNe, Nat.reduceSub, IntKind.bits]
    clear gcK
    try (simp (maxSteps := 10000000) (maxDischargeDepth := 30) only [go_sem, Nat.reduceEqDiff, ↓reduceIte, Nat.reduceAdd, Nat.reduceMul, Nat.reduceLeDiff, Nat.reduceLT, reduceCtorEq, Int.reduceToNat, Int.reduceLE, Int.reduceLT, Int.reduceEq, Int.reduceNeg, Int.reduceNe, Nat.reduceSub, IntKind.bits])
    refine ro_wcall (cDeNum h0 q d D r.int.2 g W.rdr W.gd o1 (by simp only [RS.int_b]; exact hl)) (fun h3 J => ?_)
    replace W := W.call J.1 J.2
    have o2 := (RS.int_ok o1).1
    have gc := W.gc
    have lobc := W.lobc
    have ltc := W.ltc
    replace W := W.put [.int .i64 r.int.1, .int .i64 0, .int .i64 0, .int .i64 0, .int .i64 0, .int .i64 0, .int .i64 r.int.2.int.1]
    simp (maxSteps := 10000000) (maxDischargeDepth := 30) only [gc, lobc, ltc, go_sem, Nat.reduceEqDiff, ↓reduceIte, Nat.reduceAdd, Nat.reduceMul, Nat.reduceLeDiff, Nat.reduceLT, reduceCtorEq, Int.reduceToNat, Int.reduceLE, Int.reduceLT, Int.reduceEq, Int.reduceNeg, Int.reduceNe, Nat.reduceSub, IntKind.bits]
    generalize h3.put h2.len ⟨false, [.int .i64 r.int.1, .int .i64 0, .int .i64 0, .int .i64 0, .int .i64 0, .int .i64 0, .int .i64 r.int.2.int.1]⟩ = f4 at *
    clear gc lobc ltc
    have gc := W.gc
    have lobc := W.lobc
    have ltc := W.ltc
    have ga := W.ga
    have loba := W.loba
    have lta := W.lta
    simp (maxSteps := 10000000) (maxDischargeDepth := 30) only [gc, ga, lobc, ltc, loba, lta, go_sem, Nat.reduceEqDiff, ↓reduceIte, Nat.reduceAdd, Nat.reduceMul, Nat.reduceLeDiff, Nat.reduceLT, reduceCtorEq, Int.reduceToNat, Int.reduceLE, Int.reduceLT, Int.reduceEq, Int.reduceNeg, Int.reduceNe, Nat.reduceSub, IntKind.bits]
    exact ⟨rfl, (W.fin (by omega) _).1, (W.fin (by omega) _).2⟩
  have dk6 : (r.int.1 = 6) = False := eq_false d6
  have ga := W.ga
  have loba := W.loba
  have lta := W.lta
  by_cases d7 : r.int.1 = 7
  · have e : itemRd r = (⟨r.int.1, 0, 0, 0, 0, 0, 0⟩, r.int.2) := by unfold itemRd; rw [if_neg d1, if_neg d2, if_neg (by omega), if_pos d7]
    rw [e]
    have dk7 : (r.int.1 = 7) = True := eq_true d7
    simp (maxSteps := 10000000) (maxDischargeDepth := 30) only [gcK, dk, dk2, dk3, dk4, dk5, dk6, dk7, ga, loba, lta, go_sem, Nat.reduceEqDiff, ↓reduceIte, Nat.reduceAdd, Nat.reduceMul, Nat.reduceLeDiff, Nat.reduceLT, reduceCtorEq, Int.reduceToNat, Int.reduceLE, Int.reduceLT, Int.reduceEq, Int.reduceNeg, Int.reduceNe, Nat.reduceSub, IntKind.bits]
    exact ⟨rfl, (W.fin (by omega) _).1, (W.fin (by omega) _).2⟩
  have e : itemRd r = (⟨r.int.1, 0, 0, 0, 0, 0, 0⟩, r.int.2.halt) := by unfold itemRd; rw [if_neg d1, if_neg d2, if_neg (by omega), if_neg d7]
  rw [e]
  have dk7 : (r.int.1 = 7) = False := eq_false d7
  have gdW := W.gd
  simp (maxSteps := 10000000) (maxDischargeDepth := 30) only [gcK, dk, dk2, dk3, dk4, dk5, dk6, dk7, gdW, go_sem, Nat.reduceEqDiff, ↓reduceIte, Nat.reduceAdd, Nat.reduceMul, Nat.reduceLeDiff, Nat.reduceLT, reduceCtorEq, Int.reduceToNat, Int.reduceLE, Int.reduceLT, Int.reduceEq, Int.reduceNeg, Int.reduceNe, Nat.reduceSub, IntKind.bits]
  refine ro_wcall (cRdStop h0 q _ g W.rdr) (fun h9 J => ?_)
  replace W := W.call J.1 J.2
  have gc9 := W.gc
  have ga9 := W.ga
  have loba9 := W.loba
  have lta9 := W.lta
  simp (maxSteps := 10000000) (maxDischargeDepth := 30) only [gc9, ga9, loba9, lta9, go_sem, Nat.reduceEqDiff, ↓reduceIte, Nat.reduceAdd, Nat.reduceMul, Nat.reduceLeDiff, Nat.reduceLT, reduceCtorEq, Int.reduceToNat, Int.reduceLE, Int.reduceLT, Int.reduceEq, Int.reduceNeg, Int.reduceNe, Nat.reduceSub, IntKind.bits]
  exact ⟨rfl, (W.fin (by omega) _).1, (W.fin (by omega) _).2⟩
theorem cRItem17 (h0 : H) (q d : Nat) (D : List LV) (r : RS) (h : H) (R : Rdr h0 q r h) (gd : h.get d = some ⟨false, .ptr q 0 :: D⟩) (dq : d ≠ q) (ok : r.ok) (hl : r.b.length ≤ 1000000000000) :
    ∃ v h', runI Try.prog TA 122 [.ptr d 0] h = some (v, h') ∧ v = (itemRd r).1.e ∧ Rdr h0 q (itemRd r).2 h' ∧ Otr q h h' := by
  refine calls_of rfl res122 rfl ?_
  have lt := R.lt
  have lo := R.wf.1
  have hk := R.keep.len
  have ld := lt_of_get gd
  simp (maxSteps := 10000000) (maxDischargeDepth := 30) only [q122, r122, go_sem, Nat.reduceEqDiff, ↓reduceIte, Nat.reduceAdd, Nat.reduceMul, Nat.reduceLeDiff, Nat.reduceLT, reduceCtorEq, Int.reduceToNat, Int.reduceLE, Int.reduceLT, Int.reduceEq, Int.reduceNeg, Int.reduceNe, Nat.reduceSub, IntKind.bits]
  refine ro_wcall (cRNum17 h0 q d D r _ (R.next ((Keep.refl h).alloc _)) (by rw [get_alloc_lt ld]; exact gd) ok hl) (fun h2 J => ?_)
  obtain ⟨R2, O2⟩ := J
  have o1 := (RS.int_ok ok).1
  have l2 := O2.len
  rw [len_alloc] at l2
  have lo2 := R2.wf.1
  have lq2 := R2.lt
  have gd2 := (O2.get (by rw [len_alloc]; omega) dq).trans ((get_alloc_lt ld).trans gd)
  have ga2 := (O2.get (by rw [len_alloc]; omega) (show h.len ≠ q by omega)).trans (get_alloc_eq _ _)
  have ld2 := lt_of_get gd2
  have key : ∀ g, Keep h2 g → g.get h2.len = some ⟨false, [.int .i64 r.int.1, .int .i64 0, .int .i64 0, .int .i64 0, .int .i64 0, .int .i64 0, .int .i64 0]⟩ → W3 h0 h q d h.len h2.len (.ptr q 0 :: D) [.int .i64 0, .int .i64 0, .int .i64 0, .int .i64 0, .int .i64 0, .int .i64 0, .int .i64 0] [.int .i64 r.int.1, .int .i64 0, .int .i64 0, .int .i64 0, .int .i64 0, .int .i64 0, .int .i64 0] r.int.2 g :=
    fun g kg gc => ⟨R2.next kg, ((((Keep.refl h).alloc _).otr q).trans O2).trans (kg.otr q), (kg.get ld2).trans gd2, (kg.get (by omega)).trans ga2, gc, dq, by omega, by omega, by omega, by omega, by omega, by omega, lo, Nat.le_refl _⟩
  simp (maxSteps := 10000000) (maxDischargeDepth := 30) only [lo2, go_sem, Nat.reduceEqDiff, ↓reduceIte, Nat.reduceAdd, Nat.reduceMul, Nat.reduceLeDiff, Nat.reduceLT, reduceCtorEq, Int.reduceToNat, Int.reduceLE, Int.reduceLT, Int.reduceEq, Int.reduceNeg, Int.reduceNe, Nat.reduceSub, IntKind.bits]
  generalize hgg : (h2.alloc _).put _ _ = g
  have W := key g (by rw [← hgg]; exact ((Keep.refl h2).alloc _).put (Nat.le_refl _) _) (by rw [← hgg]; simp (maxSteps := 10000000) (maxDischargeDepth := 30) only [go_sem, Nat.reduceEqDiff, ↓reduceIte, Nat.reduceAdd, Nat.reduceMul, Nat.reduceLeDiff, Nat.reduceLT, reduceCtorEq, Int.reduceToNat, Int.reduceLE, Int.reduceLT, Int.reduceEq, Int.reduceNeg, Int.reduceNe, Nat.reduceSub, IntKind.bits])
  clear hgg
  have gcK := W.gc
  by_cases d1 : r.int.1 = 1
  · have e : itemRd r = (⟨r.int.1, r.int.2.int.1, r.int.2.int.2.int.1, 0, 0, 0, 0⟩, r.int.2.int.2.int.2) := by unfold itemRd; rw [if_pos d1]
    rw [e]
    have dk : (r.int.1 = 1) = True := eq_true d1
    simp (maxSteps := 10000000) (maxDischargeDepth := 30) only [gcK, dk, go_sem, Nat.reduceEqDiff, ↓reduceIte, Nat.reduceAdd, Nat.reduceMul, Nat.reduceLeDiff, Nat.reduceLT, reduceCtorEq, Int.reduceToNat, Int.reduceLE, Int.reduceLT, Int.reduceEq, Int.reduceNeg, Int.reduceNe, Nat.reduceSub, IntKind.bits]
    clear gcK
    try (simp (maxSteps := 10000000) (maxDischargeDepth := 30) only [go_sem, Nat.reduceEqDiff, ↓reduceIte, Nat.reduceAdd, Nat.reduceMul, Nat.reduceLeDiff, Nat.reduceLT, reduceCtorEq, Int.reduceToNat, Int.reduceLE, Int.reduceLT, Int.reduceEq, Int.reduceNeg, Int.reduceNe, Nat.reduceSub, IntKind.bits])
    refine ro_wcall (cRSp17 h0 q d D r.int.2 g W.rdr W.gd o1 (by simp only [RS.int_b]; exact hl)) (fun h3 J => ?_)
    replace W := W.call J.1 J.2
    have o2 := (RS.int_ok o1).1
    have gc := W.gc
    have lobc := W.lobc
    have ltc := W.ltc
    replace W := W.put [.int .i64 r.int.1, .int .i64 r.int.2.int.1, .int .i64 0, .int .i64 0, .int .i64 0, .int .i64 0, .int .i64 0]
    simp (maxSteps := 10000000) (maxDischargeDepth := 30) only [gc, lobc, ltc, go_sem, Nat.reduceEqDiff, ↓reduceIte, Nat.reduceAdd, Nat.reduceMul, Nat.reduceLeDiff, Nat.reduceLT, reduceCtorEq, Int.reduceToNat, Int.reduceLE, Int.reduceLT, Int.reduceEq, Int.reduceNeg, Int.reduceNe, Nat.reduceSub, IntKind.bits]
    generalize h3.put h2.len ⟨false, [.int .i64 r.int.1, .int .i64 r.int.2.int.1, .int .i64 0, .int .i64 0, .int .i64 0, .int .i64 0, .int .i64 0]⟩ = f4 at *
    clear gc lobc ltc
    try (simp (maxSteps := 10000000) (maxDischargeDepth := 30) only [go_sem, Nat.reduceEqDiff, ↓reduceIte, Nat.reduceAdd, Nat.reduceMul, Nat.reduceLeDiff, Nat.reduceLT, reduceCtorEq, Int.reduceToNat, Int.reduceLE, Int.reduceLT, Int.reduceEq, Int.reduceNeg, Int.reduceNe, Nat.reduceSub, IntKind.bits])
    refine ro_wcall (cRNum17 h0 q d D r.int.2.int.2 f4 W.rdr W.gd o2 (by simp only [RS.int_b]; exact hl)) (fun h5 J => ?_)
    replace W := W.call J.1 J.2
    have o3 := (RS.int_ok o2).1
    have gc := W.gc
    have lobc := W.lobc
    have ltc := W.ltc
    replace W := W.put [.int .i64 r.int.1, .int .i64 r.int.2.int.1, .int .i64 r.int.2.int.2.int.1, .int .i64 0, .int .i64 0, .int .i64 0, .int .i64 0]
    simp (maxSteps := 10000000) (maxDischargeDepth := 30) only [gc, lobc, ltc, go_sem, Nat.reduceEqDiff, ↓reduceIte, Nat.reduceAdd, Nat.reduceMul, Nat.reduceLeDiff, Nat.reduceLT, reduceCtorEq, Int.reduceToNat, Int.reduceLE, Int.reduceLT, Int.reduceEq, Int.reduceNeg, Int.reduceNe, Nat.reduceSub, IntKind.bits]
    generalize h5.put h2.len ⟨false, [.int .i64 r.int.1, .int .i64 r.int.2.int.1, .int .i64 r.int.2.int.2.int.1, .int .i64 0, .int .i64 0, .int .i64 0, .int .i64 0]⟩ = f6 at *
    clear gc lobc ltc
    have gc := W.gc
    have lobc := W.lobc
    have ltc := W.ltc
    have ga := W.ga
    have loba := W.loba
    have lta := W.lta
    simp (maxSteps := 10000000) (maxDischargeDepth := 30) only [gc, ga, lobc, ltc, loba, lta, go_sem, Nat.reduceEqDiff, ↓reduceIte, Nat.reduceAdd, Nat.reduceMul, Nat.reduceLeDiff, Nat.reduceLT, reduceCtorEq, Int.reduceToNat, Int.reduceLE, Int.reduceLT, Int.reduceEq, Int.reduceNeg, Int.reduceNe, Nat.reduceSub, IntKind.bits]
    exact ⟨rfl, (W.fin (by omega) _).1, (W.fin (by omega) _).2⟩
  by_cases d2 : r.int.1 = 2
  · have e : itemRd r = (⟨r.int.1, r.int.2.int.1, 0, r.int.2.int.2.int.1, r.int.2.int.2.int.2.int.1, r.int.2.int.2.int.2.int.2.int.1, 0⟩, r.int.2.int.2.int.2.int.2.int.2) := by unfold itemRd; rw [if_neg d1, if_pos d2]
    rw [e]
    have dk : (r.int.1 = 1) = False := eq_false d1
    have dk2 : (r.int.1 = 2) = True := eq_true d2
    simp (maxSteps := 10000000) (maxDischargeDepth := 30) only [gcK, dk, dk2, go_sem, Nat.reduceEqDiff, ↓reduceIte, Nat.reduceAdd, Nat.reduceMul, Nat.reduceLeDiff, Nat.reduceLT, reduceCtorEq, Int.reduceToNat, Int.reduceLE, Int.reduceLT, Int.reduceEq, Int.reduceNeg, Int.reduceNe, Nat.reduceSub, IntKind.bits]
    clear gcK
    try (simp (maxSteps := 10000000) (maxDischargeDepth := 30) only [go_sem, Nat.reduceEqDiff, ↓reduceIte, Nat.reduceAdd, Nat.reduceMul, Nat.reduceLeDiff, Nat.reduceLT, reduceCtorEq, Int.reduceToNat, Int.reduceLE, Int.reduceLT, Int.reduceEq, Int.reduceNeg, Int.reduceNe, Nat.reduceSub, IntKind.bits])
    refine ro_wcall (cRSp17 h0 q d D r.int.2 g W.rdr W.gd o1 (by simp only [RS.int_b]; exact hl)) (fun h3 J => ?_)
    replace W := W.call J.1 J.2
    have o2 := (RS.int_ok o1).1
    have gc := W.gc
    have lobc := W.lobc
    have ltc := W.ltc
    replace W := W.put [.int .i64 r.int.1, .int .i64 r.int.2.int.1, .int .i64 0, .int .i64 0, .int .i64 0, .int .i64 0, .int .i64 0]
    simp (maxSteps := 10000000) (maxDischargeDepth := 30) only [gc, lobc, ltc, go_sem, Nat.reduceEqDiff, ↓reduceIte, Nat.reduceAdd, Nat.reduceMul, Nat.reduceLeDiff, Nat.reduceLT, reduceCtorEq, Int.reduceToNat, Int.reduceLE, Int.reduceLT, Int.reduceEq, Int.reduceNeg, Int.reduceNe, Nat.reduceSub, IntKind.bits]
    generalize h3.put h2.len ⟨false, [.int .i64 r.int.1, .int .i64 r.int.2.int.1, .int .i64 0, .int .i64 0, .int .i64 0, .int .i64 0, .int .i64 0]⟩ = f4 at *
    clear gc lobc ltc
    try (simp (maxSteps := 10000000) (maxDischargeDepth := 30) only [go_sem, Nat.reduceEqDiff, ↓reduceIte, Nat.reduceAdd, Nat.reduceMul, Nat.reduceLeDiff, Nat.reduceLT, reduceCtorEq, Int.reduceToNat, Int.reduceLE, Int.reduceLT, Int.reduceEq, Int.reduceNeg, Int.reduceNe, Nat.reduceSub, IntKind.bits])
    refine ro_wcall (cRSp17 h0 q d D r.int.2.int.2 f4 W.rdr W.gd o2 (by simp only [RS.int_b]; exact hl)) (fun h5 J => ?_)
    replace W := W.call J.1 J.2
    have o3 := (RS.int_ok o2).1
    have gc := W.gc
    have lobc := W.lobc
    have ltc := W.ltc
    replace W := W.put [.int .i64 r.int.1, .int .i64 r.int.2.int.1, .int .i64 0, .int .i64 r.int.2.int.2.int.1, .int .i64 0, .int .i64 0, .int .i64 0]
    simp (maxSteps := 10000000) (maxDischargeDepth := 30) only [gc, lobc, ltc, go_sem, Nat.reduceEqDiff, ↓reduceIte, Nat.reduceAdd, Nat.reduceMul, Nat.reduceLeDiff, Nat.reduceLT, reduceCtorEq, Int.reduceToNat, Int.reduceLE, Int.reduceLT, Int.reduceEq, Int.reduceNeg, Int.reduceNe, Nat.reduceSub, IntKind.bits]
    generalize h5.put h2.len ⟨false, [.int .i64 r.int.1, .int .i64 r.int.2.int.1, .int .i64 0, .int .i64 r.int.2.int.2.int.1, .int .i64 0, .int .i64 0, .int .i64 0]⟩ = f6 at *
    clear gc lobc ltc
    try (simp (maxSteps := 10000000) (maxDischargeDepth := 30) only [go_sem, Nat.reduceEqDiff, ↓reduceIte, Nat.reduceAdd, Nat.reduceMul, Nat.reduceLeDiff, Nat.reduceLT, reduceCtorEq, Int.reduceToNat, Int.reduceLE, Int.reduceLT, Int.reduceEq, Int.reduceNeg, Int.reduceNe, Nat.reduceSub, IntKind.bits])
    refine ro_wcall (cRNum17 h0 q d D r.int.2.int.2.int.2 f6 W.rdr W.gd o3 (by simp only [RS.int_b]; exact hl)) (fun h7 J => ?_)
    replace W := W.call J.1 J.2
    have o4 := (RS.int_ok o3).1
    have gc := W.gc
    have lobc := W.lobc
    have ltc := W.ltc
    replace W := W.put [.int .i64 r.int.1, .int .i64 r.int.2.int.1, .int .i64 0, .int .i64 r.int.2.int.2.int.1, .int .i64 r.int.2.int.2.int.2.int.1, .int .i64 0, .int .i64 0]
    simp (maxSteps := 10000000) (maxDischargeDepth := 30) only [gc, lobc, ltc, go_sem, Nat.reduceEqDiff, ↓reduceIte, Nat.reduceAdd, Nat.reduceMul, Nat.reduceLeDiff, Nat.reduceLT, reduceCtorEq, Int.reduceToNat, Int.reduceLE, Int.reduceLT, Int.reduceEq, Int.reduceNeg, Int.reduceNe, Nat.reduceSub, IntKind.bits]
    generalize h7.put h2.len ⟨false, [.int .i64 r.int.1, .int .i64 r.int.2.int.1, .int .i64 0, .int .i64 r.int.2.int.2.int.1, .int .i64 r.int.2.int.2.int.2.int.1, .int .i64 0, .int .i64 0]⟩ = f8 at *
    clear gc lobc ltc
    try (simp (maxSteps := 10000000) (maxDischargeDepth := 30) only [go_sem, Nat.reduceEqDiff, ↓reduceIte, Nat.reduceAdd, Nat.reduceMul, Nat.reduceLeDiff, Nat.reduceLT, reduceCtorEq, Int.reduceToNat, Int.reduceLE, Int.reduceLT, Int.reduceEq, Int.reduceNeg, Int.reduceNe, Nat.reduceSub, IntKind.bits])
    refine ro_wcall (cRSp17 h0 q d D r.int.2.int.2.int.2.int.2 f8 W.rdr W.gd o4 (by simp only [RS.int_b]; exact hl)) (fun h9 J => ?_)
    replace W := W.call J.1 J.2
    have o5 := (RS.int_ok o4).1
    have gc := W.gc
    have lobc := W.lobc
    have ltc := W.ltc
    replace W := W.put [.int .i64 r.int.1, .int .i64 r.int.2.int.1, .int .i64 0, .int .i64 r.int.2.int.2.int.1, .int .i64 r.int.2.int.2.int.2.int.1, .int .i64 r.int.2.int.2.int.2.int.2.int.1, .int .i64 0]
    simp (maxSteps := 10000000) (maxDischargeDepth := 30) only [gc, lobc, ltc, go_sem, Nat.reduceEqDiff, ↓reduceIte, Nat.reduceAdd, Nat.reduceMul, Nat.reduceLeDiff, Nat.reduceLT, reduceCtorEq, Int.reduceToNat, Int.reduceLE, Int.reduceLT, Int.reduceEq, Int.reduceNeg, Int.reduceNe, Nat.reduceSub, IntKind.bits]
    generalize h9.put h2.len ⟨false, [.int .i64 r.int.1, .int .i64 r.int.2.int.1, .int .i64 0, .int .i64 r.int.2.int.2.int.1, .int .i64 r.int.2.int.2.int.2.int.1, .int .i64 r.int.2.int.2.int.2.int.2.int.1, .int .i64 0]⟩ = f10 at *
    clear gc lobc ltc
    have gc := W.gc
    have lobc := W.lobc
    have ltc := W.ltc
    have ga := W.ga
    have loba := W.loba
    have lta := W.lta
    simp (maxSteps := 10000000) (maxDischargeDepth := 30) only [gc, ga, lobc, ltc, loba, lta, go_sem, Nat.reduceEqDiff, ↓reduceIte, Nat.reduceAdd, Nat.reduceMul, Nat.reduceLeDiff, Nat.reduceLT, reduceCtorEq, Int.reduceToNat, Int.reduceLE, Int.reduceLT, Int.reduceEq, Int.reduceNeg, Int.reduceNe, Nat.reduceSub, IntKind.bits]
    exact ⟨rfl, (W.fin (by omega) _).1, (W.fin (by omega) _).2⟩
  have dk : (r.int.1 = 1) = False := eq_false d1
  have dk2 : (r.int.1 = 2) = False := eq_false d2
  have e36 : r.int.1 = 3 ∨ r.int.1 = 4 ∨ r.int.1 = 5 ∨ r.int.1 = 6 → itemRd r = (⟨r.int.1, 0, 0, 0, 0, 0, r.int.2.int.1⟩, r.int.2.int.2) := by intro hd; unfold itemRd; rw [if_neg d1, if_neg d2, if_pos hd]
  by_cases d3 : r.int.1 = 3
  · rw [e36 (by omega)]
    have dk3 : (r.int.1 = 3) = True := eq_true d3
    simp (maxSteps := 10000000) (maxDischargeDepth := 30) only [gcK, dk, dk2, dk3, go_sem, Nat.reduceEqDiff, ↓reduceIte, Nat.reduceAdd, Nat.reduceMul, Nat.reduceLeDiff, Nat.reduceLT, reduceCtorEq, Int.reduceToNat, Int.reduceLE, Int.reduceLT, Int.reduceEq, Int.reduceNeg, Int.reduceNe, Nat.reduceSub, IntKind.bits]
    clear gcK
    try (simp (maxSteps := 10000000) (maxDischargeDepth := 30) only [go_sem, Nat.reduceEqDiff, ↓reduceIte, Nat.reduceAdd, Nat.reduceMul, Nat.reduceLeDiff, Nat.reduceLT, reduceCtorEq, Int.reduceToNat, Int.reduceLE, Int.reduceLT, Int.reduceEq, Int.reduceNeg, Int.reduceNe, Nat.reduceSub, IntKind.bits])
    refine ro_wcall (cRNum17 h0 q d D r.int.2 g W.rdr W.gd o1 (by simp only [RS.int_b]; exact hl)) (fun h3 J => ?_)
    replace W := W.call J.1 J.2
    have o2 := (RS.int_ok o1).1
    have gc := W.gc
    have lobc := W.lobc
    have ltc := W.ltc
    replace W := W.put [.int .i64 r.int.1, .int .i64 0, .int .i64 0, .int .i64 0, .int .i64 0, .int .i64 0, .int .i64 r.int.2.int.1]
    simp (maxSteps := 10000000) (maxDischargeDepth := 30) only [gc, lobc, ltc, go_sem, Nat.reduceEqDiff, ↓reduceIte, Nat.reduceAdd, Nat.reduceMul, Nat.reduceLeDiff, Nat.reduceLT, reduceCtorEq, Int.reduceToNat, Int.reduceLE, Int.reduceLT, Int.reduceEq, Int.reduceNeg, Int.reduceNe, Nat.reduceSub, IntKind.bits]
    generalize h3.put h2.len ⟨false, [.int .i64 r.int.1, .int .i64 0, .int .i64 0, .int .i64 0, .int .i64 0, .int .i64 0, .int .i64 r.int.2.int.1]⟩ = f4 at *
    clear gc lobc ltc
    have gc := W.gc
    have lobc := W.lobc
    have ltc := W.ltc
    have ga := W.ga
    have loba := W.loba
    have lta := W.lta
    simp (maxSteps := 10000000) (maxDischargeDepth := 30) only [gc, ga, lobc, ltc, loba, lta, go_sem, Nat.reduceEqDiff, ↓reduceIte, Nat.reduceAdd, Nat.reduceMul, Nat.reduceLeDiff, Nat.reduceLT, reduceCtorEq, Int.reduceToNat, Int.reduceLE, Int.reduceLT, Int.reduceEq, Int.reduceNeg, Int.reduceNe, Nat.reduceSub, IntKind.bits]
    exact ⟨rfl, (W.fin (by omega) _).1, (W.fin (by omega) _).2⟩
  have dk3 : (r.int.1 = 3) = False := eq_false d3
  by_cases d4 : r.int.1 = 4
  · rw [e36 (by omega)]
    have dk4 : (r.int.1 = 4) = True := eq_true d4
    simp (maxSteps := 10000000) (maxDischargeDepth := 30) only [gcK, dk, dk2, dk3, dk4, go_sem, Nat.reduceEqDiff, ↓reduceIte, Nat.reduceAdd, Nat.reduceMul, Nat.reduceLeDiff, Nat.reduceLT, reduceCtorEq, Int.reduceToNat, Int.reduceLE, Int.reduceLT, Int.reduceEq, Int.reduceNeg, Int.reduceNe, Nat.reduceSub, IntKind.bits]
    clear gcK
    try (simp (maxSteps := 10000000) (maxDischargeDepth := 30) only [go_sem, Nat.reduceEqDiff, ↓reduceIte, Nat.reduceAdd, Nat.reduceMul, Nat.reduceLeDiff, Nat.reduceLT, reduceCtorEq, Int.reduceToNat, Int.reduceLE, Int.reduceLT, Int.reduceEq, Int.reduceNeg, Int.reduceNe, Nat.reduceSub, IntKind.bits])
    refine ro_wcall (cRNum17 h0 q d D r.int.2 g W.rdr W.gd o1 (by simp only [RS.int_b]; exact hl)) (fun h3 J => ?_)
    replace W := W.call J.1 J.2
    have o2 := (RS.int_ok o1).1
    have gc := W.gc
    have lobc := W.lobc
    have ltc := W.ltc
    replace W := W.put [.int .i64 r.int.1, .int .i64 0, .int .i64 0, .int .i64 0, .int .i64 0, .int .i64 0, .int .i64 r.int.2.int.1]
    simp (maxSteps := 10000000) (maxDischargeDepth := 30) only [gc, lobc, ltc, go_sem, Nat.reduceEqDiff, ↓reduceIte, Nat.reduceAdd, Nat.reduceMul, Nat.reduceLeDiff, Nat.reduceLT, reduceCtorEq, Int.reduceToNat, Int.reduceLE, Int.reduceLT, Int.reduceEq, Int.reduceNeg, Int.reduceNe, Nat.reduceSub, IntKind.bits]
    generalize h3.put h2.len ⟨false, [.int .i64 r.int.1, .int .i64 0, .int .i64 0, .int .i64 0, .int .i64 0, .int .i64 0, .int .i64 r.int.2.int.1]⟩ = f4 at *
    clear gc lobc ltc
    have gc := W.gc
    have lobc := W.lobc
    have ltc := W.ltc
    have ga := W.ga
    have loba := W.loba
    have lta := W.lta
    simp (maxSteps := 10000000) (maxDischargeDepth := 30) only [gc, ga, lobc, ltc, loba, lta, go_sem, Nat.reduceEqDiff, ↓reduceIte, Nat.reduceAdd, Nat.reduceMul, Nat.reduceLeDiff, Nat.reduceLT, reduceCtorEq, Int.reduceToNat, Int.reduceLE, Int.reduceLT, Int.reduceEq, Int.reduceNeg, Int.reduceNe, Nat.reduceSub, IntKind.bits]
    exact ⟨rfl, (W.fin (by omega) _).1, (W.fin (by omega) _).2⟩
  have dk4 : (r.int.1 = 4) = False := eq_false d4
  by_cases d5 : r.int.1 = 5
  · rw [e36 (by omega)]
    have dk5 : (r.int.1 = 5) = True := eq_true d5
    simp (maxSteps := 10000000) (maxDischargeDepth := 30) only [gcK, dk, dk2, dk3, dk4, dk5, go_sem, Nat.reduceEqDiff, ↓reduceIte, Nat.reduceAdd, Nat.reduceMul, Nat.reduceLeDiff, Nat.reduceLT, reduceCtorEq, Int.reduceToNat, Int.reduceLE, Int.reduceLT, Int.reduceEq, Int.reduceNeg, Int.reduceNe, Nat.reduceSub, IntKind.bits]
    clear gcK
    try (simp (maxSteps := 10000000) (maxDischargeDepth := 30) only [go_sem, Nat.reduceEqDiff, ↓reduceIte, Nat.reduceAdd, Nat.reduceMul, Nat.reduceLeDiff, Nat.reduceLT, reduceCtorEq, Int.reduceToNat, Int.reduceLE, Int.reduceLT, Int.reduceEq, Int.reduceNeg, Int.reduceNe, Nat.reduceSub, IntKind.bits])
    refine ro_wcall (cRNum17 h0 q d D r.int.2 g W.rdr W.gd o1 (by simp only [RS.int_b]; exact hl)) (fun h3 J => ?_)
    replace W := W.call J.1 J.2
    have o2 := (RS.int_ok o1).1
    have gc := W.gc
    have lobc := W.lobc
    have ltc := W.ltc
    replace W := W.put [.int .i64 r.int.1, .int .i64 0, .int .i64 0, .int .i64 0, .int .i64 0, .int .i64 0, .int .i64 r.int.2.int.1]
    simp (maxSteps := 10000000) (maxDischargeDepth := 30) only [gc, lobc, ltc, go_sem, Nat.reduceEqDiff, ↓reduceIte, Nat.reduceAdd, Nat.reduceMul, Nat.reduceLeDiff, Nat.reduceLT, reduceCtorEq, Int.reduceToNat, Int.reduceLE, Int.reduceLT, Int.reduceEq, Int.reduceNeg, Int.reduceNe, Nat.reduceSub, IntKind.bits]
    generalize h3.put h2.len ⟨false, [.int .i64 r.int.1, .int .i64 0, .int .i64 0, .int .i64 0, .int .i64 0, .int .i64 0, .int .i64 r.int.2.int.1]⟩ = f4 at *
    clear gc lobc ltc
    have gc := W.gc
    have lobc := W.lobc
    have ltc := W.ltc
    have ga := W.ga
    have loba := W.loba
    have lta := W.lta
    simp (maxSteps := 10000000) (maxDischargeDepth := 30) only [gc, ga, lobc, ltc, loba, lta, go_sem, Nat.reduceEqDiff, ↓reduceIte, Nat.reduceAdd, Nat.reduceMul, Nat.reduceLeDiff, Nat.reduceLT, reduceCtorEq, Int.reduceToNat, Int.reduceLE, Int.reduceLT, Int.reduceEq, Int.reduceNeg, Int.reduceNe, Nat.reduceSub, IntKind.bits]
    exact ⟨rfl, (W.fin (by omega) _).1, (W.fin (by omega) _).2⟩
  have dk5 : (r.int.1 = 5) = False := eq_false d5
  by_cases d6 : r.int.1 = 6
  · rw [e36 (by omega)]
    have dk6 : (r.int.1 = 6) = True := eq_true d6
    simp (maxSteps := 10000000) (maxDischargeDepth := 30) only [gcK, dk, dk2, dk3, dk4, dk5, dk6, go_sem, Nat.reduceEqDiff, ↓reduceIte, Nat.reduceAdd, Nat.reduceMul, Nat.reduceLeDiff, Nat.reduceLT, reduceCtorEq, Int.reduceToNat, Int.reduceLE, Int.reduceLT, Int.reduceEq, Int.reduceNeg, Int.reduceNe, Nat.reduceSub, IntKind.bits]
    clear gcK
    try (simp (maxSteps := 10000000) (maxDischargeDepth := 30) only [go_sem, Nat.reduceEqDiff, ↓reduceIte, Nat.reduceAdd, Nat.reduceMul, Nat.reduceLeDiff, Nat.reduceLT, reduceCtorEq, Int.reduceToNat, Int.reduceLE, Int.reduceLT, Int.reduceEq, Int.reduceNeg, Int.reduceNe, Nat.reduceSub, IntKind.bits])
    refine ro_wcall (cRNum17 h0 q d D r.int.2 g W.rdr W.gd o1 (by simp only [RS.int_b]; exact hl)) (fun h3 J => ?_)
    replace W := W.call J.1 J.2
    have o2 := (RS.int_ok o1).1
    have gc := W.gc
    have lobc := W.lobc
    have ltc := W.ltc
    replace W := W.put [.int .i64 r.int.1, .int .i64 0, .int .i64 0, .int .i64 0, .int .i64 0, .int .i64 0, .int .i64 r.int.2.int.1]
    simp (maxSteps := 10000000) (maxDischargeDepth := 30) only [gc, lobc, ltc, go_sem, Nat.reduceEqDiff, ↓reduceIte, Nat.reduceAdd, Nat.reduceMul, Nat.reduceLeDiff, Nat.reduceLT, reduceCtorEq, Int.reduceToNat, Int.reduceLE, Int.reduceLT, Int.reduceEq, Int.reduceNeg, Int.reduceNe, Nat.reduceSub, IntKind.bits]
    generalize h3.put h2.len ⟨false, [.int .i64 r.int.1, .int .i64 0, .int .i64 0, .int .i64 0, .int .i64 0, .int .i64 0, .int .i64 r.int.2.int.1]⟩ = f4 at *
    clear gc lobc ltc
    have gc := W.gc
    have lobc := W.lobc
    have ltc := W.ltc
    have ga := W.ga
    have loba := W.loba
    have lta := W.lta
    simp (maxSteps := 10000000) (maxDischargeDepth := 30) only [gc, ga, lobc, ltc, loba, lta, go_sem, Nat.reduceEqDiff, ↓reduceIte, Nat.reduceAdd, Nat.reduceMul, Nat.reduceLeDiff, Nat.reduceLT, reduceCtorEq, Int.reduceToNat, Int.reduceLE, Int.reduceLT, Int.reduceEq, Int.reduceNeg, Int.reduceNe, Nat.reduceSub, IntKind.bits]
    exact ⟨rfl, (W.fin (by omega) _).1, (W.fin (by omega) _).2⟩
  have dk6 : (r.int.1 = 6) = False := eq_false d6
  have ga := W.ga
  have loba := W.loba
  have lta := W.lta
  by_cases d7 : r.int.1 = 7
  · have e : itemRd r = (⟨r.int.1, 0, 0, 0, 0, 0, 0⟩, r.int.2) := by unfold itemRd; rw [if_neg d1, if_neg d2, if_neg (by omega), if_pos d7]
    rw [e]
    have dk7 : (r.int.1 = 7) = True := eq_true d7
    simp (maxSteps := 10000000) (maxDischargeDepth := 30) only [gcK, dk, dk2, dk3, dk4, dk5, dk6, dk7, ga, loba, lta, go_sem, Nat.reduceEqDiff, ↓reduceIte, Nat.reduceAdd, Nat.reduceMul, Nat.reduceLeDiff, Nat.reduceLT, reduceCtorEq, Int.reduceToNat, Int.reduceLE, Int.reduceLT, Int.reduceEq, Int.reduceNeg, Int.reduceNe, Nat.reduceSub, IntKind.bits]
    exact ⟨rfl, (W.fin (by omega) _).1, (W.fin (by omega) _).2⟩
  have e : itemRd r = (⟨r.int.1, 0, 0, 0, 0, 0, 0⟩, r.int.2.halt) := by unfold itemRd; rw [if_neg d1, if_neg d2, if_neg (by omega), if_neg d7]
  rw [e]
  have dk7 : (r.int.1 = 7) = False := eq_false d7
  have gdW := W.gd
  obtain ⟨t, gq⟩ := W.rdr.get
  have lobq := W.rdr.lob
  have ltq := W.rdr.lt
  have S1 := W.rdr.put t r.int.2.halt
  have loba9 := W.loba
  have lta9 := W.lta
  replace W := W.call S1.1 S1.2
  have gc9 := W.gc
  have ga9 := W.ga
  have eB : (g.put q ⟨false, [bytsL t r.int.2.b, .int .i64 r.int.2.at_, .bool true]⟩) = g.put q ⟨false, [bytsL t r.int.2.halt.b, .int .i64 r.int.2.halt.at_, .bool r.int.2.halt.stop]⟩ := rfl
  simp (maxSteps := 10000000) (maxDischargeDepth := 30) only [gcK, dk, dk2, dk3, dk4, dk5, dk6, dk7, gdW, gq, lobq, ltq, eB, gc9, ga9, loba9, lta9, go_sem, Nat.reduceEqDiff, ↓reduceIte, Nat.reduceAdd, Nat.reduceMul, Nat.reduceLeDiff, Nat.reduceLT, reduceCtorEq, Int.reduceToNat, Int.reduceLE, Int.reduceLT, Int.reduceEq, Int.reduceNeg, Int.reduceNe, Nat.reduceSub, IntKind.bits]
  exact ⟨rfl, (W.fin (by omega) _).1, (W.fin (by omega) _).2⟩
end Go.LM
