import Derived.Test.YtgbhkmgmpodnkaaLmTrcRc
import Derived.Test.YtgbhkmgmpodnkaaLmcPile4
namespace Go.LM
open Go.Proofs
set_option maxRecDepth 8000
set_option maxHeartbeats 4000000
set_option linter.unusedSimpArgs false
set_option linter.unusedVariables false
structure Pl (C : Prop) (h0 : H) (p r : Nat) (o : Option Nat) (l : List PairR) (h : H) : Prop where
  row : Row2 h0 r o l h
  gp : h.get p = some ⟨false, [.ptr r 0]⟩
  pr : p ≠ r
  po : o ≠ some p
  hp0 : h0.len ≤ p
  heap : C → InR l ∧ HeapN l l.length
theorem Pl.next {C : Prop} {h0 : H} {p r : Nat} {o : Option Nat} {l : List PairR} {h h' : H} (w : Pl C h0 p r o l h) (k : Keep h h') : Pl C h0 p r o l h' :=
  ⟨w.row.next k, (k.get (lt_of_get w.gp)).trans w.gp, w.pr, w.po, w.hp0, w.heap⟩
theorem pMade1 {C : Prop} {h0 : H} {p r : Nat} {o : Option Nat} {l : List PairR} {h : H} (w : Pl C h0 p r o l h) : runI Try.prog TA 58 [.ptr p 0] h = some (.bool true, hp Try.prog TA 58 [.ptr p 0] h) := by
  refine pure_of rfl res58 rfl ?_
  have g := w.gp
  simp (maxSteps := 10000000) (maxDischargeDepth := 30) only [q58, r58, g, go_sem, Nat.reduceEqDiff, ↓reduceIte, Nat.reduceAdd, Nat.reduceMul, Nat.reduceLeDiff, Nat.reduceLT, reduceCtorEq, Int.reduceToNat, Int.reduceLE, Int.reduceLT, Int.reduceEq, Int.reduceNeg, Int.reduceNe, Int.reducePow, Nat.reducePow, Nat.reduceSub, IntKind.bits]
theorem pPlLen {C : Prop} {h0 : H} {p r : Nat} {o : Option Nat} {l : List PairR} {h : H} (w : Pl C h0 p r o l h) : runI Try.prog TA 43 [.ptr p 0] h = some (.int .i64 l.length, hp Try.prog TA 43 [.ptr p 0] h) := by
  refine pure_of rfl res43 rfl ?_
  simp (maxSteps := 10000000) (maxDischargeDepth := 30) only [q43, r43, go_sem, Nat.reduceEqDiff, ↓reduceIte, Nat.reduceAdd, Nat.reduceMul, Nat.reduceLeDiff, Nat.reduceLT, reduceCtorEq, Int.reduceToNat, Int.reduceLE, Int.reduceLT, Int.reduceEq, Int.reduceNeg, Int.reduceNe, Int.reducePow, Nat.reducePow, Nat.reduceSub, IntKind.bits]
  refine ro_kcall (pMade1 w) w.row.wf (fun h1 k1 w1 => ?_)
  have W1 := w.next k1
  have g := W1.gp
  simp (maxSteps := 10000000) (maxDischargeDepth := 30) only [g, go_sem, Nat.reduceEqDiff, ↓reduceIte, Nat.reduceAdd, Nat.reduceMul, Nat.reduceLeDiff, Nat.reduceLT, reduceCtorEq, Int.reduceToNat, Int.reduceLE, Int.reduceLT, Int.reduceEq, Int.reduceNeg, Int.reduceNe, Int.reducePow, Nat.reducePow, Nat.reduceSub, IntKind.bits]
  refine ro_kcall (pRowLen W1.row) w1 (fun h2 k2 w2 => ?_)
  have kk := k1.trans k2
  simp (maxSteps := 10000000) (maxDischargeDepth := 30) only [kk, go_sem, Nat.reduceEqDiff, ↓reduceIte, Nat.reduceAdd, Nat.reduceMul, Nat.reduceLeDiff, Nat.reduceLT, reduceCtorEq, Int.reduceToNat, Int.reduceLE, Int.reduceLT, Int.reduceEq, Int.reduceNeg, Int.reduceNe, Int.reducePow, Nat.reducePow, Nat.reduceSub, IntKind.bits]
def okPush (C : Prop) (h0 h : H) (p r : Nat) (o : Option Nat) (l : List PairR) (x : PairR) (h' : H) : Prop :=
  (∃ m' l', Pl C h0 p r (some m') l' h' ∧ h.len ≤ m' ∧ l'.Perm (l ++ [x])) ∧ Fr2 r o h h'
theorem cPlPush {C : Prop} {h0 : H} {p r : Nat} {o : Option Nat} {l : List PairR} {h : H} (w : Pl C h0 p r o l h) (x : PairR) (hx : C → -1099511627776 ≤ x.a ∧ x.a ≤ 1099511627776) (hb : l.length ≤ 100000) :
    ∃ h', runI Try.prog TA 37 [.ptr p 0, x.e] h = some (.tup [], h') ∧ okPush C h0 h p r o l x h' := by
  refine calls_ex rfl res37 rfl ?_
  have k0 := (Keep.refl h).alloc [.int .i64 x.a, .int .i64 x.b]
  have W0 := w.next k0
  simp (maxSteps := 10000000) (maxDischargeDepth := 30) only [q37, r37, PairR.e, go_sem, Nat.reduceEqDiff, ↓reduceIte, Nat.reduceAdd, Nat.reduceMul, Nat.reduceLeDiff, Nat.reduceLT, reduceCtorEq, Int.reduceToNat, Int.reduceLE, Int.reduceLT, Int.reduceEq, Int.reduceNeg, Int.reduceNe, Int.reducePow, Nat.reducePow, Nat.reduceSub, IntKind.bits]
  refine ro_kcall (pMade1 W0) W0.row.wf (fun h1 k1 w1 => ?_)
  have W1 := W0.next k1
  have g := W1.gp
  have gx := (k1.get (by rw [len_alloc]; omega)).trans (get_alloc_eq h [.int .i64 x.a, .int .i64 x.b])
  simp (maxSteps := 10000000) (maxDischargeDepth := 30) only [g, gx, mkiK_ptr ty_u75, mkiK_struct ty_u53, go_sem, Nat.reduceEqDiff, ↓reduceIte, Nat.reduceAdd, Nat.reduceMul, Nat.reduceLeDiff, Nat.reduceLT, reduceCtorEq, Int.reduceToNat, Int.reduceLE, Int.reduceLT, Int.reduceEq, Int.reduceNeg, Int.reduceNe, Int.reducePow, Nat.reducePow, Nat.reduceSub, IntKind.bits]
  refine rw_wcall (cHpPush W1.row x hb) (fun h2 J => ?_)
  obtain ⟨⟨m', l', R2, hm, p2, hp2⟩, F2⟩ := J
  simp (maxSteps := 10000000) (maxDischargeDepth := 30) only [go_sem, Nat.reduceEqDiff, ↓reduceIte, Nat.reduceAdd, Nat.reduceMul, Nat.reduceLeDiff, Nat.reduceLT, reduceCtorEq, Int.reduceToNat, Int.reduceLE, Int.reduceLT, Int.reduceEq, Int.reduceNeg, Int.reduceNe, Int.reducePow, Nat.reducePow, Nat.reduceSub, IntKind.bits]
  have kk := k0.trans k1
  refine ⟨⟨m', l', ⟨R2, ?_, w.pr, ?_, w.hp0, fun c => ?_⟩, by have := kk.len; omega, p2⟩, (kk.fr2 r o).trans F2 (.inl rfl)⟩
  · exact (F2.box p (lt_of_get g) w.pr w.po).trans g
  · intro e
    have := lt_of_get g
    cases e; omega
  · obtain ⟨c1, c2⟩ := W1.heap c
    have hi : InR l' := fun y hy => by
      rcases List.mem_append.1 (p2.mem_iff.1 hy) with h | h
      · exact c1 y h
      · rw [List.mem_singleton.1 h]; exact hx c
    exact ⟨hi, hp2 (fun _ => c2) hi⟩
theorem pPeek0 {C : Prop} {h0 : H} {p r : Nat} {o : Option Nat} {h : H} (w : Pl C h0 p r o [] h) : runI Try.prog TA 39 [.ptr p 0] h = some (.tup [pr 0 0, .bool false], hp Try.prog TA 39 [.ptr p 0] h) := by
  refine pure_of rfl res39 rfl ?_
  simp (maxSteps := 10000000) (maxDischargeDepth := 30) only [q39, r39, go_sem, Nat.reduceEqDiff, ↓reduceIte, Nat.reduceAdd, Nat.reduceMul, Nat.reduceLeDiff, Nat.reduceLT, reduceCtorEq, Int.reduceToNat, Int.reduceLE, Int.reduceLT, Int.reduceEq, Int.reduceNeg, Int.reduceNe, Int.reducePow, Nat.reducePow, Nat.reduceSub, IntKind.bits]
  have k := (Keep.refl h).alloc [.int .i64 0, .int .i64 0]
  have g : (h.alloc [.int .i64 0, .int .i64 0]).get h.len = _ := get_alloc_eq _ _
  have W0 := w.next k
  refine ro_kcall (pPlLen W0) W0.row.wf (fun h1 k1 w1 => ?_)
  have g1 := (k1.get (lt_of_get g)).trans g
  have l1 := lt_of_get g1
  have l2 : h.len < h1.len + 1 := by omega
  have lo : h1.lob ≤ h.len := by rw [k1.lob, k.lob]; exact w.row.wf.1
  have kf : ∀ c B, Keep h ((h1.alloc c).put h.len B) := fun c B => ((k.trans k1).alloc c).put (Nat.le_refl _) B
  simp (maxSteps := 10000000) (maxDischargeDepth := 30) only [Int.natCast_zero, g1, l1, l2, lo, kf, go_sem, Nat.reduceEqDiff, ↓reduceIte, Nat.reduceAdd, Nat.reduceMul, Nat.reduceLeDiff, Nat.reduceLT, reduceCtorEq, Int.reduceToNat, Int.reduceLE, Int.reduceLT, Int.reduceEq, Int.reduceNeg, Int.reduceNe, Int.reducePow, Nat.reducePow, Nat.reduceSub, IntKind.bits]
theorem pPeek1 {C : Prop} {h0 : H} {p r : Nat} {o : Option Nat} {l : List PairR} {x : PairR} {h : H} (w : Pl C h0 p r o l h) (hx : l[0]? = some x) : runI Try.prog TA 39 [.ptr p 0] h = some (.tup [x.e, .bool true], hp Try.prog TA 39 [.ptr p 0] h) := by
  refine pure_of rfl res39 rfl ?_
  simp (maxSteps := 10000000) (maxDischargeDepth := 30) only [q39, r39, go_sem, Nat.reduceEqDiff, ↓reduceIte, Nat.reduceAdd, Nat.reduceMul, Nat.reduceLeDiff, Nat.reduceLT, reduceCtorEq, Int.reduceToNat, Int.reduceLE, Int.reduceLT, Int.reduceEq, Int.reduceNeg, Int.reduceNe, Int.reducePow, Nat.reducePow, Nat.reduceSub, IntKind.bits]
  have k := (Keep.refl h).alloc [.int .i64 0, .int .i64 0]
  have g : (h.alloc [.int .i64 0, .int .i64 0]).get h.len = _ := get_alloc_eq _ _
  have W0 := w.next k
  refine ro_kcall (pPlLen W0) W0.row.wf (fun h1 k1 w1 => ?_)
  have W1 := W0.next k1
  have g1 := (k1.get (lt_of_get g)).trans g
  have l1 := lt_of_get g1
  have lo : h1.lob ≤ h.len := by rw [k1.lob, k.lob]; exact w.row.wf.1
  have hl : 0 < l.length := (List.getElem?_eq_some_iff.1 hx).1
  have en : ((l.length : Int) = 0) = False := eq_false (by omega)
  have gp := W1.gp
  have at_ := W1.row.at_
  cases o with
  | none => exfalso; obtain ⟨rfl, _⟩ := at_; simp at hx
  | some m =>
    obtain ⟨-, -, gr, c, gm, -⟩ := at_
    have ei : indexAddrL Try.prog 55 (.sm m l.length 2) (.int .i64 0) = some (.pm m 0) := ia55 (i := 0) hl
    have li : loadL Try.prog 53 (.pm m 0) h1 = some x.e := load_pair (i := 0) ty_p53 gm hx
    have kf : ∀ B, Keep h (h1.put h.len B) := fun B => (k.trans k1).put (Nat.le_refl _) B
    simp (maxSteps := 10000000) (maxDischargeDepth := 30) only [en, gp, gr, ei, li, PairR.e, g1, l1, lo, kf, go_sem, Nat.reduceEqDiff, ↓reduceIte, Nat.reduceAdd, Nat.reduceMul, Nat.reduceLeDiff, Nat.reduceLT, reduceCtorEq, Int.reduceToNat, Int.reduceLE, Int.reduceLT, Int.reduceEq, Int.reduceNeg, Int.reduceNe, Int.reducePow, Nat.reducePow, Nat.reduceSub, IntKind.bits]
theorem cPlPop0 {C : Prop} {h0 : H} {p r : Nat} {o : Option Nat} {h : H} (w : Pl C h0 p r o [] h) : runI Try.prog TA 40 [.ptr p 0] h = some (.tup [pr 0 0, .bool false], hp Try.prog TA 40 [.ptr p 0] h) := by
  refine pure_of rfl res40 rfl ?_
  simp (maxSteps := 10000000) (maxDischargeDepth := 30) only [q40, r40, go_sem, Nat.reduceEqDiff, ↓reduceIte, Nat.reduceAdd, Nat.reduceMul, Nat.reduceLeDiff, Nat.reduceLT, reduceCtorEq, Int.reduceToNat, Int.reduceLE, Int.reduceLT, Int.reduceEq, Int.reduceNeg, Int.reduceNe, Int.reducePow, Nat.reducePow, Nat.reduceSub, IntKind.bits]
  have k := (Keep.refl h).alloc [.int .i64 0, .int .i64 0]
  have g : (h.alloc [.int .i64 0, .int .i64 0]).get h.len = _ := get_alloc_eq _ _
  have W0 := w.next k
  refine ro_kcall (pPeek0 W0) W0.row.wf (fun h1 k1 w1 => ?_)
  have g1 := (k1.get (lt_of_get g)).trans g
  have l1 := lt_of_get g1
  have l2 : h.len < h1.len + 1 := by omega
  have lo : h1.lob ≤ h.len := by rw [k1.lob, k.lob]; exact w.row.wf.1
  have lo1 := w1.1
  have kf : ∀ c B B', Keep h (((h1.alloc c).put h1.len B').put h.len B) := fun c B B' => (((k.trans k1).alloc c).put (by have := k.len; have := k1.len; omega) B').put (Nat.le_refl _) B
  simp (maxSteps := 10000000) (maxDischargeDepth := 30) only [g1, l1, l2, lo, lo1, kf, go_sem, Nat.reduceEqDiff, ↓reduceIte, Nat.reduceAdd, Nat.reduceMul, Nat.reduceLeDiff, Nat.reduceLT, reduceCtorEq, Int.reduceToNat, Int.reduceLE, Int.reduceLT, Int.reduceEq, Int.reduceNeg, Int.reduceNe, Int.reducePow, Nat.reducePow, Nat.reduceSub, IntKind.bits]
def okPop (C : Prop) (h0 h : H) (p r m : Nat) (l : List PairR) (x : PairR) (h' : H) : Prop :=
  (∃ l', Pl C h0 p r (some m) l' h' ∧ (x :: l').Perm l) ∧ Fr2 r (some m) h h'
theorem cPlPop {C : Prop} {h0 : H} {p r m : Nat} {l : List PairR} {x : PairR} {h : H} (w : Pl C h0 p r (some m) l h) (hx : l[0]? = some x) (hb : l.length ≤ 100000) :
    ∃ h', runI Try.prog TA 40 [.ptr p 0] h = some (.tup [x.e, .bool true], h') ∧ okPop C h0 h p r m l x h' := by
  refine calls_ex rfl res40 rfl ?_
  have hl0 : 0 < l.length := (List.getElem?_eq_some_iff.1 hx).1
  obtain ⟨n, hn⟩ : ∃ n, l.length = n + 1 := ⟨l.length - 1, by omega⟩
  simp (maxSteps := 10000000) (maxDischargeDepth := 30) only [q40, r40, go_sem, Nat.reduceEqDiff, ↓reduceIte, Nat.reduceAdd, Nat.reduceMul, Nat.reduceLeDiff, Nat.reduceLT, reduceCtorEq, Int.reduceToNat, Int.reduceLE, Int.reduceLT, Int.reduceEq, Int.reduceNeg, Int.reduceNe, Int.reducePow, Nat.reducePow, Nat.reduceSub, IntKind.bits]
  have k := (Keep.refl h).alloc [.int .i64 0, .int .i64 0]
  have g : (h.alloc [.int .i64 0, .int .i64 0]).get h.len = _ := get_alloc_eq _ _
  have W0 := w.next k
  refine ro_kcall (pPeek1 W0 hx) W0.row.wf (fun h1 k1 w1 => ?_)
  have W1 := W0.next k1
  have g1 := (k1.get (lt_of_get g)).trans g
  have l1 := lt_of_get g1
  have lo1 := w1.1
  have k2 : Keep h1 ((h1.alloc [.int .i64 0, .int .i64 0]).put h1.len ⟨false, [.int .i64 x.a, .int .i64 x.b]⟩) := ((Keep.refl h1).alloc _).put (Nat.le_refl _) _
  have W2 := W1.next k2
  have gp1 := W1.gp
  have lp1 := lt_of_get gp1
  simp (maxSteps := 10000000) (maxDischargeDepth := 30) only [lo1, PairR.e, gp1, lp1, mkiK_ptr ty_u75, go_sem, Nat.reduceEqDiff, ↓reduceIte, Nat.reduceAdd, Nat.reduceMul, Nat.reduceLeDiff, Nat.reduceLT, reduceCtorEq, Int.reduceToNat, Int.reduceLE, Int.reduceLT, Int.reduceEq, Int.reduceNeg, Int.reduceNe, Int.reducePow, Nat.reducePow, Nat.reduceSub, IntKind.bits]
  generalize hgg : H.put _ _ _ = h2 at *
  have gx2 : h2.get h1.len = some ⟨false, [.int .i64 x.a, .int .i64 x.b]⟩ := by rw [← hgg]; exact get_put_eq (by rw [len_alloc]; omega)
  have g2 := (k2.get l1).trans g1
  try (simp (maxSteps := 10000000) (maxDischargeDepth := 30) only [go_sem, Nat.reduceEqDiff, ↓reduceIte, Nat.reduceAdd, Nat.reduceMul, Nat.reduceLeDiff, Nat.reduceLT, reduceCtorEq, Int.reduceToNat, Int.reduceLE, Int.reduceLT, Int.reduceEq, Int.reduceNeg, Int.reduceNe, Int.reducePow, Nat.reducePow, Nat.reduceSub, IntKind.bits])
  refine ro_wcall (cHpPop W2.row hn hx (by omega)) (fun h3 J => ?_)
  obtain ⟨⟨l', R3, p3, hp3⟩, F3⟩ := J
  have hml := (W2.row.lo0 m rfl)
  have hrl := W2.row.lt
  have hm0 := (w.row.lo0 m rfl)
  have hr0 := w.row.lt
  have g3 := (F3.box h.len (lt_of_get g2) (by omega) (by intro e; cases e; omega)).trans g2
  have kl := k1.len
  rw [len_alloc] at kl
  have gx3 := (F3.box h1.len (lt_of_get gx2) (by omega) (by intro e; cases e; omega)).trans gx2
  have gp3 := (F3.box p (lt_of_get W2.gp) w.pr w.po).trans W2.gp
  have l3 := lt_of_get g3
  have lo3 : h3.lob ≤ h.len := by rw [F3.lob, k2.lob, k1.lob, k.lob]; exact w.row.wf.1
  simp (maxSteps := 10000000) (maxDischargeDepth := 30) only [g3, gx3, l3, lo3, go_sem, Nat.reduceEqDiff, ↓reduceIte, Nat.reduceAdd, Nat.reduceMul, Nat.reduceLeDiff, Nat.reduceLT, reduceCtorEq, Int.reduceToNat, Int.reduceLE, Int.reduceLT, Int.reduceEq, Int.reduceNeg, Int.reduceNe, Int.reducePow, Nat.reducePow, Nat.reduceSub, IntKind.bits]
  have kf : ∀ B, Keep h3 (h3.put h.len B) → True := fun _ _ => trivial
  have hne : p ≠ h.len := by have := lt_of_get w.gp; omega
  have Fp := put_fr2 (o := some m) (r := h.len) h3 h.len ⟨false, [.int .i64 x.a, .int .i64 x.b]⟩ (.inl rfl)
  have gr3 := R3.at_
  obtain ⟨q1, q2, q3, c, q4, q5⟩ := gr3
  have hkk : Keep h0 (h3.put h.len ⟨false, [.int .i64 x.a, .int .i64 x.b]⟩) := R3.keep.put (by have := w.row.keep.len; exact this) _
  refine ⟨⟨l', ⟨⟨⟨q1, q2, (get_put_ne (by omega)).trans q3, c, (get_put_ne (by omega)).trans q4, q5⟩, w.row.new, hkk, wf_put R3.wf, w.row.lo⟩, (get_put_ne (Ne.symm hne)).trans gp3, w.pr, w.po, w.hp0, fun cc => ?_⟩, p3⟩, ?_⟩
  · obtain ⟨c1, c2⟩ := w.heap cc
    have hi : InR l' := fun y hy => c1 y (p3.mem_iff.1 (List.mem_cons_of_mem x hy))
    exact ⟨hi, hp3 (fun _ => c2) hi c1⟩
  · have f := ((k.trans k1).trans k2).fr2 r (some m) |>.trans F3 (.inl rfl)
    refine ⟨by rw [len_put]; exact f.len, by rw [rlen_put]; exact f.rlen, fun q hq => by rw [rget_put]; exact f.rget q hq, by rw [lob_put]; exact f.lob, by rw [lor_put]; exact f.lor, fun b hb h4 h5 => ?_⟩
    rw [get_put_ne (by omega)]
    exact f.box b hb h4 h5
end Go.LM
