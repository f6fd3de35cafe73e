import Derived.Test.YtgbhkmgmpodnkaaLmTrcRc
import Derived.Test.YtgbhkmgmpodnkaaLmB13
import Derived.Test.YtgbhkmgmpodnkaaLmcPile1
namespace Go.LM
open Go.Proofs
set_option maxRecDepth 8000
set_option maxHeartbeats 4000000
set_option linter.unusedSimpArgs false
set_option linter.unusedVariables false
/-! ### a pile's row -/
structure Fr2 (r : Nat) (o : Option Nat) (h h' : H) : Prop where
  len : h.len ≤ h'.len
  rlen : h.rlen ≤ h'.rlen
  rget : ∀ q, q < h.rlen → h'.rget q = h.rget q
  lob : h'.lob = h.lob
  lor : h'.lor = h.lor
  box : ∀ b, b < h.len → b ≠ r → o ≠ some b → h'.get b = h.get b
theorem Keep.fr2 {h h' : H} (k : Keep h h') (r : Nat) (o : Option Nat) : Fr2 r o h h' := ⟨k.len, k.rlen, fun q hq => k.rget hq, k.lob, k.lor, fun b hb _ _ => k.get hb⟩
theorem Fr2.trans {r : Nat} {o o' : Option Nat} {h h1 h2 : H} (a : Fr2 r o h h1) (b : Fr2 r o' h1 h2) (ho : o' = o ∨ ∀ m, o' = some m → h.len ≤ m) : Fr2 r o h h2 := by
  refine ⟨Nat.le_trans a.len b.len, Nat.le_trans a.rlen b.rlen, fun q hq => (b.rget q (Nat.lt_of_lt_of_le hq a.rlen)).trans (a.rget q hq), b.lob.trans a.lob, b.lor.trans a.lor, fun x hx h3 h4 => ?_⟩
  refine (b.box x (Nat.lt_of_lt_of_le hx a.len) h3 ?_).trans (a.box x hx h3 h4)
  rcases ho with rfl | ho
  · exact h4
  · intro e; have := ho x e; omega
theorem Fr2.keep {r : Nat} {o : Option Nat} {h0 h h' : H} (f : Fr2 r o h h') (k : Keep h0 h) (hr : h0.len ≤ r) (ho : ∀ m, o = some m → h0.len ≤ m) : Keep h0 h' := by
  refine ⟨⟨⟨Nat.le_trans k.len f.len, Nat.le_trans k.rlen f.rlen⟩, fun b hb => ?_, fun q hq => (f.rget q (Nat.lt_of_lt_of_le hq k.rlen)).trans (k.rget hq)⟩, f.lob.trans k.lob, f.lor.trans k.lor⟩
  have hb : b < h0.len := hb
  refine (f.box b (Nat.lt_of_lt_of_le hb k.len) (by omega) (fun e => by have := ho b e; omega)).trans (k.get hb)
def rowAt (h0 : H) (r : Nat) (l : List PairR) (h : H) : Option Nat → Prop
  | none => l = [] ∧ h.get r = some ⟨false, [.nilm, .fn 36 [] []]⟩
  | some m => h0.len ≤ m ∧ m ≠ r ∧ h.get r = some ⟨false, [.sm m l.length 2, .fn 36 [] []]⟩ ∧ ∃ c, h.get m = some ⟨false, flatP l ++ c⟩ ∧ (flatP l ++ c).isEmpty = false
structure Row2 (h0 : H) (r : Nat) (o : Option Nat) (l : List PairR) (h : H) : Prop where
  at_ : rowAt h0 r l h o
  new : h0.len ≤ r
  keep : Keep h0 h
  wf : WF h
  lo : h0.lob ≤ h0.len
theorem Row2.lob {h0 : H} {r : Nat} {o : Option Nat} {l : List PairR} {h : H} (R : Row2 h0 r o l h) : h.lob ≤ r := by rw [R.keep.lob]; have := R.lo; have := R.new; omega
theorem Row2.gr {h0 : H} {r : Nat} {o : Option Nat} {l : List PairR} {h : H} (R : Row2 h0 r o l h) : ∃ v, h.get r = some ⟨false, [v, .fn 36 [] []]⟩ := by
  have := R.at_
  cases o with
  | none => exact ⟨_, this.2⟩
  | some m => exact ⟨_, this.2.2.1⟩
theorem Row2.lt {h0 : H} {r : Nat} {o : Option Nat} {l : List PairR} {h : H} (R : Row2 h0 r o l h) : r < h.len := by
  obtain ⟨v, hv⟩ := R.gr; exact lt_of_get hv
theorem Row2.lo0 {h0 : H} {r : Nat} {o : Option Nat} {l : List PairR} {h : H} (R : Row2 h0 r o l h) : ∀ m, o = some m → h0.len ≤ m ∧ m < h.len ∧ m ≠ r := by
  intro m e; subst e
  obtain ⟨h1, h2, -, c, h4, -⟩ := R.at_
  exact ⟨h1, lt_of_get h4, h2⟩
theorem Row2.next {h0 : H} {r : Nat} {o : Option Nat} {l : List PairR} {h h' : H} (R : Row2 h0 r o l h) (k : Keep h h') : Row2 h0 r o l h' := by
  refine ⟨?_, R.new, R.keep.trans k, R.wf.keep k, R.lo⟩
  have := R.at_
  cases o with
  | none => exact ⟨this.1, (k.get (lt_of_get this.2)).trans this.2⟩
  | some m =>
    obtain ⟨h1, h2, h3, c, h4, h5⟩ := this
    exact ⟨h1, h2, (k.get (lt_of_get h3)).trans h3, c, (k.get (lt_of_get h4)).trans h4, h5⟩
theorem ia55 {m n i : Nat} (hi : i < n) : indexAddrL Try.prog 55 (.sm m n 2) (.int .i64 (i : Int)) = some (.pm m (i * 2)) := by
  rw [ia_sm ty_u55 ty_s53 m n .i64 (i : Int) (by omega) (by omega), Int.toNat_natCast]
theorem pOrder (x y : PairR) (h : H) : runI Try.prog TA 36 [x.e, y.e] h = some (.int .i64 (IntKind.i64.wrap (x.a - y.a)), hp Try.prog TA 36 [x.e, y.e] h) := by
  refine pure_of rfl res36 rfl ?_
  simp (maxSteps := 10000000) (maxDischargeDepth := 30) only [q36, r36, PairR.e, go_sem, Nat.reduceEqDiff, ↓reduceIte, Nat.reduceAdd, Nat.reduceMul, Nat.reduceLeDiff, Nat.reduceLT, reduceCtorEq, Int.reduceToNat, Int.reduceLE, Int.reduceLT, Int.reduceEq, Int.reduceNeg, Int.reduceNe, Int.reducePow, Nat.reducePow, Nat.reduceSub, IntKind.bits]
theorem pRowLen {h0 : H} {r : Nat} {o : Option Nat} {l : List PairR} {h : H} (R : Row2 h0 r o l h) : runI Try.prog TA 61 [.ptr r 0] h = some (.int .i64 l.length, hp Try.prog TA 61 [.ptr r 0] h) := by
  refine pure_of rfl res61 rfl ?_
  have := R.at_
  cases o with
  | none =>
    obtain ⟨rfl, g⟩ := this
    have e := len_nilm ty_u55
    simp (maxSteps := 10000000) (maxDischargeDepth := 30) only [q61, r61, g, e, go_sem, Nat.reduceEqDiff, ↓reduceIte, Nat.reduceAdd, Nat.reduceMul, Nat.reduceLeDiff, Nat.reduceLT, reduceCtorEq, Int.reduceToNat, Int.reduceLE, Int.reduceLT, Int.reduceEq, Int.reduceNeg, Int.reduceNe, Int.reducePow, Nat.reducePow, Nat.reduceSub, IntKind.bits]
    rfl
  | some m =>
    obtain ⟨-, -, g, -⟩ := this
    have e := len_sm ty_u55 m l.length 2
    simp (maxSteps := 10000000) (maxDischargeDepth := 30) only [q61, r61, g, e, go_sem, Nat.reduceEqDiff, ↓reduceIte, Nat.reduceAdd, Nat.reduceMul, Nat.reduceLeDiff, Nat.reduceLT, reduceCtorEq, Int.reduceToNat, Int.reduceLE, Int.reduceLT, Int.reduceEq, Int.reduceNeg, Int.reduceNe, Int.reducePow, Nat.reducePow, Nat.reduceSub, IntKind.bits]
theorem pRowLess {h0 : H} {r m i j : Nat} {l : List PairR} {x y : PairR} {h : H} (R : Row2 h0 r (some m) l h) (hi : l[i]? = some x) (hj : l[j]? = some y) :
    runI Try.prog TA 81 [.ptr r 0, .int .i64 i, .int .i64 j] h = some (.bool (lessB x y), hp Try.prog TA 81 [.ptr r 0, .int .i64 i, .int .i64 j] h) := by
  refine pure_of rfl res81 rfl ?_
  obtain ⟨-, -, g, c, gm, -⟩ := R.at_
  have ii := (List.getElem?_eq_some_iff.1 hi).1
  have jj := (List.getElem?_eq_some_iff.1 hj).1
  have ei := ia55 (m := m) ii
  have ej := ia55 (m := m) jj
  have li := load_pair (h := h.up) ty_p53 (by rw [get_up]; exact gm) hi
  have lj := load_pair (h := h.up) ty_p53 (by rw [get_up]; exact gm) hj
  simp (maxSteps := 10000000) (maxDischargeDepth := 30) only [q81, r81, g, ei, ej, li, lj, go_sem, Nat.reduceEqDiff, ↓reduceIte, Nat.reduceAdd, Nat.reduceMul, Nat.reduceLeDiff, Nat.reduceLT, reduceCtorEq, Int.reduceToNat, Int.reduceLE, Int.reduceLT, Int.reduceEq, Int.reduceNeg, Int.reduceNe, Int.reducePow, Nat.reducePow, Nat.reduceSub, IntKind.bits]
  first
  | refine ro_kcall (pOrder x y h) R.wf (fun h1 k1 w1 => ?_)
  | refine rw_kcall (pOrder x y h) R.wf (fun h1 k1 w1 => ?_)
  | refine rw_kcallD (pOrder x y h.up) R.wf (fun h1 k1 w1 => ?_)
  simp (maxSteps := 10000000) (maxDischargeDepth := 30) only [k1, lessB, go_sem, Nat.reduceEqDiff, ↓reduceIte, Nat.reduceAdd, Nat.reduceMul, Nat.reduceLeDiff, Nat.reduceLT, reduceCtorEq, Int.reduceToNat, Int.reduceLE, Int.reduceLT, Int.reduceEq, Int.reduceNeg, Int.reduceNe, Int.reducePow, Nat.reducePow, Nat.reduceSub, IntKind.bits]
theorem put_fr2 {r : Nat} {o : Option Nat} (h : H) (b : Nat) (B : Box) (hb : b = r ∨ o = some b) : Fr2 r o h (h.put b B) := by
  refine ⟨by rw [len_put]; exact Nat.le_refl _, by rw [rlen_put]; exact Nat.le_refl _, fun q _ => rget_put _ _ _ _, lob_put _ _ _, lor_put _ _ _, fun x _ h3 h4 => get_put_ne ?_⟩
  rintro rfl
  rcases hb with rfl | hb
  · exact h3 rfl
  · exact h4 hb
theorem Row2.set {h0 : H} {r m : Nat} {l : List PairR} {h : H} (R : Row2 h0 r (some m) l h) {i : Nat} (x : PairR) (hi : i < l.length) :
    ∃ h', storeL Try.prog 53 (.pm m (i * 2)) x.e h = some h' ∧ Row2 h0 r (some m) (l.set i x) h' ∧ Fr2 r (some m) h h' ∧ (∀ b, b ≠ m → h'.get b = h.get b) ∧ h'.lob = h.lob ∧ h'.len = h.len := by
  have hlob : h.lob ≤ m := by rw [R.keep.lob]; have := R.lo; have := R.at_.1; omega
  have hlo0 := R.lo0
  obtain ⟨h1, h2, h3, c, h4, h5⟩ := R.at_
  refine ⟨_, store_pair x ty_s53 h4 hlob hi, ⟨⟨h1, h2, ?_, c, get_put_eq (lt_of_get h4), ?_⟩, R.new, ?_, wf_put R.wf, R.lo⟩, put_fr2 h m _ (.inr rfl), fun b hb => get_put_ne (Ne.symm hb), lob_put _ _ _, len_put _ _ _⟩
  · rw [get_put_ne h2, List.length_set]; exact h3
  · cases hl : l with
    | nil => rw [hl] at hi; simp at hi
    | cons y l => cases i <;> rfl
  · exact R.keep.put h1 _
theorem cRowSwap {h0 : H} {r m i j : Nat} {l : List PairR} {h : H} (R : Row2 h0 r (some m) l h) (hi : i < l.length) (hj : j < l.length) :
    ∃ h', runI Try.prog TA 84 [.ptr r 0, .int .i64 i, .int .i64 j] h = some (.tup [], h') ∧ Row2 h0 r (some m) (swapL l i j) h' ∧ Fr2 r (some m) h h' := by
  refine calls_ex rfl res84 rfl ?_
  obtain ⟨x, hx⟩ := get_some hi
  obtain ⟨y, hy⟩ := get_some hj
  obtain ⟨-, -, g, c, gm, -⟩ := R.at_
  have ei := ia55 (m := m) hi
  have ej := ia55 (m := m) hj
  have li := load_pair (h := h.up) ty_p53 (by rw [get_up]; exact gm) hx
  have lj := load_pair (h := h.up) ty_p53 (by rw [get_up]; exact gm) hy
  obtain ⟨h1, e1, R1, F1, b1, lb1, ln1⟩ := R.set y hi
  obtain ⟨h2, e2, R2, F2, b2, lb2, ln2⟩ := R1.set x (i := j) (by simpa using hj)
  have es : swapL l i j = (l.set i y).set j x := by unfold swapL; rw [hx, hy]
  rw [es]
  simp (maxSteps := 10000000) (maxDischargeDepth := 30) only [q84, r84, g, ei, ej, li, lj, e1, e2, go_sem, Nat.reduceEqDiff, ↓reduceIte, Nat.reduceAdd, Nat.reduceMul, Nat.reduceLeDiff, Nat.reduceLT, reduceCtorEq, Int.reduceToNat, Int.reduceLE, Int.reduceLT, Int.reduceEq, Int.reduceNeg, Int.reduceNe, Int.reducePow, Nat.reducePow, Nat.reduceSub, IntKind.bits]
  exact ⟨R2, F1.trans F2 (.inl rfl)⟩
theorem Row2.app {h0 : H} {r : Nat} {o : Option Nat} {l : List PairR} {h : H} (R : Row2 h0 r o l h) (x : PairR) (hb : l.length ≤ 100000) :
    ∃ v m' h', h.get r = some ⟨false, [v, .fn 36 [] []]⟩ ∧ appS 2 16 v h (some [x.e]) = some (.sm m' (l.length + 1) 2, h') ∧ h.len = m' ∧ h'.lob = h.lob ∧ h'.get r = h.get r ∧ r < h'.len ∧
      (∀ h2 : H, h2 = h'.put r ⟨false, [.sm m' (l.length + 1) 2, .fn 36 [] []]⟩ → Row2 h0 r (some m') (l ++ [x]) h2 ∧ Fr2 r o h h2) := by
  have hlob := R.lob
  have hlt := R.lt
  have hlo0 := R.lo0
  have hkl := R.keep.len
  have hfx : (([x.e] : List LV).flatMap fun x => x.cells) = flatP [x] := rfl
  have hat := R.at_
  cases o with
  | none =>
    obtain ⟨rfl, g⟩ := hat
    refine ⟨_, h.len, h.alloc (flatP [x]), g, ?_, rfl, lob_alloc _ _, get_alloc_lt hlt, by rw [len_alloc]; omega, ?_⟩
    · rw [appS_nilm (by simp), hfx]; rfl
    · rintro h2 rfl
      have f : Fr2 r none h ((h.alloc (flatP [x])).put r ⟨false, [.sm h.len (0 + 1) 2, .fn 36 [] []]⟩) := ((((Keep.refl h).alloc (flatP [x])).fr2 r none).trans (put_fr2 _ r _ (.inl rfl)) (.inl rfl))
      refine ⟨⟨⟨hkl, by omega, get_put_eq (by rw [len_alloc]; omega), [], ?_, rfl⟩, R.new, f.keep R.keep R.new (fun m e => by cases e), wf_put (R.wf.keep ((Keep.refl h).alloc _)), R.lo⟩, f⟩
      rw [get_put_ne (by omega), get_alloc_eq, List.append_nil]; rfl
  | some m =>
    obtain ⟨h1, h2, g, c, gm, hne⟩ := hat
    have hlobm : h.lob ≤ m := by rw [R.keep.lob]; have := R.lo; omega
    have hml := lt_of_get gm
    have hfl := flatP_len l
    refine ⟨_, h.len, (h.put m ⟨true, []⟩).alloc (flatP (l ++ [x])), g, ?_, rfl, by rw [lob_alloc, lob_put], ?_, by rw [len_alloc, len_put]; omega, ?_⟩
    · rw [appS_sm gm hlobm hne (by rw [List.length_append]; omega) (by simp; omega), hfx, flatP_take l c l.length (Nat.le_refl _), List.take_length, ← flatP_append]; rfl
    · rw [get_alloc_lt (by rw [len_put]; exact hlt), get_put_ne h2]
    · rintro h3 rfl
      have f : Fr2 r (some m) h (((h.put m ⟨true, []⟩).alloc (flatP (l ++ [x]))).put r ⟨false, [.sm h.len (l.length + 1) 2, .fn 36 [] []]⟩) :=
        ((put_fr2 h m _ (.inr rfl)).trans (((Keep.refl _).alloc (flatP (l ++ [x]))).fr2 r (some m)) (.inl rfl)).trans (put_fr2 _ r _ (.inl rfl)) (.inl rfl)
      refine ⟨⟨⟨hkl, by omega, ?_, [], ?_, ?_⟩, R.new, f.keep R.keep R.new (fun k e => by cases e; exact h1), wf_put ((wf_put R.wf).keep ((Keep.refl _).alloc _)), R.lo⟩, f⟩
      · rw [get_put_eq (by rw [len_alloc, len_put]; omega), List.length_append]; rfl
      · have e := get_alloc_eq (h.put m ⟨true, []⟩) (flatP (l ++ [x]))
        rw [len_put] at e
        rw [get_put_ne (by omega), e, List.append_nil]
      · rw [List.append_nil, flatP_append]
        cases l <;> rfl
theorem cRowPush {h0 : H} {r : Nat} {o : Option Nat} {l : List PairR} {h : H} (R : Row2 h0 r o l h) (x : PairR) (hb : l.length ≤ 100000) :
    ∃ h', runI Try.prog TA 83 [.ptr r 0, .iface 53 x.e] h = some (.tup [], h') ∧ (∃ m', Row2 h0 r (some m') (l ++ [x]) h' ∧ h.len ≤ m') ∧ Fr2 r o h h' := by
  refine calls_ex rfl res83 rfl ?_
  have ea : ∀ g : H, asK Try.prog 53 true g (some (.iface 53 (.agg [.int .i64 x.a, .int .i64 x.b]))) = some (.tup [.agg [.int .i64 x.a, .int .i64 x.b], .bool true], g) := fun g => asK_same ty_u53 _
  have lo := R.wf.1
  have k1 : Keep h (((h.alloc [.int .i64 0, .int .i64 0]).put h.len ⟨false, [.int .i64 x.a, .int .i64 x.b]⟩).nrow 1) := (((Keep.refl h).alloc _).put (Nat.le_refl _) _).nrow 1
  have R1 := R.next k1
  obtain ⟨v, m', h', g1, ap, em, lb, gr, lt, fin⟩ := R1.app x hb
  have lobr : h'.lob ≤ r := by rw [lb]; exact R1.lob
  have gv : h.get r = some ⟨false, [v, .fn 36 [] []]⟩ := (k1.get R.lt).symm.trans g1
  have hlt := R.lt
  have hlt1 : r < h.len + 1 := by omega
  obtain ⟨R2, F2⟩ := fin _ rfl
  have gr' := gr.trans g1
  have ap' : appS 2 16 v (((h.alloc [.int .i64 0, .int .i64 0]).put h.len ⟨false, [.int .i64 x.a, .int .i64 x.b]⟩).nrow 1) (some [.agg [.int .i64 x.a, .int .i64 x.b]]) = some (.sm m' (l.length + 1) 2, h') := ap
  simp (maxSteps := 10000000) (maxDischargeDepth := 30) only [q83, r83, ea, lo, gv, hlt, hlt1, PairR.e, ap', gr', lt, lobr, go_sem, Nat.reduceEqDiff, ↓reduceIte, Nat.reduceAdd, Nat.reduceMul, Nat.reduceLeDiff, Nat.reduceLT, reduceCtorEq, Int.reduceToNat, Int.reduceLE, Int.reduceLT, Int.reduceEq, Int.reduceNeg, Int.reduceNe, Int.reducePow, Nat.reducePow, Nat.reduceSub, IntKind.bits]
  exact ⟨⟨m', R2, by have := k1.len; omega⟩, (k1.fr2 r o).trans F2 (.inl rfl)⟩
theorem cRowPop {h0 : H} {r m : Nat} {l : List PairR} {x : PairR} {h : H} (R : Row2 h0 r (some m) (l ++ [x]) h) (hb : l.length ≤ 100000) :
    ∃ h', runI Try.prog TA 82 [.ptr r 0] h = some (.iface 53 x.e, h') ∧ Row2 h0 r (some m) l h' ∧ Fr2 r (some m) h h' := by
  refine calls_ex rfl res82 rfl ?_
  obtain ⟨hm0, hmr, g, c, gm, hne⟩ := R.at_
  have hlen : (l ++ [x]).length = l.length + 1 := by simp
  rw [hlen] at g
  have e1 := len_sm ty_u55 m (l.length + 1) 2
  have ew : IntKind.i64.wrap (((l.length + 1 : Nat) : Int) - 1) = (l.length : Int) := by rw [wrap64 (by omega) (by omega)]; omega
  have ei : indexAddrL Try.prog 55 (.sm m (l.length + 1) 2) (.int .i64 (l.length : Int)) = some (.pm m (l.length * 2)) := ia55 (by omega)
  have hx : (l ++ [x])[l.length]? = some x := by simp
  have li := load_pair ty_p53 gm hx
  have lo := R.wf.1
  have hlt := R.lt
  have hlt1 : r < h.len + 1 := by omega
  have lobr := R.lob
  have esl : ∀ q : H, sliceL Try.prog 55 (.sm m (l.length + 1) 2) none (some (.int .i64 (l.length : Int))) q = some (.sm m l.length 2, q) := fun q => by
    rw [slice_sm ty_u55 ty_s53 m (l.length + 1) .i64 (l.length : Int) (by omega) (by omega), Int.toNat_natCast]
  simp (maxSteps := 10000000) (maxDischargeDepth := 30) only [q82, r82, g, e1, ew, ei, li, lo, hlt, hlt1, lobr, esl, PairR.e, mkiK_struct ty_u53, go_sem, Nat.reduceEqDiff, ↓reduceIte, Nat.reduceAdd, Nat.reduceMul, Nat.reduceLeDiff, Nat.reduceLT, reduceCtorEq, Int.reduceToNat, Int.reduceLE, Int.reduceLT, Int.reduceEq, Int.reduceNeg, Int.reduceNe, Int.reducePow, Nat.reducePow, Nat.reduceSub, IntKind.bits]
  have k1 : Keep h ((h.alloc [.int .i64 0, .int .i64 0]).put h.len ⟨false, [.int .i64 x.a, .int .i64 x.b]⟩) := ((Keep.refl h).alloc _).put (Nat.le_refl _) _
  have R1 := R.next k1
  generalize (h.alloc [.int .i64 0, .int .i64 0]).put h.len ⟨false, [.int .i64 x.a, .int .i64 x.b]⟩ = g1 at *
  obtain ⟨-, -, g', c', gm', -⟩ := R1.at_
  have F := put_fr2 (o := some m) g1 r ⟨false, [.sm m l.length 2, .fn 36 [] []]⟩ (.inl rfl)
  refine ⟨⟨⟨hm0, hmr, get_put_eq R1.lt, flatP [x] ++ c', ?_, ?_⟩, R.new, F.keep R1.keep R.new (fun k e => by cases e; exact hm0), wf_put R1.wf, R.lo⟩, (k1.fr2 r (some m)).trans F (.inl rfl)⟩
  · rw [get_put_ne (Ne.symm hmr), gm', flatP_append, List.append_assoc]
  · cases l <;> rfl
end Go.LM
