import Derived.Test.YtpmpdidgbbgeeaaLmTrbR2
import Derived.Test.YtpmpdidgbbgeeaaLmbEncode4
namespace Go.LM
open Go.Proofs
set_option maxRecDepth 8000
set_option maxHeartbeats 4000000
set_option linter.unusedSimpArgs false

theorem cEnMagic (h : H) : runI Try.prog TA 76 [] h = some (.str ⟨#[84, 89, 77, 49]⟩, hp Try.prog TA 76 [] h) := by
  refine pure_of rfl res76 rfl ?_
  simp (maxSteps := 10000000) (maxDischargeDepth := 30) only [q76, r76, go_sem, Nat.reduceEqDiff, ↓reduceIte, Nat.reduceAdd, Nat.reduceMul, Nat.reduceLeDiff, Nat.reduceLT, reduceCtorEq, Int.reduceToNat, Int.reduceLE, Int.reduceLT, Int.reduceEq, Int.reduceNeg, Int.reduceNe, Int.reducePow, Nat.reducePow, Nat.reduceSub, IntKind.bits]
/-- Jobs whose lists are not too long. -/
def okJR (j : JobR) : Prop := okJ 2000 j.plain
theorem okJR.g {j : JobR} (h : okJR j) : j.g.ok := h.1
theorem okJR.items {j : JobR} (h : okJR j) : j.items.length ≤ 2000 ∧ ∀ x ∈ j.items, x.ok := ⟨h.2.1, h.2.2.1⟩
theorem okJR.notes {j : JobR} (h : okJR j) : j.notes.length ≤ 2000 ∧ ∀ x ∈ j.notes, x.lines.length ≤ 2000 ∧ x.pens.length ≤ 2000 ∧ x.num := by
  obtain ⟨_, _, _, h4, h5, _, _⟩ := h
  unfold JobR.plain at h4 h5
  simp only [List.length_map] at h4
  refine ⟨h4, fun x hx => ?_⟩
  obtain ⟨a, b, c, d⟩ := h5 _ (List.mem_map.2 ⟨x, hx, rfl⟩)
  exact ⟨a, b, c, d⟩
theorem okJR.floats {j : JobR} (h : okJR j) : j.floats.length ≤ 2000 ∧ ∀ x ∈ j.floats, x.ok := ⟨h.2.2.2.2.2.1, h.2.2.2.2.2.2⟩
abbrev noteBR (x : NoteR) : List Int := noteBP x.plain
theorem notes_len {l : List NoteR} (hl : l.length ≤ 2000) (h : ∀ x ∈ l, x.lines.length ≤ 2000 ∧ x.pens.length ≤ 2000 ∧ x.num) (i : Nat) : ((l.take i).flatMap noteBR).length ≤ 100000000 := by
  have h1 := flat_len (f := noteBR) (k := 40020) (l := l.take i) (fun x hx => by
    obtain ⟨a, b, c, d⟩ := h x (List.mem_of_mem_take hx)
    have := noteBP_len (x := x.plain) (m := 2000) a b (by decide) c d
    show (noteBP x.plain).length ≤ _
    omega)
  have h2 : (l.take i).length ≤ 2000 := by rw [List.length_take]; omega
  have := Nat.mul_le_mul_left 40020 h2
  omega
theorem floats_len {l : List FloatR} (hl : l.length ≤ 2000) (h : ∀ x ∈ l, x.ok) (i : Nat) : ((l.take i).flatMap floatB).length ≤ 100000 := by
  have h1 := flat_len (f := floatB) (k := 30) (l := l.take i) (fun x hx => floatB_len (h x (List.mem_of_mem_take hx)))
  have h2 : (l.take i).length ≤ 2000 := by rw [List.length_take]; omega
  have := Nat.mul_le_mul_left 30 h2
  omega
def IJobN (j : JobR) (h0 : H) (pre : List Int) (i : Nat) (s : S) (hh : H) : Prop :=
  s 1 = .ptr h0.len 0 ∧ s 4 = .ptr (h0.len + 1) 0 ∧ s 25 = mkS j.on 2 (j.notes.map NoteR.e) ∧ s 26 = .int .i64 j.notes.length ∧ s 27 = .int .i64 i ∧ i ≤ j.notes.length ∧ hh.get h0.len = some ⟨false, [.int .i64 j.g.c0, .int .i64 j.g.c1, .int .i64 j.g.c2, .int .i64 j.g.c3, .int .i64 j.g.c4, .int .i64 j.g.c5, .int .i64 j.g.c6, .int .i64 j.g.c7, .int .i64 j.g.c8, .int .i64 j.g.c9, .int .i64 j.g.c10, .int .i64 j.g.c11, .int .i64 j.g.c12, .int .i64 j.g.c13, .int .i64 j.g.c14, .int .i64 j.g.c15, .int .i64 j.g.c16, .int .i64 j.g.c17, .bool j.g.bal, mkS j.oi 7 (j.items.map ItemR.e), mkS j.on 2 (j.notes.map NoteR.e), mkS j.of 3 (j.floats.map FloatR.e)]⟩ ∧
    Wr h0 (h0.len + 1) (pre ++ chn j.notes.length ++ (j.notes.take i).flatMap noteBR) hh
def IJobF (j : JobR) (h0 : H) (pre : List Int) (i : Nat) (s : S) (hh : H) : Prop :=
  s 4 = .ptr (h0.len + 1) 0 ∧ s 45 = mkS j.of 3 (j.floats.map FloatR.e) ∧ s 46 = .int .i64 j.floats.length ∧ s 47 = .int .i64 i ∧ i ≤ j.floats.length ∧
    Wr h0 (h0.len + 1) (pre ++ chn j.floats.length ++ (j.floats.take i).flatMap floatB) hh
def IJobF3 (j : JobR) (x : FloatR) (h0 : H) (pre : List Int) (i k : Nat) (s : S) (hh : H) : Prop :=
  s 4 = .ptr (h0.len + 1) 0 ∧ s 45 = mkS j.of 3 (j.floats.map FloatR.e) ∧ s 46 = .int .i64 j.floats.length ∧ s 47 = .int .i64 i ∧ s 57 = .agg (x.nums.map (LV.int .i64)) ∧ s 58 = .int .i64 k ∧ k ≤ 3 ∧
    Wr h0 (h0.len + 1) (pre ++ chns (x.nums.take k)) hh
theorem cEnJob (j : JobR) (h : H) (w : WF h) (ok : okJR j) :
    ∃ v h', runI Try.prog TA 37 [j.e] h = some (v, h') ∧ (∃ o2, v = if bareL j.items = true then .tup [byts o2 (jobBP j.plain), .bool true] else .tup [.nils, .bool false]) ∧ Keep h h' := by
  refine calls_of rfl res37 rfl ?_
  obtain ⟨hil, hi⟩ := ok.items
  obtain ⟨hnl, hn⟩ := ok.notes
  obtain ⟨hfl, hf⟩ := ok.floats
  have hjl : (jobBP j.plain).length ≤ 1000000000 := jobBP_len ok
  have k0 := (Keep.refl h).alloc [.int .i64 j.g.c0, .int .i64 j.g.c1, .int .i64 j.g.c2, .int .i64 j.g.c3, .int .i64 j.g.c4, .int .i64 j.g.c5, .int .i64 j.g.c6, .int .i64 j.g.c7, .int .i64 j.g.c8, .int .i64 j.g.c9, .int .i64 j.g.c10, .int .i64 j.g.c11, .int .i64 j.g.c12, .int .i64 j.g.c13, .int .i64 j.g.c14, .int .i64 j.g.c15, .int .i64 j.g.c16, .int .i64 j.g.c17, .bool j.g.bal, mkS j.oi 7 (j.items.map ItemR.e), mkS j.on 2 (j.notes.map NoteR.e), mkS j.of 3 (j.floats.map FloatR.e)]
  have w0 := w.keep k0
  have W0 := Wr.start w0 k0
  rw [len_alloc] at W0
  have gj0 : ((h.alloc [.int .i64 j.g.c0, .int .i64 j.g.c1, .int .i64 j.g.c2, .int .i64 j.g.c3, .int .i64 j.g.c4, .int .i64 j.g.c5, .int .i64 j.g.c6, .int .i64 j.g.c7, .int .i64 j.g.c8, .int .i64 j.g.c9, .int .i64 j.g.c10, .int .i64 j.g.c11, .int .i64 j.g.c12, .int .i64 j.g.c13, .int .i64 j.g.c14, .int .i64 j.g.c15, .int .i64 j.g.c16, .int .i64 j.g.c17, .bool j.g.bal, mkS j.oi 7 (j.items.map ItemR.e), mkS j.on 2 (j.notes.map NoteR.e), mkS j.of 3 (j.floats.map FloatR.e)]).alloc [.nils]).get h.len = some ⟨false, [.int .i64 j.g.c0, .int .i64 j.g.c1, .int .i64 j.g.c2, .int .i64 j.g.c3, .int .i64 j.g.c4, .int .i64 j.g.c5, .int .i64 j.g.c6, .int .i64 j.g.c7, .int .i64 j.g.c8, .int .i64 j.g.c9, .int .i64 j.g.c10, .int .i64 j.g.c11, .int .i64 j.g.c12, .int .i64 j.g.c13, .int .i64 j.g.c14, .int .i64 j.g.c15, .int .i64 j.g.c16, .int .i64 j.g.c17, .bool j.g.bal, mkS j.oi 7 (j.items.map ItemR.e), mkS j.on 2 (j.notes.map NoteR.e), mkS j.of 3 (j.floats.map FloatR.e)]⟩ := by rw [get_alloc_lt (by rw [len_alloc]; omega), get_alloc_eq]
  have hne : h.len ≠ h.len + 1 := by omega
  simp (maxSteps := 10000000) (maxDischargeDepth := 30) only [q37, r37, JobR.e, JobR.cells, go_sem, Nat.reduceEqDiff, ↓reduceIte, Nat.reduceAdd, Nat.reduceMul, Nat.reduceLeDiff, Nat.reduceLT, reduceCtorEq, Int.reduceToNat, Int.reduceLE, Int.reduceLT, Int.reduceEq, Int.reduceNeg, Int.reduceNe, Int.reducePow, Nat.reducePow, Nat.reduceSub, IntKind.bits]
  refine ro_kcall (cEnMagic _) W0.wf (fun h1 k1 w1 => ?_)
  have gj1 := (k1.get (lt_of_get gj0)).trans gj0
  have W1 := W0.next k1
  simp (maxSteps := 10000000) (maxDischargeDepth := 30) only [go_sem, Nat.reduceEqDiff, ↓reduceIte, Nat.reduceAdd, Nat.reduceMul, Nat.reduceLeDiff, Nat.reduceLT, reduceCtorEq, Int.reduceToNat, Int.reduceLE, Int.reduceLT, Int.reduceEq, Int.reduceNeg, Int.reduceNe, Int.reducePow, Nat.reducePow, Nat.reduceSub, IntKind.bits]
  have hm : strB ⟨#[84, 89, 77, 49]⟩ = magicJ := by rfl
  refine ro_wcall (cWMark h (h.len + 1) [] ⟨#[84, 89, 77, 49]⟩ h1 W1 (by rw [hm]; decide)) (fun h2 J => ?_)
  rw [hm, List.nil_append] at J
  have gj2 := oth_get J.2 gj1 hne
  simp (maxSteps := 10000000) (maxDischargeDepth := 30) only [gj2, go_sem, Nat.reduceEqDiff, ↓reduceIte, Nat.reduceAdd, Nat.reduceMul, Nat.reduceLeDiff, Nat.reduceLT, reduceCtorEq, Int.reduceToNat, Int.reduceLE, Int.reduceLT, Int.reduceEq, Int.reduceNeg, Int.reduceNe, Int.reducePow, Nat.reducePow, Nat.reduceSub, IntKind.bits]
  refine ro_wcall (cEnGeomW h (h.len + 1) magicJ j.g h2 J.1 ok.g (by decide)) (fun h3 J3 => ?_)
  have gj3 := oth_get J3.2 gj2 hne
  have lg := geomB_len ok.g
  have lm : magicJ.length = 4 := rfl
  simp (maxSteps := 10000000) (maxDischargeDepth := 30) only [gj3, go_sem, Nat.reduceEqDiff, ↓reduceIte, Nat.reduceAdd, Nat.reduceMul, Nat.reduceLeDiff, Nat.reduceLT, reduceCtorEq, Int.reduceToNat, Int.reduceLE, Int.reduceLT, Int.reduceEq, Int.reduceNeg, Int.reduceNe, Int.reducePow, Nat.reducePow, Nat.reduceSub, IntKind.bits]
  refine ro_vcall (cEnItemsW h (h.len + 1) (magicJ ++ geomB j.g) j.oi j.items h3 J3.1 hi (by omega) (by rw [List.length_append]; omega)) (fun v h4 J4 => ?_)
  obtain ⟨rfl, ⟨bs', W4, hbs⟩, O4⟩ := J4
  have gj4 := oth_get O4 gj3 hne
  cases hb : bareL j.items
  · have k4 := W4.keep
    simp (maxSteps := 10000000) (maxDischargeDepth := 30) only [k4, go_sem, Nat.reduceEqDiff, ↓reduceIte, Nat.reduceAdd, Nat.reduceMul, Nat.reduceLeDiff, Nat.reduceLT, reduceCtorEq, Int.reduceToNat, Int.reduceLE, Int.reduceLT, Int.reduceEq, Int.reduceNeg, Int.reduceNe, Int.reducePow, Nat.reducePow, Nat.reduceSub, IntKind.bits]
    exact ⟨none, trivial⟩
  have hbs := hbs hb
  have hml : (many itemB j.items).length ≤ 100010 := by
    have := many_len (f := itemB) (l := j.items) (k := 50) ⟨by omega, by omega⟩ (fun x hx => itemB_len (hi x hx))
    omega
  have hpl : bs'.length ≤ 200000 := by rw [hbs]; simp only [List.length_append]; omega
  have hn64 : I64 j.notes.length := ⟨by omega, by omega⟩
  have hf64 : I64 j.floats.length := ⟨by omega, by omega⟩
  have hcn := chn_len hn64
  have hcf := chn_len hf64
  simp (maxSteps := 10000000) (maxDischargeDepth := 30) only [gj4, go_sem, Nat.reduceEqDiff, ↓reduceIte, Nat.reduceAdd, Nat.reduceMul, Nat.reduceLeDiff, Nat.reduceLT, reduceCtorEq, Int.reduceToNat, Int.reduceLE, Int.reduceLT, Int.reduceEq, Int.reduceNeg, Int.reduceNe, Int.reducePow, Nat.reducePow, Nat.reduceSub, IntKind.bits]
  refine ro_wcall (cWInt h (h.len + 1) bs' j.notes.length h4 W4 hn64 (by omega)) (fun h5 J5 => ?_)
  have gj5 := oth_get J5.2 gj4 hne
  simp (maxSteps := 10000000) (maxDischargeDepth := 30) only [gj5, go_sem, Nat.reduceEqDiff, ↓reduceIte, Nat.reduceAdd, Nat.reduceMul, Nat.reduceLeDiff, Nat.reduceLT, reduceCtorEq, Int.reduceToNat, Int.reduceLE, Int.reduceLT, Int.reduceEq, Int.reduceNeg, Int.reduceNe, Int.reducePow, Nat.reducePow, Nat.reduceSub, IntKind.bits]
  refine ru_loop (fun i => j.notes.length - i) (IJobN j h bs') 0 ?_ ?_
  · unfold IJobN
    simp (maxSteps := 10000000) (maxDischargeDepth := 30) only [Int.natCast_zero, go_sem, Nat.reduceEqDiff, ↓reduceIte, Nat.reduceAdd, Nat.reduceMul, Nat.reduceLeDiff, Nat.reduceLT, reduceCtorEq, Int.reduceToNat, Int.reduceLE, Int.reduceLT, Int.reduceEq, Int.reduceNeg, Int.reduceNe, Int.reducePow, Nat.reducePow, Nat.reduceSub, IntKind.bits]
    exact ⟨gj5, by simpa using J5.1⟩
  · rintro i s hh ⟨e1, e4, e25, e26, e27, hil, gj, W⟩
    have hnt := notes_len hnl hn i
    by_cases c1 : (i : Int) < j.notes.length
    · refine ru_step ?_
      obtain ⟨x, hx⟩ : ∃ x, j.notes[i]? = some x := ⟨j.notes[i], List.getElem?_eq_getElem (by omega)⟩
      have ia : iaS (j.notes.map NoteR.e) (i : Int) = some (.cptr x.e) := iaS_map (Int.natCast_nonneg i) (by simpa using hx)
      obtain ⟨x1, x2, x3, x4⟩ := hn x (List.mem_of_getElem? hx)
      have lo1 := W.wf.1
      have ew : IntKind.i64.wrap ((i : Int) + 1) = ((i + 1 : Nat) : Int) := by rw [wrap64 (by omega) (by omega)]; omega
      have lgj := lt_of_get gj
      have lW := W.lt
      have m1 := many_chn_len x1 (by decide) x3
      have m2 := many_chn_len x2 (by decide) x4
      simp (maxSteps := 10000000) (maxDischargeDepth := 30) only [e1, e4, e25, e26, e27, c1, ia, NoteR.e, lo1, go_sem, Nat.reduceEqDiff, ↓reduceIte, Nat.reduceAdd, Nat.reduceMul, Nat.reduceLeDiff, Nat.reduceLT, reduceCtorEq, Int.reduceToNat, Int.reduceLE, Int.reduceLT, Int.reduceEq, Int.reduceNeg, Int.reduceNe, Int.reducePow, Nat.reducePow, Nat.reduceSub, IntKind.bits]
      generalize hgg : (hh.alloc _).put _ _ = g
      have kg : Keep hh g := by rw [← hgg]; exact ((Keep.refl hh).alloc _).put (Nat.le_refl _) _
      have gx : g.get hh.len = some ⟨false, [ints x.ol x.lines, ints x.op x.pens]⟩ := by rw [← hgg]; simp (maxSteps := 10000000) (maxDischargeDepth := 30) only [go_sem, Nat.reduceEqDiff, ↓reduceIte, Nat.reduceAdd, Nat.reduceMul, Nat.reduceLeDiff, Nat.reduceLT, reduceCtorEq, Int.reduceToNat, Int.reduceLE, Int.reduceLT, Int.reduceEq, Int.reduceNeg, Int.reduceNe, Int.reducePow, Nat.reducePow, Nat.reduceSub, IntKind.bits]
      clear hgg
      have gjg := (kg.get lgj).trans gj
      have Wg := W.next kg
      refine ro_kcall (cNumSp x.ol x.lines g Wg.wf (by omega)) Wg.wf (fun h6 k6 w6 => ?_)
      have gx6 := (k6.get (lt_of_get gx)).trans gx
      have gj6 := (k6.get (lt_of_get gjg)).trans gjg
      simp (maxSteps := 10000000) (maxDischargeDepth := 30) only [e1, e4, go_sem, Nat.reduceEqDiff, ↓reduceIte, Nat.reduceAdd, Nat.reduceMul, Nat.reduceLeDiff, Nat.reduceLT, reduceCtorEq, Int.reduceToNat, Int.reduceLE, Int.reduceLT, Int.reduceEq, Int.reduceNeg, Int.reduceNe, Int.reducePow, Nat.reducePow, Nat.reduceSub, IntKind.bits]
      refine ro_wcall (cWInts h (h.len + 1) _ _ x.lines h6 (Wg.next k6) x3 (by omega) (by simp only [List.length_append]; omega)) (fun h7 J7 => ?_)
      have gx7 := oth_get J7.2 gx6 (by omega)
      have gj7 := oth_get J7.2 gj6 hne
      simp (maxSteps := 10000000) (maxDischargeDepth := 30) only [e1, e4, gx7, go_sem, Nat.reduceEqDiff, ↓reduceIte, Nat.reduceAdd, Nat.reduceMul, Nat.reduceLeDiff, Nat.reduceLT, reduceCtorEq, Int.reduceToNat, Int.reduceLE, Int.reduceLT, Int.reduceEq, Int.reduceNeg, Int.reduceNe, Int.reducePow, Nat.reducePow, Nat.reduceSub, IntKind.bits]
      refine ro_kcall (cNumI x.op x.pens h7 J7.1.wf (by omega)) J7.1.wf (fun h8 k8 w8 => ?_)
      have gj8 := (k8.get (lt_of_get gj7)).trans gj7
      simp (maxSteps := 10000000) (maxDischargeDepth := 30) only [e1, e4, go_sem, Nat.reduceEqDiff, ↓reduceIte, Nat.reduceAdd, Nat.reduceMul, Nat.reduceLeDiff, Nat.reduceLT, reduceCtorEq, Int.reduceToNat, Int.reduceLE, Int.reduceLT, Int.reduceEq, Int.reduceNeg, Int.reduceNe, Int.reducePow, Nat.reducePow, Nat.reduceSub, IntKind.bits]
      refine ro_wcall (cWInts h (h.len + 1) _ _ x.pens h8 (J7.1.next k8) x4 (by omega) (by simp only [List.length_append]; omega)) (fun h9 J9 => ?_)
      have gj9 := oth_get J9.2 gj8 hne
      simp (maxSteps := 10000000) (maxDischargeDepth := 30) only [e1, e4, e25, e26, e27, ew, go_sem, Nat.reduceEqDiff, ↓reduceIte, Nat.reduceAdd, Nat.reduceMul, Nat.reduceLeDiff, Nat.reduceLT, reduceCtorEq, Int.reduceToNat, Int.reduceLE, Int.reduceLT, Int.reduceEq, Int.reduceNeg, Int.reduceNe, Int.reducePow, Nat.reducePow, Nat.reduceSub, IntKind.bits]
      refine ⟨i + 1, by omega, ?_⟩
      unfold IJobN
      simp (maxSteps := 10000000) (maxDischargeDepth := 30) only [e1, e4, e25, e26, e27, go_sem, Nat.reduceEqDiff, ↓reduceIte, Nat.reduceAdd, Nat.reduceMul, Nat.reduceLeDiff, Nat.reduceLT, reduceCtorEq, Int.reduceToNat, Int.reduceLE, Int.reduceLT, Int.reduceEq, Int.reduceNeg, Int.reduceNe, Int.reducePow, Nat.reducePow, Nat.reduceSub, IntKind.bits]
      refine ⟨by omega, gj9, ?_⟩
      have e : bs' ++ chn j.notes.length ++ (j.notes.take (i + 1)).flatMap noteBR = bs' ++ chn j.notes.length ++ (j.notes.take i).flatMap noteBR ++ many chn x.lines ++ many chn x.pens := by
        rw [flat_take noteBR hx]; simp only [noteBR, noteBP, NoteR.plain, List.append_assoc]
      rw [e]
      exact J9.1
    · obtain rfl : i = j.notes.length := by omega
      rw [List.take_length] at W hnt
      simp (maxSteps := 10000000) (maxDischargeDepth := 30) only [e1, e4, e25, e26, e27, c1, gj, go_sem, Nat.reduceEqDiff, ↓reduceIte, Nat.reduceAdd, Nat.reduceMul, Nat.reduceLeDiff, Nat.reduceLT, reduceCtorEq, Int.reduceToNat, Int.reduceLE, Int.reduceLT, Int.reduceEq, Int.reduceNeg, Int.reduceNe, Int.reducePow, Nat.reducePow, Nat.reduceSub, IntKind.bits]
      have hp2 : (bs' ++ chn j.notes.length ++ j.notes.flatMap noteBR).length ≤ 200000000 := by simp only [List.length_append]; omega
      refine ro_wcall (cWInt h (h.len + 1) _ j.floats.length hh W hf64 (by omega)) (fun h10 Ja => ?_)
      have gj10 := oth_get Ja.2 gj hne
      simp (maxSteps := 10000000) (maxDischargeDepth := 30) only [e1, e4, gj10, go_sem, Nat.reduceEqDiff, ↓reduceIte, Nat.reduceAdd, Nat.reduceMul, Nat.reduceLeDiff, Nat.reduceLT, reduceCtorEq, Int.reduceToNat, Int.reduceLE, Int.reduceLT, Int.reduceEq, Int.reduceNeg, Int.reduceNe, Int.reducePow, Nat.reducePow, Nat.reduceSub, IntKind.bits]
      refine ru_loop (fun i => j.floats.length - i) (IJobF j h (bs' ++ chn j.notes.length ++ j.notes.flatMap noteBR)) 0 ?_ ?_
      · unfold IJobF
        simp (maxSteps := 10000000) (maxDischargeDepth := 30) only [Int.natCast_zero, e4, go_sem, Nat.reduceEqDiff, ↓reduceIte, Nat.reduceAdd, Nat.reduceMul, Nat.reduceLeDiff, Nat.reduceLT, reduceCtorEq, Int.reduceToNat, Int.reduceLE, Int.reduceLT, Int.reduceEq, Int.reduceNeg, Int.reduceNe, Int.reducePow, Nat.reducePow, Nat.reduceSub, IntKind.bits]
        simpa using Ja.1
      · clear W gj e1 e4 e25 e26 e27 Ja gj10
        rintro i s hh ⟨e4, e45, e46, e47, hil, W⟩
        have hft := floats_len hfl hf i
        by_cases c1 : (i : Int) < j.floats.length
        rotate_left
        · obtain rfl : i = j.floats.length := by omega
          rw [List.take_length] at W hft
          simp (maxSteps := 10000000) (maxDischargeDepth := 30) only [e4, e45, e46, e47, c1, go_sem, Nat.reduceEqDiff, ↓reduceIte, Nat.reduceAdd, Nat.reduceMul, Nat.reduceLeDiff, Nat.reduceLT, reduceCtorEq, Int.reduceToNat, Int.reduceLE, Int.reduceLT, Int.reduceEq, Int.reduceNeg, Int.reduceNe, Int.reducePow, Nat.reducePow, Nat.reduceSub, IntKind.bits]
          refine ro_kcall (cWBytes h (h.len + 1) _ hh W (by simp only [List.length_append] at hp2 ⊢; omega)) W.wf (fun h11 k11 w11 => ?_)
          have kk := W.keep.trans k11
          simp (maxSteps := 10000000) (maxDischargeDepth := 30) only [kk, go_sem, Nat.reduceEqDiff, ↓reduceIte, Nat.reduceAdd, Nat.reduceMul, Nat.reduceLeDiff, Nat.reduceLT, reduceCtorEq, Int.reduceToNat, Int.reduceLE, Int.reduceLT, Int.reduceEq, Int.reduceNeg, Int.reduceNe, Int.reducePow, Nat.reducePow, Nat.reduceSub, IntKind.bits]
          have e : bs' ++ chn j.notes.length ++ j.notes.flatMap noteBR ++ chn j.floats.length ++ j.floats.flatMap floatB = jobBP j.plain := by
            rw [hbs]
            unfold jobBP JobR.plain
            simp only
            rw [many_map]
            unfold many
            simp only [List.append_assoc]
          rw [e]
          exact ⟨_, rfl⟩
        refine ru_step ?_
        obtain ⟨x, hx⟩ : ∃ x, j.floats[i]? = some x := ⟨j.floats[i], List.getElem?_eq_getElem (by omega)⟩
        have ia : iaS (j.floats.map FloatR.e) (i : Int) = some (.cptr x.e) := iaS_map (Int.natCast_nonneg i) (by simpa using hx)
        have hxf := hf x (List.mem_of_getElem? hx)
        have lo1 := W.wf.1
        have ew : IntKind.i64.wrap ((i : Int) + 1) = ((i + 1 : Nat) : Int) := by rw [wrap64 (by omega) (by omega)]; omega
        simp (maxSteps := 10000000) (maxDischargeDepth := 30) only [e4, e45, e46, e47, c1, ia, FloatR.e, lo1, go_sem, Nat.reduceEqDiff, ↓reduceIte, Nat.reduceAdd, Nat.reduceMul, Nat.reduceLeDiff, Nat.reduceLT, reduceCtorEq, Int.reduceToNat, Int.reduceLE, Int.reduceLT, Int.reduceEq, Int.reduceNeg, Int.reduceNe, Int.reducePow, Nat.reducePow, Nat.reduceSub, IntKind.bits]
        generalize hgg : (hh.alloc _).put _ _ = g
        have kg : Keep hh g := by rw [← hgg]; exact ((Keep.refl hh).alloc _).put (Nat.le_refl _) _
        clear hgg
        have Wg := W.next kg
        refine ru_loop (fun k => 3 - k) (IJobF3 j x h (bs' ++ chn j.notes.length ++ j.notes.flatMap noteBR ++ chn j.floats.length ++ (j.floats.take i).flatMap floatB) i) 0 ?_ ?_
        · unfold IJobF3
          simp (maxSteps := 10000000) (maxDischargeDepth := 30) only [Int.natCast_zero, e4, e45, e46, e47, go_sem, Nat.reduceEqDiff, ↓reduceIte, Nat.reduceAdd, Nat.reduceMul, Nat.reduceLeDiff, Nat.reduceLT, reduceCtorEq, Int.reduceToNat, Int.reduceLE, Int.reduceLT, Int.reduceEq, Int.reduceNeg, Int.reduceNe, Int.reducePow, Nat.reducePow, Nat.reduceSub, IntKind.bits]
          exact ⟨rfl, by simp only [List.take_zero, chns_nil, List.append_nil]; exact Wg⟩
        · rintro k s hh ⟨e4, e45, e46, e47, e57, e58, hk, W3⟩
          have hcl := chns_len (l := x.nums.take k) (fun n hn => hxf n (List.mem_of_mem_take hn))
          rw [List.length_take] at hcl
          by_cases hlt : k < 3
          · refine ru_step ?_
            obtain ⟨y, hy⟩ : ∃ y, x.nums[k]? = some y := ⟨x.nums[k]'(by simpa [FloatR.nums] using hlt), List.getElem?_eq_getElem _⟩
            have iy := ix132 hlt hy
            have c2 : (k : Int) < 3 := by omega
            have ew2 : IntKind.i64.wrap ((k : Int) + 1) = ((k + 1 : Nat) : Int) := by rw [wrap64 (by omega) (by omega)]; omega
            simp (maxSteps := 10000000) (maxDischargeDepth := 30) only [e4, e45, e46, e47, e57, e58, c2, iy, go_sem, Nat.reduceEqDiff, ↓reduceIte, Nat.reduceAdd, Nat.reduceMul, Nat.reduceLeDiff, Nat.reduceLT, reduceCtorEq, Int.reduceToNat, Int.reduceLE, Int.reduceLT, Int.reduceEq, Int.reduceNeg, Int.reduceNe, Int.reducePow, Nat.reducePow, Nat.reduceSub, IntKind.bits]
            refine ro_wcall (cWInt h (h.len + 1) _ y hh W3 (hxf y (List.mem_of_getElem? hy)) (by simp only [List.length_append] at hp2 ⊢; omega)) (fun h6 J6 => ?_)
            simp (maxSteps := 10000000) (maxDischargeDepth := 30) only [e4, e45, e46, e47, e57, e58, ew2, go_sem, Nat.reduceEqDiff, ↓reduceIte, Nat.reduceAdd, Nat.reduceMul, Nat.reduceLeDiff, Nat.reduceLT, reduceCtorEq, Int.reduceToNat, Int.reduceLE, Int.reduceLT, Int.reduceEq, Int.reduceNeg, Int.reduceNe, Int.reducePow, Nat.reducePow, Nat.reduceSub, IntKind.bits]
            refine ⟨k + 1, by omega, ?_⟩
            unfold IJobF3
            simp (maxSteps := 10000000) (maxDischargeDepth := 30) only [e4, e45, e46, e47, e57, e58, go_sem, Nat.reduceEqDiff, ↓reduceIte, Nat.reduceAdd, Nat.reduceMul, Nat.reduceLeDiff, Nat.reduceLT, reduceCtorEq, Int.reduceToNat, Int.reduceLE, Int.reduceLT, Int.reduceEq, Int.reduceNeg, Int.reduceNe, Int.reducePow, Nat.reducePow, Nat.reduceSub, IntKind.bits]
            refine ⟨by omega, ?_⟩
            rw [take_succ hy, chns_append, ← List.append_assoc, show chns [y] = chn y by simp [chns]]
            exact J6.1
          · obtain rfl : k = 3 := by omega
            have W3' : Wr h (h.len + 1) (bs' ++ chn j.notes.length ++ j.notes.flatMap noteBR ++ chn j.floats.length ++ (j.floats.take i).flatMap floatB ++ floatB x) hh := W3
            have e58' : s 58 = .int .i64 3 := e58
            simp (maxSteps := 10000000) (maxDischargeDepth := 30) only [e4, e45, e46, e47, e57, e58', ew, go_sem, Nat.reduceEqDiff, ↓reduceIte, Nat.reduceAdd, Nat.reduceMul, Nat.reduceLeDiff, Nat.reduceLT, reduceCtorEq, Int.reduceToNat, Int.reduceLE, Int.reduceLT, Int.reduceEq, Int.reduceNeg, Int.reduceNe, Int.reducePow, Nat.reducePow, Nat.reduceSub, IntKind.bits]
            refine ⟨i + 1, by omega, ?_⟩
            unfold IJobF
            simp (maxSteps := 10000000) (maxDischargeDepth := 30) only [e4, e45, e46, e47, go_sem, Nat.reduceEqDiff, ↓reduceIte, Nat.reduceAdd, Nat.reduceMul, Nat.reduceLeDiff, Nat.reduceLT, reduceCtorEq, Int.reduceToNat, Int.reduceLE, Int.reduceLT, Int.reduceEq, Int.reduceNeg, Int.reduceNe, Int.reducePow, Nat.reducePow, Nat.reduceSub, IntKind.bits]
            refine ⟨by omega, ?_⟩
            rw [flat_take floatB hx, ← List.append_assoc]
            exact W3'
end Go.LM
