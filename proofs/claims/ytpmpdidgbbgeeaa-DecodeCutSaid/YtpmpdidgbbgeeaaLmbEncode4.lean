import Derived.Test.YtpmpdidgbbgeeaaLmTrbR1
import Derived.Test.YtpmpdidgbbgeeaaLmTrbR2
import Derived.Test.YtpmpdidgbbgeeaaLmbEncode3
namespace Go.LM
open Go.Proofs
set_option maxRecDepth 8000
set_option maxHeartbeats 4000000
set_option linter.unusedSimpArgs false

theorem items_len {l : List ItemR} (hi : ∀ x ∈ l, x.ok) (i : Nat) : ((l.take i).flatMap itemB).length ≤ 50 * l.length := by
  have h1 := flat_len (f := itemB) (k := 50) (l := l.take i) (fun x hx => itemB_len (hi x (List.mem_of_mem_take hx)))
  have h2 : (l.take i).length ≤ l.length := by rw [List.length_take]; omega
  have := Nat.mul_le_mul_left 50 h2
  omega
theorem bareL_take {l : List ItemR} {i : Nat} {x : ItemR} (hx : l[i]? = some x) (h : bareL (l.take i) = true) (hb : bareR x = true) : bareL (l.take (i + 1)) = true := by
  rw [take_succ hx]; unfold bareL at *; rw [List.all_append, h]; simp [hb]
theorem bareL_not {l : List ItemR} {i : Nat} {x : ItemR} (hx : l[i]? = some x) (hb : bareR x = false) : bareL l = false := by
  unfold bareL
  rw [List.all_eq_false]
  exact ⟨x, List.mem_of_getElem? hx, by simp [hb]⟩
def IItemsW (o : Option (Nat × Nat)) (l : List ItemR) (h0 : H) (b : Nat) (bs : List Int) (h : H) (i : Nat) (s : S) (hh : H) : Prop :=
  s 0 = .ptr b 0 ∧ s 5 = .fn 55 [.ptr b 0] [] ∧ s 16 = mkS o 7 (l.map ItemR.e) ∧ s 17 = .int .i64 l.length ∧ s 18 = .int .i64 i ∧ i ≤ l.length ∧ bareL (l.take i) = true ∧ Wr h0 b (bs ++ chn l.length ++ (l.take i).flatMap itemB) hh ∧ Oth b h hh
def IItemsW2 (o : Option (Nat × Nat)) (l : List ItemR) (x : ItemR) (of : Option (Nat × Nat)) (h0 : H) (b : Nat) (bs : List Int) (h : H) (i : Nat) (k : Nat) (s : S) (hh : H) : Prop :=
  s 0 = .ptr b 0 ∧ s 5 = .fn 55 [.ptr b 0] [] ∧ s 16 = mkS o 7 (l.map ItemR.e) ∧ s 17 = .int .i64 l.length ∧ s 18 = .int .i64 i ∧ s 30 = ints of (fieldsR x) ∧ s 31 = .int .i64 (fieldsR x).length ∧ s 32 = .int .i64 k ∧ k ≤ (fieldsR x).length ∧
    Wr h0 b (bs ++ chns ((fieldsR x).take k)) hh ∧ Oth b h hh
theorem cEnItemsW (h0 : H) (b : Nat) (bs : List Int) (o : Option (Nat × Nat)) (l : List ItemR) (h : H) (W : Wr h0 b bs h) (hi : ∀ x ∈ l, x.ok) (hl : l.length ≤ 1000000) (hb : bs.length ≤ 10000000000) :
    ∃ v h', runI Try.prog TA 77 [.ptr b 0, mkS o 7 (l.map ItemR.e)] h = some (v, h') ∧ v = .bool (bareL l) ∧ (∃ bs', Wr h0 b bs' h' ∧ (bareL l = true → bs' = bs ++ many itemB l)) ∧ Oth b h h' := by
  refine calls_of rfl res77 rfl ?_
  have hl64 : I64 l.length := ⟨by omega, by omega⟩
  simp (maxSteps := 10000000) (maxDischargeDepth := 30) only [q77, r77, go_sem, Nat.reduceEqDiff, ↓reduceIte, Nat.reduceAdd, Nat.reduceMul, Nat.reduceLeDiff, Nat.reduceLT, reduceCtorEq, Int.reduceToNat, Int.reduceLE, Int.reduceLT, Int.reduceEq, Int.reduceNeg, Int.reduceNe, Int.reducePow, Nat.reducePow, Nat.reduceSub, IntKind.bits]
  refine ro_wcall (cWInt h0 b bs l.length h W hl64 (by omega)) (fun h1 J1 => ?_)
  simp (maxSteps := 10000000) (maxDischargeDepth := 30) only [go_sem, Nat.reduceEqDiff, ↓reduceIte, Nat.reduceAdd, Nat.reduceMul, Nat.reduceLeDiff, Nat.reduceLT, reduceCtorEq, Int.reduceToNat, Int.reduceLE, Int.reduceLT, Int.reduceEq, Int.reduceNeg, Int.reduceNe, Int.reducePow, Nat.reducePow, Nat.reduceSub, IntKind.bits]
  refine ru_loop (fun i => l.length - i) (IItemsW o l h0 b bs h) 0 ?_ ?_
  · unfold IItemsW
    simp (maxSteps := 10000000) (maxDischargeDepth := 30) only [Int.natCast_zero, go_sem, Nat.reduceEqDiff, ↓reduceIte, Nat.reduceAdd, Nat.reduceMul, Nat.reduceLeDiff, Nat.reduceLT, reduceCtorEq, Int.reduceToNat, Int.reduceLE, Int.reduceLT, Int.reduceEq, Int.reduceNeg, Int.reduceNe, Int.reducePow, Nat.reducePow, Nat.reduceSub, IntKind.bits]
    exact ⟨rfl, by simpa using J1.1, J1.2⟩
  · rintro i s hh ⟨e0, e5, e16, e17, e18, hil, hbt, W1, O1⟩
    have hcn := chn_len hl64
    by_cases c1 : (i : Int) < l.length
    rotate_left
    · obtain rfl : i = l.length := by omega
      rw [List.take_length] at W1 hbt
      simp (maxSteps := 10000000) (maxDischargeDepth := 30) only [e0, e5, e16, e17, e18, c1, hbt, go_sem, Nat.reduceEqDiff, ↓reduceIte, Nat.reduceAdd, Nat.reduceMul, Nat.reduceLeDiff, Nat.reduceLT, reduceCtorEq, Int.reduceToNat, Int.reduceLE, Int.reduceLT, Int.reduceEq, Int.reduceNeg, Int.reduceNe, Int.reducePow, Nat.reducePow, Nat.reduceSub, IntKind.bits]
      refine ⟨⟨_, W1, ?_⟩, O1⟩
      unfold many; rw [List.append_assoc]; exact fun _ => rfl
    obtain ⟨x, hx⟩ : ∃ x, l[i]? = some x := ⟨l[i], List.getElem?_eq_getElem (by omega)⟩
    have ia : iaS (l.map ItemR.e) (i : Int) = some (.cptr x.e) := iaS_map (Int.natCast_nonneg i) (by simpa using hx)
    have hxi := hi x (List.mem_of_getElem? hx)
    have lo1 := W1.wf.1
    have hil := items_len hi i
    by_cases hbx : bareR x = true
    rotate_left
    · have hbx' : bareR x = false := by simpa using hbx
      have hbl := bareL_not hx hbx'
      simp (maxSteps := 10000000) (maxDischargeDepth := 30) only [e0, e5, e16, e17, e18, c1, ia, ItemR.e, lo1, go_sem, Nat.reduceEqDiff, ↓reduceIte, Nat.reduceAdd, Nat.reduceMul, Nat.reduceLeDiff, Nat.reduceLT, reduceCtorEq, Int.reduceToNat, Int.reduceLE, Int.reduceLT, Int.reduceEq, Int.reduceNeg, Int.reduceNe, Int.reducePow, Nat.reducePow, Nat.reduceSub, IntKind.bits]
      generalize hgg : (hh.alloc _).put _ _ = g
      have kg : Keep hh g := by rw [← hgg]; exact ((Keep.refl hh).alloc _).put (Nat.le_refl _) _
      refine ro_kcall (cEnBare x g (W1.wf.keep kg)) (W1.wf.keep kg) (fun h2 k2 w2 => ?_)
      have kk := kg.trans k2
      rw [hbx', hbl]
      simp (maxSteps := 10000000) (maxDischargeDepth := 30) only [go_sem, Nat.reduceEqDiff, ↓reduceIte, Nat.reduceAdd, Nat.reduceMul, Nat.reduceLeDiff, Nat.reduceLT, reduceCtorEq, Int.reduceToNat, Int.reduceLE, Int.reduceLT, Int.reduceEq, Int.reduceNeg, Int.reduceNe, Int.reducePow, Nat.reducePow, Nat.reduceSub, IntKind.bits]
      exact ⟨⟨_, W1.next kk, fun h => h.elim⟩, O1.trans (kk.oth b)⟩
    refine ru_step ?_
    simp (maxSteps := 10000000) (maxDischargeDepth := 30) only [e0, e5, e16, e17, e18, c1, ia, ItemR.e, lo1, go_sem, Nat.reduceEqDiff, ↓reduceIte, Nat.reduceAdd, Nat.reduceMul, Nat.reduceLeDiff, Nat.reduceLT, reduceCtorEq, Int.reduceToNat, Int.reduceLE, Int.reduceLT, Int.reduceEq, Int.reduceNeg, Int.reduceNe, Int.reducePow, Nat.reducePow, Nat.reduceSub, IntKind.bits]
    generalize hgg : (hh.alloc _).put _ _ = g
    have kg : Keep hh g := by rw [← hgg]; exact ((Keep.refl hh).alloc _).put (Nat.le_refl _) _
    have gx : g.get hh.len = some ⟨false, [.int .i64 x.k, .int .i64 x.h, .int .i64 x.f, .int .i64 x.str, .int .i64 x.ord, .int .i64 x.shr, .int .i64 x.n]⟩ := by rw [← hgg]; simp (maxSteps := 10000000) (maxDischargeDepth := 30) only [go_sem, Nat.reduceEqDiff, ↓reduceIte, Nat.reduceAdd, Nat.reduceMul, Nat.reduceLeDiff, Nat.reduceLT, reduceCtorEq, Int.reduceToNat, Int.reduceLE, Int.reduceLT, Int.reduceEq, Int.reduceNeg, Int.reduceNe, Int.reducePow, Nat.reducePow, Nat.reduceSub, IntKind.bits]
    clear hgg
    have ltb := W1.lt
    refine ro_kcall (cEnBare x g (W1.wf.keep kg)) (W1.wf.keep kg) (fun h2 k2 w2 => ?_)
    have gx2 := (k2.get (lt_of_get gx)).trans gx
    have W2 := (W1.next kg).next k2
    have O2 := (O1.trans (kg.oth b)).trans (k2.oth b)
    rw [hbx]
    simp (maxSteps := 10000000) (maxDischargeDepth := 30) only [e0, e5, gx2, go_sem, Nat.reduceEqDiff, ↓reduceIte, Nat.reduceAdd, Nat.reduceMul, Nat.reduceLeDiff, Nat.reduceLT, reduceCtorEq, Int.reduceToNat, Int.reduceLE, Int.reduceLT, Int.reduceEq, Int.reduceNeg, Int.reduceNe, Int.reducePow, Nat.reducePow, Nat.reduceSub, IntKind.bits]
    refine ro_wcall (cWInt h0 b _ x.k h2 W2 (item_k64 hxi) (by rw [List.length_append, List.length_append]; omega)) (fun h3 J => ?_)
    have gx3 := oth_get J.2 gx2 (by omega)
    have O3 := O2.trans J.2
    simp (maxSteps := 10000000) (maxDischargeDepth := 30) only [gx3, go_sem, Nat.reduceEqDiff, ↓reduceIte, Nat.reduceAdd, Nat.reduceMul, Nat.reduceLeDiff, Nat.reduceLT, reduceCtorEq, Int.reduceToNat, Int.reduceLE, Int.reduceLT, Int.reduceEq, Int.reduceNeg, Int.reduceNe, Int.reducePow, Nat.reducePow, Nat.reduceSub, IntKind.bits]
    refine ro_kcall (cEnFields x h3) J.1.wf (fun h4 k4 w4 => ?_)
    generalize tk Try.prog TA 108 [x.e] h3 = of
    have W4 := J.1.next k4
    have O4 := O3.trans (k4.oth b)
    have hfl := fieldsR_len x
    have hck := chn_len (item_k64 hxi)
    simp (maxSteps := 10000000) (maxDischargeDepth := 30) only [List.length_map, go_sem, Nat.reduceEqDiff, ↓reduceIte, Nat.reduceAdd, Nat.reduceMul, Nat.reduceLeDiff, Nat.reduceLT, reduceCtorEq, Int.reduceToNat, Int.reduceLE, Int.reduceLT, Int.reduceEq, Int.reduceNeg, Int.reduceNe, Int.reducePow, Nat.reducePow, Nat.reduceSub, IntKind.bits]
    refine ru_loop (fun k => (fieldsR x).length - k) (IItemsW2 o l x of h0 b (bs ++ chn l.length ++ (l.take i).flatMap itemB ++ chn x.k) h i) 0 ?_ ?_
    · unfold IItemsW2
      simp (maxSteps := 10000000) (maxDischargeDepth := 30) only [Int.natCast_zero, e0, e5, e16, e17, e18, go_sem, Nat.reduceEqDiff, ↓reduceIte, Nat.reduceAdd, Nat.reduceMul, Nat.reduceLeDiff, Nat.reduceLT, reduceCtorEq, Int.reduceToNat, Int.reduceLE, Int.reduceLT, Int.reduceEq, Int.reduceNeg, Int.reduceNe, Int.reducePow, Nat.reducePow, Nat.reduceSub, IntKind.bits]
      exact ⟨by simpa [chns] using W4, O4⟩
    · rintro k s hh ⟨e0, e5, e16, e17, e18, e30, e31, e32, hk, W5, O5⟩
      have hcl := chns_len (l := (fieldsR x).take k) (fun n hn => fieldsR_64 hxi n (List.mem_of_mem_take hn))
      rw [List.length_take] at hcl
      have ew2 : IntKind.i64.wrap ((i : Int) + 1) = ((i + 1 : Nat) : Int) := by rw [wrap64 (by omega) (by omega)]; omega
      by_cases c2 : (k : Int) < (fieldsR x).length
      · refine ru_step ?_
        obtain ⟨y, hy⟩ : ∃ y, (fieldsR x)[k]? = some y := ⟨(fieldsR x)[k], List.getElem?_eq_getElem (by omega)⟩
        have iy := int_at hy
        have ew : IntKind.i64.wrap ((k : Int) + 1) = ((k + 1 : Nat) : Int) := by rw [wrap64 (by omega) (by omega)]; omega
        simp (maxSteps := 10000000) (maxDischargeDepth := 30) only [e0, e5, e16, e17, e18, e30, e31, e32, c2, iy, go_sem, Nat.reduceEqDiff, ↓reduceIte, Nat.reduceAdd, Nat.reduceMul, Nat.reduceLeDiff, Nat.reduceLT, reduceCtorEq, Int.reduceToNat, Int.reduceLE, Int.reduceLT, Int.reduceEq, Int.reduceNeg, Int.reduceNe, Int.reducePow, Nat.reducePow, Nat.reduceSub, IntKind.bits]
        refine ro_wcall (cWInt h0 b _ y hh W5 (fieldsR_64 hxi y (List.mem_of_getElem? hy)) (by simp only [List.length_append]; omega)) (fun h6 J6 => ?_)
        simp (maxSteps := 10000000) (maxDischargeDepth := 30) only [e0, e5, e16, e17, e18, e30, e31, e32, ew, go_sem, Nat.reduceEqDiff, ↓reduceIte, Nat.reduceAdd, Nat.reduceMul, Nat.reduceLeDiff, Nat.reduceLT, reduceCtorEq, Int.reduceToNat, Int.reduceLE, Int.reduceLT, Int.reduceEq, Int.reduceNeg, Int.reduceNe, Int.reducePow, Nat.reducePow, Nat.reduceSub, IntKind.bits]
        refine ⟨k + 1, by omega, ?_⟩
        unfold IItemsW2
        simp (maxSteps := 10000000) (maxDischargeDepth := 30) only [e0, e5, e16, e17, e18, e30, e31, e32, go_sem, Nat.reduceEqDiff, ↓reduceIte, Nat.reduceAdd, Nat.reduceMul, Nat.reduceLeDiff, Nat.reduceLT, reduceCtorEq, Int.reduceToNat, Int.reduceLE, Int.reduceLT, Int.reduceEq, Int.reduceNeg, Int.reduceNe, Int.reducePow, Nat.reducePow, Nat.reduceSub, IntKind.bits]
        refine ⟨by omega, ?_, O5.trans J6.2⟩
        rw [take_succ hy, chns_append, ← List.append_assoc, show chns [y] = chn y by simp [chns]]
        exact J6.1
      · obtain rfl : k = (fieldsR x).length := by omega
        rw [List.take_length] at W5
        simp (maxSteps := 10000000) (maxDischargeDepth := 30) only [e0, e5, e16, e17, e18, e30, e31, e32, c2, ew2, go_sem, Nat.reduceEqDiff, ↓reduceIte, Nat.reduceAdd, Nat.reduceMul, Nat.reduceLeDiff, Nat.reduceLT, reduceCtorEq, Int.reduceToNat, Int.reduceLE, Int.reduceLT, Int.reduceEq, Int.reduceNeg, Int.reduceNe, Int.reducePow, Nat.reducePow, Nat.reduceSub, IntKind.bits]
        refine ⟨i + 1, by omega, ?_⟩
        unfold IItemsW
        simp (maxSteps := 10000000) (maxDischargeDepth := 30) only [e0, e5, e16, e17, e18, go_sem, Nat.reduceEqDiff, ↓reduceIte, Nat.reduceAdd, Nat.reduceMul, Nat.reduceLeDiff, Nat.reduceLT, reduceCtorEq, Int.reduceToNat, Int.reduceLE, Int.reduceLT, Int.reduceEq, Int.reduceNeg, Int.reduceNe, Int.reducePow, Nat.reducePow, Nat.reduceSub, IntKind.bits]
        refine ⟨by omega, bareL_take hx hbt hbx, ?_, O5⟩
        have e : bs ++ chn l.length ++ (l.take (i + 1)).flatMap itemB = bs ++ chn l.length ++ (l.take i).flatMap itemB ++ chn x.k ++ chns (fieldsR x) := by
          rw [flat_take itemB hx]; unfold itemB; simp only [List.append_assoc]
        rw [e]
        exact W5
end Go.LM
