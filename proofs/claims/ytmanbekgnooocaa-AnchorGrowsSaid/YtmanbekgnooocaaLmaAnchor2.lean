import Derived.Test.YtmanbekgnooocaaLmTraR2
import Derived.Test.YtmanbekgnooocaaLmaAnchor1
namespace Go.LM
open Go.Proofs
set_option maxRecDepth 8000
set_option maxHeartbeats 4000000
set_option linter.unusedSimpArgs false

/-! ### of a map -/
/-- A thing of each number up to one. -/
def ups {α : Type} (f : Nat → α) (i : Nat) : List α := (List.range (i + 1)).map f
theorem ups_s {α : Type} (f : Nat → α) (i : Nat) : ups f (i + 1) = ups f i ++ [f (i + 1)] := by unfold ups; rw [List.range_succ, List.map_append]; rfl
theorem ups_len {α : Type} (f : Nat → α) (i : Nat) : (ups f i).length = i + 1 := by unfold ups; rw [List.length_map, List.length_range]
def mapL (o o1 o2 o3 : Option (Nat × Nat)) (l : List ItemR) (fl : List FloatR) (i : Nat) : List LV :=
  [mkS o 7 (l.map ItemR.e), ints o1 (ups (begunN l) i), mkS o2 3 (ups (fun k => (aheadN l fl k).e) i), mkS o3 3 (ups (fun k => (dueN l fl k).e) i)]
structure IsMap (p : Nat) (l : List ItemR) (fl : List FloatR) (h : H) : Prop where
  get : ∃ o o1 o2 o3, h.get p = some ⟨false, mapL o o1 o2 o3 l fl l.length⟩
theorem IsMap.next {p : Nat} {l : List ItemR} {fl : List FloatR} {h h' : H} (m : IsMap p l fl h) (k : Keep h h') : IsMap p l fl h' := by
  obtain ⟨o, o1, o2, o3, g⟩ := m.get
  exact ⟨o, o1, o2, o3, (k.get (lt_of_get g)).trans g⟩
theorem range_at {f : Nat → Int} {n k : Nat} (h : k ≤ n) : iaS ((ups f n).map (LV.int .i64)) (k : Int) = some (.cptr (.int .i64 (f k))) := by
  unfold ups
  rw [List.map_map]
  refine iaS_map (Int.natCast_nonneg k) ?_
  rw [Int.toNat_natCast, List.getElem?_range (by omega)]
theorem range_at' {g : Nat → LV} {n k : Nat} (h : k ≤ n) : iaS (ups g n) (k : Int) = some (.cptr (g k)) := by
  unfold ups
  refine iaS_map (Int.natCast_nonneg k) ?_
  rw [Int.toNat_natCast, List.getElem?_range (by omega)]
theorem item_atA {l : List ItemR} {i : Nat} {x : ItemR} (hx : l[i]? = some x) : iaS (l.map ItemR.e) (i : Int) = some (.cptr x.e) := iaS_map (Int.natCast_nonneg i) (by simpa using hx)
theorem cAPlace (p : Nat) (l : List ItemR) (fl : List FloatR) (n : Int) (h : H) (m : IsMap p l fl h) :
    runI Try.prog TA 70 [.ptr p 0, .int .i64 n] h = some (.tup [.int .i64 (placeN l n), .bool true], hp Try.prog TA 70 [.ptr p 0, .int .i64 n] h) := by
  refine pure_of rfl res70 rfl ?_
  obtain ⟨o, o1, o2, o3, g⟩ := m.get
  have e : ((placeN l n : Nat) : Int) = min (max n 0) (l.length : Int) := by unfold placeN; omega
  simp (maxSteps := 10000000) (maxDischargeDepth := 30) only [q70, r70, g, mapL, List.length_map, e, go_sem, Nat.reduceEqDiff, ↓reduceIte, Nat.reduceAdd, Nat.reduceMul, Nat.reduceLeDiff, Nat.reduceLT, reduceCtorEq, Int.reduceToNat, Int.reduceLE, Int.reduceLT, Int.reduceEq, Int.reduceNeg, Int.reduceNe, Int.reducePow, Nat.reducePow, Nat.reduceSub, IntKind.bits]
def INums (p : Nat) (l : List ItemR) (fl : List FloatR) (k a b : Int) (h0 : H) (i : Nat) (s : S) (hh : H) : Prop :=
  s 0 = .ptr p 0 ∧ s 1 = .int .i64 k ∧ s 3 = .int .i64 (placeN l b) ∧ s 11 = .int .i64 i ∧ (i = placeN l a ∨ placeN l a ≤ i ∧ i ≤ placeN l b) ∧ IsMap p l fl hh ∧ ∃ o2, s 10 = ints o2 (numsD l k a b i) ∧ AccN h0 o2 (numsD l k a b i).length hh
theorem numsD_le {l : List ItemR} {k a b : Int} : ∀ i, (numsD l k a b i).length ≤ i := by
  intro i
  induction i with
  | zero => exact Nat.le_refl _
  | succ i ih =>
    rw [numsD]
    split
    · split
      · rw [List.length_append, List.length_singleton]; omega
      · omega
    · omega
theorem cANums (p : Nat) (l : List ItemR) (fl : List FloatR) (k a b : Int) (hl : l.length ≤ 1000) (h : H) (w : WF h) (m : IsMap p l fl h) :
    runI Try.prog TA 69 [.ptr p 0, .int .i64 k, .int .i64 a, .int .i64 b] h = some (ints (tk Try.prog TA 69 [.ptr p 0, .int .i64 k, .int .i64 a, .int .i64 b] h) (numsD l k a b l.length), hp Try.prog TA 69 [.ptr p 0, .int .i64 k, .int .i64 a, .int .i64 b] h) := by
  refine pureS_of rfl res69 rfl ?_
  simp (maxSteps := 10000000) (maxDischargeDepth := 30) only [q69, r69, go_sem, Nat.reduceEqDiff, ↓reduceIte, Nat.reduceAdd, Nat.reduceMul, Nat.reduceLeDiff, Nat.reduceLT, reduceCtorEq, Int.reduceToNat, Int.reduceLE, Int.reduceLT, Int.reduceEq, Int.reduceNeg, Int.reduceNe, Int.reducePow, Nat.reducePow, Nat.reduceSub, IntKind.bits]
  refine ro_kcall (cAPlace p l fl a h m) w (fun h1 k1 w1 => ?_)
  have m1 := m.next k1
  simp (maxSteps := 10000000) (maxDischargeDepth := 30) only [go_sem, Nat.reduceEqDiff, ↓reduceIte, Nat.reduceAdd, Nat.reduceMul, Nat.reduceLeDiff, Nat.reduceLT, reduceCtorEq, Int.reduceToNat, Int.reduceLE, Int.reduceLT, Int.reduceEq, Int.reduceNeg, Int.reduceNe, Int.reducePow, Nat.reducePow, Nat.reduceSub, IntKind.bits]
  refine ro_kcall (cAPlace p l fl b h1 m1) w1 (fun h2 k2 w2 => ?_)
  have m2 := m1.next k2
  simp (maxSteps := 10000000) (maxDischargeDepth := 30) only [go_sem, Nat.reduceEqDiff, ↓reduceIte, Nat.reduceAdd, Nat.reduceMul, Nat.reduceLeDiff, Nat.reduceLT, reduceCtorEq, Int.reduceToNat, Int.reduceLE, Int.reduceLT, Int.reduceEq, Int.reduceNeg, Int.reduceNe, Int.reducePow, Nat.reducePow, Nat.reduceSub, IntKind.bits]
  have hpa := placeN_le (l := l) a
  have hpb := placeN_le (l := l) b
  refine ru_loop (fun i => l.length - i) (INums p l fl k a b h) (placeN l a) ?_ ?_
  · unfold INums
    simp (maxSteps := 10000000) (maxDischargeDepth := 30) only [go_sem, Nat.reduceEqDiff, ↓reduceIte, Nat.reduceAdd, Nat.reduceMul, Nat.reduceLeDiff, Nat.reduceLT, reduceCtorEq, Int.reduceToNat, Int.reduceLE, Int.reduceLT, Int.reduceEq, Int.reduceNeg, Int.reduceNe, Int.reducePow, Nat.reducePow, Nat.reduceSub, IntKind.bits]
    exact ⟨m2, none, by rw [numsD_none _ (Nat.le_refl _)]; rfl, by rw [numsD_none _ (Nat.le_refl _)]; exact .start (k1.trans k2) w2⟩
  · rintro i s hh ⟨e0, e1, e3, e11, hi, mh, o2, e10, A⟩
    by_cases c1 : (i : Int) < placeN l b
    rotate_left
    · have he : numsD l k a b l.length = numsD l k a b i := by
        rcases hi with rfl | hi
        · exact numsD_end (by omega) hpa
        · exact numsD_end (by omega) (by omega)
      rw [he]
      have kA := A.keep
      simp (maxSteps := 10000000) (maxDischargeDepth := 30) only [e0, e1, e3, e11, e10, c1, kA, go_sem, Nat.reduceEqDiff, ↓reduceIte, Nat.reduceAdd, Nat.reduceMul, Nat.reduceLeDiff, Nat.reduceLT, reduceCtorEq, Int.reduceToNat, Int.reduceLE, Int.reduceLT, Int.reduceEq, Int.reduceNeg, Int.reduceNe, Int.reducePow, Nat.reducePow, Nat.reduceSub, IntKind.bits]
      exact ⟨o2, rfl⟩
    refine ru_step ?_
    have hai : placeN l a ≤ i := by rcases hi with rfl | hi <;> omega
    obtain ⟨x, hx⟩ := at_lt (l := l) (i := i) (by omega)
    have hin := numsD_in (k := k) hx hai (show i < placeN l b by omega)
    have ia := item_atA hx
    have ew : IntKind.i64.wrap ((i : Int) + 1) = ((i + 1 : Nat) : Int) := by rw [wrap64 (by omega) (by omega)]; omega
    have hle := numsD_le (l := l) (k := k) (a := a) (b := b) i
    obtain ⟨o, o1, o3, o4, g⟩ := mh.get
    by_cases c2 : x.k = k
    · rw [if_pos c2] at hin
      have k1 := (Keep.refl hh).nrow 1
      obtain ⟨o5, h3, ap, A3, gg, -⟩ := (A.next k1).appI (by_ := 8) [x.n] (by rw [List.length_singleton]; omega)
      rw [← hin] at ap A3
      have ap' : appS 1 8 (ints o2 (numsD l k a b i)) (hh.nrow 1) (some [.int .i64 x.n]) = some (ints o5 (numsD l k a b (i + 1)), h3) := ap
      have kk := A3.keep
      simp (maxSteps := 10000000) (maxDischargeDepth := 30) only [e0, e1, e3, e11, e10, c1, g, mapL, ia, ItemR.e, c2, ap', ew, go_sem, Nat.reduceEqDiff, ↓reduceIte, Nat.reduceAdd, Nat.reduceMul, Nat.reduceLeDiff, Nat.reduceLT, reduceCtorEq, Int.reduceToNat, Int.reduceLE, Int.reduceLT, Int.reduceEq, Int.reduceNeg, Int.reduceNe, Int.reducePow, Nat.reducePow, Nat.reduceSub, IntKind.bits]
      refine ⟨i + 1, by omega, ?_⟩
      unfold INums
      simp (maxSteps := 10000000) (maxDischargeDepth := 30) only [e0, e1, e3, go_sem, Nat.reduceEqDiff, ↓reduceIte, Nat.reduceAdd, Nat.reduceMul, Nat.reduceLeDiff, Nat.reduceLT, reduceCtorEq, Int.reduceToNat, Int.reduceLE, Int.reduceLT, Int.reduceEq, Int.reduceNeg, Int.reduceNe, Int.reducePow, Nat.reducePow, Nat.reduceSub, IntKind.bits]
      exact ⟨.inr ⟨by omega, by omega⟩, ⟨o, o1, o3, o4, by rw [gg, get_nrow]; exact g⟩, o5, rfl, A3⟩
    · rw [if_neg c2] at hin
      simp (maxSteps := 10000000) (maxDischargeDepth := 30) only [e0, e1, e3, e11, e10, c1, g, mapL, ia, ItemR.e, c2, ew, go_sem, Nat.reduceEqDiff, ↓reduceIte, Nat.reduceAdd, Nat.reduceMul, Nat.reduceLeDiff, Nat.reduceLT, reduceCtorEq, Int.reduceToNat, Int.reduceLE, Int.reduceLT, Int.reduceEq, Int.reduceNeg, Int.reduceNe, Int.reducePow, Nat.reducePow, Nat.reduceSub, IntKind.bits]
      refine ⟨i + 1, by omega, ?_⟩
      unfold INums
      simp (maxSteps := 10000000) (maxDischargeDepth := 30) only [e0, e1, e3, e10, go_sem, Nat.reduceEqDiff, ↓reduceIte, Nat.reduceAdd, Nat.reduceMul, Nat.reduceLeDiff, Nat.reduceLT, reduceCtorEq, Int.reduceToNat, Int.reduceLE, Int.reduceLT, Int.reduceEq, Int.reduceNeg, Int.reduceNe, Int.reducePow, Nat.reducePow, Nat.reduceSub, IntKind.bits]
      rw [hin]
      exact ⟨.inr ⟨by omega, by omega⟩, mh, o2, rfl, A⟩
end Go.LM
