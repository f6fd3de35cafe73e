import Derived.Test.YtgbhkmgmpodnkaaLmTrcRc
import Derived.Test.YtgbhkmgmpodnkaaLmcPile5
import Derived.Test.YtgbhkmgmpodnkaaLmB13
namespace Go.LM
open Go.Proofs
set_option maxRecDepth 8000
set_option maxHeartbeats 4000000
set_option linter.unusedSimpArgs false
set_option linter.unusedVariables false
theorem Pl.same {C : Prop} {h0 : H} {p r : Nat} {o : Option Nat} {l : List PairR} {h h' : H} (w : Pl C h0 p r o l h) (k : Keep h0 h') (wf : WF h') (e : ∀ c, h'.get c = h.get c) : Pl C h0 p r o l h' := by
  refine ⟨⟨?_, w.row.new, k, wf, w.row.lo⟩, (e p).trans w.gp, w.pr, w.po, w.hp0, w.heap⟩
  have := w.row.at_
  cases o with
  | none => exact ⟨this.1, (e r).trans this.2⟩
  | some m =>
    obtain ⟨h1, h2, h3, c, h4, h5⟩ := this
    exact ⟨h1, h2, (e r).trans h3, c, (e m).trans h4, h5⟩
def SortedP (l : List PairR) : Prop := l.Pairwise fun x y => x.a ≤ y.a
theorem sorted_snoc {l : List PairR} {x : PairR} (h : SortedP l) (hx : ∀ y ∈ l, y.a ≤ x.a) : SortedP (l ++ [x]) := by
  unfold SortedP
  rw [List.pairwise_append]
  refine ⟨h, by simp, fun a ha b hb => ?_⟩
  rw [List.mem_singleton.1 hb]; exact hx a ha
theorem root_min {l : List PairR} {x : PairR} (h : HeapN l l.length) (hx : l[0]? = some x) : ∀ y ∈ l, x.a ≤ y.a := by
  intro y hy
  obtain ⟨i, hi, rfl⟩ := List.getElem_of_mem hy
  have := heap_root h i hi
  rw [key_some hx, key_some (List.getElem?_eq_getElem hi)] at this
  exact this
theorem pair_at {xs : List PairR} {i : Nat} {x : PairR} (h : xs[i]? = some x) : iaS (xs.map PairR.e) (i : Int) = some (.cptr x.e) := by
  unfold iaS
  rw [if_pos (by omega), Int.toNat_natCast, List.getElem?_map, h]; rfl
def INew (C : Prop) (h : H) (o0 : Option (Nat × Nat)) (xs : List PairR) (i : Nat) (s : S) (hh : H) : Prop :=
  s 5 = .ptr (h.len + 1) 0 ∧ s 17 = mkS o0 2 (xs.map PairR.e) ∧ s 18 = .int .i64 xs.length ∧ s 19 = .int .i64 i ∧ i ≤ xs.length ∧ ∃ o l, Pl C h (h.len + 1) h.len o l hh ∧ l.Perm (xs.take i)
def okNew (C : Prop) (h : H) (xs : List PairR) (v : LV) (h' : H) : Prop := ∃ p r o l, v = .ptr p 0 ∧ Pl C h p r o l h' ∧ l.Perm xs
theorem cPlNew (C : Prop) (o0 : Option (Nat × Nat)) (xs : List PairR) (h : H) (w : WF h) (hc : C → InR xs) (hb : xs.length ≤ 100000) :
    ∃ v h', runI Try.prog TA 35 [.fn 36 [] [], mkS o0 2 (xs.map PairR.e)] h = some (v, h') ∧ okNew C h xs v h' := by
  refine calls_of rfl res35 rfl ?_
  have lo := w.1
  simp (maxSteps := 10000000) (maxDischargeDepth := 30) only [q35, r35, go_sem, Nat.reduceEqDiff, ↓reduceIte, Nat.reduceAdd, Nat.reduceMul, Nat.reduceLeDiff, Nat.reduceLT, reduceCtorEq, Int.reduceToNat, Int.reduceLE, Int.reduceLT, Int.reduceEq, Int.reduceNeg, Int.reduceNe, Int.reducePow, Nat.reducePow, Nat.reduceSub, IntKind.bits]
  refine ru_loop (fun i => xs.length - i) (INew C h o0 xs) 0 ?_ ?_
  · unfold INew
    simp (maxSteps := 10000000) (maxDischargeDepth := 30) only [Int.natCast_zero, go_sem, Nat.reduceEqDiff, ↓reduceIte, Nat.reduceAdd, Nat.reduceMul, Nat.reduceLeDiff, Nat.reduceLT, reduceCtorEq, Int.reduceToNat, Int.reduceLE, Int.reduceLT, Int.reduceEq, Int.reduceNeg, Int.reduceNe, Int.reducePow, Nat.reducePow, Nat.reduceSub, IntKind.bits]
    have kk : Keep h ((h.alloc [.nilm, .fn 36 [] []]).alloc [.ptr h.len 0]) := ((Keep.refl h).alloc _).alloc _
    have g1 : ((h.alloc [.nilm, .fn 36 [] []]).alloc [.ptr h.len 0]).get h.len = some ⟨false, [.nilm, .fn 36 [] []]⟩ := by rw [get_alloc_lt (by rw [len_alloc]; omega)]; exact get_alloc_eq _ _
    have g2 : ((h.alloc [.nilm, .fn 36 [] []]).alloc [.ptr h.len 0]).get (h.len + 1) = some ⟨false, [.ptr h.len 0]⟩ := by
      have := get_alloc_eq (h.alloc [.nilm, .fn 36 [] []]) [.ptr h.len 0]
      rwa [len_alloc] at this
    exact ⟨none, [], ⟨⟨⟨rfl, g1⟩, Nat.le_refl _, kk, w.keep kk, lo⟩, g2, by omega, by simp, by omega, fun c => ⟨fun x hx => (by cases hx), fun i h0 h1 => (by simp at h1)⟩⟩, .refl _⟩
  · rintro i s hh ⟨e5, e17, e18, e19, hi, o, l, W, pm⟩
    have hlen := pm.length_eq
    rw [List.length_take] at hlen
    by_cases c1 : (i : Int) < xs.length
    rotate_left
    · obtain rfl : i = xs.length := by omega
      rw [List.take_length] at pm
      simp (maxSteps := 10000000) (maxDischargeDepth := 30) only [e5, e17, e18, e19, c1, go_sem, Nat.reduceEqDiff, ↓reduceIte, Nat.reduceAdd, Nat.reduceMul, Nat.reduceLeDiff, Nat.reduceLT, reduceCtorEq, Int.reduceToNat, Int.reduceLE, Int.reduceLT, Int.reduceEq, Int.reduceNeg, Int.reduceNe, Int.reducePow, Nat.reducePow, Nat.reduceSub, IntKind.bits]
      exact ⟨_, _, o, l, rfl, W, pm⟩
    refine ru_step ?_
    obtain ⟨x, hx⟩ := get_some (l := xs) (i := i) (by omega)
    have ia := pair_at hx
    have lo1 := W.row.wf.1
    have ew : IntKind.i64.wrap ((i : Int) + 1) = ((i + 1 : Nat) : Int) := by rw [wrap64 (by omega) (by omega)]; omega
    have k1 : Keep hh ((hh.alloc [.int .i64 0, .int .i64 0]).put hh.len ⟨false, [.int .i64 x.a, .int .i64 x.b]⟩) := ((Keep.refl hh).alloc _).put (Nat.le_refl _) _
    simp (maxSteps := 10000000) (maxDischargeDepth := 30) only [e5, e17, e18, e19, c1, ia, lo1, PairR.e, go_sem, Nat.reduceEqDiff, ↓reduceIte, Nat.reduceAdd, Nat.reduceMul, Nat.reduceLeDiff, Nat.reduceLT, reduceCtorEq, Int.reduceToNat, Int.reduceLE, Int.reduceLT, Int.reduceEq, Int.reduceNeg, Int.reduceNe, Int.reducePow, Nat.reducePow, Nat.reduceSub, IntKind.bits]
    refine ro_wcall (cPlPush (W.next k1) x (fun c => hc c x (List.mem_of_getElem? hx)) (by omega)) (fun h2 J => ?_)
    obtain ⟨⟨m', l', W2, hm, p2⟩, F2⟩ := J
    simp (maxSteps := 10000000) (maxDischargeDepth := 30) only [e19, ew, go_sem, Nat.reduceEqDiff, ↓reduceIte, Nat.reduceAdd, Nat.reduceMul, Nat.reduceLeDiff, Nat.reduceLT, reduceCtorEq, Int.reduceToNat, Int.reduceLE, Int.reduceLT, Int.reduceEq, Int.reduceNeg, Int.reduceNe, Int.reducePow, Nat.reducePow, Nat.reduceSub, IntKind.bits]
    refine ⟨i + 1, by omega, ?_⟩
    unfold INew
    simp (maxSteps := 10000000) (maxDischargeDepth := 30) only [e5, e17, e18, go_sem, Nat.reduceEqDiff, ↓reduceIte, Nat.reduceAdd, Nat.reduceMul, Nat.reduceLeDiff, Nat.reduceLT, reduceCtorEq, Int.reduceToNat, Int.reduceLE, Int.reduceLT, Int.reduceEq, Int.reduceNeg, Int.reduceNe, Int.reducePow, Nat.reducePow, Nat.reduceSub, IntKind.bits]
    refine ⟨by omega, some m', l', W2, ?_⟩
    rw [take_succ hx]
    exact p2.trans (pm.append_right [x])
end Go.LM
