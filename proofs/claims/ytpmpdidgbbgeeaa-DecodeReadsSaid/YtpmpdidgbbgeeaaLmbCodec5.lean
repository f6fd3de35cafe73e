import Derived.Test.YtpmpdidgbbgeeaaLmTrbR2
import Derived.Test.YtpmpdidgbbgeeaaLmTrbR3
import Derived.Test.YtpmpdidgbbgeeaaLmbCodec4
namespace Go.LM
open Go.Proofs
set_option maxRecDepth 8000
set_option maxHeartbeats 2000000
set_option linter.unusedSimpArgs false

def IXInts {α : Type} (one : RS → α × RS) (h0 h : H) (p : Nat) (r : RS) (n : Nat) (zs : List α) (r' : RS) (o : Option (Nat × Nat)) (i : Nat) (hh : H) : Prop :=
  zs.length = i ∧ i ≤ n ∧ Gth h0 h p r' o zs.length hh ∧ r'.ok ∧ r'.b = r.b ∧ gather one n r.count.2 = (zs ++ (gather one (n - i) r').1, (gather one (n - i) r').2)
theorem fin_each {α : Type} {one : RS → α × RS} {r r' : RS} {n i : Nat} {zs : List α} (hnt : r.count.1.toNat = n) (hg : gather one n r.count.2 = (zs ++ (gather one (n - i) r').1, (gather one (n - i) r').2)) (h : n ≤ i ∨ r'.stop = true) :
    (r'.stop = true → eachL one r = ([], r')) ∧ (r'.stop = false → eachL one r = (zs, r')) := by
  have e : gather one n r.count.2 = (zs, r') := by
    rw [hg]
    rcases h with h | h
    · rw [show n - i = 0 by omega]; simp [gather]
    · rw [gather_stop h]; simp
  unfold eachL
  rw [hnt, e]
  dsimp only
  exact ⟨fun q => by rw [if_pos q], fun q => by rw [if_neg (by simp [q])]⟩
theorem step_each {α : Type} {one : RS → α × RS} {r r' : RS} {n i : Nat} {zs : List α} (hlt : i < n) (hs : r'.stop = false) (hg : gather one n r.count.2 = (zs ++ (gather one (n - i) r').1, (gather one (n - i) r').2)) :
    gather one n r.count.2 = ((zs ++ [(one r').1]) ++ (gather one (n - (i + 1)) (one r').2).1, (gather one (n - (i + 1)) (one r').2).2) := by
  rw [hg, show n - i = (n - (i + 1)) + 1 by omega, gather_go hs]
  simp
theorem cXInts (h0 : H) (p : Nat) (r : RS) (h : H) (R : Rdr h0 p r h) (ok : r.ok) (hl : r.b.length ≤ 1000000000000) :
    ∃ v h', runI Try.prog TA 92 [.ptr p 0] h = some (v, h') ∧ (∃ o, v = ints o (eachL RS.int r).1) ∧ Rdr h0 p (eachL RS.int r).2 h' ∧ Otr p h h' := by
  refine calls_of rfl res92 rfl ?_
  simp (maxSteps := 10000000) (maxDischargeDepth := 30) only [q92, r92, go_sem, Nat.reduceEqDiff, ↓reduceIte, Nat.reduceAdd, Nat.reduceMul, Nat.reduceLeDiff, Nat.reduceLT, reduceCtorEq, Int.reduceToNat, Int.reduceLE, Int.reduceLT, Int.reduceEq, Int.reduceNeg, Int.reduceNe, Int.reducePow, Nat.reducePow, Nat.reduceSub, IntKind.bits]
  refine ro_wcall (cXCount h0 p r h R ok hl) (fun h1 J => ?_)
  obtain ⟨R1, O1⟩ := J
  have hc := RS.count_ok ok
  have hcb := r.count_b
  obtain ⟨n, hn⟩ : ∃ n : Nat, r.count.1 = (n : Int) := ⟨r.count.1.toNat, by omega⟩
  have hnt : r.count.1.toNat = n := by omega
  have hh0 : h0.rlen ≤ h.rlen := R.keep.rlen
  rw [hn]
  simp (maxSteps := 10000000) (maxDischargeDepth := 30) only [go_sem, Nat.reduceEqDiff, ↓reduceIte, Nat.reduceAdd, Nat.reduceMul, Nat.reduceLeDiff, Nat.reduceLT, reduceCtorEq, Int.reduceToNat, Int.reduceLE, Int.reduceLT, Int.reduceEq, Int.reduceNeg, Int.reduceNe, Int.reducePow, Nat.reducePow, Nat.reduceSub, IntKind.bits]
  refine ru_loop (fun i => n - i) (fun i s hh => s 0 = .ptr p 0 ∧ s 3 = .int .i64 (n : Nat) ∧ s 5 = .int .i64 (i : Nat) ∧ ∃ o zs r', s 4 = ints o zs ∧ IXInts RS.int h0 h p r n zs r' o i hh) 0 ?_ ?_
  · unfold IXInts
    simp (maxSteps := 10000000) (maxDischargeDepth := 30) only [Int.natCast_zero, go_sem, Nat.reduceEqDiff, ↓reduceIte, Nat.reduceAdd, Nat.reduceMul, Nat.reduceLeDiff, Nat.reduceLT, reduceCtorEq, Int.reduceToNat, Int.reduceLE, Int.reduceLT, Int.reduceEq, Int.reduceNeg, Int.reduceNe, Int.reducePow, Nat.reducePow, Nat.reduceSub, IntKind.bits]
    exact ⟨none, [], r.count.2, rfl, rfl, .start R1 O1, hc.1, hcb, by simp⟩
  · rintro i s hh ⟨e0, e3, e5, o, zs, r', e4, hz, hi, G, ok', hb', hg⟩
    obtain ⟨q, hq⟩ := G.rdr.get
    have lt := G.rdr.lt
    by_cases c1 : (i : Int) < n
    rotate_left
    · have hx := fin_each hnt hg (.inl (by omega))
      by_cases hs : r'.stop = true
      · simp (maxSteps := 10000000) (maxDischargeDepth := 30) only [e0, e3, e4, e5, c1, hq, hs, go_sem, Nat.reduceEqDiff, ↓reduceIte, Nat.reduceAdd, Nat.reduceMul, Nat.reduceLeDiff, Nat.reduceLT, reduceCtorEq, Int.reduceToNat, Int.reduceLE, Int.reduceLT, Int.reduceEq, Int.reduceNeg, Int.reduceNe, Int.reducePow, Nat.reducePow, Nat.reduceSub, IntKind.bits]
        rw [hx.1 hs]
        exact ⟨⟨none, rfl⟩, G.rdr, G.otr⟩
      · have hs' : r'.stop = false := by simpa using hs
        simp (maxSteps := 10000000) (maxDischargeDepth := 30) only [e0, e3, e4, e5, c1, hq, hs', go_sem, Nat.reduceEqDiff, ↓reduceIte, Nat.reduceAdd, Nat.reduceMul, Nat.reduceLeDiff, Nat.reduceLT, reduceCtorEq, Int.reduceToNat, Int.reduceLE, Int.reduceLT, Int.reduceEq, Int.reduceNeg, Int.reduceNe, Int.reducePow, Nat.reducePow, Nat.reduceSub, IntKind.bits]
        rw [hx.2 hs']
        exact ⟨⟨o, rfl⟩, G.rdr, G.otr⟩
    by_cases hs : r'.stop = true
    · have hx := fin_each hnt hg (.inr hs)
      simp (maxSteps := 10000000) (maxDischargeDepth := 30) only [e0, e3, e4, e5, c1, hq, hs, go_sem, Nat.reduceEqDiff, ↓reduceIte, Nat.reduceAdd, Nat.reduceMul, Nat.reduceLeDiff, Nat.reduceLT, reduceCtorEq, Int.reduceToNat, Int.reduceLE, Int.reduceLT, Int.reduceEq, Int.reduceNeg, Int.reduceNe, Int.reducePow, Nat.reducePow, Nat.reduceSub, IntKind.bits]
      rw [hx.1 hs]
      exact ⟨⟨none, rfl⟩, G.rdr, G.otr⟩
    refine ru_step ?_
    have hs' : r'.stop = false := by simpa using hs
    simp (maxSteps := 10000000) (maxDischargeDepth := 30) only [e0, e3, e4, e5, c1, hq, hs', go_sem, Nat.reduceEqDiff, ↓reduceIte, Nat.reduceAdd, Nat.reduceMul, Nat.reduceLeDiff, Nat.reduceLT, reduceCtorEq, Int.reduceToNat, Int.reduceLE, Int.reduceLT, Int.reduceEq, Int.reduceNeg, Int.reduceNe, Int.reducePow, Nat.reducePow, Nat.reduceSub, IntKind.bits]
    refine ro_wcall (cXInt h0 p r' hh G.rdr ok' (by rw [hb']; exact hl)) (fun h3 J => ?_)
    obtain ⟨R3, O3⟩ := J
    have k3 : Keep h3 (h3.nrow 1) := (Keep.refl h3).nrow 1
    have G3 := (G.step R3 O3).next k3
    rw [show zs.length = (zs.map (LV.int .i64)).length by rw [List.length_map]] at G3
    obtain ⟨o4, h4, ap, G4, -, -, -, -⟩ := G3.app (sz := 1) (by_ := 8) (xs := zs.map (LV.int .i64)) hh0 [.int .i64 r'.int.1] (by
      rw [List.length_map, hz, List.length_singleton]; omega)
    have ezs : zs.map (LV.int .i64) ++ [.int .i64 r'.int.1] = (zs ++ [r'.int.1]).map (LV.int .i64) := by simp
    rw [ezs] at ap G4
    rw [List.length_map] at G4
    have ew : IntKind.i64.wrap ((i : Int) + 1) = ((i + 1 : Nat) : Int) := by rw [wrap64 (by omega) (by omega)]; omega
    simp (maxSteps := 10000000) (maxDischargeDepth := 30) only [e0, e3, e4, e5, ap, ew, go_sem, Nat.reduceEqDiff, ↓reduceIte, Nat.reduceAdd, Nat.reduceMul, Nat.reduceLeDiff, Nat.reduceLT, reduceCtorEq, Int.reduceToNat, Int.reduceLE, Int.reduceLT, Int.reduceEq, Int.reduceNeg, Int.reduceNe, Int.reducePow, Nat.reducePow, Nat.reduceSub, IntKind.bits]
    refine ⟨i + 1, by omega, ?_⟩
    simp (maxSteps := 10000000) (maxDischargeDepth := 30) only [e0, e3, go_sem, Nat.reduceEqDiff, ↓reduceIte, Nat.reduceAdd, Nat.reduceMul, Nat.reduceLeDiff, Nat.reduceLT, reduceCtorEq, Int.reduceToNat, Int.reduceLE, Int.reduceLT, Int.reduceEq, Int.reduceNeg, Int.reduceNe, Int.reducePow, Nat.reducePow, Nat.reduceSub, IntKind.bits]
    exact ⟨o4, zs ++ [r'.int.1], r'.int.2, rfl, by simp [hz], by omega, G4, RS.int_one.ok r' ok', (RS.int_b r').trans hb', step_each (by omega) hs' hg⟩

/-! ### one reading -/
end Go.LM
