import Derived.Test.YtpmpdidgbbgeeaaLmTrbR2
import Derived.Test.YtpmpdidgbbgeeaaLmTrbR3
import Derived.Test.YtpmpdidgbbgeeaaLmbCodec4
namespace Go.LM
open Go.Proofs
set_option maxRecDepth 8000
set_option maxHeartbeats 2000000
set_option linter.unusedSimpArgs false

def IXInts {α : Type} (one : RS → α × RS) (h0 h : H) (p : Nat) (r : RS) (n : Nat) (zs : List α) (r' : RS) (o : Option (Nat × Nat)) (i : Nat) (hh : H) : Prop :=
  zs.length = i ∧ i ≤ n ∧ Gth h0 h p r' o zs.length hh ∧ r'.ok ∧ r'.b = r.b ∧ gather one n r.count.2 = (zs ++ (gather one (n - i) r').1, (gather one (n - i) r').2)
theorem fin_each {α : Type} {one : RS → α × RS} {r r' : RS} {n i : Nat} {zs : List α} (hnt : r.count.1.toNat = n) (hg : gather one n r.count.2 = (zs ++ (gather one (n - i) r').1, (gather one (n - i) r').2)) (h : n ≤ i ∨ r'.stop = true) :
    (r'.stop = true → eachL one r = ([], r')) ∧ (r'.stop = false → eachL one r = (zs, r')) := by
  have e : gather one n r.count.2 = (zs, r') := by
    rw [hg]
    rcases h with h | h
    · rw [show n - i = 0 by omega]; simp [gather]
    · rw [gather_stop h]; simp
  unfold eachL
  rw [hnt, e]
  dsimp only
  exact ⟨fun q => by rw [if_pos q], fun q => by rw [if_neg (by simp [q])]⟩
theorem step_each {α : Type} {one : RS → α × RS} {r r' : RS} {n i : Nat} {zs : List α} (hlt : i < n) (hs : r'.stop = false) (hg : gather one n r.count.2 = (zs ++ (gather one (n - i) r').1, (gather one (n - i) r').2)) :
    gather one n r.count.2 = ((zs ++ [(one r').1]) ++ (gather one (n - (i + 1)) (one r').2).1, (gather one (n - (i + 1)) (one r').2).2) := by
  rw [hg, show n - i = (n - (i + 1)) + 1 by omega, gather_go hs]
  simp
theorem cXInts (h0 : H) (p : Nat) (r : RS) (h : H) (R : Rdr h0 p r h) (ok : r.ok) (hl : r.b.length ≤ 1000000000000) :
    ∃ v h', runI Try.prog TA 92 [.ptr p 0] h = some (v, h') ∧ (∃ o, v = ints o (eachL RS.int r).1) ∧ Rdr h0 p (eachL RS.int r).2 h' ∧ Otr p h h' := by
  refine calls_of rfl res92 rfl ?_
  simp (maxSteps := 10000000) (maxDischargeDepth := 30) only [q92, r92, go_sem, Nat.reduceEqDiff, ↓reduceIte, Nat.reduceAdd, Nat.reduceMul, Nat.reduceLeDiff, Nat.reduceLT, reduceCtorEq, Int.reduceToNat, Int.reduceLE, Int.reduceLT, Int.reduceEq, Int.reduceNeg, Int.reduceNe, Int.reducePow, Nat.reducePow, Nat.reduceSub, IntKind.bits]
  refine ro_wcall (cXCount h0 p r h R ok hl) (fun h1 J => ?_)
  obtain ⟨R1, O1⟩ := J
  have hc := RS.count_ok ok
  have hcb := r.count_b
  obtain ⟨n, hn⟩ : ∃ n : Nat, r.count.1 = (n : Int) := ⟨r.count.1.toNat, by omega⟩
  have hnt : r.count.1.toNat = n := by omega
  have hh0 : h0.rlen ≤ h.rlen := R.keep.rlen
  rw [hn]
  simp (maxSteps := 10000000) (maxDischargeDepth := 30) only [go_sem, Nat.reduceEqDiff, ↓reduceIte, Nat.reduceAdd, Nat.reduceMul, Nat.reduceLeDiff, Nat.reduceLT, reduceCtorEq, Int.reduceToNat, Int.reduceLE, Int.reduceLT, Int.reduceEq, Int.reduceNeg, Int.reduceNe, Int.reducePow, Nat.reducePow, Nat.reduceSub, IntKind.bits]
  refine ru_loop (fun i => n - i) (fun i s hh => s 0 = .ptr p 0 ∧ s 3 = .int .i64 (n : Nat) ∧ s 5 = .int .i64 (i : Nat) ∧ ∃ o zs r', s 4 = ints o zs ∧ IXInts RS.int h0 h p r n zs r' o i hh) 0 ?_ ?_
  · unfold IXInts
    simp (maxSteps := 10000000) (maxDischargeDepth := 30) only [Int.natCast_zero, go_sem, Nat.reduceEqDiff, ↓reduceIte, Nat.reduceAdd, Nat.reduceMul, Nat.reduceLeDiff, Nat.reduceLT, reduceCtorEq, Int.reduceToNat, Int.reduceLE, Int.reduceLT, Int.reduceEq, Int.reduceNeg, Int.reduceNe, Int.reducePow, Nat.reducePow, Nat.reduceSub, IntKind.bits]
    exact ⟨none, [], r.count.2, rfl, rfl, .start R1 O1, hc.1, hcb, by simp⟩
  · rintro i s hh ⟨e0, e3, e5, o, zs, r', e4, hz, hi, G, ok', hb', hg⟩
    obtain ⟨q, hq⟩ := G.rdr.get
    have lt := G.rdr.lt
    by_cases c1 : (i : Int) < n
    rotate_left
    · have hx := fin_each hnt hg (.inl (by omega))
      by_cases hs : r'.stop = true
      · simp (maxSteps := 10000000) (maxDischargeDepth := 30) only [e0, e3, e4, e5, c1, hq, hs, go_sem, Nat.reduceEqDiff, ↓reduceIte, Nat.reduceAdd, Nat.reduceMul, Nat.reduceLeDiff, Nat.reduceLT, reduceCtorEq, Int.reduceToNat, Int.reduceLE, Int.reduceLT, Int.reduceEq, Int.reduceNeg, Int.reduceNe, Int.reducePow, Nat.reducePow, Nat.reduceSub, IntKind.bits]
        rw [hx.1 hs]
        exact ⟨⟨none, rfl⟩, G.rdr, G.otr⟩
      · have hs' : r'.stop = false := by simpa using hs
        simp (maxSteps := 10000000) (maxDischargeDepth := 30) only [e0, e3, e4, e5, c1, hq, hs', go_sem, Nat.reduceEqDiff, ↓reduceIte, Nat.reduceAdd, Nat.reduceMul, Nat.reduceLeDiff, Nat.reduceLT, reduceCtorEq, Int.reduceToNat, Int.reduceLE, Int.reduceLT, Int.reduceEq, Int.reduceNeg, Int.reduceNe, Int.reducePow, Nat.reducePow, Nat.reduceSub, IntKind.bits]
        rw [hx.2 hs']
        exact ⟨⟨o, rfl⟩, G.rdr, G.otr⟩
    by_cases hs : r'.stop = true
    · have hx := fin_each hnt hg (.inr hs)
      simp (maxSteps := 10000000) (maxDischargeDepth := 30) only [e0, e3, e4, e5, c1, hq, hs, go_sem, Nat.reduceEqDiff, ↓reduceIte, Nat.reduceAdd, Nat.reduceMul, Nat.reduceLeDiff, Nat.reduceLT, reduceCtorEq, Int.reduceToNat, Int.reduceLE, Int.reduceLT, Int.reduceEq, Int.reduceNeg, Int.reduceNe, Int.reducePow, Nat.reducePow, Nat.reduceSub, IntKind.bits]
      rw [hx.1 hs]
      exact ⟨⟨none, rfl⟩, G.rdr, G.otr⟩
    refine ru_step ?_
    have hs' : r'.stop = false := by simpa using hs
    simp (maxSteps := 10000000) (maxDischargeDepth := 30) only [e0, e3, e4, e5, c1, hq, hs', go_sem, Nat.reduceEqDiff, ↓reduceIte, Nat.reduceAdd, Nat.reduceMul, Nat.reduceLeDiff, Nat.reduceLT, reduceCtorEq, Int.reduceToNat, Int.reduceLE, Int.reduceLT, Int.reduceEq, Int.reduceNeg, Int.reduceNe, Int.reducePow, Nat.reducePow, Nat.reduceSub, IntKind.bits]
    refine ro_wcall (cXInt h0 p r' hh G.rdr ok' (by rw [hb']; exact hl)) (fun h3 J => ?_)
    obtain ⟨R3, O3⟩ := J
    have k3 : Keep h3 (h3.nrow 1) := (Keep.refl h3).nrow 1
    have G3 := (G.step R3 O3).next k3
    rw [show zs.length = (zs.map (LV.int .i64)).length by rw [List.length_map]] at G3
    obtain ⟨o4, h4, ap, G4, -, -, -, -⟩ := G3.app (sz := 1) (by_ := 8) (xs := zs.map (LV.int .i64)) hh0 [.int .i64 r'.int.1] (by
      rw [List.length_map, hz, List.length_singleton]; omega)
    have ezs : zs.map (LV.int .i64) ++ [.int .i64 r'.int.1] = (zs ++ [r'.int.1]).map (LV.int .i64) := by simp
    rw [ezs] at ap G4
    rw [List.length_map] at G4
    have ew : IntKind.i64.wrap ((i : Int) + 1) = ((i + 1 : Nat) : Int) := by rw [wrap64 (by omega) (by omega)]; omega
    simp (maxSteps := 10000000) (maxDischargeDepth := 30) only [e0, e3, e4, e5, ap, ew, go_sem, Nat.reduceEqDiff, ↓reduceIte, Nat.reduceAdd, Nat.reduceMul, Nat.reduceLeDiff, Nat.reduceLT, reduceCtorEq, Int.reduceToNat, Int.reduceLE, Int.reduceLT, Int.reduceEq, Int.reduceNeg, Int.reduceNe, Int.reducePow, Nat.reducePow, Nat.reduceSub, IntKind.bits]
    refine ⟨i + 1, by omega, ?_⟩
    simp (maxSteps := 10000000) (maxDischargeDepth := 30) only [e0, e3, go_sem, Nat.reduceEqDiff, ↓reduceIte, Nat.reduceAdd, Nat.reduceMul, Nat.reduceLeDiff, Nat.reduceLT, reduceCtorEq, Int.reduceToNat, Int.reduceLE, Int.reduceLT, Int.reduceEq, Int.reduceNeg, Int.reduceNe, Int.reducePow, Nat.reducePow, Nat.reduceSub, IntKind.bits]
    exact ⟨o4, zs ++ [r'.int.1], r'.int.2, rfl, by simp [hz], by omega, G4, RS.int_one.ok r' ok', (RS.int_b r').trans hb', step_each (by omega) hs' hg⟩

/-! ### one reading -/
theorem cLRead06 (h0 : H) (p : Nat) (r : RS) (x : OpR) (h : H) (R : Rdr h0 p r h) (ok : r.ok) (hl : r.b.length ≤ 1000000000000) (hx : x.s.size ≤ 100000000) :
    ∃ v h', runI Try.prog TA 44 [.ptr p 0, x.e] h = some (v, h') ∧ (∃ o, v = ints o (r.read x).1) ∧ Rdr h0 p (r.read x).2 h' ∧ Otr p h h' := by
  refine calls_of rfl res44 rfl ?_
  have lo := R.wf.1
  have lt := R.lt
  by_cases d0 : x.k = 0
  · have e : r.read x = ([], r.mark (strB x.s)) := by unfold RS.read; rw [if_pos d0]
    rw [e]
    simp (maxSteps := 10000000) (maxDischargeDepth := 30) only [q44, r44, OpR.e, d0, go_sem, Nat.reduceEqDiff, ↓reduceIte, Nat.reduceAdd, Nat.reduceMul, Nat.reduceLeDiff, Nat.reduceLT, reduceCtorEq, Int.reduceToNat, Int.reduceLE, Int.reduceLT, Int.reduceEq, Int.reduceNeg, Int.reduceNe, Int.reducePow, Nat.reducePow, Nat.reduceSub, IntKind.bits]
    refine ro_wcall (cRdMark h0 p r x.s _ (R.next ((Keep.refl h).alloc _)) ok hl hx) (fun h2 J => ?_)
    simp (maxSteps := 10000000) (maxDischargeDepth := 30) only [go_sem, Nat.reduceEqDiff, ↓reduceIte, Nat.reduceAdd, Nat.reduceMul, Nat.reduceLeDiff, Nat.reduceLT, reduceCtorEq, Int.reduceToNat, Int.reduceLE, Int.reduceLT, Int.reduceEq, Int.reduceNeg, Int.reduceNe, Int.reducePow, Nat.reducePow, Nat.reduceSub, IntKind.bits]
    exact ⟨⟨none, rfl⟩, J.1, (((Keep.refl h).alloc _).otr p).trans J.2⟩
  by_cases d1 : x.k = 1
  · have e : r.read x = ([r.int.1], r.int.2) := by unfold RS.read; rw [if_neg d0, if_pos d1]
    rw [e]
    simp (maxSteps := 10000000) (maxDischargeDepth := 30) only [q44, r44, OpR.e, d1, go_sem, Nat.reduceEqDiff, ↓reduceIte, Nat.reduceAdd, Nat.reduceMul, Nat.reduceLeDiff, Nat.reduceLT, reduceCtorEq, Int.reduceToNat, Int.reduceLE, Int.reduceLT, Int.reduceEq, Int.reduceNeg, Int.reduceNe, Int.reducePow, Nat.reducePow, Nat.reduceSub, IntKind.bits]
    refine ro_wcall (cRdInt h0 p r _ (R.next ((Keep.refl h).alloc _)) ok hl) (fun h2 J => ?_)
    simp (maxSteps := 10000000) (maxDischargeDepth := 30) only [go_sem, Nat.reduceEqDiff, ↓reduceIte, Nat.reduceAdd, Nat.reduceMul, Nat.reduceLeDiff, Nat.reduceLT, reduceCtorEq, Int.reduceToNat, Int.reduceLE, Int.reduceLT, Int.reduceEq, Int.reduceNeg, Int.reduceNe, Int.reducePow, Nat.reducePow, Nat.reduceSub, IntKind.bits]
    have k2 : Keep h2 (h2.nrow 1) := (Keep.refl h2).nrow 1
    exact ⟨⟨_, rfl⟩, J.1.next k2, ((((Keep.refl h).alloc _).otr p).trans J.2).trans (k2.otr p)⟩
  by_cases d2 : x.k = 2
  · have e : r.read x = ([boolN r.bool.1], r.bool.2) := by unfold RS.read; rw [if_neg d0, if_neg d1, if_pos d2]
    rw [e]
    simp (maxSteps := 10000000) (maxDischargeDepth := 30) only [q44, r44, OpR.e, d2, go_sem, Nat.reduceEqDiff, ↓reduceIte, Nat.reduceAdd, Nat.reduceMul, Nat.reduceLeDiff, Nat.reduceLT, reduceCtorEq, Int.reduceToNat, Int.reduceLE, Int.reduceLT, Int.reduceEq, Int.reduceNeg, Int.reduceNe, Int.reducePow, Nat.reducePow, Nat.reduceSub, IntKind.bits]
    refine ro_wcall (cRdBool h0 p r _ (R.next ((Keep.refl h).alloc _)) ok hl) (fun h2 J => ?_)
    have k2 : Keep h2 (h2.nrow 1) := (Keep.refl h2).nrow 1
    cases hb : r.bool.1
    · simp (maxSteps := 10000000) (maxDischargeDepth := 30) only [go_sem, Nat.reduceEqDiff, ↓reduceIte, Nat.reduceAdd, Nat.reduceMul, Nat.reduceLeDiff, Nat.reduceLT, reduceCtorEq, Int.reduceToNat, Int.reduceLE, Int.reduceLT, Int.reduceEq, Int.reduceNeg, Int.reduceNe, Int.reducePow, Nat.reducePow, Nat.reduceSub, IntKind.bits]
      exact ⟨⟨_, rfl⟩, J.1.next k2, ((((Keep.refl h).alloc _).otr p).trans J.2).trans (k2.otr p)⟩
    · simp (maxSteps := 10000000) (maxDischargeDepth := 30) only [go_sem, Nat.reduceEqDiff, ↓reduceIte, Nat.reduceAdd, Nat.reduceMul, Nat.reduceLeDiff, Nat.reduceLT, reduceCtorEq, Int.reduceToNat, Int.reduceLE, Int.reduceLT, Int.reduceEq, Int.reduceNeg, Int.reduceNe, Int.reducePow, Nat.reducePow, Nat.reduceSub, IntKind.bits]
      exact ⟨⟨_, rfl⟩, J.1.next k2, ((((Keep.refl h).alloc _).otr p).trans J.2).trans (k2.otr p)⟩
  by_cases d3 : x.k = 3
  · have e : r.read x = eachL RS.int r := by unfold RS.read; rw [if_neg d0, if_neg d1, if_neg d2, if_pos d3]
    rw [e]
    simp (maxSteps := 10000000) (maxDischargeDepth := 30) only [q44, r44, OpR.e, d3, go_sem, Nat.reduceEqDiff, ↓reduceIte, Nat.reduceAdd, Nat.reduceMul, Nat.reduceLeDiff, Nat.reduceLT, reduceCtorEq, Int.reduceToNat, Int.reduceLE, Int.reduceLT, Int.reduceEq, Int.reduceNeg, Int.reduceNe, Int.reducePow, Nat.reducePow, Nat.reduceSub, IntKind.bits]
    refine ro_vcall (cRdInts h0 p r _ (R.next ((Keep.refl h).alloc _)) ok hl) (fun v h2 J => ?_)
    obtain ⟨⟨o, rfl⟩, J1, J2⟩ := J
    simp (maxSteps := 10000000) (maxDischargeDepth := 30) only [go_sem, Nat.reduceEqDiff, ↓reduceIte, Nat.reduceAdd, Nat.reduceMul, Nat.reduceLeDiff, Nat.reduceLT, reduceCtorEq, Int.reduceToNat, Int.reduceLE, Int.reduceLT, Int.reduceEq, Int.reduceNeg, Int.reduceNe, Int.reducePow, Nat.reducePow, Nat.reduceSub, IntKind.bits]
    exact ⟨⟨_, rfl⟩, J1, (((Keep.refl h).alloc _).otr p).trans J2⟩
  by_cases d4 : x.k = 4
  · have e : r.read x = ([r.count.1], r.count.2) := by unfold RS.read; rw [if_neg d0, if_neg d1, if_neg d2, if_neg d3, if_pos d4]
    rw [e]
    simp (maxSteps := 10000000) (maxDischargeDepth := 30) only [q44, r44, OpR.e, d4, go_sem, Nat.reduceEqDiff, ↓reduceIte, Nat.reduceAdd, Nat.reduceMul, Nat.reduceLeDiff, Nat.reduceLT, reduceCtorEq, Int.reduceToNat, Int.reduceLE, Int.reduceLT, Int.reduceEq, Int.reduceNeg, Int.reduceNe, Int.reducePow, Nat.reducePow, Nat.reduceSub, IntKind.bits]
    refine ro_wcall (cRdCount h0 p r _ (R.next ((Keep.refl h).alloc _)) ok hl) (fun h2 J => ?_)
    have hcc := RS.count_ok ok
    have ew : IntKind.i64.wrap r.count.1 = r.count.1 := wrap64 (by omega) (by omega)
    simp (maxSteps := 10000000) (maxDischargeDepth := 30) only [ew, go_sem, Nat.reduceEqDiff, ↓reduceIte, Nat.reduceAdd, Nat.reduceMul, Nat.reduceLeDiff, Nat.reduceLT, reduceCtorEq, Int.reduceToNat, Int.reduceLE, Int.reduceLT, Int.reduceEq, Int.reduceNeg, Int.reduceNe, Int.reducePow, Nat.reducePow, Nat.reduceSub, IntKind.bits]
    have k2 : Keep h2 (h2.nrow 1) := (Keep.refl h2).nrow 1
    exact ⟨⟨_, rfl⟩, J.1.next k2, ((((Keep.refl h).alloc _).otr p).trans J.2).trans (k2.otr p)⟩
  by_cases d5 : x.k = 5
  · have e : r.read x = ([], r.halt) := by unfold RS.read; rw [if_neg d0, if_neg d1, if_neg d2, if_neg d3, if_neg d4, if_pos d5]
    rw [e]
    simp (maxSteps := 10000000) (maxDischargeDepth := 30) only [q44, r44, OpR.e, d5, go_sem, Nat.reduceEqDiff, ↓reduceIte, Nat.reduceAdd, Nat.reduceMul, Nat.reduceLeDiff, Nat.reduceLT, reduceCtorEq, Int.reduceToNat, Int.reduceLE, Int.reduceLT, Int.reduceEq, Int.reduceNeg, Int.reduceNe, Int.reducePow, Nat.reducePow, Nat.reduceSub, IntKind.bits]
    refine ro_wcall (cRdStop h0 p r _ (R.next ((Keep.refl h).alloc _))) (fun h2 J => ?_)
    simp (maxSteps := 10000000) (maxDischargeDepth := 30) only [go_sem, Nat.reduceEqDiff, ↓reduceIte, Nat.reduceAdd, Nat.reduceMul, Nat.reduceLeDiff, Nat.reduceLT, reduceCtorEq, Int.reduceToNat, Int.reduceLE, Int.reduceLT, Int.reduceEq, Int.reduceNeg, Int.reduceNe, Int.reducePow, Nat.reducePow, Nat.reduceSub, IntKind.bits]
    exact ⟨⟨none, rfl⟩, J.1, (((Keep.refl h).alloc _).otr p).trans J.2⟩
  by_cases d6 : x.k = 6
  rotate_left
  · have e : r.read x = ([], r) := by unfold RS.read; rw [if_neg d0, if_neg d1, if_neg d2, if_neg d3, if_neg d4, if_neg d5, if_neg d6]
    rw [e]
    simp (maxSteps := 10000000) (maxDischargeDepth := 30) only [q44, r44, OpR.e, d0, d1, d2, d3, d4, d5, d6, go_sem, Nat.reduceEqDiff, ↓reduceIte, Nat.reduceAdd, Nat.reduceMul, Nat.reduceLeDiff, Nat.reduceLT, reduceCtorEq, Int.reduceToNat, Int.reduceLE, Int.reduceLT, Int.reduceEq, Int.reduceNeg, Int.reduceNe, Int.reducePow, Nat.reducePow, Nat.reduceSub, IntKind.bits]
    exact ⟨⟨none, rfl⟩, R.next ((Keep.refl h).alloc _), ((Keep.refl h).alloc _).otr p⟩
  have e : r.read x = ((eachL RS.bool r).1.map boolN, (eachL RS.bool r).2) := by unfold RS.read; rw [if_neg d0, if_neg d1, if_neg d2, if_neg d3, if_neg d4, if_neg d5, if_pos d6]
  rw [e]
  have hel := each_len RS.bool_one ok
  simp (maxSteps := 10000000) (maxDischargeDepth := 30) only [q44, r44, OpR.e, d6, go_sem, Nat.reduceEqDiff, ↓reduceIte, Nat.reduceAdd, Nat.reduceMul, Nat.reduceLeDiff, Nat.reduceLT, reduceCtorEq, Int.reduceToNat, Int.reduceLE, Int.reduceLT, Int.reduceEq, Int.reduceNeg, Int.reduceNe, Int.reducePow, Nat.reducePow, Nat.reduceSub, IntKind.bits]
  refine ro_vcall (cEachB id RS.bool RS.bool_one h0 p 62 [.ptr p 0] [] r _ (R.next ((Keep.refl h).alloc _)) ok hl (fun r' hh R' _ ok' hb' _ => ?_)) (fun v h1 J => ?_)
  · obtain ⟨h', e, R2, O2⟩ := cRdBool h0 p r' hh R' ok' (by rw [hb']; exact hl)
    exact ⟨_, h', e, ⟨_, rfl, rfl⟩, R2, O2⟩
  obtain ⟨⟨o, zs, rfl, hz⟩, R1, O1⟩ := J
  rw [List.map_id] at hz
  rw [← hz] at hel ⊢
  have O2 := (((Keep.refl h).alloc _).otr p).trans O1
  have hh0 : h0.rlen ≤ h.rlen := R.keep.rlen
  simp (maxSteps := 10000000) (maxDischargeDepth := 30) only [go_sem, Nat.reduceEqDiff, ↓reduceIte, Nat.reduceAdd, Nat.reduceMul, Nat.reduceLeDiff, Nat.reduceLT, reduceCtorEq, Int.reduceToNat, Int.reduceLE, Int.reduceLT, Int.reduceEq, Int.reduceNeg, Int.reduceNe, Int.reducePow, Nat.reducePow, Nat.reduceSub, IntKind.bits]
  refine ru_loop (fun i => zs.length - i) (fun i s hh => s 6 = mkS o 1 (zs.map LV.bool) ∧ s 7 = .int .i64 (i : Nat) ∧ i ≤ zs.length ∧ ∃ o2, s 5 = ints o2 ((zs.take i).map boolN) ∧ Gth h0 h p (eachL RS.bool r).2 o2 i hh) 0 ?_ ?_
  · simp (maxSteps := 10000000) (maxDischargeDepth := 30) only [Int.natCast_zero, go_sem, Nat.reduceEqDiff, ↓reduceIte, Nat.reduceAdd, Nat.reduceMul, Nat.reduceLeDiff, Nat.reduceLT, reduceCtorEq, Int.reduceToNat, Int.reduceLE, Int.reduceLT, Int.reduceEq, Int.reduceNeg, Int.reduceNe, Int.reducePow, Nat.reducePow, Nat.reduceSub, IntKind.bits]
    exact ⟨none, rfl, .start R1 O2⟩
  · rintro i s hh ⟨e6, e7, hi, o2, e5, G⟩
    by_cases c1 : (i : Int) < zs.length
    rotate_left
    · obtain rfl : i = zs.length := by omega
      rw [List.take_length] at e5
      simp (maxSteps := 10000000) (maxDischargeDepth := 30) only [e5, e6, e7, c1, List.length_map, go_sem, Nat.reduceEqDiff, ↓reduceIte, Nat.reduceAdd, Nat.reduceMul, Nat.reduceLeDiff, Nat.reduceLT, reduceCtorEq, Int.reduceToNat, Int.reduceLE, Int.reduceLT, Int.reduceEq, Int.reduceNeg, Int.reduceNe, Int.reducePow, Nat.reducePow, Nat.reduceSub, IntKind.bits]
      exact ⟨⟨o2, rfl⟩, G.rdr, G.otr⟩
    refine ru_step ?_
    obtain ⟨y, hy⟩ : ∃ y, zs[i]? = some y := ⟨zs[i], List.getElem?_eq_getElem (by omega)⟩
    have ia : iaS (zs.map LV.bool) (i : Int) = some (.cptr (.bool y)) := iaS_map (Int.natCast_nonneg i) (by simpa using hy)
    have k3 : Keep hh (hh.nrow 1) := (Keep.refl hh).nrow 1
    have G3 := G.next k3
    rw [show i = (((zs.take i).map boolN).map (LV.int .i64)).length by rw [List.length_map, List.length_map, List.length_take]; omega] at G3
    obtain ⟨o4, h4, ap, G4, -, -, -, -⟩ := G3.app (sz := 1) (by_ := 8) (xs := ((zs.take i).map boolN).map (LV.int .i64)) hh0 [.int .i64 (boolN y)] (by
      rw [List.length_map, List.length_map, List.length_take, List.length_singleton]; omega)
    have ezs : ((zs.take i).map boolN).map (LV.int .i64) ++ [.int .i64 (boolN y)] = ((zs.take (i + 1)).map boolN).map (LV.int .i64) := by
      obtain ⟨hlt, rfl⟩ := List.getElem?_eq_some_iff.1 hy
      rw [← List.take_append_getElem hlt, List.map_append, List.map_append]; rfl
    rw [ezs] at ap G4
    rw [List.length_map, List.length_map, List.length_take, show min (i + 1) zs.length = i + 1 by omega] at G4
    have ew : IntKind.i64.wrap ((i : Int) + 1) = ((i + 1 : Nat) : Int) := by rw [wrap64 (by omega) (by omega)]; omega
    cases y
    · rw [show boolN false = 0 from rfl] at ap
      simp (maxSteps := 10000000) (maxDischargeDepth := 30) only [e5, e6, e7, c1, List.length_map, ia, ap, ew, go_sem, Nat.reduceEqDiff, ↓reduceIte, Nat.reduceAdd, Nat.reduceMul, Nat.reduceLeDiff, Nat.reduceLT, reduceCtorEq, Int.reduceToNat, Int.reduceLE, Int.reduceLT, Int.reduceEq, Int.reduceNeg, Int.reduceNe, Int.reducePow, Nat.reducePow, Nat.reduceSub, IntKind.bits]
      refine ⟨i + 1, by omega, ?_⟩
      simp (maxSteps := 10000000) (maxDischargeDepth := 30) only [e6, go_sem, Nat.reduceEqDiff, ↓reduceIte, Nat.reduceAdd, Nat.reduceMul, Nat.reduceLeDiff, Nat.reduceLT, reduceCtorEq, Int.reduceToNat, Int.reduceLE, Int.reduceLT, Int.reduceEq, Int.reduceNeg, Int.reduceNe, Int.reducePow, Nat.reducePow, Nat.reduceSub, IntKind.bits]
      exact ⟨by omega, o4, rfl, G4⟩
    · rw [show boolN true = 1 from rfl] at ap
      simp (maxSteps := 10000000) (maxDischargeDepth := 30) only [e5, e6, e7, c1, List.length_map, ia, ap, ew, go_sem, Nat.reduceEqDiff, ↓reduceIte, Nat.reduceAdd, Nat.reduceMul, Nat.reduceLeDiff, Nat.reduceLT, reduceCtorEq, Int.reduceToNat, Int.reduceLE, Int.reduceLT, Int.reduceEq, Int.reduceNeg, Int.reduceNe, Int.reducePow, Nat.reducePow, Nat.reduceSub, IntKind.bits]
      refine ⟨i + 1, by omega, ?_⟩
      simp (maxSteps := 10000000) (maxDischargeDepth := 30) only [e6, go_sem, Nat.reduceEqDiff, ↓reduceIte, Nat.reduceAdd, Nat.reduceMul, Nat.reduceLeDiff, Nat.reduceLT, reduceCtorEq, Int.reduceToNat, Int.reduceLE, Int.reduceLT, Int.reduceEq, Int.reduceNeg, Int.reduceNe, Int.reducePow, Nat.reducePow, Nat.reduceSub, IntKind.bits]
      exact ⟨by omega, o4, rfl, G4⟩
end Go.LM
