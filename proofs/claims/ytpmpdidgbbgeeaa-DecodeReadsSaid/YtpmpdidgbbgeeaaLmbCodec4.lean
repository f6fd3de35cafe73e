import Derived.Test.YtpmpdidgbbgeeaaLmTrbR2
import Derived.Test.YtpmpdidgbbgeeaaLmTrbR3
import Derived.Test.YtpmpdidgbbgeeaaLmbCodec3
import Derived.Test.YtpmpdidgbbgeeaaLmB8
namespace Go.LM
open Go.Proofs
set_option maxRecDepth 8000
set_option maxHeartbeats 2000000
set_option linter.unusedSimpArgs false

theorem cHasPreL (a x : ByteArray) (h : H) : runI Try.prog TA 118 [.str a, .str x] h = some (.bool (decide ((strB a).take (strB x).length = strB x)), hp Try.prog TA 118 [.str a, .str x] h) := by
  refine pure_of rfl res118 rfl ?_
  have la := strB_len a
  have lx := strB_len x
  by_cases c : (x.size : Int) ≤ a.size
  · have hb : boundL (some (.int .i64 x.size)) a.size a.size = some x.size := by rw [bound_some, if_pos ⟨Int.natCast_nonneg _, c⟩]; rfl
    have e : decide (a.extract 0 x.size = x) = decide ((strB a).take (strB x).length = strB x) := by
      rw [lx]
      congr 1
      refine propext ⟨fun h => ?_, fun h => ?_⟩
      · conv => rhs; rw [← h, strB_extract]
        simp
      · apply strB_inj; rw [strB_extract]; simpa using h
    rw [← e]
    simp (maxSteps := 10000000) (maxDischargeDepth := 30) only [q118, r118, slice_str ty_u9, bin_eql_str, slStr_some (bound_none 0 x.size), c, hb, go_sem, Nat.reduceEqDiff, ↓reduceIte, Nat.reduceAdd, Nat.reduceMul, Nat.reduceLeDiff, Nat.reduceLT, reduceCtorEq, Int.reduceToNat, Int.reduceLE, Int.reduceLT, Int.reduceEq, Int.reduceNeg, Int.reduceNe, Int.reducePow, Nat.reducePow, Nat.reduceSub, IntKind.bits]
  · have e : decide ((strB a).take (strB x).length = strB x) = false := by
      apply decide_eq_false
      intro hx
      have := take_len hx
      omega
    rw [e]
    simp (maxSteps := 10000000) (maxDischargeDepth := 30) only [q118, r118, c, go_sem, Nat.reduceEqDiff, ↓reduceIte, Nat.reduceAdd, Nat.reduceMul, Nat.reduceLeDiff, Nat.reduceLT, reduceCtorEq, Int.reduceToNat, Int.reduceLE, Int.reduceLT, Int.reduceEq, Int.reduceNeg, Int.reduceNe, Int.reducePow, Nat.reducePow, Nat.reduceSub, IntKind.bits]
theorem cHasPre (a x : ByteArray) (h : H) (w : WF h) : runI Try.prog TA 99 [.str a, .str x] h = some (.bool (decide ((strB a).take (strB x).length = strB x)), hp Try.prog TA 99 [.str a, .str x] h) := by
  refine pure_of rfl res99 rfl ?_
  simp (maxSteps := 10000000) (maxDischargeDepth := 30) only [q99, r99, go_sem, Nat.reduceEqDiff, ↓reduceIte, Nat.reduceAdd, Nat.reduceMul, Nat.reduceLeDiff, Nat.reduceLT, reduceCtorEq, Int.reduceToNat, Int.reduceLE, Int.reduceLT, Int.reduceEq, Int.reduceNeg, Int.reduceNe, Int.reducePow, Nat.reducePow, Nat.reduceSub, IntKind.bits]
  refine ro_kcall (cHasPreL a x h) w (fun h1 k1 w1 => ?_)
  simp (maxSteps := 10000000) (maxDischargeDepth := 30) only [k1, go_sem, Nat.reduceEqDiff, ↓reduceIte, Nat.reduceAdd, Nat.reduceMul, Nat.reduceLeDiff, Nat.reduceLT, reduceCtorEq, Int.reduceToNat, Int.reduceLE, Int.reduceLT, Int.reduceEq, Int.reduceNeg, Int.reduceNe, Int.reducePow, Nat.reducePow, Nat.reduceSub, IntKind.bits]
theorem cRdMark (h0 : H) (p : Nat) (r : RS) (x : ByteArray) (h : H) (R : Rdr h0 p r h) (ok : r.ok) (hl : r.b.length ≤ 1000000000000) (hx : x.size ≤ 100000000) : ∃ h', runI Try.prog TA 58 [.ptr p 0, .str x] h = some (.tup [], h') ∧ Rdr h0 p (r.mark (strB x)) h' ∧ Otr p h h' := by
  refine calls_ex rfl res58 rfl ?_
  simp (maxSteps := 10000000) (maxDischargeDepth := 30) only [q58, r58, go_sem, Nat.reduceEqDiff, ↓reduceIte, Nat.reduceAdd, Nat.reduceMul, Nat.reduceLeDiff, Nat.reduceLT, reduceCtorEq, Int.reduceToNat, Int.reduceLE, Int.reduceLT, Int.reduceEq, Int.reduceNeg, Int.reduceNe, Int.reducePow, Nat.reducePow, Nat.reduceSub, IntKind.bits]
  first
  | refine rw_kcall (cRdRight h0 p r h R) R.wf (fun h1 k1 w1 => ?_)
  | refine rw_kcallD (cRdRight h0 p r _ (R.next (Keep.refl _))) R.wf (fun h1 k1 w1 => ?_)
  have R1 := R.next k1
  obtain ⟨o, hg⟩ := R1.get
  have ok2 := ok.2.1
  have ok3 := ok.2.2
  have lw1 := R1.lob
  have lt1 := R1.lt
  by_cases hs : r.stop = true
  · have e : r.mark (strB x) = r.halt := by unfold RS.mark; rw [if_pos (.inl hs)]
    rw [e]
    simp (maxSteps := 10000000) (maxDischargeDepth := 30) only [hs, go_sem, Nat.reduceEqDiff, ↓reduceIte, Nat.reduceAdd, Nat.reduceMul, Nat.reduceLeDiff, Nat.reduceLT, reduceCtorEq, Int.reduceToNat, Int.reduceLE, Int.reduceLT, Int.reduceEq, Int.reduceNeg, Int.reduceNe, Int.reducePow, Nat.reducePow, Nat.reduceSub, IntKind.bits]
    refine ro_wcall (cRdStop h0 p r h1 R1) (fun h2 J => ?_)
    simp (maxSteps := 10000000) (maxDischargeDepth := 30) only [go_sem, Nat.reduceEqDiff, ↓reduceIte, Nat.reduceAdd, Nat.reduceMul, Nat.reduceLeDiff, Nat.reduceLT, reduceCtorEq, Int.reduceToNat, Int.reduceLE, Int.reduceLT, Int.reduceEq, Int.reduceNeg, Int.reduceNe, Int.reducePow, Nat.reducePow, Nat.reduceSub, IntKind.bits]
    exact ⟨J.1, (k1.otr p).trans J.2⟩
  have hs' : r.stop = false := by simpa using hs
  have hb : boundL (some (.int .i64 r.at_)) 0 r.b.length = some r.at_.toNat := by rw [bound_some, if_pos ⟨ok2, ok3⟩]
  have ed : ((r.b.map (LV.int .u8)).take r.b.length).drop r.at_.toNat = (r.b.drop r.at_.toNat).map (LV.int .u8) := by
    rw [← List.map_take, List.take_length, List.map_drop]
  have hbd : ∀ c ∈ r.b.drop r.at_.toNat, 0 ≤ c ∧ c < 256 := fun c hc => ok.1 c (List.mem_of_mem_drop hc)
  simp (maxSteps := 10000000) (maxDischargeDepth := 30) only [hs', hg, List.length_map, slM_some hb, ed, cv_strB ty_u26 ty_u9 ty_u5, go_sem, Nat.reduceEqDiff, ↓reduceIte, Nat.reduceAdd, Nat.reduceMul, Nat.reduceLeDiff, Nat.reduceLT, reduceCtorEq, Int.reduceToNat, Int.reduceLE, Int.reduceLT, Int.reduceEq, Int.reduceNeg, Int.reduceNe, Int.reducePow, Nat.reducePow, Nat.reduceSub, IntKind.bits]
  first
  | refine rw_kcall (cHasPre _ x h1 w1) w1 (fun h2 k2 w2 => ?_)
  | refine rw_kcallD (cHasPre _ x _ (wf_up w1)) w1 (fun h2 k2 w2 => ?_)
  have R2 := R1.next k2
  have lt2 := R2.lt
  have lw2 := R2.lob
  have hg2 := (k2.get lt1).trans hg
  rw [strB_strOf hbd]
  by_cases hm : (r.b.drop r.at_.toNat).take (strB x).length = strB x
  · have e : r.mark (strB x) = { r with at_ := r.at_ + (strB x).length } := by unfold RS.mark; rw [if_neg (by simp [hs, hm])]
    rw [e]
    have hsz := strB_len x
    have ew : IntKind.i64.wrap (r.at_ + (x.size : Int)) = r.at_ + (strB x).length := by rw [wrap64 (by omega) (by omega), hsz]
    have S1 := R2.put o { r with at_ := r.at_ + (strB x).length }
    simp (maxSteps := 10000000) (maxDischargeDepth := 30) only [hm, hg2, ew, lw2, lt2, go_sem, Nat.reduceEqDiff, ↓reduceIte, Nat.reduceAdd, Nat.reduceMul, Nat.reduceLeDiff, Nat.reduceLT, reduceCtorEq, Int.reduceToNat, Int.reduceLE, Int.reduceLT, Int.reduceEq, Int.reduceNeg, Int.reduceNe, Int.reducePow, Nat.reducePow, Nat.reduceSub, IntKind.bits]
    exact ⟨S1.1, ((k1.trans k2).otr p).trans S1.2⟩
  · have e : r.mark (strB x) = r.halt := by unfold RS.mark; rw [if_pos (.inr hm)]
    rw [e]
    simp (maxSteps := 10000000) (maxDischargeDepth := 30) only [hm, go_sem, Nat.reduceEqDiff, ↓reduceIte, Nat.reduceAdd, Nat.reduceMul, Nat.reduceLeDiff, Nat.reduceLT, reduceCtorEq, Int.reduceToNat, Int.reduceLE, Int.reduceLT, Int.reduceEq, Int.reduceNeg, Int.reduceNe, Int.reducePow, Nat.reducePow, Nat.reduceSub, IntKind.bits]
    refine ro_wcall (cRdStop h0 p r h2 R2) (fun h3 J => ?_)
    simp (maxSteps := 10000000) (maxDischargeDepth := 30) only [go_sem, Nat.reduceEqDiff, ↓reduceIte, Nat.reduceAdd, Nat.reduceMul, Nat.reduceLeDiff, Nat.reduceLT, reduceCtorEq, Int.reduceToNat, Int.reduceLE, Int.reduceLT, Int.reduceEq, Int.reduceNeg, Int.reduceNe, Int.reducePow, Nat.reducePow, Nat.reduceSub, IntKind.bits]
    exact ⟨J.1, ((k1.trans k2).otr p).trans J.2⟩
def IEachI {α : Type} (pl : Int → α) (one : RS → α × RS) (h0 h : H) (p f : Nat) (first caps : List LV) (r : RS) (n i : Nat) (s : S) (hh : H) : Prop :=
  s 0 = .ptr p 0 ∧ s 1 = .fn f first caps ∧ s 5 = .int .i64 n ∧ s 7 = .int .i64 i ∧ ∃ (o : Option (Nat × Nat)) (zs : List (Int)) (r' : RS), s 6 = mkS o 1 (zs.map (LV.int .i64)) ∧ zs.length = i ∧ i ≤ n ∧ Gth h0 h p r' o zs.length hh ∧ r'.ok ∧ r'.b = r.b ∧
    gather one n r.count.2 = (zs.map pl ++ (gather one (n - i) r').1, (gather one (n - i) r').2)
theorem cEachI {α : Type} (pl : Int → α) (one : RS → α × RS) (ho : OneOk one) (h0 : H) (p f : Nat) (first caps : List LV) (r : RS) (h : H) (R : Rdr h0 p r h) (ok : r.ok) (hl : r.b.length ≤ 1000000000000)
    (hone : ∀ r' hh, Rdr h0 p r' hh → Otr p h hh → r'.ok → r'.b = r.b → r'.stop = false → ∃ v h', runI Try.prog TA f (first ++ caps) hh = some (v, h') ∧ (∃ x, v = (LV.int .i64) x ∧ pl x = (one r').1) ∧ Rdr h0 p (one r').2 h' ∧ Otr p hh h') :
    ∃ v h', runI Try.prog TA 101 [.ptr p 0, .fn f first caps] h = some (v, h') ∧ (∃ (o : Option (Nat × Nat)) (zs : List (Int)), v = mkS o 1 (zs.map (LV.int .i64)) ∧ zs.map pl = (eachL one r).1) ∧ Rdr h0 p (eachL one r).2 h' ∧ Otr p h h' := by
  refine calls_of rfl res101 rfl ?_
  simp (maxSteps := 10000000) (maxDischargeDepth := 30) only [q101, r101, go_sem, Nat.reduceEqDiff, ↓reduceIte, Nat.reduceAdd, Nat.reduceMul, Nat.reduceLeDiff, Nat.reduceLT, reduceCtorEq, Int.reduceToNat, Int.reduceLE, Int.reduceLT, Int.reduceEq, Int.reduceNeg, Int.reduceNe, Int.reducePow, Nat.reducePow, Nat.reduceSub, IntKind.bits]
  refine ro_wcall (cRdCount h0 p r h R ok hl) (fun h1 J => ?_)
  obtain ⟨R1, O1⟩ := J
  have hc := RS.count_ok ok
  have hcb := r.count_b
  obtain ⟨n, hn⟩ : ∃ n : Nat, r.count.1 = (n : Int) := ⟨r.count.1.toNat, by omega⟩
  have hnt : r.count.1.toNat = n := by omega
  have hh0 : h0.rlen ≤ h.rlen := R.keep.rlen
  rw [hn]
  simp (maxSteps := 10000000) (maxDischargeDepth := 30) only [go_sem, Nat.reduceEqDiff, ↓reduceIte, Nat.reduceAdd, Nat.reduceMul, Nat.reduceLeDiff, Nat.reduceLT, reduceCtorEq, Int.reduceToNat, Int.reduceLE, Int.reduceLT, Int.reduceEq, Int.reduceNeg, Int.reduceNe, Int.reducePow, Nat.reducePow, Nat.reduceSub, IntKind.bits]
  refine ru_loop (fun i => n - i) (IEachI pl one h0 h p f first caps r n) 0 ?_ ?_
  · unfold IEachI
    simp (maxSteps := 10000000) (maxDischargeDepth := 30) only [Int.natCast_zero, go_sem, Nat.reduceEqDiff, ↓reduceIte, Nat.reduceAdd, Nat.reduceMul, Nat.reduceLeDiff, Nat.reduceLT, reduceCtorEq, Int.reduceToNat, Int.reduceLE, Int.reduceLT, Int.reduceEq, Int.reduceNeg, Int.reduceNe, Int.reducePow, Nat.reducePow, Nat.reduceSub, IntKind.bits]
    exact ⟨none, [], r.count.2, rfl, rfl, .start R1 O1, hc.1, hcb, by simp⟩
  · rintro i s hh ⟨e0, e1, e5, e7, o, zs, r', e6, hz, hi, G, ok', hb', hg⟩
    have fin : gather one n r.count.2 = (zs.map pl, r') → ∀ hq, Keep hh hq → Ru Try.prog TA [] (ex Try.prog TA (.skip) s hq) (fun _ => (r'.stop = true → eachL one r = ([], r')) ∧ (r'.stop = false → eachL one r = (zs.map pl, r'))) := by
      intro e hq kq
      rw [ru_skip, ru_nil]
      unfold eachL
      rw [hnt, e]
      dsimp only
      exact ⟨fun q => by rw [if_pos q], fun q => by rw [if_neg (by simp [q])]⟩
    by_cases c1 : (i : Int) < n
    rotate_left
    · have e : gather one n r.count.2 = (zs.map pl, r') := by rw [hg, show n - i = 0 by omega]; simp [gather]
      have hx := fin e hh (.refl _)
      rw [ru_skip, ru_nil] at hx
      simp (maxSteps := 10000000) (maxDischargeDepth := 30) only [e0, e1, e5, e6, e7, c1, go_sem, Nat.reduceEqDiff, ↓reduceIte, Nat.reduceAdd, Nat.reduceMul, Nat.reduceLeDiff, Nat.reduceLT, reduceCtorEq, Int.reduceToNat, Int.reduceLE, Int.reduceLT, Int.reduceEq, Int.reduceNeg, Int.reduceNe, Int.reducePow, Nat.reducePow, Nat.reduceSub, IntKind.bits]
      refine ro_kcall (cRdRight h0 p r' hh G.rdr) G.rdr.wf (fun h2 k2 w2 => ?_)
      have G2 := G.next k2
      by_cases hs : r'.stop = true
      · simp (maxSteps := 10000000) (maxDischargeDepth := 30) only [e6, hs, go_sem, Nat.reduceEqDiff, ↓reduceIte, Nat.reduceAdd, Nat.reduceMul, Nat.reduceLeDiff, Nat.reduceLT, reduceCtorEq, Int.reduceToNat, Int.reduceLE, Int.reduceLT, Int.reduceEq, Int.reduceNeg, Int.reduceNe, Int.reducePow, Nat.reducePow, Nat.reduceSub, IntKind.bits]
        rw [hx.1 hs]
        exact ⟨⟨none, [], rfl, rfl⟩, G2.rdr, G2.otr⟩
      · have hs' : r'.stop = false := by simpa using hs
        simp (maxSteps := 10000000) (maxDischargeDepth := 30) only [e6, hs', go_sem, Nat.reduceEqDiff, ↓reduceIte, Nat.reduceAdd, Nat.reduceMul, Nat.reduceLeDiff, Nat.reduceLT, reduceCtorEq, Int.reduceToNat, Int.reduceLE, Int.reduceLT, Int.reduceEq, Int.reduceNeg, Int.reduceNe, Int.reducePow, Nat.reducePow, Nat.reduceSub, IntKind.bits]
        rw [hx.2 hs']
        exact ⟨⟨o, zs, rfl, rfl⟩, G2.rdr, G2.otr⟩
    by_cases hs : r'.stop = true
    · have e : gather one n r.count.2 = (zs.map pl, r') := by rw [hg, gather_stop hs]; simp
      have hx := fin e hh (.refl _)
      rw [ru_skip, ru_nil] at hx
      simp (maxSteps := 10000000) (maxDischargeDepth := 30) only [e0, e1, e5, e6, e7, c1, go_sem, Nat.reduceEqDiff, ↓reduceIte, Nat.reduceAdd, Nat.reduceMul, Nat.reduceLeDiff, Nat.reduceLT, reduceCtorEq, Int.reduceToNat, Int.reduceLE, Int.reduceLT, Int.reduceEq, Int.reduceNeg, Int.reduceNe, Int.reducePow, Nat.reducePow, Nat.reduceSub, IntKind.bits]
      refine ro_kcall (cRdRight h0 p r' hh G.rdr) G.rdr.wf (fun h2 k2 w2 => ?_)
      have G2 := G.next k2
      simp (maxSteps := 10000000) (maxDischargeDepth := 30) only [e0, e1, e5, e6, e7, hs, go_sem, Nat.reduceEqDiff, ↓reduceIte, Nat.reduceAdd, Nat.reduceMul, Nat.reduceLeDiff, Nat.reduceLT, reduceCtorEq, Int.reduceToNat, Int.reduceLE, Int.reduceLT, Int.reduceEq, Int.reduceNeg, Int.reduceNe, Int.reducePow, Nat.reducePow, Nat.reduceSub, IntKind.bits]
      refine ro_kcall (cRdRight h0 p r' h2 G2.rdr) w2 (fun h3 k3 w3 => ?_)
      have G3 := G2.next k3
      simp (maxSteps := 10000000) (maxDischargeDepth := 30) only [e6, hs, go_sem, Nat.reduceEqDiff, ↓reduceIte, Nat.reduceAdd, Nat.reduceMul, Nat.reduceLeDiff, Nat.reduceLT, reduceCtorEq, Int.reduceToNat, Int.reduceLE, Int.reduceLT, Int.reduceEq, Int.reduceNeg, Int.reduceNe, Int.reducePow, Nat.reducePow, Nat.reduceSub, IntKind.bits]
      rw [hx.1 hs]
      exact ⟨⟨none, [], rfl, rfl⟩, G3.rdr, G3.otr⟩
    refine ru_step ?_
    have hs' : r'.stop = false := by simpa using hs
    simp (maxSteps := 10000000) (maxDischargeDepth := 30) only [e0, e1, e5, e6, e7, c1, go_sem, Nat.reduceEqDiff, ↓reduceIte, Nat.reduceAdd, Nat.reduceMul, Nat.reduceLeDiff, Nat.reduceLT, reduceCtorEq, Int.reduceToNat, Int.reduceLE, Int.reduceLT, Int.reduceEq, Int.reduceNeg, Int.reduceNe, Int.reducePow, Nat.reducePow, Nat.reduceSub, IntKind.bits]
    refine ro_kcall (cRdRight h0 p r' hh G.rdr) G.rdr.wf (fun h2 k2 w2 => ?_)
    have G2 := G.next k2
    simp (maxSteps := 10000000) (maxDischargeDepth := 30) only [e0, e1, e5, e6, e7, hs', go_sem, Nat.reduceEqDiff, ↓reduceIte, Nat.reduceAdd, Nat.reduceMul, Nat.reduceLeDiff, Nat.reduceLT, reduceCtorEq, Int.reduceToNat, Int.reduceLE, Int.reduceLT, Int.reduceEq, Int.reduceNeg, Int.reduceNe, Int.reducePow, Nat.reducePow, Nat.reduceSub, IntKind.bits]
    refine ro_vcall (hone r' h2 G2.rdr G2.otr ok' hb' hs') (fun v h3 J => ?_)
    obtain ⟨⟨x, rfl, hpx⟩, R3, O3⟩ := J
    have k3 : Keep h3 (h3.nrow 1) := (Keep.refl h3).nrow 1
    have G3 := (G2.step R3 O3).next k3
    rw [show zs.length = (zs.map (LV.int .i64)).length by rw [List.length_map]] at G3
    obtain ⟨o4, h4, ap, G4, -, -, -, -⟩ := G3.app (sz := 1) (by_ := 8) (xs := zs.map (LV.int .i64)) hh0 [(LV.int .i64) x] (by
      rw [List.length_map, hz, List.length_singleton]; omega)
    have ezs : zs.map (LV.int .i64) ++ [(LV.int .i64) x] = (zs ++ [x]).map (LV.int .i64) := by simp
    rw [ezs] at ap G4
    rw [List.length_map] at G4
    skip
    have ew : IntKind.i64.wrap ((i : Int) + 1) = ((i + 1 : Nat) : Int) := by rw [wrap64 (by omega) (by omega)]; omega
    simp (maxSteps := 10000000) (maxDischargeDepth := 30) only [e0, e1, e5, e6, e7, ap, ew, go_sem, Nat.reduceEqDiff, ↓reduceIte, Nat.reduceAdd, Nat.reduceMul, Nat.reduceLeDiff, Nat.reduceLT, reduceCtorEq, Int.reduceToNat, Int.reduceLE, Int.reduceLT, Int.reduceEq, Int.reduceNeg, Int.reduceNe, Int.reducePow, Nat.reducePow, Nat.reduceSub, IntKind.bits]
    refine ⟨i + 1, by omega, ?_⟩
    unfold IEachI
    simp (maxSteps := 10000000) (maxDischargeDepth := 30) only [e0, e1, e5, go_sem, Nat.reduceEqDiff, ↓reduceIte, Nat.reduceAdd, Nat.reduceMul, Nat.reduceLeDiff, Nat.reduceLT, reduceCtorEq, Int.reduceToNat, Int.reduceLE, Int.reduceLT, Int.reduceEq, Int.reduceNeg, Int.reduceNe, Int.reducePow, Nat.reducePow, Nat.reduceSub, IntKind.bits]
    refine ⟨o4, zs ++ [x], (one r').2, rfl, by simp [hz], by omega, G4, ho.ok r' ok', (ho.b r').trans hb', ?_⟩
    rw [hg, show n - i = (n - (i + 1)) + 1 by omega, gather_go hs']
    simp [hpx]

theorem cRdInts (h0 : H) (p : Nat) (r : RS) (h : H) (R : Rdr h0 p r h) (ok : r.ok) (hl : r.b.length ≤ 1000000000000) :
    ∃ v h', runI Try.prog TA 64 [.ptr p 0] h = some (v, h') ∧ (∃ o, v = ints o (eachL RS.int r).1) ∧ Rdr h0 p (eachL RS.int r).2 h' ∧ Otr p h h' := by
  refine calls_of rfl res64 rfl ?_
  simp (maxSteps := 10000000) (maxDischargeDepth := 30) only [q64, r64, go_sem, Nat.reduceEqDiff, ↓reduceIte, Nat.reduceAdd, Nat.reduceMul, Nat.reduceLeDiff, Nat.reduceLT, reduceCtorEq, Int.reduceToNat, Int.reduceLE, Int.reduceLT, Int.reduceEq, Int.reduceNeg, Int.reduceNe, Int.reducePow, Nat.reducePow, Nat.reduceSub, IntKind.bits]
  refine ro_vcall (cEachI id RS.int RS.int_one h0 p 61 [.ptr p 0] [] r h R ok hl (fun r' hh R' _ ok' hb' _ => ?_)) (fun v h1 J => ?_)
  · obtain ⟨h', e, R2, O2⟩ := cRdInt h0 p r' hh R' ok' (by rw [hb']; exact hl)
    exact ⟨_, h', e, ⟨_, rfl, rfl⟩, R2, O2⟩
  obtain ⟨⟨o, zs, rfl, hz⟩, R1, O1⟩ := J
  simp (maxSteps := 10000000) (maxDischargeDepth := 30) only [go_sem, Nat.reduceEqDiff, ↓reduceIte, Nat.reduceAdd, Nat.reduceMul, Nat.reduceLeDiff, Nat.reduceLT, reduceCtorEq, Int.reduceToNat, Int.reduceLE, Int.reduceLT, Int.reduceEq, Int.reduceNeg, Int.reduceNe, Int.reducePow, Nat.reducePow, Nat.reduceSub, IntKind.bits]
  rw [List.map_id] at hz
  exact ⟨⟨o, by rw [hz]⟩, R1, O1⟩
end Go.LM
