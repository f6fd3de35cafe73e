import Derived.Test.YtpmpdidgbbgeeaaLmTrbR1
import Derived.Test.YtpmpdidgbbgeeaaLmbPress2
namespace Go.LM
open Go.Proofs
set_option maxRecDepth 40000
set_option maxHeartbeats 4000000
set_option linter.unusedSimpArgs false

def hdrB (l : List PageR) : List Int := [84, 89, 80, 49] ++ chn l.length
def IRP (o : Option (Nat × Nat)) (l : List PageR) (h0 : H) (i : Nat) (s : S) (hh : H) : Prop :=
  s 0 = mkS o 4 (l.map PageR.e) ∧ s 4 = .int .i64 i ∧ i ≤ l.length ∧ ∃ o2, s 3 = byts o2 (hdrB l ++ (l.take i).flatMap pageB) ∧ Acc h0 o2 (hdrB l ++ (l.take i).flatMap pageB) hh
def IRL (o : Option (Nat × Nat)) (l : List PageR) (i : Nat) (p : PageR) (pre : List Int) (h0 : H) (k : Nat) (s : S) (hh : H) : Prop :=
  s 0 = mkS o 4 (l.map PageR.e) ∧ s 4 = .int .i64 i ∧ s 5 = .int .i64 k ∧ k ≤ p.lanes.length ∧ ∃ o2, s 3 = byts o2 (pre ++ (p.lanes.take k).flatMap laneB) ∧ Acc h0 o2 (pre ++ (p.lanes.take k).flatMap laneB) hh
def IRU (o : Option (Nat × Nat)) (l : List PageR) (i k : Nat) (x : LaneR) (b : Nat) (pre : List Int) (h0 : H) (m : Nat) (s : S) (hh : H) : Prop :=
  s 0 = mkS o 4 (l.map PageR.e) ∧ s 4 = .int .i64 i ∧ s 5 = .int .i64 k ∧ s 6 = .ptr b 0 ∧ s 7 = .int .i64 m ∧ m ≤ x.puts.length ∧ hh.get b = some ⟨false, [.int .i64 x.x, mkS x.o 5 (x.puts.map PutR.e)]⟩ ∧ hh.lob ≤ b ∧
    ∃ o2, s 3 = byts o2 (pre ++ (x.puts.take m).flatMap putB) ∧ Acc h0 o2 (pre ++ (x.puts.take m).flatMap putB) hh

theorem cRPPages (o : Option (Nat × Nat)) (l : List PageR) (h : H) (w : WF h) (hl : l.length ≤ 2000) (hx : ∀ x ∈ l, x.ok) : runI Try.prog TA 23 [mkS o 4 (l.map PageR.e)] h = some (byts (tk Try.prog TA 23 [mkS o 4 (l.map PageR.e)] h) (pagesB l), hp Try.prog TA 23 [mkS o 4 (l.map PageR.e)] h) := by
  refine pureS_of rfl res23 rfl ?_
  have hlr := w.2.1
  have h1r := w.2.2
  have hl64 : I64 l.length := ⟨by omega, by omega⟩
  simp (maxSteps := 10000000) (maxDischargeDepth := 30) only [q23, r23, hlr, h1r, go_sem, Nat.reduceEqDiff, ↓reduceIte, Nat.reduceAdd, Nat.reduceMul, Nat.reduceLeDiff, Nat.reduceLT, reduceCtorEq, Int.reduceToNat, Int.reduceLE, Int.reduceLT, Int.reduceEq, Int.reduceNeg, Int.reduceNe, Int.reducePow, Nat.reducePow, Nat.reduceSub, IntKind.bits]
  have kg : Keep h ((h.nrow 4).nrow 1) := ((Keep.refl h).nrow _).nrow _
  have A0 : Acc h (some (h.rlen, 4)) [84, 89, 80, 49] ((h.nrow 4).nrow 1) := ⟨⟨by omega, by simpa using hlr, by simp; omega, by simp⟩, Nat.le_refl _, kg, w.keep kg⟩
  refine ro_kcall (cChains _ [(l.length : Int)] _ (w.keep kg) (by simpa using hl64) (by simp)) (w.keep kg) (fun h1 k1 w1 => ?_)
  obtain ⟨o3, h3, ap, A3, _⟩ := (A0.next k1).app (chns [(l.length : Int)]) (by have := chn_len hl64; simp [chns]; omega)
  simp only [List.map_cons, List.map_nil] at ap
  simp (maxSteps := 10000000) (maxDischargeDepth := 30) only [ap, go_sem, Nat.reduceEqDiff, ↓reduceIte, Nat.reduceAdd, Nat.reduceMul, Nat.reduceLeDiff, Nat.reduceLT, reduceCtorEq, Int.reduceToNat, Int.reduceLE, Int.reduceLT, Int.reduceEq, Int.reduceNeg, Int.reduceNe, Int.reducePow, Nat.reducePow, Nat.reduceSub, IntKind.bits]
  refine ru_loop (fun i => l.length - i) (IRP o l h) 0 ?_ ?_
  · unfold IRP
    simp (maxSteps := 10000000) (maxDischargeDepth := 30) only [Int.natCast_zero, go_sem, Nat.reduceEqDiff, ↓reduceIte, Nat.reduceAdd, Nat.reduceMul, Nat.reduceLeDiff, Nat.reduceLT, reduceCtorEq, Int.reduceToNat, Int.reduceLE, Int.reduceLT, Int.reduceEq, Int.reduceNeg, Int.reduceNe, Int.reducePow, Nat.reducePow, Nat.reduceSub, IntKind.bits]
    exact ⟨o3, by simp [chns, hdrB, byts], by simpa [chns, hdrB] using A3⟩
  · rintro i s hh ⟨e0, e4, hil, o2, e3, A⟩
    have hpre : (hdrB l ++ (l.take i).flatMap pageB).length ≤ 500000000000 := pre_len hl hx i
    by_cases hlt : i < l.length
    rotate_left
    · have c1 : ¬ (i : Int) < l.length := by omega
      obtain rfl : i = l.length := by omega
      rw [List.take_length] at e3 A
      simp (maxSteps := 10000000) (maxDischargeDepth := 30) only [e0, e3, e4, c1, go_sem, Nat.reduceEqDiff, ↓reduceIte, Nat.reduceAdd, Nat.reduceMul, Nat.reduceLeDiff, Nat.reduceLT, reduceCtorEq, Int.reduceToNat, Int.reduceLE, Int.reduceLT, Int.reduceEq, Int.reduceNeg, Int.reduceNe, Int.reducePow, Nat.reducePow, Nat.reduceSub, IntKind.bits]
      refine ⟨⟨o2, ?_⟩, A.keep⟩
      unfold pagesB many hdrB
      rw [List.append_assoc]
    refine ru_step ?_
    obtain ⟨p, hp⟩ : ∃ p, l[i]? = some p := ⟨l[i], List.getElem?_eq_getElem hlt⟩
    have ia : iaS (l.map PageR.e) (i : Int) = some (.cptr p.e) := iaS_map (Int.natCast_nonneg i) (by simpa using hp)
    have c1 : (i : Int) < l.length := by omega
    have ew : IntKind.i64.wrap ((i : Int) + 1) = ((i + 1 : Nat) : Int) := by rw [wrap64 (by omega) (by omega)]; omega
    have hpok := hx p (List.mem_of_getElem? hp)
    have hpl := hpok.2.1
    have h4 : ∀ n ∈ [p.top, p.first, p.last, (p.lanes.length : Int)], I64 n := by
      intro n hn
      rcases List.mem_append.1 (show n ∈ [p.top, p.first, p.last] ++ [(p.lanes.length : Int)] from hn) with hn | hn
      · exact hpok.1 n hn
      · rw [List.mem_singleton.1 hn]; exact ⟨by omega, by omega⟩
    have hf : (l.take (i + 1)).flatMap pageB = (l.take i).flatMap pageB ++ pageB p := flat_take pageB hp
    have hfin : ∀ pre, pre = hdrB l ++ (l.take i).flatMap pageB → hdrB l ++ (l.take (i + 1)).flatMap pageB = pre ++ chns [p.top, p.first, p.last, (p.lanes.length : Int)] ++ p.lanes.flatMap laneB := by
      rintro pre rfl
      rw [hf]
      unfold pageB many
      simp only [chns_cons, chns_nil, List.append_nil, List.append_assoc]
    generalize hpe : hdrB l ++ (l.take i).flatMap pageB = pre at *
    replace hfin := hfin pre rfl
    have l4 := chns_len h4
    simp only [List.length_cons, List.length_nil] at l4
    simp (maxSteps := 10000000) (maxDischargeDepth := 30) only [e0, e3, e4, c1, ia, PageR.e, go_sem, Nat.reduceEqDiff, ↓reduceIte, Nat.reduceAdd, Nat.reduceMul, Nat.reduceLeDiff, Nat.reduceLT, reduceCtorEq, Int.reduceToNat, Int.reduceLE, Int.reduceLT, Int.reduceEq, Int.reduceNeg, Int.reduceNe, Int.reducePow, Nat.reducePow, Nat.reduceSub, IntKind.bits]
    have kn : Keep hh (hh.nrow 4) := (Keep.refl hh).nrow 4
    refine rw_kcall (cChains _ [p.top, p.first, p.last, (p.lanes.length : Int)] (hh.nrow 4) (A.wf.keep kn) h4 (by simp)) (A.wf.keep kn) (fun h5 k5 w5 => ?_)
    obtain ⟨o6, h6, ap6, A6, _⟩ := ((A.next kn).next k5).app (chns [p.top, p.first, p.last, (p.lanes.length : Int)]) (by omega)
    simp (maxSteps := 10000000) (maxDischargeDepth := 30) only [e0, e3, e4, ap6, go_sem, Nat.reduceEqDiff, ↓reduceIte, Nat.reduceAdd, Nat.reduceMul, Nat.reduceLeDiff, Nat.reduceLT, reduceCtorEq, Int.reduceToNat, Int.reduceLE, Int.reduceLT, Int.reduceEq, Int.reduceNeg, Int.reduceNe, Int.reducePow, Nat.reducePow, Nat.reduceSub, IntKind.bits]
    have hp2 : (pre ++ chns [p.top, p.first, p.last, (p.lanes.length : Int)]).length ≤ 600000000000 := by rw [List.length_append]; omega
    generalize pre ++ chns [p.top, p.first, p.last, (p.lanes.length : Int)] = pre2 at *
    as_aux_lemma =>
      refine ru_loop (fun k => p.lanes.length - k) (IRL o l i p pre2 h) 0 ?_ ?_
      · unfold IRL
        simp (maxSteps := 10000000) (maxDischargeDepth := 30) only [e0, e4, Int.natCast_zero, go_sem, Nat.reduceEqDiff, ↓reduceIte, Nat.reduceAdd, Nat.reduceMul, Nat.reduceLeDiff, Nat.reduceLT, reduceCtorEq, Int.reduceToNat, Int.reduceLE, Int.reduceLT, Int.reduceEq, Int.reduceNeg, Int.reduceNe, Int.reducePow, Nat.reducePow, Nat.reduceSub, IntKind.bits]
        exact ⟨o6, by simp, by simpa using A6⟩
      · rintro k s2 hh2 ⟨f0, f4, f5, hkl, o4, f3, B⟩
        have hlp := lane_pre hpok k
        by_cases hlt2 : k < p.lanes.length
        rotate_left
        · have c2 : ¬ (k : Int) < p.lanes.length := by omega
          obtain rfl : k = p.lanes.length := by omega
          rw [List.take_length] at f3 B
          simp (maxSteps := 10000000) (maxDischargeDepth := 30) only [f0, f3, f4, f5, c2, ia, PageR.e, ew, go_sem, Nat.reduceEqDiff, ↓reduceIte, Nat.reduceAdd, Nat.reduceMul, Nat.reduceLeDiff, Nat.reduceLT, reduceCtorEq, Int.reduceToNat, Int.reduceLE, Int.reduceLT, Int.reduceEq, Int.reduceNeg, Int.reduceNe, Int.reducePow, Nat.reducePow, Nat.reduceSub, IntKind.bits]
          refine ⟨i + 1, by omega, ?_⟩
          unfold IRP
          simp (maxSteps := 10000000) (maxDischargeDepth := 30) only [f0, f4, f5, go_sem, Nat.reduceEqDiff, ↓reduceIte, Nat.reduceAdd, Nat.reduceMul, Nat.reduceLeDiff, Nat.reduceLT, reduceCtorEq, Int.reduceToNat, Int.reduceLE, Int.reduceLT, Int.reduceEq, Int.reduceNeg, Int.reduceNe, Int.reducePow, Nat.reducePow, Nat.reduceSub, IntKind.bits]
          rw [hfin]
          exact ⟨by omega, o4, f3, B⟩
        refine ru_step ?_
        obtain ⟨x, hxk⟩ : ∃ x, p.lanes[k]? = some x := ⟨p.lanes[k], List.getElem?_eq_getElem hlt2⟩
        have ib : iaS (p.lanes.map LaneR.e) (k : Int) = some (.cptr x.e) := iaS_map (Int.natCast_nonneg k) (by simpa using hxk)
        have c2 : (k : Int) < p.lanes.length := by omega
        have ew2 : IntKind.i64.wrap ((k : Int) + 1) = ((k + 1 : Nat) : Int) := by rw [wrap64 (by omega) (by omega)]; omega
        have hxok := hpok.2.2 x (List.mem_of_getElem? hxk)
        have hxl := hxok.2.1
        have h2 : ∀ n ∈ [x.x, (x.puts.length : Int)], I64 n := by
          intro n hn
          rcases List.mem_cons.1 hn with hn | hn
          · rw [hn]; exact hxok.1
          · rw [List.mem_singleton.1 hn]; exact ⟨by omega, by omega⟩
        have hf2 : (p.lanes.take (k + 1)).flatMap laneB = (p.lanes.take k).flatMap laneB ++ laneB x := flat_take laneB hxk
        have hfin2 : ∀ q, q = pre2 ++ (p.lanes.take k).flatMap laneB → pre2 ++ (p.lanes.take (k + 1)).flatMap laneB = q ++ chns [x.x, (x.puts.length : Int)] ++ x.puts.flatMap putB := by
          rintro q rfl
          rw [hf2]
          unfold laneB many
          simp only [chns_cons, chns_nil, List.append_nil, List.append_assoc]
        have hq : (pre2 ++ (p.lanes.take k).flatMap laneB).length ≤ 700000000000 := by rw [List.length_append]; omega
        generalize pre2 ++ (p.lanes.take k).flatMap laneB = q at *
        replace hfin2 := hfin2 q rfl
        have l2 := chns_len h2
        simp only [List.length_cons, List.length_nil] at l2
        have hlo := B.wf.1
        simp (maxSteps := 10000000) (maxDischargeDepth := 30) only [f0, f3, f4, f5, c2, ia, ib, PageR.e, LaneR.e, hlo, go_sem, Nat.reduceEqDiff, ↓reduceIte, Nat.reduceAdd, Nat.reduceMul, Nat.reduceLeDiff, Nat.reduceLT, reduceCtorEq, Int.reduceToNat, Int.reduceLE, Int.reduceLT, Int.reduceEq, Int.reduceNeg, Int.reduceNe, Int.reducePow, Nat.reducePow, Nat.reduceSub, IntKind.bits]
        generalize hg : H.nrow _ _ = g
        have kg : Keep hh2 g := by rw [← hg]; exact (((Keep.refl hh2).alloc _).put (Nat.le_refl _) _).nrow _
        have gg : g.get hh2.len = some ⟨false, [.int .i64 x.x, mkS x.o 5 (x.puts.map PutR.e)]⟩ := by rw [← hg]; simp (maxSteps := 10000000) (maxDischargeDepth := 30) only [go_sem, Nat.reduceEqDiff, ↓reduceIte, Nat.reduceAdd, Nat.reduceMul, Nat.reduceLeDiff, Nat.reduceLT, reduceCtorEq, Int.reduceToNat, Int.reduceLE, Int.reduceLT, Int.reduceEq, Int.reduceNeg, Int.reduceNe, Int.reducePow, Nat.reducePow, Nat.reduceSub, IntKind.bits]
        have lg : hh2.len < g.len := lt_of_get gg
        refine ro_kcall (cChains _ [x.x, (x.puts.length : Int)] g (B.wf.keep kg) h2 (by simp)) (B.wf.keep kg) (fun h7 k7 w7 => ?_)
        obtain ⟨o8, h8, ap8, B8, g8, l8, b8⟩ := ((B.next kg).next k7).app (chns [x.x, (x.puts.length : Int)]) (by omega)
        have g9 := (g8 hh2.len).trans ((k7.get lg).trans gg)
        have hlb8 : h8.lob ≤ hh2.len := by rw [b8, k7.lob, kg.lob]; exact hlo
        simp (maxSteps := 10000000) (maxDischargeDepth := 30) only [f0, f3, f4, f5, ap8, go_sem, Nat.reduceEqDiff, ↓reduceIte, Nat.reduceAdd, Nat.reduceMul, Nat.reduceLeDiff, Nat.reduceLT, reduceCtorEq, Int.reduceToNat, Int.reduceLE, Int.reduceLT, Int.reduceEq, Int.reduceNeg, Int.reduceNe, Int.reducePow, Nat.reducePow, Nat.reduceSub, IntKind.bits]
        have hq2 : (q ++ chns [x.x, (x.puts.length : Int)]).length ≤ 800000000000 := by rw [List.length_append]; omega
        generalize q ++ chns [x.x, (x.puts.length : Int)] = q2 at *
        as_aux_lemma =>
          refine ru_loop (fun m => x.puts.length - m) (IRU o l i k x hh2.len q2 h) 0 ?_ ?_
          · unfold IRU
            simp (maxSteps := 10000000) (maxDischargeDepth := 30) only [f0, f4, f5, g9, hlb8, Int.natCast_zero, go_sem, Nat.reduceEqDiff, ↓reduceIte, Nat.reduceAdd, Nat.reduceMul, Nat.reduceLeDiff, Nat.reduceLT, reduceCtorEq, Int.reduceToNat, Int.reduceLE, Int.reduceLT, Int.reduceEq, Int.reduceNeg, Int.reduceNe, Int.reducePow, Nat.reducePow, Nat.reduceSub, IntKind.bits]
            exact ⟨o8, by simp, by simpa using B8⟩
          · rintro m s3 hh3 ⟨d0, d4, d5, d6, d7, hml, gx, hlb, o9, d3, C⟩
            have hmp := put_pre hxok m
            by_cases hlt3 : m < x.puts.length
            rotate_left
            · have c3 : ¬ (m : Int) < x.puts.length := by omega
              obtain rfl : m = x.puts.length := by omega
              rw [List.take_length] at d3 C
              simp (maxSteps := 10000000) (maxDischargeDepth := 30) only [d0, d3, d4, d5, d6, d7, gx, hlb, c3, ew2, go_sem, Nat.reduceEqDiff, ↓reduceIte, Nat.reduceAdd, Nat.reduceMul, Nat.reduceLeDiff, Nat.reduceLT, reduceCtorEq, Int.reduceToNat, Int.reduceLE, Int.reduceLT, Int.reduceEq, Int.reduceNeg, Int.reduceNe, Int.reducePow, Nat.reducePow, Nat.reduceSub, IntKind.bits]
              refine ⟨k + 1, by omega, ?_⟩
              unfold IRL
              simp (maxSteps := 10000000) (maxDischargeDepth := 30) only [d0, d4, d5, go_sem, Nat.reduceEqDiff, ↓reduceIte, Nat.reduceAdd, Nat.reduceMul, Nat.reduceLeDiff, Nat.reduceLT, reduceCtorEq, Int.reduceToNat, Int.reduceLE, Int.reduceLT, Int.reduceEq, Int.reduceNeg, Int.reduceNe, Int.reducePow, Nat.reducePow, Nat.reduceSub, IntKind.bits]
              rw [hfin2]
              exact ⟨by omega, o9, d3, C⟩
            refine ru_step ?_
            obtain ⟨y, hy⟩ : ∃ y, x.puts[m]? = some y := ⟨x.puts[m], List.getElem?_eq_getElem hlt3⟩
            have ic : iaS (x.puts.map PutR.e) (m : Int) = some (.cptr y.e) := iaS_map (Int.natCast_nonneg m) (by simpa using hy)
            have c3 : (m : Int) < x.puts.length := by omega
            have ew3 : IntKind.i64.wrap ((m : Int) + 1) = ((m + 1 : Nat) : Int) := by rw [wrap64 (by omega) (by omega)]; omega
            have hyok := hxok.2.2 y (List.mem_of_getElem? hy)
            have hyl := putB_len hyok
            have hf3 : (x.puts.take (m + 1)).flatMap putB = (x.puts.take m).flatMap putB ++ putB y := flat_take putB hy
            simp (maxSteps := 10000000) (maxDischargeDepth := 30) only [d0, d3, d4, d5, d6, d7, gx, hlb, c3, ic, PutR.e, go_sem, Nat.reduceEqDiff, ↓reduceIte, Nat.reduceAdd, Nat.reduceMul, Nat.reduceLeDiff, Nat.reduceLT, reduceCtorEq, Int.reduceToNat, Int.reduceLE, Int.reduceLT, Int.reduceEq, Int.reduceNeg, Int.reduceNe, Int.reducePow, Nat.reducePow, Nat.reduceSub, IntKind.bits]
            have hk := cRPPut y hh3 C.wf hyok
            simp only [PutR.e] at hk
            refine ro_kcall hk C.wf (fun ha ka wa => ?_)
            obtain ⟨ob, hb, apb, Cb, gb, lb, bb⟩ := (C.next ka).app (putB y) (by rw [List.length_append]; omega)
            simp (maxSteps := 10000000) (maxDischargeDepth := 30) only [d0, d3, d4, d5, d6, d7, apb, ew3, go_sem, Nat.reduceEqDiff, ↓reduceIte, Nat.reduceAdd, Nat.reduceMul, Nat.reduceLeDiff, Nat.reduceLT, reduceCtorEq, Int.reduceToNat, Int.reduceLE, Int.reduceLT, Int.reduceEq, Int.reduceNeg, Int.reduceNe, Int.reducePow, Nat.reducePow, Nat.reduceSub, IntKind.bits]
            refine ⟨m + 1, by omega, ?_⟩
            unfold IRU
            simp (maxSteps := 10000000) (maxDischargeDepth := 30) only [d0, d4, d5, d6, d7, go_sem, Nat.reduceEqDiff, ↓reduceIte, Nat.reduceAdd, Nat.reduceMul, Nat.reduceLeDiff, Nat.reduceLT, reduceCtorEq, Int.reduceToNat, Int.reduceLE, Int.reduceLT, Int.reduceEq, Int.reduceNeg, Int.reduceNe, Int.reducePow, Nat.reducePow, Nat.reduceSub, IntKind.bits]
            refine ⟨by omega, (gb _).trans ((ka.get (lt_of_get gx)).trans gx), by rw [bb, ka.lob]; exact hlb, ob, ?_⟩
            rw [hf3, ← List.append_assoc]
            exact ⟨rfl, Cb⟩
end Go.LM
