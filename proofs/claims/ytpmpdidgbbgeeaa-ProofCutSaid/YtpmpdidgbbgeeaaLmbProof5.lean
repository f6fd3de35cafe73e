import Derived.Test.YtpmpdidgbbgeeaaLmTrbR2
import Derived.Test.YtpmpdidgbbgeeaaLmbProof4
import Derived.Test.YtpmpdidgbbgeeaaLmbPressLaws
import Derived.Test.YtpmpdidgbbgeeaaLmB18
namespace Go.LM
open Go.Proofs
set_option maxRecDepth 8000
set_option maxHeartbeats 4000000
set_option linter.unusedSimpArgs false

def okPagesX (b : List Int) (v : LV) : Prop :=
  match pagesX b with
  | some l => ∃ (o : Option (Nat × Nat)) (zs : List PageR), v = .agg [mkS o 4 (zs.map PageR.e), .bool true] ∧ zs.map PageR.plain = l
  | none => v = .agg [.nils, .bool false]
def IPages40 (o0 : Option (Nat × Nat)) (b : List Int) (h : H) (n i : Nat) (s : S) (hh : H) : Prop :=
  s 0 = byts o0 b ∧ s 2 = .ptr h.len 0 ∧ s 3 = .ptr (h.len + 1 + 1) 0 ∧ s 5 = .int .i64 n ∧ s 6 = .int .i64 i ∧ hh.get (h.len + 1 + 1) = some ⟨false, [.ptr (h.len + 1) 0]⟩ ∧ hh.get h.len = some ⟨false, [.nils, .bool false]⟩ ∧
  ∃ (o : Option (Nat × Nat)) (zs : List PageR) (r' : RS), s 4 = mkS o 4 (zs.map PageR.e) ∧ zs.length = i ∧ i ≤ n ∧ Gth h h (h.len + 1) r' o zs.length hh ∧ r'.ok ∧ r'.b = b ∧
    gather pageX n (RS.count ⟨b, 4, false⟩).2 = (zs.map PageR.plain ++ (gather pageX (n - i) r').1, (gather pageX (n - i) r').2)
theorem cRPages40 (o0 : Option (Nat × Nat)) (b : List Int) (hb : ∀ c ∈ b, 0 ≤ c ∧ c < 256) (hl : b.length ≤ 2000) (h : H) (w : WF h) :
    ∃ v h', runI Try.prog TA 51 [byts o0 b] h = some (v, h') ∧ okPagesX b v ∧ Keep h h' := by
  refine calls_of rfl res51 rfl ?_
  have lo := w.1
  by_cases c0 : (b.length : Int) < 4
  · have hx : pagesX b = none := by
      unfold pagesX
      rw [if_pos]
      intro h
      have := congrArg List.length h
      rw [List.length_take] at this
      simp [magicP] at this
      omega
    unfold okPagesX
    rw [hx]
    simp (maxSteps := 10000000) (maxDischargeDepth := 30) only [q51, r51, c0, List.length_map, lo, go_sem, Nat.reduceEqDiff, ↓reduceIte, Nat.reduceAdd, Nat.reduceMul, Nat.reduceLeDiff, Nat.reduceLT, reduceCtorEq, Int.reduceToNat, Int.reduceLE, Int.reduceLT, Int.reduceEq, Int.reduceNeg, Int.reduceNe, Int.reducePow, Nat.reducePow, Nat.reduceSub, IntKind.bits]
  have hb1 : boundL (some (.int .i64 4)) b.length b.length = some 4 := by rw [bound_some, if_pos ⟨by omega, by omega⟩]; rfl
  have ed : ((b.map (LV.int .u8)).take 4).drop 0 = (b.take 4).map (LV.int .u8) := by rw [List.drop_zero, List.map_take]
  have hbd : ∀ c ∈ b.take 4, 0 ≤ c ∧ c < 256 := fun c hc => hb c (List.mem_of_mem_take hc)
  have hmg : strB ⟨#[84, 89, 80, 49]⟩ = magicP := by rfl
  by_cases hm : b.take 4 = magicP
  rotate_left
  · have hx : pagesX b = none := by unfold pagesX; rw [if_pos hm]
    unfold okPagesX
    rw [hx]
    have hq : ¬ strOf (b.take 4) = ⟨#[84, 89, 80, 49]⟩ := fun h => hm (by rw [← strB_strOf hbd, h, hmg])
    simp (maxSteps := 10000000) (maxDischargeDepth := 30) only [q51, r51, c0, List.length_map, lo, hb1, slM_some (bound_none 0 4), ed, cv_strB ty_u26 ty_u9 ty_u5, bin_neq_str, hq, go_sem, Nat.reduceEqDiff, ↓reduceIte, Nat.reduceAdd, Nat.reduceMul, Nat.reduceLeDiff, Nat.reduceLT, reduceCtorEq, Int.reduceToNat, Int.reduceLE, Int.reduceLT, Int.reduceEq, Int.reduceNeg, Int.reduceNe, Int.reducePow, Nat.reducePow, Nat.reduceSub, IntKind.bits]
  have hq : strOf (b.take 4) = ⟨#[84, 89, 80, 49]⟩ := strB_inj (by rw [strB_strOf hbd, hm, hmg])
  simp (maxSteps := 10000000) (maxDischargeDepth := 30) only [q51, r51, c0, List.length_map, lo, hb1, slM_some (bound_none 0 4), ed, cv_strB ty_u26 ty_u9 ty_u5, bin_neq_str, hq, go_sem, Nat.reduceEqDiff, ↓reduceIte, Nat.reduceAdd, Nat.reduceMul, Nat.reduceLeDiff, Nat.reduceLT, reduceCtorEq, Int.reduceToNat, Int.reduceLE, Int.reduceLT, Int.reduceEq, Int.reduceNeg, Int.reduceNe, Int.reducePow, Nat.reducePow, Nat.reduceSub, IntKind.bits]
  generalize hgg : H.alloc _ _ = g
  have kg : Keep h g := by rw [← hgg]; exact (((Keep.refl h).alloc _).alloc _).alloc _
  have g1 : g.get h.len = some ⟨false, [.nils, .bool false]⟩ := by rw [← hgg]; simp (maxSteps := 10000000) (maxDischargeDepth := 30) only [go_sem, Nat.reduceEqDiff, ↓reduceIte, Nat.reduceAdd, Nat.reduceMul, Nat.reduceLeDiff, Nat.reduceLT, reduceCtorEq, Int.reduceToNat, Int.reduceLE, Int.reduceLT, Int.reduceEq, Int.reduceNeg, Int.reduceNe, Int.reducePow, Nat.reducePow, Nat.reduceSub, IntKind.bits]
  have gq : g.get (h.len + 1) = some ⟨false, [byts o0 b, .int .i64 4, .bool false]⟩ := by rw [← hgg]; simp (maxSteps := 10000000) (maxDischargeDepth := 30) only [go_sem, Nat.reduceEqDiff, ↓reduceIte, Nat.reduceAdd, Nat.reduceMul, Nat.reduceLeDiff, Nat.reduceLT, reduceCtorEq, Int.reduceToNat, Int.reduceLE, Int.reduceLT, Int.reduceEq, Int.reduceNeg, Int.reduceNe, Int.reducePow, Nat.reducePow, Nat.reduceSub, IntKind.bits]
  have gd : g.get (h.len + 1 + 1) = some ⟨false, [.ptr (h.len + 1) 0]⟩ := by rw [← hgg]; simp (maxSteps := 10000000) (maxDischargeDepth := 30) only [go_sem, Nat.reduceEqDiff, ↓reduceIte, Nat.reduceAdd, Nat.reduceMul, Nat.reduceLeDiff, Nat.reduceLT, reduceCtorEq, Int.reduceToNat, Int.reduceLE, Int.reduceLT, Int.reduceEq, Int.reduceNeg, Int.reduceNe, Int.reducePow, Nat.reducePow, Nat.reduceSub, IntKind.bits]
  clear hgg
  have wg := w.keep kg
  have lg := lt_of_get gd
  have R : Rdr h (h.len + 1) ⟨b, 4, false⟩ g := ⟨⟨o0, gq⟩, by rw [kg.lob]; omega, by omega, kg, wg⟩
  have ok : (⟨b, 4, false⟩ : RS).ok := ⟨hb, by simp, by simp only; omega⟩
  refine ro_wcall (cXCount h (h.len + 1) _ g R ok (by show b.length ≤ _; omega)) (fun h3 J => ?_)
  obtain ⟨R3, O3⟩ := J
  have hc := RS.count_ok ok
  have hcb := RS.count_b ⟨b, 4, false⟩
  obtain ⟨n, hn⟩ : ∃ n : Nat, (RS.count ⟨b, 4, false⟩).1 = (n : Int) := ⟨(RS.count ⟨b, 4, false⟩).1.toNat, by omega⟩
  have hnt : (RS.count ⟨b, 4, false⟩).1.toNat = n := by omega
  have hnb : n ≤ 2000 := by have := hc.2.2; simp only at this; omega
  have g13 := (O3.get (by omega) (by omega)).trans g1
  have gd3 := (O3.get lg (by omega)).trans gd
  rw [hn]
  simp (maxSteps := 10000000) (maxDischargeDepth := 30) only [go_sem, Nat.reduceEqDiff, ↓reduceIte, Nat.reduceAdd, Nat.reduceMul, Nat.reduceLeDiff, Nat.reduceLT, reduceCtorEq, Int.reduceToNat, Int.reduceLE, Int.reduceLT, Int.reduceEq, Int.reduceNeg, Int.reduceNe, Int.reducePow, Nat.reducePow, Nat.reduceSub, IntKind.bits]
  refine ru_loop (fun i => n - i) (IPages40 o0 b h n) 0 ?_ ?_
  · unfold IPages40
    simp (maxSteps := 10000000) (maxDischargeDepth := 30) only [Int.natCast_zero, go_sem, Nat.reduceEqDiff, ↓reduceIte, Nat.reduceAdd, Nat.reduceMul, Nat.reduceLeDiff, Nat.reduceLT, reduceCtorEq, Int.reduceToNat, Int.reduceLE, Int.reduceLT, Int.reduceEq, Int.reduceNeg, Int.reduceNe, Int.reducePow, Nat.reducePow, Nat.reduceSub, IntKind.bits]
    exact ⟨gd3, g13, none, [], (RS.count ⟨b, 4, false⟩).2, rfl, rfl, .start R3 ((kg.otr _).trans O3), hc.1, hcb, by simp⟩
  · rintro i s hh ⟨e0, e2, e3, e5, e6, gd, g1, o, zs, r', e4, hz, hi, G, ok', hb', hg⟩
    obtain ⟨t, hq⟩ := G.rdr.get
    have l1 := lt_of_get g1
    have lob1 : hh.lob ≤ h.len := by rw [G.otr.lob]; exact lo
    have hK := G.rdr.keep
    have hfin : gather pageX n (RS.count ⟨b, 4, false⟩).2 = (zs.map PageR.plain, r') → pagesX b = (if r'.stop = true ∨ pagesBP (zs.map PageR.plain) ≠ b then none else some (zs.map PageR.plain)) ∧
        (r'.stop = false → zs.length ≤ 2000 ∧ ∀ x ∈ zs, x.ok) := by
      intro e
      have eX : gatherX pageX ⟨b, 4, false⟩ = (zs.map PageR.plain, r') := by unfold gatherX; rw [hnt]; exact e
      refine ⟨?_, fun hs => ?_⟩
      · unfold pagesX
        rw [if_neg (fun h => h hm), eX]
      · obtain ⟨a1, a2⟩ := agree_page.each ⟨b, 4, false⟩
        rw [eX] at a1 a2
        simp only at a1 a2
        rw [← a1] at a2
        have a3 := a2 hs
        refine ⟨by omega, fun x hx => PageR.ok_of hl ?_⟩
        have := each_all (one := pageRd) (Q := okP b.length) (B := b) page_one (fun q okq hq => by have := page_ok okq; rwa [hq] at this) ok rfl
        exact this _ (by rw [← a3]; exact List.mem_map.2 ⟨x, hx, rfl⟩)
    have hend : gather pageX n (RS.count ⟨b, 4, false⟩).2 = (zs.map PageR.plain, r') → r'.stop = true → okPagesX b (.agg [.nils, .bool false]) := by
      intro e hs
      unfold okPagesX
      rw [(hfin e).1, if_pos (.inl hs)]
    by_cases hs : r'.stop = true
    · have e : gather pageX n (RS.count ⟨b, 4, false⟩).2 = (zs.map PageR.plain, r') := fin_gather hg (.inr hs)
      have hx := hend e hs
      have hK2 : Keep h (hh.put h.len ⟨false, [.nils, .bool false]⟩) := hK.put (Nat.le_refl _) _
      by_cases c1 : (i : Int) < n
      · simp (maxSteps := 10000000) (maxDischargeDepth := 30) only [e0, e2, e3, e4, e5, e6, c1, gd, hq, hs, g1, l1, lob1, go_sem, Nat.reduceEqDiff, ↓reduceIte, Nat.reduceAdd, Nat.reduceMul, Nat.reduceLeDiff, Nat.reduceLT, reduceCtorEq, Int.reduceToNat, Int.reduceLE, Int.reduceLT, Int.reduceEq, Int.reduceNeg, Int.reduceNe, Int.reducePow, Nat.reducePow, Nat.reduceSub, IntKind.bits]
        exact ⟨hx, hK2⟩
      · simp (maxSteps := 10000000) (maxDischargeDepth := 30) only [e0, e2, e3, e4, e5, e6, c1, gd, hq, hs, g1, l1, lob1, go_sem, Nat.reduceEqDiff, ↓reduceIte, Nat.reduceAdd, Nat.reduceMul, Nat.reduceLeDiff, Nat.reduceLT, reduceCtorEq, Int.reduceToNat, Int.reduceLE, Int.reduceLT, Int.reduceEq, Int.reduceNeg, Int.reduceNe, Int.reducePow, Nat.reducePow, Nat.reduceSub, IntKind.bits]
        exact ⟨hx, hK2⟩
    have hs' : r'.stop = false := by simpa using hs
    by_cases c1 : (i : Int) < n
    · refine ru_step ?_
      have hlr : r'.b.length ≤ 1000000000000 := by rw [hb']; omega
      simp (maxSteps := 10000000) (maxDischargeDepth := 30) only [e0, e2, e3, e4, e5, e6, c1, gd, hq, hs', go_sem, Nat.reduceEqDiff, ↓reduceIte, Nat.reduceAdd, Nat.reduceMul, Nat.reduceLeDiff, Nat.reduceLT, reduceCtorEq, Int.reduceToNat, Int.reduceLE, Int.reduceLT, Int.reduceEq, Int.reduceNeg, Int.reduceNe, Int.reducePow, Nat.reducePow, Nat.reduceSub, IntKind.bits]
      refine ro_vcall (cRPage40 h (h.len + 1) (h.len + 1 + 1) r' hh G.rdr gd (by omega) ok' hlr) (fun v h6 J => ?_)
      obtain ⟨⟨x, rfl, hx⟩, R6, O6⟩ := J
      have gd6 := (O6.get (lt_of_get gd) (by omega)).trans gd
      have g16 := (O6.get l1 (by omega)).trans g1
      have k7 : Keep h6 (h6.nrow 1) := (Keep.refl h6).nrow 1
      have G7 := (G.step R6 O6).next k7
      rw [show zs.length = (zs.map PageR.e).length by rw [List.length_map]] at G7
      obtain ⟨o4, ha, ap, Ga, ga, la, lba, -⟩ := G7.app (sz := 4) (by_ := 48) (xs := zs.map PageR.e) (Nat.le_refl _) [PageR.e x] (by
        rw [List.length_map, hz, List.length_singleton]; omega)
      have ezs : zs.map PageR.e ++ [PageR.e x] = (zs ++ [x]).map PageR.e := by simp
      rw [ezs] at ap Ga
      rw [List.length_map] at Ga
      have apx : appS 4 48 (mkS o 4 (zs.map PageR.e)) (h6.nrow 1) (some [.agg [mkS x.o 2 (x.lanes.map LaneR.e), .int .i64 x.top, .int .i64 x.first, .int .i64 x.last]]) = some (mkS o4 4 ((zs ++ [x]).map PageR.e), ha) := ap
      have gda : ha.get (h.len + 1 + 1) = some ⟨false, [.ptr (h.len + 1) 0]⟩ := by rw [ga, get_nrow]; exact gd6
      have g1a : ha.get h.len = some ⟨false, [.nils, .bool false]⟩ := by rw [ga, get_nrow]; exact g16
      have ew : IntKind.i64.wrap ((i : Int) + 1) = ((i + 1 : Nat) : Int) := by rw [wrap64 (by omega) (by omega)]; omega
      simp (maxSteps := 10000000) (maxDischargeDepth := 30) only [e0, e2, e3, e4, e5, e6, PageR.e, apx, ew, go_sem, Nat.reduceEqDiff, ↓reduceIte, Nat.reduceAdd, Nat.reduceMul, Nat.reduceLeDiff, Nat.reduceLT, reduceCtorEq, Int.reduceToNat, Int.reduceLE, Int.reduceLT, Int.reduceEq, Int.reduceNeg, Int.reduceNe, Int.reducePow, Nat.reducePow, Nat.reduceSub, IntKind.bits]
      refine ⟨i + 1, by omega, ?_⟩
      unfold IPages40
      simp (maxSteps := 10000000) (maxDischargeDepth := 30) only [e0, e2, e3, e5, gda, g1a, go_sem, Nat.reduceEqDiff, ↓reduceIte, Nat.reduceAdd, Nat.reduceMul, Nat.reduceLeDiff, Nat.reduceLT, reduceCtorEq, Int.reduceToNat, Int.reduceLE, Int.reduceLT, Int.reduceEq, Int.reduceNeg, Int.reduceNe, Int.reducePow, Nat.reducePow, Nat.reduceSub, IntKind.bits]
      refine ⟨o4, zs ++ [x], (pageX r').2, rfl, by simp [hz], by omega, Ga, pageX_one.ok r' ok', (pageX_one.b r').trans hb', ?_⟩
      rw [List.map_append, List.map_cons, List.map_nil, hx]
      exact step_gather (by omega) hs' hg
    · have e : gather pageX n (RS.count ⟨b, 4, false⟩).2 = (zs.map PageR.plain, r') := fin_gather hg (.inl (by omega))
      obtain ⟨hx, hok⟩ := hfin e
      obtain ⟨hok1, hok2⟩ := hok hs'
      simp (maxSteps := 10000000) (maxDischargeDepth := 30) only [e0, e2, e3, e4, e5, e6, c1, gd, hq, hs', go_sem, Nat.reduceEqDiff, ↓reduceIte, Nat.reduceAdd, Nat.reduceMul, Nat.reduceLeDiff, Nat.reduceLT, reduceCtorEq, Int.reduceToNat, Int.reduceLE, Int.reduceLT, Int.reduceEq, Int.reduceNeg, Int.reduceNe, Int.reducePow, Nat.reducePow, Nat.reduceSub, IntKind.bits]
      refine ro_kcall (cRPPages o zs hh G.rdr.wf hok1 hok2) G.rdr.wf (fun h7 k7 w7 => ?_)
      simp (maxSteps := 10000000) (maxDischargeDepth := 30) only [e0, go_sem, Nat.reduceEqDiff, ↓reduceIte, Nat.reduceAdd, Nat.reduceMul, Nat.reduceLeDiff, Nat.reduceLT, reduceCtorEq, Int.reduceToNat, Int.reduceLE, Int.reduceLT, Int.reduceEq, Int.reduceNeg, Int.reduceNe, Int.reducePow, Nat.reducePow, Nat.reduceSub, IntKind.bits]
      refine ro_kcall (cSameG _ o0 (pagesB zs) b (pagesB_big hok1 hok2) h7 w7) w7 (fun h8 k8 w8 => ?_)
      have g18 := ((k7.trans k8).get l1).trans g1
      have l18 := lt_of_get g18
      have lob8 : h8.lob ≤ h.len := by rw [k8.lob, k7.lob]; exact lob1
      have hK8 := hK.trans (k7.trans k8)
      rw [pagesB_plain]
      by_cases hp : pagesBP (zs.map PageR.plain) = b
      · rw [if_neg (by simp [hs', hp])] at hx
        simp (maxSteps := 10000000) (maxDischargeDepth := 30) only [e2, e4, hp, g18, l18, lob8, go_sem, Nat.reduceEqDiff, ↓reduceIte, Nat.reduceAdd, Nat.reduceMul, Nat.reduceLeDiff, Nat.reduceLT, reduceCtorEq, Int.reduceToNat, Int.reduceLE, Int.reduceLT, Int.reduceEq, Int.reduceNeg, Int.reduceNe, Int.reducePow, Nat.reducePow, Nat.reduceSub, IntKind.bits]
        unfold okPagesX
        rw [hx]
        exact ⟨⟨o, zs, rfl, rfl⟩, hK8.put (Nat.le_refl _) _⟩
      · rw [if_pos (.inr hp)] at hx
        simp (maxSteps := 10000000) (maxDischargeDepth := 30) only [e2, e4, hp, g18, l18, lob8, go_sem, Nat.reduceEqDiff, ↓reduceIte, Nat.reduceAdd, Nat.reduceMul, Nat.reduceLeDiff, Nat.reduceLT, reduceCtorEq, Int.reduceToNat, Int.reduceLE, Int.reduceLT, Int.reduceEq, Int.reduceNeg, Int.reduceNe, Int.reducePow, Nat.reducePow, Nat.reduceSub, IntKind.bits]
        unfold okPagesX
        rw [hx]
        exact ⟨rfl, hK8.put (Nat.le_refl _) _⟩
end Go.LM
