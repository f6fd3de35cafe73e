import Derived.Test.YtpmpdidgbbgeeaaLmTrbR3
import Derived.Test.YtpmpdidgbbgeeaaLmbChainGet
namespace Go.LM
open Go.Proofs
set_option maxRecDepth 4000
set_option maxHeartbeats 2000000
set_option linter.unusedSimpArgs false

theorem byt_at2 {b l : List Int} {at_ : Int} {i : Nat} {c : Int} (h0 : 0 ≤ at_) (hl : b.drop at_.toNat = l) (h : l[i]? = some c) : iaS (b.map (LV.int .u8)) (at_ + (i : Int)) = some (.cptr (.int .u8 c)) := by
  refine iaS_map (by omega) ?_
  subst hl
  rw [List.getElem?_drop] at h
  rw [← h]; congr 1; omega
def zBox : List LV := [.int .i64 0, .int .i64 0, .int .i64 0]
def RI (b : List Int) (o : Option (Nat × Nat)) (at_ : Int) (h0 : H) (s : S) (h : H) : Prop :=
  s 0 = byts o b ∧ s 1 = .int .i64 at_ ∧ s 4 = .ptr h0.len 0 ∧ Keep (h0.alloc zBox) h ∧ WF h
def R1 (b l : List Int) (o : Option (Nat × Nat)) (at_ : Int) (h0 : H) (n : Nat) (s : S) (h : H) : Prop :=
  RI b o at_ h0 s h ∧ s 5 = .int .i64 n ∧ n ≤ 10 ∧ n ≤ l.length ∧ ∀ k, k < n → ∀ c, l[k]? = some c → 127 < c
def R2 (b l : List Int) (o : Option (Nat × Nat)) (at_ : Int) (h0 : H) (n : Nat) (j : Nat) (s : S) (h : H) : Prop :=
  RI b o at_ h0 s h ∧ s 5 = .int .i64 n ∧ j ≤ n + 1 ∧ s 7 = .int .i64 ((j : Int) - 1) ∧ s 6 = .int .u64 ((valD ((l.take (n + 1)).drop j) % 18446744073709551616 : Nat) : Int)
def R3 (b l c : List Int) (o o8 : Option (Nat × Nat)) (at_ : Int) (h0 : H) (n : Nat) (u : Nat) (j : Nat) (s : S) (h : H) : Prop :=
  RI b o at_ h0 s h ∧ s 5 = .int .i64 n ∧ s 6 = .int .u64 (u : Int) ∧ s 8 = byts o8 c ∧ s 9 = .int .i64 j ∧ j ≤ n + 1 ∧ ∀ k, k < j → c[k]? = l[k]?
theorem cRGet (o : Option (Nat × Nat)) (b : List Int) (at_ : Int) (hl : b.length ≤ 1000000000000) (hc : ∀ c ∈ b, 0 ≤ c ∧ c < 256) (h1 : -9223372036854775808 ≤ at_) (h2 : at_ < 9223372036854775808) (h : H) (w : WF h) :
    runI Try.prog TA 111 [byts o b, .int .i64 at_] h = some (.agg [.int .i64 (getL b at_).1, .int .i64 (getL b at_).2.1, .int .i64 (getL b at_).2.2], hp Try.prog TA 111 [byts o b, .int .i64 at_] h) := by
  rw [← rget_eq hc]
  refine pure_of rfl res111 rfl ?_
  have hlo := w.1
  by_cases n0 : at_ < 0
  · have e : rgetL b at_ = (0, 0, 1) := by unfold rgetL; rw [if_pos (.inl n0)]
    simp (maxSteps := 10000000) (maxDischargeDepth := 30) only [q111, r111, n0, e, hlo, Int.toNat_zero, go_sem, Nat.reduceEqDiff, ↓reduceIte, Nat.reduceAdd, Nat.reduceMul, Nat.reduceLeDiff, Nat.reduceLT, reduceCtorEq, Int.reduceToNat, Int.reduceLE, Int.reduceLT, Int.reduceEq, Int.reduceNeg, Int.reduceNe, Int.reducePow, Nat.reducePow, Nat.reduceSub, IntKind.bits]
  by_cases n1 : (b.length : Int) < at_
  · have e : rgetL b at_ = (0, 0, 1) := by unfold rgetL; rw [if_pos (.inr n1)]
    simp (maxSteps := 10000000) (maxDischargeDepth := 30) only [q111, r111, n0, n1, e, hlo, go_sem, Nat.reduceEqDiff, ↓reduceIte, Nat.reduceAdd, Nat.reduceMul, Nat.reduceLeDiff, Nat.reduceLT, reduceCtorEq, Int.reduceToNat, Int.reduceLE, Int.reduceLT, Int.reduceEq, Int.reduceNeg, Int.reduceNe, Int.reducePow, Nat.reducePow, Nat.reduceSub, IntKind.bits]
  have hcl : ∀ c ∈ b.drop at_.toNat, 0 ≤ c ∧ c < 256 := fun c hm => hc c (List.mem_of_mem_drop hm)
  have hatl : at_ + (b.drop at_.toNat).length = b.length := by simp; omega
  have hg : rgetL b at_ = if cntN 10 (b.drop at_.toNat) = 10 ∨ cntN 10 (b.drop at_.toNat) = (b.drop at_.toNat).length then (0, 0, 2)
    else if chainU (valD ((b.drop at_.toNat).take (cntN 10 (b.drop at_.toNat) + 1)) % 18446744073709551616) = (b.drop at_.toNat).take (cntN 10 (b.drop at_.toNat) + 1)
      then (unfoldN (valD ((b.drop at_.toNat).take (cntN 10 (b.drop at_.toNat) + 1)) % 18446744073709551616 : Nat), at_ + cntN 10 (b.drop at_.toNat) + 1, 0)
    else (0, 0, 2) := by unfold rgetL; rw [if_neg (by omega)]
  generalize hdl : b.drop at_.toNat = l at *
  simp (maxSteps := 10000000) (maxDischargeDepth := 30) only [q111, r111, n0, n1, hlo, go_sem, Nat.reduceEqDiff, ↓reduceIte, Nat.reduceAdd, Nat.reduceMul, Nat.reduceLeDiff, Nat.reduceLT, reduceCtorEq, Int.reduceToNat, Int.reduceLE, Int.reduceLT, Int.reduceEq, Int.reduceNeg, Int.reduceNe, Int.reducePow, Nat.reducePow, Nat.reduceSub, IntKind.bits]
  refine ru_loop (fun n => 10 - n) (R1 b l o at_ h) 0 ?_ ?_
  · unfold R1 RI
    simp (maxSteps := 10000000) (maxDischargeDepth := 30) only [w, Int.natCast_zero, zBox, go_sem, Nat.reduceEqDiff, ↓reduceIte, Nat.reduceAdd, Nat.reduceMul, Nat.reduceLeDiff, Nat.reduceLT, reduceCtorEq, Int.reduceToNat, Int.reduceLE, Int.reduceLT, Int.reduceEq, Int.reduceNeg, Int.reduceNe, Int.reducePow, Nat.reducePow, Nat.reduceSub, IntKind.bits]
    exact fun k hk => absurd hk (by omega)
  · rintro n s hh ⟨⟨e0, e1, e4, k1, w1⟩, e5, hn10, hnl, hpre⟩
    have ea : IntKind.i64.wrap (at_ + (n : Int)) = at_ + n := wrap64 (by omega) (by omega)
    have hbox : hh.get h.len = some ⟨false, zBox⟩ := by rw [k1.get (by simp)]; simp
    have hlen : h.len < hh.len := by have := k1.len; simp at this; omega
    have hlob : hh.lob ≤ h.len := by rw [k1.lob]; exact hlo
    have kst : ∀ B, Keep h (hh.put h.len B) := fun B => (((Keep.refl h).alloc zBox).trans k1).put (Nat.le_refl _) B
    have en : IntKind.i64.wrap ((n : Int) + 1) = ((n + 1 : Nat) : Int) := by rw [wrap64 (by omega) (by omega)]; omega
    by_cases hA : n = l.length
    · have hcnt : cntN 10 l = n := by rw [cntN_drop 10 l n hn10 hnl hpre, hA]; simp [cntN]; cases 10 - l.length <;> rfl
      have hR : rgetL b at_ = (0, 0, 2) := by rw [hg, if_pos (.inr (by omega))]
      have c1 : ¬ at_ + (n : Int) < b.length := by omega
      have c2 : (at_ + (n : Int) = b.length) = True := by simp; omega
      have c3 : decide ((n : Int) = 10) = true ∨ decide ((n : Int) = 10) = false := by cases decide ((n : Int) = 10) <;> simp
      rcases c3 with c3 | c3
      · simp (maxSteps := 10000000) (maxDischargeDepth := 30) only [e0, e1, e4, e5, ea, c1, c3, hbox, hlen, hlob, zBox, kst, hR, go_sem, Nat.reduceEqDiff, ↓reduceIte, Nat.reduceAdd, Nat.reduceMul, Nat.reduceLeDiff, Nat.reduceLT, reduceCtorEq, Int.reduceToNat, Int.reduceLE, Int.reduceLT, Int.reduceEq, Int.reduceNeg, Int.reduceNe, Int.reducePow, Nat.reducePow, Nat.reduceSub, IntKind.bits]
      · simp (maxSteps := 10000000) (maxDischargeDepth := 30) only [e0, e1, e4, e5, ea, c1, c2, c3, hbox, hlen, hlob, zBox, kst, hR, go_sem, Nat.reduceEqDiff, ↓reduceIte, Nat.reduceAdd, Nat.reduceMul, Nat.reduceLeDiff, Nat.reduceLT, reduceCtorEq, Int.reduceToNat, Int.reduceLE, Int.reduceLT, Int.reduceEq, Int.reduceNeg, Int.reduceNe, Int.reducePow, Nat.reducePow, Nat.reduceSub, IntKind.bits]
    · obtain ⟨c, hn⟩ : ∃ c, l[n]? = some c := ⟨l[n], List.getElem?_eq_getElem (by omega)⟩
      have hcb := hcl c (List.mem_of_getElem? hn)
      have ia := byt_at2 (b := b) (by omega) hdl hn
      have c1 : at_ + (n : Int) < b.length := by omega
      have hd : l.drop n = c :: l.drop (n + 1) := by
        obtain ⟨hlt', rfl⟩ := List.getElem?_eq_some_iff.1 hn
        exact List.drop_eq_getElem_cons hlt'
      have hcn := cntN_drop 10 l n hn10 hnl hpre
      rw [hd] at hcn
      by_cases h10 : n = 10
      · have hcnt : cntN 10 l = n := by rw [hcn, h10]; rfl
        have hR : rgetL b at_ = (0, 0, 2) := by rw [hg, if_pos (.inl (by omega))]
        have c3 : decide ((n : Int) = 10) = true := by simp; omega
        have c4 : ¬ (n : Int) < 10 := by omega
        by_cases hB : 127 < c
        · simp (maxSteps := 10000000) (maxDischargeDepth := 30) only [e0, e1, e4, e5, ea, c1, c3, c4, ia, hB, hbox, hlen, hlob, zBox, kst, hR, go_sem, Nat.reduceEqDiff, ↓reduceIte, Nat.reduceAdd, Nat.reduceMul, Nat.reduceLeDiff, Nat.reduceLT, reduceCtorEq, Int.reduceToNat, Int.reduceLE, Int.reduceLT, Int.reduceEq, Int.reduceNeg, Int.reduceNe, Int.reducePow, Nat.reducePow, Nat.reduceSub, IntKind.bits]
        · simp (maxSteps := 10000000) (maxDischargeDepth := 30) only [e0, e1, e4, e5, ea, c1, c3, c4, ia, hB, hbox, hlen, hlob, zBox, kst, hR, go_sem, Nat.reduceEqDiff, ↓reduceIte, Nat.reduceAdd, Nat.reduceMul, Nat.reduceLeDiff, Nat.reduceLT, reduceCtorEq, Int.reduceToNat, Int.reduceLE, Int.reduceLT, Int.reduceEq, Int.reduceNeg, Int.reduceNe, Int.reducePow, Nat.reducePow, Nat.reduceSub, IntKind.bits]
      have c4 : (n : Int) < 10 := by omega
      by_cases hB : 127 < c
      · simp (maxSteps := 10000000) (maxDischargeDepth := 30) only [e0, e1, e4, e5, ea, c1, c4, ia, hB, en, go_sem, Nat.reduceEqDiff, ↓reduceIte, Nat.reduceAdd, Nat.reduceMul, Nat.reduceLeDiff, Nat.reduceLT, reduceCtorEq, Int.reduceToNat, Int.reduceLE, Int.reduceLT, Int.reduceEq, Int.reduceNeg, Int.reduceNe, Int.reducePow, Nat.reducePow, Nat.reduceSub, IntKind.bits]
        refine ⟨n + 1, by omega, ?_⟩
        unfold R1 RI
        simp (maxSteps := 10000000) (maxDischargeDepth := 30) only [e0, e1, e4, e5, k1, w1, go_sem, Nat.reduceEqDiff, ↓reduceIte, Nat.reduceAdd, Nat.reduceMul, Nat.reduceLeDiff, Nat.reduceLT, reduceCtorEq, Int.reduceToNat, Int.reduceLE, Int.reduceLT, Int.reduceEq, Int.reduceNeg, Int.reduceNe, Int.reducePow, Nat.reducePow, Nat.reduceSub, IntKind.bits]
        refine ⟨by omega, by omega, fun k hk d hkd => ?_⟩
        rcases Nat.lt_or_ge k n with h3 | h3
        · exact hpre k h3 d hkd
        · obtain rfl : k = n := by omega
          rw [hn] at hkd; cases hkd; exact hB
      · have hcnt : cntN 10 l = n := by
          rw [hcn]
          obtain ⟨f, hf⟩ : ∃ f, 10 - n = f + 1 := ⟨9 - n, by omega⟩
          rw [hf]; simp only [cntN, if_neg hB]; rfl
        rw [hcnt, if_neg (by omega)] at hg
        have c3 : decide ((n : Int) = 10) = false := by simp; omega
        have c5 : decide (at_ + (n : Int) = b.length) = false := by simp; omega
        simp (maxSteps := 10000000) (maxDischargeDepth := 30) only [e0, e1, e4, e5, ea, c1, c3, c4, c5, ia, hB, go_sem, Nat.reduceEqDiff, ↓reduceIte, Nat.reduceAdd, Nat.reduceMul, Nat.reduceLeDiff, Nat.reduceLT, reduceCtorEq, Int.reduceToNat, Int.reduceLE, Int.reduceLT, Int.reduceEq, Int.reduceNeg, Int.reduceNe, Int.reducePow, Nat.reducePow, Nat.reduceSub, IntKind.bits]
        -- the second loop
        refine ru_loop (fun j => j) (R2 b l o at_ h n) (n + 1) ?_ ?_
        · unfold R2 RI
          have e7 : ((n + 1 : Nat) : Int) - 1 = n := by omega
          have e8 : (l.take (n + 1)).drop (n + 1) = [] := by simp
          simp (maxSteps := 10000000) (maxDischargeDepth := 30) only [e0, e1, e4, e5, e7, e8, k1, w1, valD, go_sem, Nat.reduceEqDiff, ↓reduceIte, Nat.reduceAdd, Nat.reduceMul, Nat.reduceLeDiff, Nat.reduceLT, reduceCtorEq, Int.reduceToNat, Int.reduceLE, Int.reduceLT, Int.reduceEq, Int.reduceNeg, Int.reduceNe, Int.reducePow, Nat.reducePow, Nat.reduceSub, IntKind.bits]
          rfl
        · rintro j s2 hh2 ⟨⟨f0, f1, f4, k2, w2⟩, f5, hj, f7, f6⟩
          by_cases hj0 : j = 0
          · subst hj0
            rw [List.drop_zero] at f6
            have f7' : s2 7 = .int .i64 (-1) := by rw [f7]; rfl
            have hu : valD (l.take (n + 1)) % 18446744073709551616 < 18446744073709551616 := Nat.mod_lt _ (by decide)
            generalize hu0 : valD (l.take (n + 1)) % 18446744073709551616 = u at *
            have eU := cRUnfold (u : Int) (by omega) (by omega)
            have hur := unfold_range (u := (u : Int)) (by omega) (by omega)
            have eC := cChain (unfoldN (u : Int)) hur.1 hur.2
            rw [fold_unfold (by omega), Int.toNat_natCast] at eC
            have hbox2 : ∀ hx, Keep hh2 hx → hx.get h.len = some ⟨false, zBox⟩ := fun hx kx => by rw [(k2.trans kx).get (by simp)]; simp
            have hlen2 : ∀ hx, Keep hh2 hx → h.len < hx.len := fun hx kx => by have := (k2.trans kx).len; simp at this; omega
            have hlob2 : ∀ hx, Keep hh2 hx → hx.lob ≤ h.len := fun hx kx => by rw [(k2.trans kx).lob]; exact hlo
            have kst2 : ∀ B hx, Keep hh2 hx → Keep h (hx.put h.len B) := fun B hx kx => (((Keep.refl h).alloc zBox).trans (k2.trans kx)).put (Nat.le_refl _) B
            have en1 : IntKind.i64.wrap ((n : Int) + 1) = (n : Int) + 1 := wrap64 (by omega) (by omega)
            by_cases hne : (chainU u).length = n + 1
            · have c7 : (((chainU u).length : Int) = (n : Int) + 1) = True := by simp; omega
              have c8 : ¬ (0 : Int) ≤ -1 := by omega
              simp (maxSteps := 10000000) (maxDischargeDepth := 30) only [f0, f1, f4, f5, f6, f7', c8, eU, eC, w2, en1, c7, go_sem, Nat.reduceEqDiff, ↓reduceIte, Nat.reduceAdd, Nat.reduceMul, Nat.reduceLeDiff, Nat.reduceLT, reduceCtorEq, Int.reduceToNat, Int.reduceLE, Int.reduceLT, Int.reduceEq, Int.reduceNeg, Int.reduceNe, Int.reducePow, Nat.reducePow, Nat.reduceSub, IntKind.bits]
              generalize htk : tk Try.prog TA 82 [.int .i64 (unfoldN (u : Int))] (hp Try.prog TA 128 [.int .u64 (u : Int)] hh2) = o8
              refine ru_loop (fun j => n + 1 - j) (R3 b l (chainU u) o o8 at_ h n u) 0 ?_ ?_
              · unfold R3 RI
                simp (maxSteps := 10000000) (maxDischargeDepth := 30) only [f0, f1, f4, f5, f6, k2, w2, Int.natCast_zero, go_sem, Nat.reduceEqDiff, ↓reduceIte, Nat.reduceAdd, Nat.reduceMul, Nat.reduceLeDiff, Nat.reduceLT, reduceCtorEq, Int.reduceToNat, Int.reduceLE, Int.reduceLT, Int.reduceEq, Int.reduceNeg, Int.reduceNe, Int.reducePow, Nat.reducePow, Nat.reduceSub, IntKind.bits]
                exact fun k hk => absurd hk (by omega)
              · rintro j s3 hh3 ⟨⟨g0, g1, g4, k3, w3⟩, g5, g6, g8, g9, hjn, hpr⟩
                have hbox3 : hh3.get h.len = some ⟨false, zBox⟩ := by rw [k3.get (by simp)]; simp
                have hlen3 : h.len < hh3.len := by have := k3.len; simp at this; omega
                have hlob3 : hh3.lob ≤ h.len := by rw [k3.lob]; exact hlo
                have kst3 : ∀ B hx, Keep hh3 hx → Keep h (hx.put h.len B) := fun B hx kx => (((Keep.refl h).alloc zBox).trans (k3.trans kx)).put (Nat.le_refl _) B
                have ej : IntKind.i64.wrap ((j : Int) + 1) = ((j + 1 : Nat) : Int) := by rw [wrap64 (by omega) (by omega)]; omega
                by_cases hjl : j ≤ n
                · have c9 : (j : Int) ≤ n := by omega
                  obtain ⟨x, hx⟩ : ∃ x, (chainU u)[j]? = some x := ⟨(chainU u)[j], List.getElem?_eq_getElem (by omega)⟩
                  obtain ⟨y, hy⟩ : ∃ y, l[j]? = some y := ⟨l[j], List.getElem?_eq_getElem (by omega)⟩
                  have ix := byt_at hx
                  have iy := byt_at2 (b := b) (by omega) hdl hy
                  have ea3 : IntKind.i64.wrap (at_ + (j : Int)) = at_ + j := wrap64 (by omega) (by omega)
                  by_cases hxy : x = y
                  · subst hxy
                    simp (maxSteps := 10000000) (maxDischargeDepth := 30) only [g0, g1, g4, g5, g6, g8, g9, c9, ix, iy, ea3, ej, go_sem, Nat.reduceEqDiff, ↓reduceIte, Nat.reduceAdd, Nat.reduceMul, Nat.reduceLeDiff, Nat.reduceLT, reduceCtorEq, Int.reduceToNat, Int.reduceLE, Int.reduceLT, Int.reduceEq, Int.reduceNeg, Int.reduceNe, Int.reducePow, Nat.reducePow, Nat.reduceSub, IntKind.bits]
                    refine ⟨j + 1, by omega, ?_⟩
                    unfold R3 RI
                    simp (maxSteps := 10000000) (maxDischargeDepth := 30) only [g0, g1, g4, g5, g6, g8, g9, k3, w3, go_sem, Nat.reduceEqDiff, ↓reduceIte, Nat.reduceAdd, Nat.reduceMul, Nat.reduceLeDiff, Nat.reduceLT, reduceCtorEq, Int.reduceToNat, Int.reduceLE, Int.reduceLT, Int.reduceEq, Int.reduceNeg, Int.reduceNe, Int.reducePow, Nat.reducePow, Nat.reduceSub, IntKind.bits]
                    refine ⟨by omega, fun k hk => ?_⟩
                    rcases Nat.lt_or_ge k j with h3 | h3
                    · exact hpr k h3
                    · obtain rfl : k = j := by omega
                      rw [hx, hy]
                  · have hR : rgetL b at_ = (0, 0, 2) := by
                      rw [hg, if_neg]
                      intro he
                      have := congrArg (·[j]?) he
                      simp only [List.getElem?_take, if_pos (show j < n + 1 by omega)] at this
                      rw [hx, hy] at this
                      exact hxy (Option.some.inj this)
                    have hxy' : decide (x = y) = false := by simp [hxy]
                    simp (maxSteps := 10000000) (maxDischargeDepth := 30) only [g0, g1, g4, g5, g6, g8, g9, c9, ix, iy, ea3, hxy', hbox3, hlen3, hlob3, kst3, zBox, hR, go_sem, Nat.reduceEqDiff, ↓reduceIte, Nat.reduceAdd, Nat.reduceMul, Nat.reduceLeDiff, Nat.reduceLT, reduceCtorEq, Int.reduceToNat, Int.reduceLE, Int.reduceLT, Int.reduceEq, Int.reduceNeg, Int.reduceNe, Int.reducePow, Nat.reducePow, Nat.reduceSub, IntKind.bits]
                · obtain rfl : j = n + 1 := by omega
                  have c9 : ¬ ((n + 1 : Nat) : Int) ≤ n := by omega
                  have hall : chainU u = l.take (n + 1) := by
                    refine List.ext_getElem? fun k => ?_
                    rw [List.getElem?_take]
                    split
                    · exact hpr k (by omega)
                    · exact List.getElem?_eq_none (by omega)
                  have hR1 : (rgetL b at_).1 = unfoldN u := by rw [hg, if_pos hall]
                  have hR2 : (rgetL b at_).2.1 = at_ + n + 1 := by rw [hg, if_pos hall]
                  have hR3 : (rgetL b at_).2.2 = 0 := by rw [hg, if_pos hall]
                  rw [hR1, hR2, hR3]
                  have en2 : IntKind.i64.wrap (at_ + (n : Int)) = at_ + n := wrap64 (by omega) (by omega)
                  have en3 : IntKind.i64.wrap (at_ + (n : Int) + 1) = at_ + n + 1 := wrap64 (by omega) (by omega)
                  have kh := (Keep.refl hh3).hp (P := Try.prog) (T := TA) 128 [.int .u64 (u : Int)]
                  have hbox4 := (kh.get (b := h.len) (by omega)).trans hbox3
                  have hlen4 : h.len < (hp Try.prog TA 128 [.int .u64 (u : Int)] hh3).len := by have := kh.len; omega
                  have kst4 := fun B => kst3 B _ kh
                  simp (maxSteps := 10000000) (maxDischargeDepth := 30) only [g0, g1, g4, g5, g6, g8, g9, c9, eU, w3, en2, en3, hbox3, hlen3, hlen4, hlob3, kst4, zBox, go_sem, Nat.reduceEqDiff, ↓reduceIte, Nat.reduceAdd, Nat.reduceMul, Nat.reduceLeDiff, Nat.reduceLT, reduceCtorEq, Int.reduceToNat, Int.reduceLE, Int.reduceLT, Int.reduceEq, Int.reduceNeg, Int.reduceNe, Int.reducePow, Nat.reducePow, Nat.reduceSub, IntKind.bits]
            · have hR : rgetL b at_ = (0, 0, 2) := by
                rw [hg, if_neg]
                intro he
                have := congrArg List.length he
                rw [List.length_take] at this
                omega
              have c7 : (((chainU u).length : Int) = (n : Int) + 1) = False := by simp; omega
              have c8 : ¬ (0 : Int) ≤ -1 := by omega
              have kh : Keep hh2 (hp Try.prog TA 82 [.int .i64 (unfoldN (u : Int))] (hp Try.prog TA 128 [.int .u64 (u : Int)] hh2)) := ((Keep.refl hh2).hp _ _).hp _ _
              have hb4 := hbox2 _ kh
              have hl4 := hlen2 _ kh
              have ho4 := hlob2 _ kh
              have hk4 := fun B => kst2 B _ kh
              have ho5 : hh2.lob ≤ h.len := hlob2 _ (.refl _)
              simp (maxSteps := 10000000) (maxDischargeDepth := 30) only [f0, f1, f4, f5, f6, f7', c8, eU, eC, w2, en1, c7, hb4, hl4, ho4, ho5, hk4, zBox, hR, go_sem, Nat.reduceEqDiff, ↓reduceIte, Nat.reduceAdd, Nat.reduceMul, Nat.reduceLeDiff, Nat.reduceLT, reduceCtorEq, Int.reduceToNat, Int.reduceLE, Int.reduceLT, Int.reduceEq, Int.reduceNeg, Int.reduceNe, Int.reducePow, Nat.reducePow, Nat.reduceSub, IntKind.bits]
          · obtain ⟨i, rfl⟩ : ∃ i, j = i + 1 := ⟨j - 1, by omega⟩
            have ei : ((i + 1 : Nat) : Int) - 1 = i := by omega
            rw [ei] at f7
            obtain ⟨d, hdi⟩ : ∃ d, l[i]? = some d := ⟨l[i], List.getElem?_eq_getElem (by omega)⟩
            have hdb := hcl d (List.mem_of_getElem? hdi)
            have ia2 := byt_at2 (b := b) (by omega) hdl hdi
            have ea2 : IntKind.i64.wrap (at_ + (i : Int)) = at_ + i := wrap64 (by omega) (by omega)
            have c6 : (0 : Int) ≤ (i : Int) := by omega
            have em1 : IntKind.i64.wrap ((i : Int) - 1) = (i : Int) - 1 := wrap64 (by omega) (by omega)
            have hdd : (l.take (n + 1)).drop i = d :: (l.take (n + 1)).drop (i + 1) := by
              have : (l.take (n + 1))[i]? = some d := by rw [List.getElem?_take, if_pos (by omega)]; exact hdi
              obtain ⟨hlt', rfl⟩ := List.getElem?_eq_some_iff.1 this
              exact List.drop_eq_getElem_cons hlt'
            have em : d.tmod 128 = d % 128 := Int.tmod_eq_emod_of_nonneg hdb.1
            have ew1 : IntKind.u8.wrap (d % 128) = d % 128 := by rw [wrapU8]; omega
            have ew2 : IntKind.u64.wrap (d % 128) = d % 128 := wrapU64 (by omega) (by omega)
            have ex1 : IntKind.u64.wrap (((valD ((l.take (n + 1)).drop (i + 1)) % 18446744073709551616 : Nat) : Int) * 128) = ((valD ((l.take (n + 1)).drop (i + 1)) % 18446744073709551616 * 128 % 18446744073709551616 : Nat) : Int) := by
              rw [wrapU64M]; omega
            have ex2 : IntKind.u64.wrap (((valD ((l.take (n + 1)).drop (i + 1)) % 18446744073709551616 * 128 % 18446744073709551616 : Nat) : Int) + d % 128) = ((valD ((l.take (n + 1)).drop i) % 18446744073709551616 : Nat) : Int) := by
              rw [wrapU64M, hdd]
              simp only [valD]
              rw [← valD_step (d := (d % 128).toNat)]; omega
            simp (maxSteps := 10000000) (maxDischargeDepth := 30) only [f0, f1, f4, f5, f6, f7, c6, ea2, ia2, em, ew1, ew2, ex1, ex2, em1, go_sem, Nat.reduceEqDiff, ↓reduceIte, Nat.reduceAdd, Nat.reduceMul, Nat.reduceLeDiff, Nat.reduceLT, reduceCtorEq, Int.reduceToNat, Int.reduceLE, Int.reduceLT, Int.reduceEq, Int.reduceNeg, Int.reduceNe, Int.reducePow, Nat.reducePow, Nat.reduceSub, IntKind.bits]
            refine ⟨i, by omega, ?_⟩
            unfold R2 RI
            simp (maxSteps := 10000000) (maxDischargeDepth := 30) only [f0, f1, f4, f5, f6, f7, k2, w2, go_sem, Nat.reduceEqDiff, ↓reduceIte, Nat.reduceAdd, Nat.reduceMul, Nat.reduceLeDiff, Nat.reduceLT, reduceCtorEq, Int.reduceToNat, Int.reduceLE, Int.reduceLT, Int.reduceEq, Int.reduceNeg, Int.reduceNe, Int.reducePow, Nat.reducePow, Nat.reduceSub, IntKind.bits]
            omega
end Go.LM
