import Derived.Test.YtmanbekgnooocaaLmaChainGets
namespace Go.LM
open Go.Proofs
set_option maxRecDepth 4000
set_option maxHeartbeats 2000000
set_option linter.unusedSimpArgs false

theorem lChainBack (n : Int) (o o2 : Option (Nat × Nat)) (a b : List Int) (h1 : -9223372036854775808 ≤ n) (h2 : n < 9223372036854775808) (hca : ∀ c ∈ a, 0 ≤ c ∧ c < 256) (hcb : ∀ c ∈ b, 0 ≤ c ∧ c < 256) :
    ∃ h', runI Try.prog TA 8 [.int .i64 n, byts o a, byts o2 b] H0 = some (.bool true, h') := by
  refine true_of rfl res8 rfl ?_
  by_cases hla : (100 : Int) < a.length
  · simp (maxSteps := 10000000) (maxDischargeDepth := 30) only [q8, r8, hla, awAwake05, go_sem, Nat.reduceEqDiff, ↓reduceIte, Nat.reduceAdd, Nat.reduceMul, Nat.reduceLeDiff, Nat.reduceLT, reduceCtorEq, Int.reduceToNat, Int.reduceLE, Int.reduceLT, Int.reduceEq, Int.reduceNeg, Int.reduceNe, Int.reducePow, Nat.reducePow, Nat.reduceSub, IntKind.bits]
  by_cases hlb : (100 : Int) < b.length
  · simp (maxSteps := 10000000) (maxDischargeDepth := 30) only [q8, r8, hla, hlb, awAwake05, go_sem, Nat.reduceEqDiff, ↓reduceIte, Nat.reduceAdd, Nat.reduceMul, Nat.reduceLeDiff, Nat.reduceLT, reduceCtorEq, Int.reduceToNat, Int.reduceLE, Int.reduceLT, Int.reduceEq, Int.reduceNeg, Int.reduceNe, Int.reducePow, Nat.reducePow, Nat.reduceSub, IntKind.bits]
  have hf := fold_range h1 h2
  have hfn : ((foldN n).toNat : Int) = foldN n := Int.toNat_of_nonneg hf.1
  have hcl := chainU_len10 (u := (foldN n).toNat) (by omega)
  have e33 := (cPut o a n (by omega) h1 h2 H0 wf0).1
  have e28 := cFold n h1 h2
  have e30 := cUnfold (foldN n) hf.1 hf.2
  rw [unfold_fold] at e30
  -- what is read again
  have hcc := chainU_bytes (foldN n).toNat
  have hca2 : ∀ c ∈ (a ++ chainU (foldN n).toNat) ++ b, 0 ≤ c ∧ c < 256 := by
    intro c hc
    simp only [List.mem_append] at hc
    rcases hc with (hc | hc) | hc
    · exact hca c hc
    · exact hcc c hc
    · exact hcb c hc
  have e36 := fun o h w => cGet o ((a ++ chainU (foldN n).toNat) ++ b) (a.length : Int) (by simp; omega) hca2 (by omega) (by omega) h w
  have hg : getL ((a ++ chainU (foldN n).toNat) ++ b) (a.length : Int) = (n, (a.length : Int) + (chainU (foldN n).toNat).length, 0) := by
    unfold getL
    rw [if_neg (by simp; omega)]
    have hd : ((a ++ chainU (foldN n).toNat) ++ b).drop ((a.length : Int)).toNat = chainU (foldN n).toNat ++ b := by
      rw [Int.toNat_natCast, List.append_assoc, List.drop_left]
    rw [hd, scan_chain _ 0 0 b (.inl rfl) (by omega)]
    simp only [Nat.zero_add, Nat.pow_zero, Nat.mul_one]
    rw [hfn, unfold_fold]
  simp only [hg] at e36
  have hlen : ((a ++ chainU (foldN n).toNat).length : Int) = (a.length : Int) + (chainU (foldN n).toNat).length := by simp
  -- the bytes, one behind the other
  generalize hA : a ++ chainU (foldN n).toNat = A at *
  generalize hh1 : hp Try.prog TA 33 [byts o a, .int .i64 n] H0 = g1 at *
  have w1 : WF g1 := by rw [← hh1]; exact wf_hp wf0
  have w2 : WF (g1.nrow 0) := wf_nrow w1
  have t2 : okTok (some (g1.rlen, 0)) 0 (g1.nrow 0) := ⟨by have := w1.2.2; omega, by simp; exact w1.2.1, by simp, by simp⟩
  have ap := append_mk (sz := 1) (by_ := 1) (xs := []) (ys := A.map (LV.int .u8)) t2 (by simp; omega)
  have t3 := okTok_ap (m := (A.map (LV.int .u8)).length) w2 t2
  have w3 : WF (apH (some (g1.rlen, 0)) (A.map (LV.int .u8)).length (g1.nrow 0)) := wf_ap w2
  generalize hh3 : apH (some (g1.rlen, 0)) (A.map (LV.int .u8)).length (g1.nrow 0) = g3 at *
  generalize ho3 : apO (some (g1.rlen, 0)) (A.map (LV.int .u8)).length (g1.nrow 0) = o3 at *
  have ap2 := append_mk (sz := 1) (by_ := 1) (xs := A.map (LV.int .u8)) (ys := b.map (LV.int .u8)) (o := o3) (h := g3) (by simpa using t3) (by simp; omega)
  rw [← List.map_append] at ap2
  generalize hh4 : apH o3 (b.map (LV.int .u8)).length g3 = g4 at *
  generalize ho4 : apO o3 (b.map (LV.int .u8)).length g3 = o4 at *
  have w4 : WF g4 := by rw [← hh4]; exact wf_ap w3
  try simp only [List.length_map] at ap ap2
  have e36b := fun h w => cGet o2 b 0 (by omega) hcb (by omega) (by omega) h w
  have hn : ((0 : Int) < 0) = False := by simp
  have hk : getL b 0 = match scan b 0 0 with
    | none => (0, 0, 2)
    | some (u, k) => (unfoldN u, (0 : Int) + k, 0) := by unfold getL; rw [if_neg (by omega)]; rfl
  cases hs : scan b 0 0 with
  | none =>
    rw [hs] at hk
    dsimp only at hk
    simp only [hk] at e36b
    simp (maxSteps := 10000000) (maxDischargeDepth := 30) only [q8, r8, hla, hlb, e33, ap, ap2, List.nil_append, e36, e36b, e28, e30, hlen, w4, awAwake05, go_sem, Nat.reduceEqDiff, ↓reduceIte, Nat.reduceAdd, Nat.reduceMul, Nat.reduceLeDiff, Nat.reduceLT, reduceCtorEq, Int.reduceToNat, Int.reduceLE, Int.reduceLT, Int.reduceEq, Int.reduceNeg, Int.reduceNe, Int.reducePow, Nat.reducePow, Nat.reduceSub, IntKind.bits]
  | some p =>
    obtain ⟨u, k⟩ := p
    rw [hs] at hk
    dsimp only at hk
    obtain ⟨v, g1', _, g3', g4', rest, g5'⟩ := scan_inv b 0 0 u k (by omega) hcb hs
    obtain rfl : u = v := by omega
    have hkl : k = (chainU u).length := by omega
    have hbl : b.length = (chainU u).length + rest.length := by rw [g5']; simp
    have hur := unfold_range (u := (u : Int)) (by omega) (by omega)
    have e33b := fun h w => (cPut none [] (unfoldN (u : Int)) (by simp) hur.1 hur.2 h w).1
    simp only [List.nil_append] at e33b
    rw [← byts_nil, fold_unfold (by omega), Int.toNat_natCast] at e33b
    rw [Int.zero_add] at hk
    simp only [hk] at e36b
    have hbd : boundL (some (.int .i64 (k : Int))) b.length b.length = some k := by rw [bound_some, if_pos (by omega)]; rfl
    have hsl : ∀ h, slM o2 1 (b.map (LV.int .u8)) h none (some k) = some (byts (tkS o2 (b.map (LV.int .u8)) 0 k) (chainU u), h) := by
      intro h
      rw [slM_some (l := 0) rfl]
      simp only [List.drop_zero, ← List.map_take]
      rw [hkl]
      have : b.take (chainU u).length = chainU u := by rw [g5']; simp
      rw [this]
    have ckl : ((k : Int) ≤ (b.length : Int)) = True := by simp; omega
    have e32 := fun (o o2 : Option (Nat × Nat)) (h : H) w => cSame o o2 (chainU u) (by have := chainU_len10 (u := u) (by omega); omega) h w
    have hkn : (k : Int).toNat = k := by simp
    have hc0 : (0 : Int) ≤ k := by omega
    simp (maxSteps := 10000000) (maxDischargeDepth := 30) only [q8, r8, hla, hlb, e33, ap, ap2, List.nil_append, e36, e36b, e28, e30, hlen, w4, ckl, e33b, hbd, hkn, hc0, hsl, e32, awAwake05, go_sem, Nat.reduceEqDiff, ↓reduceIte, Nat.reduceAdd, Nat.reduceMul, Nat.reduceLeDiff, Nat.reduceLT, reduceCtorEq, Int.reduceToNat, Int.reduceLE, Int.reduceLT, Int.reduceEq, Int.reduceNeg, Int.reduceNe, Int.reducePow, Nat.reducePow, Nat.reduceSub, IntKind.bits]
end Go.LM
