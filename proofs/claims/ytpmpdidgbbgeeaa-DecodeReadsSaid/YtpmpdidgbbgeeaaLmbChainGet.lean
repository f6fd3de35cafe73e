import Derived.Test.YtpmpdidgbbgeeaaLmTrbR3
import Derived.Test.YtpmpdidgbbgeeaaLmbChain
import Derived.Test.YtpmpdidgbbgeeaaLmB8
namespace Go.LM
open Go.Proofs
set_option maxRecDepth 4000
set_option maxHeartbeats 2000000
set_option linter.unusedSimpArgs false


def IGet (l : List Int) (at_ : Int) (h0 : H) (i : Nat) (s : S) (h : H) : Prop :=
  s 1 = .int .i64 at_ ∧ s 8 = .int .i64 0 ∧ s 22 = .int .i64 l.length ∧ s 23 = .int .i64 i ∧ i ≤ l.length ∧ i ≤ 9 ∧ Keep h0 h ∧ WF h ∧
    ∃ o u, s 21 = byts o l ∧ s 7 = .int .u64 (u : Nat) ∧ u < 128 ^ i ∧ scan l 0 0 = scan (l.drop i) i u
theorem shl_eq {c : Int} {i : Nat} (hi : i ≤ 9) (h0 : 0 ≤ c) (hb : c.toNat * 128 ^ i < 18446744073709551616) :
    shlI .u64 c (7 * (i : Int)) = ((c.toNat * 2 ^ (7 * i) : Nat) : Int) := by
  show IntKind.u64.wrap (c * 2 ^ min ((7 * (i : Int)).toNat) 64) = _
  have e : min ((7 * (i : Int)).toNat) 64 = 7 * i := by omega
  have e2 : (128 : Nat) ^ i = 2 ^ (7 * i) := by rw [show (128 : Nat) = 2 ^ 7 by decide, ← Nat.pow_mul]
  rw [e]
  rw [e2] at hb
  have e3 : c * 2 ^ (7 * i) = ((c.toNat * 2 ^ (7 * i) : Nat) : Int) := by
    rw [Int.natCast_mul, Int.toNat_of_nonneg h0]; simp
  rw [e3, wrapU64 (by omega) (by omega)]
theorem or_eq {c : Int} {i u : Nat} (hu : u < 128 ^ i) (hb : u + c.toNat * 128 ^ i < 18446744073709551616) :
    orI .u64 (u : Int) ((c.toNat * 2 ^ (7 * i) : Nat) : Int) = ((u + c.toNat * 128 ^ i : Nat) : Int) := by
  have e2 : (128 : Nat) ^ i = 2 ^ (7 * i) := by rw [show (128 : Nat) = 2 ^ 7 by decide, ← Nat.pow_mul]
  rw [e2] at hu hb ⊢
  exact or_u64 (7 * i) hu hb
theorem cGet (o : Option (Nat × Nat)) (b : List Int) (at_ : Int) (hl : b.length ≤ 1000000000000) (hc : ∀ c ∈ b, 0 ≤ c ∧ c < 256) (h1 : -9223372036854775808 ≤ at_) (h2 : at_ < 9223372036854775808) (h : H) (w : WF h) :
    runI Try.prog TA 100 [byts o b, .int .i64 at_] h = some (.tup [.int .i64 (getL b at_).1, .int .i64 (getL b at_).2.1, .int .i64 (getL b at_).2.2], hp Try.prog TA 100 [byts o b, .int .i64 at_] h) := by
  refine pure_of rfl res100 rfl ?_
  by_cases n0 : at_ < 0
  · have e : getL b at_ = (0, 0, 1) := by unfold getL; rw [if_pos (.inl n0)]
    simp (maxSteps := 10000000) (maxDischargeDepth := 30) only [q100, r100, n0, e, go_sem, Nat.reduceEqDiff, ↓reduceIte, Nat.reduceAdd, Nat.reduceMul, Nat.reduceLeDiff, Nat.reduceLT, reduceCtorEq, Int.reduceToNat, Int.reduceLE, Int.reduceLT, Int.reduceEq, Int.reduceNeg, Int.reduceNe, Int.reducePow, Nat.reducePow, Nat.reduceSub, IntKind.bits]
  by_cases n1 : (b.length : Int) < at_
  · have e : getL b at_ = (0, 0, 1) := by unfold getL; rw [if_pos (.inr n1)]
    simp (maxSteps := 10000000) (maxDischargeDepth := 30) only [q100, r100, n0, n1, e, go_sem, Nat.reduceEqDiff, ↓reduceIte, Nat.reduceAdd, Nat.reduceMul, Nat.reduceLeDiff, Nat.reduceLT, reduceCtorEq, Int.reduceToNat, Int.reduceLE, Int.reduceLT, Int.reduceEq, Int.reduceNeg, Int.reduceNe, Int.reducePow, Nat.reducePow, Nat.reduceSub, IntKind.bits]
  have hat : 0 ≤ at_ ∧ at_ ≤ (b.length : Int) := by omega
  have hbd : boundL (some (.int .i64 at_)) 0 b.length = some at_.toNat := by rw [bound_some, if_pos hat]
  have hsl := slM_some (o := o) (sz := 1) (xs := b.map (LV.int .u8)) (h := h) (q := b.length) hbd
  have hxs : ((b.map (LV.int .u8)).take b.length).drop at_.toNat = (b.drop at_.toNat).map (LV.int .u8) := by
    rw [List.take_of_length_le (by simp), List.map_drop]
  rw [hxs] at hsl
  have hcl : ∀ c ∈ b.drop at_.toNat, 0 ≤ c ∧ c < 256 := fun c hm => hc c (List.mem_of_mem_drop hm)
  have hll : (b.drop at_.toNat).length ≤ 1000000000000 := by simp; omega
  have hg : getL b at_ = match scan (b.drop at_.toNat) 0 0 with
    | none => (0, 0, 2)
    | some (u, k) => (unfoldN u, at_ + k, 0) := by unfold getL; rw [if_neg (by omega)]; rfl
  have hatl : at_ + (b.drop at_.toNat).length = b.length := by simp; omega
  simp (maxSteps := 10000000) (maxDischargeDepth := 30) only [q100, r100, n0, n1, bound_none, hsl, go_sem, Nat.reduceEqDiff, ↓reduceIte, Nat.reduceAdd, Nat.reduceMul, Nat.reduceLeDiff, Nat.reduceLT, reduceCtorEq, Int.reduceToNat, Int.reduceLE, Int.reduceLT, Int.reduceEq, Int.reduceNeg, Int.reduceNe, Int.reducePow, Nat.reducePow, Nat.reduceSub, IntKind.bits]
  generalize b.drop at_.toNat = l at *
  generalize tkS o (b.map (LV.int .u8)) at_.toNat b.length = o1 at *
  refine ru_loop (fun i => l.length - i) (IGet l at_ h) 0 ?_ ?_
  · unfold IGet
    simp (maxSteps := 10000000) (maxDischargeDepth := 30) only [w, Int.natCast_zero, go_sem, Nat.reduceEqDiff, ↓reduceIte, Nat.reduceAdd, Nat.reduceMul, Nat.reduceLeDiff, Nat.reduceLT, reduceCtorEq, Int.reduceToNat, Int.reduceLE, Int.reduceLT, Int.reduceEq, Int.reduceNeg, Int.reduceNe, Int.reducePow, Nat.reducePow, Nat.reduceSub, IntKind.bits]
    exact ⟨o1, 0, rfl, rfl, by simp, rfl⟩
  · rintro i s hh ⟨e1, e8, e22, e23, hi, hi9, k1, w1, o2, u, e21, e7, hu, hsc⟩
    by_cases hlt : i < l.length
    · obtain ⟨c, hn⟩ : ∃ c, l[i]? = some c := ⟨l[i], List.getElem?_eq_getElem hlt⟩
      have hcb := hcl c (List.mem_of_getElem? hn)
      have ea := byt_at hn
      have c1 : (i : Int) < l.length := by omega
      have ew : IntKind.i64.wrap ((i : Int) + 1) = ((i + 1 : Nat) : Int) := by rw [wrap64 (by omega) (by omega)]; omega
      have hd : l.drop i = c :: l.drop (i + 1) := by
        obtain ⟨hlt', rfl⟩ := List.getElem?_eq_some_iff.1 hn
        exact List.drop_eq_getElem_cons hlt'
      rw [hd] at hsc
      simp only [scan] at hsc
      have e70 : (7 * (i : Int) < 0) = False := by simp; omega
      have e7i : IntKind.i64.wrap (7 * (i : Int)) = 7 * (i : Int) := wrap64 (by omega) (by omega)
      by_cases hA : i = 9 ∧ 1 < c
      · rw [if_pos hA] at hsc
        rw [hsc] at hg
        have ei : decide ((i : Int) = 9) = true := by simp; omega
        have hA2 := hA.2
        simp (maxSteps := 10000000) (maxDischargeDepth := 30) only [e1, e7, e8, e21, e22, e23, ea, c1, ew, ei, hA2, hg, k1, go_sem, Nat.reduceEqDiff, ↓reduceIte, Nat.reduceAdd, Nat.reduceMul, Nat.reduceLeDiff, Nat.reduceLT, reduceCtorEq, Int.reduceToNat, Int.reduceLE, Int.reduceLT, Int.reduceEq, Int.reduceNeg, Int.reduceNe, Int.reducePow, Nat.reducePow, Nat.reduceSub, IntKind.bits]
      rw [if_neg hA] at hsc
      have ei : decide ((i : Int) = 9) = true ∨ decide ((i : Int) = 9) = false := by cases decide ((i : Int) = 9) <;> simp
      have hA2 : (i : Int) = 9 → ¬ 1 < c := fun h9 h => hA ⟨by omega, h⟩
      by_cases hB : 128 ≤ c
      · rw [if_pos hB] at hsc
        have hi8 : i ≤ 8 := by
          rcases Nat.lt_or_ge i 9 with h9 | h9
          · omega
          · exact absurd (show (1 : Int) < c by omega) (hA2 (by omega))
        have ei : decide ((i : Int) = 9) = false := by simp; omega
        have hb9 : (c % 128).toNat * 128 ^ i + 128 ^ i ≤ 9223372036854775808 := by
          have h3 : (128 : Nat) ^ i ≤ 128 ^ 8 := Nat.pow_le_pow_right (by decide) hi8
          have h4 : ((c % 128).toNat + 1) * 128 ^ i ≤ 128 * 128 ^ 8 := Nat.mul_le_mul (by omega) h3
          rw [Nat.add_mul, Nat.one_mul] at h4
          exact Nat.le_trans h4 (by decide)
        have a1 := andNot_u8 hcb.1 hcb.2
        have a2 : IntKind.u64.wrap (c % 128) = c % 128 := wrapU64 (by omega) (by omega)
        have a3 := shl_eq (c := c % 128) hi9 (by omega) (by omega)
        have a4 := or_eq (c := c % 128) hu (by omega)
        simp (maxSteps := 10000000) (maxDischargeDepth := 30) only [e1, e7, e8, e21, e22, e23, ea, c1, ew, ei, hB, a1, a2, e7i, e70, a3, a4, go_sem, Nat.reduceEqDiff, ↓reduceIte, Nat.reduceAdd, Nat.reduceMul, Nat.reduceLeDiff, Nat.reduceLT, reduceCtorEq, Int.reduceToNat, Int.reduceLE, Int.reduceLT, Int.reduceEq, Int.reduceNeg, Int.reduceNe, Int.reducePow, Nat.reducePow, Nat.reduceSub, IntKind.bits]
        refine ⟨i + 1, by omega, ?_⟩
        unfold IGet
        simp (maxSteps := 10000000) (maxDischargeDepth := 30) only [e1, e7, e8, e21, e22, e23, k1, w1, go_sem, Nat.reduceEqDiff, ↓reduceIte, Nat.reduceAdd, Nat.reduceMul, Nat.reduceLeDiff, Nat.reduceLT, reduceCtorEq, Int.reduceToNat, Int.reduceLE, Int.reduceLT, Int.reduceEq, Int.reduceNeg, Int.reduceNe, Int.reducePow, Nat.reducePow, Nat.reduceSub, IntKind.bits]
        refine ⟨by omega, by omega, o2, _, rfl, rfl, ?_, hsc⟩
        have h5 : (c % 128).toNat * 128 ^ i + 128 ^ i ≤ 128 * 128 ^ i := by
          rw [show (c % 128).toNat * 128 ^ i + 128 ^ i = ((c % 128).toNat + 1) * 128 ^ i by rw [Nat.add_mul, Nat.one_mul]]
          exact Nat.mul_le_mul_right _ (by omega)
        rw [Nat.pow_succ, Nat.mul_comm (128 ^ i)]
        omega
      · rw [if_neg hB] at hsc
        by_cases hC : c = 0 ∧ 0 < i
        · rw [if_pos hC] at hsc
          rw [hsc] at hg
          have hC1 := hC.1
          have hC2 : (0 : Int) < i := by omega
          by_cases hi9' : i = 9
          · have ei : decide ((i : Int) = 9) = true := by simp; omega
            have h1c : ¬ 1 < c := hA2 (by omega)
            simp (maxSteps := 10000000) (maxDischargeDepth := 30) only [e1, e7, e8, e21, e22, e23, ea, c1, ew, ei, hB, h1c, hC1, hC2, hg, k1, go_sem, Nat.reduceEqDiff, ↓reduceIte, Nat.reduceAdd, Nat.reduceMul, Nat.reduceLeDiff, Nat.reduceLT, reduceCtorEq, Int.reduceToNat, Int.reduceLE, Int.reduceLT, Int.reduceEq, Int.reduceNeg, Int.reduceNe, Int.reducePow, Nat.reducePow, Nat.reduceSub, IntKind.bits]
          · have ei : decide ((i : Int) = 9) = false := by simp; omega
            simp (maxSteps := 10000000) (maxDischargeDepth := 30) only [e1, e7, e8, e21, e22, e23, ea, c1, ew, ei, hB, hC1, hC2, hg, k1, go_sem, Nat.reduceEqDiff, ↓reduceIte, Nat.reduceAdd, Nat.reduceMul, Nat.reduceLeDiff, Nat.reduceLT, reduceCtorEq, Int.reduceToNat, Int.reduceLE, Int.reduceLT, Int.reduceEq, Int.reduceNeg, Int.reduceNe, Int.reducePow, Nat.reducePow, Nat.reduceSub, IntKind.bits]
        · rw [if_neg hC] at hsc
          rw [hsc] at hg
          have hu9 : u + c.toNat * 128 ^ i < 18446744073709551616 := by
            rcases Nat.lt_or_ge i 9 with h9 | h9
            · have h3 : (128 : Nat) ^ i ≤ 128 ^ 8 := Nat.pow_le_pow_right (by decide) (by omega)
              have h4 : (c.toNat + 1) * 128 ^ i ≤ 128 * 128 ^ 8 := Nat.mul_le_mul (by omega) h3
              rw [Nat.add_mul, Nat.one_mul] at h4
              have h5 : (128 : Nat) * 128 ^ 8 < 18446744073709551616 := by decide
              omega
            · obtain rfl : i = 9 := by omega
              have h1c : c.toNat ≤ 1 := by have := hA2 (by omega); omega
              have h3 : c.toNat * 128 ^ 9 ≤ 1 * 128 ^ 9 := Nat.mul_le_mul_right _ h1c
              have h5 : (128 : Nat) ^ 9 + 1 * 128 ^ 9 ≤ 18446744073709551616 := by decide
              omega
          have a2 : IntKind.u64.wrap c = c := wrapU64 (by omega) (by omega)
          have a3 := shl_eq (c := c) hi9 (by omega) (by omega)
          have a4 := or_eq (c := c) hu (by omega)
          have n1' : IntKind.i64.wrap (at_ + (i : Int)) = at_ + i := wrap64 (by omega) (by omega)
          have n2' : IntKind.i64.wrap (at_ + (i : Int) + 1) = at_ + i + 1 := wrap64 (by omega) (by omega)
          have n3' : (at_ + (i : Int) + 1 = 0) = False := by simp; omega
          have eU := cUnfold ((u + c.toNat * 128 ^ i : Nat) : Int) (by omega) (by omega)
          have hg1 : (getL b at_).1 = unfoldN ((u + c.toNat * 128 ^ i : Nat) : Int) := by rw [hg]
          have hg2 : (getL b at_).2.1 = at_ + i + 1 := by rw [hg]; show at_ + ((i + 1 : Nat) : Int) = _; omega
          have hg3 : (getL b at_).2.2 = 0 := by rw [hg]
          rw [hg1, hg2, hg3]
          have ec : decide (c = 0) = true ∧ (0 < (i : Int)) = False ∨ decide (c = 0) = false := by
            by_cases h : c = 0
            · exact .inl ⟨by simp [h], by simp; omega⟩
            · exact .inr (by simp [h])
          by_cases hi9' : i = 9
          · have ei : decide ((i : Int) = 9) = true := by simp; omega
            have h1c : ¬ 1 < c := hA2 (by omega)
            rcases ec with ⟨ec, ei0⟩ | ec
            · simp (maxSteps := 10000000) (maxDischargeDepth := 30) only [e1, e7, e8, e21, e22, e23, ea, c1, ew, ei, hB, h1c, ec, ei0, a2, e7i, e70, a3, a4, n1', n2', n3', eU, k1, go_sem, Nat.reduceEqDiff, ↓reduceIte, Nat.reduceAdd, Nat.reduceMul, Nat.reduceLeDiff, Nat.reduceLT, reduceCtorEq, Int.reduceToNat, Int.reduceLE, Int.reduceLT, Int.reduceEq, Int.reduceNeg, Int.reduceNe, Int.reducePow, Nat.reducePow, Nat.reduceSub, IntKind.bits]
            · simp (maxSteps := 10000000) (maxDischargeDepth := 30) only [e1, e7, e8, e21, e22, e23, ea, c1, ew, ei, hB, h1c, ec, a2, e7i, e70, a3, a4, n1', n2', n3', eU, k1, go_sem, Nat.reduceEqDiff, ↓reduceIte, Nat.reduceAdd, Nat.reduceMul, Nat.reduceLeDiff, Nat.reduceLT, reduceCtorEq, Int.reduceToNat, Int.reduceLE, Int.reduceLT, Int.reduceEq, Int.reduceNeg, Int.reduceNe, Int.reducePow, Nat.reducePow, Nat.reduceSub, IntKind.bits]
          · have ei : decide ((i : Int) = 9) = false := by simp; omega
            rcases ec with ⟨ec, ei0⟩ | ec
            · simp (maxSteps := 10000000) (maxDischargeDepth := 30) only [e1, e7, e8, e21, e22, e23, ea, c1, ew, ei, hB, ec, ei0, a2, e7i, e70, a3, a4, n1', n2', n3', eU, k1, go_sem, Nat.reduceEqDiff, ↓reduceIte, Nat.reduceAdd, Nat.reduceMul, Nat.reduceLeDiff, Nat.reduceLT, reduceCtorEq, Int.reduceToNat, Int.reduceLE, Int.reduceLT, Int.reduceEq, Int.reduceNeg, Int.reduceNe, Int.reducePow, Nat.reducePow, Nat.reduceSub, IntKind.bits]
            · simp (maxSteps := 10000000) (maxDischargeDepth := 30) only [e1, e7, e8, e21, e22, e23, ea, c1, ew, ei, hB, ec, a2, e7i, e70, a3, a4, n1', n2', n3', eU, k1, go_sem, Nat.reduceEqDiff, ↓reduceIte, Nat.reduceAdd, Nat.reduceMul, Nat.reduceLeDiff, Nat.reduceLT, reduceCtorEq, Int.reduceToNat, Int.reduceLE, Int.reduceLT, Int.reduceEq, Int.reduceNeg, Int.reduceNe, Int.reducePow, Nat.reducePow, Nat.reduceSub, IntKind.bits]
    · have c1 : ¬ (i : Int) < l.length := by omega
      obtain rfl : i = l.length := by omega
      rw [List.drop_length] at hsc
      simp only [scan] at hsc
      rw [hsc] at hg
      simp (maxSteps := 10000000) (maxDischargeDepth := 30) only [e1, e7, e8, e21, e22, e23, c1, hg, k1, go_sem, Nat.reduceEqDiff, ↓reduceIte, Nat.reduceAdd, Nat.reduceMul, Nat.reduceLeDiff, Nat.reduceLT, reduceCtorEq, Int.reduceToNat, Int.reduceLE, Int.reduceLT, Int.reduceEq, Int.reduceNeg, Int.reduceNe, Int.reducePow, Nat.reducePow, Nat.reduceSub, IntKind.bits]
end Go.LM
