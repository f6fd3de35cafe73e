import Derived.Test.YtmanbekgnooocaaLmTraR2
import Derived.Test.YtmanbekgnooocaaLmaAnchor3
namespace Go.LM
open Go.Proofs
set_option maxRecDepth 8000
set_option maxHeartbeats 8000000
set_option linter.unusedSimpArgs false

theorem flo_atA {fl : List FloatR} {n : Int} {f : FloatR} (h : flAt fl n = some f) : 0 ≤ n ∧ n < fl.length ∧ iaS (fl.map FloatR.e) n = some (.cptr f.e) := by
  unfold flAt at h
  split at h
  · rename_i h0
    obtain ⟨h1, -⟩ := List.getElem?_eq_some_iff.1 h
    exact ⟨h0, by omega, iaS_map h0 (by simpa using h)⟩
  · cases h
theorem flAt_none {fl : List FloatR} {n : Int} (h : flAt fl n = none) : n < 0 ∨ (fl.length : Int) ≤ n := by
  unfold flAt at h
  split at h
  · rw [List.getElem?_eq_none_iff] at h; omega
  · omega
theorem aStep_k {fl : List FloatR} {x : ItemR} {s : Cnt} (h : ¬ x.k = 6) : aStep fl x s = s := by unfold aStep; rw [if_neg h]
theorem aStep_n {fl : List FloatR} {x : ItemR} {s : Cnt} (h : flAt fl x.n = none) : aStep fl x s = s := by
  unfold aStep; rw [h]; simp
theorem aStep_c {fl : List FloatR} {x : ItemR} {s : Cnt} {f : FloatR} (h : flAt fl x.n = some f) (hc : ¬ (0 ≤ f.c ∧ f.c < 3)) : aStep fl x s = s := by
  unfold aStep; rw [h]; simp only [if_neg hc, ite_self]
theorem aStep_i {fl : List FloatR} {x : ItemR} {s : Cnt} {f : FloatR} (hk : x.k = 6) (h : flAt fl x.n = some f) (hc : 0 ≤ f.c ∧ f.c < 3) : aStep fl x s = s.inc f.c := by
  unfold aStep; rw [if_pos hk, h]; simp only [if_pos hc]
end Go.LM
