import Derived.Test.YtgbhkmgmpodnkaaLmTrcR1
import Derived.Test.YtgbhkmgmpodnkaaLmcPara4
namespace Go.LM
open Go.Proofs
set_option maxRecDepth 8000
set_option maxHeartbeats 8000000
set_option linter.unusedSimpArgs false

def Bare1 (x : ItemR) : Prop := ¬ (x.k = 1 ∧ x.f ≠ 0)
theorem club_bare {l : List ItemR} {b : Int} (h : ∀ x ∈ l, Bare1 x) : clubP l b = false ∧ widowP l b = false := by
  constructor
  · unfold clubP isF
    rcases aheadP_range (l := l) (b := b) l.length with e | ⟨j, x, e, -, -, hx, hk⟩
    · rw [e, itAt_end (.inl (by omega))]
    · have hi : itAt l (j : Int) = some x := by unfold itAt; rw [if_pos (Int.natCast_nonneg j), Int.toNat_natCast]; exact hx
      rw [e, hi]
      have := h x (List.mem_of_getElem? hx)
      unfold Bare1 at this
      simp only [decide_eq_false_iff_not]
      intro q
      exact this ⟨hk, by omega⟩
  · unfold widowP isF
    rcases behindP_range (l := l) b with e | ⟨j, x, e, hx, hk⟩
    · rw [e, itAt_end (.inl (by omega))]
    · have hi : itAt l (j : Int) = some x := by unfold itAt; rw [if_pos (Int.natCast_nonneg j), Int.toNat_natCast]; exact hx
      rw [e, hi]
      have := h x (List.mem_of_getElem? hx)
      unfold Bare1 at this
      simp only [decide_eq_false_iff_not]
      intro q
      exact this ⟨hk, by omega⟩
end Go.LM
