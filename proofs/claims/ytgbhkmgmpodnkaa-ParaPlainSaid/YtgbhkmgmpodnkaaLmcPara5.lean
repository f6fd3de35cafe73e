import Derived.Test.YtgbhkmgmpodnkaaLmTrcR1
import Derived.Test.YtgbhkmgmpodnkaaLmcPara4
namespace Go.LM
open Go.Proofs
set_option maxRecDepth 8000
set_option maxHeartbeats 8000000
set_option linter.unusedSimpArgs false

def IPT (o o2 : Option (Nat × Nat)) (l : List ItemR) (g : GeomR) (b : Int) (P : ItemR → Prop) (u : Nat) (i : Nat) (s : S) (hh : H) : Prop :=
  s 1 = mkS o 7 (l.map ItemR.e) ∧ s 2 = .int .i64 b ∧ s 3 = .ptr u 0 ∧ s 7 = .int .i64 i ∧ i ≤ l.length ∧ (∀ x ∈ l.take i, P x) ∧ hh.get u = some ⟨false, [.int .i64 g.c0, .int .i64 g.c1, .int .i64 g.c2, .int .i64 g.c3, .int .i64 g.c4, .int .i64 g.c5, .int .i64 g.c6, .int .i64 g.c7, .int .i64 g.c8, .int .i64 g.c9, .int .i64 g.c10, .int .i64 g.c11, .int .i64 g.c12, .int .i64 g.c13, .int .i64 g.c14, .int .i64 g.c15, .int .i64 g.c16, .int .i64 g.c17, .bool g.bal]⟩ ∧ WF hh
def Bare1 (x : ItemR) : Prop := ¬ (x.k = 1 ∧ x.f ≠ 0)
theorem club_bare {l : List ItemR} {b : Int} (h : ∀ x ∈ l, Bare1 x) : clubP l b = false ∧ widowP l b = false := by
  constructor
  · unfold clubP isF
    rcases aheadP_range (l := l) (b := b) l.length with e | ⟨j, x, e, -, -, hx, hk⟩
    · rw [e, itAt_end (.inl (by omega))]
    · have hi : itAt l (j : Int) = some x := by unfold itAt; rw [if_pos (Int.natCast_nonneg j), Int.toNat_natCast]; exact hx
      rw [e, hi]
      have := h x (List.mem_of_getElem? hx)
      unfold Bare1 at this
      simp only [decide_eq_false_iff_not]
      intro q
      exact this ⟨hk, by omega⟩
  · unfold widowP isF
    rcases behindP_range (l := l) b with e | ⟨j, x, e, hx, hk⟩
    · rw [e, itAt_end (.inl (by omega))]
    · have hi : itAt l (j : Int) = some x := by unfold itAt; rw [if_pos (Int.natCast_nonneg j), Int.toNat_natCast]; exact hx
      rw [e, hi]
      have := h x (List.mem_of_getElem? hx)
      unfold Bare1 at this
      simp only [decide_eq_false_iff_not]
      intro q
      exact this ⟨hk, by omega⟩
end Go.LM
