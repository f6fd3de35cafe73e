import Derived.Test.YtpmpdidgbbgeeaaLmTrbR2
import Derived.Test.YtpmpdidgbbgeeaaLmbEncode4
namespace Go.LM
open Go.Proofs
set_option maxRecDepth 8000
set_option maxHeartbeats 4000000
set_option linter.unusedSimpArgs false

theorem cEnMagic (h : H) : runI Try.prog TA 76 [] h = some (.str ⟨#[84, 89, 77, 49]⟩, hp Try.prog TA 76 [] h) := by
  refine pure_of rfl res76 rfl ?_
  simp (maxSteps := 10000000) (maxDischargeDepth := 30) only [q76, r76, go_sem, Nat.reduceEqDiff, ↓reduceIte, Nat.reduceAdd, Nat.reduceMul, Nat.reduceLeDiff, Nat.reduceLT, reduceCtorEq, Int.reduceToNat, Int.reduceLE, Int.reduceLT, Int.reduceEq, Int.reduceNeg, Int.reduceNe, Nat.reduceSub, IntKind.bits]
/-- Jobs whose lists are not too long. -/
def okJR (j : JobR) : Prop := okJ 2000 j.plain
theorem okJR.g {j : JobR} (h : okJR j) : j.g.ok := h.1
theorem okJR.items {j : JobR} (h : okJR j) : j.items.length ≤ 2000 ∧ ∀ x ∈ j.items, x.ok := ⟨h.2.1, h.2.2.1⟩
theorem okJR.notes {j : JobR} (h : okJR j) : j.notes.length ≤ 2000 ∧ ∀ x ∈ j.notes, x.lines.length ≤ 2000 ∧ x.pens.length ≤ 2000 ∧ x.num := by
  obtain ⟨_, _, _, h4, h5, _, _⟩ := h
  unfold JobR.plain at h4 h5
  simp only [List.length_map] at h4
  refine ⟨h4, fun x hx => ?_⟩
  obtain ⟨a, b, c, d⟩ := h5 _ (List.mem_map.2 ⟨x, hx, rfl⟩)
  exact ⟨a, b, c, d⟩
theorem okJR.floats {j : JobR} (h : okJR j) : j.floats.length ≤ 2000 ∧ ∀ x ∈ j.floats, x.ok := ⟨h.2.2.2.2.2.1, h.2.2.2.2.2.2⟩
abbrev noteBR (x : NoteR) : List Int := noteBP x.plain
theorem notes_len {l : List NoteR} (hl : l.length ≤ 2000) (h : ∀ x ∈ l, x.lines.length ≤ 2000 ∧ x.pens.length ≤ 2000 ∧ x.num) (i : Nat) : ((l.take i).flatMap noteBR).length ≤ 100000000 := by
  have h1 := flat_len (f := noteBR) (k := 40020) (l := l.take i) (fun x hx => by
    obtain ⟨a, b, c, d⟩ := h x (List.mem_of_mem_take hx)
    have := noteBP_len (x := x.plain) (m := 2000) a b (by decide) c d
    show (noteBP x.plain).length ≤ _
    omega)
  have h2 : (l.take i).length ≤ 2000 := by rw [List.length_take]; omega
  have := Nat.mul_le_mul_left 40020 h2
  omega
theorem floats_len {l : List FloatR} (hl : l.length ≤ 2000) (h : ∀ x ∈ l, x.ok) (i : Nat) : ((l.take i).flatMap floatB).length ≤ 100000 := by
  have h1 := flat_len (f := floatB) (k := 30) (l := l.take i) (fun x hx => floatB_len (h x (List.mem_of_mem_take hx)))
  have h2 : (l.take i).length ≤ 2000 := by rw [List.length_take]; omega
  have := Nat.mul_le_mul_left 30 h2
  omega
end Go.LM
