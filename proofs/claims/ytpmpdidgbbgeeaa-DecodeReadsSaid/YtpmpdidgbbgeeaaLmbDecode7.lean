import Derived.Test.YtpmpdidgbbgeeaaLmTrbR1
import Derived.Test.YtpmpdidgbbgeeaaLmbDecode6
namespace Go.LM
open Go.Proofs
set_option maxRecDepth 8000
set_option maxHeartbeats 8000000
set_option linter.unusedSimpArgs false
theorem okJ_mono {m n : Nat} {j : PlainJ} (h : m ≤ n) (o : okJ m j) : okJ n j := by
  obtain ⟨h1, h2, h3, h4, h5, h6, h7⟩ := o
  refine ⟨h1, by omega, h3, by omega, fun x hx => ?_, by omega, h7⟩
  obtain ⟨a, b, c, d⟩ := h5 x hx
  exact ⟨by omega, by omega, c, d⟩
theorem okZ : okJR jobZ := by
  refine ⟨?_, by simp [jobZ, JobR.plain], by simp [jobZ, JobR.plain], by simp [jobZ, JobR.plain], by simp [jobZ, JobR.plain], by simp [jobZ, JobR.plain], by simp [jobZ, JobR.plain]⟩
  intro n hn
  simp [jobZ, JobR.plain, GeomR.nums, GeomR.numsA, GeomR.numsB] at hn
  subst hn
  exact ⟨by omega, by omega⟩
end Go.LM
