import Derived.Test.YtgbhkmgmpodnkaaLmTrcRc
import Derived.Test.YtgbhkmgmpodnkaaLmB13
import Derived.Test.YtgbhkmgmpodnkaaLmcD0
namespace Go.LM
open Go.Proofs
set_option maxRecDepth 8000
set_option maxHeartbeats 4000000
set_option linter.unusedSimpArgs false
abbrev pr (a b : Int) : LV := .agg [.int .i64 a, .int .i64 b]
theorem awAwake32 (h : H) : runI Try.prog TA 34 [] h = some (.bool true, h) := runI_known rfl
/-! ### piles that are none -/
/-- A pile that is none, or has no order. -/
def NoPile (v : LV) (h : H) : Prop := v = .nilp ∨ ∃ b, v = .ptr b 0 ∧ h.get b = some ⟨false, [.nilp]⟩
theorem NoPile.keep {v : LV} {h h' : H} (n : NoPile v h) (k : Keep h h') : NoPile v h' := by
  rcases n with h1 | ⟨b, h1, h2⟩
  · exact .inl h1
  · exact .inr ⟨b, h1, (k.get (lt_of_get h2)).trans h2⟩
end Go.LM
