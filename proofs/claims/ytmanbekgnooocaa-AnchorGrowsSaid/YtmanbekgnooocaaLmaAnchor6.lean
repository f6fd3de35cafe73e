import Derived.Test.YtmanbekgnooocaaLmTraR1
import Derived.Test.YtmanbekgnooocaaLmaAnchor5
namespace Go.LM
open Go.Proofs
set_option maxRecDepth 8000
set_option maxHeartbeats 8000000
set_option linter.unusedSimpArgs false

theorem IsMap.up {p : Nat} {l : List ItemR} {fl : List FloatR} {h : H} (m : IsMap p l fl h) : IsMap p l fl h.up := by
  obtain ⟨o, o1, o2, o3, g⟩ := m.get
  exact ⟨o, o1, o2, o3, by rw [get_up]; exact g⟩
end Go.LM
