import Derived.Test.YtpmpdidgbbgeeaaLmTrbR1
import Derived.Test.YtpmpdidgbbgeeaaLmTrbR2
import Derived.Test.YtpmpdidgbbgeeaaLmbEncode3
namespace Go.LM
open Go.Proofs
set_option maxRecDepth 8000
set_option maxHeartbeats 4000000
set_option linter.unusedSimpArgs false

theorem items_len {l : List ItemR} (hi : ∀ x ∈ l, x.ok) (i : Nat) : ((l.take i).flatMap itemB).length ≤ 50 * l.length := by
  have h1 := flat_len (f := itemB) (k := 50) (l := l.take i) (fun x hx => itemB_len (hi x (List.mem_of_mem_take hx)))
  have h2 : (l.take i).length ≤ l.length := by rw [List.length_take]; omega
  have := Nat.mul_le_mul_left 50 h2
  omega
theorem bareL_take {l : List ItemR} {i : Nat} {x : ItemR} (hx : l[i]? = some x) (h : bareL (l.take i) = true) (hb : bareR x = true) : bareL (l.take (i + 1)) = true := by
  rw [take_succ hx]; unfold bareL at *; rw [List.all_append, h]; simp [hb]
theorem bareL_not {l : List ItemR} {i : Nat} {x : ItemR} (hx : l[i]? = some x) (hb : bareR x = false) : bareL l = false := by
  unfold bareL
  rw [List.all_eq_false]
  exact ⟨x, List.mem_of_getElem? hx, by simp [hb]⟩
end Go.LM
