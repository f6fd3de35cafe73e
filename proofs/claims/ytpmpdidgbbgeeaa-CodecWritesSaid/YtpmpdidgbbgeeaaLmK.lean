import Derived.Test.YtpmpdidgbbgeeaaLmJ
namespace Go.LM
variable {P : Program} {G : Gh} {w : World}

theorem run_app_room {t u ty e : TypeId} {d : TypeDesc} {sz n sLen sCap : Nat} {a : Addr} {x : Value} {news : Array Value} (ht : P.underlying t = some (.slice e)) (hu : P.underlying u = some d)
    (hd : d = .string ∨ ∃ q, d = .slice q) (hs : sizeT P e = some sz) (hn : (Builtin.lenOf x).run P w = .ok n w) (hf : (Builtin.firstCells sz n x).run P w = .ok news w) (hle : sLen + n ≤ sCap) :
    (Builtin.append_ #[t, u] ty #[.slice (some a) sLen sCap, x]).run P w =
      ((storeCells (a.add (sLen * sz)) news.toList).run P w).andThen fun _ w' => .ok (.slice (some a) (sLen + n) sCap) w' := by
  rcases hd with rfl | ⟨q, rfl⟩ <;>
    (simp [Builtin.append_, run_und ht, run_und hu, run_size hs, hn, hle, hf])

theorem run_app_grow {t u ty e : TypeId} {d : TypeDesc} {sz n sLen sCap by_ : Nat} {base : Option Addr} {x z : Value} {olds news : Array Value} (ht : P.underlying t = some (.slice e)) (hu : P.underlying u = some d)
    (hd : d = .string ∨ ∃ q, d = .slice q) (hs : sizeT P e = some sz) (hb : bytesT P e = some by_) (hzv : ∀ w' : World, (zeroValue e).run P w' = .ok z w') (hn : (Builtin.lenOf x).run P w = .ok n w) (hf : (Builtin.firstCells sz n x).run P w.drew = .ok news w.drew)
    (ho : (Builtin.firstCells sz sLen (.slice base sLen sCap)).run P w.drew = .ok olds w.drew) (hlt : sCap < sLen + n) (hby : 0 < by_) (hfit : (2 * (sLen + n)) * by_ ≤ 281474976710656) :
    (Builtin.append_ #[t, u] ty #[.slice base sLen sCap, x]).run P w =
      .ok (.slice (some ⟨w.heap.size, 0, none⟩) (sLen + n) (grownCap w (sLen + n) sCap e))
        (w.drew.alloc (.cells (olds ++ news ++ Builtin.zeroCells z.cells (grownCap w (sLen + n) sCap e - (sLen + n))) e)) := by
  have hle : ¬ sLen + n ≤ sCap := by omega
  have h48 : ¬ (281474976710656 < Builtin.nextslicecap (sLen + n) sCap * by_) := by
    have h1 := Nat.mul_le_mul_right by_ (nextslicecap_le hlt); omega
  have hbt : ∀ w' : World, (typeInfo e).run P w' = .ok ((P.info? e).getD default) w' ∧ ((P.info? e).getD default).bytes = by_ := by
    intro w'
    unfold bytesT at hb
    cases hi : P.info? e with
    | none => rw [hi] at hb; cases hb
    | some i => rw [hi] at hb; cases hb; simp [typeInfo, hi]
  have hne : ¬ by_ = 0 := by omega
  have hti := (hbt w).1
  have hti2 := (hbt w.drew).1
  have hby2 := (hbt w).2
  have hzv2 := hzv w.drew
  rcases hd with rfl | ⟨q, rfl⟩ <;>
    (simp [Builtin.append_, run_und ht, run_und hu, run_size hs, hn, hle, hti, hti2, hby2, hne, h48, Question.forced, hf, ho, hzv2, newRow, grownCap])

end Go.LM
