import Derived.Test.YtpmpdidgbbgeeaaLmB6
namespace Go.LM
theorem wrap64 {n : Int} (h1 : -9223372036854775808 ≤ n) (h2 : n < 9223372036854775808) : IntKind.i64.wrap n = n := by
  simp [IntKind.wrap, IntKind.bits, IntKind.signed]; omega
theorem wrapU64M {n : Int} : IntKind.u64.wrap n = n % 18446744073709551616 := by
  simp [IntKind.wrap, IntKind.bits, IntKind.signed]
abbrev ints (o : Option (Nat × Nat)) (l : List Int) : LV := mkS o 1 (l.map (LV.int .i64))
theorem int_at {l : List Int} {i : Nat} {n : Int} (h : l[i]? = some n) : iaS (l.map (LV.int .i64)) (i : Int) = some (.cptr (.int .i64 n)) := iaS_map (Int.natCast_nonneg i) (by simpa using h)
theorem lt_of_get {h : H} {b : Nat} {B : Box} (hb : h.get b = some B) : b < h.len := (List.getElem?_eq_some_iff.1 hb).1
end Go.LM
