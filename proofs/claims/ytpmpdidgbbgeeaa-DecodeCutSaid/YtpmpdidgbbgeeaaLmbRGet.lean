import Derived.Test.YtpmpdidgbbgeeaaLmTrbR3
import Derived.Test.YtpmpdidgbbgeeaaLmbChainGet
namespace Go.LM
open Go.Proofs
set_option maxRecDepth 4000
set_option maxHeartbeats 2000000
set_option linter.unusedSimpArgs false

def zBox : List LV := [.int .i64 0, .int .i64 0, .int .i64 0]
def RI (b : List Int) (o : Option (Nat × Nat)) (at_ : Int) (h0 : H) (s : S) (h : H) : Prop :=
  s 0 = byts o b ∧ s 1 = .int .i64 at_ ∧ s 4 = .ptr h0.len 0 ∧ Keep (h0.alloc zBox) h ∧ WF h
def R1 (b l : List Int) (o : Option (Nat × Nat)) (at_ : Int) (h0 : H) (n : Nat) (s : S) (h : H) : Prop :=
  RI b o at_ h0 s h ∧ s 5 = .int .i64 n ∧ n ≤ 10 ∧ n ≤ l.length ∧ ∀ k, k < n → ∀ c, l[k]? = some c → 127 < c
def R2 (b l : List Int) (o : Option (Nat × Nat)) (at_ : Int) (h0 : H) (n : Nat) (j : Nat) (s : S) (h : H) : Prop :=
  RI b o at_ h0 s h ∧ s 5 = .int .i64 n ∧ j ≤ n + 1 ∧ s 7 = .int .i64 ((j : Int) - 1) ∧ s 6 = .int .u64 ((valD ((l.take (n + 1)).drop j) % 18446744073709551616 : Nat) : Int)
def R3 (b l c : List Int) (o o8 : Option (Nat × Nat)) (at_ : Int) (h0 : H) (n : Nat) (u : Nat) (j : Nat) (s : S) (h : H) : Prop :=
  RI b o at_ h0 s h ∧ s 5 = .int .i64 n ∧ s 6 = .int .u64 (u : Int) ∧ s 8 = byts o8 c ∧ s 9 = .int .i64 j ∧ j ≤ n + 1 ∧ ∀ k, k < j → c[k]? = l[k]?
end Go.LM
