import Derived.Test.YtpmpdidgbbgeeaaLmB11
namespace Go.LM
/-! ### pages, plainly -/
structure PutR where
  k : Int
  n : Int
  l : Int
  y : Int
  h : Int
  deriving DecidableEq
def PutR.e (p : PutR) : LV := .agg [.int .i64 p.k, .int .i64 p.n, .int .i64 p.l, .int .i64 p.y, .int .i64 p.h]
def PutR.nums (p : PutR) : List Int := [p.k, p.n, p.l, p.y, p.h]
abbrev PutR.ok (p : PutR) : Prop := ∀ x ∈ p.nums, I64 x
structure LaneR where
  x : Int
  o : Option (Nat × Nat)
  puts : List PutR
def LaneR.e (x : LaneR) : LV := .agg [.int .i64 x.x, mkS x.o 5 (x.puts.map PutR.e)]
abbrev LaneR.ok (x : LaneR) : Prop := I64 x.x ∧ x.puts.length ≤ 100 ∧ ∀ p ∈ x.puts, p.ok
structure PageR where
  top : Int
  first : Int
  last : Int
  o : Option (Nat × Nat)
  lanes : List LaneR
def PageR.e (x : PageR) : LV := .agg [mkS x.o 2 (x.lanes.map LaneR.e), .int .i64 x.top, .int .i64 x.first, .int .i64 x.last]
abbrev PageR.ok (x : PageR) : Prop := (∀ n ∈ [x.top, x.first, x.last], I64 n) ∧ x.lanes.length ≤ 20 ∧ ∀ p ∈ x.lanes, p.ok
def putB (p : PutR) : List Int := chns p.nums
def laneB (x : LaneR) : List Int := chns [x.x] ++ many putB x.puts
def pageB (x : PageR) : List Int := chns [x.top, x.first, x.last] ++ many laneB x.lanes
def pagesB (l : List PageR) : List Int := [84, 89, 80, 49] ++ many pageB l
theorem putB_len {p : PutR} (h : p.ok) : (putB p).length ≤ 50 := by
  have := chns_len (l := p.nums) h; simpa [putB, PutR.nums] using this
theorem many_len {α : Type} {f : α → List Int} {l : List α} {k : Nat} (hl : I64 l.length) (h : ∀ x ∈ l, (f x).length ≤ k) : (many f l).length ≤ 10 + k * l.length := by
  unfold many
  rw [List.length_append]
  have := chn_len hl
  have := flat_len h
  omega
theorem laneB_len {x : LaneR} (h : x.ok) : (laneB x).length ≤ 5020 := by
  unfold laneB
  rw [List.length_append]
  have h1 := chns_len (l := [x.x]) (by simpa using h.1)
  have h2 := many_len (f := putB) (l := x.puts) (k := 50) ⟨by omega, by have := h.2.1; omega⟩ (fun p hp => putB_len (h.2.2 p hp))
  have := h.2.1
  simp at h1
  omega
theorem pageB_len {x : PageR} (h : x.ok) : (pageB x).length ≤ 100440 := by
  unfold pageB
  rw [List.length_append]
  have h1 := chns_len (l := [x.top, x.first, x.last]) h.1
  have h2 := many_len (f := laneB) (l := x.lanes) (k := 5020) ⟨by omega, by have := h.2.1; omega⟩ (fun p hp => laneB_len (h.2.2 p hp))
  have := h.2.1
  simp only [List.length_cons, List.length_nil] at h1
  omega
theorem pagesB_len {l : List PageR} (hl : l.length ≤ 40) (h : ∀ x ∈ l, x.ok) : (pagesB l).length ≤ 4017614 := by
  unfold pagesB
  rw [List.length_append]
  have h2 := many_len (f := pageB) (l := l) (k := 100440) ⟨by omega, by omega⟩ (fun p hp => pageB_len (h p hp))
  simp only [List.length_cons, List.length_nil]
  omega
theorem many_take0 {α : Type} (f : α → List Int) (l : List α) : chn l.length ++ (l.take 0).flatMap f = chn l.length := by simp
end Go.LM
