import Derived.Test.YtpmpdidgbbgeeaaLmB13
namespace Go.LM
variable {P : Program} {T : Nat → Option LV}
theorem ro_vcall {k : List Fk} {os : List RO} {d : Option Nat} {s : S} {h : H} {Q : X × S × H → Prop} {f : Nat} {args : List LV} {J : LV → H → Prop} (hr : ∃ v h', runI P T f args h = some (v, h') ∧ J v h')
    (hk : ∀ v hh, J v hh → Ro P T k (opsK P (runI P T) os d s (some (v, hh))) Q) : Ro P T k (opsK P (runI P T) os d s (runI P T f args h)) Q := by
  obtain ⟨v, h', e, hj⟩ := hr
  rw [e]; exact hk v h' hj
theorem rw_vcall {k : List Fk} {ow : List RW} {d : Option Nat} {s : S} {h : H} {Q : X × S × H → Prop} {f : Nat} {args : List LV} {J : LV → H → Prop} (hr : ∃ v h', runI P T f args h = some (v, h') ∧ J v h')
    (hk : ∀ v hh, J v hh → Ro P T k (opsKW P (runI P T) ow d s (some (v, hh))) Q) : Ro P T k (opsKW P (runI P T) ow d s (runI P T f args h)) Q := by
  obtain ⟨v, h', e, hj⟩ := hr
  rw [e]; exact hk v h' hj
/-! ### what is written or read, plainly -/
structure OpR where
  k : Int
  s : ByteArray
  n : Int
  b : Bool
  o : Option (Nat × Nat)
  l : List Int
def OpR.e (x : OpR) : LV := .agg [.int .i64 x.k, .str x.s, .int .i64 x.n, .bool x.b, ints x.o x.l]
abbrev OpR.num (x : OpR) : Prop := I64 x.n ∧ ∀ n ∈ x.l, I64 n
def OpR.few (x : OpR) : Prop := x.s.size ≤ 100 ∧ x.l.length ≤ 100
def opB (x : OpR) : List Int := if x.k = 0 then strB x.s else if x.k = 1 then chn x.n else if x.k = 2 then [if x.b = true then 1 else 0] else if x.k = 3 then many chn x.l else []
theorem strB_len (s : ByteArray) : (strB s).length = s.size := by simp [strB]
theorem opB_len {x : OpR} (h : x.num) (f : x.few) : (opB x).length ≤ 1010 := by
  unfold opB
  have h1 := f.1
  have h2 := f.2
  split
  · rw [strB_len]; omega
  split
  · have := chn_len h.1; omega
  split
  · simp
  split
  · have := many_len (f := chn) (l := x.l) (k := 10) ⟨by omega, by omega⟩ (fun p hp => chn_len (h.2 p hp))
    omega
  · simp
theorem ops_len {l : List OpR} (hn : ∀ x ∈ l, x.num) (hf : ∀ x ∈ l, x.few) (hl : l.length ≤ 60) (i : Nat) : ((l.take i).flatMap opB).length ≤ 100000 := by
  have h1 := flat_len (f := opB) (k := 1010) (l := l.take i) (fun x hx => opB_len (hn x (List.mem_of_mem_take hx)) (hf x (List.mem_of_mem_take hx)))
  have h3 : (l.take i).length ≤ 60 := by rw [List.length_take]; omega
  have := Nat.mul_le_mul_left 1010 h3
  omega
theorem ops_len' {l : List OpR} (hn : ∀ x ∈ l, x.num) (hf : ∀ x ∈ l, x.few) (hl : l.length ≤ 60) : (l.flatMap opB).length ≤ 100000 := by
  have := ops_len hn hf hl l.length
  rwa [List.take_length] at this
end Go.LM
