import Derived.Calls
import Derived.Scope
import Derived.Orders
import Derived.Laws.Sem
namespace Go.LM

inductive LV where
  | undef
  | bool (b : Bool)
  | int (k : IntKind) (n : Int)
  | str (s : ByteArray)
  | nilp
  | ptr (b off : Nat)
  | cptr (v : LV)
  | nils
  | sl (r hi sz : Nat) (xs : List LV)
  | fn (f : Nat) (first caps : List LV)
  | nilf
  | nili
  | iface (t : Nat) (v : LV)
  | agg (cs : List LV)
  | tup (vs : List LV)
  deriving Inhabited

def LV.cells : LV → List LV
  | .agg cs => cs
  | v => [v]

/-- A variable in memory: whether it is only read from now on, and its cells. -/
structure Box where
  ro : Bool
  cells : List LV

/-- The logical memory: variables; how far each row has been filled; below which numbers nothing is written. -/
structure H where
  box : List Box
  row : List Nat
  lob : Nat
  lor : Nat

structure Row where
  pb : Nat
  pos : Nat
  fin : Nat
  cap : Nat

/-- Where the logical things lie. -/
structure Gh where
  box : Nat → Option Nat
  row : Nat → Option Row
  prot : Nat → Nat → Prop

inductive VR (G : Gh) (w : World) : LV → Value → Prop
  | undef (v : Value) : VR G w .undef v
  | bool (b : Bool) : VR G w (.bool b) (.bool b)
  | int (k : IntKind) (n : Int) : VR G w (.int k n) (.int k n)
  | str (s : ByteArray) : VR G w (.str s) (.string s)
  | nilp : VR G w .nilp (.pointer none)
  | ptr {b off pb : Nat} (h : G.box b = some pb) : VR G w (.ptr b off) (.pointer (some ⟨pb, off, none⟩))
  | cptr {v : LV} {blk off : Nat} (u : Nat → Value)
      (hc : ∀ i, i < v.cells.length → w.cell? ⟨blk, off + i, none⟩ = some (u i) ∧ G.prot blk (off + i))
      (hv : ∀ i (h : i < v.cells.length), VR G w v.cells[i] (u i)) : VR G w (.cptr v) (.pointer (some ⟨blk, off, none⟩))
  | nils : VR G w .nils (.slice none 0 0)
  | sl {r hi sz : Nat} {xs : List LV} {blk off c : Nat} (u : Nat → Nat → Value) (hcap : xs.length ≤ c)
      (hz : ∀ i (h : i < xs.length), xs[i].cells.length = sz)
      (hc : ∀ i, i < xs.length → ∀ j, j < sz → w.cell? ⟨blk, off + i * sz + j, none⟩ = some (u i j) ∧ G.prot blk (off + i * sz + j) ∧ (u i j).oneCell' = true)
      (hv : ∀ i (h : i < xs.length) j (hj : j < xs[i].cells.length), VR G w xs[i].cells[j] (u i j))
      (ht : r ≠ 0 → ∃ R, G.row r = some R ∧ hi ≤ R.pos ∧ (hi = R.pos → blk = R.pb ∧ off + xs.length * sz = R.fin ∧ off + c * sz = R.cap)) :
      VR G w (.sl r hi sz xs) (.slice (some ⟨blk, off, none⟩) xs.length c)
  | sle (hi sz : Nat) (a : Addr) (c : Nat) : VR G w (.sl 0 hi sz []) (.slice (some a) 0 c)
  | fn {f : Nat} {first caps : List LV} {fa ca : Array Value} (h1 : first.length = fa.size) (h2 : caps.length = ca.size)
      (v1 : ∀ i (h : i < first.length) (h' : i < fa.size), VR G w first[i] fa[i])
      (v2 : ∀ i (h : i < caps.length) (h' : i < ca.size), VR G w caps[i] ca[i]) : VR G w (.fn f first caps) (.func (.func f) fa ca)
  | nilf : VR G w .nilf .nilFunc
  | nili : VR G w .nili .nilIface
  | iface {t : Nat} {v : LV} {u : Value} (h : VR G w v u) : VR G w (.iface t v) (.iface t u)
  | agg {cs : List LV} {a : Array Value} (hl : cs.length = a.size) (h : ∀ i (h1 : i < cs.length) (h2 : i < a.size), VR G w cs[i] a[i]) :
      VR G w (.agg cs) (.agg a)
  | tup {cs : List LV} {a : Array Value} (hl : cs.length = a.size) (h : ∀ i (h1 : i < cs.length) (h2 : i < a.size), VR G w cs[i] a[i]) :
      VR G w (.tup cs) (.tuple a)

/-- Lists of values. -/
def VRs (G : Gh) (w : World) (l : List LV) (a : List Value) : Prop :=
  l.length = a.length ∧ ∀ i (h1 : i < l.length) (h2 : i < a.length), VR G w l[i] a[i]

/-- What is kept from one state to a later one. -/
structure Ext (G : Gh) (w : World) (G' : Gh) (w' : World) : Prop where
  prot : ∀ b o, G.prot b o → G'.prot b o
  cell : ∀ b o, G.prot b o → w'.cell? ⟨b, o, none⟩ = w.cell? ⟨b, o, none⟩
  box : ∀ b pb, G.box b = some pb → G'.box b = some pb
  row : ∀ r R, G.row r = some R → ∃ R', G'.row r = some R' ∧ R.pos ≤ R'.pos ∧ (R'.pos = R.pos → R' = R)

theorem Ext.refl (G : Gh) (w : World) : Ext G w G w := ⟨fun _ _ h => h, fun _ _ _ => rfl, fun _ _ h => h, fun _ R h => ⟨R, h, Nat.le_refl _, fun _ => rfl⟩⟩

theorem Ext.trans {G G1 G2 : Gh} {w w1 w2 : World} (h : Ext G w G1 w1) (h' : Ext G1 w1 G2 w2) : Ext G w G2 w2 := by
  refine ⟨fun b o p => h'.prot b o (h.prot b o p), fun b o p => (h'.cell b o (h.prot b o p)).trans (h.cell b o p), fun b pb p => h'.box b pb (h.box b pb p), ?_⟩
  intro r R hr
  obtain ⟨R1, h1, l1, e1⟩ := h.row r R hr
  obtain ⟨R2, h2, l2, e2⟩ := h'.row r R1 h1
  refine ⟨R2, h2, Nat.le_trans l1 l2, fun e => ?_⟩
  have : R1.pos = R.pos := by omega
  rw [e2 (by omega), e1 this]

theorem VR.mono {G G' : Gh} {w w' : World} (hx : Ext G w G' w') {v : LV} {u : Value} (h : VR G w v u) : VR G' w' v u := by
  induction h with
  | undef v => exact .undef v
  | bool b => exact .bool b
  | int k n => exact .int k n
  | str s => exact .str s
  | nilp => exact .nilp
  | ptr h => exact .ptr (hx.box _ _ h)
  | cptr u hc hv ih => exact .cptr u (fun i hi => ⟨(hx.cell _ _ (hc i hi).2).trans (hc i hi).1, hx.prot _ _ (hc i hi).2⟩) ih
  | nils => exact .nils
  | sl u hcap hz hc hv ht ih =>
    refine .sl u hcap hz (fun i hi j hj => ⟨(hx.cell _ _ (hc i hi j hj).2.1).trans (hc i hi j hj).1, hx.prot _ _ (hc i hi j hj).2.1, (hc i hi j hj).2.2⟩) ih ?_
    intro hr
    obtain ⟨R, h1, h2, h3⟩ := ht hr
    obtain ⟨R', h1', l, e⟩ := hx.row _ R h1
    refine ⟨R', h1', by omega, fun he => ?_⟩
    have hp : R'.pos = R.pos := by omega
    rw [e hp]
    exact h3 (by omega)
  | sle hi sz a c => exact .sle hi sz a c
  | fn h1 h2 v1 v2 ih1 ih2 => exact .fn h1 h2 ih1 ih2
  | nilf => exact .nilf
  | nili => exact .nili
  | iface h ih => exact .iface ih
  | agg hl h ih => exact .agg hl ih
  | tup hl h ih => exact .tup hl ih

theorem VRs.mono {G G' : Gh} {w w' : World} (hx : Ext G w G' w') {l : List LV} {a : List Value} (h : VRs G w l a) : VRs G' w' l a :=
  ⟨h.1, fun i h1 h2 => (h.2 i h1 h2).mono hx⟩

theorem VRs.nil {G : Gh} {w : World} : VRs G w [] [] := ⟨rfl, fun i h => absurd h (by simp)⟩
theorem VRs.cons {G : Gh} {w : World} {v : LV} {u : Value} {l : List LV} {a : List Value} (h : VR G w v u) (hs : VRs G w l a) : VRs G w (v :: l) (u :: a) := by
  refine ⟨by simp [hs.1], fun i h1 h2 => ?_⟩
  cases i with
  | zero => exact h
  | succ i => exact hs.2 i (by simpa using h1) (by simpa using h2)
theorem VRs.head {G : Gh} {w : World} {v : LV} {u : Value} {l : List LV} {a : List Value} (h : VRs G w (v :: l) (u :: a)) : VR G w v u := h.2 0 (by simp) (by simp)
theorem VRs.tail {G : Gh} {w : World} {v : LV} {u : Value} {l : List LV} {a : List Value} (h : VRs G w (v :: l) (u :: a)) : VRs G w l a :=
  ⟨by simpa using h.1, fun i h1 h2 => h.2 (i + 1) (by simpa using h1) (by simpa using h2)⟩
theorem VRs.get {G : Gh} {w : World} {l : List LV} {a : List Value} (h : VRs G w l a) {i : Nat} {v : LV} (hv : l[i]? = some v) : ∃ u, a[i]? = some u ∧ VR G w v u := by
  obtain ⟨hi, rfl⟩ := List.getElem?_eq_some_iff.1 hv
  have hi' : i < a.length := h.1 ▸ hi
  exact ⟨a[i], List.getElem?_eq_getElem hi', h.2 i hi hi'⟩
theorem VRs.append {G : Gh} {w : World} {l m : List LV} {a b : List Value} (h : VRs G w l a) (h' : VRs G w m b) : VRs G w (l ++ m) (a ++ b) := by
  induction l generalizing a with
  | nil =>
    obtain rfl : a = [] := by cases a with
      | nil => rfl
      | cons x a => simp [VRs] at h
    exact h'
  | cons v l ih =>
    cases a with
    | nil => simp [VRs] at h
    | cons u a => exact .cons h.head (ih h.tail)
theorem VRs.drop {G : Gh} {w : World} {l : List LV} {a : List Value} (h : VRs G w l a) (n : Nat) : VRs G w (l.drop n) (a.drop n) := by
  refine ⟨by simp [h.1], fun i h1 h2 => ?_⟩
  simp only [List.getElem_drop]
  exact h.2 _ _ _
theorem VRs.take {G : Gh} {w : World} {l : List LV} {a : List Value} (h : VRs G w l a) (n : Nat) : VRs G w (l.take n) (a.take n) := by
  refine ⟨by simp [h.1], fun i h1 h2 => ?_⟩
  simp only [List.getElem_take]
  exact h.2 _ _ _
theorem VRs.set {G : Gh} {w : World} {l : List LV} {a : List Value} (h : VRs G w l a) (n : Nat) {v : LV} {u : Value} (hv : VR G w v u) : VRs G w (l.set n v) (a.set n u) := by
  refine ⟨by simp [h.1], fun i h1 h2 => ?_⟩
  simp only [List.getElem_set]
  split
  · exact hv
  · exact h.2 _ _ _
theorem VRs.toAgg {G : Gh} {w : World} {l : List LV} {a : Array Value} (h : VRs G w l a.toList) : VR G w (.agg l) (.agg a) :=
  .agg (by simpa using h.1) (fun i h1 h2 => by have := h.2 i h1 (by simpa using h2); rwa [Array.getElem_toList] at this)
theorem VR.ofAgg {G : Gh} {w : World} {l : List LV} {a : Array Value} (h : VR G w (.agg l) (.agg a)) : VRs G w l a.toList := by
  cases h with
  | agg hl h => exact ⟨by simpa using hl, fun i h1 h2 => by simpa using h i h1 (by simpa using h2)⟩
theorem VRs.toTup {G : Gh} {w : World} {l : List LV} {a : Array Value} (h : VRs G w l a.toList) : VR G w (.tup l) (.tuple a) :=
  .tup (by simpa using h.1) (fun i h1 h2 => by have := h.2 i h1 (by simpa using h2); rwa [Array.getElem_toList] at this)
theorem VR.ofTup {G : Gh} {w : World} {l : List LV} {a : Array Value} (h : VR G w (.tup l) (.tuple a)) : VRs G w l a.toList := by
  cases h with
  | tup hl h => exact ⟨by simpa using hl, fun i h1 h2 => by simpa using h i h1 (by simpa using h2)⟩

/-- A value with which something can be done: not the one of which nothing is known. -/
def LV.known : LV → Bool
  | .undef => false
  | _ => true
/-- A value of one cell. -/
def LV.one : LV → Bool
  | .undef | .agg _ | .tup _ => false
  | _ => true

theorem VR.cells {G : Gh} {w : World} {v : LV} {u : Value} (h : VR G w v u) (hk : v.known = true) : VRs G w v.cells u.cells.toList := by
  cases h with
  | undef => cases hk
  | agg hl h => exact (VR.agg hl h).ofAgg
  | _ => exact .cons (by constructor <;> assumption) .nil

end Go.LM
